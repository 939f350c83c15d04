/- SameStore: of the program and of the reference. -/
import Derived.Test.YtdpagklgjchdgaaGreatcA2
set_option linter.unusedSectionVars false
set_option linter.all false
set_option linter.unusedVariables false
set_option linter.unusedSimpArgs false
set_option maxRecDepth 100000
namespace Go.Proofs.YtdpagklgjchdgaaGreat
open Go.Lft

theorem mail_eq (x y : Mail) : (x.uid = y.uid ∧ x.flags = y.flags ∧ x.mod = y.mod ∧ x.text = y.text) ↔ x = y := by cases x; cases y; simp
theorem tomb_eq (x y : Tomb) : (x.uid = y.uid ∧ x.mod = y.mod) ↔ x = y := by cases x; cases y; simp
theorem box_eq (x y : Box) : (x.name = y.name ∧ x.valid = y.valid ∧ x.next = y.next ∧ x.mod = y.mod ∧ x.mails = y.mails ∧ x.tombs = y.tombs ∧ x.horizon = y.horizon) ↔ x = y := by cases x; cases y; simp
theorem store_eq (x y : Store) : (x.boxes = y.boxes ∧ x.valid = y.valid) ↔ x = y := by cases x; cases y; simp
theorem eq_l19SameBox (a b : Box) (ha : szBox a ≤ 16777216) : lim E 58 [encBox false false a, encBox false false b] = some (.bool (decide (a = b)), []) := by
  have hz : szBox a = a.name.length + (a.mails.length + tot (fun (y : Mail) => szMail y) a.mails) + a.tombs.length := rfl
  refine lim_run (E := E) rfl Tryz.func58 rfl (by kernel_rfl) (by kernel_rfl) ?_
  simp [Tryz.f58, tmpAt]
  by_cases g1 : a.name = b.name
  case neg => simp [g1, tmpAt, ← box_eq]
  by_cases g2 : a.valid = b.valid
  case neg => simp [g1, g2, tmpAt, ← box_eq]
  by_cases g3 : a.next = b.next
  case neg => simp [g1, g2, g3, tmpAt, ← box_eq]
  by_cases g4 : a.mod = b.mod
  case neg => simp [g1, g2, g3, g4, tmpAt, ← box_eq]
  by_cases g5 : a.horizon = b.horizon
  case neg => simp [g1, g2, g3, g4, g5, tmpAt, ← box_eq]
  by_cases g6 : (a.mails.length : Int) = b.mails.length
  case neg =>
    simp [g1, g2, g3, g4, g5, g6, tmpAt, ← box_eq]
    intro hc; rw [hc] at g6; simp at g6
  by_cases g7 : (a.tombs.length : Int) = b.tombs.length
  case neg =>
    simp [g1, g2, g3, g4, g5, g6, g7, tmpAt, ← box_eq]
    intro _ hc; rw [hc] at g7; simp at g7
  simp [g1, g2, g3, g4, g5, g6, g7, tmpAt, ← box_eq]
  have l6 : a.mails.length = b.mails.length := by omega
  have l7 : a.tombs.length = b.tombs.length := by omega
  refine loop_ind (fun m st => ∃ (i : Nat), i + m = a.mails.length ∧ a.mails.take i = b.mails.take i ∧ st.env 2 = .ptr (2, 0) [] ∧ st.env 3 = .ptr (3, 0) [] ∧ st.env 5 = .int .i64 i ∧ st.rs (2, 0) = some ⟨true, encBox false false a⟩ ∧ st.rs (3, 0) = some ⟨true, encBox false false b⟩) a.mails.length _ ?_ ?_
  · exact ⟨0, by simp [g1, g2, g3, g4, g5]⟩
  rintro m ⟨env, rs⟩ ⟨i, hi, hs, e2, e3, e5, q2, q3⟩ ih
  simp at e2 e3 e5 q2 q3
  simp [e2, e3, e5, q2, q3]
  have hw := wrap_up (show i < 4611686018427387904 by omega)
  refine RB_dec ?_ ?_ <;> intro h
  · have h' : i < b.mails.length := by omega
    simp [e2, e3, e5, q2, q3, h, h']
    refine RB_split ?_ ?_ <;> intro h2 <;> simp [e2, e3, e5, q2, q3]
    · simp at h2
      intro hc
      have hx := List.getElem_of_eq hc h
      rw [hx] at h2; simp at h2
    · simp at h2
      refine ih (m - 1) _ (by omega) ⟨i + 1, ?_⟩
      simp [e2, e3, e5, q2, q3, hw]
      exact ⟨by omega, take_eq hs h h' ((mail_eq _ _).1 h2)⟩
  clear ih
  have hm := take_all hs h l6
  simp [e2, e3, e5, q2, q3, h, hm]
  refine loop_ind (fun m st => ∃ (i : Nat), i + m = a.tombs.length ∧ a.tombs.take i = b.tombs.take i ∧ st.env 2 = .ptr (2, 0) [] ∧ st.env 3 = .ptr (3, 0) [] ∧ st.env 6 = .int .i64 i ∧ st.rs (2, 0) = some ⟨true, encBox false false a⟩ ∧ st.rs (3, 0) = some ⟨true, encBox false false b⟩) a.tombs.length _ ?_ ?_
  · exact ⟨0, by simp [e2, e3, q2, q3, hm]⟩
  rintro m ⟨env, rs⟩ ⟨j, hj, ht, f2, f3, f6, p2, p3⟩ ih
  simp at f2 f3 f6 p2 p3
  simp [f2, f3, f6, p2, p3]
  have hw := wrap_up (show j < 4611686018427387904 by omega)
  refine RB_dec ?_ ?_ <;> intro h
  · have h' : j < b.tombs.length := by omega
    simp [f2, f3, f6, p2, p3, h, h']
    refine RB_split ?_ ?_ <;> intro h2 <;> simp [f2, f3, f6, p2, p3]
    · simp at h2
      intro hc
      have hx := List.getElem_of_eq hc h
      rw [hx] at h2; simp at h2
    · simp at h2
      refine ih (m - 1) _ (by omega) ⟨j + 1, ?_⟩
      simp [f2, f3, f6, p2, p3, hw]
      exact ⟨by omega, take_eq ht h h' ((tomb_eq _ _).1 h2)⟩
  · simp [f2, f3, f6, p2, p3, h]
    exact take_all ht h l7
theorem eq_sSameStore (a b : Store) (ha : szStore a ≤ 16777216) : lim E 18 [encStore false false a, encStore false false b] = some (.bool (decide (a = b)), []) := by
  have hz : szStore a = a.boxes.length + tot (fun (y : Box) => szBox y) a.boxes := rfl
  refine lim_run (E := E) rfl Tryz.func18 rfl (by kernel_rfl) (by kernel_rfl) ?_
  simp [Tryz.f18, tmpAt]
  by_cases g1 : a.valid = b.valid
  case neg => simp [g1, tmpAt, ← store_eq]
  by_cases g6 : (a.boxes.length : Int) = b.boxes.length
  case neg =>
    simp [g1, g6, tmpAt, ← store_eq]
    intro hc; rw [hc] at g6; simp at g6
  simp [g1, g6, tmpAt, ← store_eq]
  have l6 : a.boxes.length = b.boxes.length := by omega
  refine loop_ind (fun m st => ∃ (i : Nat), i + m = a.boxes.length ∧ a.boxes.take i = b.boxes.take i ∧ st.env 2 = .ptr (2, 0) [] ∧ st.env 3 = .ptr (3, 0) [] ∧ st.env 5 = .int .i64 i ∧ st.rs (2, 0) = some ⟨true, encStore false false a⟩ ∧ st.rs (3, 0) = some ⟨true, encStore false false b⟩) a.boxes.length _ ?_ ?_
  · exact ⟨0, by simp [g1]⟩
  rintro m ⟨env, rs⟩ ⟨i, hi, hs, e2, e3, e5, q2, q3⟩ ih
  simp at e2 e3 e5 q2 q3
  simp [e2, e3, e5, q2, q3]
  have hw := wrap_up (show i < 4611686018427387904 by omega)
  refine RB_dec ?_ ?_ <;> intro h
  · have h' : i < b.boxes.length := by omega
    have hzz := tot_mem (fun (y : Box) => szBox y) (List.getElem_mem h)
    have w1 := eq_l19SameBox a.boxes[i] b.boxes[i] (by omega)
    try simp at w1
    simp [e2, e3, e5, q2, q3, h, h', w1]
    refine RB_ndec ?_ ?_ <;> intro h2 <;> simp [e2, e3, e5, q2, q3]
    · intro hc
      exact h2 (List.getElem_of_eq hc h)
    · refine ih (m - 1) _ (by omega) ⟨i + 1, ?_⟩
      simp [e2, e3, e5, q2, q3, hw]
      exact ⟨by omega, take_eq hs h h' h2⟩
  · simp [e2, e3, e5, q2, q3, h]
    exact take_all hs h l6
end Go.Proofs.YtdpagklgjchdgaaGreat
