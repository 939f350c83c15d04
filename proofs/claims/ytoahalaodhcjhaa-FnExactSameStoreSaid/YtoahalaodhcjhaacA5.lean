/- SameStore: of the program and of the reference. -/
import Derived.Test.YtoahalaodhcjhaacA3
set_option linter.unusedSectionVars false
set_option linter.all false
set_option linter.unusedVariables false
set_option linter.unusedSimpArgs false
set_option maxRecDepth 100000
namespace Go.Proofs.Ytoahalaodhcjhaa
open Go.Lft

theorem mail_eq (x y : Mail) : (x.uid = y.uid ∧ x.flags = y.flags ∧ x.mod = y.mod ∧ x.text = y.text) ↔ x = y := by cases x; cases y; simp
theorem tomb_eq (x y : Tomb) : (x.uid = y.uid ∧ x.mod = y.mod) ↔ x = y := by cases x; cases y; simp
theorem box_eq (x y : Box) : (x.name = y.name ∧ x.valid = y.valid ∧ x.next = y.next ∧ x.mod = y.mod ∧ x.mails = y.mails ∧ x.tombs = y.tombs ∧ x.horizon = y.horizon) ↔ x = y := by cases x; cases y; simp
theorem store_eq (x y : Store) : (x.boxes = y.boxes ∧ x.valid = y.valid) ↔ x = y := by cases x; cases y; simp
theorem eq_EqualMail (xs ys : List Mail) (h1 : xs.length ≤ 1048576) : lim E 74 [.lst false 85 4 (xs.map encMail), .lst false 85 4 (ys.map encMail)] = some (.bool (decide (xs = ys)), []) := by
  refine lim_run (E := E) rfl Try.func74 rfl (by kernel_rfl) (by kernel_rfl) ?_
  simp [Try.f74, tmpAt]
  refine RB_ndec ?_ ?_ <;> intro hl
  · simp
    intro hc; subst hc; exact hl rfl
  · simp
    have hl : xs.length = ys.length := by omega
    refine loop_ind (fun m st => ∃ (i : Nat), i + m = xs.length ∧ xs.take i = ys.take i ∧ st.env 0 = .lst false 85 4 (xs.map encMail) ∧ st.env 1 = .lst false 85 4 (ys.map encMail) ∧ st.env 12 = .int .i64 xs.length ∧ st.env 13 = .int .i64 i) xs.length _ ?_ ?_
    · exact ⟨0, by simp⟩
    rintro m ⟨env, rs⟩ ⟨i, hi, hs, e0, e1, e12, e13⟩ ih
    simp at e0 e1 e12 e13
    simp [e0, e1, e12, e13]
    have hw := wrap_up (show i < 4611686018427387904 by omega)
    refine RB_dec ?_ ?_ <;> intro h
    · have h' : i < ys.length := by omega
      simp [e0, e1, e12, e13, h, h']
      refine RB_split ?_ ?_ <;> intro h2 <;> simp [e0, e1, e12, e13]
      · simp at h2
        intro hc; subst hc; simp at h2
      · simp at h2
        refine ih (m - 1) _ (by omega) ⟨i + 1, ?_⟩
        simp [e0, e1, e12, e13, hw]
        exact ⟨by omega, take_eq hs h h' ((mail_eq _ _).1 h2)⟩
    · simp [e0, e1, e12, e13, h]
      exact take_all hs h hl
theorem eq_EqualTomb (xs ys : List Tomb) (h1 : xs.length ≤ 1048576) : lim E 75 [.lst false 111 2 (xs.map encTomb), .lst false 111 2 (ys.map encTomb)] = some (.bool (decide (xs = ys)), []) := by
  refine lim_run (E := E) rfl Try.func75 rfl (by kernel_rfl) (by kernel_rfl) ?_
  simp [Try.f75, tmpAt]
  refine RB_ndec ?_ ?_ <;> intro hl
  · simp
    intro hc; subst hc; exact hl rfl
  · simp
    have hl : xs.length = ys.length := by omega
    refine loop_ind (fun m st => ∃ (i : Nat), i + m = xs.length ∧ xs.take i = ys.take i ∧ st.env 0 = .lst false 111 2 (xs.map encTomb) ∧ st.env 1 = .lst false 111 2 (ys.map encTomb) ∧ st.env 12 = .int .i64 xs.length ∧ st.env 13 = .int .i64 i) xs.length _ ?_ ?_
    · exact ⟨0, by simp⟩
    rintro m ⟨env, rs⟩ ⟨i, hi, hs, e0, e1, e12, e13⟩ ih
    simp at e0 e1 e12 e13
    simp [e0, e1, e12, e13]
    have hw := wrap_up (show i < 4611686018427387904 by omega)
    refine RB_dec ?_ ?_ <;> intro h
    · have h' : i < ys.length := by omega
      simp [e0, e1, e12, e13, h, h']
      refine RB_split ?_ ?_ <;> intro h2 <;> simp [e0, e1, e12, e13]
      · simp at h2
        intro hc; subst hc; simp at h2
      · simp at h2
        refine ih (m - 1) _ (by omega) ⟨i + 1, ?_⟩
        simp [e0, e1, e12, e13, hw]
        exact ⟨by omega, take_eq hs h h' ((tomb_eq _ _).1 h2)⟩
    · simp [e0, e1, e12, e13, h]
      exact take_all hs h hl
theorem eq_sameBox (a b : Box) (ha : szBox a ≤ 1048576) : lim E 60 [encBox false false a, encBox false false b] = some (.bool (decide (a = b)), []) := by
  have hz : szBox a = a.name.length + (a.mails.length + tot (fun (y : Mail) => szMail y) a.mails) + a.tombs.length := rfl
  have w1 := eq_EqualMail a.mails b.mails (by omega)
  try simp at w1
  have w2 := eq_EqualTomb a.tombs b.tombs (by omega)
  try simp at w2
  have hb := box_eq a b
  refine lim_run (E := E) rfl Try.func60 rfl (by kernel_rfl) (by kernel_rfl) ?_
  simp [Try.f60, tmpAt, w1, w2]
  repeat' first | (refine RT_dec ?_ ?_ <;> intro hg <;> try simp [tmpAt, hg, w1, w2]) | (refine RT_split ?_ ?_ <;> intro hg <;> simp at hg <;> try simp [tmpAt, hg, w1, w2]) | (refine RB_dec ?_ ?_ <;> intro hg <;> try simp [tmpAt, hg, w1, w2]) | (refine RB_ndec ?_ ?_ <;> intro hg <;> try simp [tmpAt, hg, w1, w2]) | (refine RB_split ?_ ?_ <;> intro hg <;> simp at hg <;> try simp [tmpAt, hg, w1, w2]) | (refine RG_dec ?_ ?_ <;> intro hg <;> try simp [tmpAt, hg, w1, w2]) | (refine RG_split ?_ ?_ <;> intro hg <;> simp at hg <;> try simp [tmpAt, hg, w1, w2])
  all_goals simp_all [← box_eq]
theorem eq_EqualBox (xs ys : List Box) (h1 : xs.length + tot (fun (y : Box) => szBox y) xs ≤ 1048576) : lim E 59 [.lst false 52 7 (xs.map (encBox false false)), .lst false 52 7 (ys.map (encBox false false)), .fn 60 []] = some (.bool (decide (xs = ys)), []) := by
  refine lim_run (E := E) rfl Try.func59 rfl (by kernel_rfl) (by kernel_rfl) ?_
  simp [Try.f59, tmpAt]
  refine RB_ndec ?_ ?_ <;> intro hl
  · simp
    intro hc; subst hc; exact hl rfl
  · simp
    have hl : xs.length = ys.length := by omega
    refine loop_ind (fun m st => ∃ (i : Nat), i + m = xs.length ∧ xs.take i = ys.take i ∧ st.env 1 = .lst false 52 7 (ys.map (encBox false false)) ∧ st.env 2 = .fn 60 [] ∧ st.env 15 = .lst false 52 7 (xs.map (encBox false false)) ∧ st.env 16 = .int .i64 xs.length ∧ st.env 17 = .int .i64 i) xs.length _ ?_ ?_
    · exact ⟨0, by simp⟩
    rintro m ⟨env, rs⟩ ⟨i, hi, hs, e1, e2, e15, e16, e17⟩ ih
    simp at e1 e2 e15 e16 e17
    simp [e1, e2, e15, e16, e17]
    have hw := wrap_up (show i < 4611686018427387904 by omega)
    refine RB_dec ?_ ?_ <;> intro h
    · have h' : i < ys.length := by omega
      have hz := tot_mem (fun (y : Box) => szBox y) (List.getElem_mem h)
      have w1 := eq_sameBox xs[i] ys[i] (by omega)
      try simp at w1
      simp [e1, e2, e15, e16, e17, h, h', w1]
      refine RB_ndec ?_ ?_ <;> intro h2 <;> simp [e1, e2, e15, e16, e17]
      · intro hc; subst hc; exact h2 rfl
      · refine ih (m - 1) _ (by omega) ⟨i + 1, ?_⟩
        simp [e1, e2, e15, e16, e17, hw]
        exact ⟨by omega, take_eq hs h h' h2⟩
    · simp [e1, e2, e15, e16, e17, h]
      exact take_all hs h hl
theorem eq_SameStore (a b : Store) (ha : szStore a ≤ 1048576) : lim E 26 [encStore false false a, encStore false false b] = some (.bool (decide (a = b)), []) := by
  have hz : szStore a = a.boxes.length + tot (fun (y : Box) => szBox y) a.boxes := rfl
  have w1 := eq_EqualBox a.boxes b.boxes (by omega)
  try simp at w1
  refine lim_run (E := E) rfl Try.func26 rfl (by kernel_rfl) (by kernel_rfl) ?_
  simp [Try.f26, tmpAt, w1]
  repeat' first | (refine RT_dec ?_ ?_ <;> intro hg <;> try simp [tmpAt, hg, w1]) | (refine RT_split ?_ ?_ <;> intro hg <;> simp at hg <;> try simp [tmpAt, hg, w1]) | (refine RB_dec ?_ ?_ <;> intro hg <;> try simp [tmpAt, hg, w1]) | (refine RB_ndec ?_ ?_ <;> intro hg <;> try simp [tmpAt, hg, w1]) | (refine RB_split ?_ ?_ <;> intro hg <;> simp at hg <;> try simp [tmpAt, hg, w1]) | (refine RG_dec ?_ ?_ <;> intro hg <;> try simp [tmpAt, hg, w1]) | (refine RG_split ?_ ?_ <;> intro hg <;> simp at hg <;> try simp [tmpAt, hg, w1])
  all_goals simp_all [← store_eq]
theorem eq_l19SameBox (a b : Box) (ha : szBox a ≤ 1048576) : lim E 57 [encBox false false a, encBox false false b] = some (.bool (decide (a = b)), []) := by
  have hz : szBox a = a.name.length + (a.mails.length + tot (fun (y : Mail) => szMail y) a.mails) + a.tombs.length := rfl
  refine lim_run (E := E) rfl Try.func57 rfl (by kernel_rfl) (by kernel_rfl) ?_
  simp [Try.f57, tmpAt]
  by_cases g1 : a.name = b.name
  case neg => simp [g1, tmpAt, ← box_eq]
  by_cases g2 : a.valid = b.valid
  case neg => simp [g1, g2, tmpAt, ← box_eq]
  by_cases g3 : a.next = b.next
  case neg => simp [g1, g2, g3, tmpAt, ← box_eq]
  by_cases g4 : a.mod = b.mod
  case neg => simp [g1, g2, g3, g4, tmpAt, ← box_eq]
  by_cases g5 : a.horizon = b.horizon
  case neg => simp [g1, g2, g3, g4, g5, tmpAt, ← box_eq]
  by_cases g6 : (a.mails.length : Int) = b.mails.length
  case neg =>
    simp [g1, g2, g3, g4, g5, g6, tmpAt, ← box_eq]
    intro hc; rw [hc] at g6; simp at g6
  by_cases g7 : (a.tombs.length : Int) = b.tombs.length
  case neg =>
    simp [g1, g2, g3, g4, g5, g6, g7, tmpAt, ← box_eq]
    intro _ hc; rw [hc] at g7; simp at g7
  simp [g1, g2, g3, g4, g5, g6, g7, tmpAt, ← box_eq]
  have l6 : a.mails.length = b.mails.length := by omega
  have l7 : a.tombs.length = b.tombs.length := by omega
  refine loop_ind (fun m st => ∃ (i : Nat), i + m = a.mails.length ∧ a.mails.take i = b.mails.take i ∧ st.env 2 = .ptr (2, 0) [] ∧ st.env 3 = .ptr (3, 0) [] ∧ st.env 5 = .int .i64 i ∧ st.rs (2, 0) = some ⟨true, encBox false false a⟩ ∧ st.rs (3, 0) = some ⟨true, encBox false false b⟩) a.mails.length _ ?_ ?_
  · exact ⟨0, by simp [g1, g2, g3, g4, g5]⟩
  rintro m ⟨env, rs⟩ ⟨i, hi, hs, e2, e3, e5, q2, q3⟩ ih
  simp at e2 e3 e5 q2 q3
  simp [e2, e3, e5, q2, q3]
  have hw := wrap_up (show i < 4611686018427387904 by omega)
  refine RB_dec ?_ ?_ <;> intro h
  · have h' : i < b.mails.length := by omega
    simp [e2, e3, e5, q2, q3, h, h']
    refine RB_split ?_ ?_ <;> intro h2 <;> simp [e2, e3, e5, q2, q3]
    · simp at h2
      intro hc
      have hx := List.getElem_of_eq hc h
      rw [hx] at h2; simp at h2
    · simp at h2
      refine ih (m - 1) _ (by omega) ⟨i + 1, ?_⟩
      simp [e2, e3, e5, q2, q3, hw]
      exact ⟨by omega, take_eq hs h h' ((mail_eq _ _).1 h2)⟩
  clear ih
  have hm := take_all hs h l6
  simp [e2, e3, e5, q2, q3, h, hm]
  refine loop_ind (fun m st => ∃ (i : Nat), i + m = a.tombs.length ∧ a.tombs.take i = b.tombs.take i ∧ st.env 2 = .ptr (2, 0) [] ∧ st.env 3 = .ptr (3, 0) [] ∧ st.env 6 = .int .i64 i ∧ st.rs (2, 0) = some ⟨true, encBox false false a⟩ ∧ st.rs (3, 0) = some ⟨true, encBox false false b⟩) a.tombs.length _ ?_ ?_
  · exact ⟨0, by simp [e2, e3, q2, q3, hm]⟩
  rintro m ⟨env, rs⟩ ⟨j, hj, ht, f2, f3, f6, p2, p3⟩ ih
  simp at f2 f3 f6 p2 p3
  simp [f2, f3, f6, p2, p3]
  have hw := wrap_up (show j < 4611686018427387904 by omega)
  refine RB_dec ?_ ?_ <;> intro h
  · have h' : j < b.tombs.length := by omega
    simp [f2, f3, f6, p2, p3, h, h']
    refine RB_split ?_ ?_ <;> intro h2 <;> simp [f2, f3, f6, p2, p3]
    · simp at h2
      intro hc
      have hx := List.getElem_of_eq hc h
      rw [hx] at h2; simp at h2
    · simp at h2
      refine ih (m - 1) _ (by omega) ⟨j + 1, ?_⟩
      simp [f2, f3, f6, p2, p3, hw]
      exact ⟨by omega, take_eq ht h h' ((tomb_eq _ _).1 h2)⟩
  · simp [f2, f3, f6, p2, p3, h]
    exact take_all ht h l7
theorem eq_sSameStore (a b : Store) (ha : szStore a ≤ 1048576) : lim E 24 [encStore false false a, encStore false false b] = some (.bool (decide (a = b)), []) := by
  have hz : szStore a = a.boxes.length + tot (fun (y : Box) => szBox y) a.boxes := rfl
  refine lim_run (E := E) rfl Try.func24 rfl (by kernel_rfl) (by kernel_rfl) ?_
  simp [Try.f24, tmpAt]
  by_cases g1 : a.valid = b.valid
  case neg => simp [g1, tmpAt, ← store_eq]
  by_cases g6 : (a.boxes.length : Int) = b.boxes.length
  case neg =>
    simp [g1, g6, tmpAt, ← store_eq]
    intro hc; rw [hc] at g6; simp at g6
  simp [g1, g6, tmpAt, ← store_eq]
  have l6 : a.boxes.length = b.boxes.length := by omega
  refine loop_ind (fun m st => ∃ (i : Nat), i + m = a.boxes.length ∧ a.boxes.take i = b.boxes.take i ∧ st.env 2 = .ptr (2, 0) [] ∧ st.env 3 = .ptr (3, 0) [] ∧ st.env 5 = .int .i64 i ∧ st.rs (2, 0) = some ⟨true, encStore false false a⟩ ∧ st.rs (3, 0) = some ⟨true, encStore false false b⟩) a.boxes.length _ ?_ ?_
  · exact ⟨0, by simp [g1]⟩
  rintro m ⟨env, rs⟩ ⟨i, hi, hs, e2, e3, e5, q2, q3⟩ ih
  simp at e2 e3 e5 q2 q3
  simp [e2, e3, e5, q2, q3]
  have hw := wrap_up (show i < 4611686018427387904 by omega)
  refine RB_dec ?_ ?_ <;> intro h
  · have h' : i < b.boxes.length := by omega
    have hzz := tot_mem (fun (y : Box) => szBox y) (List.getElem_mem h)
    have w1 := eq_l19SameBox a.boxes[i] b.boxes[i] (by omega)
    try simp at w1
    simp [e2, e3, e5, q2, q3, h, h', w1]
    refine RB_ndec ?_ ?_ <;> intro h2 <;> simp [e2, e3, e5, q2, q3]
    · intro hc
      exact h2 (List.getElem_of_eq hc h)
    · refine ih (m - 1) _ (by omega) ⟨i + 1, ?_⟩
      simp [e2, e3, e5, q2, q3, hw]
      exact ⟨by omega, take_eq hs h h' h2⟩
  · simp [e2, e3, e5, q2, q3, h]
    exact take_all hs h l6
end Go.Proofs.Ytoahalaodhcjhaa
