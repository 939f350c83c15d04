/- CacheSame: of the program and of the reference. -/
import Derived.Test.YtongomiihjlbcaaGreatcA3
set_option linter.unusedSectionVars false
set_option linter.all false
set_option linter.unusedVariables false
set_option linter.unusedSimpArgs false
set_option maxRecDepth 100000
namespace Go.Proofs.YtongomiihjlbcaaGreat
open Go.Lft

theorem seen_eq (x y : Seen) : (x.uid = y.uid ∧ x.flags = y.flags ∧ x.mod = y.mod) ↔ x = y := by cases x; cases y; simp
theorem eq_EqualSeen (xs ys : List Seen) (h1 : xs.length ≤ 1048576) : lim E 28 [.lst false 86 3 (xs.map encSeen), .lst false 86 3 (ys.map encSeen)] = some (.bool (decide (xs = ys)), []) := by
  refine lim_run (E := E) rfl Tryz.func28 rfl (by kernel_rfl) (by kernel_rfl) ?_
  simp [Tryz.f28, tmpAt]
  refine RB_ndec ?_ ?_ <;> intro hl
  · simp
    intro hc; subst hc; exact hl rfl
  · simp
    have hl : xs.length = ys.length := by omega
    refine loop_ind (fun m st => ∃ (i : Nat), i + m = xs.length ∧ xs.take i = ys.take i ∧ st.env 0 = .lst false 86 3 (xs.map encSeen) ∧ st.env 1 = .lst false 86 3 (ys.map encSeen) ∧ st.env 12 = .int .i64 xs.length ∧ st.env 13 = .int .i64 i) xs.length _ ?_ ?_
    · exact ⟨0, by simp⟩
    rintro m ⟨env, rs⟩ ⟨i, hi, hs, e0, e1, e12, e13⟩ ih
    simp at e0 e1 e12 e13
    simp [e0, e1, e12, e13]
    have hw := wrap_up (show i < 4611686018427387904 by omega)
    refine RB_dec ?_ ?_ <;> intro h
    · have h' : i < ys.length := by omega
      simp [e0, e1, e12, e13, h, h']
      refine RB_split ?_ ?_ <;> intro h2 <;> simp [e0, e1, e12, e13]
      · simp at h2
        intro hc; subst hc; simp at h2
      · simp at h2
        refine ih (m - 1) _ (by omega) ⟨i + 1, ?_⟩
        simp [e0, e1, e12, e13, hw]
        exact ⟨by omega, take_eq hs h h' ((seen_eq _ _).1 h2)⟩
    · simp [e0, e1, e12, e13, h]
      exact take_all hs h hl
def seenOf (m : Mail) : Seen := ⟨m.uid, m.flags, m.mod⟩
theorem eq_seensOf (b : Box) (h1 : b.mails.length ≤ 1048576) : lim E 29 [encBox false false b] = some (.lst true 86 3 ((b.mails.map seenOf).map encSeen), []) := by
  refine lim_run (E := E) rfl Tryz.func29 rfl (by kernel_rfl) (by kernel_rfl) ?_
  simp [Tryz.f29, tmpAt]
  refine loop_ind (fun m st => ∃ (i : Nat) (r : Nat), i + m = b.mails.length ∧ (r = 6 ∨ r = 23) ∧ st.env 3 = .slc (r, 0) [] 0 i ∧ st.env 8 = .lst false 107 4 (b.mails.map encMail) ∧ st.env 9 = .int .i64 b.mails.length ∧ st.env 10 = .int .i64 i ∧ st.rs (r, 0) = some ⟨false, .lst true 86 3 (((b.mails.take i).map seenOf).map encSeen)⟩) b.mails.length _ ?_ ?_
  · exact ⟨0, 6, by simp⟩
  rintro m ⟨env, rs⟩ ⟨i, r, hi, hr, e3, e8, e9, e10, q⟩ ih
  simp at e3 e8 e9 e10 q
  simp [e3, e8, e9, e10, q]
  have hw := wrap_up (show i < 4611686018427387904 by omega)
  refine RB_dec ?_ ?_ <;> intro h
  · have hm : min i b.mails.length = i := by omega
    have hb : (i + 1) * 24 ≤ 140737488351232 := by omega
    have ht : List.take (i + 1) (List.map (encSeen ∘ seenOf) b.mails) = List.take i (List.map (encSeen ∘ seenOf) b.mails) ++ [encSeen (seenOf b.mails[i])] := by
      rw [List.take_succ_eq_append_getElem (by simpa using h)]; simp
    rcases hr with rfl | rfl
    all_goals
      simp [e3, e8, e9, e10, q, h, hw, hm, hb]
      refine ih (m - 1) _ (by omega) ⟨i + 1, 23, ?_⟩
      simp [e3, e8, e9, e10, q, hw, ht, seenOf]
      omega
  · have hm : min i b.mails.length = i := by omega
    have hn : i = b.mails.length := by omega
    subst hn
    rcases hr with rfl | rfl
    all_goals
      simp [e3, e8, e9, e10, q, h, hw, hm]
def cacheSame (c : Cache) (b : Box) : Bool := decide (c.box = b.name) && (decide (c.valid = b.valid) && (decide (c.mod = b.mod) && decide (c.seens = b.mails.map seenOf)))
theorem eq_sCacheSameL (c : Cache) (b : Box) (hc : szCache c ≤ 16777216) (hb : szBox b ≤ 16777216) : lim E 18 [encCache false false c, encBox false false b] = some (.bool (cacheSame c b), []) := by
  have hz : szCache c = c.box.length + c.seens.length := rfl
  have hz2 : szBox b = b.name.length + (b.mails.length + tot (fun (y : Mail) => szMail y) b.mails) + b.tombs.length := rfl
  refine lim_run (E := E) rfl Tryz.func18 rfl (by kernel_rfl) (by kernel_rfl) ?_
  simp [Tryz.f18, tmpAt]
  by_cases g1 : c.box = b.name
  case neg =>
    simp [g1, tmpAt, cacheSame]
  by_cases g2 : c.valid = b.valid
  case neg =>
    simp [g1, g2, tmpAt, cacheSame]
  by_cases g3 : c.mod = b.mod
  case neg =>
    simp [g1, g2, g3, tmpAt, cacheSame]
  simp [g1, g2, g3, tmpAt, cacheSame]
  refine RB_ndec ?_ ?_ <;> intro hl
  · simp
    intro hc; rw [hc] at hl; simp at hl
  simp
  have hl : c.seens.length = (b.mails.map seenOf).length := by simp; omega
  refine loop_ind (fun m st => ∃ (i : Nat), i + m = c.seens.length ∧ c.seens.take i = (b.mails.map seenOf).take i ∧ st.env 2 = .ptr (2, 0) [] ∧ st.env 3 = .ptr (3, 0) [] ∧ st.env 5 = .int .i64 i ∧ st.rs (2, 0) = some ⟨true, encCache false false c⟩ ∧ st.rs (3, 0) = some ⟨true, encBox false false b⟩) c.seens.length _ ?_ ?_
  · exact ⟨0, by simp [g1, g2, g3]⟩
  rintro m ⟨env, rs⟩ ⟨i, hi, hs, e2, e3, e5, q2, q3⟩ ih
  simp at e2 e3 e5 q2 q3
  simp [e2, e3, e5, q2, q3]
  have hw := wrap_up (show i < 4611686018427387904 by omega)
  refine RB_dec ?_ ?_ <;> intro h
  · have h' : i < c.seens.length := by simp at hl; omega
    have h'' : i < (b.mails.map seenOf).length := by simp; omega
    simp [e2, e3, e5, q2, q3, h, h']
    refine RB_split ?_ ?_ <;> intro h2 <;> simp [e2, e3, e5, q2, q3]
    · simp at h2
      intro hc
      have hx : c.seens[i] = seenOf b.mails[i] := by have := List.getElem_of_eq hc h'; simpa using this
      rw [hx] at h2
      simp [seenOf] at h2
    · simp at h2
      refine ih (m - 1) _ (by omega) ⟨i + 1, ?_⟩
      simp [e2, e3, e5, q2, q3, hw]
      refine ⟨by omega, ?_⟩
      have := take_eq hs h' h'' (by rw [← seen_eq]; simpa [seenOf] using h2)
      simpa using this
  · simp [e2, e3, e5, q2, q3, h]
    exact take_all hs (by simp at hl; omega) hl
theorem eq_sCacheSame (c : Cache) (b : Box) (hc : szCache c ≤ 1048576) (hb : szBox b ≤ 1048576) : lim E 18 [encCache false false c, encBox false false b] = some (.bool (cacheSame c b), []) := eq_sCacheSameL c b (by omega) (by omega)
end Go.Proofs.YtongomiihjlbcaaGreat
