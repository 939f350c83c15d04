/- Sets of numbers: the reference's SetOk, SetHas, SetAdd. -/
import Derived.Test.YtfboojamiabmcaacD1
set_option linter.unusedSectionVars false
set_option linter.all false
set_option linter.unusedVariables false
set_option linter.unusedSimpArgs false
set_option maxRecDepth 100000
namespace Go.Proofs.Ytfboojamiabmcaa
open Go.Lft

theorem eq_SetHas (s : List Range) (n : Int) (hl : s.length ≤ 16777216) : lim E 77 [.lst false 117 2 (s.map encRange), .int .i64 n] = some (.bool (setHas s n), []) := by
  refine lim_run (E := E) rfl Try.func77 rfl (by kernel_rfl) (by kernel_rfl) ?_
  simp [Try.f77, tmpAt]
  refine loop_fr [1, 7, 8] [] (fun m st => ∃ (i : Nat), i + m = s.length ∧ (s.take i).any (fun r => within n r.lo r.hi) = false ∧ st.env 9 = .int .i64 i) (s.length) _ ?_ ?_
  · exact ⟨0, by simp⟩
  rintro m0 ⟨env, rs⟩ hU0 hV0 ⟨i, hi, hs, e0_9⟩ ih0; simp at hU0 e0_9; clear hV0
  have hw := wrap_up (show i < 4611686018427387904 by omega)
  simp [hU0, e0_9]
  refine RB_dec ?_ ?_ <;> intro h
  · simp [hU0, e0_9, h, tmpAt]
    refine RB_split ?_ ?_ <;> intro h2 <;> simp [hU0, e0_9, h, tmpAt]
    · exact any_bad (f := fun r => within n r.lo r.hi) h h2
    · refine ih0 (m0 - 1) _ (by omega) ?_ ?_ ⟨i + 1, by omega, any_next h hs h2, ?_⟩
      · simp [hU0, e0_9]
      · simp [hU0, e0_9]
      simp [hU0, e0_9, hw]
  · simp [hU0, e0_9, h]
    exact any_take (f := fun r => within n r.lo r.hi) h hs
theorem eq_sSetHas (s : List Range) (n : Int) (hl : s.length ≤ 16777216) : lim E 68 [.lst false 117 2 (s.map encRange), .int .i64 n] = some (.bool (setHas s n), []) := by
  refine lim_run (E := E) rfl Try.func68 rfl (by kernel_rfl) (by kernel_rfl) ?_
  simp [Try.f68, tmpAt]
  refine loop_fr [0, 1] [] (fun m st => ∃ (i : Nat), i + m = s.length ∧ (s.take i).any (fun r => within n r.lo r.hi) = false ∧ st.env 5 = .int .i64 i) (s.length) _ ?_ ?_
  · exact ⟨0, by simp⟩
  rintro m0 ⟨env, rs⟩ hU0 hV0 ⟨i, hi, hs, e0_5⟩ ih0; simp at hU0 e0_5; clear hV0
  have hw := wrap_up (show i < 4611686018427387904 by omega)
  simp [hU0, e0_5]
  refine RB_dec ?_ ?_ <;> intro h
  · have key : ∀ b, within n s[i].lo s[i].hi = b → RC (E.at 68) (Fin E 68 [ResultVar.tmp 4] (.bool (setHas s n), [])) Code.skip [] ⟨env, rs⟩ ∨ True := fun _ _ => .inr trivial
    simp [hU0, e0_5, h, tmpAt]
    repeat' first | (refine RT_dec ?_ ?_ <;> intro hg <;> try simp [tmpAt, hg, hU0, e0_5, h]) | (refine RT_split ?_ ?_ <;> intro hg <;> (try simp at hg) <;> try simp [tmpAt, hg, hU0, e0_5, h]) | (refine RB_dec ?_ ?_ <;> intro hg <;> try simp [tmpAt, hg, hU0, e0_5, h]) | (refine RB_ndec ?_ ?_ <;> intro hg <;> try simp [tmpAt, hg, hU0, e0_5, h]) | (refine RB_split ?_ ?_ <;> intro hg <;> (try simp at hg) <;> try simp [tmpAt, hg, hU0, e0_5, h]) | (refine RG_dec ?_ ?_ <;> intro hg <;> try simp [tmpAt, hg, hU0, e0_5, h]) | (refine RG_split ?_ ?_ <;> intro hg <;> (try simp at hg) <;> try simp [tmpAt, hg, hU0, e0_5, h])
    all_goals first
      | (exact any_bad (f := fun r => within n r.lo r.hi) h (by simp_all [within]); done)
      | (refine ih0 (m0 - 1) _ (by omega) ?_ ?_ ⟨i + 1, by omega, any_next h hs (by simp_all [within] <;> omega), ?_⟩
         · simp [hU0, e0_5]
         · simp [hU0, e0_5]
         simp [hU0, e0_5, hw])
  · simp [hU0, e0_5, h]
    exact any_take (f := fun r => within n r.lo r.hi) h hs
/-! ### Marks -/
def bitsD (f : Nat → Bool) : List D := (List.range 10001).map fun n => .bool (f n)
@[simp] theorem bitsD_len (f : Nat → Bool) : (bitsD f).length = 10001 := by rw [bitsD, List.length_map, List.length_range]
@[simp] theorem fr_bitsD (f : Nat → Bool) : D.freezeL (bitsD f) = bitsD f := fr_map _ _ (by simp) _
@[simp] theorem cold_bitsD (f : Nat → Bool) : D.coldL (bitsD f) = false := cold_map _ (by simp) _
theorem bitsD_none : List.replicate 10001 (D.bool false) = bitsD (fun _ => false) := by
  rw [bitsD]
  apply List.ext_getElem
  · rw [List.length_replicate, List.length_map, List.length_range]
  · intro i h1 h2; rw [List.getElem_replicate, List.getElem_map]
@[simp] theorem bitsD_get (f : Nat → Bool) (i : Nat) (h : i < (bitsD f).length) : (bitsD f)[i] = .bool (f i) := by
  simp only [bitsD, List.getElem_map, List.getElem_range]
@[simp] theorem bitsD_take (f : Nat → Bool) : List.take 10001 (bitsD f) = bitsD f := List.take_of_length_le (by rw [bitsD_len]; exact Nat.le_refl _)
theorem bitsD_set (f : Nat → Bool) (i : Nat) (v : Bool) : (bitsD f).set i (.bool v) = bitsD (fun n => if n = i then v else f n) := by
  apply List.ext_getElem
  · rw [List.length_set, bitsD_len, bitsD_len]
  · intro j h1 h2
    rw [List.getElem_set]
    have hj : j < 10001 := by rw [bitsD_len] at h2; exact h2
    rw [bitsD_get, bitsD_get]
    by_cases h : i = j
    · subst h; simp
    · rw [if_neg h, if_neg (Ne.symm h)]
theorem bitsD_congr {f g : Nat → Bool} (h : ∀ n, n < 10001 → f n = g n) : bitsD f = bitsD g := by
  unfold bitsD
  apply List.map_congr_left
  intro n hn
  rw [h n (List.mem_range.1 hn)]
end Go.Proofs.Ytfboojamiabmcaa
