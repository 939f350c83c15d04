/- Flags after a change; mails. -/
import Derived.Test.YtfboojamiabmcaacD1
set_option linter.unusedSectionVars false
set_option linter.all false
set_option linter.unusedVariables false
set_option linter.unusedSimpArgs false
set_option maxRecDepth 100000
namespace Go.Proofs.Ytfboojamiabmcaa
open Go.Lft

def andI (a b : Int) : Int := ((a.toNat &&& b.toNat : Nat) : Int)
def flagsAfter (old how bits : Int) : Int :=
  if (within old 0 31 && within bits 0 31) = true then
    (if how = 1 then bits else if how = 2 then old + bits - andI old bits else if how = 3 then old - andI old bits else old)
  else old
theorem within31 {a : Int} (h : within a 0 31 = true) : ∃ n : Fin 32, a = (n.val : Int) := by
  simp [within] at h
  exact ⟨⟨a.toNat, by omega⟩, by simp; omega⟩
theorem or_fin : ∀ a b : Fin 32, Go.Lft.Set.bOr .i64 (a.val : Int) (b.val : Int) = (a.val : Int) + (b.val : Int) - andI (a.val : Int) (b.val : Int) := of_decide_eq_true (by kernel_rfl)
theorem andNot_fin : ∀ a b : Fin 32, Go.Lft.Set.bAndNot .i64 (a.val : Int) (b.val : Int) = (a.val : Int) - andI (a.val : Int) (b.val : Int) := of_decide_eq_true (by kernel_rfl)
theorem andI_in : ∀ a b : Fin 32, 0 ≤ andI (a.val : Int) (b.val : Int) ∧ andI (a.val : Int) (b.val : Int) ≤ (a.val : Int) ∧ andI (a.val : Int) (b.val : Int) ≤ (b.val : Int) ∧ (a.val : Int) + (b.val : Int) - andI (a.val : Int) (b.val : Int) ≤ 31 := of_decide_eq_true (by kernel_rfl)
theorem flagsAfter_in {old how bits : Int} (h : within old 0 31 = true) : within (flagsAfter old how bits) 0 31 = true := by
  unfold flagsAfter
  split
  · rename_i h2
    simp at h2
    obtain ⟨a, rfl⟩ := within31 h
    obtain ⟨b, rfl⟩ := within31 h2.2
    have := andI_in a b
    split
    · exact h2.2
    · split
      · simp [within]; omega
      · split
        · simp [within]; omega
        · exact h
  · exact h
/-! ### Mails -/
def noZero (t : S) : Bool := t.all (fun b => decide (b ≠ 0))
def mailOk (t : S) : Bool := noZero t && within t.length 1 200
theorem indexByte_neg (t : S) : (Go.Lib.indexByte t 0 < 0) ↔ noZero t = true := by
  unfold noZero
  induction t with
  | nil => simp [Go.Lib.indexByte]
  | cons b t ih =>
    have hg := Go.Lib.indexByte_ge t 0
    simp only [Go.Lib.indexByte, List.all_cons, Bool.and_eq_true, decide_eq_true_eq, beq_iff_eq]
    by_cases hb : b = 0
    · simp [hb]
    · rw [if_neg hb]
      by_cases h1 : Go.Lib.indexByte t 0 = -1
      · rw [if_pos h1]; simp [hb]; have := ih.1 (by omega); simpa using this
      · rw [if_neg h1]
        constructor
        · intro h; omega
        · intro h; have := ih.2 h.2; omega
@[simp] theorem eq_IndexByteString (s : S) (c : Int) : lim E 113 [.str s, .int .u8 c] = some (.int .i64 (Go.Lib.indexByte s c.toNat.toUInt8), []) := lim_ext ext113
@[simp] theorem eq_sIndexByte (s : S) (c : Int) : lim E 111 [.str s, .int .u8 c] = some (.int .i64 (Go.Lib.indexByte s c.toNat.toUInt8), []) := by
  refine lim_run (E := E) rfl Try.func111 rfl (by kernel_rfl) (by kernel_rfl) ?_
  simp [Try.f111, tmpAt]
@[simp] theorem eq_IndexByte (s : S) (c : Int) : lim E 108 [.str s, .int .u8 c] = some (.int .i64 (Go.Lib.indexByte s c.toNat.toUInt8), []) := by
  refine lim_run (E := E) rfl Try.func108 rfl (by kernel_rfl) (by kernel_rfl) ?_
  simp [Try.f108, tmpAt]
@[simp] theorem eq_MailOk (t : S) : lim E 103 [.str t] = some (.bool (mailOk t), []) := by
  have hi := indexByte_neg t
  refine lim_run (E := E) rfl Try.func103 rfl (by kernel_rfl) (by kernel_rfl) ?_
  simp [Try.f103, tmpAt]
  repeat' first | (refine RT_dec ?_ ?_ <;> intro hg <;> try simp [tmpAt, hg]) | (refine RT_split ?_ ?_ <;> intro hg <;> (try simp at hg) <;> try simp [tmpAt, hg]) | (refine RB_dec ?_ ?_ <;> intro hg <;> try simp [tmpAt, hg]) | (refine RB_ndec ?_ ?_ <;> intro hg <;> try simp [tmpAt, hg]) | (refine RB_split ?_ ?_ <;> intro hg <;> (try simp at hg) <;> try simp [tmpAt, hg]) | (refine RG_dec ?_ ?_ <;> intro hg <;> try simp [tmpAt, hg]) | (refine RG_split ?_ ?_ <;> intro hg <;> (try simp at hg) <;> try simp [tmpAt, hg])
  all_goals simp_all [mailOk]
@[simp] theorem eq_sMailOk (t : S) (hl : t.length ≤ 16777216) : lim E 86 [.str t] = some (.bool (mailOk t), []) := by
  refine lim_run (E := E) rfl Try.func86 rfl (by kernel_rfl) (by kernel_rfl) ?_
  simp [Try.f86, tmpAt]
  refine loop_fr [0] [] (fun m st => ∃ (i : Nat), i + m = t.length ∧ (t.take i).all (fun b => decide (b ≠ 0)) = true ∧ st.env 3 = .int .i64 i) (t.length) _ ?_ ?_
  · exact ⟨0, by simp⟩
  rintro m0 ⟨env, rs⟩ hU0 hV0 ⟨i, hi, hs, e0_3⟩ ih0; simp at hU0 e0_3; clear hV0
  have hw := wrap_up (show i < 4611686018427387904 by omega)
  simp [hU0, e0_3]
  refine RB_dec ?_ ?_ <;> intro h
  · have hb : t[i].toNat = 0 ↔ t[i] = 0 := by rw [← UInt8.toNat_inj]; simp
    simp [hU0, e0_3, h, hb]
    refine RB_dec ?_ ?_ <;> intro h2
    · have hb : noZero t = false := all_bad (f := fun b : UInt8 => decide (b ≠ 0)) h (by simp [h2])
      simp [mailOk, hb]
    · simp [hU0, e0_3]
      refine ih0 (m0 - 1) _ (by omega) ?_ ?_ ⟨i + 1, by omega, all_next h hs (by simpa using h2), ?_⟩
      · simp [hU0, e0_3]
      · simp [hU0, e0_3]
      simp [hU0, e0_3, hw]
  · have hb : noZero t = true := all_take h hs
    simp [hU0, e0_3, h, mailOk, hb]
end Go.Proofs.Ytfboojamiabmcaa
