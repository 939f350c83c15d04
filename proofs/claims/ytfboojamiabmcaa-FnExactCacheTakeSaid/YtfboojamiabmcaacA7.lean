/- Marks in strings. -/
import Derived.Test.YtfboojamiabmcaacHlp
import Derived.Test.YtfboojamiabmcaacA1
set_option linter.unusedSectionVars false
set_option linter.all false
set_option linter.unusedVariables false
set_option linter.unusedSimpArgs false
set_option maxRecDepth 100000
namespace Go.Proofs.Ytfboojamiabmcaa
open Go.Lft

def markByte (k : Nat) : UInt8 := UInt8.ofNat (48 + k % 10)
def markOut : Nat → Nat → S → S
  | 0, _, out => out
  | f + 1, k, out => if k = 0 then out else markOut f (k / 10) (markByte k :: out)
def markT (k : Nat) : S := 109 :: markOut k k []
theorem eq_markText (k : Nat) (h0 : 0 < k) (hk : k ≤ 4194304) : lim E 97 [.int .i64 k] = some (.str (markT k), []) := by
  have h0' : ¬ (k : Int) ≤ 0 := by omega
  refine lim_run (E := E) rfl Try.func97 rfl (by kernel_rfl) (by kernel_rfl) ?_
  simp [Try.f97, tmpAt]
  refine RB_dec ?_ ?_ <;> intro hz
  · omega
  simp
  refine loop_ind (fun m st => ∃ (j : Nat) (out : S), j ≤ m ∧ m ≤ k ∧ out.length + m ≤ k ∧ markOut m j out = markOut k k [] ∧ st.env 0 = .int .i64 j ∧ st.env 3 = .str out) k _ ?_ ?_
  · exact ⟨k, [], by simp⟩
  rintro m ⟨env, rs⟩ ⟨j, out, hj, hmk, ho, hm, e0, e3⟩ ih
  simp at e0 e3
  simp [e0, e3]
  by_cases hj0 : 0 < j
  · obtain ⟨m, rfl⟩ : ∃ m', m = m' + 1 := ⟨m - 1, by omega⟩
    simp only [markOut] at hm
    rw [if_neg (by omega)] at hm
    have tm : ((j : Int).tmod 10) = (j : Int) % 10 := Int.tmod_eq_emod_of_nonneg (by omega)
    have td : ((j : Int).tdiv 10) = (j : Int) / 10 := Int.tdiv_eq_ediv_of_nonneg (by omega)
    have w1 : IntKind.i64.wrap (48 + (j : Int) % 10) = 48 + (j : Int) % 10 := wrap_in (by omega) (by omega)
    have w2 : IntKind.u8.wrap (48 + (j : Int) % 10) = 48 + (j : Int) % 10 := by
      show (48 + (j : Int) % 10) % 256 = _
      omega
    have w3 : IntKind.i64.wrap ((j : Int) / 10) = (j : Int) / 10 := wrap_in (by omega) (by omega)
    have w4 : (48 + (j : Int) % 10).toNat = 48 + j % 10 := by omega
    have w5 : (UInt8.ofNat (48 + j % 10)) = markByte j := rfl
    simp [e0, e3, hj0, tm, td, w1, w2, w3, w4, w5]
    refine ⟨by simp [strMax]; omega, ih m _ (by omega) ⟨j / 10, markByte j :: out, by omega, by omega, by simp; omega, hm, ?_⟩⟩
    simp [e0, e3, tm, td, w1, w2, w3, w4, w5]
  · obtain rfl : j = 0 := by omega
    have hm : out = markOut k k [] := by rw [← hm]; cases m <;> simp [markOut]
    simp [e0, e3, markT, ← hm]
    simp [strMax]; omega
def marksL (n k : Nat) : List S := (List.range n).map fun i => markT (k + i)
theorem marksL_get (n k i : Nat) (h : i < (marksL n k).length) : (marksL n k)[i] = markT (k + i) := by simp [marksL]
@[simp] theorem marksL_length (n k : Nat) : (marksL n k).length = n := by simp [marksL]
end Go.Proofs.Ytfboojamiabmcaa
