/- Numbers as texts, at every number (the table of powers of ten stands); the program's. -/
import Derived.Test.YtfboojamiabmcaaDoorcDD
set_option linter.unusedSectionVars false
set_option linter.all false
set_option linter.unusedVariables false
set_option linter.unusedSimpArgs false
set_option maxRecDepth 100000
namespace Go.Proofs.YtfboojamiabmcaaDoor
open Go.Lft

theorem eq_DecimalAll (n : Nat) (h : n ≤ 1048576) : lim E 23 [.int .i64 (n : Int)] = some (.str (Go.Lib.decDigits n), []) := by
  have w : lim E 54 [.int .i64 (n : Int)] = some (.str (Go.Lib.decDigits n), []) := by
    rw [lim_ext ext54]
    simp only [extItoaT, Go.Lib.itoa]
    rw [if_pos ⟨by omega, by omega⟩, if_neg (by omega), Int.toNat_natCast]
  refine lim_run (E := E) rfl Tryd.func23 rfl (by kernel_rfl) (by kernel_rfl) ?_
  simp [Tryd.f23, tmpAt, w]
theorem decD_len : ∀ (f n : Nat), n < 10 ^ f → (Go.Lib.decDigits n).length ≤ f + 1 := by
  intro f
  induction f with
  | zero =>
    intro n h
    obtain rfl : n = 0 := by simpa using h
    unfold Go.Lib.decDigits
    simp
  | succ f ih =>
    intro n h
    unfold Go.Lib.decDigits
    split
    · simp
    · have := ih (n / 10) (by rw [Nat.pow_succ] at h; omega)
      simp
      omega
theorem dec_len8 (n : Nat) (h : n ≤ 1048576) : (Go.Lib.decDigits n).length ≤ 8 := decD_len 7 n (by omega)
end Go.Proofs.YtfboojamiabmcaaDoor
