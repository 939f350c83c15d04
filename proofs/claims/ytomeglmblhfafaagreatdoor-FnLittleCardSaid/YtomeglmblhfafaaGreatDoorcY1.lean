/- Numbers as texts, at every number (the table of powers of ten stands); the program's. -/
import Derived.Test.YtomeglmblhfafaaGreatDoorcA2
set_option linter.unusedSectionVars false
set_option linter.all false
set_option linter.unusedVariables false
set_option linter.unusedSimpArgs false
set_option maxRecDepth 100000
namespace Go.Proofs.YtomeglmblhfafaaGreatDoor
open Go.Lft

def fig (n : Nat) : UInt8 := UInt8.ofNat (48 + n)
theorem fig_nat {n : Nat} (h : n < 10) : (fig n).toNat = 48 + n := by
  unfold fig; rw [UInt8.toNat_ofNat']; omega
theorem eq_l01Figure (d : Nat) (h : d < 10) : lim E 64 [.int .i64 (d : Int)] = some (.int .u8 ((fig d).toNat : Int), []) := by
  have h1 : (d : Int) < 10 := by omega
  have hw : IntKind.i64.wrap (48 + (d : Int)) = 48 + (d : Int) := wrap_in (by omega) (by omega)
  have hw8 : IntKind.u8.wrap (48 + (d : Int)) = 48 + (d : Int) := by rw [IntKind.wrap_u8]; omega
  have hf := fig_nat h
  refine lim_run (E := E) rfl Tryz.func64 rfl (by kernel_rfl) (by kernel_rfl) ?_
  simp [Tryz.f64, tmpAt, h1, hw, hw8]
  omega
set_option maxHeartbeats 1000000 in
theorem eq_sDecimal (n : Nat) (hn : n ≤ 1048576) : lim E 20 [.int .i64 (n : Int)] = some (.str (Go.Lib.decDigits n), []) := by
  by_cases h0 : n = 0
  · subst h0
    refine lim_run (E := E) rfl Tryz.func20 rfl (by kernel_rfl) (by kernel_rfl) ?_
    simp [Tryz.f20, tmpAt]
    unfold Go.Lib.decDigits
    rfl
  have h1 : ¬ (n : Int) < 0 := by omega
  have h2 : ¬ (n : Int) = 0 := by omega
  refine lim_run (E := E) rfl Tryz.func20 rfl (by kernel_rfl) (by kernel_rfl) ?_
  simp [Tryz.f20, tmpAt, h0, h1, h2]
  refine loop_fr [3] [] (fun m st => ∃ (k : Nat) (s : S), k ≤ m ∧ ((k = 0 ∧ s = Go.Lib.decDigits n) ∨ (k ≠ 0 ∧ Go.Lib.decDigits n = Go.Lib.decDigits k ++ s)) ∧ s.length + k ≤ 1048600 ∧ st.env 0 = .int .i64 k ∧ st.env 4 = .str s) (n) _ ?_ ?_
  · exact ⟨n, [], by simp [h0]; omega⟩
  rintro m0 ⟨env, rs⟩ hU0 hV0 ⟨k, s, hkm, hd, hsl, e0_0, e0_4⟩ ih0; simp at hU0 e0_0 e0_4; clear hV0
  by_cases hk : k = 0
  · subst hk
    have hs : s = Go.Lib.decDigits n := by rcases hd with h | h; exact h.2; exact absurd rfl h.1
    simp [hU0, e0_0, e0_4, hs]
  · have hdd : Go.Lib.decDigits n = Go.Lib.decDigits k ++ s := by rcases hd with h | h; exact absurd h.1 hk; exact h.2
    have hkI : ¬ (k : Int) = 0 := by omega
    obtain ⟨d, hdv⟩ : ∃ d : Nat, k % 10 = d := ⟨_, rfl⟩
    obtain ⟨q, hqv⟩ : ∃ q : Nat, k / 10 = q := ⟨_, rfl⟩
    have hd9 : d < 10 := by omega
    have hm10 : (k : Int).tmod 10 = (d : Int) := by rw [Int.tmod_eq_emod_of_nonneg (by omega)]; omega
    have hd10 : (k : Int).tdiv 10 = (q : Int) := by rw [Int.tdiv_eq_ediv_of_nonneg (by omega)]; omega
    have hwd : IntKind.i64.wrap (q : Int) = (q : Int) := wrap_in (by omega) (by omega)
    have hlt : ¬ (d : Int) < 0 := by omega
    have wf := eq_l01Figure d hd9
    have hcap : s.length ≤ 4611686018427387903 := by omega
    have hk10 : Go.Lib.decDigits k = if k < 10 then [fig k] else Go.Lib.decDigits q ++ [fig d] := by
      rw [← hdv, ← hqv]
      conv => lhs; unfold Go.Lib.decDigits
      split <;> rfl
    simp [hU0, e0_0, e0_4, hk, hkI, hm10, hd10, hwd, hlt, wf, hcap]
    refine ⟨by simp [strMax]; omega, ?_⟩
    refine ih0 (m0 - 1) _ (by omega) ?_ ?_ ⟨q, fig d :: s, by omega, ?_, by simp; omega, ?_⟩
    · simp [hU0, e0_0, e0_4]
    · simp [hU0, e0_0, e0_4]
    · by_cases h9 : k < 10
      · left
        rw [if_pos h9] at hk10
        have : d = k := by omega
        exact ⟨by omega, by rw [hdd, hk10, this]; rfl⟩
      · right
        rw [if_neg h9] at hk10
        exact ⟨by omega, by rw [hdd, hk10]; simp⟩
    · simp [hU0, e0_0, e0_4]
end Go.Proofs.YtomeglmblhfafaaGreatDoor

set_option linter.unusedVariables false
set_option linter.unusedSimpArgs false
set_option maxRecDepth 100000
namespace Go.Proofs.YtomeglmblhfafaaGreatDoor
open Go.Lft

theorem eq_DecimalAll (n : Nat) (h : n ≤ 1048576) : lim E 76 [.int .i64 (n : Int)] = some (.str (Go.Lib.decDigits n), []) := by
  have w : lim E 138 [.int .i64 (n : Int)] = some (.str (Go.Lib.decDigits n), []) := by
    rw [lim_ext ext138]
    simp only [extItoaT, Go.Lib.itoa]
    rw [if_pos ⟨by omega, by omega⟩, if_neg (by omega), Int.toNat_natCast]
  refine lim_run (E := E) rfl Tryz.func76 rfl (by kernel_rfl) (by kernel_rfl) ?_
  simp [Tryz.f76, tmpAt, w]
theorem decD_len : ∀ (f n : Nat), n < 10 ^ f → (Go.Lib.decDigits n).length ≤ f + 1 := by
  intro f
  induction f with
  | zero =>
    intro n h
    obtain rfl : n = 0 := by simpa using h
    unfold Go.Lib.decDigits
    simp
  | succ f ih =>
    intro n h
    unfold Go.Lib.decDigits
    split
    · simp
    · have := ih (n / 10) (by rw [Nat.pow_succ] at h; omega)
      simp
      omega
theorem dec_len8 (n : Nat) (h : n ≤ 1048576) : (Go.Lib.decDigits n).length ≤ 8 := decD_len 7 n (by omega)
end Go.Proofs.YtomeglmblhfafaaGreatDoor
