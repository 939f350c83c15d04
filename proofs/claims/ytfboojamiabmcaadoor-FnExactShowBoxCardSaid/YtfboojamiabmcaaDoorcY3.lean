/- Flags as texts: FlagsText of both. -/
import Derived.Test.YtfboojamiabmcaaDoorcY1
set_option linter.unusedSectionVars false
set_option linter.all false
set_option linter.unusedVariables false
set_option linter.unusedSimpArgs false
set_option maxRecDepth 100000
namespace Go.Proofs.YtfboojamiabmcaaDoor
open Go.Lft

def flagN : List S := [[115, 101, 101, 110], [97, 110, 115, 119, 101, 114, 101, 100], [102, 108, 97, 103, 103, 101, 100], [100, 101, 108, 101, 116, 101, 100], [100, 114, 97, 102, 116]]
def flUp (b : Nat) : Nat → List S
  | 0 => []
  | i + 1 => if b.testBit i = true then flUp b i ++ [flagN.getD i []] else flUp b i
def tUp (b : Nat) : Nat → S
  | 0 => []
  | i + 1 => if b.testBit i = true then (if tUp b i = [] then tUp b i else tUp b i ++ [32]) ++ flagN.getD i [] else tUp b i
def flT (b : Nat) : S := 40 :: (tUp b 5 ++ [41])
theorem join_flags : ∀ b < 32, Go.Lib.join (flUp b 5) [32] = tUp b 5 := by decide +kernel
theorem flT_len : ∀ b < 32, (tUp b 5).length ≤ 40 := by decide +kernel
theorem flT_line : ∀ b < 32, (flT b).count 10 = 0 := by decide +kernel
theorem fl_len : ∀ b i : Nat, (flUp b i).length ≤ i := by
  intro b i
  induction i with
  | zero => simp [flUp]
  | succ i ih =>
    simp only [flUp]
    split
    · simp; omega
    · omega
theorem t_len : ∀ (b i : Nat), i ≤ 5 → (tUp b i).length ≤ 10 * i := by
  intro b i
  induction i with
  | zero => simp [tUp]
  | succ i ih =>
    intro h
    have h1 := ih (by omega)
    have h2 : (flagN.getD i []).length ≤ 8 := by
      match i, h with
      | 0, _ => decide
      | 1, _ => decide
      | 2, _ => decide
      | 3, _ => decide
      | 4, _ => decide
    simp only [tUp]
    split
    · split
      · rename_i h0
        rw [h0]
        simp
        simp at h2
        omega
      · simp
        simp at h2
        omega
    · omega
theorem bin_shr' {T : Tb} {t : Nat} {k j : IntKind} {a b : Int} : binEff T .shr t (.int k a) (.int j b) = if b < 0 then none else some (.int k (a.fdiv (2 ^ (min b.toNat k.bits)))) := rfl
theorem bit_and : ∀ b < 32, ∀ i < 5, decide (Set.bAnd IntKind.i64 (Int.fdiv (b : Nat) (2 ^ i)) 1 = 1) = Nat.testBit b i := by decide +kernel
theorem bit_quo : ∀ b < 32, ∀ i < 5, decide (b / 2 ^ i % 2 = 1) = Nat.testBit b i := by decide +kernel
theorem eq_flagNames : lim E 56 [] = some (.lst true 9 1 (flagN.map .str), []) := by
  refine lim_run (E := E) rfl Tryd.func56 rfl (by kernel_rfl) (by kernel_rfl) ?_
  simp [Tryd.f56, tmpAt]
  simp [flagN]
theorem eq_l06Names : lim E 46 [] = some (.lst true 9 1 (flagN.map .str), []) := by
  refine lim_run (E := E) rfl Tryd.func46 rfl (by kernel_rfl) (by kernel_rfl) ?_
  simp [Tryd.f46, tmpAt]
  simp [flagN]
set_option maxHeartbeats 2000000 in
theorem eq_FlagsText (b : Nat) (hb : b < 32) : lim E 24 [.int .i64 (b : Int)] = some (.str (flT b), []) := by
  have hw : within (b : Int) 0 31 = true := by simp [within]; omega
  have w := eq_flagNames
  have hN : flagN.length = 5 := rfl
  refine lim_run (E := E) rfl Tryd.func24 rfl (by kernel_rfl) (by kernel_rfl) ?_
  simp [Tryd.f24, tmpAt, hw, w, hN]
  refine loop_fr [0, 10, 11] [(10,0)] (fun m st => ∃ (i r : Nat), i + m = 5 ∧ (r = 9 ∨ r = 25) ∧ st.env 3 = .slc (r,0) [] 0 (flUp b i).length ∧ st.rs (r,0) = some ⟨false, .lst true 9 1 ((flUp b i).map .str)⟩ ∧ st.env 12 = .int .i64 i) (5) _ ?_ ?_
  · exact ⟨0, 9, by simp [flUp]⟩
  rintro m0 ⟨env, rs⟩ hU0 hV0 ⟨i, r, hi, hr, e3, q3, e0_12⟩ ih0; simp at hU0 hV0 e0_12
  simp at e3 q3
  have hu := wrap_up (show i < 4611686018427387904 by omega)
  have hl := fl_len b i
  simp [hU0, hV0, e0_12, e3]
  refine RB_dec ?_ ?_ <;> intro h
  · have hbit := bit_and b hb i (by omega)
    have hmin : min i 64 = i := by omega
    have hneg : ¬ (i : Int) < 0 := by omega
    obtain ⟨nm, hget⟩ : ∃ nm, flagN[i]? = some nm := ⟨_, List.getElem?_eq_getElem (show i < flagN.length by omega)⟩
    have hgn : flagN.getD i [] = nm := by simp [hget]
    have hstep : flUp b (i + 1) = if b.testBit i = true then flUp b i ++ [nm] else flUp b i := by rw [← hgn]; rfl
    have hr2 := hr
    rcases hr with rfl | rfl
    all_goals
      simp [hU0, hV0, e0_12, e3, q3, h, hN, hget, bin_shr', IntKind.bits, hmin, hneg]
      rw [hbit]
      cases hg : b.testBit i
      · simp [hU0, hV0, e0_12, e3]
        refine ih0 (m0 - 1) _ (by omega) ?_ ?_ ⟨i + 1, _, by omega, hr2, ?_⟩
        · simp [hU0, hV0, e0_12]
        · simp [hU0, hV0, e0_12]
        simp [hU0, hV0, e0_12, hu, e3, q3, hstep, hg]
      · simp [hU0, hV0, e0_12, e3, q3]
        repeat (refine And.intro (by first | omega | (simp; omega)) ?_)
        refine ih0 (m0 - 1) _ (by omega) ?_ ?_ ⟨i + 1, 25, by omega, .inr rfl, ?_⟩
        · simp [hU0, hV0, e0_12]
        · simp [hU0, hV0, e0_12]
        simp [hU0, hV0, e0_12, hu, hstep, hg]
  · obtain rfl : i = 5 := by omega
    have hj := join_flags b hb
    have h40 := flT_len b hb
    have wj := eq_Join (flUp b 5) [32] (by omega) (by rw [hj]; omega)
    rw [hj] at wj
    try simp at wj
    rcases hr with rfl | rfl
    all_goals
      simp [hU0, hV0, e0_12, e3, q3, hN, wj]
      exact ⟨by simp [strMax]; omega, by simp [strMax]; omega, by simp [flT]⟩
set_option maxHeartbeats 2000000 in
theorem eq_sFlagsText (b : Nat) (hb : b < 32) : lim E 19 [.int .i64 (b : Int)] = some (.str (flT b), []) := by
  have hw : within (b : Int) 0 31 = true := by simp [within]; omega
  have w := eq_l06Names
  have hN : flagN.length = 5 := rfl
  refine lim_run (E := E) rfl Tryd.func19 rfl (by kernel_rfl) (by kernel_rfl) ?_
  simp [Tryd.f19, tmpAt, hw, w, hN]
  refine loop_fr [0, 4] [(10,0)] (fun m st => ∃ (i q : Nat), i + m = 5 ∧ q = 2 ^ i ∧ st.env 3 = .str (tUp b i) ∧ st.env 5 = .int .i64 q ∧ st.env 6 = .int .i64 i) (5) _ ?_ ?_
  · exact ⟨0, 1, by simp [tUp]⟩
  rintro m0 ⟨env, rs⟩ hU0 hV0 ⟨i, q, hi, hq, e0_3, e0_5, e0_6⟩ ih0; simp at hU0 hV0 e0_3 e0_5 e0_6
  have hu := wrap_up (show i < 4611686018427387904 by omega)
  have hl := t_len b i (by omega)
  simp [hU0, hV0, e0_3, e0_5, e0_6, hN]
  refine RB_dec ?_ ?_ <;> intro h
  · have hbit := bit_quo b hb i (by omega)
    have hp : (2 : Nat) ^ i ≤ 16 := by
      match i, h with
      | 0, _ => decide
      | 1, _ => decide
      | 2, _ => decide
      | 3, _ => decide
      | 4, _ => decide
    have hp0 : 0 < (2 : Nat) ^ i := Nat.pow_pos (by omega)
    have hstep : tUp b (i + 1) = if b.testBit i = true then (if tUp b i = [] then tUp b i else tUp b i ++ [32]) ++ flagN.getD i [] else tUp b i := rfl
    have hp2 : (2 : Nat) ^ (i + 1) = 2 * 2 ^ i := by rw [Nat.pow_succ]; omega
    rw [← hq] at hbit hp hp0 hp2
    have hq0 : ¬ q = 0 := by omega
    have hdb : b / q ≤ b := Nat.div_le_self ..
    obtain ⟨d, hd⟩ : ∃ d : Nat, b / q = d := ⟨_, rfl⟩
    rw [hd] at hbit hdb
    have hdI : IntKind.i64.wrap ((b : Int) / (q : Int)) = (d : Int) := by
      have : ((b : Int) / (q : Int)) = ((b / q : Nat) : Int) := by simp
      rw [this, hd, wrap_in (by omega) (by omega)]
    have hdm : (d : Int).tmod 2 = ((d % 2 : Nat) : Int) := by rw [Int.tmod_eq_emod_of_nonneg (by omega)]; omega
    obtain ⟨r, hr⟩ : ∃ r : Nat, d % 2 = r := ⟨_, rfl⟩
    rw [hr] at hbit hdm
    have hw2 : IntKind.i64.wrap (2 * (q : Int)) = 2 * q := wrap_in (by omega) (by omega)
    obtain ⟨nm, hget⟩ : ∃ nm, flagN[i]? = some nm := ⟨_, List.getElem?_eq_getElem (show i < flagN.length by omega)⟩
    have hgn : flagN.getD i [] = nm := by simp [hget]
    rw [hgn] at hstep
    cases hg : b.testBit i
    · rw [hg] at hbit
      have hr1 : ¬ r = 1 := by simpa using hbit
      have hr2 : ¬ (r : Int) = 1 := by omega
      simp [hU0, hV0, e0_3, e0_5, e0_6, h, hN, hget, hq0, hdI, hdm, hr1, hr2]
      refine ih0 (m0 - 1) _ (by omega) ?_ ?_ ⟨i + 1, 2 * q, by omega, by omega, ?_⟩
      · simp [hU0, hV0, e0_3, e0_5, e0_6]
      · simp [hU0, hV0, e0_3, e0_5, e0_6]
      simp [hU0, hV0, e0_3, e0_5, e0_6, hu, hstep, hg, hw2]
    · rw [hg] at hbit
      have hr1 : r = 1 := by simpa using hbit
      simp [hU0, hV0, e0_3, e0_5, e0_6, h, hN, hget, hq0, hdI, hdm, hr1]
      have hnl : nm.length ≤ 8 := by
        have : ∀ x ∈ flagN, x.length ≤ 8 := by decide
        exact this _ (List.mem_of_getElem? hget)
      by_cases he : tUp b i = []
      · simp [hU0, hV0, e0_3, e0_5, e0_6, h, hN, hget, he]
        refine ⟨by simp [strMax]; omega, ?_⟩
        refine ih0 (m0 - 1) _ (by omega) ?_ ?_ ⟨i + 1, 2 * q, by omega, by omega, ?_⟩
        · simp [hU0, hV0, e0_3, e0_5, e0_6]
        · simp [hU0, hV0, e0_3, e0_5, e0_6]
        simp [hU0, hV0, e0_3, e0_5, e0_6, hu, hstep, hg, hw2, he]
      · simp [hU0, hV0, e0_3, e0_5, e0_6, h, hN, hget, he]
        refine ⟨by simp [strMax]; omega, by simp [strMax]; omega, ?_⟩
        refine ih0 (m0 - 1) _ (by omega) ?_ ?_ ⟨i + 1, 2 * q, by omega, by omega, ?_⟩
        · simp [hU0, hV0, e0_3, e0_5, e0_6]
        · simp [hU0, hV0, e0_3, e0_5, e0_6]
        simp [hU0, hV0, e0_3, e0_5, e0_6, hu, hstep, hg, hw2, he]
  · obtain rfl : i = 5 := by omega
    have h40 := flT_len b hb
    simp [hU0, hV0, e0_3, e0_5, e0_6, hN]
    exact ⟨by simp [strMax]; omega, by simp [strMax]; omega, by simp [flT]⟩
end Go.Proofs.YtfboojamiabmcaaDoor
