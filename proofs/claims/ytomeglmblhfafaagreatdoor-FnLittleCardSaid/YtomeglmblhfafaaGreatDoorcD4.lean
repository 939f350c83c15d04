/- Flags after a change; mails. -/
import Derived.Test.YtomeglmblhfafaaGreatDoorcD1
set_option linter.unusedSectionVars false
set_option linter.all false
set_option linter.unusedVariables false
set_option linter.unusedSimpArgs false
set_option maxRecDepth 100000
namespace Go.Proofs.YtomeglmblhfafaaGreatDoor
open Go.Lft

def andI (a b : Int) : Int := ((a.toNat &&& b.toNat : Nat) : Int)
def flagsAfter (old how bits : Int) : Int :=
  if (within old 0 31 && within bits 0 31) = true then
    (if how = 1 then bits else if how = 2 then old + bits - andI old bits else if how = 3 then old - andI old bits else old)
  else old
theorem within31 {a : Int} (h : within a 0 31 = true) : ∃ n : Fin 32, a = (n.val : Int) := by
  simp [within] at h
  exact ⟨⟨a.toNat, by omega⟩, by simp; omega⟩
theorem or_fin : ∀ a b : Fin 32, Go.Lft.Set.bOr .i64 (a.val : Int) (b.val : Int) = (a.val : Int) + (b.val : Int) - andI (a.val : Int) (b.val : Int) := of_decide_eq_true (by kernel_rfl)
theorem andNot_fin : ∀ a b : Fin 32, Go.Lft.Set.bAndNot .i64 (a.val : Int) (b.val : Int) = (a.val : Int) - andI (a.val : Int) (b.val : Int) := of_decide_eq_true (by kernel_rfl)
theorem andI_in : ∀ a b : Fin 32, 0 ≤ andI (a.val : Int) (b.val : Int) ∧ andI (a.val : Int) (b.val : Int) ≤ (a.val : Int) ∧ andI (a.val : Int) (b.val : Int) ≤ (b.val : Int) ∧ (a.val : Int) + (b.val : Int) - andI (a.val : Int) (b.val : Int) ≤ 31 := of_decide_eq_true (by kernel_rfl)
theorem flagsAfter_in {old how bits : Int} (h : within old 0 31 = true) : within (flagsAfter old how bits) 0 31 = true := by
  unfold flagsAfter
  split
  · rename_i h2
    simp at h2
    obtain ⟨a, rfl⟩ := within31 h
    obtain ⟨b, rfl⟩ := within31 h2.2
    have := andI_in a b
    split
    · exact h2.2
    · split
      · simp [within]; omega
      · split
        · simp [within]; omega
        · exact h
  · exact h
@[simp] theorem eq_FlagsAfter (old how bits : Int) : lim E 195 [.int .i64 old, .int .i64 how, .int .i64 bits] = some (.int .i64 (flagsAfter old how bits), []) := by
  refine lim_run (E := E) rfl Tryz.func195 rfl (by kernel_rfl) (by kernel_rfl) ?_
  simp [Tryz.f195, tmpAt]
  repeat' first | (refine RT_dec ?_ ?_ <;> intro hg <;> try simp [tmpAt, hg]) | (refine RT_split ?_ ?_ <;> intro hg <;> (try simp at hg) <;> try simp [tmpAt, hg]) | (refine RB_dec ?_ ?_ <;> intro hg <;> try simp [tmpAt, hg]) | (refine RB_ndec ?_ ?_ <;> intro hg <;> try simp [tmpAt, hg]) | (refine RB_split ?_ ?_ <;> intro hg <;> (try simp at hg) <;> try simp [tmpAt, hg]) | (refine RG_dec ?_ ?_ <;> intro hg <;> try simp [tmpAt, hg]) | (refine RG_split ?_ ?_ <;> intro hg <;> (try simp at hg) <;> try simp [tmpAt, hg])
  all_goals (try simp_all [flagsAfter])
  all_goals
    rename_i h1 h2
    obtain ⟨a, rfl⟩ := within31 h1
    obtain ⟨b, rfl⟩ := within31 h2
    first | exact or_fin a b | exact andNot_fin a b
theorem and_step (x i : Nat) : x % 2 ^ (i + 1) = x % 2 ^ i + 2 ^ i * (x / 2 ^ i % 2) := Nat.mod_pow_succ
theorem bit_and (a b i : Nat) : (a &&& b) / 2 ^ i % 2 = if a / 2 ^ i % 2 = 1 ∧ b / 2 ^ i % 2 = 1 then 1 else 0 := by
  have h1 := Nat.testBit_and a b i
  simp only [Nat.testBit_eq_decide_div_mod_eq] at h1
  by_cases ha : a / 2 ^ i % 2 = 1 <;> by_cases hb : b / 2 ^ i % 2 = 1 <;> simp [ha, hb] at h1 ⊢ <;> omega
theorem eq_l06And (a b : Fin 32) : lim E 189 [.int .i64 (a.val : Int), .int .i64 (b.val : Int)] = some (.int .i64 (andI (a.val : Int) (b.val : Int)), []) := by
  have ha := a.isLt
  have hb := b.isLt
  generalize a.val = x at *
  generalize b.val = y at *
  refine lim_run (E := E) rfl Tryz.func189 rfl (by kernel_rfl) (by kernel_rfl) ?_
  simp [Tryz.f189, tmpAt]
  refine loop_fr [0, 1] [] (fun m st => ∃ (i : Nat), i + m = 5 ∧ st.env 5 = .int .i64 (((x &&& y) % 2 ^ i : Nat) : Int) ∧ st.env 6 = .int .i64 ((2 ^ i : Nat) : Int)) (5) _ ?_ ?_
  · exact ⟨0, by simp [Nat.mod_one]⟩
  rintro m0 ⟨env, rs⟩ hU0 hV0 ⟨i, hi, e0_5, e0_6⟩ ih0; simp at hU0 e0_5 e0_6; clear hV0
  have hc : i = 0 ∨ i = 1 ∨ i = 2 ∨ i = 3 ∨ i = 4 ∨ i = 5 := by omega
  have hX : (x &&& y) ≤ 31 := Nat.le_trans Nat.and_le_left (by omega)
  rcases hc with rfl | rfl | rfl | rfl | rfl | rfl
  · have hb := bit_and x y 0
    have dx : (x : Int).tdiv 1 = (x : Int) := by simp
    have dy : (y : Int).tdiv 1 = (y : Int) := by simp
    have tx : ((x : Int)).tmod 2 = (x : Int) % 2 := Int.tmod_eq_emod_of_nonneg (by omega)
    have ty : ((y : Int)).tmod 2 = (y : Int) % 2 := Int.tmod_eq_emod_of_nonneg (by omega)
    have wx : IntKind.i64.wrap ((x : Int)) = (x : Int) := wrap_in (by omega) (by omega)
    have wy : IntKind.i64.wrap ((y : Int)) = (y : Int) := wrap_in (by omega) (by omega)
    have w1 : IntKind.i64.wrap 2 = 2 := wrap_in (by omega) (by omega)
    have w2 : IntKind.i64.wrap (((x &&& y : Nat) : Int) % 1 + 1) = ((x &&& y : Nat) : Int) % 1 + 1 := wrap_in (by omega) (by omega)
    generalize x &&& y = X at *
    simp at hb e0_5 e0_6 w2
    simp [hU0, e0_5, e0_6, tmpAt, dx, dy, tx, ty, wx, wy]
    repeat' first | (refine RT_dec ?_ ?_ <;> intro hg <;> try simp [tmpAt, hg, hU0, e0_5, e0_6, dx, dy, tx, ty, wx, wy]) | (refine RT_split ?_ ?_ <;> intro hg <;> (try simp at hg) <;> try simp [tmpAt, hg, hU0, e0_5, e0_6, dx, dy, tx, ty, wx, wy]) | (refine RB_dec ?_ ?_ <;> intro hg <;> try simp [tmpAt, hg, hU0, e0_5, e0_6, dx, dy, tx, ty, wx, wy]) | (refine RB_ndec ?_ ?_ <;> intro hg <;> try simp [tmpAt, hg, hU0, e0_5, e0_6, dx, dy, tx, ty, wx, wy]) | (refine RB_split ?_ ?_ <;> intro hg <;> (try simp at hg) <;> try simp [tmpAt, hg, hU0, e0_5, e0_6, dx, dy, tx, ty, wx, wy]) | (refine RG_dec ?_ ?_ <;> intro hg <;> try simp [tmpAt, hg, hU0, e0_5, e0_6, dx, dy, tx, ty, wx, wy]) | (refine RG_split ?_ ?_ <;> intro hg <;> (try simp at hg) <;> try simp [tmpAt, hg, hU0, e0_5, e0_6, dx, dy, tx, ty, wx, wy])
    all_goals
      refine ih0 (m0 - 1) _ (by omega) ?_ ?_ ⟨1, by omega, ?_⟩
      · simp [hU0, e0_5, e0_6]
      · simp [hU0, e0_5, e0_6]
      · simp [hU0, e0_5, e0_6, w1, w2]
        try (first | omega | (split at hb <;> omega))
  · have hb := bit_and x y 1
    have dx : (x : Int).tdiv 2 = (x : Int) / 2 := rfl
    have dy : (y : Int).tdiv 2 = (y : Int) / 2 := rfl
    have tx : ((x : Int) / 2).tmod 2 = (x : Int) / 2 % 2 := Int.tmod_eq_emod_of_nonneg (by omega)
    have ty : ((y : Int) / 2).tmod 2 = (y : Int) / 2 % 2 := Int.tmod_eq_emod_of_nonneg (by omega)
    have wx : IntKind.i64.wrap ((x : Int) / 2) = (x : Int) / 2 := wrap_in (by omega) (by omega)
    have wy : IntKind.i64.wrap ((y : Int) / 2) = (y : Int) / 2 := wrap_in (by omega) (by omega)
    have w1 : IntKind.i64.wrap 4 = 4 := wrap_in (by omega) (by omega)
    have w2 : IntKind.i64.wrap (((x &&& y : Nat) : Int) % 2 + 2) = ((x &&& y : Nat) : Int) % 2 + 2 := wrap_in (by omega) (by omega)
    generalize x &&& y = X at *
    simp at hb e0_5 e0_6 w2
    simp [hU0, e0_5, e0_6, tmpAt, dx, dy, tx, ty, wx, wy]
    repeat' first | (refine RT_dec ?_ ?_ <;> intro hg <;> try simp [tmpAt, hg, hU0, e0_5, e0_6, dx, dy, tx, ty, wx, wy]) | (refine RT_split ?_ ?_ <;> intro hg <;> (try simp at hg) <;> try simp [tmpAt, hg, hU0, e0_5, e0_6, dx, dy, tx, ty, wx, wy]) | (refine RB_dec ?_ ?_ <;> intro hg <;> try simp [tmpAt, hg, hU0, e0_5, e0_6, dx, dy, tx, ty, wx, wy]) | (refine RB_ndec ?_ ?_ <;> intro hg <;> try simp [tmpAt, hg, hU0, e0_5, e0_6, dx, dy, tx, ty, wx, wy]) | (refine RB_split ?_ ?_ <;> intro hg <;> (try simp at hg) <;> try simp [tmpAt, hg, hU0, e0_5, e0_6, dx, dy, tx, ty, wx, wy]) | (refine RG_dec ?_ ?_ <;> intro hg <;> try simp [tmpAt, hg, hU0, e0_5, e0_6, dx, dy, tx, ty, wx, wy]) | (refine RG_split ?_ ?_ <;> intro hg <;> (try simp at hg) <;> try simp [tmpAt, hg, hU0, e0_5, e0_6, dx, dy, tx, ty, wx, wy])
    all_goals
      refine ih0 (m0 - 1) _ (by omega) ?_ ?_ ⟨2, by omega, ?_⟩
      · simp [hU0, e0_5, e0_6]
      · simp [hU0, e0_5, e0_6]
      · simp [hU0, e0_5, e0_6, w1, w2]
        try (first | omega | (split at hb <;> omega))
  · have hb := bit_and x y 2
    have dx : (x : Int).tdiv 4 = (x : Int) / 4 := rfl
    have dy : (y : Int).tdiv 4 = (y : Int) / 4 := rfl
    have tx : ((x : Int) / 4).tmod 2 = (x : Int) / 4 % 2 := Int.tmod_eq_emod_of_nonneg (by omega)
    have ty : ((y : Int) / 4).tmod 2 = (y : Int) / 4 % 2 := Int.tmod_eq_emod_of_nonneg (by omega)
    have wx : IntKind.i64.wrap ((x : Int) / 4) = (x : Int) / 4 := wrap_in (by omega) (by omega)
    have wy : IntKind.i64.wrap ((y : Int) / 4) = (y : Int) / 4 := wrap_in (by omega) (by omega)
    have w1 : IntKind.i64.wrap 8 = 8 := wrap_in (by omega) (by omega)
    have w2 : IntKind.i64.wrap (((x &&& y : Nat) : Int) % 4 + 4) = ((x &&& y : Nat) : Int) % 4 + 4 := wrap_in (by omega) (by omega)
    generalize x &&& y = X at *
    simp at hb e0_5 e0_6 w2
    simp [hU0, e0_5, e0_6, tmpAt, dx, dy, tx, ty, wx, wy]
    repeat' first | (refine RT_dec ?_ ?_ <;> intro hg <;> try simp [tmpAt, hg, hU0, e0_5, e0_6, dx, dy, tx, ty, wx, wy]) | (refine RT_split ?_ ?_ <;> intro hg <;> (try simp at hg) <;> try simp [tmpAt, hg, hU0, e0_5, e0_6, dx, dy, tx, ty, wx, wy]) | (refine RB_dec ?_ ?_ <;> intro hg <;> try simp [tmpAt, hg, hU0, e0_5, e0_6, dx, dy, tx, ty, wx, wy]) | (refine RB_ndec ?_ ?_ <;> intro hg <;> try simp [tmpAt, hg, hU0, e0_5, e0_6, dx, dy, tx, ty, wx, wy]) | (refine RB_split ?_ ?_ <;> intro hg <;> (try simp at hg) <;> try simp [tmpAt, hg, hU0, e0_5, e0_6, dx, dy, tx, ty, wx, wy]) | (refine RG_dec ?_ ?_ <;> intro hg <;> try simp [tmpAt, hg, hU0, e0_5, e0_6, dx, dy, tx, ty, wx, wy]) | (refine RG_split ?_ ?_ <;> intro hg <;> (try simp at hg) <;> try simp [tmpAt, hg, hU0, e0_5, e0_6, dx, dy, tx, ty, wx, wy])
    all_goals
      refine ih0 (m0 - 1) _ (by omega) ?_ ?_ ⟨3, by omega, ?_⟩
      · simp [hU0, e0_5, e0_6]
      · simp [hU0, e0_5, e0_6]
      · simp [hU0, e0_5, e0_6, w1, w2]
        try (first | omega | (split at hb <;> omega))
  · have hb := bit_and x y 3
    have dx : (x : Int).tdiv 8 = (x : Int) / 8 := rfl
    have dy : (y : Int).tdiv 8 = (y : Int) / 8 := rfl
    have tx : ((x : Int) / 8).tmod 2 = (x : Int) / 8 % 2 := Int.tmod_eq_emod_of_nonneg (by omega)
    have ty : ((y : Int) / 8).tmod 2 = (y : Int) / 8 % 2 := Int.tmod_eq_emod_of_nonneg (by omega)
    have wx : IntKind.i64.wrap ((x : Int) / 8) = (x : Int) / 8 := wrap_in (by omega) (by omega)
    have wy : IntKind.i64.wrap ((y : Int) / 8) = (y : Int) / 8 := wrap_in (by omega) (by omega)
    have w1 : IntKind.i64.wrap 16 = 16 := wrap_in (by omega) (by omega)
    have w2 : IntKind.i64.wrap (((x &&& y : Nat) : Int) % 8 + 8) = ((x &&& y : Nat) : Int) % 8 + 8 := wrap_in (by omega) (by omega)
    generalize x &&& y = X at *
    simp at hb e0_5 e0_6 w2
    simp [hU0, e0_5, e0_6, tmpAt, dx, dy, tx, ty, wx, wy]
    repeat' first | (refine RT_dec ?_ ?_ <;> intro hg <;> try simp [tmpAt, hg, hU0, e0_5, e0_6, dx, dy, tx, ty, wx, wy]) | (refine RT_split ?_ ?_ <;> intro hg <;> (try simp at hg) <;> try simp [tmpAt, hg, hU0, e0_5, e0_6, dx, dy, tx, ty, wx, wy]) | (refine RB_dec ?_ ?_ <;> intro hg <;> try simp [tmpAt, hg, hU0, e0_5, e0_6, dx, dy, tx, ty, wx, wy]) | (refine RB_ndec ?_ ?_ <;> intro hg <;> try simp [tmpAt, hg, hU0, e0_5, e0_6, dx, dy, tx, ty, wx, wy]) | (refine RB_split ?_ ?_ <;> intro hg <;> (try simp at hg) <;> try simp [tmpAt, hg, hU0, e0_5, e0_6, dx, dy, tx, ty, wx, wy]) | (refine RG_dec ?_ ?_ <;> intro hg <;> try simp [tmpAt, hg, hU0, e0_5, e0_6, dx, dy, tx, ty, wx, wy]) | (refine RG_split ?_ ?_ <;> intro hg <;> (try simp at hg) <;> try simp [tmpAt, hg, hU0, e0_5, e0_6, dx, dy, tx, ty, wx, wy])
    all_goals
      refine ih0 (m0 - 1) _ (by omega) ?_ ?_ ⟨4, by omega, ?_⟩
      · simp [hU0, e0_5, e0_6]
      · simp [hU0, e0_5, e0_6]
      · simp [hU0, e0_5, e0_6, w1, w2]
        try (first | omega | (split at hb <;> omega))
  · have hb := bit_and x y 4
    have dx : (x : Int).tdiv 16 = (x : Int) / 16 := rfl
    have dy : (y : Int).tdiv 16 = (y : Int) / 16 := rfl
    have tx : ((x : Int) / 16).tmod 2 = (x : Int) / 16 % 2 := Int.tmod_eq_emod_of_nonneg (by omega)
    have ty : ((y : Int) / 16).tmod 2 = (y : Int) / 16 % 2 := Int.tmod_eq_emod_of_nonneg (by omega)
    have wx : IntKind.i64.wrap ((x : Int) / 16) = (x : Int) / 16 := wrap_in (by omega) (by omega)
    have wy : IntKind.i64.wrap ((y : Int) / 16) = (y : Int) / 16 := wrap_in (by omega) (by omega)
    have w1 : IntKind.i64.wrap 32 = 32 := wrap_in (by omega) (by omega)
    have w2 : IntKind.i64.wrap (((x &&& y : Nat) : Int) % 16 + 16) = ((x &&& y : Nat) : Int) % 16 + 16 := wrap_in (by omega) (by omega)
    generalize x &&& y = X at *
    simp at hb e0_5 e0_6 w2
    simp [hU0, e0_5, e0_6, tmpAt, dx, dy, tx, ty, wx, wy]
    repeat' first | (refine RT_dec ?_ ?_ <;> intro hg <;> try simp [tmpAt, hg, hU0, e0_5, e0_6, dx, dy, tx, ty, wx, wy]) | (refine RT_split ?_ ?_ <;> intro hg <;> (try simp at hg) <;> try simp [tmpAt, hg, hU0, e0_5, e0_6, dx, dy, tx, ty, wx, wy]) | (refine RB_dec ?_ ?_ <;> intro hg <;> try simp [tmpAt, hg, hU0, e0_5, e0_6, dx, dy, tx, ty, wx, wy]) | (refine RB_ndec ?_ ?_ <;> intro hg <;> try simp [tmpAt, hg, hU0, e0_5, e0_6, dx, dy, tx, ty, wx, wy]) | (refine RB_split ?_ ?_ <;> intro hg <;> (try simp at hg) <;> try simp [tmpAt, hg, hU0, e0_5, e0_6, dx, dy, tx, ty, wx, wy]) | (refine RG_dec ?_ ?_ <;> intro hg <;> try simp [tmpAt, hg, hU0, e0_5, e0_6, dx, dy, tx, ty, wx, wy]) | (refine RG_split ?_ ?_ <;> intro hg <;> (try simp at hg) <;> try simp [tmpAt, hg, hU0, e0_5, e0_6, dx, dy, tx, ty, wx, wy])
    all_goals
      refine ih0 (m0 - 1) _ (by omega) ?_ ?_ ⟨5, by omega, ?_⟩
      · simp [hU0, e0_5, e0_6]
      · simp [hU0, e0_5, e0_6]
      · simp [hU0, e0_5, e0_6, w1, w2]
        try (first | omega | (split at hb <;> omega))
  · generalize hq : x &&& y = X at *
    simp at e0_5 e0_6
    simp [hU0, e0_5, e0_6, andI, hq]
    omega
@[simp] theorem eq_sFlagsAfter (old how bits : Int) : lim E 190 [.int .i64 old, .int .i64 how, .int .i64 bits] = some (.int .i64 (flagsAfter old how bits), []) := by
  by_cases hin : within old 0 31 = true ∧ within bits 0 31 = true
  · obtain ⟨h1, h2⟩ := hin
    have h1' := h1
    have h2' := h2
    obtain ⟨a, rfl⟩ := within31 h1
    obtain ⟨b, rfl⟩ := within31 h2
    have w := eq_l06And a b
    have hb := andI_in a b
    have ha := a.isLt
    have hbl := b.isLt
    have w1 : IntKind.i64.wrap ((a.val : Int) + (b.val : Int)) = (a.val : Int) + (b.val : Int) := wrap_in (by omega) (by omega)
    have w2 : IntKind.i64.wrap ((a.val : Int) + (b.val : Int) - andI (a.val : Int) (b.val : Int)) = (a.val : Int) + (b.val : Int) - andI (a.val : Int) (b.val : Int) := wrap_in (by omega) (by omega)
    have w3 : IntKind.i64.wrap ((a.val : Int) - andI (a.val : Int) (b.val : Int)) = (a.val : Int) - andI (a.val : Int) (b.val : Int) := wrap_in (by omega) (by omega)
    refine lim_run (E := E) rfl Tryz.func190 rfl (by kernel_rfl) (by kernel_rfl) ?_
    simp [Tryz.f190, tmpAt, h1', h2']
    repeat' first | (refine RT_dec ?_ ?_ <;> intro hg <;> try simp [tmpAt, hg, w, w1, w2, w3]) | (refine RT_split ?_ ?_ <;> intro hg <;> (try simp at hg) <;> try simp [tmpAt, hg, w, w1, w2, w3]) | (refine RB_dec ?_ ?_ <;> intro hg <;> try simp [tmpAt, hg, w, w1, w2, w3]) | (refine RB_ndec ?_ ?_ <;> intro hg <;> try simp [tmpAt, hg, w, w1, w2, w3]) | (refine RB_split ?_ ?_ <;> intro hg <;> (try simp at hg) <;> try simp [tmpAt, hg, w, w1, w2, w3]) | (refine RG_dec ?_ ?_ <;> intro hg <;> try simp [tmpAt, hg, w, w1, w2, w3]) | (refine RG_split ?_ ?_ <;> intro hg <;> (try simp at hg) <;> try simp [tmpAt, hg, w, w1, w2, w3])
    all_goals simp_all [flagsAfter]
  · refine lim_run (E := E) rfl Tryz.func190 rfl (by kernel_rfl) (by kernel_rfl) ?_
    simp [Tryz.f190, tmpAt]
    repeat' first | (refine RT_dec ?_ ?_ <;> intro hg <;> try simp [tmpAt, hg]) | (refine RT_split ?_ ?_ <;> intro hg <;> (try simp at hg) <;> try simp [tmpAt, hg]) | (refine RB_dec ?_ ?_ <;> intro hg <;> try simp [tmpAt, hg]) | (refine RB_ndec ?_ ?_ <;> intro hg <;> try simp [tmpAt, hg]) | (refine RB_split ?_ ?_ <;> intro hg <;> (try simp at hg) <;> try simp [tmpAt, hg]) | (refine RG_dec ?_ ?_ <;> intro hg <;> try simp [tmpAt, hg]) | (refine RG_split ?_ ?_ <;> intro hg <;> (try simp at hg) <;> try simp [tmpAt, hg])
    all_goals simp_all [flagsAfter]
/-! ### Mails -/
def noZero (t : S) : Bool := t.all (fun b => decide (b ≠ 0))
def mailOk (t : S) : Bool := noZero t && within t.length 1 200
theorem indexByte_neg (t : S) : (Go.Lib.indexByte t 0 < 0) ↔ noZero t = true := by
  unfold noZero
  induction t with
  | nil => simp [Go.Lib.indexByte]
  | cons b t ih =>
    have hg := Go.Lib.indexByte_ge t 0
    simp only [Go.Lib.indexByte, List.all_cons, Bool.and_eq_true, decide_eq_true_eq, beq_iff_eq]
    by_cases hb : b = 0
    · simp [hb]
    · rw [if_neg hb]
      by_cases h1 : Go.Lib.indexByte t 0 = -1
      · rw [if_pos h1]; simp [hb]; have := ih.1 (by omega); simpa using this
      · rw [if_neg h1]
        constructor
        · intro h; omega
        · intro h; have := ih.2 h.2; omega
@[simp] theorem eq_IndexByteString (s : S) (c : Int) : lim E 265 [.str s, .int .u8 c] = some (.int .i64 (Go.Lib.indexByte s c.toNat.toUInt8), []) := lim_ext ext265
@[simp] theorem eq_sIndexByte (s : S) (c : Int) : lim E 238 [.str s, .int .u8 c] = some (.int .i64 (Go.Lib.indexByte s c.toNat.toUInt8), []) := by
  refine lim_run (E := E) rfl Tryz.func238 rfl (by kernel_rfl) (by kernel_rfl) ?_
  simp [Tryz.f238, tmpAt]
@[simp] theorem eq_IndexByte (s : S) (c : Int) : lim E 194 [.str s, .int .u8 c] = some (.int .i64 (Go.Lib.indexByte s c.toNat.toUInt8), []) := by
  refine lim_run (E := E) rfl Tryz.func194 rfl (by kernel_rfl) (by kernel_rfl) ?_
  simp [Tryz.f194, tmpAt]
@[simp] theorem eq_MailOk (t : S) : lim E 130 [.str t] = some (.bool (mailOk t), []) := by
  have hi := indexByte_neg t
  refine lim_run (E := E) rfl Tryz.func130 rfl (by kernel_rfl) (by kernel_rfl) ?_
  simp [Tryz.f130, tmpAt]
  repeat' first | (refine RT_dec ?_ ?_ <;> intro hg <;> try simp [tmpAt, hg]) | (refine RT_split ?_ ?_ <;> intro hg <;> (try simp at hg) <;> try simp [tmpAt, hg]) | (refine RB_dec ?_ ?_ <;> intro hg <;> try simp [tmpAt, hg]) | (refine RB_ndec ?_ ?_ <;> intro hg <;> try simp [tmpAt, hg]) | (refine RB_split ?_ ?_ <;> intro hg <;> (try simp at hg) <;> try simp [tmpAt, hg]) | (refine RG_dec ?_ ?_ <;> intro hg <;> try simp [tmpAt, hg]) | (refine RG_split ?_ ?_ <;> intro hg <;> (try simp at hg) <;> try simp [tmpAt, hg])
  all_goals simp_all [mailOk]
@[simp] theorem eq_sMailOk (t : S) (hl : t.length ≤ 16777216) : lim E 117 [.str t] = some (.bool (mailOk t), []) := by
  refine lim_run (E := E) rfl Tryz.func117 rfl (by kernel_rfl) (by kernel_rfl) ?_
  simp [Tryz.f117, tmpAt]
  refine loop_fr [0] [] (fun m st => ∃ (i : Nat), i + m = t.length ∧ (t.take i).all (fun b => decide (b ≠ 0)) = true ∧ st.env 3 = .int .i64 i) (t.length) _ ?_ ?_
  · exact ⟨0, by simp⟩
  rintro m0 ⟨env, rs⟩ hU0 hV0 ⟨i, hi, hs, e0_3⟩ ih0; simp at hU0 e0_3; clear hV0
  have hw := wrap_up (show i < 4611686018427387904 by omega)
  simp [hU0, e0_3]
  refine RB_dec ?_ ?_ <;> intro h
  · have hb : t[i].toNat = 0 ↔ t[i] = 0 := by rw [← UInt8.toNat_inj]; simp
    simp [hU0, e0_3, h, hb]
    refine RB_dec ?_ ?_ <;> intro h2
    · have hb : noZero t = false := all_bad (f := fun b : UInt8 => decide (b ≠ 0)) h (by simp [h2])
      simp [mailOk, hb]
    · simp [hU0, e0_3]
      refine ih0 (m0 - 1) _ (by omega) ?_ ?_ ⟨i + 1, by omega, all_next h hs (by simpa using h2), ?_⟩
      · simp [hU0, e0_3]
      · simp [hU0, e0_3]
      simp [hU0, e0_3, hw]
  · have hb : noZero t = true := all_take h hs
    simp [hU0, e0_3, h, mailOk, hb]
end Go.Proofs.YtomeglmblhfafaaGreatDoor
