/- Boxes: the program's BoxOk. -/
import Derived.Test.YtomeglmblhfafaaGreatDoorcD5
set_option linter.unusedSectionVars false
set_option linter.all false
set_option linter.unusedVariables false
set_option linter.unusedSimpArgs false
set_option maxRecDepth 100000
namespace Go.Proofs.YtomeglmblhfafaaGreatDoor
open Go.Lft

@[simp] theorem eq_tombsOk1 (a b : Tomb) : lim E 214 [.agg [.int .i64 a.uid, .int .i64 a.mod], .pto (.agg [.int .i64 b.uid, .int .i64 b.mod])] = some (.bool (decide (a.uid = b.uid)), []) := by
  refine lim_run (E := E) rfl Tryz.func214 rfl (by kernel_rfl) (by kernel_rfl) ?_
  simp [Tryz.f214, tmpAt]
set_option maxHeartbeats 1000000 in
theorem eq_tombsOk (b : Box) (hl : b.mails.length ≤ 16777216) (hl2 : b.tombs.length ≤ 16777216) (hn : 1 ≤ b.next) (hn2 : b.next ≤ 9999) (hh : 0 ≤ b.horizon) (hh2 : b.horizon ≤ 100000) : lim E 157 [encBox false false b] = some (.bool (decide (TombsOK b)), []) := by
  have hwn : IntKind.i64.wrap (b.next - 1) = b.next - 1 := wrap_in (by omega) (by omega)
  have hwh : IntKind.i64.wrap (b.horizon + 1) = b.horizon + 1 := wrap_in (by omega) (by omega)
  refine lim_run (E := E) rfl Tryz.func157 rfl (by kernel_rfl) (by kernel_rfl) ?_
  simp [Tryz.f157, tmpAt]
  refine loop_fr [1, 7, 8] [(1,0)] (fun m st => ∃ (i : Nat), i + m = b.tombs.length ∧ upto b.tombs (tombsGood b) i ∧ st.env 9 = .int .i64 i) (b.tombs.length) _ ?_ ?_
  · exact ⟨0, by simp [upto_zero]⟩
  rintro m0 ⟨env, rs⟩ hU0 hV0 ⟨i, hi, ha, e0_9⟩ ih0; simp at hU0 hV0 e0_9
  have hw := wrap_up (show i < 4611686018427387904 by omega)
  simp [hU0, hV0, e0_9]
  refine RB_dec ?_ ?_ <;> intro h
  · have wc := eq_ContainsFuncTomb (b.tombs.take i) 214 (encTomb b.tombs[i]) (fun t => decide (t.uid = b.tombs[i].uid)) rfl (fun m _ => by simp) (by simp; omega)
    have hT : (b.tombs.take i).any (fun t => decide (t.uid = b.tombs[i].uid)) = hasTomb (b.tombs.take i) b.tombs[i].uid := rfl
    rw [hT] at wc
    try simp at wc
    have wm := eq_mailAt b b.tombs[i].uid hl
    try simp at wm
    have hM := idxOf_neg (p := fun m : Mail => decide (m.uid = b.tombs[i].uid)) (xs := b.mails)
    have hM2 : b.mails.any (fun m => decide (m.uid = b.tombs[i].uid)) = hasUid b.mails b.tombs[i].uid := rfl
    rw [hM2] at hM
    have hle : (i : Int) ≤ b.tombs.length := by omega
    have hle2 : i ≤ b.tombs.length := by omega
    by_cases hi0 : 0 < i
    · have hp : IntKind.i64.wrap ((i : Int) - 1) = ((i - 1 : Nat) : Int) := by rw [wrap_in (by omega) (by omega)]; omega
      have hlt : i - 1 < b.tombs.length := by omega
      have hi1 : i ≠ 0 := by omega
      have hmg : tombsGood b i b.tombs[i] = tombGood b (b.tombs.take i) (some b.tombs[i-1]) b.tombs[i] := by simp [tombsGood, prevOf, hi1, hlt]
      simp [hU0, hV0, e0_9, h, tmpAt, hi0, hwn, hwh, hp, hlt, wc, wm, hM, hle, hle2]
      repeat' first | (refine RT_dec ?_ ?_ <;> intro hg <;> try simp [tmpAt, hg, hU0, hV0, e0_9, h, hw, hp, hlt, hi0, hwn, hwh, wm, hM, hle, hle2]) | (refine RT_split ?_ ?_ <;> intro hg <;> (try simp at hg) <;> try simp [tmpAt, hg, hU0, hV0, e0_9, h, hw, hp, hlt, hi0, hwn, hwh, wm, hM, hle, hle2]) | (refine RB_dec ?_ ?_ <;> intro hg <;> try simp [tmpAt, hg, hU0, hV0, e0_9, h, hw, hp, hlt, hi0, hwn, hwh, wm, hM, hle, hle2]) | (refine RB_ndec ?_ ?_ <;> intro hg <;> try simp [tmpAt, hg, hU0, hV0, e0_9, h, hw, hp, hlt, hi0, hwn, hwh, wm, hM, hle, hle2]) | (refine RB_split ?_ ?_ <;> intro hg <;> (try simp at hg) <;> try simp [tmpAt, hg, hU0, hV0, e0_9, h, hw, hp, hlt, hi0, hwn, hwh, wm, hM, hle, hle2]) | (refine RG_dec ?_ ?_ <;> intro hg <;> try simp [tmpAt, hg, hU0, hV0, e0_9, h, hw, hp, hlt, hi0, hwn, hwh, wm, hM, hle, hle2]) | (refine RG_split ?_ ?_ <;> intro hg <;> (try simp at hg) <;> try simp [tmpAt, hg, hU0, hV0, e0_9, h, hw, hp, hlt, hi0, hwn, hwh, wm, hM, hle, hle2])
      all_goals first
        | (have hb : ¬ upto b.tombs (tombsGood b) b.tombs.length := upto_bad h (by clear ih0; rw [hmg]; simp_all [tombGood] <;> omega)
           simp [TombsOK, hb]; done)
        | (refine ih0 (m0 - 1) _ (by omega) ?_ ?_ ⟨i + 1, by omega, upto_next h ha (by clear ih0; rw [hmg]; simp_all [tombGood] <;> omega), ?_⟩
           · simp [hU0, hV0, e0_9]
           · simp [hU0, hV0, e0_9]
           simp [hU0, hV0, e0_9, hw])
    · obtain rfl : i = 0 := by omega
      have hmg : tombsGood b 0 b.tombs[0] = tombGood b [] none b.tombs[0] := by simp [tombsGood, prevOf]
      simp at wc
      simp [hU0, hV0, e0_9, h, tmpAt, hwn, hwh, wc, wm, hM]
      repeat' first | (refine RT_dec ?_ ?_ <;> intro hg <;> try simp [tmpAt, hg, hU0, hV0, e0_9, h, hw, hwn, hwh, wc, wm, hM]) | (refine RT_split ?_ ?_ <;> intro hg <;> (try simp at hg) <;> try simp [tmpAt, hg, hU0, hV0, e0_9, h, hw, hwn, hwh, wc, wm, hM]) | (refine RB_dec ?_ ?_ <;> intro hg <;> try simp [tmpAt, hg, hU0, hV0, e0_9, h, hw, hwn, hwh, wc, wm, hM]) | (refine RB_ndec ?_ ?_ <;> intro hg <;> try simp [tmpAt, hg, hU0, hV0, e0_9, h, hw, hwn, hwh, wc, wm, hM]) | (refine RB_split ?_ ?_ <;> intro hg <;> (try simp at hg) <;> try simp [tmpAt, hg, hU0, hV0, e0_9, h, hw, hwn, hwh, wc, wm, hM]) | (refine RG_dec ?_ ?_ <;> intro hg <;> try simp [tmpAt, hg, hU0, hV0, e0_9, h, hw, hwn, hwh, wc, wm, hM]) | (refine RG_split ?_ ?_ <;> intro hg <;> (try simp at hg) <;> try simp [tmpAt, hg, hU0, hV0, e0_9, h, hw, hwn, hwh, wc, wm, hM])
      all_goals first
        | (have hb : ¬ upto b.tombs (tombsGood b) b.tombs.length := upto_bad h (by clear ih0; rw [hmg]; simp_all [tombGood] <;> omega)
           simp [TombsOK, hb]; done)
        | (refine ih0 (m0 - 1) _ (by omega) ?_ ?_ ⟨0 + 1, by omega, upto_next h ha (by clear ih0; rw [hmg]; simp_all [tombGood] <;> omega), ?_⟩
           · simp [hU0, hV0, e0_9]
           · simp [hU0, hV0, e0_9]
           simp [hU0, hV0, e0_9, hw])
  · have hb := upto_all h ha
    simp [hU0, hV0, e0_9, h, TombsOK, hb]
    omega
theorem eq_BoxOk (b : Box) (hs : szBox b ≤ 16777216) : lim E 95 [encBox false false b] = some (.bool (boxOk b), []) := by
  have hz : szBox b = b.name.length + (b.mails.length + tot (fun (y : Mail) => szMail y) b.mails) + b.tombs.length := rfl
  have w1 := eq_BoxName b.name (by omega)
  by_cases hN : NumsOK b
  · obtain ⟨n1, n2, n3, n4⟩ := hN
    have n2' := n2
    have n3' := n3
    have n4' := n4
    simp [within] at n2' n3' n4'
    have w2 := eq_mailsOk b (by omega) (by omega) (by omega)
    try simp at w2
    have w3 := eq_tombsOk b (by omega) (by omega) (by omega) (by omega) (by omega) (by omega)
    try simp at w3
    refine lim_run (E := E) rfl Tryz.func95 rfl (by kernel_rfl) (by kernel_rfl) ?_
    simp [Tryz.f95, tmpAt, n1, n2, n3, n4, w1]
    repeat' first | (refine RT_dec ?_ ?_ <;> intro hg <;> try simp [tmpAt, hg, w1, w2, w3]) | (refine RT_split ?_ ?_ <;> intro hg <;> (try simp at hg) <;> try simp [tmpAt, hg, w1, w2, w3]) | (refine RB_dec ?_ ?_ <;> intro hg <;> try simp [tmpAt, hg, w1, w2, w3]) | (refine RB_ndec ?_ ?_ <;> intro hg <;> try simp [tmpAt, hg, w1, w2, w3]) | (refine RB_split ?_ ?_ <;> intro hg <;> (try simp at hg) <;> try simp [tmpAt, hg, w1, w2, w3]) | (refine RG_dec ?_ ?_ <;> intro hg <;> try simp [tmpAt, hg, w1, w2, w3]) | (refine RG_split ?_ ?_ <;> intro hg <;> (try simp at hg) <;> try simp [tmpAt, hg, w1, w2, w3])
    all_goals simp_all [boxOk, BoxOK, NumsOK]
  · have hb : boxOk b = false := by simp [boxOk, BoxOK, hN]
    refine lim_run (E := E) rfl Tryz.func95 rfl (by kernel_rfl) (by kernel_rfl) ?_
    simp [Tryz.f95, tmpAt, w1]
    repeat' first | (refine RT_dec ?_ ?_ <;> intro hg <;> try simp [tmpAt, hg, w1]) | (refine RT_split ?_ ?_ <;> intro hg <;> (try simp at hg) <;> try simp [tmpAt, hg, w1]) | (refine RB_dec ?_ ?_ <;> intro hg <;> try simp [tmpAt, hg, w1]) | (refine RB_ndec ?_ ?_ <;> intro hg <;> try simp [tmpAt, hg, w1]) | (refine RB_split ?_ ?_ <;> intro hg <;> (try simp at hg) <;> try simp [tmpAt, hg, w1]) | (refine RG_dec ?_ ?_ <;> intro hg <;> try simp [tmpAt, hg, w1]) | (refine RG_split ?_ ?_ <;> intro hg <;> (try simp at hg) <;> try simp [tmpAt, hg, w1])
    all_goals simp_all [NumsOK]
end Go.Proofs.YtomeglmblhfafaaGreatDoor
