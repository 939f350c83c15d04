/- The law FnViews, at the level of data: true for all data. -/
import Derived.Test.YtoeadcefgpkdcaaGreatcG1
import Derived.Test.YtoeadcefgpkdcaaGreatcP8
import Derived.Test.YtoeadcefgpkdcaaGreatcJ2
import Derived.Test.YtoeadcefgpkdcaaGreatcJ3
set_option linter.unusedSectionVars false
set_option linter.all false
set_option linter.unusedVariables false
set_option linter.unusedSimpArgs false
set_option maxRecDepth 100000
namespace Go.Proofs.YtoeadcefgpkdcaaGreat
open Go.Lft

theorem toldBy_nil {v : View} {b : Box} : ∀ x ∈ (tellView v b).2, x.set_ = [] := by
  have h1 : ∀ (us : List Int) (n : Nat), ∀ x ∈ goneLines b n us, x.set_ = [] := by
    intro us
    induction us with
    | nil => intro n x hx; simp [goneLines] at hx
    | cons u us ih =>
      intro n x hx
      simp only [goneLines] at hx
      split at hx
      · exact ih _ x hx
      · rcases List.mem_cons.1 hx with rfl | hx
        · rfl
        · exact ih _ x hx
  have h2 : ∀ (ms : List Mail) (k : Nat), ∀ x ∈ fetchLines v.mod k ms, x.set_ = [] := by
    intro ms
    induction ms with
    | nil => intro k x hx; simp [fetchLines] at hx
    | cons m ms ih =>
      intro k x hx
      simp only [fetchLines] at hx
      split at hx
      · rcases List.mem_cons.1 hx with rfl | hx
        · rfl
        · exact ih _ x hx
      · exact ih _ x hx
  intro x hx
  unfold tellView at hx
  split at hx
  · simp only at hx
    unfold told at hx
    rcases List.mem_append.1 hx with hx | hx
    · rcases List.mem_append.1 hx with hx | hx
      · exact h1 _ _ x hx
      · split at hx
        · simp at hx
        · obtain rfl := List.mem_singleton.1 hx; rfl
    · exact h2 _ _ x hx
  · simp only at hx
    obtain rfl := List.mem_singleton.1 hx; rfl
theorem toldBy_len {v : View} {b : Box} (hv : v.uids.length ≤ 40) (hb : b.mails.length ≤ 10100) : (tellView v b).2.length ≤ 20000 ∧ (tellView v b).1.uids.length ≤ 20000 := by
  have h1 := goneLines_len b v.uids 0
  have h2 := fetchLines_len v.mod b.mails 0
  unfold tellView
  split
  · constructor
    · simp only
      unfold told
      rw [List.length_append, List.length_append]
      split <;> simp <;> omega
    · show (uidsL b).length ≤ _
      rw [uidsL_len]; omega
  · simp
theorem picked_one (us : List Int) (i : Nat) (hi : i < us.length) : picked [⟨(i : Int) + 1, (i : Int) + 1⟩] us = [us[i]] := by
  have key : ∀ n, n ≤ us.length → picked [⟨(i : Int) + 1, (i : Int) + 1⟩] (us.take n) = if n ≤ i then [] else [us[i]] := by
    intro n
    induction n with
    | zero => intro _; simp [picked]
    | succ n ih =>
      intro hn
      rw [picked_next _ _ _ (by omega), ih (by omega)]
      have hh : setHas [⟨(i : Int) + 1, (i : Int) + 1⟩] ((n : Int) + 1) = decide (n = i) := by
        rw [Bool.eq_iff_iff]
        simp [setHas, within]; omega
      rw [hh]
      by_cases h1 : n = i
      · subst h1; simp
      · by_cases h2 : n < i
        · simp [h1, show n ≤ i by omega, show n + 1 ≤ i by omega]
        · simp [h1, show ¬ n ≤ i by omega, show ¬ n + 1 ≤ i by omega]
  have := key us.length (Nat.le_refl _)
  rw [List.take_length] at this
  rw [this, if_neg (by omega)]
theorem uidSet_one (v : View) (i : Nat) (hi : i < v.uids.length) (hl : v.uids.length ≤ 40) (hu : 1 ≤ v.uids[i] ∧ v.uids[i] ≤ 9999) : uidSet v [⟨(i : Int) + 1, (i : Int) + 1⟩] = ([⟨v.uids[i], v.uids[i]⟩], true) := by
  have h1 : setOk [⟨(i : Int) + 1, (i : Int) + 1⟩] = true := by
    simp [setOk, setOkL, rangeOk, after]; omega
  have h2 : fineU [v.uids[i]] = true := (fineU_iff _).2 (by simpa using hu)
  unfold uidSet
  rw [picked_one _ _ hi, if_pos ⟨h1, h2⟩]
  have h3 : sAdds [v.uids[i]] = setOfL (asc [v.uids[i]]) := sAdds_asc _ (by simpa using hu) (by simp)
  have h4 : asc [v.uids[i]] = [v.uids[i]] := by
    have a1 := asc_len [v.uids[i]]
    have a2 := (asc_mem [v.uids[i]] v.uids[i]).2 (by simp)
    match hz : asc [v.uids[i]], a1, a2 with
    | [], _, a2 => simp at a2
    | [x], _, a2 => simp at a2; rw [a2]
    | x :: y :: l, a1, _ => simp at a1
  rw [h3, h4]; rfl
theorem placeIn_at (v : View) (i : Nat) (hi : i < v.uids.length) (hp : v.uids.Pairwise (· < ·)) : placeIn v v.uids[i] = (i : Int) + 1 := by
  unfold placeIn
  rw [idxOf_at hi ?_ (by simp)]
  rw [Bool.eq_false_iff]
  intro hc
  rw [List.any_eq_true] at hc
  obtain ⟨x, hx, h2⟩ := hc
  obtain ⟨j, hj, rfl⟩ := List.mem_iff_getElem.1 hx
  simp only [List.length_take] at hj
  rw [List.getElem_take] at h2
  have := List.pairwise_iff_getElem.1 hp j i (by omega) hi (by omega)
  simp at h2; omega
theorem placeIn_zero (v : View) (h : ∀ u ∈ v.uids, 1 ≤ u) : placeIn v 0 = 0 := by
  unfold placeIn
  rw [idxOf_none]
  · rfl
  · rw [Bool.eq_false_iff]
    intro hc
    rw [List.any_eq_true] at hc
    obtain ⟨x, hx, h2⟩ := hc
    have := h x hx
    simp at h2; omega
set_option maxHeartbeats 4000000 in
theorem law_Views : ∀ xs, Sh.hasL [.slice 5 1 (.int .u8)] xs → lim E 3 xs = some (.bool true, []) := by
  intro xs h
  obtain ⟨x, s, rfl, g, h⟩ := has_cons h
  obtain rfl := has_nil h
  obtain ⟨code, rfl⟩ := has_code _ _ g
  by_cases hbig : 1048576 < code.length
  · refine lim_run (E := E) rfl Tryz.func3 rfl (by kernel_rfl) (by kernel_rfl) ?_
    simp [Tryz.f3, tmpAt, hbig]
  have hc : code.length ≤ 1048576 := by omega
  obtain ⟨v, b, hv, hb, w1⟩ := ex_DrawTellView code hc
  obtain ⟨p, u, hp, w2⟩ := ex_DrawPlaceIn code hc
  obtain ⟨y, s, hy, hs, w3⟩ := ex_DrawUidSet code hc
  obtain ⟨z, zb, n, hok, hlt, w4⟩ := ex_DrawLater code hc
  have hvz : szView v ≤ 1000 := by have := hv.len; have := hv.box; show v.box.length + v.uids.length ≤ _; omega
  have hbm : b.mails.length ≤ 10100 := by
    have hz : szBox b = b.name.length + (b.mails.length + tot (fun (y : Mail) => szMail y) b.mails) + b.tombs.length := rfl
    omega
  have a1 := eq_TellView v b (by omega) (by omega)
  have a2 := eq_sTellView v b (by omega) (by omega)
  obtain ⟨tl1, tl2⟩ := toldBy_len (b := b) hv.len hbm
  have tn := toldBy_nil (v := v) (b := b)
  have a3 := eq_sameView (tellView v b).1 (by omega)
  have a4 := eq_sameLines (tellView v b).2 (by omega) (fun x hx => by rw [tn x hx]; simp)
  generalize tellView v b = T at *
  obtain ⟨t, lines⟩ := T
  have a5 := eq_PlaceIn p u (by have := hp.len; omega)
  have a6 := eq_sPlaceIn p u (by have := hp.len; omega)
  have a7 := eq_UidSet y s hy.len hy.uids (by omega)
  have a8 := eq_sUidSet y s hy.len (by omega)
  have hq : (uidSet y s).1.length ≤ 40 := by
    unfold uidSet; split
    · exact sAdds_40 _
    · simp
  have a9 := eq_sameSet (uidSet y s).1 (uidSet y s).1 (by omega)
  generalize uidSet y s = U at *
  obtain ⟨q, qok⟩ := U
  have a10 := eq_ViewOk v (by omega)
  have a11 := eq_sViewOk v (by omega)
  have hzl := hlt.len
  have hzu : ∀ u ∈ z.uids, 1 ≤ u ∧ u ≤ 9999 := fun u hu => by
    have := hlt.uids u hu
    have := hlt.next
    have := (boxOk_nums hok).2.1
    omega
  have hzs : szView z ≤ 1000000 := by
    have hn := hlt.box
    have e : szView z = z.box.length + z.uids.length := rfl
    have hsz := boxOk_sz hok
    have hz : szBox zb = zb.name.length + (zb.mails.length + tot (fun (y : Mail) => szMail y) zb.mails) + zb.tombs.length := rfl
    rw [hn] at e; omega
  have a12 := eq_ViewOk z (by omega)
  rw [(later_tells hok hlt).1] at a12
  have a13 := eq_PlaceIn z 0 (by omega)
  rw [placeIn_zero z fun u hu => (hzu u hu).1] at a13
  have hup := hlt.up
  try simp at w1
  try simp at w2
  try simp at w3
  try simp at w4
  try simp at a1
  try simp at a2
  try simp at a3
  try simp at a4
  try simp at a5
  try simp at a6
  try simp at a7
  try simp at a8
  try simp at a9
  try simp at a10
  try simp at a11
  try simp at a12
  try simp at a13
  refine lim_run (E := E) rfl Tryz.func3 rfl (by kernel_rfl) (by kernel_rfl) ?_
  simp [Tryz.f3, tmpAt, hbig, w1, w2, w3, w4, a1, a2, a7, a8]
  refine loop_fr [3, 5, 6, 7, 8, 9, 10, 13, 14, 15, 16, 17] [(3,0), (5,0), (7,0), (9,0), (17,0), (32,1), (38,1), (54,0), (60,0)] (fun m st => ∃ (i : Nat), i + m = z.uids.length ∧ st.env 19 = .int .i64 i) (z.uids.length) _ ?_ ?_
  · exact ⟨0, by simp⟩
  rintro m0 ⟨env, rs⟩ hU0 hV0 ⟨i, hi, e0_19⟩ ih0; simp at hU0 hV0 e0_19
  have hw := wrap_up (show i < 4611686018427387904 by omega)
  simp [hU0, hV0, e0_19]
  refine RB_dec ?_ ?_ <;> intro h
  · have b1 := eq_UidSet z [⟨(i : Int) + 1, (i : Int) + 1⟩] (by omega) (fun u hu => by have := hzu u hu; omega) (by simp)
    rw [uidSet_one z i h (by omega) (hzu _ (List.getElem_mem h))] at b1
    have b2 := eq_PlaceIn z z.uids[i] (by omega)
    rw [placeIn_at z i h hup] at b2
    have b3 := eq_sameSet [⟨z.uids[i], z.uids[i]⟩] [⟨z.uids[i], z.uids[i]⟩] (by simp)
    try simp at b1
    try simp at b2
    try simp at b3
    simp [hU0, hV0, e0_19, h, hw, b1, b2, b3, tmpAt]
    refine ⟨trOk_few [27] (L := [(15, 27)]) (by kernel_rfl) (by simp) (by first | kernel_rfl | rfl) (by simp [indepAt, indep, spares, around, pre, isSlc, Tr.feels, Tr.all, moves, bare, opData, isExt, cmpOf, Op.operands, Call.operands, mentL, ment, D.noUndefL, D.noUndef, pureE]), ?_⟩
    refine ih0 (m0 - 1) _ (by omega) ?_ ?_ ⟨i + 1, by omega, ?_⟩
    · simp [hU0, hV0, e0_19, h]
    · simp [hU0, hV0, e0_19, h]
    simp [hU0, hV0, e0_19, hw]
  · clear ih0
    simp [hU0, hV0, e0_19, a3, a4, a5, a6, a9, a10, a11, a12, a13, tmpAt]
end Go.Proofs.YtoeadcefgpkdcaaGreat
