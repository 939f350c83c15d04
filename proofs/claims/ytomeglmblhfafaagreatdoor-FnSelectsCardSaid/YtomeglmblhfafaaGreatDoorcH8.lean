/- Stores: the reference's Apply, and a drawn store. -/
import Derived.Test.YtomeglmblhfafaaGreatDoorcH7
set_option linter.unusedSectionVars false
set_option linter.all false
set_option linter.unusedVariables false
set_option linter.unusedSimpArgs false
set_option maxRecDepth 100000
namespace Go.Proofs.YtomeglmblhfafaaGreatDoor
open Go.Lft

set_option maxHeartbeats 4000000 in
theorem ex_sApply {s : Store} (e : Edit) (hg : Good s) (hb : e.box ∈ names4) (he : szEdit e ≤ 1048576) : ∃ r : Store × Int, Good r.1 ∧ lim E 103 [encStore false false s, encEdit false false e] = some (.tup [encStore false true r.1, .int .i64 r.2], []) := by
  have hz : szEdit e = e.box.length + e.to.length + e.set_.length + e.text.length := rfl
  have hs := storeOk_sz hg.ok
  have wc := eq_l09Copy s (by omega)
  try simp at wc
  have wo := eq_sStoreOk s (by omega)
  rw [hg.ok] at wo
  try simp at wo
  obtain ⟨u, _, wu⟩ := ex_sEditOk e he
  try simp at wu
  refine ex_split ?_
  cases u
  · refine lim_ex (E := E) rfl Tryz.func103 rfl (by kernel_rfl) (by kernel_rfl) ?_
    simp [Tryz.f103, tmpAt, wc, wo, wu]
    exact ⟨(s, 4), hg, by simp⟩
  by_cases k1 : e.kind = 1
  · have wm := eq_sMakeBox s e.box (by omega) (by omega)
    try simp at wm
    rw [k1] at wu
    refine lim_ex (E := E) rfl Tryz.func103 rfl (by kernel_rfl) (by kernel_rfl) ?_
    simp [Tryz.f103, tmpAt, k1, wc, wo, wu, wm]
    exact ⟨makeBox s e.box, hg.make hb, by simp⟩
  have wa := eq_sBoxAt s e.box (by omega)
  try simp at wa
  rcases boxAt_cases hg.ok e.box with ⟨q1, q2, q3, q4⟩ | ⟨q1, q2⟩
  case inr =>
    rw [q1] at wa
    refine lim_ex (E := E) rfl Tryz.func103 rfl (by kernel_rfl) (by kernel_rfl) ?_
    simp [Tryz.f103, tmpAt, k1, wc, wo, wu, wa]
    exact ⟨(s, 1), hg, by simp⟩
  rw [q1] at wa
  by_cases k2 : e.kind = 2
  · have wm := eq_sDropBox s e.box (by omega)
    try simp at wm
    rw [k2] at wu
    refine lim_ex (E := E) rfl Tryz.func103 rfl (by kernel_rfl) (by kernel_rfl) ?_
    simp [Tryz.f103, tmpAt, k2, wc, wo, wu, wa, wm]
    exact ⟨dropBox s e.box, hg.drop, by simp⟩
  by_cases k6 : e.kind = 6
  · have wm := eq_sCopyMails s e.box e.set_ e.to (by omega) (by omega)
    try simp at wm
    rw [k6] at wu
    refine lim_ex (E := E) rfl Tryz.func103 rfl (by kernel_rfl) (by kernel_rfl) ?_
    simp [Tryz.f103, tmpAt, k6, wc, wo, wu, wa, wm]
    exact ⟨copyMails s e.box e.set_ e.to, hg.copy, by simp⟩
  by_cases k7 : e.kind = 7
  · have wm := eq_sMoveMails s e.box e.set_ e.to (by omega) (by omega)
    try simp at wm
    rw [k7] at wu
    refine lim_ex (E := E) rfl Tryz.func103 rfl (by kernel_rfl) (by kernel_rfl) ?_
    simp [Tryz.f103, tmpAt, k7, wc, wo, wu, wa, wm]
    exact ⟨moveMails s e.box e.set_ e.to, hg.move, by simp⟩
  obtain ⟨r, hr, wr⟩ := ex_l10Box e hg q2 he
  try simp at wr
  refine lim_ex (E := E) rfl Tryz.func103 rfl (by kernel_rfl) (by kernel_rfl) ?_
  simp [Tryz.f103, tmpAt, k1, k2, k6, k7, wc, wo, wu, wa, wr]
  exact ⟨r, hr, by simp⟩
def storeNew : Store := ⟨[boxNew inboxN 1], 2⟩
theorem new_good : Good storeNew := by
  have hb : boxOk (boxNew inboxN 1) = true := boxNew_ok (by decide) (by omega) (by omega)
  refine ⟨?_, ?_, ?_⟩
  · rw [storeOk_iff]
    refine ⟨?_, List.pairwise_singleton .., by simp [storeNew], by simp [storeNew]⟩
    intro b hx
    obtain rfl := List.mem_singleton.1 hx
    exact ⟨hb, by decide⟩
  · intro n hn
    have : n = inboxN := by simpa [namesOf, storeNew, boxNew] using hn
    subst this
    simp [names4]
  · simp [namesOf, storeNew, boxNew]
theorem eq_sStoreNew : lim E 102 [] = some (encStore false true storeNew, []) := by
  have hb : boxOk (boxNew inboxN 1) = true := boxNew_ok (by decide) (by omega) (by omega)
  have wb := eq_sBoxNew inboxN 1 (by decide)
  have hR : boxNewR inboxN 1 = boxNew inboxN 1 := by unfold boxNewR; rw [if_pos hb]
  rw [hR, hb] at wb
  unfold inboxN at wb
  try simp [boxNew] at wb
  refine lim_run (E := E) rfl Tryz.func102 rfl (by kernel_rfl) (by kernel_rfl) ?_
  simp [Tryz.f102, tmpAt, wb]
  simp [storeNew, boxNew, inboxN]
set_option maxHeartbeats 4000000 in
theorem ex_l10Edit (c : Cur) : ∃ r : Edit × Cur, (r.1.box ∈ names4 ∧ szEdit r.1 ≤ 3000) ∧ lim E 104 [.pto (encCur c)] = some (encEdit false true r.1, [.pto (encCur r.2)]) := by
  refine ex_split ?_
  have hk := pickInt_mem c [1, 3, 3, 3, 3, 4, 4, 4, 5, 5, 6, 7, 2, 8] (by simp)
  generalize hq1 : pickInt c [1, 3, 3, 3, 3, 4, 4, 4, 5, 5, 6, 7, 2, 8] = Q at *
  obtain ⟨k, c1⟩ := Q
  have hb := pick_mem c1 [[105, 110, 98, 111, 120], [105, 110, 98, 111, 120], [105, 110, 98, 111, 120], [119, 111, 114, 107], [111, 108, 100]] (by simp)
  generalize hq2 : pick c1 [[105, 110, 98, 111, 120], [105, 110, 98, 111, 120], [105, 110, 98, 111, 120], [119, 111, 114, 107], [111, 108, 100]] = Q at *
  obtain ⟨bx, c2⟩ := Q
  have hbn : bx ∈ names4 := by
    simp only [List.mem_cons, List.not_mem_nil, or_false] at hb
    unfold names4 inboxN
    rcases hb with rfl | rfl | rfl | rfl | rfl <;> simp
  have hbl : bx.length ≤ 10 := by
    unfold names4 inboxN at hbn
    simp only [List.mem_cons, List.not_mem_nil, or_false] at hbn
    rcases hbn with rfl | rfl | rfl | rfl <;> simp
  have h3 := pick_mem c2 [[119, 111, 114, 107], [111, 108, 100], [97]] (by simp)
  have hs := setDraw_len c2
  have hmake : ∀ kk : Int, ((pick c2 [[119, 111, 114, 107], [111, 108, 100], [97]]).1 ∈ names4 ∧ szEdit ⟨kk, (pick c2 [[119, 111, 114, 107], [111, 108, 100], [97]]).1, [], [], 0, 0, 0, []⟩ ≤ 3000) := by
    intro kk
    simp only [List.mem_cons, List.not_mem_nil, or_false] at h3
    unfold names4 inboxN
    rcases h3 with h | h | h <;> rw [h] <;> simp [szEdit]
  have hkk : k = 1 ∨ k = 2 ∨ k = 3 ∨ k = 4 ∨ k = 5 ∨ k = 6 ∨ k = 7 ∨ k = 8 := by
    simp only [List.mem_cons, List.not_mem_nil, or_false] at hk
    omega
  rcases hkk with rfl | rfl | rfl | rfl | rfl | rfl | rfl | rfl
  · refine lim_ex (E := E) rfl Tryz.func104 rfl (by kernel_rfl) (by kernel_rfl) ?_
    simp [Tryz.f104, tmpAt, hq1, hq2]
    exact ⟨(⟨1, (pick c2 [[119, 111, 114, 107], [111, 108, 100], [97]]).1, [], [], 0, 0, 0, []⟩, (pick c2 [[119, 111, 114, 107], [111, 108, 100], [97]]).2), hmake 1, by simp⟩
  · refine lim_ex (E := E) rfl Tryz.func104 rfl (by kernel_rfl) (by kernel_rfl) ?_
    simp [Tryz.f104, tmpAt, hq1, hq2]
    exact ⟨(⟨2, (pick c2 [[119, 111, 114, 107], [111, 108, 100], [97]]).1, [], [], 0, 0, 0, []⟩, (pick c2 [[119, 111, 114, 107], [111, 108, 100], [97]]).2), hmake 2, by simp⟩
  · generalize hq3 : pickInt c2 [0, 1, 8, 4, 9] = Q at *
    obtain ⟨bits, c3⟩ := Q
    have hm := mailDraw_len c3
    generalize hq4 : mailDraw c3 = Q at *
    obtain ⟨tx, c4⟩ := Q
    refine lim_ex (E := E) rfl Tryz.func104 rfl (by kernel_rfl) (by kernel_rfl) ?_
    simp [Tryz.f104, tmpAt, hq1, hq2, hq3, hq4]
    exact ⟨(⟨3, bx, [], [], 0, bits, 0, tx⟩, c4), ⟨hbn, by simp [szEdit]; simp at hm; omega⟩, by simp⟩
  · generalize hq3 : setDraw c2 = Q at *
    obtain ⟨st, c3⟩ := Q
    generalize hq4 : below c3 3 = Q at *
    obtain ⟨hw, c4⟩ := Q
    generalize hq5 : pickInt c4 [1, 8, 8, 4, 31] = Q at *
    obtain ⟨bits, c5⟩ := Q
    generalize hq6 : pickInt c5 [-1, -1, 3, 9] = Q at *
    obtain ⟨since, c6⟩ := Q
    refine lim_ex (E := E) rfl Tryz.func104 rfl (by kernel_rfl) (by kernel_rfl) ?_
    simp [Tryz.f104, tmpAt, hq1, hq2, hq3, hq4, hq5, hq6]
    exact ⟨(⟨4, bx, [], st, IntKind.i64.wrap (1 + hw), bits, since, []⟩, c6), ⟨hbn, by simp [szEdit]; simp at hs; omega⟩, by simp⟩
  · refine lim_ex (E := E) rfl Tryz.func104 rfl (by kernel_rfl) (by kernel_rfl) ?_
    simp [Tryz.f104, tmpAt, hq1, hq2]
    exact ⟨(⟨5, bx, [], [⟨1, 9999⟩], 0, 0, 0, []⟩, c2), ⟨hbn, by simp [szEdit]; omega⟩, by simp⟩
  · generalize hq3 : setDraw c2 = Q at *
    obtain ⟨st, c3⟩ := Q
    have h4 := pick_mem c3 [[119, 111, 114, 107], [111, 108, 100], [105, 110, 98, 111, 120]] (by simp)
    generalize hq4 : pick c3 [[119, 111, 114, 107], [111, 108, 100], [105, 110, 98, 111, 120]] = Q at *
    obtain ⟨to, c4⟩ := Q
    refine lim_ex (E := E) rfl Tryz.func104 rfl (by kernel_rfl) (by kernel_rfl) ?_
    simp [Tryz.f104, tmpAt, hq1, hq2, hq3, hq4]
    exact ⟨(⟨6, bx, to, st, 0, 0, 0, []⟩, c4), ⟨hbn, by simp at h4; rcases h4 with rfl | rfl | rfl <;> simp [szEdit] <;> simp at hs <;> omega⟩, by simp⟩
  · generalize hq3 : setDraw c2 = Q at *
    obtain ⟨st, c3⟩ := Q
    have h4 := pick_mem c3 [[119, 111, 114, 107], [111, 108, 100], [105, 110, 98, 111, 120]] (by simp)
    generalize hq4 : pick c3 [[119, 111, 114, 107], [111, 108, 100], [105, 110, 98, 111, 120]] = Q at *
    obtain ⟨to, c4⟩ := Q
    refine lim_ex (E := E) rfl Tryz.func104 rfl (by kernel_rfl) (by kernel_rfl) ?_
    simp [Tryz.f104, tmpAt, hq1, hq2, hq3, hq4]
    exact ⟨(⟨7, bx, to, st, 0, 0, 0, []⟩, c4), ⟨hbn, by simp at h4; rcases h4 with rfl | rfl | rfl <;> simp [szEdit] <;> simp at hs <;> omega⟩, by simp⟩
  · generalize hq3 : below c2 9 = Q at *
    obtain ⟨since, c3⟩ := Q
    refine lim_ex (E := E) rfl Tryz.func104 rfl (by kernel_rfl) (by kernel_rfl) ?_
    simp [Tryz.f104, tmpAt, hq1, hq2, hq3]
    exact ⟨(⟨8, bx, [], [], 0, 0, since, []⟩, c3), ⟨hbn, by simp [szEdit]; omega⟩, by simp⟩
set_option maxHeartbeats 4000000 in
theorem ex_l09Store (c : Cur) : ∃ r : Store × Cur, Good r.1 ∧ lim E 47 [.pto (encCur c)] = some (encStore false true r.1, [.pto (encCur r.2)]) := by
  refine ex_split ?_
  have w0 := eq_sStoreNew
  try simp at w0
  have hg0 := new_good
  generalize storeNew = s0 at *
  refine lim_ex (E := E) rfl Tryz.func47 rfl (by kernel_rfl) (by kernel_rfl) ?_
  simp [Tryz.f47, tmpAt, w0]
  refine loop_fr [0, 2, 3] [(2,0)] (fun m st => ∃ (i : Nat) (s : Store) (c' : Cur), i + m = 23 ∧ Good s ∧ st.env 4 = .int .i64 i ∧ st.rs (3,0) = some ⟨true, encStore false true s⟩ ∧ st.rs (0,99) = some ⟨true, encCur c'⟩) (23) _ ?_ ?_
  · exact ⟨0, s0, c, by simp [hg0]⟩
  rintro m0 ⟨env, rs⟩ hU0 hV0 ⟨i, s, c', hi, hg, e0_4, r0_3_0, r0_0_99⟩ ih0; simp at hU0 hV0 e0_4 r0_3_0 r0_0_99
  have hw := wrap_up (show i < 4611686018427387904 by omega)
  have hb20 := below_in c' 20
  generalize hq : below c' 20 = Q at *
  obtain ⟨x, c3⟩ := Q
  simp at hb20
  have hwx : IntKind.i64.wrap (3 + x) = 3 + x := wrap_in (by omega) (by omega)
  simp [hU0, hV0, e0_4, r0_3_0, r0_0_99, hq, hwx]
  refine RB_dec ?_ ?_ <;> intro h
  · have hm0 : i < 23 := by omega
    obtain ⟨⟨e, c4⟩, ⟨he1, he2⟩, we⟩ := ex_l10Edit c3
    simp at he1 he2 we
    obtain ⟨⟨s2, code⟩, hg2, ws⟩ := ex_sApply e hg he1 (by omega)
    simp at ws
    simp [hU0, hV0, e0_4, r0_3_0, r0_0_99, we, ws]
    refine ⟨trOk_unord (L := [(0, 1), (0, 2), (5, 6), (6, 7)]) (by kernel_rfl) (by simp) (by simp [indepAt, indep, spares, around, aside, pre, isSlc, Tr.feels, Tr.all, moves, bare, opData, isExt, cmpOf, Op.operands, Call.operands, mentL, ment, D.noUndefL, D.noUndef, pureE, hU0, hV0, e0_4, r0_3_0, r0_0_99]), ?_⟩
    refine ih0 (m0 - 1) _ (by omega) ?_ ?_ ⟨i + 1, s2, c4, by omega, hg2, ?_⟩
    · simp [hU0, hV0, e0_4, r0_3_0, r0_0_99]
    · simp [hU0, hV0, e0_4, r0_3_0, r0_0_99]
    simp [hU0, hV0, e0_4, r0_3_0, r0_0_99, hw]
  · simp [hU0, hV0, e0_4, r0_3_0, r0_0_99]
    exact ⟨(s, c3), hg, by simp⟩
noncomputable def storeDraw (c : Cur) : Store × Cur := (ex_l09Store c).choose
theorem storeDraw_good (c : Cur) : Good (storeDraw c).1 := (ex_l09Store c).choose_spec.1
theorem eq_l09Store (c : Cur) : lim E 47 [.pto (encCur c)] = some (encStore false true (storeDraw c).1, [.pto (encCur (storeDraw c).2)]) := (ex_l09Store c).choose_spec.2
theorem ex_DrawStore (code : S) (hc : code.length ≤ 1048576) : ∃ s : Store, Good s ∧ lim E 10 [.lst false 5 1 (ofBytes code)] = some (encStore false true s, []) := by
  have w := eq_l01New code hc
  have w2 := eq_l09Store (newCur code hc)
  try simp at w2
  refine ⟨(storeDraw (newCur code hc)).1, storeDraw_good _, ?_⟩
  refine lim_run (E := E) rfl Tryz.func10 rfl (by kernel_rfl) (by kernel_rfl) ?_
  simp [Tryz.f10, tmpAt, w, w2]
end Go.Proofs.YtomeglmblhfafaaGreatDoor
