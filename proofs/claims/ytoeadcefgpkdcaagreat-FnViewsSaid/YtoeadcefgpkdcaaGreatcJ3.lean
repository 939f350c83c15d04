/- Draws of views, right or not. -/
import Derived.Test.YtoeadcefgpkdcaaGreatcC5
import Derived.Test.YtoeadcefgpkdcaaGreatcC6
import Derived.Test.YtoeadcefgpkdcaaGreatcW1
set_option linter.unusedSectionVars false
set_option linter.all false
set_option linter.unusedVariables false
set_option linter.unusedSimpArgs false
set_option maxRecDepth 100000
namespace Go.Proofs.YtoeadcefgpkdcaaGreat
open Go.Lft

/-- What is known of a drawn view, right or not. -/
structure SomeView (v : View) : Prop where
  len : v.uids.length ≤ 40
  uids : ∀ u ∈ v.uids, -1000000 ≤ u ∧ u ≤ 1000000
  box : v.box.length ≤ 20
set_option maxHeartbeats 1000000 in
theorem ex_l14Any (c : Cur) : ∃ r : (View × Box) × Cur, (SomeView r.1.1 ∧ szBox r.1.2 ≤ 10100) ∧ lim E 20 [.pto (encCur c)] = some (.tup [encView true r.1.1, encBox false true r.1.2], [.pto (encCur r.2)]) := by
  refine ex_split ?_
  have hb1 := below_in c 14
  generalize hQ1 : below c 14 = Q at *
  obtain ⟨k, c1⟩ := Q
  simp at hb1
  have hb2 := below_in c1 60
  generalize hQ2 : below c1 60 = Q at *
  obtain ⟨x, c2⟩ := Q
  simp at hb2
  obtain ⟨hok, n, hl⟩ := pairDraw_ok c2
  have w := eq_l14Pair c2
  generalize hQ3 : pairDraw c2 = Q at *
  obtain ⟨⟨v, b⟩, c3⟩ := Q
  simp only at hok hl w
  have hsz := boxOk_sz hok
  have hnx := (boxOk_nums hok).2.1
  have hvl : v.uids.length ≤ 30 := hl.len
  have hvu : ∀ u ∈ v.uids, -1000000 ≤ u ∧ u ≤ 1000000 := fun u hu => by have := hl.uids u hu; have := hl.next; omega
  have hvb : v.box.length ≤ 20 := by
    rw [hl.box]
    have h := ((boxOk_iff b).1 hok).1
    simp [boxName, within] at h
    omega
  clear hl
  try simp at w
  obtain ⟨vb, vv, vu, vm⟩ := v
  simp only at hvl hvu hvb
  have b1 : vu.length * 8 ≤ 140737488351232 := by omega
  have b2 : (vu.length + 1) * 8 ≤ 140737488351232 := by omega
  have t2 := tmod_in hb2.1 (show (0 : Int) < 2 by omega)
  have hf : ∀ (n : S) (v m : Int), n.length ≤ 20 → SomeView ⟨n, v, vu, m⟩ := fun n v m h => ⟨by simp only; omega, hvu, h⟩
  refine lim_ex (E := E) rfl Tryz.func20 rfl (by kernel_rfl) (by kernel_rfl) ?_
  simp [Tryz.f20, tmpAt, hQ1, hQ2, hQ3, w, b1]
  refine RB_dec ?_ ?_ <;> intro h1
  · simp
    refine ⟨trOk_unord (L := [(0, 1), (1, 2)]) (by kernel_rfl) (by simp) (by simp [indepAt, indep, spares, around, pre, isSlc, Tr.feels, Tr.all, moves, bare, opData, isExt, cmpOf, Op.operands, Call.operands, mentL, ment, D.noUndefL, D.noUndef, pureE]), ?_⟩
    exact ⟨((⟨vb, x.tmod 7, vu, vm⟩, b), c3), ⟨hf _ _ _ hvb, by simp only; omega⟩, by simp⟩
  · simp
    refine RB_dec ?_ ?_ <;> intro h2
    · have hc : x.tmod 2 = 0 ∨ x.tmod 2 = 1 := by omega
      rcases hc with hc | hc
      all_goals
        simp [hc]
        refine ⟨trOk_unord (L := [(0, 1), (1, 2)]) (by kernel_rfl) (by simp) (by simp [indepAt, indep, spares, around, pre, isSlc, Tr.feels, Tr.all, moves, bare, opData, isExt, cmpOf, Op.operands, Call.operands, mentL, ment, D.noUndefL, D.noUndef, pureE]), ?_⟩
        exact ⟨((⟨_, vv, vu, vm⟩, b), c3), ⟨hf _ _ _ (by simp), by simp only; omega⟩, rfl⟩
    · simp
      refine RB_dec ?_ ?_ <;> intro h3
      · simp [b2]
        repeat (refine And.intro (by first | omega | (simp; omega)) ?_)
        refine ⟨trOk_unord (L := [(0, 1), (1, 2)]) (by kernel_rfl) (by simp) (by simp [indepAt, indep, spares, around, pre, isSlc, Tr.feels, Tr.all, moves, bare, opData, isExt, cmpOf, Op.operands, Call.operands, mentL, ment, D.noUndefL, D.noUndef, pureE]), ?_⟩
        refine ⟨((⟨vb, vv, vu ++ [x], vm⟩, b), c3), ⟨⟨by simp; omega, ?_, hvb⟩, by simp only; omega⟩, by simp⟩
        intro u hu
        rcases List.mem_append.1 hu with hu | hu
        · exact hvu u hu
        · obtain rfl := List.mem_singleton.1 hu; omega
      · simp
        refine RB_dec ?_ ?_ <;> intro h4
        · simp
          refine ⟨trOk_unord (L := [(0, 1), (1, 2)]) (by kernel_rfl) (by simp) (by simp [indepAt, indep, spares, around, pre, isSlc, Tr.feels, Tr.all, moves, bare, opData, isExt, cmpOf, Op.operands, Call.operands, mentL, ment, D.noUndefL, D.noUndef, pureE]), ?_⟩
          exact ⟨((⟨vb, vv, vu, x.tmod 9⟩, b), c3), ⟨hf _ _ _ hvb, by simp only; omega⟩, by simp⟩
        · simp
          refine RB_dec ?_ ?_ <;> intro h5
          · simp
            refine ⟨trOk_unord (L := [(0, 1), (1, 2)]) (by kernel_rfl) (by simp) (by simp [indepAt, indep, spares, around, pre, isSlc, Tr.feels, Tr.all, moves, bare, opData, isExt, cmpOf, Op.operands, Call.operands, mentL, ment, D.noUndefL, D.noUndef, pureE]), ?_⟩
            exact ⟨((⟨vb, vv, vu, vm⟩, (boxAny c3).1), (boxAny c3).2), ⟨hf _ _ _ hvb, boxAny_sz c3⟩, by simp⟩
          · simp
            refine ⟨trOk_unord (L := [(0, 1), (1, 2)]) (by kernel_rfl) (by simp) (by simp [indepAt, indep, spares, around, pre, isSlc, Tr.feels, Tr.all, moves, bare, opData, isExt, cmpOf, Op.operands, Call.operands, mentL, ment, D.noUndefL, D.noUndef, pureE]), ?_⟩
            exact ⟨((⟨vb, vv, vu, vm⟩, b), c3), ⟨hf _ _ _ hvb, by simp only; omega⟩, by simp⟩
noncomputable def viewAny (c : Cur) : (View × Box) × Cur := (ex_l14Any c).choose
theorem viewAny_ok (c : Cur) : SomeView (viewAny c).1.1 ∧ szBox (viewAny c).1.2 ≤ 10100 := (ex_l14Any c).choose_spec.1
theorem eq_l14Any (c : Cur) : lim E 20 [.pto (encCur c)] = some (.tup [encView true (viewAny c).1.1, encBox false true (viewAny c).1.2], [.pto (encCur (viewAny c).2)]) := (ex_l14Any c).choose_spec.2
theorem ex_DrawTellView (code : S) (hc : code.length ≤ 1048576) : ∃ (v : View) (b : Box), SomeView v ∧ szBox b ≤ 10100 ∧ lim E 5 [.lst false 5 1 (ofBytes code)] = some (.tup [encView true v, encBox false true b], []) := by
  have w := eq_l01New code hc
  obtain ⟨h1, h2⟩ := viewAny_ok (newCur code hc)
  have w2 := eq_l14Any (newCur code hc)
  generalize viewAny (newCur code hc) = Q at *
  obtain ⟨⟨v, b⟩, c⟩ := Q
  refine ⟨v, b, h1, h2, ?_⟩
  try simp at w2
  refine lim_run (E := E) rfl Tryz.func5 rfl (by kernel_rfl) (by kernel_rfl) ?_
  simp [Tryz.f5, tmpAt, w, w2]
theorem ex_DrawPlaceIn (code : S) (hc : code.length ≤ 1048576) : ∃ (v : View) (u : Int), SomeView v ∧ lim E 8 [.lst false 5 1 (ofBytes code)] = some (.tup [encView true v, .int .i64 u], []) := by
  have w := eq_l01New code hc
  generalize hq : below (newCur code hc) 12 = Q at *
  obtain ⟨x, c1⟩ := Q
  obtain ⟨h1, h2⟩ := viewAny_ok c1
  have w2 := eq_l14Any c1
  generalize viewAny c1 = Q at *
  obtain ⟨⟨v, b⟩, c⟩ := Q
  refine ⟨v, IntKind.i64.wrap (1 + x), h1, ?_⟩
  try simp at w2
  refine lim_run (E := E) rfl Tryz.func8 rfl (by kernel_rfl) (by kernel_rfl) ?_
  simp [Tryz.f8, tmpAt, w, hq, w2]
theorem ex_DrawUidSet (code : S) (hc : code.length ≤ 1048576) : ∃ (v : View) (s : List Range), SomeView v ∧ s.length ≤ 50 ∧ lim E 9 [.lst false 5 1 (ofBytes code)] = some (.tup [encView true v, .lst true 44 2 (s.map encRange)], []) := by
  have w := eq_l01New code hc
  have hs := setAny_len (newCur code hc)
  generalize hq : setAny (newCur code hc) = Q at *
  obtain ⟨s, c1⟩ := Q
  obtain ⟨h1, h2⟩ := viewAny_ok c1
  have w2 := eq_l14Any c1
  generalize viewAny c1 = Q at *
  obtain ⟨⟨v, b⟩, c⟩ := Q
  refine ⟨v, s, h1, hs, ?_⟩
  try simp at w2
  refine lim_run (E := E) rfl Tryz.func9 rfl (by kernel_rfl) (by kernel_rfl) ?_
  simp [Tryz.f9, tmpAt, w, hq, w2]
end Go.Proofs.YtoeadcefgpkdcaaGreat
