/- Stores, right or not: draws; the program's new store. -/
import Derived.Test.YtdpagklgjchdgaaGreatcC5
import Derived.Test.YtdpagklgjchdgaaGreatcH8
set_option linter.unusedSectionVars false
set_option linter.all false
set_option linter.unusedVariables false
set_option linter.unusedSimpArgs false
set_option maxRecDepth 100000
namespace Go.Proofs.YtdpagklgjchdgaaGreat
open Go.Lft

theorem eq_StoreNew : lim E 17 [] = some (encStore false true storeNew, []) := by
  have hb : boxOk (boxNew inboxN 1) = true := boxNew_ok (by decide) (by omega) (by omega)
  have wb := eq_BoxNew inboxN 1 (by decide)
  have hR : boxNewR inboxN 1 = boxNew inboxN 1 := by unfold boxNewR; rw [if_pos hb]
  rw [hR, hb] at wb
  unfold inboxN at wb
  try simp [boxNew] at wb
  refine lim_run (E := E) rfl Tryz.func17 rfl (by kernel_rfl) (by kernel_rfl) ?_
  simp [Tryz.f17, tmpAt, wb]
  simp [storeNew, boxNew, inboxN]
theorem sz_cons (b : Box) (bs : List Box) (v : Int) : szStore ⟨b :: bs, v⟩ = 1 + szBox b + szStore ⟨bs, v⟩ := by
  show (b :: bs).length + tot (fun (y : Box) => szBox y) (b :: bs) = 1 + szBox b + (bs.length + tot (fun (y : Box) => szBox y) bs)
  simp [tot]; omega
theorem sz_snoc (b : Box) (bs : List Box) (v : Int) : szStore ⟨bs ++ [b], v⟩ = 1 + szBox b + szStore ⟨bs, v⟩ := by
  show (bs ++ [b]).length + tot (fun (y : Box) => szBox y) (bs ++ [b]) = 1 + szBox b + (bs.length + tot (fun (y : Box) => szBox y) bs)
  rw [tot_append]
  simp [tot]; omega
set_option maxHeartbeats 4000000 in
theorem ex_l09Any (c : Cur) : ∃ r : Store × Cur, szStore r.1 ≤ 200000 ∧ lim E 31 [.pto (encCur c)] = some (encStore false false r.1, [.pto (encCur r.2)]) := by
  refine ex_split ?_
  have hb1 := below_in c 14
  generalize hQ1 : below c 14 = Q at *
  obtain ⟨k, c1⟩ := Q
  simp at hb1
  have hb2 := below_in c1 60
  generalize hQ2 : below c1 60 = Q at *
  obtain ⟨x, c2⟩ := Q
  simp at hb2
  have hg := storeDraw_good c2
  have w1 := eq_l09Store c2
  generalize hQ3 : storeDraw c2 = Q at *
  obtain ⟨s, c3⟩ := Q
  simp only at hg w1
  have hsz := storeOk_sz hg.ok
  obtain ⟨_, _, hln, _⟩ := (storeOk_iff s).1 hg.ok
  have w2 := eq_l09Copy s (by omega)
  clear hg
  obtain ⟨bx, vd⟩ := s
  simp only at hln
  cases bx with
  | nil => simp at hln
  | cons b0 bs =>
  rw [sz_cons] at hsz
  have hsz' : ∀ v : Int, szStore ⟨bs, v⟩ = szStore ⟨bs, vd⟩ := fun _ => rfl
  have t4 := tmod_in hb2.1 (show (0 : Int) < 4 by omega)
  have hba := boxAny_sz c3
  have b1 : ((b0 :: bs).length + 1) * 96 ≤ 140737488351232 := by omega
  have z0 : ∀ v : Int, szStore ⟨b0 :: bs, v⟩ ≤ 200000 := fun v => by rw [sz_cons b0 bs v, hsz' v]; omega
  have z1 : szStore ⟨(boxAny c3).1 :: bs, vd⟩ ≤ 200000 := by rw [sz_cons (boxAny c3).1 bs vd]; omega
  have z2 : szStore ⟨(b0 :: bs) ++ [b0], vd⟩ ≤ 200000 := by rw [sz_snoc b0 (b0 :: bs) vd, sz_cons b0 bs vd]; omega
  have z3 : szStore ⟨bs, vd⟩ ≤ 200000 := by omega
  have hbl : 1 + bs.length ≤ bs.length + 1 := by omega
  clear hsz hsz' hba
  try simp at w1
  try simp at w2
  try simp at b1
  refine lim_ex (E := E) rfl Tryz.func31 rfl (by kernel_rfl) (by kernel_rfl) ?_
  simp [Tryz.f31, tmpAt, hQ1, hQ2, w1, w2]
  refine RB_dec ?_ ?_ <;> intro h1
  · have hc : x.tmod 4 = 0 ∨ x.tmod 4 = 1 ∨ x.tmod 4 = 2 ∨ x.tmod 4 = 3 := by omega
    rcases hc with hc | hc | hc | hc
    all_goals
      simp [hc]
      exact ⟨(⟨b0 :: bs, _⟩, c3), z0 _, rfl⟩
  · simp
    refine RB_dec ?_ ?_ <;> intro h2
    · simp
      refine ⟨trOk_unord (L := [(0, 2), (0, 3), (1, 2), (1, 3)]) (by kernel_rfl) (by simp) (by simp [indepAt, indep, spares, around, aside, pre, isSlc, Tr.feels, Tr.all, moves, bare, opData, isExt, cmpOf, Op.operands, Call.operands, mentL, ment, D.noUndefL, D.noUndef, pureE]), ?_⟩
      exact ⟨(⟨(boxAny c3).1 :: bs, vd⟩, (boxAny c3).2), z1, by simp⟩
    · simp
      refine RB_dec ?_ ?_ <;> intro h3
      · simp [b1]
        refine ⟨trOk_unord (L := [(0, 2), (0, 3), (0, 4), (0, 5), (0, 6), (1, 2), (1, 3), (1, 4), (1, 5), (1, 6)]) (by kernel_rfl) (by simp) (by simp [indepAt, indep, spares, around, aside, pre, isSlc, Tr.feels, Tr.all, moves, bare, opData, isExt, cmpOf, Op.operands, Call.operands, mentL, ment, D.noUndefL, D.noUndef, pureE]), ?_⟩
        exact ⟨(⟨(b0 :: bs) ++ [b0], vd⟩, c3), z2, by simp⟩
      · simp
        refine RB_dec ?_ ?_ <;> intro h4
        · simp [hbl]
          exact ⟨(⟨bs, vd⟩, c3), z3, by simp⟩
        · simp
          exact ⟨(⟨b0 :: bs, vd⟩, c3), z0 _, by simp⟩
noncomputable def storeAny (c : Cur) : Store × Cur := (ex_l09Any c).choose
theorem storeAny_sz (c : Cur) : szStore (storeAny c).1 ≤ 200000 := (ex_l09Any c).choose_spec.1
theorem eq_l09Any (c : Cur) : lim E 31 [.pto (encCur c)] = some (encStore false false (storeAny c).1, [.pto (encCur (storeAny c).2)]) := (ex_l09Any c).choose_spec.2
theorem ex_l09Name (c : Cur) : ∃ r : S × Cur, r.1.length ≤ 20 ∧ lim E 29 [.pto (encCur c)] = some (.str r.1, [.pto (encCur r.2)]) := by
  refine ex_split ?_
  refine lim_ex (E := E) rfl Tryz.func29 rfl (by kernel_rfl) (by kernel_rfl) ?_
  simp [Tryz.f29, tmpAt]
  have hp := pick_mem c [[105, 110, 98, 111, 120], [105, 110, 98, 111, 120], [119, 111, 114, 107], [111, 108, 100], [97], [110, 111, 110, 101]] (by simp)
  generalize pick c [[105, 110, 98, 111, 120], [105, 110, 98, 111, 120], [119, 111, 114, 107], [111, 108, 100], [97], [110, 111, 110, 101]] = P at *
  obtain ⟨nm, c1⟩ := P
  simp only at hp
  refine ⟨(nm, c1), ?_, by simp⟩
  simp at hp
  rcases hp with rfl | rfl | rfl | rfl | rfl <;> simp
noncomputable def nameDraw (c : Cur) : S × Cur := (ex_l09Name c).choose
theorem nameDraw_len (c : Cur) : (nameDraw c).1.length ≤ 20 := (ex_l09Name c).choose_spec.1
@[simp] theorem eq_l09Name (c : Cur) : lim E 29 [.pto (encCur c)] = some (.str (nameDraw c).1, [.pto (encCur (nameDraw c).2)]) := (ex_l09Name c).choose_spec.2
theorem ex_l09Named (code : S) (hc : code.length ≤ 1048576) : ∃ (s : Store) (n : S), szStore s ≤ 200000 ∧ n.length ≤ 20 ∧ lim E 49 [.lst false 5 1 (ofBytes code)] = some (.tup [encStore false false s, .str n], []) := by
  have w := eq_l01New code hc
  have hn := nameDraw_len (newCur code hc)
  generalize hQ : nameDraw (newCur code hc) = Q at *
  obtain ⟨n, c1⟩ := Q
  simp only at hn
  have w2 := eq_l09Any (once c1 12).2
  try simp at w2
  cases ho : (once c1 12).1
  · refine ⟨(storeAny (once c1 12).2).1, n, storeAny_sz _, hn, ?_⟩
    refine lim_run (E := E) rfl Tryz.func49 rfl (by kernel_rfl) (by kernel_rfl) ?_
    simp [Tryz.f49, tmpAt, w, hQ, ho, w2]
  · refine ⟨(storeAny (once c1 12).2).1, [], storeAny_sz _, by simp, ?_⟩
    refine lim_run (E := E) rfl Tryz.func49 rfl (by kernel_rfl) (by kernel_rfl) ?_
    simp [Tryz.f49, tmpAt, w, hQ, ho, w2]
theorem ex_DrawMakeBox (code : S) (hc : code.length ≤ 1048576) : ∃ (s : Store) (n : S), szStore s ≤ 200000 ∧ n.length ≤ 20 ∧ lim E 11 [.lst false 5 1 (ofBytes code)] = some (.tup [encStore false false s, .str n], []) := by
  obtain ⟨s, n, h1, h2, w⟩ := ex_l09Named code hc
  refine ⟨s, n, h1, h2, ?_⟩
  try simp at w
  refine lim_run (E := E) rfl Tryz.func11 rfl (by kernel_rfl) (by kernel_rfl) ?_
  simp [Tryz.f11, tmpAt, w]
theorem ex_DrawPutBox (code : S) (hc : code.length ≤ 1048576) : ∃ (s : Store) (b : Box), szStore s ≤ 200000 ∧ szBox b ≤ 10100 ∧ lim E 16 [.lst false 5 1 (ofBytes code)] = some (.tup [encStore false false s, encBox false true b], []) := by
  have w := eq_l01New code hc
  have hb := boxAny_sz (newCur code hc)
  generalize hQ : boxAny (newCur code hc) = Q at *
  obtain ⟨b, c1⟩ := Q
  have w2 := eq_l09Any c1
  try simp at w2
  refine ⟨(storeAny c1).1, b, storeAny_sz _, hb, ?_⟩
  refine lim_run (E := E) rfl Tryz.func16 rfl (by kernel_rfl) (by kernel_rfl) ?_
  simp [Tryz.f16, tmpAt, w, hQ, w2]
  exact trOk_unord (L := [(0, 2), (1, 2), (2, 3)]) (by kernel_rfl) (by simp) (by simp [indepAt, indep, spares, around, aside, pre, isSlc, Tr.feels, Tr.all, moves, bare, opData, isExt, cmpOf, Op.operands, Call.operands, mentL, ment, D.noUndefL, D.noUndef, pureE])
theorem ex_DrawCopyMails (code : S) (hc : code.length ≤ 1048576) : ∃ (s : Store) (a : S) (l : List Range) (z : S), szStore s ≤ 200000 ∧ l.length ≤ 50 ∧ lim E 6 [.lst false 5 1 (ofBytes code)] = some (.tup [encStore false false s, .str a, .lst true 95 2 (l.map encRange), .str z], []) := by
  have w := eq_l01New code hc
  generalize hQ1 : nameDraw (newCur code hc) = Q1 at *
  obtain ⟨a, c1⟩ := Q1
  generalize hQ2 : nameDraw c1 = Q2 at *
  obtain ⟨z, c2⟩ := Q2
  have hs := setAny_len c2
  generalize hQ3 : setAny c2 = Q3 at *
  obtain ⟨l, c3⟩ := Q3
  have w2 := eq_l09Any c3
  try simp at w2
  refine ⟨(storeAny c3).1, a, l, z, storeAny_sz _, hs, ?_⟩
  refine lim_run (E := E) rfl Tryz.func6 rfl (by kernel_rfl) (by kernel_rfl) ?_
  simp [Tryz.f6, tmpAt, w, hQ1, hQ2, hQ3, w2]
end Go.Proofs.YtdpagklgjchdgaaGreat
