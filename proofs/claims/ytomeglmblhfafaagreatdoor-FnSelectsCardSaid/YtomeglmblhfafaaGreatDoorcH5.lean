/- Stores: CopyMails of both. -/
import Derived.Test.YtomeglmblhfafaaGreatDoorcH2
import Derived.Test.YtomeglmblhfafaaGreatDoorcD9
import Derived.Test.YtomeglmblhfafaaGreatDoorcD14
import Derived.Test.YtomeglmblhfafaaGreatDoorcC4
set_option linter.unusedSectionVars false
set_option linter.all false
set_option linter.unusedVariables false
set_option linter.unusedSimpArgs false
set_option maxRecDepth 100000
namespace Go.Proofs.YtomeglmblhfafaaGreatDoor
open Go.Lft

noncomputable def addAll (b : Box) : List Mail → Option Box
  | [] => some b
  | m :: ms => if (addMail b m.flags m.text).2 = 0 then none else addAll (addMail b m.flags m.text).1 ms
theorem addAll_append : ∀ (xs ys : List Mail) (b : Box), addAll b (xs ++ ys) = (addAll b xs).bind fun c => addAll c ys
  | [], ys, b => rfl
  | x :: xs, ys, b => by
    simp only [List.cons_append, addAll]
    split
    · rfl
    · exact addAll_append xs ys _
theorem addAll_ok : ∀ (ms : List Mail) {b c : Box}, boxOk b = true → addAll b ms = some c → boxOk c = true ∧ c.name = b.name ∧ c.valid = b.valid
  | [], b, c, hb, h => by obtain rfl := Option.some.inj h; exact ⟨hb, rfl, rfl⟩
  | m :: ms, b, c, hb, h => by
    simp only [addAll] at h
    split at h
    · cases h
    · obtain ⟨h1, h2, h3⟩ := addAll_ok ms (addMail_ok hb) h
      refine ⟨h1, h2.trans ?_, h3.trans ?_⟩ <;> (unfold addMail; split <;> rfl)
noncomputable def copyMails (s : Store) (a : S) (set_ : List Range) (z : S) : Store × Int :=
  if storeOk s = true ∧ setOk set_ = true then
    if (boxAt s a).2 = true ∧ (boxAt s z).2 = true then
      match addAll (boxAt s z).1 ((boxAt s a).1.mails.filter fun m => setHas set_ m.uid) with
      | some b => (putBox s b, 0)
      | none => (s, 3)
    else (s, 1)
  else (s, 4)
theorem boxAt_mem {s : Store} {n : S} (h : (boxAt s n).2 = true) : (boxAt s n).1 ∈ s.boxes ∧ (boxAt s n).1.name = n := by
  unfold boxAt at h ⊢
  split at h
  · rename_i b hb
    have h1 := List.mem_of_find?_eq_some hb
    have h2 := List.find?_some hb
    exact ⟨h1, by simpa [isNamed] using h2⟩
  · cases h
set_option maxHeartbeats 4000000 in
theorem eq_sCopyMails (s : Store) (a : S) (set_ : List Range) (z : S) (hl : szStore s ≤ 1048576) (hs : set_.length ≤ 16777216) : lim E 167 [encStore false false s, .str a, .lst false 161 2 (set_.map encRange), .str z] = some (.tup [encStore false true (copyMails s a set_ z).1, .int .i64 (copyMails s a set_ z).2], []) := by
  have hz : szStore s = s.boxes.length + tot (fun (y : Box) => szBox y) s.boxes := rfl
  have wc := eq_l09Copy s hl
  try simp at wc
  have wo := eq_sStoreOk s (by omega)
  try simp at wo
  have ws := eq_sSetOk set_ hs
  have wa := eq_sBoxAt s a (by omega)
  try simp at wa
  have wz := eq_sBoxAt s z (by omega)
  try simp at wz
  by_cases hok : storeOk s = true ∧ setOk set_ = true
  case neg =>
    have he : copyMails s a set_ z = (s, 4) := by unfold copyMails; rw [if_neg hok]
    rw [he]
    cases h1 : storeOk s
    · rw [h1] at wo
      refine lim_run (E := E) rfl Tryz.func167 rfl (by kernel_rfl) (by kernel_rfl) ?_
      simp [Tryz.f167, tmpAt, wc, wo, ws]
    · have h2 : setOk set_ = false := by cases hb : setOk set_; rfl; exact absurd ⟨h1, hb⟩ hok
      rw [h1] at wo
      rw [h2] at ws
      refine lim_run (E := E) rfl Tryz.func167 rfl (by kernel_rfl) (by kernel_rfl) ?_
      simp [Tryz.f167, tmpAt, wc, wo, ws]
  obtain ⟨o1, o2⟩ := hok
  rw [o1] at wo
  rw [o2] at ws
  obtain ⟨c1, c2, c3, c4⟩ := (storeOk_iff s).1 o1
  by_cases hat : (boxAt s a).2 = true ∧ (boxAt s z).2 = true
  case neg =>
    have he : copyMails s a set_ z = (s, 1) := by unfold copyMails; rw [if_pos ⟨o1, o2⟩, if_neg hat]
    rw [he]
    cases h1 : (boxAt s a).2
    · rw [h1] at wa
      refine lim_run (E := E) rfl Tryz.func167 rfl (by kernel_rfl) (by kernel_rfl) ?_
      simp [Tryz.f167, tmpAt, wc, wo, ws, wa, wz]
    · have h2 : (boxAt s z).2 = false := by cases hb : (boxAt s z).2; rfl; exact absurd ⟨h1, hb⟩ hat
      rw [h1] at wa
      rw [h2] at wz
      refine lim_run (E := E) rfl Tryz.func167 rfl (by kernel_rfl) (by kernel_rfl) ?_
      simp [Tryz.f167, tmpAt, wc, wo, ws, wa, wz]
  obtain ⟨t1, t2⟩ := hat
  obtain ⟨n1, n2⟩ := boxAt_mem t1
  obtain ⟨n3, n4⟩ := boxAt_mem t2
  have he : copyMails s a set_ z = match addAll (boxAt s z).1 ((boxAt s a).1.mails.filter fun m => setHas set_ m.uid) with | some b => (putBox s b, 0) | none => (s, 3) := by unfold copyMails; rw [if_pos ⟨o1, o2⟩, if_pos ⟨t1, t2⟩]
  rw [t1] at wa
  rw [t2] at wz
  generalize (boxAt s a).1 = A at *
  generalize (boxAt s z).1 = B at *
  have hA := (c1 A n1).1
  have hB := (c1 B n3).1
  have hAl := boxOk_lens hA
  have hAs := boxOk_sz hA
  have hAz : szBox A = A.name.length + (A.mails.length + tot (fun (y : Mail) => szMail y) A.mails) + A.tombs.length := rfl
  refine lim_run (E := E) rfl Tryz.func167 rfl (by kernel_rfl) (by kernel_rfl) ?_
  simp [Tryz.f167, tmpAt, wc, wo, ws, wa, wz]
  refine loop_fr [2, 4, 8, 10, 11, 13] [(4,0), (8,0), (10,0), (11,0), (11,0)] (fun m st => ∃ (i : Nat) (b : Box), i + m = A.mails.length ∧ addAll B ((A.mails.take i).filter fun m => setHas set_ m.uid) = some b ∧ st.env 15 = .int .i64 i ∧ st.rs (13,0) = some ⟨true, encBox false true b⟩) (A.mails.length) _ ?_ ?_
  · exact ⟨0, B, by simp [addAll]⟩
  rintro m0 ⟨env, rs⟩ hU0 hV0 ⟨i, b, hi, hb, e0_15, r0_13_0⟩ ih0; simp at hU0 hV0 e0_15 r0_13_0
  have hw := wrap_up (show i < 4611686018427387904 by omega)
  obtain ⟨k1, k2, k3⟩ := addAll_ok _ hB hb
  have hbs := boxOk_sz k1
  simp [hU0, hV0, e0_15, r0_13_0]
  refine RB_dec ?_ ?_ <;> intro h
  · have hn := take_filter (fun m => setHas set_ m.uid) A.mails i h
    have wh := eq_sSetHas set_ A.mails[i].uid hs
    have hm := tot_mem (fun (y : Mail) => szMail y) (List.getElem_mem h)
    have hmz : szMail A.mails[i] = A.mails[i].text.length := rfl
    have wd := eq_sAddMail b A.mails[i].flags A.mails[i].text (by omega)
    try simp at wd
    cases hh : setHas set_ A.mails[i].uid
    · rw [hh] at wh
      simp [hh] at hn
      simp [hU0, hV0, e0_15, r0_13_0, h, wh, tmpAt]
      refine ih0 (m0 - 1) _ (by omega) ?_ ?_ ⟨i + 1, b, by omega, by rw [hn]; exact hb, ?_⟩
      · simp [hU0, hV0, e0_15, r0_13_0, h]
      · simp [hU0, hV0, e0_15, r0_13_0, h]
      simp [hU0, hV0, e0_15, r0_13_0, hw]
    · rw [hh] at wh
      simp [hh] at hn
      by_cases h0 : (addMail b A.mails[i].flags A.mails[i].text).2 = 0
      · have hnone : addAll B (A.mails.filter fun m => setHas set_ m.uid) = none := by
          have e : A.mails.filter (fun m => setHas set_ m.uid) = (A.mails.take (i + 1)).filter (fun m => setHas set_ m.uid) ++ (A.mails.drop (i + 1)).filter (fun m => setHas set_ m.uid) := by rw [← List.filter_append, List.take_append_drop]
          rw [e, hn, addAll_append, addAll_append, hb]
          simp [addAll, h0]
        rw [hnone] at he
        simp only at he
        rw [he]
        simp [hU0, hV0, e0_15, r0_13_0, h, wh, wd, h0, wc, tmpAt]
        exact trOk_unord (L := [(0, 1), (0, 2), (0, 3), (0, 4), (0, 5), (0, 6), (0, 7), (0, 8), (0, 9), (0, 10), (0, 11), (0, 12), (0, 17), (1, 3), (1, 7), (1, 8), (1, 9), (1, 10), (1, 11), (1, 12), (1, 17), (2, 3), (2, 7), (2, 8), (2, 9), (2, 10), (2, 11), (2, 12), (2, 17), (3, 7), (3, 8), (3, 9), (3, 10), (3, 11), (3, 12), (3, 17), (4, 7), (4, 8), (4, 9), (4, 10), (4, 11), (4, 12), (4, 17), (5, 7), (5, 8), (5, 9), (5, 10), (5, 11), (5, 12), (5, 17), (6, 7), (6, 8), (6, 9), (6, 10), (6, 11), (6, 12), (6, 17), (7, 9), (7, 17), (8, 9), (8, 17), (9, 17), (10, 17), (11, 17), (12, 17), (13, 17), (14, 17), (15, 16), (15, 17), (16, 17), (16, 18)]) (by kernel_rfl) (by simp) (by simp [indepAt, indep, spares, around, aside, pre, isSlc, Tr.feels, Tr.all, moves, bare, opData, isExt, cmpOf, Op.operands, Call.operands, mentL, ment, D.noUndefL, D.noUndef, pureE, hU0, hV0, e0_15, r0_13_0])
      · simp [hU0, hV0, e0_15, r0_13_0, h, wh, wd, h0, tmpAt]
        refine ⟨trOk_unord (L := [(0, 1), (0, 2), (0, 3), (0, 4), (0, 5), (0, 6), (0, 7), (0, 8), (0, 9), (0, 10), (0, 11), (0, 12), (0, 17), (1, 3), (1, 7), (1, 8), (1, 9), (1, 10), (1, 11), (1, 12), (1, 17), (2, 3), (2, 7), (2, 8), (2, 9), (2, 10), (2, 11), (2, 12), (2, 17), (3, 7), (3, 8), (3, 9), (3, 10), (3, 11), (3, 12), (3, 17), (4, 7), (4, 8), (4, 9), (4, 10), (4, 11), (4, 12), (4, 17), (5, 7), (5, 8), (5, 9), (5, 10), (5, 11), (5, 12), (5, 17), (6, 7), (6, 8), (6, 9), (6, 10), (6, 11), (6, 12), (6, 17), (7, 9), (7, 17), (8, 9), (8, 17), (9, 17), (10, 17), (11, 17), (12, 17), (13, 17), (14, 17), (15, 16), (15, 17), (16, 17), (16, 18)]) (by kernel_rfl) (by simp) (by simp [indepAt, indep, spares, around, aside, pre, isSlc, Tr.feels, Tr.all, moves, bare, opData, isExt, cmpOf, Op.operands, Call.operands, mentL, ment, D.noUndefL, D.noUndef, pureE, hU0, hV0, e0_15, r0_13_0]), ?_⟩
        refine ih0 (m0 - 1) _ (by omega) ?_ ?_ ⟨i + 1, (addMail b A.mails[i].flags A.mails[i].text).1, by omega, by rw [hn, addAll_append, hb]; simp [addAll, h0], ?_⟩
        · simp [hU0, hV0, e0_15, r0_13_0, h]
        · simp [hU0, hV0, e0_15, r0_13_0, h]
        simp [hU0, hV0, e0_15, r0_13_0, hw]
  · rw [List.take_of_length_le (by omega)] at hb
    rw [hb] at he
    simp only at he
    rw [he]
    have wp := eq_sPutBox s b hl (by omega)
    try simp at wp
    simp [hU0, hV0, e0_15, r0_13_0, h, wp]
end Go.Proofs.YtomeglmblhfafaaGreatDoor
