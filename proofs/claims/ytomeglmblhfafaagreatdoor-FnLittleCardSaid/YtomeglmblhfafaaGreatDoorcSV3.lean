/- Sessions: 'select' with what is known already: the program's since, selected and Serve. -/
import Derived.Test.YtomeglmblhfafaaGreatDoorcP3
import Derived.Test.YtomeglmblhfafaaGreatDoorcV1
import Derived.Test.YtomeglmblhfafaaGreatDoorcAT
set_option linter.unusedSectionVars false
set_option linter.all false
set_option linter.unusedVariables false
set_option linter.unusedSimpArgs false
set_option maxRecDepth 100000
namespace Go.Proofs.YtomeglmblhfafaaGreatDoor
open Go.Lft

def lnGone (s : List Range) : Line := ⟨4, 0, 0, 0, 0, s, false⟩
noncomputable def sinceL (b : Box) (mod : Int) : List Line := (if (vanished b mod).1 = [] then [] else [lnGone (vanished b mod).1]) ++ fetchLines mod 0 b.mails
noncomputable def sinceR (b : Box) (valid mod : Int) : List Line × Bool := if valid = b.valid ∧ mod ≤ b.mod ∧ (vanished b mod).2 = true then (sinceL b mod, true) else ([], false)
set_option maxHeartbeats 2000000 in
theorem eq_since (b : Box) (valid mod : Int) (hok : boxOk b = true) : lim E 173 [encBox false false b, .int .i64 valid, .int .i64 mod] = some (.tup [.lst true 48 7 ((sinceR b valid mod).1.map (encLine false true)), .bool (sinceR b valid mod).2], []) := by
  have hsz := boxOk_sz hok
  have w := eq_Vanished b mod (by omega)
  have hml := (boxOk_lens hok).1
  have bb : ∀ j : Nat, j ≤ 40 → (j + 1) * 72 ≤ 140737488351232 := fun j hj => by omega
  unfold sinceR sinceL
  generalize vanished b mod = VV at *
  obtain ⟨gone, ok⟩ := VV
  clear hsz
  simp only at w ⊢
  try simp at w
  by_cases hv : valid = b.valid
  case neg =>
    refine lim_run (E := E) rfl Tryz.func173 rfl (by kernel_rfl) (by kernel_rfl) ?_
    simp [Tryz.f173, tmpAt, w, hv]
  subst hv
  by_cases hm : b.mod < mod
  · have hm' : ¬ mod ≤ b.mod := by omega
    refine lim_run (E := E) rfl Tryz.func173 rfl (by kernel_rfl) (by kernel_rfl) ?_
    simp [Tryz.f173, tmpAt, w, hm, hm']
  have hm' : mod ≤ b.mod := by omega
  cases ok
  · refine lim_run (E := E) rfl Tryz.func173 rfl (by kernel_rfl) (by kernel_rfl) ?_
    simp [Tryz.f173, tmpAt, w, hm, hm']
  obtain ⟨G, hG, hGl⟩ : ∃ G : List Line, G = (if gone = [] then [] else [lnGone gone]) ∧ G.length ≤ 1 := ⟨_, rfl, by split <;> simp⟩
  simp only [hm', true_and, and_self, if_true]
  rw [← hG]
  have key : ∀ (st0 : Prop), True := fun _ => trivial
  cases gone with
  | nil =>
    obtain rfl : G = [] := by rw [hG]; simp
    refine lim_run (E := E) rfl Tryz.func173 rfl (by kernel_rfl) (by kernel_rfl) ?_
    simp [Tryz.f173, tmpAt, w, hm]
    refine loop_fr [2, 43, 44] [] (fun m st => ∃ (i r : Nat) (L : List Line), i + m = b.mails.length ∧ (r = 33 ∨ r = 60) ∧ L ++ fetchLines mod i (b.mails.drop i) = fetchLines mod 0 b.mails ∧ L.length ≤ i ∧ st.env 10 = .slc (r,0) [] 0 L.length ∧ st.rs (r,0) = some ⟨false, .lst true 48 7 (L.map (encLine false true))⟩ ∧ st.env 45 = .int .i64 i) (b.mails.length) _ ?_ ?_
    · exact ⟨0, 33, [], by simp⟩
    rintro m0 ⟨env, rs⟩ hU0 hV0 ⟨i, r, L, hi, hr, hL, hl, e10, q10, e0_45⟩ ih0; simp at hU0 e0_45; clear hV0
    simp at e10 q10
    have hu := wrap_up (show i < 4611686018427387904 by omega)
    have b1 := bb L.length (by clear hr hu; omega)
    have hr2 := hr
    simp [hU0, e0_45]
    refine RB_dec ?_ ?_ <;> intro h
    · rw [List.drop_eq_getElem_cons h] at hL
      simp only [fetchLines] at hL
      have wf := eq_fetchOf b.mails[i] ((i + 1 : Nat) : Int)
      try simp at wf
      by_cases hh : mod < b.mails[i].mod
      · rw [if_pos hh] at hL
        rcases hr with rfl | rfl
        all_goals
          simp [hU0, e0_45, h, e10, q10, hu, hh, wf, b1]
          refine ih0 (m0 - 1) _ (by omega) ?_ ?_ ⟨i + 1, 60, L ++ [lnFetch b.mails[i] ((i + 1 : Nat) : Int)], by omega, .inr rfl, by simpa using hL, by simp; omega, ?_⟩
          · simp [hU0, e0_45]
          · simp [hU0, e0_45]
          simp [hU0, e0_45, hu, lnFetch]
      · rw [if_neg hh] at hL
        rcases hr with rfl | rfl
        all_goals
          simp [hU0, e0_45, h, e10, q10, hu, hh, wf, b1]
          refine ih0 (m0 - 1) _ (by omega) ?_ ?_ ⟨i + 1, _, L, by omega, hr2, by simpa using hL, by omega, ?_⟩
          · simp [hU0, e0_45]
          · simp [hU0, e0_45]
          simp [hU0, e0_45, hu, e10, q10]
    · have hd : b.mails.drop i = [] := List.drop_eq_nil_of_le (by clear hr hr2 hu; omega)
      rw [hd] at hL
      simp only [fetchLines, List.append_nil] at hL
      rcases hr with rfl | rfl
      all_goals
        simp [hU0, e0_45, h, e10, q10]
        rw [hL]
  | cons g0 gs =>
    obtain rfl : G = [lnGone (g0 :: gs)] := by rw [hG]; simp
    refine lim_run (E := E) rfl Tryz.func173 rfl (by kernel_rfl) (by kernel_rfl) ?_
    simp [Tryz.f173, tmpAt, w, hm]
    refine loop_fr [2, 43, 44] [] (fun m st => ∃ (i r : Nat) (L : List Line), i + m = b.mails.length ∧ (r = 41 ∨ r = 60) ∧ L ++ fetchLines mod i (b.mails.drop i) = lnGone (g0 :: gs) :: fetchLines mod 0 b.mails ∧ L.length ≤ i + 1 ∧ st.env 10 = .slc (r,0) [] 0 L.length ∧ st.rs (r,0) = some ⟨false, .lst true 48 7 (L.map (encLine false true))⟩ ∧ st.env 45 = .int .i64 i) (b.mails.length) _ ?_ ?_
    · exact ⟨0, 41, [lnGone (g0 :: gs)], by simp [lnGone]⟩
    rintro m0 ⟨env, rs⟩ hU0 hV0 ⟨i, r, L, hi, hr, hL, hl, e10, q10, e0_45⟩ ih0; simp at hU0 e0_45; clear hV0
    simp at e10 q10
    have hu := wrap_up (show i < 4611686018427387904 by omega)
    have b1 := bb L.length (by clear hr hu; omega)
    have hr2 := hr
    simp [hU0, e0_45]
    refine RB_dec ?_ ?_ <;> intro h
    · rw [List.drop_eq_getElem_cons h] at hL
      simp only [fetchLines] at hL
      have wf := eq_fetchOf b.mails[i] ((i + 1 : Nat) : Int)
      try simp at wf
      by_cases hh : mod < b.mails[i].mod
      · rw [if_pos hh] at hL
        rcases hr with rfl | rfl
        all_goals
          simp [hU0, e0_45, h, e10, q10, hu, hh, wf, b1]
          refine ih0 (m0 - 1) _ (by omega) ?_ ?_ ⟨i + 1, 60, L ++ [lnFetch b.mails[i] ((i + 1 : Nat) : Int)], by omega, .inr rfl, by simpa using hL, by simp; omega, ?_⟩
          · simp [hU0, e0_45]
          · simp [hU0, e0_45]
          simp [hU0, e0_45, hu, lnFetch]
      · rw [if_neg hh] at hL
        rcases hr with rfl | rfl
        all_goals
          simp [hU0, e0_45, h, e10, q10, hu, hh, wf, b1]
          refine ih0 (m0 - 1) _ (by omega) ?_ ?_ ⟨i + 1, _, L, by omega, hr2, by simpa using hL, by omega, ?_⟩
          · simp [hU0, e0_45]
          · simp [hU0, e0_45]
          simp [hU0, e0_45, hu, e10, q10]
    · have hd : b.mails.drop i = [] := List.drop_eq_nil_of_le (by clear hr hr2 hu; omega)
      rw [hd] at hL
      simp only [fetchLines, List.append_nil] at hL
      rcases hr with rfl | rfl
      all_goals
        simp [hU0, e0_45, h, e10, q10]
        rw [hL]
        simp
noncomputable def sel4 (b : Box) (v md : Nat) : List Line := if (sinceR b (v : Int) (md : Int)).2 = true then lnValid b false :: lnExists b.mails.length :: ((sinceR b (v : Int) (md : Int)).1 ++ [lnOk]) else selLines b
set_option maxHeartbeats 1000000 in
theorem eq_selected4 {s : Store} (x : Session) (n : S) (v md : Nat) (hv : v ≤ 1048576) (hmd : md ≤ 1048576) (hok : storeOk s = true) (hb : (boxAt s n).2 = true) : lim E 107 [encStore false false s, encSession false x, .lst false 9 1 [.str [115, 101, 108, 101, 99, 116], .str n, .str (Go.Lib.decDigits v), .str (Go.Lib.decDigits md)]] = some (.tup [encSession true ⟨true, viewOf (boxAt s n).1⟩, .lst true 48 7 ((sel4 (boxAt s n).1 v md).map (encLine false true))], []) := by
  have hs := storeOk_sz hok
  have w := eq_BoxAt s n (by omega)
  rw [hb] at w
  rcases boxAt_cases hok n with ⟨q1, q2, q3, q4⟩ | ⟨q1, q2⟩
  case inr => rw [hb] at q1; cases q1
  have hsz := sz_box q2
  generalize (boxAt s n).1 = b at *
  try simp at w
  have hml := boxOk_lens q4
  have hn : ∀ m ∈ b.mails, 0 < m.mod := by
    intro m hm
    rw [boxOk_iff] at q4
    obtain ⟨_, _, _, _, _, hq, _⟩ := q4
    have := hq m hm
    unfold MailFine at this
    omega
  have hF := fetchLines_all b.mails 0 hn
  have wr1 := eq_ReadDecimal v hv
  have wr2 := eq_ReadDecimal md hmd
  have ws := eq_since b (v : Int) (md : Int) q4
  have hsl : (sinceR b (v : Int) (md : Int)).1.length ≤ b.mails.length + 1 := by
    unfold sinceR sinceL
    have hfl := fetchLines_len (md : Int) b.mails 0
    split
    · simp only [List.length_append]
      split <;> simp <;> omega
    · simp
  have h4 : sel4 b v md = if (sinceR b (v : Int) (md : Int)).2 = true then lnValid b false :: lnExists b.mails.length :: ((sinceR b (v : Int) (md : Int)).1 ++ [lnOk]) else selLines b := rfl
  generalize sinceR b (v : Int) (md : Int) = SR at *
  obtain ⟨SL, is⟩ := SR
  simp only at ws hsl h4
  try simp at ws
  generalize Go.Lib.decDigits v = D1 at *
  generalize Go.Lib.decDigits md = D2 at *
  have wv := eq_ViewOf b (by omega)
  try simp at wv
  have bb : ∀ j : Nat, j ≤ 31 → (j + 1) * 72 ≤ 140737488351232 ∧ (2 + j) * 72 ≤ 140737488351232 ∧ (j + 1 + 1 + 1) * 72 ≤ 140737488351232 := fun j hj => by omega
  have hml1 := hml.1
  clear hml hs hsz
  refine lim_run (E := E) rfl Tryz.func107 rfl (by kernel_rfl) (by kernel_rfl) ?_
  simp [Tryz.f107, tmpAt, w]
  refine ⟨trOk_unord (L := [(0, 1), (0, 2), (0, 3), (0, 8), (1, 8), (2, 8), (3, 8), (4, 8), (5, 8), (6, 7), (6, 8), (7, 8), (7, 9)]) (by kernel_rfl) (by simp) (by simp [indepAt, indep, spares, around, aside, pre, isSlc, Tr.feels, Tr.all, moves, bare, opData, isExt, cmpOf, Op.operands, Call.operands, mentL, ment, D.noUndefL, D.noUndef, pureE, w]), ?_⟩
  refine loop_fr [2, 4, 6, 8, 10, 41, 42] [(4,0), (6,0), (8,0), (10,0)] (fun m st => ∃ (i r : Nat) (L : List Line), i + m = b.mails.length ∧ (r = 39 ∨ r = 54) ∧ L ++ fetchLines 0 i (b.mails.drop i) = fetchLines 0 0 b.mails ∧ L.length = i ∧ st.env 11 = .slc (r,0) [] 0 i ∧ st.rs (r,0) = some ⟨false, .lst true 48 7 (L.map (encLine false true))⟩ ∧ st.env 43 = .int .i64 i) (b.mails.length) _ ?_ ?_
  · exact ⟨0, 39, [], by simp⟩
  rintro m0 ⟨env, rs⟩ hU0 hV0 ⟨i, r, L, hi, hr, hL, hl, e11, q11, e0_43⟩ ih0; simp at hU0 hV0 e0_43
  simp at e11 q11
  have hu := wrap_up (show i < 4611686018427387904 by omega)
  have hr2 := hr
  obtain ⟨b1, b2, b3⟩ := bb i (by clear hr hr2 hu; omega)
  simp [hU0, hV0, e0_43]
  refine RB_dec ?_ ?_ <;> intro h
  · rw [List.drop_eq_getElem_cons h] at hL
    simp only [fetchLines, if_pos (hn _ (List.getElem_mem h))] at hL
    have wf := eq_fetchOf b.mails[i] ((i + 1 : Nat) : Int)
    try simp at wf
    rcases hr with rfl | rfl
    all_goals
      simp [hU0, hV0, e0_43, h, e11, q11, hu, wf, b1, hl]
      refine ih0 (m0 - 1) _ (by omega) ?_ ?_ ⟨i + 1, 54, L ++ [lnFetch b.mails[i] ((i + 1 : Nat) : Int)], by omega, .inr rfl, by simpa using hL, by simp [hl], ?_⟩
      · simp [hU0, hV0, e0_43]
      · simp [hU0, hV0, e0_43]
      simp [hU0, hV0, e0_43, hu, lnFetch]
  · have hd : b.mails.drop i = [] := List.drop_eq_nil_of_le (by omega)
    rw [hd] at hL
    simp only [fetchLines, List.append_nil] at hL
    have hil : i = b.mails.length := by clear hr hr2 hu b1 b2 b3; omega
    obtain ⟨_, c2, c3⟩ := bb SL.length (by clear hr hr2 hu b1 b2 b3 hil; omega)
    cases is
    · simp only [Bool.false_eq_true, if_false] at h4
      rcases hr with rfl | rfl
      all_goals
        simp [hU0, hV0, e0_43, h, e11, q11, wv, hl, b2, b3, wr1, wr2, ws, tmpAt]
        have hsel : selLines b = lnValid b true :: lnExists b.mails.length :: (L ++ [lnOk]) := by rw [hL]; rfl
        simp [h4, hsel, lnValid, lnExists, lnOk]
    · simp only [if_true] at h4
      rcases hr with rfl | rfl
      all_goals
        simp [hU0, hV0, e0_43, h, e11, q11, wv, hl, c2, c3, wr1, wr2, ws, tmpAt]
        simp [h4, lnValid, lnExists, lnOk]
set_option maxHeartbeats 1000000 in
theorem eq_askedSelect4 {s : Store} (x : Session) (n : S) (v md : Nat) (hv : v ≤ 1048576) (hmd : md ≤ 1048576) (hok : storeOk s = true) (hb : (boxAt s n).2 = true) : lim E 53 [encStore false false s, encSession false x, .lst false 9 1 [.str [115, 101, 108, 101, 99, 116], .str n, .str (Go.Lib.decDigits v), .str (Go.Lib.decDigits md)]] = some (.tup [encSession true ⟨true, viewOf (boxAt s n).1⟩, .lst true 48 7 ((sel4 (boxAt s n).1 v md).map (encLine false true)), .bool true], []) := by
  have w := eq_selected4 x n v md hv hmd hok hb
  generalize sel4 (boxAt s n).1 v md = SL at *
  generalize (boxAt s n).1 = b at *
  generalize Go.Lib.decDigits v = D1 at *
  generalize Go.Lib.decDigits md = D2 at *
  try simp at w
  refine lim_run (E := E) rfl Tryz.func53 rfl (by kernel_rfl) (by kernel_rfl) ?_
  simp [Tryz.f53, tmpAt, w]
set_option maxHeartbeats 1000000 in
theorem eq_ServeSelect4 {s : Store} (x : Session) (n : S) (v md : Nat) (hv : v ≤ 1048576) (hmd : md ≤ 1048576) (hok : storeOk s = true) (hb : (boxAt s n).2 = true) : lim E 11 [encStore false false s, encSession false x, .lst false 9 1 [.str [115, 101, 108, 101, 99, 116], .str n, .str (Go.Lib.decDigits v), .str (Go.Lib.decDigits md)]] = some (.tup [encStore false true s, encSession true ⟨true, viewOf (boxAt s n).1⟩, .lst true 48 7 ((sel4 (boxAt s n).1 v md).map (encLine false true)), .lst true 65 8 []], []) := by
  have w := eq_askedSelect4 x n v md hv hmd hok hb
  have hs := storeOk_sz hok
  have wo := eq_StoreOk s (by omega)
  rw [hok] at wo
  have wc := eq_copyStore s (by omega)
  generalize sel4 (boxAt s n).1 v md = SL at *
  generalize (boxAt s n).1 = b at *
  generalize Go.Lib.decDigits v = D1 at *
  generalize Go.Lib.decDigits md = D2 at *
  try simp at w
  try simp at wo
  try simp at wc
  refine lim_run (E := E) rfl Tryz.func11 rfl (by kernel_rfl) (by kernel_rfl) ?_
  simp [Tryz.f11, tmpAt, w, wo, wc]
  exact trOk_unord (L := [(0, 2), (0, 3), (1, 2), (1, 3), (2, 3), (2, 4), (3, 4), (3, 5)]) (by kernel_rfl) (by simp) (by simp [indepAt, indep, spares, around, aside, pre, isSlc, Tr.feels, Tr.all, moves, bare, opData, isExt, cmpOf, Op.operands, Call.operands, mentL, ment, D.noUndefL, D.noUndef, pureE, w, wo, wc])
end Go.Proofs.YtomeglmblhfafaaGreatDoor
