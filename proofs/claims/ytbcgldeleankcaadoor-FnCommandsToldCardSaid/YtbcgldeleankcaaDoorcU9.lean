/- Commands: the drawn words, right or not; the drawn texts. -/
import Derived.Test.YtbcgldeleankcaaDoorcU7
import Derived.Test.YtbcgldeleankcaaDoorcU8
set_option linter.unusedSectionVars false
set_option linter.all false
set_option linter.unusedVariables false
set_option linter.unusedSimpArgs false
set_option maxRecDepth 100000
namespace Go.Proofs.YtbcgldeleankcaaDoor
open Go.Lft

theorem ex_l01Text1 (c : Cur) : ∃ r : S × Cur, r.1.length ≤ 1 ∧ lim E 51 [.pto (encCur c), .int .i64 1] = some (.str r.1, [.pto (encCur r.2)]) := by
  refine ex_split ?_
  refine lim_ex (E := E) rfl Tryd.func51 rfl (by kernel_rfl) (by kernel_rfl) ?_
  simp [Tryd.f51, tmpAt]
  refine loop_fr [0, 1] [] (fun m st => ∃ (i r : Nat) (xs : S) (c' : Cur), i + m = 1 ∧ (r = 9 ∨ r = 20) ∧ xs.length = i ∧ st.env 5 = .slc (r,0) [] 0 xs.length ∧ st.rs (r,0) = some ⟨false, .lst true 5 1 (ofBytes xs)⟩ ∧ st.env 6 = .int .i64 i ∧ st.rs (0,99) = some ⟨true, encCur c'⟩) (1) _ ?_ ?_
  · exact ⟨0, 9, [], c, by simp [ofBytes]⟩
  rintro m0 ⟨env, rs⟩ hU0 hV0 ⟨i, r, xs, c', hi, hr, hl, e5, q, e0_6, r0_0_99⟩ ih0; simp at hU0 e0_6 r0_0_99; clear hV0
  simp at e5 q
  have hu := wrap_up (show i < 4611686018427387904 by omega)
  simp [hU0, e0_6, r0_0_99]
  refine RB_dec ?_ ?_ <;> intro h
  · have hb := byte_in c'
    generalize hB : byte c' = B at *
    obtain ⟨b, c2⟩ := B
    simp only at hb
    obtain ⟨n, rfl⟩ : ∃ n : Nat, b = n := ⟨b.toNat, by omega⟩
    have hw8 : IntKind.u8.wrap (n : Int) = (n : Int) := by rw [IntKind.wrap_u8]; omega
    have hof : ofBytes (xs ++ [UInt8.ofNat n]) = ofBytes xs ++ [D.int IntKind.u8 n] := by
      have : (UInt8.ofNat n).toNat = n := by rw [UInt8.toNat_ofNat']; omega
      simp [ofBytes]; omega
    have hcap : xs.length ≤ 140737488351231 := by omega
    rcases hr with rfl | rfl
    all_goals
      simp [hU0, e0_6, r0_0_99, h, e5, q, hB, hw8, hcap]
      refine ih0 (m0 - 1) _ (by omega) ?_ ?_ ⟨i + 1, 20, xs ++ [UInt8.ofNat n], c2, by omega, by simp, by simp [hl], ?_⟩
      · simp [hU0, e0_6, r0_0_99]
      · simp [hU0, e0_6, r0_0_99]
      rw [hof]
      simp [hU0, e0_6, r0_0_99, hu]
  · have hi1 : i = 1 := by omega
    subst hi1
    rcases hr with rfl | rfl
    all_goals
      simp [hU0, e0_6, r0_0_99, h, e5, q]
      exact ⟨(xs, c'), by simp; omega, by simp⟩
noncomputable def text1 (c : Cur) : S × Cur := (ex_l01Text1 c).choose
theorem text1_len (c : Cur) : (text1 c).1.length ≤ 1 := (ex_l01Text1 c).choose_spec.1
theorem eq_l01Text1 (c : Cur) : lim E 51 [.pto (encCur c), .int .i64 1] = some (.str (text1 c).1, [.pto (encCur (text1 c).2)]) := (ex_l01Text1 c).choose_spec.2
set_option maxHeartbeats 1000000 in
theorem ex_l02Spoilt (c : Cur) (s : S) (hs : s.length ≤ 1048576) : ∃ r : S × Cur, r.1.length ≤ s.length + 1 ∧ lim E 29 [.pto (encCur c), .str s] = some (.str r.1, [.pto (encCur r.2)]) := by
  refine ex_split ?_
  have hb := below_in c 12
  generalize hQ : below c 12 = Q at *
  obtain ⟨x, c0⟩ := Q
  simp at hb
  have hsw : IntKind.i64.wrap ((s.length : Int) + 1) = (s.length : Int) + 1 := wrap_in (by omega) (by omega)
  have hx : x = 0 ∨ x = 1 ∨ (x = 2 ∨ x = 3) ∨ 4 ≤ x := by omega
  rcases hx with rfl | rfl | hx | hx
  · have h1 := text1_len c0
    have w1 := eq_l01Text1 c0
    generalize text1 c0 = P at *
    obtain ⟨u, c1⟩ := P
    simp only at h1 w1
    try simp at w1
    have hm : s.length + u.length ≤ 4611686018427387904 := by omega
    refine lim_ex (E := E) rfl Tryd.func29 rfl (by kernel_rfl) (by kernel_rfl) ?_
    simp [Tryd.f29, tmpAt, hQ, w1, hm]
    exact ⟨(s ++ u, c1), by simp; omega, by simp⟩
  · have hb2 := below_in c0 ((s.length : Int) + 1)
    generalize hQ2 : below c0 ((s.length : Int) + 1) = Q at *
    obtain ⟨k, c2⟩ := Q
    simp at hb2
    obtain ⟨n, rfl⟩ : ∃ n : Nat, k = n := ⟨k.toNat, by omega⟩
    have hn : n ≤ s.length := by omega
    refine lim_ex (E := E) rfl Tryd.func29 rfl (by kernel_rfl) (by kernel_rfl) ?_
    simp [Tryd.f29, tmpAt, hQ, hsw, hQ2, hn]
    exact ⟨(s.take n, c2), by simp; omega, by simp⟩
  · by_cases hs0 : s = []
    · subst hs0
      rcases hx with rfl | rfl
      all_goals
        refine lim_ex (E := E) rfl Tryd.func29 rfl (by kernel_rfl) (by kernel_rfl) ?_
        simp [Tryd.f29, tmpAt, hQ]
        exact ⟨([], c0), by simp, by simp⟩
    · have hs1 : 0 < s.length := List.length_pos_iff.2 hs0
      have hb2 := below_in c0 (s.length : Int)
      generalize hQ2 : below c0 (s.length : Int) = Q at *
      obtain ⟨k, c2⟩ := Q
      simp at hb2
      obtain ⟨n, rfl⟩ : ∃ n : Nat, k = n := ⟨k.toNat, by omega⟩
      have hn : n < s.length := by omega
      have hn' : n ≤ s.length := by omega
      have hn1 : n + 1 ≤ s.length := by omega
      have hnw : IntKind.i64.wrap ((n : Int) + 1) = (n : Int) + 1 := wrap_in (by omega) (by omega)
      have h1 := text1_len c2
      have w1 := eq_l01Text1 c2
      generalize text1 c2 = P at *
      obtain ⟨u, c1⟩ := P
      simp only at h1 w1
      try simp at w1
      have hn0 : (0 : Int) ≤ (n : Int) + 1 := by omega
      have hm1 : n + u.length ≤ 4611686018427387904 := by omega
      have hm2 : n + u.length + (s.length - (n + 1)) ≤ 4611686018427387904 := by omega
      have hm3 : n + (u.length + (s.length - (n + 1))) ≤ 4611686018427387904 := by omega
      rcases hx with rfl | rfl
      all_goals
        refine lim_ex (E := E) rfl Tryd.func29 rfl (by kernel_rfl) (by kernel_rfl) ?_
        simp [Tryd.f29, tmpAt, hQ, hs1, hQ2, w1, hn, hn', hn1, hnw, hn0, hm1, hm2, hm3]
        refine ⟨trOk_unord (L := [(0, 1), (0, 3), (0, 4), (0, 6), (0, 7), (0, 8), (0, 9), (1, 3), (1, 4), (1, 6), (1, 7), (1, 8), (1, 9), (2, 3), (2, 4), (2, 6), (2, 7), (2, 8), (2, 9), (3, 6), (3, 7), (3, 8), (3, 9), (4, 6), (4, 7), (4, 8), (4, 9), (5, 6), (5, 7), (5, 8), (5, 9), (6, 7), (6, 8)]) (by kernel_rfl) (by simp) (by simp [indepAt, indep, spares, around, aside, pre, isSlc, Tr.feels, Tr.all, moves, bare, opData, isExt, cmpOf, Op.operands, Call.operands, mentL, ment, D.noUndefL, D.noUndef, pureE]), ?_⟩
        exact ⟨(s.take n ++ (u ++ (s.drop (n + 1)).take (s.length - (n + 1))), c1), by simp; omega, by simp⟩
  · have x0 : ¬ x = 0 := by omega
    have x1 : ¬ x = 1 := by omega
    have x2 : ¬ x = 2 := by omega
    have x3 : ¬ x = 3 := by omega
    refine lim_ex (E := E) rfl Tryd.func29 rfl (by kernel_rfl) (by kernel_rfl) ?_
    simp [Tryd.f29, tmpAt, hQ, x0, x1, x2, x3]
    exact ⟨(s, c0), by simp, by simp⟩
noncomputable def spoilt (c : Cur) (s : S) (hs : s.length ≤ 1048576) : S × Cur := (ex_l02Spoilt c s hs).choose
theorem spoilt_len (c : Cur) (s : S) (hs : s.length ≤ 1048576) : (spoilt c s hs).1.length ≤ s.length + 1 := (ex_l02Spoilt c s hs).choose_spec.1
theorem eq_l02Spoilt (c : Cur) (s : S) (hs : s.length ≤ 1048576) : lim E 29 [.pto (encCur c), .str s] = some (.str (spoilt c s hs).1, [.pto (encCur (spoilt c s hs).2)]) := (ex_l02Spoilt c s hs).choose_spec.2
def aOk (ws : List S) : Prop := ws.length ≤ 13 ∧ ∀ w ∈ ws, shownW w = true ∨ w.length < 100
set_option maxHeartbeats 4000000 in
theorem ex_l15Any (c : Cur) : ∃ r : List S × Cur, aOk r.1 ∧ lim E 28 [.pto (encCur c)] = some (.lst true 9 1 (r.1.map .str), [.pto (encCur r.2)]) := by
  refine ex_split ?_
  have hb := below_in c 12
  generalize hQ : below c 12 = Q at *
  obtain ⟨x, c0⟩ := Q
  simp at hb
  have hw := cmdDraw_ok c0
  have w := eq_l15Words c0
  generalize cmdDraw c0 = P at *
  obtain ⟨ws, c1⟩ := P
  simp only at hw w
  obtain ⟨n1, n2, n3, _⟩ := hw
  try simp at w
  have htk : ∀ p : S, List.take (ws.length + 1) (ws.map D.str ++ [D.str p]) = ws.map D.str ++ [D.str p] := fun p => List.take_of_length_le (by simp)
  have hcap : ws.length * 16 ≤ 140737488351232 := by omega
  have hcap1 : (ws.length + 1) * 16 ≤ 140737488351232 := by omega
  have add : ∀ p : S, (shownW p = true ∨ p.length < 100) → aOk (ws ++ [p]) := fun p hp => ⟨by simp; omega, fun w hw => by
    rcases List.mem_append.1 hw with hw | hw
    · exact .inr (n3 w hw)
    · rw [List.mem_singleton.1 hw]; exact hp⟩
  have hx : x = 0 ∨ x = 1 ∨ x = 2 ∨ x = 3 ∨ 4 ≤ x := by omega
  rcases hx with rfl | rfl | rfl | rfl | hx
  · have hp := pick_le c1 [[], [97, 32, 98], [113, 34, 92, 113], [40, 97], [40, 97, 32, 98, 41], [40, 32, 97, 41], [1, 10], [123, 51, 125], [40, 41]] 5 (by simp) (by decide)
    generalize hP : pick c1 [[], [97, 32, 98], [113, 34, 92, 113], [40, 97], [40, 97, 32, 98, 41], [40, 32, 97, 41], [1, 10], [123, 51, 125], [40, 41]] = P at *
    obtain ⟨pw, c4⟩ := P
    simp only at hp
    refine lim_ex (E := E) rfl Tryd.func28 rfl (by kernel_rfl) (by kernel_rfl) ?_
    simp [Tryd.f28, tmpAt, hQ, w, hP, hcap, hcap1]
    exact ⟨(ws ++ [pw], c4), add pw (.inr (by omega)), by simp [htk]⟩
  · have hb2 := below_in c1 2
    generalize hQ2 : below c1 2 = Q at *
    obtain ⟨k, c2⟩ := Q
    simp at hb2
    obtain ⟨n, rfl⟩ : ∃ n : Nat, k = n := ⟨k.toNat, by omega⟩
    have hwp : IntKind.i64.wrap (60 + (n : Int)) = 60 + n := wrap_in (by omega) (by omega)
    have wl := eq_l01Long (60 + n) 97 (by omega)
    try simp at wl
    refine lim_ex (E := E) rfl Tryd.func28 rfl (by kernel_rfl) (by kernel_rfl) ?_
    simp [Tryd.f28, tmpAt, hQ, w, hQ2, hwp, wl, hcap, hcap1]
    exact ⟨(ws ++ [List.replicate (60 + n) 97], c2), add _ (.inr (by simp; omega)), by simp [htk]⟩
  · refine lim_ex (E := E) rfl Tryd.func28 rfl (by kernel_rfl) (by kernel_rfl) ?_
    simp [Tryd.f28, tmpAt, hQ, w, hcap, hcap1]
    refine loop_fr [0] [] (fun m st => ∃ (r : Nat) (xs : List S) (c' : Cur), xs.length + m = 13 ∧ (r = 10 ∨ r = 39) ∧ (∀ w ∈ xs, w.length < 100) ∧ st.env 4 = .slc (r,0) [] 0 xs.length ∧ st.rs (r,0) = some ⟨false, .lst true 9 1 (xs.map .str)⟩ ∧ st.rs (0,99) = some ⟨true, encCur c'⟩) ((13 - ws.length)) _ ?_ ?_
    · exact ⟨10, ws, c1, by simp; exact ⟨by omega, n3⟩⟩
    rintro m0 ⟨env, rs⟩ hU0 hV0 ⟨r, xs, c', hi, hr, ha, e4, q, r0_0_99⟩ ih0; simp at hU0 r0_0_99; clear hV0
    simp at e4 q
    have hb2 := below_in c' 2
    generalize hQ2 : below c' 2 = Q at *
    obtain ⟨k, c2⟩ := Q
    simp at hb2
    obtain ⟨n, rfl⟩ : ∃ n : Nat, k = n := ⟨k.toNat, by omega⟩
    have hwp : IntKind.i64.wrap (12 + (n : Int)) = 12 + n := wrap_in (by omega) (by omega)
    have hcap2 : (xs.length + 1) * 16 ≤ 140737488351232 := by omega
    simp [hU0, r0_0_99, e4, q, hQ2, hwp]
    refine RB_dec ?_ ?_ <;> intro h
    · rcases hr with rfl | rfl
      all_goals
        simp [hU0, r0_0_99, e4, q, h, hcap2]
        refine ih0 (m0 - 1) _ (by omega) ?_ ?_ ⟨39, xs ++ [[120]], c2, by simp; omega, by simp, fun w hw => by rcases List.mem_append.1 hw with hw | hw; exact ha w hw; rw [List.mem_singleton.1 hw]; simp, ?_⟩
        · simp [hU0, r0_0_99]
        · simp [hU0, r0_0_99]
        simp [hU0, r0_0_99]
    · rcases hr with rfl | rfl
      all_goals
        simp [hU0, r0_0_99, e4, q, h]
        exact ⟨(xs, c2), ⟨by show xs.length ≤ 13; omega, fun w hw => .inr (ha w hw)⟩, by simp⟩
  · have hb2 := below_in c1 30
    generalize hQ2 : below c1 30 = Q at *
    obtain ⟨k, c2⟩ := Q
    simp at hb2
    obtain ⟨n, rfl⟩ : ∃ n : Nat, k = n := ⟨k.toNat, by omega⟩
    have hwp : IntKind.i64.wrap (280 + (n : Int)) = 280 + n := wrap_in (by omega) (by omega)
    have wl := eq_l01Long (280 + n) 97 (by omega)
    try simp at wl
    refine lim_ex (E := E) rfl Tryd.func28 rfl (by kernel_rfl) (by kernel_rfl) ?_
    simp [Tryd.f28, tmpAt, hQ, w, hQ2, hwp, wl, hcap, hcap1]
    exact ⟨(ws ++ [List.replicate (280 + n) 97], c2), add _ (.inl (by simp [shownW, within])), by simp [htk]⟩
  · have x0 : ¬ x = 0 := by omega
    have x1 : ¬ x = 1 := by omega
    have x2 : ¬ x = 2 := by omega
    have x3 : ¬ x = 3 := by omega
    refine lim_ex (E := E) rfl Tryd.func28 rfl (by kernel_rfl) (by kernel_rfl) ?_
    simp [Tryd.f28, tmpAt, hQ, w, hcap, hcap1, x0, x1, x2, x3]
    exact ⟨(ws, c1), ⟨by show ws.length ≤ 13; omega, fun w hw => .inr (n3 w hw)⟩, by simp⟩
noncomputable def anyDraw (c : Cur) : List S × Cur := (ex_l15Any c).choose
theorem anyDraw_ok (c : Cur) : aOk (anyDraw c).1 := (ex_l15Any c).choose_spec.1
theorem eq_l15Any (c : Cur) : lim E 28 [.pto (encCur c)] = some (.lst true 9 1 ((anyDraw c).1.map .str), [.pto (encCur (anyDraw c).2)]) := (ex_l15Any c).choose_spec.2
theorem ex_DrawCommandText (code : S) (hc : code.length ≤ 1048576) : ∃ ws : List S, aOk ws ∧ lim E 10 [.lst false 5 1 (ofBytes code)] = some (.lst true 9 1 (ws.map .str), []) := by
  have w := eq_l01New code hc
  have w2 := eq_l15Any (newCur code hc)
  try simp at w2
  refine ⟨(anyDraw (newCur code hc)).1, anyDraw_ok _, ?_⟩
  refine lim_run (E := E) rfl Tryd.func10 rfl (by kernel_rfl) (by kernel_rfl) ?_
  simp [Tryd.f10, tmpAt, w, w2]
set_option maxHeartbeats 2000000 in
theorem ex_DrawReadCommand (code : S) (hc : code.length ≤ 1048576) : ∃ s : S, s.length ≤ 400 ∧ lim E 7 [.lst false 5 1 (ofBytes code)] = some (.str s, []) := by
  have w := eq_l01New code hc
  generalize newCur code hc = c at *
  have hb := below_in c 10
  generalize hQ : below c 10 = Q at *
  obtain ⟨k, c0⟩ := Q
  simp at hb
  have hb2 := below_in c0 300
  generalize hQ2 : below c0 300 = Q at *
  obtain ⟨x, c1⟩ := Q
  simp at hb2
  obtain ⟨n, rfl⟩ : ∃ n : Nat, x = n := ⟨x.toNat, by omega⟩
  have hp := pick_le c1 [[34, 97, 34, 13, 10], [123, 50, 125, 13, 10, 97, 98, 13, 10], [123, 48, 50, 125, 13, 10, 97, 98, 13, 10], [97, 32, 32, 98, 13, 10], [40, 97, 32, 32, 98, 41, 13, 10], [34, 92, 97, 34], [123, 120], [123, 49, 50, 51, 52], [97, 10], [123, 51, 48, 48, 125, 13, 10], [123, 50, 57, 50, 125, 13, 10], [97, 32, 98, 40, 99, 41, 13, 10], [34, 97, 34, 98, 13, 10]] 10 (by simp) (by decide)
  generalize hP : pick c1 [[34, 97, 34, 13, 10], [123, 50, 125, 13, 10, 97, 98, 13, 10], [123, 48, 50, 125, 13, 10, 97, 98, 13, 10], [97, 32, 32, 98, 13, 10], [40, 97, 32, 32, 98, 41, 13, 10], [34, 92, 97, 34], [123, 120], [123, 49, 50, 51, 52], [97, 10], [123, 51, 48, 48, 125, 13, 10], [123, 50, 57, 50, 125, 13, 10], [97, 32, 98, 40, 99, 41, 13, 10], [34, 97, 34, 98, 13, 10]] = P at *
  obtain ⟨more, c2⟩ := P
  simp only at hp
  have ha := anyDraw_ok c2
  have wa := eq_l15Any c2
  generalize anyDraw c2 = P at *
  obtain ⟨ws, c3⟩ := P
  obtain ⟨ha1, ha2⟩ := ha
  simp only at ha1 wa
  have wc := eq_sCommandText ws (by omega)
  have hsl : (if cmdOk ws = true then cmdL ws else []).length ≤ 300 := by
    split
    · rename_i h; simp only [cmdOk, Bool.and_eq_true, decide_eq_true_eq] at h; exact h.2.2
    · simp
  generalize (if cmdOk ws = true then cmdL ws else []) = s at *
  try simp at wa
  try simp at wc
  try simp at w
  have hk : (k = 0 ∨ k = 1) ∨ k = 2 ∨ k = 3 ∨ k = 4 ∨ k = 5 ∨ 6 ≤ k := by omega
  rcases hk with hk | rfl | rfl | rfl | rfl | hk
  · have hsw : IntKind.i64.wrap ((s.length : Int) + 1) = (s.length : Int) + 1 := wrap_in (by omega) (by omega)
    have t1 := tmod_in (show (0 : Int) ≤ n by omega) (show (0 : Int) < (s.length : Int) + 1 by omega)
    obtain ⟨i, hi⟩ : ∃ i : Nat, (n : Int).tmod ((s.length : Int) + 1) = i := ⟨((n : Int).tmod ((s.length : Int) + 1)).toNat, by omega⟩
    have hi2 : i ≤ s.length := by omega
    have hz : ¬ (s.length : Int) + 1 = 0 := by omega
    refine ⟨s.take i, by simp; omega, ?_⟩
    rcases hk with rfl | rfl
    all_goals
      refine lim_run (E := E) rfl Tryd.func7 rfl (by kernel_rfl) (by kernel_rfl) ?_
      simp [Tryd.f7, tmpAt, w, hQ, hQ2, hP, wa, wc, hsw, hi, hi2, hz]
  · have h1 := spoilt_len c3 s (by omega)
    have w1 := eq_l02Spoilt c3 s (by omega)
    generalize spoilt c3 s (by omega) = P at *
    obtain ⟨u, c4⟩ := P
    simp only at h1 w1
    try simp at w1
    refine ⟨u, by omega, ?_⟩
    refine lim_run (E := E) rfl Tryd.func7 rfl (by kernel_rfl) (by kernel_rfl) ?_
    simp [Tryd.f7, tmpAt, w, hQ, hQ2, hP, wa, wc, w1]
  · refine ⟨more, by omega, ?_⟩
    refine lim_run (E := E) rfl Tryd.func7 rfl (by kernel_rfl) (by kernel_rfl) ?_
    simp [Tryd.f7, tmpAt, w, hQ, hQ2, hP, wa, wc]
  · refine ⟨s ++ [109, 111, 114, 101], by simp; omega, ?_⟩
    refine lim_run (E := E) rfl Tryd.func7 rfl (by kernel_rfl) (by kernel_rfl) ?_
    simp [Tryd.f7, tmpAt, w, hQ, hQ2, hP, wa, wc]
    omega
  · have wl := eq_l01Long n 97 (by omega)
    try simp at wl
    refine ⟨34 :: List.replicate n 97, by simp; omega, ?_⟩
    refine lim_run (E := E) rfl Tryd.func7 rfl (by kernel_rfl) (by kernel_rfl) ?_
    simp [Tryd.f7, tmpAt, w, hQ, hQ2, hP, wa, wc, wl]
    omega
  · have k0 : ¬ k = 0 := by omega
    have k1 : ¬ k = 1 := by omega
    have k2 : ¬ k = 2 := by omega
    have k3 : ¬ k = 3 := by omega
    have k4 : ¬ k = 4 := by omega
    have k5 : ¬ k = 5 := by omega
    refine ⟨s, by omega, ?_⟩
    refine lim_run (E := E) rfl Tryd.func7 rfl (by kernel_rfl) (by kernel_rfl) ?_
    simp [Tryd.f7, tmpAt, w, hQ, hQ2, hP, wa, wc, k0, k1, k2, k3, k4, k5]
end Go.Proofs.YtbcgldeleankcaaDoor
