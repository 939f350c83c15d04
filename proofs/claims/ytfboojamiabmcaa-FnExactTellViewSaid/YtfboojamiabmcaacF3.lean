/- Views: what is told of them, by the reference. -/
import Derived.Test.YtfboojamiabmcaacF2
set_option linter.unusedSectionVars false
set_option linter.all false
set_option linter.unusedVariables false
set_option linter.unusedSimpArgs false
set_option maxRecDepth 100000
namespace Go.Proofs.Ytfboojamiabmcaa
open Go.Lft

/-- Among numbers that ascend: a part, with its order. -/
theorem sub_up : ∀ {xs ys : List Int}, xs.Pairwise (· < ·) → ys.Pairwise (· < ·) → (∀ x ∈ xs, x ∈ ys) → xs.Sublist ys
  | [], ys, _, _, _ => List.nil_sublist _
  | x :: xs, [], _, _, h => by have := h x (by simp); simp at this
  | x :: xs, y :: ys, h1, h2, h => by
    rw [List.pairwise_cons] at h1 h2
    have hx := h x (by simp)
    rcases List.mem_cons.1 hx with rfl | hx
    · refine List.Sublist.cons_cons _ (sub_up h1.2 h2.2 fun z hz => ?_)
      have h3 := h1.1 z hz
      rcases List.mem_cons.1 (h z (by simp [hz])) with rfl | h4
      · omega
      · exact h4
    · refine List.Sublist.cons _ (sub_up (List.pairwise_cons.2 h1) h2.2 fun z hz => ?_)
      have h3 := h2.1 x hx
      rcases List.mem_cons.1 hz with rfl | hz
      · exact hx
      · have h5 := h1.1 z hz
        rcases List.mem_cons.1 (h z (by simp [hz])) with rfl | h4
        · omega
        · exact h4
theorem uids_iff (us : List Int) : UidsOK us ↔ (∀ u ∈ us, 1 ≤ u ∧ u ≤ 9999) ∧ us.Pairwise (· < ·) := by
  constructor
  · intro h
    refine ⟨fun m hm => ?_, pairwise_of_next (fun a b c h1 h2 => by omega) fun k hk => ?_⟩
    · obtain ⟨k, hk, rfl⟩ := List.getElem_of_mem hm
      have := h k us[k] hk (List.getElem?_eq_getElem hk)
      simp only [uidGood, Bool.and_eq_true, within, decide_eq_true_eq] at this
      exact this.1
    · have := h (k + 1) us[k + 1] hk (List.getElem?_eq_getElem hk)
      simp only [uidGood, prevOf_succ (show k < us.length by omega), Bool.and_eq_true, decide_eq_true_eq] at this
      exact this.2
  · rintro ⟨h1, h2⟩ k x hk hx
    rw [List.getElem?_eq_getElem hk] at hx
    obtain rfl := Option.some.inj hx
    have a1 := h1 us[k] (List.getElem_mem hk)
    simp only [uidGood, Bool.and_eq_true]
    refine ⟨by simp [within]; omega, ?_⟩
    cases k with
    | zero => simp [prevOf]
    | succ k =>
      rw [prevOf_succ (by omega)]
      rw [List.pairwise_iff_getElem] at h2
      simpa using h2 k (k + 1) (by omega) hk (by omega)
theorem viewOk_iff (v : View) : viewOk v = true ↔ (∀ u ∈ v.uids, 1 ≤ u ∧ u ≤ 9999) ∧ v.uids.Pairwise (· < ·) ∧ boxName v.box = true ∧ (1 ≤ v.valid ∧ v.valid ≤ 9999) ∧ v.uids.length ≤ 30 ∧ (1 ≤ v.mod ∧ v.mod ≤ 100000) := by
  unfold viewOk
  rw [Bool.and_eq_true, decide_eq_true_eq, uids_iff]
  simp only [Bool.and_eq_true, within, decide_eq_true_eq]
  constructor
  · rintro ⟨⟨a, b⟩, c, d, e, f⟩; exact ⟨a, b, c, d, by omega, f⟩
  · rintro ⟨a, b, c, d, e, f⟩; exact ⟨⟨a, b⟩, c, d, by omega, f⟩
theorem uidsL_up {b : Box} (hok : boxOk b = true) : (uidsL b).Pairwise (· < ·) := by
  obtain ⟨_, _, _, _, _, _, c2, _⟩ := (boxOk_iff b).1 hok
  unfold uidsL
  rw [List.pairwise_map]; exact c2
theorem hasUid_iff {ms : List Mail} {u : Int} : hasUid ms u = true ↔ u ∈ ms.map (·.uid) := by
  simp [hasUid, List.any_eq_true]
theorem kept_sub {v : View} {b : Box} (hv : viewOk v = true) (hok : boxOk b = true) : (keptU b v.uids).Sublist (uidsL b) := by
  obtain ⟨_, h2, _⟩ := (viewOk_iff v).1 hv
  refine sub_up (h2.filter _) (uidsL_up hok) fun x hx => ?_
  simp only [keptU, List.mem_filter] at hx
  exact hasUid_iff.1 hx.2
theorem kept_eq {v : View} {b : Box} (hv : viewOk v = true) (hok : boxOk b = true) : keptU b v.uids = uidsL b ↔ ¬ (keptU b v.uids).length < b.mails.length := by
  have hs := kept_sub hv hok
  have hl := hs.length_le
  rw [uidsL_len] at hl
  constructor
  · intro h; rw [h, uidsL_len]; omega
  · intro h; exact hs.eq_of_length (by rw [uidsL_len]; omega)
set_option maxHeartbeats 4000000 in
theorem eq_sTellView (v : View) (b : Box) (hv : szView v ≤ 16777216) (hb : szBox b ≤ 16777216) : lim E 18 [encView false v, encBox false false b] = some (.tup [encView true (tellView v b).1, .lst true 73 7 ((tellView v b).2.map (encLine false true))], []) := by
  have hz : szBox b = b.name.length + (b.mails.length + tot (fun (y : Mail) => szMail y) b.mails) + b.tombs.length := rfl
  have hz2 : szView v = v.box.length + v.uids.length := rfl
  have w1 := eq_sViewOk v hv
  try simp at w1
  have w2 := eq_sBoxOk b hb
  try simp at w2
  have w3 := eq_sViewOf b (by omega)
  try simp at w3
  by_cases ht : tells v b
  case neg =>
    have he : tellView v b = (⟨[], 0, [], 0⟩, [lnBye]) := by unfold tellView; rw [if_neg ht]
    unfold tells at ht
    rw [he]
    refine lim_run (E := E) rfl Try.func18 rfl (by kernel_rfl) (by kernel_rfl) ?_
    simp [Try.f18, tmpAt, w1, w2, w3]
    repeat' first | (refine RT_dec ?_ ?_ <;> intro hg <;> try simp [tmpAt, hg, w1, w2, w3]) | (refine RT_split ?_ ?_ <;> intro hg <;> (try simp at hg) <;> try simp [tmpAt, hg, w1, w2, w3]) | (refine RB_dec ?_ ?_ <;> intro hg <;> try simp [tmpAt, hg, w1, w2, w3]) | (refine RB_ndec ?_ ?_ <;> intro hg <;> try simp [tmpAt, hg, w1, w2, w3]) | (refine RB_split ?_ ?_ <;> intro hg <;> (try simp at hg) <;> try simp [tmpAt, hg, w1, w2, w3]) | (refine RG_dec ?_ ?_ <;> intro hg <;> try simp [tmpAt, hg, w1, w2, w3]) | (refine RG_split ?_ ?_ <;> intro hg <;> (try simp at hg) <;> try simp [tmpAt, hg, w1, w2, w3])
    all_goals (first | (exfalso; simp_all; done) | simp [lnBye])
  have he : tellView v b = (viewOf b, told v b) := by unfold tellView; rw [if_pos ht]
  rw [he]
  have ht' := ht
  obtain ⟨o1, o2, o3, o4⟩ := ht'
  have hml := boxOk_lens o2
  have hul : v.uids.length ≤ 30 := by simp [viewOk] at o1; omega
  have hke := kept_eq o1 o2
  have b0 : v.uids.length * 8 ≤ 140737488351232 := by omega
  rw [o3, o4] at w1
  refine lim_run (E := E) rfl Try.func18 rfl (by kernel_rfl) (by kernel_rfl) ?_
  simp [Try.f18, tmpAt, w1, w2, w3, o1, o2, o3, o4, b0]
  refine loop_fr [2, 3, 4] [(2,0), (3,0), (4,0)] (fun m st => ∃ (r q : Nat) (L : List Line) (K rest : List Int), rest.length = m ∧ (r = 37 ∨ r = 59) ∧ (q = 41 ∨ q = 69) ∧ L ++ goneLines b K.length rest = goneLines b 0 v.uids ∧ K ++ keptU b rest = keptU b v.uids ∧ L.length + rest.length ≤ 30 ∧ K.length + rest.length ≤ 30 ∧ st.env 6 = .slc (r,0) [] 0 L.length ∧ st.rs (r,0) = some ⟨false, .lst true 73 7 (L.map (encLine false true))⟩ ∧ st.env 7 = .slc (q,0) [] 0 (K ++ rest).length ∧ st.rs (q,0) = some ⟨false, .lst true 3 1 ((K ++ rest).map (.int .i64))⟩ ∧ st.env 8 = .int .i64 K.length) (v.uids.length) _ ?_ ?_
  · exact ⟨37, 41, [], [], v.uids, rfl, by simp, by simp, by simp, by simp, by simpa using hul, by simpa using hul, by simp⟩
  rintro m0 ⟨env, rs⟩ hU0 hV0 ⟨r, q, L, K, rest, hm, hr, hq, hL, hK, hl1, hl2, e6, q6, e7, q7, e0_8⟩ ih0; simp at hU0 hV0 e0_8
  simp at e6 q6 e7 q7
  have k1 : ∀ n : Nat, n ≠ 37 → n ≠ 59 → (r = n) = False := fun n h1 h2 => eq_false (by omega)
  have k2 : ∀ n : Nat, n ≠ 37 → n ≠ 59 → (n = r) = False := fun n h1 h2 => eq_false (by omega)
  have k3 : ∀ n : Nat, n ≠ 41 → n ≠ 69 → (q = n) = False := fun n h1 h2 => eq_false (by omega)
  have k4 : ∀ n : Nat, n ≠ 41 → n ≠ 69 → (n = q) = False := fun n h1 h2 => eq_false (by omega)
  have k5 : ¬ r = q := by omega
  have k6 : ¬ q = r := by omega
  have b1 : (L.length + 1) * 88 ≤ 140737488351232 := by omega
  have hwk := wrap_up (show K.length < 4611686018427387904 by omega)
  cases rest with
  | cons u rest =>
    simp only [List.length_cons] at hl1 hl2 hm
    have wm := eq_l08HasMail b u (by omega)
    try simp at wm
    simp only [goneLines] at hL
    have hku : keptU b (u :: rest) = (if hasUid b.mails u = true then [u] else []) ++ keptU b rest := by
      unfold keptU; rw [List.filter_cons]; split <;> simp
    rw [hku] at hK
    have hlt : K.length < K.length + (rest.length + 1) := by omega
    have hlt2 : (K.length : Int) < K.length + (rest.length + 1) := by omega
    cases hh : hasUid b.mails u
    · simp [hh] at hL hK
      have b4 : (L.length + 1) * 72 ≤ 140737488351232 := by omega
      have b5 : K.length * 8 ≤ 140737488351232 := by omega
      have b6 : ((K.length : Int) + 1).toNat = K.length + 1 := by omega
      have b7 : (0 : Int) ≤ (K.length : Int) + 1 := by omega
      have b8 : K.length + 1 ≤ K.length + (rest.length + 1) := by omega
      have b9 : K.length + (rest.length + 1) - (K.length + 1) = rest.length := by omega
      have b10 : (K.length + rest.length) * 8 ≤ 140737488351232 := by omega
      have b11 : K.length + 1 + rest.length ≤ K.length + (rest.length + 1) := by omega
      have hdr : List.drop (K.length + 1) (List.map (D.int .i64) K ++ D.int .i64 u :: List.map (D.int .i64) rest) = List.map (D.int .i64) rest := by
        rw [List.drop_append, List.drop_of_length_le (by simp)]
        simp
      simp [hU0, hV0, e0_8, e7, q7, wm, hh, hlt, hlt2, k1, k2, k3, k4, k5, k6, e6, q6, b4, b5, b6, b7, b8, b9, b10, b11, hdr, hwk]
      refine ⟨trOk_unord (L := [(0, 1), (0, 2), (0, 3), (0, 5), (0, 6), (0, 7), (0, 8), (1, 2), (1, 5), (1, 6), (1, 7), (1, 8), (2, 5), (2, 6), (2, 7), (2, 8), (3, 5), (3, 6), (3, 7), (3, 8), (4, 5), (4, 6), (4, 7), (4, 8), (5, 6), (5, 7)]) (by kernel_rfl) (by simp) (by simp [indepAt, indep, spares, around, aside, pre, isSlc, Tr.feels, Tr.all, moves, bare, opData, isExt, cmpOf, Op.operands, Call.operands, mentL, ment, D.noUndefL, D.noUndef, pureE, hU0, hV0, e0_8, e6, e7, k1, k2, k3, k4, k5, k6]), ?_⟩
      refine ih0 (m0 - 1) _ (by omega) ?_ ?_ ⟨59, 69, L ++ [lnExpunge ((K.length + 1 : Nat) : Int)], K, rest, by omega, by simp, by simp, by simpa using hL, by simpa using hK, by simp; omega, by omega, ?_⟩
      · simp [hU0, hV0, e0_8, k1, k2, k3, k4]
      · simp [hU0, hV0, e0_8, k1, k2, k3, k4]
      simp [hU0, hV0, e0_8, k1, k2, k3, k4, k5, k6, lnExpunge]
    · simp [hh] at hL hK
      simp [hU0, hV0, e0_8, e7, q7, wm, hh, hlt, hlt2, k1, k2, k3, k4, k5, k6, hwk]
      refine ih0 (m0 - 1) _ (by omega) ?_ ?_ ⟨r, q, L, K ++ [u], rest, by omega, hr, hq, by simpa using hL, by simpa using hK, by omega, by simp; omega, ?_⟩
      · simp [hU0, hV0, e0_8, k1, k2, k3, k4]
      · simp [hU0, hV0, e0_8, k1, k2, k3, k4]
      simp [hU0, hV0, e0_8, e6, q6, e7, q7, k1, k2, k3, k4, k5, k6]
  | nil =>
    have hkn : keptU b [] = [] := rfl
    rw [hkn, List.append_nil] at hK
    simp only [goneLines, List.append_nil] at hL
    have htold : told v b = L ++ (if K = uidsL b then [] else [lnExists b.mails.length]) ++ fetchLines v.mod 0 b.mails := by unfold told; rw [hK, hL]
    rw [← hK] at hke
    have hvl : (viewOf b).uids.length = b.mails.length := uidsL_len b
    have e1 : (viewOf b).uids = uidsL b := rfl
    simp at e7 q7
    simp [hU0, hV0, e0_8, w3, e1, e7, q7, k1, k2, k3, k4, k5, k6]
    refine RB_dec ?_ ?_ <;> intro hc
    · rw [if_neg (fun h => hke.1 h hc)] at htold
      simp [hU0, hV0, e0_8, e6, q6, e7, q7, k1, k2, k3, k4, k5, k6, b1]
      repeat (refine And.intro (by first | omega | (simp; omega)) ?_)
      refine loop_fr [2, 3, 4, 9] [(2,0), (3,0), (4,0), (9,0)] (fun m st => ∃ (j r' : Nat) (M : List Line), j + m = b.mails.length ∧ (r' = 37 ∨ r' = 59 ∨ r' = 84 ∨ r' = 113) ∧ M ++ fetchLines v.mod j (b.mails.drop j) = told v b ∧ M.length ≤ 61 + j ∧ st.env 6 = .slc (r',0) [] 0 M.length ∧ st.rs (r',0) = some ⟨false, .lst true 73 7 (M.map (encLine false true))⟩ ∧ st.env 10 = .int .i64 j) (b.mails.length) _ ?_ ?_
      · exact ⟨0, 84, L ++ [lnExists b.mails.length], by omega, by simp, by simpa using htold.symm, by simp at hl1 ⊢; omega, by simp [hU0, hV0, e0_8, lnExists]⟩
      rintro m1 ⟨env, rs⟩ hU1 hV1 ⟨j, r', M, hj, hr', hM, hMl, e6', q6', e1_10⟩ ih1; simp at hU1 hV1 e1_10
      simp at e6' q6'
      have c1 : ∀ n : Nat, n ≠ 37 → n ≠ 59 → n ≠ 84 → n ≠ 113 → (r' = n) = False := fun n h1 h2 h3 h4 => eq_false (by omega)
      have c2 : ∀ n : Nat, n ≠ 37 → n ≠ 59 → n ≠ 84 → n ≠ 113 → (n = r') = False := fun n h1 h2 h3 h4 => eq_false (by omega)
      have b3 : (M.length + 1) * 72 ≤ 140737488351232 := by omega
      have hwj := wrap_up (show j < 4611686018427387904 by omega)
      simp [hU0, hV0, e0_8, hU1, hV1, e1_10, k1, k2, k3, k4]
      refine RB_dec ?_ ?_ <;> intro hh
      · rw [List.drop_eq_getElem_cons hh] at hM
        simp only [fetchLines] at hM
        simp [hU0, hV0, e0_8, hU1, hV1, e1_10, k1, k2, k3, k4, hh]
        refine RB_dec ?_ ?_ <;> intro hf
        · rw [if_pos hf] at hM
          simp [hU0, hV0, e0_8, hU1, hV1, e1_10, k1, k2, k3, k4, hh, hwj, e6', q6', b3, c1, c2]
          repeat (refine And.intro (by first | omega | (simp; omega)) ?_)
          refine ih1 (m1 - 1) _ (by omega) ?_ ?_ ⟨j + 1, 113, M ++ [lnFetch b.mails[j] ((j + 1 : Nat) : Int)], by omega, by simp, by simpa using hM, by simp; omega, ?_⟩
          · simp [hU0, hV0, e0_8, hU1, hV1, e1_10, hh, c1, c2, k1, k2, k3, k4]
          · simp [hU0, hV0, e0_8, hU1, hV1, e1_10, hh, c1, c2, k1, k2, k3, k4]
          simp [hU0, hV0, e0_8, hU1, hV1, e1_10, k1, k2, k3, k4, hwj, lnFetch]
        · rw [if_neg hf] at hM
          simp [hU0, hV0, e0_8, hU1, hV1, e1_10, k1, k2, k3, k4]
          refine ih1 (m1 - 1) _ (by omega) ?_ ?_ ⟨j + 1, r', M, by omega, hr', hM, by omega, ?_⟩
          · simp [hU0, hV0, e0_8, hU1, hV1, e1_10, hh, c1, c2, k1, k2, k3, k4]
          · simp [hU0, hV0, e0_8, hU1, hV1, e1_10, hh, c1, c2, k1, k2, k3, k4]
          simp [hU0, hV0, e0_8, hU1, hV1, e1_10, k1, k2, k3, k4, hwj, e6', q6', c1, c2]
      · have hfull : b.mails.drop j = [] := List.drop_eq_nil_of_le (by omega)
        rw [hfull] at hM
        simp only [fetchLines, List.append_nil] at hM
        rcases hr' with rfl | rfl | rfl | rfl
        all_goals
          simp [hU0, hV0, e0_8, hU1, hV1, e1_10, k1, k2, k3, k4, e6', q6']
          rw [hM]
    · rw [if_pos (hke.2 hc)] at htold
      simp [hU0, hV0, e0_8, e6, q6, e7, q7, k1, k2, k3, k4, k5, k6, b1]
      repeat (refine And.intro (by first | omega | (simp; omega)) ?_)
      refine loop_fr [2, 3, 4, 9] [(2,0), (3,0), (4,0), (9,0)] (fun m st => ∃ (j r' : Nat) (M : List Line), j + m = b.mails.length ∧ (r' = 37 ∨ r' = 59 ∨ r' = 84 ∨ r' = 113) ∧ M ++ fetchLines v.mod j (b.mails.drop j) = told v b ∧ M.length ≤ 61 + j ∧ st.env 6 = .slc (r',0) [] 0 M.length ∧ st.rs (r',0) = some ⟨false, .lst true 73 7 (M.map (encLine false true))⟩ ∧ st.env 10 = .int .i64 j) (b.mails.length) _ ?_ ?_
      · exact ⟨0, r, L, by omega, by omega, by simpa using htold.symm, by omega, by simp [hU0, hV0, e0_8, e6, q6, k1, k2, k3, k4, k5, k6]⟩
      rintro m1 ⟨env, rs⟩ hU1 hV1 ⟨j, r', M, hj, hr', hM, hMl, e6', q6', e1_10⟩ ih1; simp at hU1 hV1 e1_10
      simp at e6' q6'
      have c1 : ∀ n : Nat, n ≠ 37 → n ≠ 59 → n ≠ 84 → n ≠ 113 → (r' = n) = False := fun n h1 h2 h3 h4 => eq_false (by omega)
      have c2 : ∀ n : Nat, n ≠ 37 → n ≠ 59 → n ≠ 84 → n ≠ 113 → (n = r') = False := fun n h1 h2 h3 h4 => eq_false (by omega)
      have b3 : (M.length + 1) * 72 ≤ 140737488351232 := by omega
      have hwj := wrap_up (show j < 4611686018427387904 by omega)
      simp [hU0, hV0, e0_8, hU1, hV1, e1_10, k1, k2, k3, k4]
      refine RB_dec ?_ ?_ <;> intro hh
      · rw [List.drop_eq_getElem_cons hh] at hM
        simp only [fetchLines] at hM
        simp [hU0, hV0, e0_8, hU1, hV1, e1_10, k1, k2, k3, k4, hh]
        refine RB_dec ?_ ?_ <;> intro hf
        · rw [if_pos hf] at hM
          simp [hU0, hV0, e0_8, hU1, hV1, e1_10, k1, k2, k3, k4, hh, hwj, e6', q6', b3, c1, c2]
          repeat (refine And.intro (by first | omega | (simp; omega)) ?_)
          refine ih1 (m1 - 1) _ (by omega) ?_ ?_ ⟨j + 1, 113, M ++ [lnFetch b.mails[j] ((j + 1 : Nat) : Int)], by omega, by simp, by simpa using hM, by simp; omega, ?_⟩
          · simp [hU0, hV0, e0_8, hU1, hV1, e1_10, hh, c1, c2, k1, k2, k3, k4]
          · simp [hU0, hV0, e0_8, hU1, hV1, e1_10, hh, c1, c2, k1, k2, k3, k4]
          simp [hU0, hV0, e0_8, hU1, hV1, e1_10, k1, k2, k3, k4, hwj, lnFetch]
        · rw [if_neg hf] at hM
          simp [hU0, hV0, e0_8, hU1, hV1, e1_10, k1, k2, k3, k4]
          refine ih1 (m1 - 1) _ (by omega) ?_ ?_ ⟨j + 1, r', M, by omega, hr', hM, by omega, ?_⟩
          · simp [hU0, hV0, e0_8, hU1, hV1, e1_10, hh, c1, c2, k1, k2, k3, k4]
          · simp [hU0, hV0, e0_8, hU1, hV1, e1_10, hh, c1, c2, k1, k2, k3, k4]
          simp [hU0, hV0, e0_8, hU1, hV1, e1_10, k1, k2, k3, k4, hwj, e6', q6', c1, c2]
      · have hfull : b.mails.drop j = [] := List.drop_eq_nil_of_le (by omega)
        rw [hfull] at hM
        simp only [fetchLines, List.append_nil] at hM
        rcases hr' with rfl | rfl | rfl | rfl
        all_goals
          simp [hU0, hV0, e0_8, hU1, hV1, e1_10, k1, k2, k3, k4, e6', q6']
          rw [hM]
end Go.Proofs.Ytfboojamiabmcaa
