/- Views: what is told of them. -/
import Derived.Test.YtfboojamiabmcaacF1
set_option linter.unusedSectionVars false
set_option linter.all false
set_option linter.unusedVariables false
set_option linter.unusedSimpArgs false
set_option maxRecDepth 100000
namespace Go.Proofs.Ytfboojamiabmcaa
open Go.Lft

/-! ### What is told -/
def keptU (b : Box) (us : List Int) : List Int := us.filter fun u => hasUid b.mails u
def lnExpunge (n : Int) : Line := ⟨2, n, 0, 0, 0, [], false⟩
def lnExists (n : Int) : Line := ⟨1, n, 0, 0, 0, [], false⟩
def lnFetch (m : Mail) (n : Int) : Line := ⟨3, n, m.uid, m.flags, m.mod, [], false⟩
def lnBye : Line := ⟨9, 0, 0, 0, 0, [], false⟩
def goneLines (b : Box) : Nat → List Int → List Line
  | _, [] => []
  | n, u :: us => if hasUid b.mails u = true then goneLines b (n + 1) us else lnExpunge ((n + 1 : Nat) : Int) :: goneLines b n us
def fetchLines (since : Int) : Nat → List Mail → List Line
  | _, [] => []
  | k, m :: ms => if since < m.mod then lnFetch m ((k + 1 : Nat) : Int) :: fetchLines since (k + 1) ms else fetchLines since (k + 1) ms
def tells (v : View) (b : Box) : Prop := viewOk v = true ∧ boxOk b = true ∧ v.box = b.name ∧ v.valid = b.valid
noncomputable instance (v : View) (b : Box) : Decidable (tells v b) := Classical.propDecidable _
noncomputable def told (v : View) (b : Box) : List Line := goneLines b 0 v.uids ++ (if keptU b v.uids = uidsL b then [] else [lnExists b.mails.length]) ++ fetchLines v.mod 0 b.mails
noncomputable def tellView (v : View) (b : Box) : View × List Line := if tells v b then (viewOf b, told v b) else (⟨[], 0, [], 0⟩, [lnBye])
theorem goneLines_len (b : Box) : ∀ (us : List Int) (n : Nat), (goneLines b n us).length ≤ us.length
  | [], n => Nat.le_refl _
  | u :: us, n => by
    simp only [goneLines]
    split
    · have := goneLines_len b us (n + 1); simp only [List.length_cons]; omega
    · have := goneLines_len b us n; simp only [List.length_cons]; omega
theorem fetchLines_len (since : Int) : ∀ (ms : List Mail) (k : Nat), (fetchLines since k ms).length ≤ ms.length
  | [], k => Nat.le_refl _
  | m :: ms, k => by
    have := fetchLines_len since ms (k + 1)
    simp only [fetchLines]
    split
    · simp only [List.length_cons]; omega
    · simp only [List.length_cons]; omega
theorem idxOf_lt {b : Box} {u : Int} : idxOf (fun m : Mail => decide (m.uid = u)) b.mails < 0 ↔ hasUid b.mails u = false := by
  have := idxOf_neg (p := fun m : Mail => decide (m.uid = u)) (xs := b.mails)
  unfold hasUid
  rw [← Bool.not_eq_true, ← this]
  omega
set_option maxHeartbeats 4000000 in
theorem eq_TellView (v : View) (b : Box) (hv : szView v ≤ 16777216) (hb : szBox b ≤ 16777216) : lim E 21 [encView false v, encBox false false b] = some (.tup [encView true (tellView v b).1, .lst true 73 7 ((tellView v b).2.map (encLine false true))], []) := by
  have hz : szBox b = b.name.length + (b.mails.length + tot (fun (y : Mail) => szMail y) b.mails) + b.tombs.length := rfl
  have hz2 : szView v = v.box.length + v.uids.length := rfl
  have w1 := eq_ViewOk v hv
  try simp at w1
  have w2 := eq_BoxOk b hb
  try simp at w2
  have w3 := eq_ViewOf b (by omega)
  try simp at w3
  by_cases ht : tells v b
  case neg =>
    have he : tellView v b = (⟨[], 0, [], 0⟩, [lnBye]) := by unfold tellView; rw [if_neg ht]
    unfold tells at ht
    rw [he]
    refine lim_run (E := E) rfl Try.func21 rfl (by kernel_rfl) (by kernel_rfl) ?_
    simp [Try.f21, tmpAt, w1, w2, w3]
    repeat' first | (refine RT_dec ?_ ?_ <;> intro hg <;> try simp [tmpAt, hg, w1, w2, w3]) | (refine RT_split ?_ ?_ <;> intro hg <;> (try simp at hg) <;> try simp [tmpAt, hg, w1, w2, w3]) | (refine RB_dec ?_ ?_ <;> intro hg <;> try simp [tmpAt, hg, w1, w2, w3]) | (refine RB_ndec ?_ ?_ <;> intro hg <;> try simp [tmpAt, hg, w1, w2, w3]) | (refine RB_split ?_ ?_ <;> intro hg <;> (try simp at hg) <;> try simp [tmpAt, hg, w1, w2, w3]) | (refine RG_dec ?_ ?_ <;> intro hg <;> try simp [tmpAt, hg, w1, w2, w3]) | (refine RG_split ?_ ?_ <;> intro hg <;> (try simp at hg) <;> try simp [tmpAt, hg, w1, w2, w3])
    all_goals (first | (exfalso; simp_all; done) | simp [lnBye])
  have he : tellView v b = (viewOf b, told v b) := by unfold tellView; rw [if_pos ht]
  rw [he]
  have ht' := ht
  obtain ⟨o1, o2, o3, o4⟩ := ht'
  have hml := boxOk_lens o2
  have hul : v.uids.length ≤ 30 := by simp [viewOk] at o1; omega
  rw [o3, o4] at w1
  refine lim_run (E := E) rfl Try.func21 rfl (by kernel_rfl) (by kernel_rfl) ?_
  simp [Try.f21, tmpAt, w1, w2, w3, o1, o2, o3, o4]
  refine loop_fr [2, 3, 4, 41, 42] [(2,0), (3,0), (4,0)] (fun m st => ∃ (i r q : Nat) (L : List Line) (K : List Int), i + m = v.uids.length ∧ (r = 38 ∨ r = 57) ∧ (q = 39 ∨ q = 61) ∧ L ++ goneLines b K.length (v.uids.drop i) = goneLines b 0 v.uids ∧ K = keptU b (v.uids.take i) ∧ L.length ≤ i ∧ st.env 6 = .slc (r,0) [] 0 L.length ∧ st.rs (r,0) = some ⟨false, .lst true 73 7 (L.map (encLine false true))⟩ ∧ st.env 7 = .slc (q,0) [] 0 K.length ∧ st.rs (q,0) = some ⟨false, .lst true 3 1 (K.map (.int .i64))⟩ ∧ st.env 43 = .int .i64 i) (v.uids.length) _ ?_ ?_
  · exact ⟨0, 38, 39, [], [], by simp [keptU]⟩
  rintro m0 ⟨env, rs⟩ hU0 hV0 ⟨i, r, q, L, K, hi, hr, hq, hL, hK, hLl, e6, q6, e7, q7, e0_43⟩ ih0; simp at hU0 hV0 e0_43
  simp at e6 q6 e7 q7
  have hw := wrap_up (show i < 4611686018427387904 by omega)
  have hKl : K.length ≤ i := by rw [hK]; refine Nat.le_trans (List.length_filter_le ..) ?_; simp; omega
  have k1 : ∀ n : Nat, n ≠ 38 → n ≠ 57 → (r = n) = False := fun n h1 h2 => eq_false (by omega)
  have k2 : ∀ n : Nat, n ≠ 38 → n ≠ 57 → (n = r) = False := fun n h1 h2 => eq_false (by omega)
  have k3 : ∀ n : Nat, n ≠ 39 → n ≠ 61 → (q = n) = False := fun n h1 h2 => eq_false (by omega)
  have k4 : ∀ n : Nat, n ≠ 39 → n ≠ 61 → (n = q) = False := fun n h1 h2 => eq_false (by omega)
  have k5 : ¬ r = q := by omega
  have k6 : ¬ q = r := by omega
  have b1 : (L.length + 1) * 88 ≤ 140737488351232 := by omega
  have b2 : (K.length + 1) * 8 ≤ 140737488351232 := by omega
  have hwk := wrap_up (show K.length < 4611686018427387904 by omega)
  simp [hU0, hV0, e0_43]
  refine RB_dec ?_ ?_ <;> intro h
  · have hx := idxOf_lt (b := b) (u := v.uids[i])
    have wm := eq_mailAt b v.uids[i] (by omega)
    try simp at wm
    rw [List.drop_eq_getElem_cons h] at hL
    simp only [goneLines] at hL
    have hk2 : keptU b (v.uids.take (i + 1)) = K ++ (if hasUid b.mails v.uids[i] = true then [v.uids[i]] else []) := by
      unfold keptU; rw [take_filter _ _ _ h, hK]; rfl
    cases hh : hasUid b.mails v.uids[i]
    · have hx := hx.2 hh
      simp [hh] at hL hk2
      simp [hU0, hV0, e0_43, h, wm, hx, e6, q6, e7, q7, k1, k2, k3, k4, k5, k6, b1, b2, hwk]
      repeat (refine And.intro (by first | omega | (simp; omega)) ?_)
      refine ih0 (m0 - 1) _ (by omega) ?_ ?_ ⟨i + 1, 57, q, L ++ [lnExpunge ((K.length + 1 : Nat) : Int)], K, by omega, by simp, hq, by simpa using hL, hk2.symm, by simp; omega, ?_⟩
      · simp [hU0, hV0, e0_43, h, k1, k2, k3, k4]
      · simp [hU0, hV0, e0_43, h, k1, k2, k3, k4]
      simp [hU0, hV0, e0_43, hw, e7, q7, k1, k2, k3, k4, k5, k6, lnExpunge]
    · have hx : ¬ idxOf (fun m : Mail => decide (m.uid = v.uids[i])) b.mails < 0 := fun hc => by rw [hx.1 hc] at hh; cases hh
      simp [hh] at hL hk2
      simp [hU0, hV0, e0_43, h, wm, hx, e6, q6, e7, q7, k1, k2, k3, k4, k5, k6, b1, b2]
      repeat (refine And.intro (by first | omega | (simp; omega)) ?_)
      refine ih0 (m0 - 1) _ (by omega) ?_ ?_ ⟨i + 1, r, 61, L, K ++ [v.uids[i]], by omega, hr, by simp, by simpa using hL, hk2.symm, by omega, ?_⟩
      · simp [hU0, hV0, e0_43, h, k1, k2, k3, k4]
      · simp [hU0, hV0, e0_43, h, k1, k2, k3, k4]
      simp [hU0, hV0, e0_43, hw, e6, q6, k1, k2, k3, k4, k5, k6]
  · have hfull : v.uids.take i = v.uids := List.take_of_length_le (by omega)
    have hdrop : v.uids.drop i = [] := List.drop_eq_nil_of_le (by omega)
    rw [hfull] at hK
    rw [hdrop] at hL
    simp only [goneLines, List.append_nil] at hL
    have we := eq_EqualInts K (uidsL b) (by omega)
    try simp at we
    have htold : told v b = L ++ (if K = uidsL b then [] else [lnExists b.mails.length]) ++ fetchLines v.mod 0 b.mails := by unfold told; rw [hK, hL]
    have hvl : (viewOf b).uids.length = b.mails.length := uidsL_len b
    have e1 : (viewOf b).uids = uidsL b := rfl
    simp [hU0, hV0, e0_43, w3, e1, e7, q7, we, k1, k2, k3, k4, k5, k6]
    refine RB_ndec ?_ ?_ <;> intro hc
    · rw [if_neg hc] at htold
      simp [hU0, hV0, e0_43, e6, q6, e7, q7, k1, k2, k3, k4, k5, k6, b1]
      repeat (refine And.intro (by first | omega | (simp; omega)) ?_)
      refine loop_fr [2, 4, 10, 78, 79] [(2,0), (4,0), (10,0)] (fun m st => ∃ (j r' : Nat) (M : List Line), j + m = b.mails.length ∧ (r' = 38 ∨ r' = 57 ∨ r' = 76 ∨ r' = 96) ∧ M ++ fetchLines v.mod j (b.mails.drop j) = told v b ∧ M.length ≤ 61 + j ∧ st.env 6 = .slc (r',0) [] 0 M.length ∧ st.rs (r',0) = some ⟨false, .lst true 73 7 (M.map (encLine false true))⟩ ∧ st.env 80 = .int .i64 j) (b.mails.length) _ ?_ ?_
      · exact ⟨0, 76, L ++ [lnExists b.mails.length], by omega, by simp, by simpa using htold.symm, by simp; omega, by simp [hU0, hV0, e0_43, lnExists]⟩
      rintro m1 ⟨env, rs⟩ hU1 hV1 ⟨j, r', M, hj, hr', hM, hMl, e6', q6', e1_80⟩ ih1; simp at hU1 hV1 e1_80
      simp at e6' q6'
      have c1 : ∀ n : Nat, n ≠ 38 → n ≠ 57 → n ≠ 76 → n ≠ 96 → (r' = n) = False := fun n h1 h2 h3 h4 => eq_false (by omega)
      have c2 : ∀ n : Nat, n ≠ 38 → n ≠ 57 → n ≠ 76 → n ≠ 96 → (n = r') = False := fun n h1 h2 h3 h4 => eq_false (by omega)
      have b3 : (M.length + 1) * 88 ≤ 140737488351232 := by omega
      have hwj := wrap_up (show j < 4611686018427387904 by omega)
      simp [hU0, hV0, e0_43, hU1, hV1, e1_80, k1, k2, k3, k4]
      refine RB_dec ?_ ?_ <;> intro hh
      · rw [List.drop_eq_getElem_cons hh] at hM
        simp only [fetchLines] at hM
        have wf := eq_fetchOf b.mails[j] ((j + 1 : Nat) : Int)
        try simp at wf
        simp [hU0, hV0, e0_43, hU1, hV1, e1_80, k1, k2, k3, k4, hh]
        refine RB_dec ?_ ?_ <;> intro hf
        · rw [if_pos hf] at hM
          simp [hU0, hV0, e0_43, hU1, hV1, e1_80, k1, k2, k3, k4, hh, hwj, wf, e6', q6', b3, c1, c2]
          repeat (refine And.intro (by first | omega | (simp; omega)) ?_)
          refine ih1 (m1 - 1) _ (by omega) ?_ ?_ ⟨j + 1, 96, M ++ [lnFetch b.mails[j] ((j + 1 : Nat) : Int)], by omega, by simp, by simpa using hM, by simp; omega, ?_⟩
          · simp [hU0, hV0, e0_43, hU1, hV1, e1_80, hh, c1, c2, k1, k2, k3, k4]
          · simp [hU0, hV0, e0_43, hU1, hV1, e1_80, hh, c1, c2, k1, k2, k3, k4]
          simp [hU0, hV0, e0_43, hU1, hV1, e1_80, k1, k2, k3, k4, hwj, lnFetch]
        · rw [if_neg hf] at hM
          simp [hU0, hV0, e0_43, hU1, hV1, e1_80, k1, k2, k3, k4]
          refine ih1 (m1 - 1) _ (by omega) ?_ ?_ ⟨j + 1, r', M, by omega, hr', hM, by omega, ?_⟩
          · simp [hU0, hV0, e0_43, hU1, hV1, e1_80, hh, c1, c2, k1, k2, k3, k4]
          · simp [hU0, hV0, e0_43, hU1, hV1, e1_80, hh, c1, c2, k1, k2, k3, k4]
          simp [hU0, hV0, e0_43, hU1, hV1, e1_80, k1, k2, k3, k4, hwj, e6', q6', c1, c2]
      · have hfull : b.mails.drop j = [] := List.drop_eq_nil_of_le (by omega)
        rw [hfull] at hM
        simp only [fetchLines, List.append_nil] at hM
        rcases hr' with rfl | rfl | rfl | rfl
        all_goals
          simp [hU0, hV0, e0_43, hU1, hV1, e1_80, k1, k2, k3, k4, e6', q6']
          rw [hM]
    · rw [if_pos hc] at htold
      simp [hU0, hV0, e0_43, e6, q6, e7, q7, k1, k2, k3, k4, k5, k6, b1]
      repeat (refine And.intro (by first | omega | (simp; omega)) ?_)
      refine loop_fr [2, 4, 10, 78, 79] [(2,0), (4,0), (10,0)] (fun m st => ∃ (j r' : Nat) (M : List Line), j + m = b.mails.length ∧ (r' = 38 ∨ r' = 57 ∨ r' = 76 ∨ r' = 96) ∧ M ++ fetchLines v.mod j (b.mails.drop j) = told v b ∧ M.length ≤ 61 + j ∧ st.env 6 = .slc (r',0) [] 0 M.length ∧ st.rs (r',0) = some ⟨false, .lst true 73 7 (M.map (encLine false true))⟩ ∧ st.env 80 = .int .i64 j) (b.mails.length) _ ?_ ?_
      · exact ⟨0, r, L, by omega, by omega, by simpa using htold.symm, by omega, by simp [hU0, hV0, e0_43, e6, q6, k1, k2, k3, k4, k5, k6]⟩
      rintro m1 ⟨env, rs⟩ hU1 hV1 ⟨j, r', M, hj, hr', hM, hMl, e6', q6', e1_80⟩ ih1; simp at hU1 hV1 e1_80
      simp at e6' q6'
      have c1 : ∀ n : Nat, n ≠ 38 → n ≠ 57 → n ≠ 76 → n ≠ 96 → (r' = n) = False := fun n h1 h2 h3 h4 => eq_false (by omega)
      have c2 : ∀ n : Nat, n ≠ 38 → n ≠ 57 → n ≠ 76 → n ≠ 96 → (n = r') = False := fun n h1 h2 h3 h4 => eq_false (by omega)
      have b3 : (M.length + 1) * 88 ≤ 140737488351232 := by omega
      have hwj := wrap_up (show j < 4611686018427387904 by omega)
      simp [hU0, hV0, e0_43, hU1, hV1, e1_80, k1, k2, k3, k4]
      refine RB_dec ?_ ?_ <;> intro hh
      · rw [List.drop_eq_getElem_cons hh] at hM
        simp only [fetchLines] at hM
        have wf := eq_fetchOf b.mails[j] ((j + 1 : Nat) : Int)
        try simp at wf
        simp [hU0, hV0, e0_43, hU1, hV1, e1_80, k1, k2, k3, k4, hh]
        refine RB_dec ?_ ?_ <;> intro hf
        · rw [if_pos hf] at hM
          simp [hU0, hV0, e0_43, hU1, hV1, e1_80, k1, k2, k3, k4, hh, hwj, wf, e6', q6', b3, c1, c2]
          repeat (refine And.intro (by first | omega | (simp; omega)) ?_)
          refine ih1 (m1 - 1) _ (by omega) ?_ ?_ ⟨j + 1, 96, M ++ [lnFetch b.mails[j] ((j + 1 : Nat) : Int)], by omega, by simp, by simpa using hM, by simp; omega, ?_⟩
          · simp [hU0, hV0, e0_43, hU1, hV1, e1_80, hh, c1, c2, k1, k2, k3, k4]
          · simp [hU0, hV0, e0_43, hU1, hV1, e1_80, hh, c1, c2, k1, k2, k3, k4]
          simp [hU0, hV0, e0_43, hU1, hV1, e1_80, k1, k2, k3, k4, hwj, lnFetch]
        · rw [if_neg hf] at hM
          simp [hU0, hV0, e0_43, hU1, hV1, e1_80, k1, k2, k3, k4]
          refine ih1 (m1 - 1) _ (by omega) ?_ ?_ ⟨j + 1, r', M, by omega, hr', hM, by omega, ?_⟩
          · simp [hU0, hV0, e0_43, hU1, hV1, e1_80, hh, c1, c2, k1, k2, k3, k4]
          · simp [hU0, hV0, e0_43, hU1, hV1, e1_80, hh, c1, c2, k1, k2, k3, k4]
          simp [hU0, hV0, e0_43, hU1, hV1, e1_80, k1, k2, k3, k4, hwj, e6', q6', c1, c2]
      · have hfull : b.mails.drop j = [] := List.drop_eq_nil_of_le (by omega)
        rw [hfull] at hM
        simp only [fetchLines, List.append_nil] at hM
        rcases hr' with rfl | rfl | rfl | rfl
        all_goals
          simp [hU0, hV0, e0_43, hU1, hV1, e1_80, k1, k2, k3, k4, e6', q6']
          rw [hM]
end Go.Proofs.Ytfboojamiabmcaa
