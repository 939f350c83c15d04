/- Boxes: the program's Expunge. -/
import Derived.Test.YtdpagklgjchdgaaGreatcD15
set_option linter.unusedSectionVars false
set_option linter.all false
set_option linter.unusedVariables false
set_option linter.unusedSimpArgs false
set_option maxRecDepth 100000
namespace Go.Proofs.YtdpagklgjchdgaaGreat
open Go.Lft

theorem and_fin : ∀ a b : Fin 32, Go.Lft.Set.bAnd .i64 (a.val : Int) (b.val : Int) = andI (a.val : Int) (b.val : Int) := of_decide_eq_true (by kernel_rfl)
theorem and8 {a : Int} (h : within a 0 31 = true) : Go.Lft.Set.bAnd .i64 a 8 = andI a 8 := by
  obtain ⟨n, rfl⟩ := within31 h
  exact and_fin n 8
theorem andI_nn (a b : Int) : 0 ≤ andI a b := by unfold andI; omega
@[simp] theorem isAgg_ptr (r : Rid) (p : List Stp) : Go.Lft.isAgg (.ptr r p) = false := rfl
/-! ### What is given up -/
theorem up_drop {t : Tomb} : ∀ {r : List Tomb}, r.Pairwise (fun a c => a.mod ≤ c.mod) → (∀ x ∈ r, t.mod ≤ x.mod) → r.filter (fun x => !decide (x.mod = t.mod)) = r.dropWhile (fun x => decide (x.mod ≤ t.mod))
  | [], _, _ => rfl
  | x :: r, hp, hx => by
    rw [List.pairwise_cons] at hp
    have h1 := hx x (List.mem_cons_self ..)
    by_cases h : x.mod = t.mod
    · rw [List.filter_cons_of_neg (by simp [h]), List.dropWhile_cons_of_pos (by simp [h])]
      exact up_drop hp.2 fun y hy => hx y (List.mem_cons_of_mem _ hy)
    · rw [List.filter_cons_of_pos (by simp [h]), List.dropWhile_cons_of_neg (by simp; omega)]
      congr 1
      rw [List.filter_eq_self]
      intro y hy
      have := hp.1 y hy
      simp; omega
theorem up_drop' {t : Tomb} {r : List Tomb} (h : (t :: r).Pairwise (fun a c => a.mod ≤ c.mod)) : (t :: r).filter (fun x => !decide (x.mod = t.mod)) = (t :: r).dropWhile (fun x => decide (x.mod ≤ t.mod)) := by
  refine up_drop h fun x hx => ?_
  rcases List.mem_cons.1 hx with rfl | hx
  · exact Int.le_refl _
  · exact (List.pairwise_cons.1 h).1 x hx
theorem tombs_up {b : Box} (hok : boxOk b = true) (s : List Range) : (b.tombs ++ goneT b s b.mails).Pairwise (fun a c => a.mod ≤ c.mod) := by
  obtain ⟨_, _, _, _, _, _, _, _, d1, d2, _, _⟩ := (boxOk_iff b).1 hok
  rw [List.pairwise_append]
  have hg : ∀ x ∈ goneT b s b.mails, x.mod = b.mod + 1 := by
    intro x hx
    simp only [goneT, List.mem_map] at hx
    obtain ⟨m, _, rfl⟩ := hx
    rfl
  refine ⟨d2.imp fun {a c} h => by unfold tombLt at h; omega, ?_, fun a ha c hc => ?_⟩
  · have : ∀ l : List Tomb, (∀ x ∈ l, x.mod = b.mod + 1) → l.Pairwise (fun a c => a.mod ≤ c.mod) := by
      intro l
      induction l with
      | nil => intro _; exact List.Pairwise.nil
      | cons x l ih =>
        intro h
        refine List.Pairwise.cons (fun y hy => ?_) (ih fun y hy => h y (List.mem_cons_of_mem _ hy))
        have := h x (List.mem_cons_self ..); have := h y (List.mem_cons_of_mem _ hy); omega
    exact this _ hg
  · have := hg c hc
    have := (d1 a ha).2.2.2.1
    omega
theorem setOfL_nil {us : List Int} (hp : us.Pairwise (· < ·)) (hb : ∀ u ∈ us, 1 ≤ u ∧ u ≤ 9999) : setOfL us = [] ↔ us = [] := by
  constructor
  · intro h
    have := (setOfL_ok us hp hb).2.1
    rw [h] at this
    simp only [lastHi] at this
    exact List.getLast?_eq_none_iff.1 this.symm
  · rintro rfl; rfl
theorem eq_Expunge1 (m : Mail) (s : List Range) (h : within m.flags 0 31 = true) (hl : s.length ≤ 16777216) : lim E 80 [encMail m, .pto (.lst false 95 2 (s.map encRange))] = some (.bool (isGone s m), []) := by
  have ws := eq_SetHas s m.uid hl
  have h8 := and8 h
  have hn := andI_nn m.flags 8
  refine lim_run (E := E) rfl Tryz.func80 rfl (by kernel_rfl) (by kernel_rfl) ?_
  simp [Tryz.f80, tmpAt, ws, h8]
  simp [isGone]
  repeat' first | (refine RT_dec ?_ ?_ <;> intro hg <;> try simp [tmpAt, hg, ws, h8]) | (refine RT_split ?_ ?_ <;> intro hg <;> (try simp at hg) <;> try simp [tmpAt, hg, ws, h8]) | (refine RB_dec ?_ ?_ <;> intro hg <;> try simp [tmpAt, hg, ws, h8]) | (refine RB_ndec ?_ ?_ <;> intro hg <;> try simp [tmpAt, hg, ws, h8]) | (refine RB_split ?_ ?_ <;> intro hg <;> (try simp at hg) <;> try simp [tmpAt, hg, ws, h8]) | (refine RG_dec ?_ ?_ <;> intro hg <;> try simp [tmpAt, hg, ws, h8]) | (refine RG_split ?_ ?_ <;> intro hg <;> (try simp at hg) <;> try simp [tmpAt, hg, ws, h8])
  rw [Bool.eq_iff_iff]
  simp
  omega
@[simp] theorem eq_Expunge2 (t : Tomb) (u : Int) : lim E 83 [.agg [.int .i64 t.uid, .int .i64 t.mod], .pto (.int .i64 u)] = some (.bool (decide (t.mod = u)), []) := by
  refine lim_run (E := E) rfl Tryz.func83 rfl (by kernel_rfl) (by kernel_rfl) ?_
  simp [Tryz.f83, tmpAt]
set_option maxHeartbeats 4000000 in
theorem eq_Expunge (b : Box) (s : List Range) (hs : szBox b ≤ 16777000) (hl : s.length ≤ 16777216) : lim E 43 [encBox false false b, .lst false 95 2 (s.map encRange)] = some (.tup [encBox false true (expunge b s).1, .lst true 95 2 ((setOfL (expunge b s).2).map encRange)], []) := by
  have hz : szBox b = b.name.length + (b.mails.length + tot (fun (y : Mail) => szMail y) b.mails) + b.tombs.length := rfl
  have w1 := eq_BoxOk b (by omega)
  try simp at w1
  have w2 := eq_copyBox b (by omega)
  try simp at w2
  have w3 := eq_SetOk s hl
  by_cases hok : boxOk b = true ∧ setOk s = true
  case neg =>
    have he : expunge b s = (b, []) := by unfold expunge; rw [if_neg (fun h => hok ⟨h.1, h.2.1⟩)]
    refine lim_run (E := E) rfl Tryz.func43 rfl (by kernel_rfl) (by kernel_rfl) ?_
    simp [Tryz.f43, tmpAt, w1, w2, w3]
    repeat' first | (refine RT_dec ?_ ?_ <;> intro hg <;> try simp [tmpAt, hg, w1, w2, w3]) | (refine RT_split ?_ ?_ <;> intro hg <;> (try simp at hg) <;> try simp [tmpAt, hg, w1, w2, w3]) | (refine RB_dec ?_ ?_ <;> intro hg <;> try simp [tmpAt, hg, w1, w2, w3]) | (refine RB_ndec ?_ ?_ <;> intro hg <;> try simp [tmpAt, hg, w1, w2, w3]) | (refine RB_split ?_ ?_ <;> intro hg <;> (try simp at hg) <;> try simp [tmpAt, hg, w1, w2, w3]) | (refine RG_dec ?_ ?_ <;> intro hg <;> try simp [tmpAt, hg, w1, w2, w3]) | (refine RG_split ?_ ?_ <;> intro hg <;> (try simp at hg) <;> try simp [tmpAt, hg, w1, w2, w3])
    all_goals (first | (exfalso; simp_all; done) | simp [he, setOfL])
  obtain ⟨o1, o2⟩ := hok
  have hn := boxOk_nums o1
  have hml := boxOk_lens o1
  have hfl := boxOk_flags o1
  have hw2 : IntKind.i64.wrap (b.mod + 1) = b.mod + 1 := wrap_in (by omega) (by omega)
  have gU := uids_up o1 (isGone s)
  have gS : sAdds (goneU s b.mails) = setOfL (goneU s b.mails) := sAdds_uids o1 (isGone s)
  have gN : setOfL (goneU s b.mails) = [] ↔ goneU s b.mails = [] := setOfL_nil gU.1 gU.2.1
  refine lim_run (E := E) rfl Tryz.func43 rfl (by kernel_rfl) (by kernel_rfl) ?_
  simp [Tryz.f43, tmpAt, w1, w2, w3, o1, o2, hw2]
  refine loop_fr [2, 4, 6, 7, 29, 30] [(2,0), (4,0), (3,0)] (fun m st => ∃ (i r : Nat), i + m = b.mails.length ∧ (r = 27 ∨ r = 42) ∧ st.env 8 = .slc (r,0) [] 0 (goneU s (b.mails.take i)).length ∧ st.rs (r,0) = some ⟨false, .lst true 3 1 ((goneU s (b.mails.take i)).map (.int .i64))⟩ ∧ st.env 31 = .int .i64 i ∧ st.rs (7,0) = some ⟨true, encBox false true ⟨b.name, b.valid, b.next, b.mod, b.mails, b.tombs ++ goneT b s (b.mails.take i), b.horizon⟩⟩) (b.mails.length) _ ?_ ?_
  · exact ⟨0, 27, by simp [goneU, goneT]⟩
  rintro m0 ⟨env, rs⟩ hU0 hV0 ⟨i, r, hi, hr, e8, q8, e0_31, r0_7_0⟩ ih0; simp at hU0 hV0 e0_31 r0_7_0
  simp at e8 q8
  have hw := wrap_up (show i < 4611686018427387904 by omega)
  have k1 : ∀ n : Nat, n ≠ 27 → n ≠ 42 → (r = n) = False := fun n h1 h2 => eq_false (by omega)
  have k2 : ∀ n : Nat, n ≠ 27 → n ≠ 42 → (n = r) = False := fun n h1 h2 => eq_false (by omega)
  simp [hU0, hV0, e0_31, r0_7_0]
  refine RB_dec ?_ ?_ <;> intro h
  · have wg := eq_Expunge1 b.mails[i] s (hfl _ (List.getElem_mem h)) hl
    try simp at wg
    have n1 := goneU_next s b.mails i h
    have n2 := goneT_next b s b.mails i h
    have l1 := goneT_len b s (b.mails.take i)
    have l2 : (goneU s (b.mails.take i)).length ≤ i := by
      unfold goneU; rw [List.length_map]; refine Nat.le_trans (List.length_filter_le ..) ?_; simp; omega
    rw [List.length_take] at l1
    generalize hB : goneU s (b.mails.take i) = B at *
    generalize hT : goneT b s (b.mails.take i) = T at *
    have b1 : (b.tombs.length + T.length + 1) * 16 ≤ 140737488351232 := by omega
    have b2 : (B.length + 1) * 8 ≤ 140737488351232 := by omega
    cases hG : isGone s b.mails[i]
    · simp [hG] at n1 n2
      simp [hU0, hV0, e0_31, r0_7_0, h, wg, hG, k1, k2]
      refine ih0 (m0 - 1) _ (by omega) ?_ ?_ ⟨i + 1, r, by omega, hr, ?_⟩
      · simp [hU0, hV0, e0_31, r0_7_0, h, k1, k2]
      · simp [hU0, hV0, e0_31, r0_7_0, h, k1, k2]
      simp [hU0, hV0, e0_31, r0_7_0, n1, n2, hB, hT, e8, q8, k1, k2, hw]
    · simp [hG] at n1 n2
      simp [hU0, hV0, e0_31, r0_7_0, h, wg, hG, k1, k2, e8, q8, b1, b2, hw2]
      repeat (refine And.intro (by first | omega | (simp; omega)) ?_)
      refine ih0 (m0 - 1) _ (by omega) ?_ ?_ ⟨i + 1, 42, by omega, by simp, ?_⟩
      · simp [hU0, hV0, e0_31, r0_7_0, h, k1, k2]
      · simp [hU0, hV0, e0_31, r0_7_0, h, k1, k2]
      simp [hU0, hV0, e0_31, r0_7_0, n1, n2, hB, hT, hw]
  · have hfull : b.mails.take i = b.mails := List.take_of_length_le (by omega)
    rw [hfull] at e8 q8
    simp only [hfull] at r0_7_0
    simp [hU0, hV0, e0_31, r0_7_0, h, e8]
    have hexp : ∀ (h1 : goneU s b.mails ≠ []), expunge b s = if boxOk (expBox b s) = true then (expBox b s, goneU s b.mails) else (b, []) := by
      intro h1
      have h1' : sAdds (goneU s b.mails) ≠ [] := fun hc => h1 (gN.1 (gS ▸ hc))
      unfold expunge
      by_cases hb : boxOk (expBox b s) = true
      · rw [if_pos ⟨o1, o2, h1', hb⟩, if_pos hb]
      · rw [if_neg (fun h => hb h.2.2.2), if_neg hb]
    refine RB_dec ?_ ?_ <;> intro he
    · have hx : expunge b s = (b, []) := by unfold expunge; rw [if_neg (fun h => h.2.2.1 (by rw [gS, gN]; exact he))]
      simp [hU0, hV0, e0_31, r0_7_0, w2, hx, setOfL]
    · have hx := hexp he
      have hT0 : (b.tombs ++ goneT b s b.mails).length ≤ 70 := by
        have := goneT_len b s b.mails
        rw [List.length_append]; omega
      have hup := tombs_up o1 s
      have w4 := eq_BoxOk (expBox b s) (by have := sz_expBox b s; omega)
      have w5 := eq_setOfList (goneU s b.mails) (by have := gU.2.2; unfold goneU; omega) gU.2.1
      have wd := eq_DeleteFuncMail b.mails 80 (.lst false 95 2 (s.map encRange)) (isGone s) rfl (fun m hm => eq_Expunge1 m s (hfl m hm) hl) (by omega)
      try simp at wd
      have hkept : b.mails.filter (fun m => !isGone s m) = keptM s b.mails := rfl
      rw [hkept] at wd
      generalize hG : goneT b s b.mails = G at *
      simp [hU0, hV0, e0_31, r0_7_0, wd, hw2]
      refine loop_fr [2, 4, 7, 8] [(2,0), (4,0), (r,0)] (fun m st => ∃ (ts : List Tomb) (z : Int), trim m ts z = trim (b.tombs ++ G).length (b.tombs ++ G) b.horizon ∧ ts.length ≤ m ∧ ts.length ≤ 70 ∧ ts.Pairwise (fun a c => a.mod ≤ c.mod) ∧ st.rs (7,0) = some ⟨true, encBox false true ⟨b.name, b.valid, b.next, b.mod + 1, keptM s b.mails, ts, z⟩⟩) ((b.tombs ++ G).length) _ ?_ ?_
      · exact ⟨b.tombs ++ G, b.horizon, rfl, Nat.le_refl _, hT0, hup, by simp [hU0, hV0, e0_31, r0_7_0]⟩
      rintro m1 ⟨env, rs⟩ hU1 hV1 ⟨ts, z, ht, hl1, hl2, hts, r1_7_0⟩ ih1; simp at hU1 hV1 r1_7_0
      simp [hU0, hV0, e0_31, r0_7_0, hU1, hV1, r1_7_0]
      refine RB_dec ?_ ?_ <;> intro h4
      · cases ts with
        | nil => simp at h4
        | cons t rest =>
          have wt := eq_DeleteFuncTomb (t :: rest) 83 (.int .i64 t.mod) (fun x => decide (x.mod = t.mod)) rfl (fun m _ => by simp) (by omega)
          rw [up_drop' hts] at wt
          try simp at wt
          obtain ⟨k, rfl⟩ : ∃ k, m1 = k + 1 := ⟨m1 - 1, by simp at hl1; omega⟩
          have h4' : 40 < (t :: rest).length := by simp at h4 ⊢; omega
          simp only [trim, if_pos h4'] at ht
          have hlt := drop_lt t rest
          have hsub : ((t :: rest).dropWhile fun x => decide (x.mod ≤ t.mod)).Pairwise (fun a c => a.mod ≤ c.mod) := hts.sublist (List.dropWhile_sublist _)
          simp at hl1 hl2 hlt hsub ht
          simp [hU0, hV0, e0_31, r0_7_0, hU1, hV1, r1_7_0, wt]
          refine ih1 (k) _ (by omega) ?_ ?_ ⟨rest.dropWhile (fun x => decide (x.mod ≤ t.mod)), t.mod, by rw [List.length_append]; exact ht, by omega, by omega, hsub, ?_⟩
          · simp [hU0, hV0, e0_31, r0_7_0, hU1, hV1, r1_7_0, hU0, hV0, e0_31, r0_7_0, hU1, hV1, r1_7_0, k1, k2, e8, q8]
          · simp [hU0, hV0, e0_31, r0_7_0, hU1, hV1, r1_7_0, hU0, hV0, e0_31, r0_7_0, hU1, hV1, r1_7_0, k1, k2, e8, q8]
          simp [hU0, hV0, e0_31, r0_7_0, hU1, hV1, r1_7_0]
      · have hT : trim (b.tombs ++ G).length (b.tombs ++ G) b.horizon = (ts, z) := by
          rw [← ht]
          cases m1 with
          | zero => rfl
          | succ k => simp only [trim]; rw [if_neg (by omega)]
        have hE : expBox b s = ⟨b.name, b.valid, b.next, b.mod + 1, keptM s b.mails, ts, z⟩ := by
          unfold expBox; rw [hG, hT]
        rw [hE] at w4 hx
        simp at w4
        rcases hr with rfl | rfl
        all_goals
          cases hb : boxOk ⟨b.name, b.valid, b.next, b.mod + 1, keptM s b.mails, ts, z⟩ <;> simp [hb] at hx <;> simp [hU0, hV0, e0_31, r0_7_0, hU1, hV1, r1_7_0, hb, hx, w2, w4, w5, e8, q8, setOfL]
end Go.Proofs.YtdpagklgjchdgaaGreat
