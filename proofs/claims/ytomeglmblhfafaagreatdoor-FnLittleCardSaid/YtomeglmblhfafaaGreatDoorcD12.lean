/- Boxes: the reference's Expunge. -/
import Derived.Test.YtomeglmblhfafaaGreatDoorcD11
set_option linter.unusedSectionVars false
set_option linter.all false
set_option linter.unusedVariables false
set_option linter.unusedSimpArgs false
set_option maxRecDepth 100000
namespace Go.Proofs.YtomeglmblhfafaaGreatDoor
open Go.Lft

def isGone (s : List Range) (m : Mail) : Bool := setHas s m.uid && decide (0 < andI m.flags 8)
def goneU (s : List Range) (ms : List Mail) : List Int := (ms.filter (isGone s)).map (·.uid)
def goneT (b : Box) (s : List Range) (ms : List Mail) : List Tomb := (ms.filter (isGone s)).map fun m => ⟨m.uid, b.mod + 1⟩
def keptM (s : List Range) (ms : List Mail) : List Mail := ms.filter fun m => !isGone s m
/-- Tombs given up until there are at most 40. -/
def trim : Nat → List Tomb → Int → List Tomb × Int
  | 0, ts, h => (ts, h)
  | n + 1, ts, h => if 40 < ts.length then (match ts with | [] => (ts, h) | t :: r => trim n ((t :: r).dropWhile fun x => decide (x.mod ≤ t.mod)) t.mod) else (ts, h)
def expBox (b : Box) (s : List Range) : Box :=
  ⟨b.name, b.valid, b.next, b.mod + 1, keptM s b.mails, (trim (b.tombs ++ goneT b s b.mails).length (b.tombs ++ goneT b s b.mails) b.horizon).1, (trim (b.tombs ++ goneT b s b.mails).length (b.tombs ++ goneT b s b.mails) b.horizon).2⟩
noncomputable def expunge (b : Box) (s : List Range) : Box × List Int :=
  if boxOk b = true ∧ setOk s = true ∧ sAdds (goneU s b.mails) ≠ [] ∧ boxOk (expBox b s) = true then (expBox b s, goneU s b.mails) else (b, [])
theorem trim_len : ∀ (n : Nat) (ts : List Tomb) (h : Int), (trim n ts h).1.length ≤ ts.length
  | 0, ts, h => Nat.le_refl _
  | n + 1, ts, h => by
    simp only [trim]
    split
    · cases ts with
      | nil => exact Nat.le_refl _
      | cons t r =>
        refine Nat.le_trans (trim_len n _ _) ?_
        exact (List.dropWhile_sublist _).length_le
    · exact Nat.le_refl _
theorem drop_lt (t : Tomb) (r : List Tomb) : ((t :: r).dropWhile fun x => decide (x.mod ≤ t.mod)).length ≤ r.length := by
  rw [List.dropWhile_cons_of_pos (by simp)]
  exact (List.dropWhile_sublist _).length_le
theorem boxOk_flags {b : Box} (h : boxOk b = true) : ∀ m ∈ b.mails, within m.flags 0 31 = true := by
  unfold boxOk at h
  obtain ⟨_, _, ⟨h1, _⟩, _⟩ := of_decide_eq_true h
  intro m hm
  obtain ⟨k, hk, rfl⟩ := List.getElem_of_mem hm
  have := h1 k b.mails[k] hk (List.getElem?_eq_getElem hk)
  simp only [mailsGood, mailGood, Bool.and_eq_true] at this
  exact this.1.1.2
theorem goneU_next (s : List Range) (ms : List Mail) (i : Nat) (h : i < ms.length) : goneU s (ms.take (i + 1)) = goneU s (ms.take i) ++ (if isGone s ms[i] = true then [ms[i].uid] else []) := by
  unfold goneU
  rw [take_filter _ _ _ h, List.map_append]
  congr 1
  split <;> rfl
theorem goneT_next (b : Box) (s : List Range) (ms : List Mail) (i : Nat) (h : i < ms.length) : goneT b s (ms.take (i + 1)) = goneT b s (ms.take i) ++ (if isGone s ms[i] = true then [⟨ms[i].uid, b.mod + 1⟩] else []) := by
  unfold goneT
  rw [take_filter _ _ _ h, List.map_append]
  congr 1
  split <;> rfl
theorem keptM_next (s : List Range) (ms : List Mail) (i : Nat) (h : i < ms.length) : keptM s (ms.take (i + 1)) = keptM s (ms.take i) ++ (if isGone s ms[i] = true then [] else [ms[i]]) := by
  unfold keptM
  rw [take_filter _ _ _ h]
  congr 1
  cases isGone s ms[i] <;> simp
theorem goneT_len (b : Box) (s : List Range) (ms : List Mail) : (goneT b s ms).length ≤ ms.length := by
  unfold goneT; simp; exact List.length_filter_le ..
theorem keptM_len (s : List Range) (ms : List Mail) : (keptM s ms).length ≤ ms.length := List.length_filter_le ..
theorem tot_filter {α : Type} (f : α → Nat) (p : α → Bool) : ∀ xs : List α, tot f (xs.filter p) ≤ tot f xs
  | [] => Nat.le_refl _
  | x :: xs => by
    have := tot_filter f p xs
    rw [List.filter_cons]
    split
    · simp only [tot]; omega
    · simp only [tot]; omega
theorem sz_expBox (b : Box) (s : List Range) : szBox (expBox b s) ≤ szBox b + b.mails.length := by
  have h1 := keptM_len s b.mails
  have h2 := tot_filter (fun (y : Mail) => szMail y) (fun m => !isGone s m) b.mails
  have h3 := trim_len (b.tombs ++ goneT b s b.mails).length (b.tombs ++ goneT b s b.mails) b.horizon
  have h4 := goneT_len b s b.mails
  have e1 : szBox (expBox b s) = b.name.length + ((keptM s b.mails).length + tot (fun (y : Mail) => szMail y) (keptM s b.mails)) + (trim (b.tombs ++ goneT b s b.mails).length (b.tombs ++ goneT b s b.mails) b.horizon).1.length := rfl
  have e2 : szBox b = b.name.length + (b.mails.length + tot (fun (y : Mail) => szMail y) b.mails) + b.tombs.length := rfl
  have e3 : tot (fun (y : Mail) => szMail y) (keptM s b.mails) = tot (fun (y : Mail) => szMail y) (b.mails.filter fun m => !isGone s m) := rfl
  simp only [List.length_append] at h3
  rw [List.length_append] at e1
  omega
set_option maxHeartbeats 4000000 in
theorem eq_sExpunge (b : Box) (s : List Range) (hs : szBox b ≤ 8388608) (hl : s.length ≤ 16777216) : lim E 114 [encBox false false b, .lst false 161 2 (s.map encRange)] = some (.tup [encBox false true (expunge b s).1, .lst true 161 2 ((sAdds (expunge b s).2).map encRange)], []) := by
  have hz : szBox b = b.name.length + (b.mails.length + tot (fun (y : Mail) => szMail y) b.mails) + b.tombs.length := rfl
  have w1 := eq_sBoxOk b (by omega)
  try simp at w1
  have w2 := eq_l08Copy b (by omega)
  try simp at w2
  have w3 := eq_sSetOk s hl
  by_cases hok : boxOk b = true ∧ setOk s = true
  case neg =>
    have he : expunge b s = (b, []) := by unfold expunge; rw [if_neg (fun h => hok ⟨h.1, h.2.1⟩)]
    refine lim_run (E := E) rfl Tryz.func114 rfl (by kernel_rfl) (by kernel_rfl) ?_
    simp [Tryz.f114, tmpAt, w1, w2, w3]
    repeat' first | (refine RT_dec ?_ ?_ <;> intro hg <;> try simp [tmpAt, hg, w1, w2, w3]) | (refine RT_split ?_ ?_ <;> intro hg <;> (try simp at hg) <;> try simp [tmpAt, hg, w1, w2, w3]) | (refine RB_dec ?_ ?_ <;> intro hg <;> try simp [tmpAt, hg, w1, w2, w3]) | (refine RB_ndec ?_ ?_ <;> intro hg <;> try simp [tmpAt, hg, w1, w2, w3]) | (refine RB_split ?_ ?_ <;> intro hg <;> (try simp at hg) <;> try simp [tmpAt, hg, w1, w2, w3]) | (refine RG_dec ?_ ?_ <;> intro hg <;> try simp [tmpAt, hg, w1, w2, w3]) | (refine RG_split ?_ ?_ <;> intro hg <;> (try simp at hg) <;> try simp [tmpAt, hg, w1, w2, w3])
    all_goals (first | (exfalso; simp_all; done) | simp [he])
  obtain ⟨o1, o2⟩ := hok
  have hn := boxOk_nums o1
  have hml := boxOk_lens o1
  have hfl := boxOk_flags o1
  have hw2 : IntKind.i64.wrap (b.mod + 1) = b.mod + 1 := wrap_in (by omega) (by omega)
  refine lim_run (E := E) rfl Tryz.func114 rfl (by kernel_rfl) (by kernel_rfl) ?_
  simp [Tryz.f114, tmpAt, w1, w2, w3, o1, o2, hw2]
  refine loop_fr [1, 2, 4, 6, 8] [(2,0), (4,0), (6,0)] (fun m st => ∃ (i r : Nat), i + m = b.mails.length ∧ (r = 13 ∨ r = 60) ∧ st.env 7 = .slc (r,0) [] 0 (sAdds (goneU s (b.mails.take i))).length ∧ st.rs (r,0) = some ⟨false, .lst true 161 2 ((sAdds (goneU s (b.mails.take i))).map encRange)⟩ ∧ st.env 9 = .int .i64 i ∧ st.rs (8,0) = some ⟨true, encBox false true ⟨b.name, b.valid, b.next, b.mod + 1, keptM s (b.mails.take i), b.tombs ++ goneT b s (b.mails.take i), b.horizon⟩⟩) (b.mails.length) _ ?_ ?_
  · exact ⟨0, 13, by simp [goneU, goneT, keptM]⟩
  rintro m0 ⟨env, rs⟩ hU0 hV0 ⟨i, r, hi, hr, e7, q7, e0_9, r0_8_0⟩ ih0; simp at hU0 hV0 e0_9 r0_8_0
  simp at e7 q7
  have hw := wrap_up (show i < 4611686018427387904 by omega)
  have k1 : ¬ r = 10 := by omega
  have k2 : ¬ r = 8 := by omega
  have k3 : ¬ r = 70 := by omega
  have k4 : ¬ r = 71 := by omega
  have k5 : ¬ r = 76 := by omega
  have k6 : ¬ r = 77 := by omega
  simp [hU0, hV0, e0_9, r0_8_0]
  refine RB_dec ?_ ?_ <;> intro h
  · have ws := eq_sSetHas s b.mails[i].uid hl
    obtain ⟨fl, hfl'⟩ := within31 (hfl b.mails[i] (List.getElem_mem h))
    have wa := eq_l06And fl 8
    have hG : isGone s b.mails[i] = (setHas s b.mails[i].uid && decide (0 < andI b.mails[i].flags 8)) := rfl
    have n1 := goneU_next s b.mails i h
    have n2 := goneT_next b s b.mails i h
    have n3 := keptM_next s b.mails i h
    have a1 := eq_sSetAdd (sAdds (goneU s (b.mails.take i))) b.mails[i].uid b.mails[i].uid (by have := sAdds_40 (goneU s (b.mails.take i)); omega)
    have s1 := sAdds_snoc (goneU s (b.mails.take i)) b.mails[i].uid
    have l1 := goneT_len b s (b.mails.take i)
    have l2 := keptM_len s (b.mails.take i)
    rw [List.length_take] at l1 l2
    generalize hB : sAdds (goneU s (b.mails.take i)) = B at *
    generalize hT : goneT b s (b.mails.take i) = T at *
    generalize hK : keptM s (b.mails.take i) = K at *
    rw [← hfl'] at wa
    have wa8 : ((8 : Fin 32).val : Int) = 8 := rfl
    rw [wa8] at wa
    have b1 : (b.tombs.length + T.length + 1) * 16 ≤ 140737488351232 := by omega
    have b2 : (K.length + 1) * 40 ≤ 140737488351232 := by omega
    simp [hU0, hV0, e0_9, r0_8_0, h, ws, tmpAt]
    repeat' first | (refine RT_dec ?_ ?_ <;> intro hg <;> try simp [tmpAt, hg, hU0, hV0, e0_9, r0_8_0, h, ws, wa]) | (refine RT_split ?_ ?_ <;> intro hg <;> (try simp at hg) <;> try simp [tmpAt, hg, hU0, hV0, e0_9, r0_8_0, h, ws, wa]) | (refine RB_dec ?_ ?_ <;> intro hg <;> try simp [tmpAt, hg, hU0, hV0, e0_9, r0_8_0, h, ws, wa]) | (refine RB_ndec ?_ ?_ <;> intro hg <;> try simp [tmpAt, hg, hU0, hV0, e0_9, r0_8_0, h, ws, wa]) | (refine RB_split ?_ ?_ <;> intro hg <;> (try simp at hg) <;> try simp [tmpAt, hg, hU0, hV0, e0_9, r0_8_0, h, ws, wa]) | (refine RG_dec ?_ ?_ <;> intro hg <;> try simp [tmpAt, hg, hU0, hV0, e0_9, r0_8_0, h, ws, wa]) | (refine RG_split ?_ ?_ <;> intro hg <;> (try simp at hg) <;> try simp [tmpAt, hg, hU0, hV0, e0_9, r0_8_0, h, ws, wa])
    · rename_i h1
      have hG' : isGone s b.mails[i] = true := by rw [hG, h1]; simpa using hg
      simp [hG'] at n1 n2 n3
      simp [hU0, hV0, e0_9, r0_8_0, h, e7, q7, k1, k2, k3, k4, k5, k6, a1, b1, hw]
      repeat (refine And.intro (by first | omega | (simp; omega)) ?_)
      refine ih0 (m0 - 1) _ (by omega) ?_ ?_ ⟨i + 1, 60, by omega, by simp, ?_⟩
      · simp [hU0, hV0, e0_9, r0_8_0, h]
      · simp [hU0, hV0, e0_9, r0_8_0, h]
      simp [hU0, hV0, e0_9, r0_8_0, n1, n2, n3, s1, hB, hT, hK]
    · rename_i h1
      have hG' : isGone s b.mails[i] = false := by rw [hG, h1]; simpa using hg
      simp [hG'] at n1 n2 n3
      simp [hU0, hV0, e0_9, r0_8_0, h, e7, q7, k1, k2, k3, k4, k5, k6, a1, b2, hw]
      repeat (refine And.intro (by first | omega | (simp; omega)) ?_)
      refine ih0 (m0 - 1) _ (by omega) ?_ ?_ ⟨i + 1, r, by omega, hr, ?_⟩
      · simp [hU0, hV0, e0_9, r0_8_0, h]
      · simp [hU0, hV0, e0_9, r0_8_0, h]
      simp [hU0, hV0, e0_9, r0_8_0, n1, n2, n3, e7, q7, k1, k2, k3, k4, k5, k6, hB, hT, hK]
    · have hG' : isGone s b.mails[i] = false := by rw [hG, hg]; rfl
      simp [hG'] at n1 n2 n3
      simp [hU0, hV0, e0_9, r0_8_0, h, e7, q7, k1, k2, k3, k4, k5, k6, a1, b2, hw]
      repeat (refine And.intro (by first | omega | (simp; omega)) ?_)
      refine ih0 (m0 - 1) _ (by omega) ?_ ?_ ⟨i + 1, r, by omega, hr, ?_⟩
      · simp [hU0, hV0, e0_9, r0_8_0, h]
      · simp [hU0, hV0, e0_9, r0_8_0, h]
      simp [hU0, hV0, e0_9, r0_8_0, n1, n2, n3, e7, q7, k1, k2, k3, k4, k5, k6, hB, hT, hK]
  · have hfull : b.mails.take i = b.mails := List.take_of_length_le (by omega)
    rw [hfull] at e7 q7
    simp only [hfull] at r0_8_0
    simp [hU0, hV0, e0_9, r0_8_0, h, e7]
    have hexp : ∀ (h1 : sAdds (goneU s b.mails) ≠ []), expunge b s = if boxOk (expBox b s) = true then (expBox b s, goneU s b.mails) else (b, []) := by
      intro h1
      unfold expunge
      by_cases hb : boxOk (expBox b s) = true
      · rw [if_pos ⟨o1, o2, h1, hb⟩, if_pos hb]
      · rw [if_neg (fun h => hb h.2.2.2), if_neg hb]
    refine RB_dec ?_ ?_ <;> intro he
    · have hx : expunge b s = (b, []) := by unfold expunge; rw [if_neg (fun h => h.2.2.1 he)]
      rw [he] at e7 q7
      simp at e7 q7
      rcases hr with rfl | rfl
      all_goals simp [hU0, hV0, e0_9, r0_8_0, e7, q7, hx]
    · have hx := hexp he
      have hT0 : (b.tombs ++ goneT b s b.mails).length ≤ 70 := by
        have := goneT_len b s b.mails
        rw [List.length_append]; omega
      have w4 := eq_sBoxOk (expBox b s) (by have := sz_expBox b s; omega)
      generalize hG : goneT b s b.mails = G at *
      have j1 : ¬ r = 108 := by omega
      have j2 : ¬ r = 112 := by omega
      simp [hU0, hV0, e0_9, r0_8_0]
      refine loop_fr [4, 6, 7, 8] [(4,0), (6,0), (r,0)] (fun m st => ∃ (ts : List Tomb) (z : Int), trim m ts z = trim (b.tombs ++ G).length (b.tombs ++ G) b.horizon ∧ ts.length ≤ m ∧ ts.length ≤ 70 ∧ st.rs (8,0) = some ⟨true, encBox false true ⟨b.name, b.valid, b.next, b.mod + 1, keptM s b.mails, ts, z⟩⟩) ((b.tombs ++ G).length) _ ?_ ?_
      · exact ⟨b.tombs ++ G, b.horizon, rfl, Nat.le_refl _, hT0, by simp [hU0, hV0, e0_9, r0_8_0]⟩
      rintro m1 ⟨env, rs⟩ hU1 hV1 ⟨ts, z, ht, hl1, hl2, r1_8_0⟩ ih1; simp at hU1 hV1 r1_8_0
      simp [hU0, hV0, e0_9, r0_8_0, hU1, hV1, r1_8_0]
      refine RB_dec ?_ ?_ <;> intro h4
      · cases ts with
        | nil => simp at h4
        | cons t rest =>
          simp [hU0, hV0, e0_9, r0_8_0, hU1, hV1, r1_8_0]
          refine loop_fr [4, 6, 7, 8] [(4,0), (6,0), (r,0)] (fun m st => ∃ (us : List Tomb), us.length = m ∧ us.length ≤ 70 ∧ us.dropWhile (fun x => decide (x.mod ≤ t.mod)) = (t :: rest).dropWhile (fun x => decide (x.mod ≤ t.mod)) ∧ st.rs (8,0) = some ⟨true, encBox false true ⟨b.name, b.valid, b.next, b.mod + 1, keptM s b.mails, us, t.mod⟩⟩) ((t :: rest).length) _ ?_ ?_
          · exact ⟨t :: rest, rfl, hl2, rfl, by simp [hU0, hV0, e0_9, r0_8_0, hU1, hV1, r1_8_0]⟩
          rintro m2 ⟨env, rs⟩ hU2 hV2 ⟨us, hu1, hu2, hu, r2_8_0⟩ ih2; simp at hU2 hV2 r2_8_0
          have back : (us.dropWhile (fun x => decide (x.mod ≤ t.mod)) = us) → ∃ k, m1 = k + 1 ∧ trim k us t.mod = trim (b.tombs ++ G).length (b.tombs ++ G) b.horizon ∧ us.length ≤ k := by
            intro hd
            obtain ⟨k, rfl⟩ : ∃ k, m1 = k + 1 := ⟨m1 - 1, by simp at hl1; omega⟩
            have h4' : 40 < (t :: rest).length := by simp at h4 ⊢; omega
            simp only [trim, if_pos h4'] at ht
            rw [← hu, hd] at ht
            have := drop_lt t rest
            rw [← hu, hd] at this
            simp at hl1
            exact ⟨k, rfl, ht, by omega⟩
          simp [hU0, hV0, e0_9, r0_8_0, hU1, hV1, r1_8_0, hU2, hV2, r2_8_0, tmpAt]
          cases us with
          | nil =>
            obtain ⟨k, rfl, hk1, hk2⟩ := back rfl
            simp [hU0, hV0, e0_9, r0_8_0, hU1, hV1, r1_8_0, hU2, hV2, r2_8_0, tmpAt]
            refine ih1 (k) _ (by omega) ?_ ?_ ⟨[], t.mod, hk1, hk2, by simp, ?_⟩
            · simp [hU0, hV0, e0_9, r0_8_0, hU1, hV1, r1_8_0, hU0, hV0, e0_9, r0_8_0, hU1, hV1, r1_8_0, hU2, hV2, r2_8_0, k2]
            · simp [hU0, hV0, e0_9, r0_8_0, hU1, hV1, r1_8_0, hU0, hV0, e0_9, r0_8_0, hU1, hV1, r1_8_0, hU2, hV2, r2_8_0, k2]
            simp [hU0, hV0, e0_9, r0_8_0, hU1, hV1, r1_8_0, hU2, hV2, r2_8_0]
          | cons u us =>
            simp [hU0, hV0, e0_9, r0_8_0, hU1, hV1, r1_8_0, hU2, hV2, r2_8_0, tmpAt]
            repeat' first | (refine RT_dec ?_ ?_ <;> intro hg <;> try simp [tmpAt, hg, hU0, hV0, e0_9, r0_8_0, hU1, hV1, r1_8_0, hU2, hV2, r2_8_0]) | (refine RT_split ?_ ?_ <;> intro hg <;> (try simp at hg) <;> try simp [tmpAt, hg, hU0, hV0, e0_9, r0_8_0, hU1, hV1, r1_8_0, hU2, hV2, r2_8_0]) | (refine RB_dec ?_ ?_ <;> intro hg <;> try simp [tmpAt, hg, hU0, hV0, e0_9, r0_8_0, hU1, hV1, r1_8_0, hU2, hV2, r2_8_0]) | (refine RB_ndec ?_ ?_ <;> intro hg <;> try simp [tmpAt, hg, hU0, hV0, e0_9, r0_8_0, hU1, hV1, r1_8_0, hU2, hV2, r2_8_0]) | (refine RB_split ?_ ?_ <;> intro hg <;> (try simp at hg) <;> try simp [tmpAt, hg, hU0, hV0, e0_9, r0_8_0, hU1, hV1, r1_8_0, hU2, hV2, r2_8_0]) | (refine RG_dec ?_ ?_ <;> intro hg <;> try simp [tmpAt, hg, hU0, hV0, e0_9, r0_8_0, hU1, hV1, r1_8_0, hU2, hV2, r2_8_0]) | (refine RG_split ?_ ?_ <;> intro hg <;> (try simp at hg) <;> try simp [tmpAt, hg, hU0, hV0, e0_9, r0_8_0, hU1, hV1, r1_8_0, hU2, hV2, r2_8_0])
            · have c1 : 1 + us.length ≤ us.length + 1 := by omega
              have c2 : us.length * 16 ≤ 140737488351232 := by simp at hu2; omega
              have hu' : us.dropWhile (fun x => decide (x.mod ≤ t.mod)) = (t :: rest).dropWhile (fun x => decide (x.mod ≤ t.mod)) := by
                rw [← hu, List.dropWhile_cons_of_pos (by simpa using hg)]
              have hu1' : us.length + 1 = m2 := by simpa using hu1
              have hu2' : us.length + 1 ≤ 70 := by simpa using hu2
              simp [hU0, hV0, e0_9, r0_8_0, hU1, hV1, r1_8_0, hU2, hV2, r2_8_0, c1, c2, k2]
              refine ih2 (m2 - 1) _ (by omega) ?_ ?_ ⟨us, by omega, by omega, hu', ?_⟩
              · simp [hU0, hV0, e0_9, r0_8_0, hU1, hV1, r1_8_0, hU2, hV2, r2_8_0, k2, e7, j1, j2]
              · simp [hU0, hV0, e0_9, r0_8_0, hU1, hV1, r1_8_0, hU2, hV2, r2_8_0, k2, e7, j1, j2]
              simp
            · obtain ⟨k, rfl, hk1, hk2⟩ := back (List.dropWhile_cons_of_neg (by simpa using hg))
              refine ih1 (k) _ (by omega) ?_ ?_ ⟨u :: us, t.mod, hk1, hk2, hu2, ?_⟩
              · simp [hU0, hV0, e0_9, r0_8_0, hU1, hV1, r1_8_0, hU0, hV0, e0_9, r0_8_0, hU1, hV1, r1_8_0, hU2, hV2, r2_8_0, k2]
              · simp [hU0, hV0, e0_9, r0_8_0, hU1, hV1, r1_8_0, hU0, hV0, e0_9, r0_8_0, hU1, hV1, r1_8_0, hU2, hV2, r2_8_0, k2]
              simp [hU0, hV0, e0_9, r0_8_0, hU1, hV1, r1_8_0, hU2, hV2, r2_8_0]
      · have hT : trim (b.tombs ++ G).length (b.tombs ++ G) b.horizon = (ts, z) := by
          rw [← ht]
          cases m1 with
          | zero => rfl
          | succ k => simp only [trim]; rw [if_neg (by omega)]
        have hE : expBox b s = ⟨b.name, b.valid, b.next, b.mod + 1, keptM s b.mails, ts, z⟩ := by
          unfold expBox; rw [hG, hT]
        rw [hE] at w4 hx
        simp at w4
        rcases hr with rfl | rfl
        all_goals
          cases hb : boxOk ⟨b.name, b.valid, b.next, b.mod + 1, keptM s b.mails, ts, z⟩ <;> simp [hb] at hx <;> simp [hU0, hV0, e0_9, r0_8_0, hU1, hV1, r1_8_0, hb, hx, w4, e7, q7]
end Go.Proofs.YtomeglmblhfafaaGreatDoor
