/- Plain laws: Expunge of a right box whose count is not full does not fail; what is told as gone behind it. -/
import Derived.Test.YtomeglmblhfafaaGreatDoorcP4
set_option linter.unusedSectionVars false
set_option linter.all false
set_option linter.unusedVariables false
set_option linter.unusedSimpArgs false
set_option maxRecDepth 100000
namespace Go.Proofs.YtomeglmblhfafaaGreatDoor
open Go.Lft

theorem drop_suffix {p : Tomb → Bool} : ∀ ts : List Tomb, ∃ r, ts = r ++ ts.dropWhile p ∧ ∀ x ∈ r, p x = true
  | [] => ⟨[], rfl, by simp⟩
  | t :: ts => by
    by_cases h : p t = true
    · obtain ⟨r, h1, h2⟩ := drop_suffix (p := p) ts
      refine ⟨t :: r, ?_, ?_⟩
      · rw [List.dropWhile_cons_of_pos h, List.cons_append, ← h1]
      · intro x hx
        rcases List.mem_cons.1 hx with rfl | hx
        · exact h
        · exact h2 x hx
    · exact ⟨[], by rw [List.dropWhile_cons_of_neg h]; rfl, by simp⟩
theorem drop_first {p : Tomb → Bool} : ∀ ts : List Tomb, ∀ t r, ts.dropWhile p = t :: r → p t = false
  | [], t, r, h => by simp at h
  | x :: ts, t, r, h => by
    by_cases hp : p x = true
    · rw [List.dropWhile_cons_of_pos hp] at h
      exact drop_first ts t r h
    · rw [List.dropWhile_cons_of_neg hp] at h
      obtain ⟨rfl, _⟩ := List.cons.inj h
      simpa using hp
/-- What trim gives up is all that is not later than the horizon. -/
theorem trim_spec (M : Int) : ∀ (n : Nat) (ts : List Tomb) (h : Int), ts.length ≤ n → ts.Pairwise (fun a c => a.mod ≤ c.mod) → (∀ t ∈ ts, h + 1 ≤ t.mod ∧ t.mod ≤ M) → h ≤ M →
    (trim n ts h).1.length ≤ 40 ∧ (∃ r, ts = r ++ (trim n ts h).1 ∧ ∀ x ∈ r, x.mod ≤ (trim n ts h).2) ∧ (∀ t ∈ (trim n ts h).1, (trim n ts h).2 + 1 ≤ t.mod) ∧ h ≤ (trim n ts h).2 ∧ (trim n ts h).2 ≤ M
  | 0, ts, h, hn, hp, hb, hM => by
    have : ts = [] := List.length_eq_zero_iff.1 (by omega)
    subst this
    exact ⟨by simp [trim], ⟨[], rfl, by simp⟩, by simp [trim], Int.le_refl _, hM⟩
  | n + 1, ts, h, hn, hp, hb, hM => by
    by_cases h4 : 40 < ts.length
    · cases ts with
      | nil => simp at h4
      | cons t r =>
        have ht := hb t (by simp)
        obtain ⟨q, hq1, hq2⟩ := drop_suffix (p := fun x => decide (x.mod ≤ t.mod)) (t :: r)
        have hf := drop_first (p := fun x => decide (x.mod ≤ t.mod)) (t :: r)
        have hsub := List.dropWhile_sublist (fun x : Tomb => decide (x.mod ≤ t.mod)) (l := t :: r)
        have hlt := drop_lt t r
        have e : trim (n + 1) (t :: r) h = trim n ((t :: r).dropWhile fun x => decide (x.mod ≤ t.mod)) t.mod := by
          simp only [trim]; rw [if_pos h4]
        rw [e]
        generalize hd : (t :: r).dropWhile (fun x => decide (x.mod ≤ t.mod)) = d at *
        have hpd := hp.sublist hsub
        have hbd : ∀ x ∈ d, t.mod + 1 ≤ x.mod ∧ x.mod ≤ M := by
          cases d with
          | nil => simp
          | cons x d =>
            have h1 := hf x d rfl
            rw [decide_eq_false_iff_not] at h1
            intro y hy
            refine ⟨?_, (hb y (hsub.subset hy)).2⟩
            rcases List.mem_cons.1 hy with rfl | hy
            · omega
            · have := (List.pairwise_cons.1 hpd).1 y hy; omega
        obtain ⟨a1, ⟨a2, a3, a4⟩, a5, a6, a7⟩ := trim_spec M n d t.mod (by simp at hn; omega) hpd hbd ht.2
        refine ⟨a1, ⟨q ++ a2, ?_, ?_⟩, a5, by omega, a7⟩
        · rw [hq1, List.append_assoc, ← a3]
        · intro x hx
          rcases List.mem_append.1 hx with hx | hx
          · have := hq2 x hx; simp at this; omega
          · exact a4 x hx
    · have e : trim (n + 1) ts h = (ts, h) := by simp only [trim]; rw [if_neg h4]
      rw [e]
      exact ⟨by simp only; omega, ⟨[], rfl, by simp⟩, fun t ht => (hb t ht).1, Int.le_refl _, hM⟩
theorem hasUid_mem (ms : List Mail) (u : Int) : hasUid ms u = true ↔ u ∈ ms.map (·.uid) := by
  simp [hasUid, List.any_eq_true, List.mem_map]
theorem kept_has {b : Box} (hok : boxOk b = true) (s : List Range) {m : Mail} (hm : m ∈ b.mails) : m.uid ∈ (keptM s b.mails).map (·.uid) ↔ isGone s m = false := by
  obtain ⟨_, _, _, _, _, _, c2, _⟩ := (boxOk_iff b).1 hok
  unfold keptM
  constructor
  · intro h
    simp only [List.mem_map, List.mem_filter] at h
    obtain ⟨x, ⟨hx, hp⟩, he⟩ := h
    have : x = m := by
      rw [List.pairwise_iff_getElem] at c2
      obtain ⟨i, hi, rfl⟩ := List.getElem_of_mem hx
      obtain ⟨j, hj, rfl⟩ := List.getElem_of_mem hm
      rcases Nat.lt_trichotomy i j with h | h | h
      · have := c2 i j hi hj h; omega
      · subst h; rfl
      · have := c2 j i hj hi h; omega
    rw [← this]; simpa using hp
  · intro h
    exact List.mem_map.2 ⟨m, List.mem_filter.2 ⟨hm, by simp [h]⟩, rfl⟩
theorem gone_has {b : Box} (hok : boxOk b = true) (s : List Range) {m : Mail} (hm : m ∈ b.mails) : m.uid ∈ goneU s b.mails ↔ isGone s m = true := by
  obtain ⟨_, _, _, _, _, _, c2, _⟩ := (boxOk_iff b).1 hok
  unfold goneU
  constructor
  · intro h
    simp only [List.mem_map, List.mem_filter] at h
    obtain ⟨x, ⟨hx, hp⟩, he⟩ := h
    have : x = m := by
      rw [List.pairwise_iff_getElem] at c2
      obtain ⟨i, hi, rfl⟩ := List.getElem_of_mem hx
      obtain ⟨j, hj, rfl⟩ := List.getElem_of_mem hm
      rcases Nat.lt_trichotomy i j with h | h | h
      · have := c2 i j hi hj h; omega
      · subst h; rfl
      · have := c2 j i hj hi h; omega
    rw [← this]; exact hp
  · intro h
    exact List.mem_map.2 ⟨m, List.mem_filter.2 ⟨hm, h⟩, rfl⟩
theorem goneT_mem {b : Box} {s : List Range} {t : Tomb} (h : t ∈ goneT b s b.mails) : ∃ m ∈ b.mails, isGone s m = true ∧ t = ⟨m.uid, b.mod + 1⟩ := by
  simp only [goneT, List.mem_map, List.mem_filter] at h
  obtain ⟨m, ⟨h1, h2⟩, h3⟩ := h
  exact ⟨m, h1, h2, h3.symm⟩
/-- The trimmed tombs of a right box. -/
theorem exp_trim {b : Box} (hok : boxOk b = true) (s : List Range) :
    (expBox b s).tombs.length ≤ 40 ∧ (∃ r, b.tombs ++ goneT b s b.mails = r ++ (expBox b s).tombs ∧ ∀ x ∈ r, x.mod ≤ (expBox b s).horizon) ∧ (∀ t ∈ (expBox b s).tombs, (expBox b s).horizon + 1 ≤ t.mod) ∧ b.horizon ≤ (expBox b s).horizon ∧ (expBox b s).horizon ≤ b.mod + 1 := by
  obtain ⟨a, b1, b2, b3, b4, c1, c2, c3, d1, d2, d3, d4⟩ := (boxOk_iff b).1 hok
  refine trim_spec (b.mod + 1) _ _ _ (Nat.le_refl _) (tombs_up hok s) ?_ (by omega)
  intro t ht
  rcases List.mem_append.1 ht with ht | ht
  · have := d1 t ht; unfold TombFine at this; omega
  · obtain ⟨m, _, _, rfl⟩ := goneT_mem ht
    simp only; omega
theorem expBox_ok {b : Box} (hok : boxOk b = true) (hm : b.mod < 100000) (s : List Range) : boxOk (expBox b s) = true := by
  obtain ⟨t1, ⟨r, t2, t3⟩, t4, t5, t6⟩ := exp_trim hok s
  obtain ⟨a, b1, b2, b3, b4, c1, c2, c3, d1, d2, d3, d4⟩ := (boxOk_iff b).1 hok
  rw [boxOk_iff]
  have hsub : (expBox b s).tombs.Sublist (b.tombs ++ goneT b s b.mails) := by rw [t2]; exact List.sublist_append_right ..
  have hg : (goneT b s b.mails).Pairwise (fun a c => a.uid < c.uid) := by
    unfold goneT
    rw [List.pairwise_map]
    exact (c2.filter _).imp fun h => h
  refine ⟨a, b1, b2, ?_, ?_, ?_, ?_, ?_, ?_, ?_, ?_, t1⟩
  · show 1 ≤ b.mod + 1 ∧ b.mod + 1 ≤ 100000
    omega
  · show 0 ≤ (expBox b s).horizon ∧ (expBox b s).horizon ≤ b.mod + 1
    omega
  · intro m hm
    have hm' : m ∈ b.mails := (List.mem_filter.1 hm).1
    obtain ⟨e1, e2, e3, e4, e5, e6⟩ := c1 m hm'
    exact ⟨e1, e2, e3, e4, by show m.mod ≤ b.mod + 1; omega, e6⟩
  · exact c2.filter _
  · exact Nat.le_trans (keptM_len s b.mails) c3
  · intro t ht
    have h4 := t4 t ht
    rcases List.mem_append.1 (hsub.subset ht) with hx | hx
    · obtain ⟨e1, e2, e3, e4, e5⟩ := d1 t hx
      refine ⟨e1, e2, h4, by show t.mod ≤ b.mod + 1; omega, ?_⟩
      cases hu : hasUid (expBox b s).mails t.uid
      · rfl
      · exfalso
        rw [hasUid_mem] at hu
        have hu2 : t.uid ∈ b.mails.map (·.uid) := by
          obtain ⟨m, hm, he⟩ := List.mem_map.1 hu
          exact List.mem_map.2 ⟨m, (List.mem_filter.1 hm).1, he⟩
        rw [← hasUid_mem, e5] at hu2
        exact Bool.noConfusion hu2
    · obtain ⟨m, hm, hgo, rfl⟩ := goneT_mem hx
      obtain ⟨e1, e2, e3, e4, e5, e6⟩ := c1 m hm
      refine ⟨e1, e2, h4, by show b.mod + 1 ≤ b.mod + 1; omega, ?_⟩
      cases hu : hasUid (expBox b s).mails m.uid
      · rfl
      · exfalso
        rw [hasUid_mem] at hu
        have := (kept_has hok s hm).1 hu
        rw [hgo] at this
        exact Bool.noConfusion this
  · refine List.Pairwise.sublist hsub ?_
    rw [List.pairwise_append]
    refine ⟨d2, ?_, ?_⟩
    · unfold goneT
      rw [List.pairwise_map]
      exact (c2.filter _).imp fun h => Or.inr ⟨rfl, h⟩
    · intro x hx y hy
      obtain ⟨m, hm, hgo, rfl⟩ := goneT_mem hy
      have := (d1 x hx).2.2.2.1
      exact Or.inl (by simp only; omega)
  · refine List.Pairwise.sublist hsub ?_
    rw [List.pairwise_append]
    refine ⟨d3, hg.imp fun h => by omega, ?_⟩
    intro x hx y hy
    obtain ⟨m, hm, hgo, rfl⟩ := goneT_mem hy
    have := (d1 x hx).2.2.2.2
    intro he
    simp only at he
    rw [he] at this
    have h2 : hasUid b.mails m.uid = true := by rw [hasUid_mem]; exact List.mem_map.2 ⟨m, hm, rfl⟩
    rw [h2] at this
    exact Bool.noConfusion this
theorem sortL_id {us : List Int} (h : us.Pairwise (· < ·)) : sortL us = us := by
  unfold sortL
  exact List.mergeSort_of_pairwise (h.imp fun h => by simp; omega)
theorem laterU_none {ts : List Tomb} {k : Int} (h : ∀ t ∈ ts, t.mod ≤ k) : laterU k ts = [] := by
  unfold laterU
  rw [List.map_eq_nil_iff, List.filter_eq_nil_iff]
  intro t ht
  have := h t ht
  simp; omega
theorem laterU_exp {b : Box} (hok : boxOk b = true) (s : List Range) (hh : (expBox b s).horizon ≤ b.mod) : laterU b.mod (expBox b s).tombs = goneU s b.mails := by
  obtain ⟨t1, ⟨r, t2, t3⟩, t4, t5, t6⟩ := exp_trim hok s
  obtain ⟨a, b1, b2, b3, b4, c1, c2, c3, d1, d2, d3, d4⟩ := (boxOk_iff b).1 hok
  have h1 : laterU b.mod (b.tombs ++ goneT b s b.mails) = laterU b.mod (expBox b s).tombs := by
    rw [t2]
    have : laterU b.mod r = [] := laterU_none fun x hx => by have := t3 x hx; omega
    unfold laterU at *
    rw [List.filter_append, List.map_append, this, List.nil_append]
  have h2 : laterU b.mod (b.tombs ++ goneT b s b.mails) = laterU b.mod b.tombs ++ laterU b.mod (goneT b s b.mails) := by
    unfold laterU; rw [List.filter_append, List.map_append]
  have h3 : laterU b.mod b.tombs = [] := laterU_none fun x hx => by have := d1 x hx; unfold TombFine at this; omega
  rw [← h1, h2, h3, List.nil_append]
  unfold laterU goneT goneU
  rw [List.filter_eq_self.2]
  · rw [List.map_map]; rfl
  · intro x hx
    obtain ⟨m, _, rfl⟩ := List.mem_map.1 hx
    simp; omega
theorem kept_gone_len (s : List Range) : ∀ ms : List Mail, (keptM s ms).length + (goneU s ms).length = ms.length
  | [] => rfl
  | m :: ms => by
    have := kept_gone_len s ms
    unfold keptM goneU at *
    rw [List.filter_cons, List.filter_cons]
    cases isGone s m <;> simp at this ⊢ <;> omega
theorem exp_any (b : Box) (s : List Range) : sAdds (expunge b s).2 = setOfL (expunge b s).2 ∧ (setOfL (expunge b s).2).length ≤ 30 := by
  unfold expunge
  split
  · rename_i h
    exact ⟨sAdds_uids h.1 _, Nat.le_trans (setOfL_len _) (uids_up h.1 (isGone s)).2.2⟩
  · simp [setOfL]
/-- What Expunge of all Uids tells, for a right box whose count is not full. -/
theorem exp_all {b : Box} (hok : boxOk b = true) (hm : b.mod < 100000) :
    boxOk (expunge b [⟨1, 9999⟩]).1 = true ∧ setOk (setOfL (expunge b [⟨1, 9999⟩]).2) = true ∧
    (∀ m ∈ b.mails, setHas (setOfL (expunge b [⟨1, 9999⟩]).2) m.uid = decide ((m.flags.tdiv 8).tmod 2 = 1) ∧ decide (m.uid ∈ uidsL (expunge b [⟨1, 9999⟩]).1) = !setHas (setOfL (expunge b [⟨1, 9999⟩]).2) m.uid) ∧
    ((expunge b [⟨1, 9999⟩]).1.mails.length : Int) + sizeS (setOfL (expunge b [⟨1, 9999⟩]).2) = b.mails.length ∧ (expunge b [⟨1, 9999⟩]).1.next = b.next ∧
    ((vanished (expunge b [⟨1, 9999⟩]).1 b.mod).2 = true → (vanished (expunge b [⟨1, 9999⟩]).1 b.mod).1 = setOfL (expunge b [⟨1, 9999⟩]).2) := by
  obtain ⟨a, b1, b2, b3, b4, c1, c2, c3, d1, d2, d3, d4⟩ := (boxOk_iff b).1 hok
  have hG : ∀ m ∈ b.mails, isGone [⟨1, 9999⟩] m = decide ((m.flags.tdiv 8).tmod 2 = 1) := by
    intro m hm
    obtain ⟨e1, e2, e3, _⟩ := c1 m hm
    exact gone_all e1 (by omega) e3
  obtain ⟨g1, g2, g3⟩ := uids_up hok (isGone [⟨1, 9999⟩])
  have g4 : ∀ n, setHas (setOfL (goneU [⟨1, 9999⟩] b.mails)) n = decide (n ∈ goneU [⟨1, 9999⟩] b.mails) := setHas_uids hok _
  have gs : setOk (setOfL (goneU [⟨1, 9999⟩] b.mails)) = true := by
    have h1 := setOfL_ok _ g1 g2
    have h2 := setOfL_len ((b.mails.filter (isGone [⟨1, 9999⟩])).map (·.uid))
    have h3 : goneU [⟨1, 9999⟩] b.mails = (b.mails.filter (isGone [⟨1, 9999⟩])).map (·.uid) := rfl
    rw [h3]
    simp [setOk, h1.1]
    simp at h2 g3; omega
  by_cases hne : goneU [⟨1, 9999⟩] b.mails = []
  · have hx : expunge b [⟨1, 9999⟩] = (b, []) := by
      unfold expunge; rw [if_neg (fun h => h.2.2.1 (by rw [hne]; rfl))]
    rw [hx]
    have hno : ∀ m ∈ b.mails, isGone [⟨1, 9999⟩] m = false := by
      intro m hm
      cases hg : isGone [⟨1, 9999⟩] m
      · rfl
      · have := (gone_has hok [⟨1, 9999⟩] hm).2 hg
        rw [hne] at this; simp at this
    refine ⟨hok, rfl, ?_, ?_, rfl, ?_⟩
    · intro m hm
      have h1 := hno m hm
      rw [hG m hm] at h1
      refine ⟨by rw [h1]; rfl, ?_⟩
      have : setHas (setOfL []) m.uid = false := rfl
      simp only [this]
      have h2 : m.uid ∈ uidsL b := List.mem_map.2 ⟨m, hm, rfl⟩
      simp [h2]
    · simp [sizeS, setOfL, setOk, setOkL, sumS]
    · simp only
      intro hv
      have : laterU b.mod b.tombs = [] := laterU_none fun x hx => by have := d1 x hx; unfold TombFine at this; omega
      unfold vanished
      split
      · rw [this, sortL_id List.Pairwise.nil]
      · rfl
  · have hgs : sAdds (goneU [⟨1, 9999⟩] b.mails) ≠ [] := by
      rw [show sAdds (goneU [⟨1, 9999⟩] b.mails) = setOfL (goneU [⟨1, 9999⟩] b.mails) from sAdds_uids hok _]
      exact fun h => hne ((setOfL_nil g1 g2).1 h)
    have hx : expunge b [⟨1, 9999⟩] = (expBox b [⟨1, 9999⟩], goneU [⟨1, 9999⟩] b.mails) := by
      unfold expunge; rw [if_pos ⟨hok, by decide, hgs, expBox_ok hok hm _⟩]
    rw [hx]
    refine ⟨expBox_ok hok hm _, gs, ?_, ?_, rfl, ?_⟩
    · intro m hm
      rw [g4, ← hG m hm]
      have h1 := gone_has hok [⟨1, 9999⟩] hm
      have h2 := kept_has hok [⟨1, 9999⟩] hm
      have h3 : m.uid ∈ uidsL (expBox b [⟨1, 9999⟩]) ↔ isGone [⟨1, 9999⟩] m = false := h2
      cases hg : isGone [⟨1, 9999⟩] m
      · simp [h1, h3, hg]
      · simp [h1, h3, hg]
    · have h1 := sumS_ofL _ g1 g2
      have h2 := kept_gone_len [⟨1, 9999⟩] b.mails
      have h3 : sumS (setOfL (goneU [⟨1, 9999⟩] b.mails)) = (goneU [⟨1, 9999⟩] b.mails).length := h1
      simp only [sizeS, gs, if_true, h3]
      show ((keptM [⟨1, 9999⟩] b.mails).length : Int) + _ = _
      omega
    · simp only
      unfold vanished
      split
      · rename_i hv
        intro _
        rw [laterU_exp hok _ hv.2, show sortL (goneU [⟨1, 9999⟩] b.mails) = goneU [⟨1, 9999⟩] b.mails from sortL_id g1]
      · intro h; simp at h
end Go.Proofs.YtomeglmblhfafaaGreatDoor
