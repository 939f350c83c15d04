/- Plain law: one number after the other is the set of the list. -/
import Derived.Test.YtomeglmblhfafaaGreatDoorcD13
set_option linter.unusedSectionVars false
set_option linter.all false
set_option linter.unusedVariables false
set_option linter.unusedSimpArgs false
set_option maxRecDepth 100000
namespace Go.Proofs.YtomeglmblhfafaaGreatDoor
open Go.Lft

theorem after_mono {p : Option Int} {r : Range} {n : Int} (h : after p r = true) (hn : match p with | none => True | some h => n ≤ h) (hp : p ≠ none) : n + 1 < r.lo := by
  cases p with
  | none => exact absurd rfl hp
  | some h' => simp [after] at h; simp at hn; omega
/-- Nothing of a set that lies behind is at or ahead of what it lies behind. -/
theorem setHas_behind : ∀ {s : List Range} {h n : Int}, setOkL (some h) s = true → n ≤ h + 1 → setHas s n = false
  | [], _, _, _, _ => rfl
  | r :: s, h, n, hs, hn => by
    simp only [setOkL, Bool.and_eq_true, rangeOk, after, decide_eq_true_eq] at hs
    obtain ⟨⟨⟨⟨h1, h2⟩, h3⟩, h4⟩, h5⟩ := hs
    have ih := setHas_behind (n := n) h5 (by omega)
    simp only [setHas, List.any_cons]
    have : within n r.lo r.hi = false := by simp [within]; omega
    rw [this, Bool.false_or]
    exact ih
theorem within_lo {r : Range} (h : r.lo ≤ r.hi) : within r.lo r.lo r.hi = true := by simp [within, h]
theorem setHas_cons (r : Range) (s : List Range) (n : Int) : setHas (r :: s) n = (within n r.lo r.hi || setHas s n) := rfl
/-- Two right sets that have the same numbers are the same. -/
theorem setOkL_ext : ∀ {a b : List Range} {p q : Option Int}, setOkL p a = true → setOkL q b = true → (∀ n, setHas a n = setHas b n) → a = b
  | [], [], _, _, _, _, _ => rfl
  | [], r :: b, p, q, ha, hb, h => by
    simp only [setOkL, Bool.and_eq_true, rangeOk, decide_eq_true_eq] at hb
    have := h r.lo
    rw [setHas_cons, within_lo hb.1.1.1.2] at this
    simp [setHas] at this
  | r :: a, [], p, q, ha, hb, h => by
    simp only [setOkL, Bool.and_eq_true, rangeOk, decide_eq_true_eq] at ha
    have := h r.lo
    rw [setHas_cons, within_lo ha.1.1.1.2] at this
    simp [setHas] at this
  | r :: a, s :: b, p, q, ha, hb, h => by
    simp only [setOkL, Bool.and_eq_true, rangeOk, decide_eq_true_eq] at ha hb
    obtain ⟨⟨⟨⟨a1, a2⟩, a3⟩, a4⟩, a5⟩ := ha
    obtain ⟨⟨⟨⟨b1, b2⟩, b3⟩, b4⟩, b5⟩ := hb
    have fa : ∀ n, n ≤ r.hi + 1 → setHas a n = false := fun n hn => setHas_behind a5 hn
    have fb : ∀ n, n ≤ s.hi + 1 → setHas b n = false := fun n hn => setHas_behind b5 hn
    have w : ∀ n (x : Range), within n x.lo x.hi = true ↔ x.lo ≤ n ∧ n ≤ x.hi := fun n x => by simp [within]
    have wf : ∀ n (x : Range), ¬ (x.lo ≤ n ∧ n ≤ x.hi) → within n x.lo x.hi = false := fun n x hx => by
      rw [← Bool.not_eq_true, w]; exact hx
    have hlo : r.lo = s.lo := by
      rcases Int.lt_trichotomy r.lo s.lo with c | c | c
      · have := h r.lo
        rw [setHas_cons, setHas_cons, within_lo a2, wf _ s (by omega), fb _ (by omega)] at this
        simp at this
      · exact c
      · have := h s.lo
        rw [setHas_cons, setHas_cons, within_lo b2, wf _ r (by omega), fa _ (by omega)] at this
        simp at this
    have hhi : r.hi = s.hi := by
      rcases Int.lt_trichotomy r.hi s.hi with c | c | c
      · have := h (r.hi + 1)
        rw [setHas_cons, setHas_cons, wf _ r (by omega), fa _ (by omega), (w _ s).2 (by omega)] at this
        simp at this
      · exact c
      · have := h (s.hi + 1)
        rw [setHas_cons, setHas_cons, wf _ s (by omega), fb _ (by omega), (w _ r).2 (by omega)] at this
        simp at this
    have hrs : r = s := by cases r; cases s; simp_all
    subst hrs
    have : a = b := setOkL_ext a5 b5 fun n => by
      have := h n
      rw [setHas_cons, setHas_cons] at this
      by_cases c : n ≤ r.hi + 1
      · rw [fa n c, fb n c]
      · rw [wf n r (by omega)] at this
        simpa using this
    rw [this]
theorem setHas_range {p : Option Int} {s : List Range} (h : setOkL p s = true) {n : Int} (hn : setHas s n = true) : 1 ≤ n ∧ n ≤ 9999 := by
  simp only [setHas, List.any_eq_true] at hn
  obtain ⟨r, hr, hw⟩ := hn
  have := setOkL_mem h r hr
  simp [within] at hw
  omega
/-- The set of a list that ascends. -/
theorem setOfL_ok : ∀ (us : List Int), us.Pairwise (· < ·) → (∀ u ∈ us, 1 ≤ u ∧ u ≤ 9999) → setOkL none (setOfL us) = true ∧ lastHi none (setOfL us) = us.getLast? ∧ ∀ n, setHas (setOfL us) n = decide (n ∈ us) := by
  intro us
  rcases last_dec us with rfl | ⟨l, u, rfl⟩
  · intro _ _
    refine ⟨rfl, rfl, fun n => by simp [setOfL, setHas]⟩
  · intro hp hb
    have hlen : l.length < (l ++ [u]).length := by simp
    obtain ⟨i1, i2, i3⟩ := setOfL_ok l (List.pairwise_append.1 hp).1 (fun x hx => hb x (by simp [hx]))
    have hu := hb u (by simp)
    have hlt : ∀ x ∈ l, x < u := fun x hx => (List.pairwise_append.1 hp).2.2 x hx u (by simp)
    rw [setOfL_snoc]
    rcases last_dec (setOfL l) with hA | ⟨k, r, hA⟩
    · rw [hA, setSnoc_nil]
      rw [hA] at i2 i3
      have hl : l = [] := by
        rcases last_dec l with h | ⟨k, x, rfl⟩
        · exact h
        · simp [lastHi] at i2
      subst hl
      refine ⟨by simp [setOkL, rangeOk, after]; omega, by simp [lastHi], fun n => ?_⟩
      rw [Bool.eq_iff_iff]
      simp [setHas, within]
      omega
    · rw [hA] at i1 i2 i3
      rw [setOkL_snoc] at i1
      rw [lastHi_snoc] at i2
      simp only [Bool.and_eq_true, rangeOk, decide_eq_true_eq] at i1
      obtain ⟨j1, ⟨⟨⟨j2, j3⟩, j4⟩, j5⟩⟩ := i1
      have hru : r.hi < u := hlt _ (List.mem_of_getLast? i2.symm)
      rw [hA, setSnoc_snoc]
      split
      · rename_i hc
        refine ⟨?_, by rw [lastHi_snoc]; simp, fun n => ?_⟩
        · rw [setOkL_snoc, j1]
          simp only [Bool.and_eq_true, rangeOk, decide_eq_true_eq]
          refine ⟨trivial, ⟨⟨by omega, by omega⟩, by omega⟩, ?_⟩
          cases hq : lastHi none k <;> rw [hq] at j5 <;> simpa [after] using j5
        · have := i3 n
          rw [setHas_snoc] at this ⊢
          rw [Bool.eq_iff_iff] at this ⊢
          simp [within] at this ⊢
          constructor
          · intro h
            by_cases hn : n = u
            · exact .inr hn
            · left
              apply this.1
              rcases h with h | h
              · exact .inl h
              · right; omega
          · rintro (h | h)
            · rcases this.2 h with h | h
              · exact .inl h
              · right; omega
            · right; omega
      · rename_i hc
        refine ⟨?_, by rw [lastHi_snoc]; simp, fun n => ?_⟩
        · rw [setOkL_snoc, setOkL_snoc, j1, lastHi_snoc]
          simp only [Bool.and_eq_true, rangeOk, decide_eq_true_eq, after]
          exact ⟨⟨trivial, ⟨⟨by omega, by omega⟩, by omega⟩, j5⟩, ⟨⟨by omega, by omega⟩, by omega⟩, by omega⟩
        · have := i3 n
          rw [setHas_snoc, this, Bool.eq_iff_iff]
          simp [within]
          constructor
          · rintro (h | h)
            · exact .inl h
            · right; omega
          · rintro (h | h)
            · exact .inl h
            · right; omega
  termination_by us => us.length
theorem setAdd_one {us : List Int} {u : Int} (hp : (us ++ [u]).Pairwise (· < ·)) (hb : ∀ x ∈ us ++ [u], 1 ≤ x ∧ x ≤ 9999) (hl : us.length < 40) : (setAdd (setOfL us) u u).1 = setOfL (us ++ [u]) := by
  obtain ⟨i1, i2, i3⟩ := setOfL_ok us (List.pairwise_append.1 hp).1 (fun x hx => hb x (by simp [hx]))
  obtain ⟨k1, k2, k3⟩ := setOfL_ok (us ++ [u]) hp hb
  have hu := hb u (by simp)
  have hlen := setOfL_len us
  have hlen2 := setOfL_len (us ++ [u])
  have hok : setOk (setOfL us) = true := by simp [setOk, i1]; omega
  have h0 : ∀ n : Int, (n < 1 ∨ 9999 < n) → setHas (setOfL (us ++ [u])) n = false := by
    intro n hn
    cases hc : setHas (setOfL (us ++ [u])) n
    · rfl
    · have := setHas_range k1 hc; omega
  have hf : ∀ n : Int, (setHas (setOfL us) n || within n u u) = setHas (setOfL (us ++ [u])) n := by
    intro n
    rw [i3 n, k3 n, Bool.eq_iff_iff]
    simp [within]
    constructor
    · rintro (h | h)
      · exact .inl h
      · right; omega
    · rintro (h | h)
      · exact .inl h
      · right; omega
  have hz : (fun n : Nat => setHas (setOfL us) n || within n u u) = fun n : Nat => setHas (setOfL (us ++ [u])) n := by funext n; exact hf n
  have hU := setUpto_ok (fun n : Nat => setHas (setOfL (us ++ [u])) n) (h0 0 (by omega)) 9999 (by omega)
  have he : setUpto (fun n : Nat => setHas (setOfL (us ++ [u])) n) 9999 = setOfL (us ++ [u]) := by
    refine setOkL_ext hU.1 k1 fun n => ?_
    by_cases hn : 0 ≤ n
    · have := hU.2.2.2 n.toNat
      rw [show ((n.toNat : Nat) : Int) = n by omega] at this
      rw [this]
      by_cases h9 : n.toNat ≤ 9999
      · simp [h9]
      · rw [h0 n (by omega)]; simp
    · rw [h0 n (by omega)]
      cases hc : setHas (setUpto (fun n : Nat => setHas (setOfL (us ++ [u])) n) 9999) n
      · rfl
      · have := setHas_range hU.1 hc; omega
  have hok2 : setOk (setOfL (us ++ [u])) = true := by simp [setOk, k1]; simp at hlen2; omega
  unfold setAdd
  rw [if_pos ⟨hok, hu.1, Int.le_refl _, hu.2⟩, hz, he, if_pos hok2]
theorem sAdds_eq : ∀ (us : List Int), us.Pairwise (· < ·) → (∀ u ∈ us, 1 ≤ u ∧ u ≤ 9999) → us.length ≤ 40 → sAdds us = setOfL us := by
  intro us
  rcases last_dec us with rfl | ⟨l, u, rfl⟩
  · intro _ _ _; rfl
  · intro hp hb hl
    have hlen : l.length < (l ++ [u]).length := by simp
    have ih := sAdds_eq l (List.pairwise_append.1 hp).1 (fun x hx => hb x (by simp [hx])) (by simp at hl; omega)
    rw [sAdds_snoc, ih]
    exact setAdd_one hp hb (by simp at hl; omega)
  termination_by us => us.length
end Go.Proofs.YtomeglmblhfafaaGreatDoor
