/- Plain law: numbers in whatever order, and more than once, made a set. -/
import Derived.Test.YtoeadcefgpkdcaaGreatcP3
import Derived.Lib.RowBridge
set_option linter.unusedSectionVars false
set_option linter.all false
set_option linter.unusedVariables false
set_option linter.unusedSimpArgs false
set_option maxRecDepth 100000
namespace Go.Proofs.YtoeadcefgpkdcaaGreat
open Go.Lft

theorem compact_inv (d : Array Int) (hs : ∀ i j, i ≤ j → j < d.size → d[i]! ≤ d[j]!) : ∀ m, m ≤ d.size → (Go.Lib.compactUpTo d m).Pairwise (· < ·) ∧ ∀ x, x ∈ Go.Lib.compactUpTo d m ↔ ∃ i, i < m ∧ d[i]! = x
  | 0, _ => by simp [Go.Lib.compactUpTo]
  | m + 1, hm => by
    obtain ⟨h1, h2⟩ := compact_inv d hs m (by omega)
    rw [Go.Lib.compactUpTo_succ]
    cases hk : Go.Lib.keeps d m
    · simp only [Bool.false_eq_true, if_false, List.append_nil]
      have hk' : ¬ (m = 0 ∨ d[m]! ≠ d[m - 1]!) := by
        unfold Go.Lib.keeps at hk
        exact of_decide_eq_false hk
      refine ⟨h1, fun x => ?_⟩
      rw [h2 x]
      constructor
      · rintro ⟨i, hi, e⟩; exact ⟨i, by omega, e⟩
      · rintro ⟨i, hi, e⟩
        by_cases him : i = m
        · subst him
          refine ⟨i - 1, by omega, ?_⟩
          have h3 : d[i]! = d[i - 1]! := by
            by_cases hc : d[i]! = d[i - 1]!
            · exact hc
            · exact absurd (.inr hc) hk'
          rw [← h3]; exact e
        · exact ⟨i, by omega, e⟩
    · simp only [if_true]
      have hk' : m = 0 ∨ d[m]! ≠ d[m - 1]! := by
        unfold Go.Lib.keeps at hk
        exact of_decide_eq_true hk
      refine ⟨?_, fun x => ?_⟩
      · rw [List.pairwise_append]
        refine ⟨h1, List.pairwise_singleton .., fun a ha b hb => ?_⟩
        obtain rfl := List.mem_singleton.1 hb
        obtain ⟨i, hi, rfl⟩ := (h2 a).1 ha
        have h3 := hs i (m - 1) (by omega) (by omega)
        have h4 := hs (m - 1) m (by omega) (by omega)
        rcases hk' with hk' | hk'
        · omega
        · omega
      · rw [List.mem_append, h2 x, List.mem_singleton]
        constructor
        · rintro (⟨i, hi, e⟩ | rfl)
          · exact ⟨i, by omega, e⟩
          · exact ⟨m, by omega, rfl⟩
        · rintro ⟨i, hi, e⟩
          by_cases him : i = m
          · subst him; exact .inr e.symm
          · exact .inl ⟨i, by omega, e⟩
/-- The numbers of a list, once each, in rising order. -/
def asc (us : List Int) : List Int := Go.Lib.compact (sortL us)
theorem sortL_le (us : List Int) : ∀ i j, i ≤ j → j < (sortL us).toArray.size → (sortL us).toArray[i]! ≤ (sortL us).toArray[j]! := by
  intro i j hij hj
  have h1 : (sortL us).Pairwise (fun a b => decide (a ≤ b) = true) := List.pairwise_mergeSort (fun a b c h1 h2 => by simp at *; omega) (fun a b => by simp; omega) us
  rw [List.pairwise_iff_getElem] at h1
  have hj' : j < (sortL us).length := by simpa using hj
  rcases Nat.lt_or_eq_of_le hij with h | rfl
  · have := h1 i j (by omega) hj' h
    rw [getElem!_pos _ i (by simp; omega), getElem!_pos _ j (by simp; omega)]
    simpa using this
  · exact Int.le_refl _
theorem asc_up (us : List Int) : (asc us).Pairwise (· < ·) := by
  have := (compact_inv (sortL us).toArray (sortL_le us) (sortL us).length (by simp)).1
  exact this
theorem asc_mem (us : List Int) (x : Int) : x ∈ asc us ↔ x ∈ us := by
  have := (compact_inv (sortL us).toArray (sortL_le us) (sortL us).length (by simp)).2 x
  rw [← sortL_mem us x]
  refine Iff.trans this ?_
  rw [List.mem_iff_getElem]
  constructor
  · rintro ⟨i, hi, e⟩
    refine ⟨i, hi, ?_⟩
    rw [getElem!_pos _ i (by simpa using hi)] at e
    simpa using e
  · rintro ⟨i, hi, e⟩
    refine ⟨i, hi, ?_⟩
    rw [getElem!_pos _ i (by simpa using hi)]
    simpa using e
theorem asc_len (us : List Int) : (asc us).length ≤ us.length := by
  have h := Go.Lib.compact_length_le (sortL us)
  rw [sortL_len] at h
  exact h
theorem sAdds_asc : ∀ (us : List Int), (∀ u ∈ us, 1 ≤ u ∧ u ≤ 9999) → us.length ≤ 40 → sAdds us = setOfL (asc us) := by
  intro us
  rcases last_dec us with rfl | ⟨l, u, rfl⟩
  · intro _ _
    have : asc [] = [] := List.length_eq_zero_iff.1 (by have := asc_len []; simpa using this)
    rw [this]; rfl
  · intro hb hl
    have hlen : l.length < (l ++ [u]).length := by simp
    have hb' : ∀ x ∈ l, 1 ≤ x ∧ x ≤ 9999 := fun x hx => hb x (by simp [hx])
    have ih := sAdds_asc l hb' (by simp at hl; omega)
    rw [sAdds_snoc, ih]
    obtain ⟨i1, i2, i3⟩ := setOfL_ok (asc l) (asc_up l) (fun x hx => hb' x ((asc_mem l x).1 hx))
    obtain ⟨k1, k2, k3⟩ := setOfL_ok (asc (l ++ [u])) (asc_up _) (fun x hx => hb x ((asc_mem _ x).1 hx))
    have hu := hb u (by simp)
    have hlen1 := setOfL_len (asc l)
    have hlen2 := setOfL_len (asc (l ++ [u]))
    have hal1 := asc_len l
    have hal2 := asc_len (l ++ [u])
    have hok : setOk (setOfL (asc l)) = true := by simp [setOk, i1]; simp at hl; omega
    have hok2 : setOk (setOfL (asc (l ++ [u]))) = true := by simp [setOk, k1]; omega
    have h0 : ∀ n : Int, (n < 1 ∨ 9999 < n) → setHas (setOfL (asc (l ++ [u]))) n = false := by
      intro n hn
      cases hc : setHas (setOfL (asc (l ++ [u]))) n
      · rfl
      · have := setHas_range k1 hc; omega
    have hf : ∀ n : Int, (setHas (setOfL (asc l)) n || within n u u) = setHas (setOfL (asc (l ++ [u]))) n := by
      intro n
      rw [i3 n, k3 n, Bool.eq_iff_iff]
      simp only [Bool.or_eq_true, decide_eq_true_eq, asc_mem, List.mem_append, List.mem_singleton]
      simp [within]
      constructor
      · rintro (h | h)
        · exact .inl h
        · right; omega
      · rintro (h | h)
        · exact .inl h
        · right; omega
    have hz : (fun n : Nat => setHas (setOfL (asc l)) n || within n u u) = fun n : Nat => setHas (setOfL (asc (l ++ [u]))) n := by funext n; exact hf n
    have hU := setUpto_ok (fun n : Nat => setHas (setOfL (asc (l ++ [u]))) n) (h0 0 (by omega)) 9999 (by omega)
    have he : setUpto (fun n : Nat => setHas (setOfL (asc (l ++ [u]))) n) 9999 = setOfL (asc (l ++ [u])) := by
      refine setOkL_ext hU.1 k1 fun n => ?_
      by_cases hn : 0 ≤ n
      · have := hU.2.2.2 n.toNat
        rw [show ((n.toNat : Nat) : Int) = n by omega] at this
        rw [this]
        by_cases h9 : n.toNat ≤ 9999
        · simp [h9]
        · rw [h0 n (by omega)]; simp
      · rw [h0 n (by omega)]
        cases hc : setHas (setUpto (fun n : Nat => setHas (setOfL (asc (l ++ [u]))) n) 9999) n
        · rfl
        · have := setHas_range hU.1 hc; omega
    unfold setAdd
    rw [if_pos ⟨hok, hu.1, Int.le_refl _, hu.2⟩, hz, he, if_pos hok2]
  termination_by us => us.length
theorem setOfL_first : ∀ (us : List Int) (u : Int), (u :: us).Pairwise (· < ·) → ∃ r s, setOfL (u :: us) = r :: s ∧ r.lo = u := by
  intro us
  rcases last_dec us with rfl | ⟨l, x, rfl⟩
  · intro u _; exact ⟨⟨u, u⟩, [], rfl, rfl⟩
  · intro u hp
    have hlen : l.length < (l ++ [x]).length := by simp
    have e : u :: (l ++ [x]) = (u :: l) ++ [x] := rfl
    rw [e, List.pairwise_append] at hp
    obtain ⟨r, s, h1, h2⟩ := setOfL_first l u hp.1
    rw [e, setOfL_snoc, h1]
    rcases last_dec s with rfl | ⟨k, y, rfl⟩
    · have : setSnoc [r] x = setSnoc ([] ++ [r]) x := rfl
      rw [this, setSnoc_snoc]
      split
      · exact ⟨⟨r.lo, x⟩, [], rfl, h2⟩
      · exact ⟨r, [⟨x, x⟩], rfl, h2⟩
    · have : setSnoc (r :: (k ++ [y])) x = setSnoc ((r :: k) ++ [y]) x := rfl
      rw [this, setSnoc_snoc]
      split
      · exact ⟨r, k ++ [⟨y.lo, x⟩], rfl, h2⟩
      · exact ⟨r, k ++ [y] ++ [⟨x, x⟩], by simp, h2⟩
  termination_by us => us.length
theorem setOfL_last : ∀ (us : List Int) (u : Int), ∃ s r, setOfL (us ++ [u]) = s ++ [r] ∧ r.hi = u := by
  intro us u
  rw [setOfL_snoc]
  rcases last_dec (setOfL us) with h | ⟨k, y, h⟩
  · rw [h]; exact ⟨[], ⟨u, u⟩, rfl, rfl⟩
  · rw [h, setSnoc_snoc]
    split
    · exact ⟨k, ⟨y.lo, u⟩, rfl, rfl⟩
    · exact ⟨k ++ [y], ⟨u, u⟩, rfl, rfl⟩
theorem setOfL_bad {us : List Int} (hp : us.Pairwise (· < ·)) {x : Int} (hx : x ∈ us) (hb : ¬ (1 ≤ x ∧ x ≤ 9999)) : setOk (setOfL us) = false := by
  cases hk : setOk (setOfL us)
  · rfl
  · exfalso
    have hk2 : setOkL none (setOfL us) = true := by simp [setOk] at hk; exact hk.1
    have hm := setOkL_mem hk2
    cases us with
    | nil => simp at hx
    | cons u us =>
      obtain ⟨r, s, e1, e2⟩ := setOfL_first us u hp
      have h1 := hm r (by rw [e1]; simp)
      have hux : u ≤ x := by
        rcases List.mem_cons.1 hx with rfl | hx
        · exact Int.le_refl _
        · have := (List.pairwise_cons.1 hp).1 x hx; omega
      rcases last_dec (u :: us) with h | ⟨k, y, h⟩
      · cases h
      · obtain ⟨s2, r2, e3, e4⟩ := setOfL_last k y
        rw [← h] at e3
        have h2 := hm r2 (by rw [e3]; simp)
        have hxy : x ≤ y := by
          rw [h] at hx hp
          rcases List.mem_append.1 hx with hx | hx
          · have := (List.pairwise_append.1 hp).2.2 x hx y (by simp); omega
          · obtain rfl := List.mem_singleton.1 hx; exact Int.le_refl _
        omega
theorem setAdd_eq {S T : List Range} {u : Int} (hS : setOk S = true) (hT : setOk T = true) (hu : 1 ≤ u ∧ u ≤ 9999) (hf : ∀ n : Int, (setHas S n || within n u u) = setHas T n) : setAdd S u u = (T, true) := by
  have k1 : setOkL none T = true := by simp [setOk] at hT; exact hT.1
  have h0 : ∀ n : Int, (n < 1 ∨ 9999 < n) → setHas T n = false := by
    intro n hn
    cases hc : setHas T n
    · rfl
    · have := setHas_range k1 hc; omega
  have hz : (fun n : Nat => setHas S n || within n u u) = fun n : Nat => setHas T n := by funext n; exact hf n
  have hU := setUpto_ok (fun n : Nat => setHas T n) (h0 0 (by omega)) 9999 (by omega)
  have he : setUpto (fun n : Nat => setHas T n) 9999 = T := by
    refine setOkL_ext hU.1 k1 fun n => ?_
    by_cases hn : 0 ≤ n
    · have := hU.2.2.2 n.toNat
      rw [show ((n.toNat : Nat) : Int) = n by omega] at this
      rw [this]
      by_cases h9 : n.toNat ≤ 9999
      · simp [h9]
      · rw [h0 n (by omega)]; simp
    · rw [h0 n (by omega)]
      cases hc : setHas (setUpto (fun n : Nat => setHas T n) 9999) n
      · rfl
      · have := setHas_range hU.1 hc; omega
  unfold setAdd
  rw [if_pos ⟨hS, hu.1, Int.le_refl _, hu.2⟩, hz, he, if_pos hT]
theorem sAdds_right {us : List Int} (hb : ∀ u ∈ us, 1 ≤ u ∧ u ≤ 9999) (hl : us.length ≤ 40) : setOk (sAdds us) = true ∧ ∀ n, setHas (sAdds us) n = decide (n ∈ us) := by
  rw [sAdds_asc us hb hl]
  obtain ⟨i1, i2, i3⟩ := setOfL_ok (asc us) (asc_up us) (fun x hx => hb x ((asc_mem us x).1 hx))
  have h1 := setOfL_len (asc us)
  have h2 := asc_len us
  refine ⟨by simp [setOk, i1]; omega, fun n => ?_⟩
  rw [i3 n]
  congr 1
  exact propext (asc_mem us n)
theorem setAdd_next {us : List Int} {u : Int} (hb : ∀ x ∈ us ++ [u], 1 ≤ x ∧ x ≤ 9999) (hl : us.length < 40) : setAdd (sAdds us) u u = (sAdds (us ++ [u]), true) := by
  obtain ⟨a1, a2⟩ := sAdds_right (us := us) (fun x hx => hb x (by simp [hx])) (by omega)
  obtain ⟨b1, b2⟩ := sAdds_right (us := us ++ [u]) hb (by simp; omega)
  refine setAdd_eq a1 b1 (hb u (by simp)) fun n => ?_
  rw [a2 n, b2 n, Bool.eq_iff_iff]
  simp only [Bool.or_eq_true, decide_eq_true_eq, List.mem_append, List.mem_singleton]
  simp [within]
  constructor
  · rintro (h | h)
    · exact .inl h
    · right; omega
  · rintro (h | h)
    · exact .inl h
    · right; omega
theorem setAdd_bad {S : List Range} {u : Int} (hu : ¬ (1 ≤ u ∧ u ≤ 9999)) : setAdd S u u = (S, false) := by
  unfold setAdd
  rw [if_neg (fun h => hu ⟨h.2.1, h.2.2.2⟩)]
/-- The Uids at these places. -/
def picked (s : List Range) (us : List Int) : List Int := (us.zipIdx.filter fun p => setHas s ((p.2 : Int) + 1)).map (·.1)
theorem picked_next (s : List Range) (us : List Int) (i : Nat) (h : i < us.length) : picked s (us.take (i + 1)) = picked s (us.take i) ++ (if setHas s ((i : Int) + 1) = true then [us[i]] else []) := by
  rw [List.take_succ_eq_append_getElem h]
  unfold picked
  rw [List.zipIdx_append, List.filter_append, List.map_append]
  congr 1
  simp only [List.length_take, Nat.min_eq_left (Nat.le_of_lt h), List.zipIdx_cons, List.zipIdx_nil, Nat.zero_add]
  cases hh : setHas s ((i : Int) + 1) <;> simp [hh]
theorem picked_len (s : List Range) (us : List Int) : (picked s us).length ≤ us.length := by
  unfold picked
  rw [List.length_map]
  refine Nat.le_trans (List.length_filter_le ..) ?_
  simp
theorem picked_mem {s : List Range} {us : List Int} {u : Int} (h : u ∈ picked s us) : u ∈ us := by
  unfold picked at h
  obtain ⟨p, hp, rfl⟩ := List.mem_map.1 h
  have := (List.mem_filter.1 hp).1
  exact List.fst_mem_of_mem_zipIdx this
def fineU (us : List Int) : Bool := us.all fun u => within u 1 9999
theorem fineU_iff (us : List Int) : fineU us = true ↔ ∀ u ∈ us, 1 ≤ u ∧ u ≤ 9999 := by
  simp [fineU, List.all_eq_true, within]
def uidSet (v : View) (s : List Range) : List Range × Bool := if setOk s = true ∧ fineU (picked s v.uids) = true then (sAdds (picked s v.uids), true) else ([], false)
end Go.Proofs.YtoeadcefgpkdcaaGreat
