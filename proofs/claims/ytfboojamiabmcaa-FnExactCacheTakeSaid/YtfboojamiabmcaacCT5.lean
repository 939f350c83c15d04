/- Copies that take lines: CacheTake of the reference; both are the same. -/
import Derived.Test.YtfboojamiabmcaacCT4
import Derived.Test.YtfboojamiabmcaacP0
set_option linter.unusedSectionVars false
set_option linter.all false
set_option linter.unusedVariables false
set_option linter.unusedSimpArgs false
set_option maxRecDepth 100000
namespace Go.Proofs.Ytfboojamiabmcaa
open Go.Lft

theorem takeS_len (c : Cache) (x : Line) : (takeS c x).seens.length ≤ 2 * c.seens.length + 1 := by
  unfold takeS
  split
  · simp only; split
    · simp
    · omega
  · split
    · have := List.length_filter_le (fun y : Seen => !setHas x.set_ y.uid) c.seens
      simp only; omega
    · split
      · have h1 := List.length_filter_le (fun y : Seen => decide (y.uid < x.uid)) c.seens
        have h2 := List.length_filter_le (fun y : Seen => decide (x.uid < y.uid)) c.seens
        simp only [List.length_append, List.length_cons, List.length_nil]; omega
      · omega
theorem filt_two (u : Int) : ∀ (l : List Seen), (l.filter fun y => decide (y.uid < u)).length + (l.filter fun y => decide (u < y.uid)).length ≤ l.length
  | [] => Nat.le_refl _
  | y :: l => by
    have := filt_two u l
    by_cases h1 : y.uid < u
    · have h2 : ¬ u < y.uid := by omega
      simp [List.filter_cons, h1, h2]; omega
    · by_cases h2 : u < y.uid
      · simp [List.filter_cons, h1, h2]; omega
      · simp [List.filter_cons, h1, h2]; omega
theorem takeS_len1 (c : Cache) (x : Line) : (takeS c x).seens.length ≤ c.seens.length + 1 ∧ (takeS c x).box = c.box := by
  unfold takeS
  split
  · refine ⟨?_, rfl⟩
    simp only; split
    · simp
    · omega
  · split
    · exact ⟨Nat.le_succ_of_le (List.length_filter_le ..), rfl⟩
    · split
      · have := filt_two x.uid c.seens
        refine ⟨?_, rfl⟩
        simp only [List.length_append, List.length_cons, List.length_nil]; omega
      · exact ⟨by omega, rfl⟩
def takesS (c : Cache) (xs : List Line) : Cache := xs.foldl takeS c
theorem takesS_next (c : Cache) (xs : List Line) (i : Nat) (h : i < xs.length) : takesS c (xs.take (i + 1)) = takeS (takesS c (xs.take i)) xs[i] := by
  unfold takesS
  rw [List.take_succ_eq_append_getElem h, List.foldl_append]
  rfl
theorem takesS_len (c : Cache) : ∀ (xs : List Line), (takesS c xs).seens.length ≤ c.seens.length + xs.length ∧ (takesS c xs).box = c.box := by
  intro xs
  induction xs generalizing c with
  | nil => exact ⟨Nat.le_refl _, rfl⟩
  | cons x xs ih =>
    have h1 := takeS_len1 c x
    have h2 := ih (takeS c x)
    unfold takesS at h2 ⊢
    simp only [List.foldl_cons, List.length_cons]
    exact ⟨by omega, by rw [h2.2, h1.2]⟩
/-! ### The plain law -/
def upS (l : List Seen) : Prop := l.Pairwise fun a b => a.uid < b.uid
theorem up_of_ok {c : Cache} (h : cacheOk c = true) : upS c.seens := by
  unfold cacheOk at h
  rw [Bool.and_eq_true, decide_eq_true_eq] at h
  refine pairwise_of_next (fun a b c h1 h2 => by omega) fun k hk => ?_
  have := h.1 (k + 1) c.seens[k + 1] hk (List.getElem?_eq_getElem hk)
  unfold seenOk at this
  rw [prevOf_succ (by omega)] at this
  simp only [Bool.and_eq_true, decide_eq_true_eq] at this
  exact this.1.1.2
theorem while_up {u : Int} : ∀ {l : List Seen}, upS l → l.takeWhile (fun y => decide (y.uid < u)) = l.filter (fun y => decide (y.uid < u)) ∧ l.dropWhile (fun y => decide (y.uid < u)) = l.filter (fun y => !decide (y.uid < u))
  | [], _ => ⟨rfl, rfl⟩
  | y :: l, h => by
    unfold upS at h
    rw [List.pairwise_cons] at h
    obtain ⟨h1, h2⟩ := while_up (u := u) h.2
    by_cases hy : y.uid < u
    · simp [List.takeWhile_cons, List.dropWhile_cons, List.filter_cons, hy] at h1 h2 ⊢
      exact ⟨h1, h2⟩
    · have hn : ∀ z ∈ l, ¬ z.uid < u := fun z hz => by have := h.1 z hz; omega
      have e1 : l.filter (fun y => decide (y.uid < u)) = [] := List.filter_eq_nil_iff.2 fun z hz => by simpa using hn z hz
      have e2 : l.filter (fun y => !decide (y.uid < u)) = l := List.filter_eq_self.2 fun z hz => by simpa using hn z hz
      simp only [List.takeWhile_cons, List.dropWhile_cons, List.filter_cons, hy, decide_false, e1, e2]
      simp
theorem put_same {l : List Seen} (h : upS l) (x : Seen) : putS l x = l.filter (fun y => decide (y.uid < x.uid)) ++ [x] ++ l.filter (fun y => decide (x.uid < y.uid)) := by
  have hF : upS (l.filter fun y => !decide (y.uid = x.uid)) := List.Pairwise.filter _ h
  obtain ⟨e1, e2⟩ := while_up (u := x.uid) hF
  unfold putS
  rw [e1, e2, List.filter_filter, List.filter_filter]
  congr 1
  · congr 1
    apply List.filter_congr
    intro y _
    by_cases hy : y.uid < x.uid
    · have : ¬ y.uid = x.uid := by omega
      simp [hy, this]
    · simp [hy]
  · apply List.filter_congr
    intro y _
    by_cases hy : x.uid < y.uid
    · have h1 : ¬ y.uid = x.uid := by omega
      have h2 : ¬ y.uid < x.uid := by omega
      simp [hy, h1, h2]
    · by_cases h1 : y.uid = x.uid
      · simp [h1]
      · have h2 : y.uid < x.uid := by omega
        simp [hy, h2]
theorem take_same {c : Cache} (h : upS c.seens) (x : Line) : takeI c x = takeS c x ∧ upS (takeS c x).seens := by
  unfold takeI takeS
  split
  · refine ⟨rfl, ?_⟩
    simp only; split
    · exact List.Pairwise.nil
    · exact h
  · split
    · exact ⟨rfl, List.Pairwise.filter _ h⟩
    · split
      · refine ⟨by rw [put_same h], ?_⟩
        simp only
        unfold upS
        rw [List.append_assoc, List.pairwise_append]
        refine ⟨List.Pairwise.filter _ h, ?_, ?_⟩
        · rw [List.singleton_append, List.pairwise_cons]
          refine ⟨fun z hz => ?_, List.Pairwise.filter _ h⟩
          have := (List.mem_filter.1 hz).2
          simpa using this
        · intro a ha b hb
          have h1 : a.uid < x.uid := by simpa using (List.mem_filter.1 ha).2
          rcases List.mem_append.1 hb with hb | hb
          · obtain rfl := List.mem_singleton.1 hb
            exact h1
          · have h2 : x.uid < b.uid := by simpa using (List.mem_filter.1 hb).2
            omega
      · exact ⟨rfl, h⟩
theorem takes_same {c : Cache} (h : upS c.seens) : ∀ (xs : List Line), takesI c xs = takesS c xs := by
  intro xs
  induction xs generalizing c with
  | nil => rfl
  | cons x xs ih =>
    obtain ⟨h1, h2⟩ := take_same h x
    unfold takesI takesS at ih ⊢
    simp only [List.foldl_cons]
    rw [h1]
    exact ih h2
theorem cacheTake_s (c : Cache) (xs : List Line) : cacheTake c xs = if cacheOk c = true ∧ cacheOk (takesS c xs) = true then takesS c xs else c := by
  unfold cacheTake
  by_cases h : cacheOk c = true
  · rw [takes_same (up_of_ok h)]
  · simp [h]
set_option maxHeartbeats 2000000 in
theorem eq_sCacheTake (c : Cache) (xs : List Line) (hc : szCache c ≤ 1048576) (hl : xs.length ≤ 1048576) (hcl : c.seens.length + xs.length ≤ 1048576) (hs : ∀ x ∈ xs, x.set_.length ≤ 16777216) : lim E 7 [encCache false false c, .lst false 73 7 (xs.map (encLine false false))] = some (encCache false true (cacheTake c xs), []) := by
  have hz : szCache c = c.box.length + c.seens.length := rfl
  have w1 := eq_l17Copy c (by omega)
  try simp at w1
  have w2 := eq_sCacheOk c (by omega)
  try simp at w2
  have hall := takesS_len c xs
  have hzT : szCache (takesS c xs) ≤ 16777216 := by
    have : szCache (takesS c xs) = (takesS c xs).box.length + (takesS c xs).seens.length := rfl
    rw [this, hall.2]; omega
  have w3 := eq_sCacheOk (takesS c xs) hzT
  try simp at w3
  have hbnd : ∀ i, (takesS c (xs.take i)).seens.length ≤ 1048576 := fun i => by
    have := (takesS_len c (xs.take i)).1
    rw [List.length_take] at this
    omega
  have hnx := takesS_next c xs
  rw [cacheTake_s]
  refine lim_run (E := E) rfl Try.func7 rfl (by kernel_rfl) (by kernel_rfl) ?_
  simp [Try.f7, tmpAt, w1]
  refine loop_fr [1, 2, 4, 5] [(2,0), (4,0)] (fun m st => ∃ (i : Nat) (c' : Cache), i + m = xs.length ∧ c' = takesS c (xs.take i) ∧ st.env 6 = .int .i64 i ∧ st.rs (5,0) = some ⟨true, encCache false true c'⟩) (xs.length) _ ?_ ?_
  · exact ⟨0, c, by simp [takesS]⟩
  rintro m0 ⟨env, rs⟩ hU0 hV0 ⟨i, c', hi, hc', e0_6, r0_5_0⟩ ih0; simp at hU0 hV0 e0_6 r0_5_0
  have hu := wrap_up (show i < 4611686018427387904 by omega)
  have hb := hbnd i
  rw [← hc'] at hb
  simp [hU0, hV0, e0_6, r0_5_0]
  refine RB_dec ?_ ?_ <;> intro h
  · have wt := eq_l17Line c' xs[i] (hs _ (List.getElem_mem h)) hb
    try simp at wt
    have hn := hnx i h
    rw [← hc'] at hn
    simp [hU0, hV0, e0_6, r0_5_0, h, hu, wt]
    refine ih0 (m0 - 1) _ (by omega) ?_ ?_ ⟨i + 1, takeS c' xs[i], by omega, hn.symm, ?_⟩
    · simp [hU0, hV0, e0_6, r0_5_0]
    · simp [hU0, hV0, e0_6, r0_5_0]
    simp [hU0, hV0, e0_6, r0_5_0, hu]
  · have hf : xs.take i = xs := List.take_of_length_le (by clear hu; omega)
    rw [hf] at hc'
    rw [← hc'] at w3 ⊢
    cases o1 : cacheOk c
    · rw [o1] at w2
      simp [hU0, hV0, e0_6, r0_5_0, h, tmpAt, w1, w2]
    · rw [o1] at w2
      cases o2 : cacheOk c'
      · rw [o2] at w3
        simp [hU0, hV0, e0_6, r0_5_0, h, tmpAt, w1, w2, w3]
      · rw [o2] at w3
        simp [hU0, hV0, e0_6, r0_5_0, h, tmpAt, w1, w2, w3]
end Go.Proofs.Ytfboojamiabmcaa
