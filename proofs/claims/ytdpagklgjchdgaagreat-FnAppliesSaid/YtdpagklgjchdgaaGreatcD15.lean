/- Rows: what is deleted by a function. -/
import Derived.Test.YtdpagklgjchdgaaGreatcD14
set_option linter.unusedSectionVars false
set_option linter.all false
set_option linter.unusedVariables false
set_option linter.unusedSimpArgs false
set_option maxRecDepth 100000
namespace Go.Proofs.YtdpagklgjchdgaaGreat
open Go.Lft

theorem idxOf_some {α : Type} {p : α → Bool} {xs : List α} (h : xs.any p = true) : ∃ i, ∃ hi : i < xs.length, idxOf p xs = (i : Int) ∧ (xs.take i).any p = false ∧ p xs[i] = true := by
  cases hf : xs.findIdx? p with
  | none =>
    rw [List.findIdx?_eq_none_iff] at hf
    rw [List.any_eq_true] at h
    obtain ⟨x, hx, hp⟩ := h
    rw [hf x hx] at hp; cases hp
  | some i =>
    have := hf
    rw [List.findIdx?_eq_some_iff_getElem] at this
    obtain ⟨hi, hp, hj⟩ := this
    refine ⟨i, hi, by simp [idxOf, hf], ?_, hp⟩
    rw [List.any_eq_false]
    intro x hx
    rw [List.mem_take_iff_getElem] at hx
    obtain ⟨j, hj2, rfl⟩ := hx
    have := hj j (by omega)
    simpa using this
theorem filter_none {α : Type} {p : α → Bool} {xs : List α} (h : xs.any p = false) : xs.filter (fun x => !p x) = xs := by
  rw [List.filter_eq_self]
  intro x hx
  rw [List.any_eq_false] at h
  simpa using h x hx
theorem keep_next {α : Type} (p : α → Bool) (xs : List α) (j : Nat) (h : j < xs.length) : (xs.take (j + 1)).filter (fun x => !p x) = (xs.take j).filter (fun x => !p x) ++ (if p xs[j] = true then [] else [xs[j]]) := by
  rw [take_filter _ _ _ h]
  congr 1
  cases p xs[j] <;> simp
theorem keep_lt {α : Type} {p : α → Bool} {xs : List α} {i j : Nat} (hi : i < xs.length) (hp : p xs[i] = true) (hij : i < j) (hj : j ≤ xs.length) : ((xs.take j).filter (fun x => !p x)).length < j := by
  have h1 : ((xs.take j).filter (fun x => !p x)).length < (xs.take j).length := by
    rw [List.length_filter_lt_length_iff_exists]
    exact ⟨xs[i], by rw [List.mem_take_iff_getElem]; exact ⟨i, by omega, rfl⟩, by simp [hp]⟩
  rw [List.length_take] at h1
  omega
theorem over_set {α : Type} (f : α → D) (L xs : List α) (v : α) (h : L.length < xs.length) : (L.map f ++ (xs.map f).drop L.length).set L.length (f v) = L.map f ++ f v :: (xs.map f).drop (L.length + 1) := by
  rw [List.set_append_right _ _ (by simp), List.length_map, Nat.sub_self, List.drop_eq_getElem_cons (by simpa using h)]
  simp only [List.set_cons_zero]
theorem over_get {α : Type} (f : α → D) (L xs : List α) (j : Nat) (h : j < xs.length) (hl : L.length ≤ j) (h' : j < (L.map f ++ (xs.map f).drop L.length).length) : (L.map f ++ (xs.map f).drop L.length)[j] = f xs[j] := by
  rw [List.getElem_append_right (by simpa using hl)]
  simp only [List.length_map, List.getElem_map, List.getElem_drop]
  congr 2
  omega
set_option maxHeartbeats 1000000 in
theorem eq_DeleteFuncMail (xs : List Mail) (f : Nat) (x : D) (p : Mail → Bool) (hmd : E.md f = []) (hf : ∀ m ∈ xs, lim E f [encMail m, .pto x] = some (.bool (p m), [])) (hl : xs.length ≤ 16777216) : lim E 81 [.lst true 62 4 (xs.map encMail), .fn f [.pto x]] = some (.lst true 62 4 ((xs.filter (fun m => !p m)).map encMail), [.undef]) := by
  have w := eq_IndexFuncMail xs f x p hmd hf hl
  cases hany : xs.any p with
  | false =>
    rw [idxOf_none hany] at w
    try simp at w
    rw [filter_none hany]
    refine lim_run (E := E) rfl Tryz.func81 rfl (by kernel_rfl) (by kernel_rfl) ?_
    simp [Tryz.f81, tmpAt, w]
  | true =>
    obtain ⟨i, hi, he, ht, hp⟩ := idxOf_some hany
    rw [he] at w
    try simp at w
    have hne : ¬ (i : Int) = -1 := by omega
    have hw0 : IntKind.i64.wrap ((i : Int) + 1) = ((i + 1 : Nat) : Int) := wrap_up (show i < 4611686018427387904 by omega)
    refine lim_run (E := E) rfl Tryz.func81 rfl (by kernel_rfl) (by kernel_rfl) ?_
    simp [Tryz.f81, tmpAt, w, hne, hw0]
    refine loop_fr [0, 1] [] (fun m st => ∃ (j : Nat) (L : List Mail), j + m = xs.length ∧ L = (xs.take j).filter (fun m => !p m) ∧ i < j ∧ st.env 5 = .int .i64 L.length ∧ st.env 6 = .int .i64 j ∧ st.rs (0,99) = some ⟨false, .lst true 62 4 (L.map encMail ++ (xs.map encMail).drop L.length)⟩) ((xs.length - (i + 1))) _ ?_ ?_
    · refine ⟨i + 1, (xs.take (i + 1)).filter (fun m => !p m), by omega, rfl, by omega, ?_⟩
      have hk := keep_next p xs i hi
      rw [filter_none ht, if_pos hp, List.append_nil] at hk
      rw [hk]
      have hlen : (xs.take i).length = i := by simp; omega
      simp [hlen]
    rintro m0 ⟨env, rs⟩ hU0 hV0 ⟨j, L, hj, hL, hij, e0_5, e0_6, r0_0_99⟩ ih0; simp at hU0 e0_5 e0_6 r0_0_99; clear hV0
    have hLl : L.length < j := by rw [hL]; exact keep_lt hi hp hij (by omega)
    have hw := wrap_up (show j < 4611686018427387904 by omega)
    have hw2 := wrap_up (show L.length < 4611686018427387904 by omega)
    simp [hU0, e0_5, e0_6, r0_0_99]
    refine RB_dec ?_ ?_ <;> intro h
    · have hn := keep_next p xs j h
      have hw3 := hf xs[j] (List.getElem_mem h)
      try simp at hw3
      have hg := over_get encMail L xs j h (by omega)
      have hlt2 : L.length < xs.length := by omega
      have hset := over_set encMail L xs xs[j] hlt2
      have hlt3 : j < L.length + (xs.length - L.length) := by omega
      have hlt4 : L.length < L.length + (xs.length - L.length) := by omega
      have hlt5 : L.length ≤ j := by omega
      have hlen1 : L.length + (xs.length - L.length) = xs.length := by omega
      simp at hg hset
      cases hc : p xs[j]
      · rw [if_neg (by simp [hc])] at hn
        simp [hU0, e0_5, e0_6, r0_0_99, h, hmd, hw3, hg, hc, hlen1, hlt2, hset, hw2]
        refine ih0 (m0 - 1) _ (by omega) ?_ ?_ ⟨j + 1, L ++ [xs[j]], by omega, by rw [hL, hn], by omega, ?_⟩
        · simp [hU0, e0_5, e0_6, r0_0_99, h]
        · simp [hU0, e0_5, e0_6, r0_0_99, h]
        simp [hU0, e0_5, e0_6, r0_0_99, hw]
      · rw [if_pos hc, List.append_nil] at hn
        simp [hU0, e0_5, e0_6, r0_0_99, h, hmd, hw3, hg, hc, hlen1]
        refine ih0 (m0 - 1) _ (by omega) ?_ ?_ ⟨j + 1, L, by omega, by rw [hL, hn], by omega, ?_⟩
        · simp [hU0, e0_5, e0_6, r0_0_99, h]
        · simp [hU0, e0_5, e0_6, r0_0_99, h]
        simp [hU0, e0_5, e0_6, r0_0_99, hw]
    · have hfull : xs.take j = xs := List.take_of_length_le (by omega)
      rw [hfull] at hL
      have hlt5 : L.length ≤ xs.length := by omega
      have hlen1 : L.length + (xs.length - L.length) = xs.length := by omega
      simp [hU0, e0_5, e0_6, r0_0_99, h, hlen1, hlt5]
      rw [← hL]
      simp [hU0, e0_5, e0_6, r0_0_99, clearEff, hlen1, hlt5]
set_option maxHeartbeats 1000000 in
theorem eq_DeleteFuncTomb (xs : List Tomb) (f : Nat) (x : D) (p : Tomb → Bool) (hmd : E.md f = []) (hf : ∀ m ∈ xs, lim E f [encTomb m, .pto x] = some (.bool (p m), [])) (hl : xs.length ≤ 16777216) : lim E 82 [.lst true 101 2 (xs.map encTomb), .fn f [.pto x]] = some (.lst true 101 2 ((xs.filter (fun m => !p m)).map encTomb), [.undef]) := by
  have w := eq_IndexFuncTomb xs f x p hmd hf hl
  cases hany : xs.any p with
  | false =>
    rw [idxOf_none hany] at w
    try simp at w
    rw [filter_none hany]
    refine lim_run (E := E) rfl Tryz.func82 rfl (by kernel_rfl) (by kernel_rfl) ?_
    simp [Tryz.f82, tmpAt, w]
  | true =>
    obtain ⟨i, hi, he, ht, hp⟩ := idxOf_some hany
    rw [he] at w
    try simp at w
    have hne : ¬ (i : Int) = -1 := by omega
    have hw0 : IntKind.i64.wrap ((i : Int) + 1) = ((i + 1 : Nat) : Int) := wrap_up (show i < 4611686018427387904 by omega)
    refine lim_run (E := E) rfl Tryz.func82 rfl (by kernel_rfl) (by kernel_rfl) ?_
    simp [Tryz.f82, tmpAt, w, hne, hw0]
    refine loop_fr [0, 1] [] (fun m st => ∃ (j : Nat) (L : List Tomb), j + m = xs.length ∧ L = (xs.take j).filter (fun m => !p m) ∧ i < j ∧ st.env 5 = .int .i64 L.length ∧ st.env 6 = .int .i64 j ∧ st.rs (0,99) = some ⟨false, .lst true 101 2 (L.map encTomb ++ (xs.map encTomb).drop L.length)⟩) ((xs.length - (i + 1))) _ ?_ ?_
    · refine ⟨i + 1, (xs.take (i + 1)).filter (fun m => !p m), by omega, rfl, by omega, ?_⟩
      have hk := keep_next p xs i hi
      rw [filter_none ht, if_pos hp, List.append_nil] at hk
      rw [hk]
      have hlen : (xs.take i).length = i := by simp; omega
      simp [hlen]
    rintro m0 ⟨env, rs⟩ hU0 hV0 ⟨j, L, hj, hL, hij, e0_5, e0_6, r0_0_99⟩ ih0; simp at hU0 e0_5 e0_6 r0_0_99; clear hV0
    have hLl : L.length < j := by rw [hL]; exact keep_lt hi hp hij (by omega)
    have hw := wrap_up (show j < 4611686018427387904 by omega)
    have hw2 := wrap_up (show L.length < 4611686018427387904 by omega)
    simp [hU0, e0_5, e0_6, r0_0_99]
    refine RB_dec ?_ ?_ <;> intro h
    · have hn := keep_next p xs j h
      have hw3 := hf xs[j] (List.getElem_mem h)
      try simp at hw3
      have hg := over_get encTomb L xs j h (by omega)
      have hlt2 : L.length < xs.length := by omega
      have hset := over_set encTomb L xs xs[j] hlt2
      have hlt3 : j < L.length + (xs.length - L.length) := by omega
      have hlt4 : L.length < L.length + (xs.length - L.length) := by omega
      have hlt5 : L.length ≤ j := by omega
      have hlen1 : L.length + (xs.length - L.length) = xs.length := by omega
      simp at hg hset
      cases hc : p xs[j]
      · rw [if_neg (by simp [hc])] at hn
        simp [hU0, e0_5, e0_6, r0_0_99, h, hmd, hw3, hg, hc, hlen1, hlt2, hset, hw2]
        refine ih0 (m0 - 1) _ (by omega) ?_ ?_ ⟨j + 1, L ++ [xs[j]], by omega, by rw [hL, hn], by omega, ?_⟩
        · simp [hU0, e0_5, e0_6, r0_0_99, h]
        · simp [hU0, e0_5, e0_6, r0_0_99, h]
        simp [hU0, e0_5, e0_6, r0_0_99, hw]
      · rw [if_pos hc, List.append_nil] at hn
        simp [hU0, e0_5, e0_6, r0_0_99, h, hmd, hw3, hg, hc, hlen1]
        refine ih0 (m0 - 1) _ (by omega) ?_ ?_ ⟨j + 1, L, by omega, by rw [hL, hn], by omega, ?_⟩
        · simp [hU0, e0_5, e0_6, r0_0_99, h]
        · simp [hU0, e0_5, e0_6, r0_0_99, h]
        simp [hU0, e0_5, e0_6, r0_0_99, hw]
    · have hfull : xs.take j = xs := List.take_of_length_le (by omega)
      rw [hfull] at hL
      have hlt5 : L.length ≤ xs.length := by omega
      have hlen1 : L.length + (xs.length - L.length) = xs.length := by omega
      simp [hU0, e0_5, e0_6, r0_0_99, h, hlen1, hlt5]
      rw [← hL]
      simp [hU0, e0_5, e0_6, r0_0_99, clearEff, hlen1, hlt5]
@[simp] theorem eq_ForgetTombs1 (t : Tomb) (u : Int) : lim E 116 [.agg [.int .i64 t.uid, .int .i64 t.mod], .pto (.int .i64 u)] = some (.bool (decide (t.mod ≤ u)), []) := by
  refine lim_run (E := E) rfl Tryz.func116 rfl (by kernel_rfl) (by kernel_rfl) ?_
  simp [Tryz.f116, tmpAt]
theorem eq_ForgetTombs (b : Box) (upto : Int) (hs : szBox b ≤ 16777200) : lim E 103 [encBox false false b, .int .i64 upto] = some (encBox false true (forget b upto), []) := by
  have hz : szBox b = b.name.length + (b.mails.length + tot (fun (y : Mail) => szMail y) b.mails) + b.tombs.length := rfl
  have w1 := eq_BoxOk b (by omega)
  try simp at w1
  have w2 := eq_copyBox b (by omega)
  try simp at w2
  have w3 := eq_DeleteFuncTomb b.tombs 116 (.int .i64 upto) (fun t => decide (t.mod ≤ upto)) rfl (fun m _ => by simp) (by omega)
  try simp at w3
  by_cases hok : boxOk b = true ∧ within upto 0 b.mod = true
  · have hf : forget b upto = forgot b upto := by simp [forget, hok]
    rw [hf]
    refine lim_run (E := E) rfl Tryz.func103 rfl (by kernel_rfl) (by kernel_rfl) ?_
    simp [Tryz.f103, tmpAt, w1, w2, w3, hok.1, hok.2]
    have e : (fun m : Tomb => !decide (m.mod ≤ upto)) = fun t => decide (upto < t.mod) := by funext m; rw [Bool.eq_iff_iff]; simp
    simp [forgot, e]
  · have hf : forget b upto = b := by simp only [forget, if_neg hok]
    rw [hf]
    refine lim_run (E := E) rfl Tryz.func103 rfl (by kernel_rfl) (by kernel_rfl) ?_
    simp [Tryz.f103, tmpAt, w1, w2, w3]
    repeat' first | (refine RT_dec ?_ ?_ <;> intro hg <;> try simp [tmpAt, hg, w1, w2, w3]) | (refine RT_split ?_ ?_ <;> intro hg <;> (try simp at hg) <;> try simp [tmpAt, hg, w1, w2, w3]) | (refine RB_dec ?_ ?_ <;> intro hg <;> try simp [tmpAt, hg, w1, w2, w3]) | (refine RB_ndec ?_ ?_ <;> intro hg <;> try simp [tmpAt, hg, w1, w2, w3]) | (refine RB_split ?_ ?_ <;> intro hg <;> (try simp at hg) <;> try simp [tmpAt, hg, w1, w2, w3]) | (refine RG_dec ?_ ?_ <;> intro hg <;> try simp [tmpAt, hg, w1, w2, w3]) | (refine RG_split ?_ ?_ <;> intro hg <;> (try simp at hg) <;> try simp [tmpAt, hg, w1, w2, w3])
    all_goals (exfalso; simp_all)
end Go.Proofs.YtdpagklgjchdgaaGreat
