/- Copies that take lines: pieces of the program's CacheTake. -/
import Derived.Test.YtfboojamiabmcaacA3
import Derived.Test.YtfboojamiabmcaacD15
import Derived.Test.YtfboojamiabmcaacG1
import Derived.Test.YtfboojamiabmcaacD2
set_option linter.unusedSectionVars false
set_option linter.all false
set_option linter.unusedVariables false
set_option linter.unusedSimpArgs false
set_option maxRecDepth 100000
namespace Go.Proofs.Ytfboojamiabmcaa
open Go.Lft

theorem eq_IndexFuncSeen (xs : List Seen) (f : Nat) (x : D) (p : Seen → Bool) (hmd : E.md f = []) (hf : ∀ m ∈ xs, lim E f [encSeen m, .pto x] = some (.bool (p m), [])) (hl : xs.length ≤ 16777216) : lim E 99 [.lst false 103 3 (xs.map encSeen), .fn f [.pto x]] = some (.int .i64 (idxOf p xs), []) := by
  refine lim_run (E := E) rfl Try.func99 rfl (by kernel_rfl) (by kernel_rfl) ?_
  simp [Try.f99, tmpAt]
  refine loop_fr [0, 1, 7] [] (fun m st => ∃ (i : Nat), i + m = xs.length ∧ (xs.take i).any p = false ∧ st.env 8 = .int .i64 i) (xs.length) _ ?_ ?_
  · exact ⟨0, by simp⟩
  rintro m0 ⟨env, rs⟩ hU0 hV0 ⟨i, hi, hs, e0_8⟩ ih0; simp at hU0 e0_8; clear hV0
  have hw := wrap_up (show i < 4611686018427387904 by omega)
  simp [hU0, e0_8]
  refine RB_dec ?_ ?_ <;> intro h
  · have w := hf xs[i] (List.getElem_mem h)
    simp at w
    simp [hU0, e0_8, h, hmd, w]
    refine RB_split ?_ ?_ <;> intro h2 <;> simp [hU0, e0_8, h]
    · exact (idxOf_at h hs h2).symm
    · refine ih0 (m0 - 1) _ (by omega) ?_ ?_ ⟨i + 1, by omega, any_next h hs h2, ?_⟩
      · simp [hU0, e0_8]
      · simp [hU0, e0_8]
      simp [hU0, e0_8, hw]
  · simp [hU0, e0_8, h]
    exact (idxOf_none (any_take h hs)).symm
set_option maxHeartbeats 1000000 in
theorem eq_DeleteFuncSeen (xs : List Seen) (f : Nat) (x : D) (p : Seen → Bool) (hmd : E.md f = []) (hf : ∀ m ∈ xs, lim E f [encSeen m, .pto x] = some (.bool (p m), [])) (hl : xs.length ≤ 16777216) : lim E 75 [.lst true 103 3 (xs.map encSeen), .fn f [.pto x]] = some (.lst true 103 3 ((xs.filter (fun m => !p m)).map encSeen), [.undef]) := by
  have w := eq_IndexFuncSeen xs f x p hmd hf hl
  cases hany : xs.any p with
  | false =>
    rw [idxOf_none hany] at w
    try simp at w
    rw [filter_none hany]
    refine lim_run (E := E) rfl Try.func75 rfl (by kernel_rfl) (by kernel_rfl) ?_
    simp [Try.f75, tmpAt, w]
  | true =>
    obtain ⟨i, hi, he, ht, hp⟩ := idxOf_some hany
    rw [he] at w
    try simp at w
    have hne : ¬ (i : Int) = -1 := by omega
    have hw0 : IntKind.i64.wrap ((i : Int) + 1) = ((i + 1 : Nat) : Int) := wrap_up (show i < 4611686018427387904 by omega)
    refine lim_run (E := E) rfl Try.func75 rfl (by kernel_rfl) (by kernel_rfl) ?_
    simp [Try.f75, tmpAt, w, hne, hw0]
    refine loop_fr [0, 1] [] (fun m st => ∃ (j : Nat) (L : List Seen), j + m = xs.length ∧ L = (xs.take j).filter (fun m => !p m) ∧ i < j ∧ st.env 5 = .int .i64 L.length ∧ st.env 6 = .int .i64 j ∧ st.rs (0,99) = some ⟨false, .lst true 103 3 (L.map encSeen ++ (xs.map encSeen).drop L.length)⟩) ((xs.length - (i + 1))) _ ?_ ?_
    · refine ⟨i + 1, (xs.take (i + 1)).filter (fun m => !p m), by omega, rfl, by omega, ?_⟩
      have hk := keep_next p xs i hi
      rw [filter_none ht, if_pos hp, List.append_nil] at hk
      rw [hk]
      have hlen : (xs.take i).length = i := by simp; omega
      simp [hlen]
    rintro m0 ⟨env, rs⟩ hU0 hV0 ⟨j, L, hj, hL, hij, e0_5, e0_6, r0_0_99⟩ ih0; simp at hU0 e0_5 e0_6 r0_0_99; clear hV0
    have hLl : L.length < j := by rw [hL]; exact keep_lt hi hp hij (by omega)
    have hw := wrap_up (show j < 4611686018427387904 by omega)
    have hw2 := wrap_up (show L.length < 4611686018427387904 by omega)
    simp [hU0, e0_5, e0_6, r0_0_99]
    refine RB_dec ?_ ?_ <;> intro h
    · have hn := keep_next p xs j h
      have hw3 := hf xs[j] (List.getElem_mem h)
      try simp at hw3
      have hg := over_get encSeen L xs j h (by omega)
      have hlt2 : L.length < xs.length := by omega
      have hset := over_set encSeen L xs xs[j] hlt2
      have hlt3 : j < L.length + (xs.length - L.length) := by omega
      have hlt4 : L.length < L.length + (xs.length - L.length) := by omega
      have hlt5 : L.length ≤ j := by omega
      have hlen1 : L.length + (xs.length - L.length) = xs.length := by omega
      simp at hg hset
      cases hc : p xs[j]
      · rw [if_neg (by simp [hc])] at hn
        simp [hU0, e0_5, e0_6, r0_0_99, h, hmd, hw3, hg, hc, hlen1, hlt2, hset, hw2]
        refine ih0 (m0 - 1) _ (by omega) ?_ ?_ ⟨j + 1, L ++ [xs[j]], by omega, by rw [hL, hn], by omega, ?_⟩
        · simp [hU0, e0_5, e0_6, r0_0_99, h]
        · simp [hU0, e0_5, e0_6, r0_0_99, h]
        simp [hU0, e0_5, e0_6, r0_0_99, hw]
      · rw [if_pos hc, List.append_nil] at hn
        simp [hU0, e0_5, e0_6, r0_0_99, h, hmd, hw3, hg, hc, hlen1]
        refine ih0 (m0 - 1) _ (by omega) ?_ ?_ ⟨j + 1, L, by omega, by rw [hL, hn], by omega, ?_⟩
        · simp [hU0, e0_5, e0_6, r0_0_99, h]
        · simp [hU0, e0_5, e0_6, r0_0_99, h]
        simp [hU0, e0_5, e0_6, r0_0_99, hw]
    · have hfull : xs.take j = xs := List.take_of_length_le (by omega)
      rw [hfull] at hL
      have hlt5 : L.length ≤ xs.length := by omega
      have hlen1 : L.length + (xs.length - L.length) = xs.length := by omega
      simp [hU0, e0_5, e0_6, r0_0_99, h, hlen1, hlt5]
      rw [← hL]
      simp [hU0, e0_5, e0_6, r0_0_99, clearEff, hlen1, hlt5]
theorem eq_InsertSeen (xs : List Seen) (b : Seen) (i : Int) (h1 : 0 ≤ i) (h2 : i ≤ xs.length) (h3 : xs.length ≤ 16777216) : lim E 101 [.lst true 103 3 (xs.map encSeen), .int .i64 i, .lst true 103 3 [encSeen b]] = some (.lst true 103 3 ((xs.take i.toNat ++ [b] ++ xs.drop i.toNat).map encSeen), [.undef, .undef]) := by
  rw [lim_ext ext101]
  simp [extInsert, h1, h2, h3]
def putS (l : List Seen) (x : Seen) : List Seen := (l.filter fun y => !decide (y.uid = x.uid)).takeWhile (fun y => decide (y.uid < x.uid)) ++ [x] ++ (l.filter fun y => !decide (y.uid = x.uid)).dropWhile (fun y => decide (y.uid < x.uid))
@[simp] theorem eq_putSeen1 (a x : Seen) : lim E 100 [encSeen a, .pto (encSeen x)] = some (.bool (decide (a.uid = x.uid)), []) := by
  refine lim_run (E := E) rfl Try.func100 rfl (by kernel_rfl) (by kernel_rfl) ?_
  simp [Try.f100, tmpAt]
theorem while_len {α : Type} (p : α → Bool) (xs : List α) (i : Nat) (hi : i ≤ xs.length) (h : (xs.take i).all p = true) (hn : ∀ (h : i < xs.length), p xs[i] = false) : xs.takeWhile p = xs.take i ∧ xs.dropWhile p = xs.drop i := by
  induction xs generalizing i with
  | nil => simp
  | cons x xs ih =>
    cases i with
    | zero =>
      have := hn (by simp)
      simp at this
      simp [this]
    | succ i =>
      simp only [List.take_succ_cons, List.all_cons, Bool.and_eq_true] at h
      obtain ⟨e1, e2⟩ := ih i (by simpa using hi) h.2 fun hh => by have := hn (by simpa using hh); simpa using this
      simp [h.1, e1, e2]
set_option maxHeartbeats 1000000 in
theorem eq_putSeen (l : List Seen) (x : Seen) (h : l.length ≤ 1048576) : lim E 78 [.lst false 103 3 (l.map encSeen), encSeen x] = some (.lst true 103 3 ((putS l x).map encSeen), []) := by
  have w1 := eq_copySeens l (by omega)
  have w2 := eq_DeleteFuncSeen l 100 (encSeen x) (fun y => decide (y.uid = x.uid)) rfl (fun m _ => eq_putSeen1 m x) (by omega)
  try simp at w2
  have hP : putS l x = (l.filter fun y => !decide (y.uid = x.uid)).takeWhile (fun y => decide (y.uid < x.uid)) ++ [x] ++ (l.filter fun y => !decide (y.uid = x.uid)).dropWhile (fun y => decide (y.uid < x.uid)) := rfl
  have hlen : (l.filter fun y => !decide (y.uid = x.uid)).length ≤ l.length := List.length_filter_le ..
  rw [hP]
  clear hP
  generalize hF : (l.filter fun y => !decide (y.uid = x.uid)) = F at *
  have bb : ∀ j : Nat, j ≤ 1048576 → (j + 1) * 24 ≤ 140737488351232 := fun j hj => by omega
  refine lim_run (E := E) rfl Try.func78 rfl (by kernel_rfl) (by kernel_rfl) ?_
  simp [Try.f78, tmpAt, w1, w2]
  refine loop_fr [3, 5] [(3,0), (10,0)] (fun m st => ∃ (i : Nat), i + m = F.length ∧ (F.take i).all (fun y => decide (y.uid < x.uid)) = true ∧ st.env 6 = .int .i64 i) (F.length) _ ?_ ?_
  · exact ⟨0, by simp⟩
  rintro m0 ⟨env, rs⟩ hU0 hV0 ⟨i, hi, ha, e0_6⟩ ih0; simp at hU0 hV0 e0_6
  have hu := wrap_up (show i < 4611686018427387904 by omega)
  have fin : (∀ (h : i < F.length), decide (F[i].uid < x.uid) = false) → F.takeWhile (fun y => decide (y.uid < x.uid)) = F.take i ∧ F.dropWhile (fun y => decide (y.uid < x.uid)) = F.drop i := fun hn => while_len _ F i (by omega) ha hn
  have wI := eq_InsertSeen F x (i : Int) (by omega) (by omega) (by omega)
  try simp at wI
  by_cases h : i < F.length
  · by_cases g : F[i].uid < x.uid
    · simp [hU0, hV0, e0_6, h, g, tmpAt, hu]
      refine ih0 (m0 - 1) _ (by omega) ?_ ?_ ⟨i + 1, by omega, all_next h ha (by simpa using g), ?_⟩
      · simp [hU0, hV0, e0_6]
      · simp [hU0, hV0, e0_6]
      simp [hU0, hV0, e0_6, hu]
    · obtain ⟨f1, f2⟩ := fin fun _ => by simpa using g
      rw [f1, f2]
      simp [hU0, hV0, e0_6, h, g, tmpAt, wI]
  · obtain ⟨f1, f2⟩ := fin fun hh => absurd hh h
    rw [f1, f2]
    simp [hU0, hV0, e0_6, h, tmpAt, wI]
end Go.Proofs.Ytfboojamiabmcaa
