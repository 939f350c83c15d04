/- Marks in what is seen, and in lines of whatever sets. -/
import Derived.Test.YtfboojamiabmcaacML
set_option linter.unusedSectionVars false
set_option linter.all false
set_option linter.unusedVariables false
set_option linter.unusedSimpArgs false
set_option maxRecDepth 100000
namespace Go.Proofs.Ytfboojamiabmcaa
open Go.Lft

def seenMark (k : Nat) (i : Nat) : Seen := ⟨(k : Int) + 3 * i, (k : Int) + 3 * i + 1, (k : Int) + 3 * i + 1 + 1⟩
set_option maxHeartbeats 1000000 in
theorem eq_markSeenS (xs : List Seen) (k : Nat) (hk : k ≤ 4194304) (hx : xs.length ≤ 1048576) : lim E 40 [.lst true 103 3 (xs.map encSeen), .int .i64 k] = some (.int .i64 ((k : Int) + 3 * xs.length), [.lst true 103 3 (((List.range xs.length).map (seenMark k)).map encSeen)]) := by
  refine lim_run (E := E) rfl Try.func40 rfl (by kernel_rfl) (by kernel_rfl) ?_
  simp [Try.f40, tmpAt]
  refine loop_fr [0] [] (fun m st => ∃ (i : Nat) (L : List Seen), i + m = xs.length ∧ L.length = xs.length ∧ markd (seenMark k) i L ∧ st.env 1 = .int .i64 ((k : Int) + 3 * i) ∧ st.env 5 = .int .i64 i ∧ st.rs (0,99) = some ⟨false, .lst true 103 3 (L.map encSeen)⟩) (xs.length) _ ?_ ?_
  · exact ⟨0, xs, by simp [markd_zero]⟩
  rintro m0 ⟨env, rs⟩ hU0 hV0 ⟨i, L, hi, hL, hm, e0_1, e0_5, r0_0_99⟩ ih0; simp at hU0 e0_1 e0_5 r0_0_99; clear hV0
  have hu := wrap_up (show i < 4611686018427387904 by omega)
  have hw1 : IntKind.i64.wrap ((k : Int) + 3 * i + 1) = k + 3 * i + 1 := wrap_in (by omega) (by omega)
  have hw2 : IntKind.i64.wrap ((k : Int) + 3 * i + 1 + 1) = k + 3 * i + 1 + 1 := wrap_in (by omega) (by omega)
  have hw3 : IntKind.i64.wrap ((k : Int) + 3 * i + 1 + 1 + 1) = k + 3 * i + 1 + 1 + 1 := wrap_in (by omega) (by omega)
  simp [hU0, e0_1, e0_5, r0_0_99, hL]
  refine RB_dec ?_ ?_ <;> intro h
  · simp [hU0, e0_1, e0_5, r0_0_99, h, hL, hu, hw1, hw2, hw3]
    refine ih0 (m0 - 1) _ (by omega) ?_ ?_ ⟨i + 1, L.set i (seenMark k i), by omega, by simp [hL], markd_next hm, ?_⟩
    · simp [hU0, e0_1, e0_5, r0_0_99]
    · simp [hU0, e0_1, e0_5, r0_0_99]
    simp [hU0, e0_1, e0_5, r0_0_99, hu, List.map_set, hL, seenMark]
    omega
  · have hLL := markd_all hm (by omega)
    rw [hL] at hLL
    obtain rfl : i = xs.length := by omega
    simp [hU0, e0_1, e0_5, r0_0_99, h, hL]
    rw [hLL]
    simp
set_option maxHeartbeats 1000000 in
theorem eq_heldSeenS (n k : Nat) (hk : k ≤ 4194304) (hx : n ≤ 1048576) : lim E 42 [.lst false 103 3 (((List.range n).map (seenMark k)).map encSeen), .int .i64 k] = some (.int .i64 ((k : Int) + 3 * n), []) := by
  have hg : ∀ i (h : i < n), (((List.range n).map (seenMark k)).map encSeen)[i]? = some (encSeen (seenMark k i)) := by
    intro i h
    simp [h]
  have hlen : (((List.range n).map (seenMark k)).map encSeen).length = n := by simp
  generalize ((List.range n).map (seenMark k)).map encSeen = X at *
  refine lim_run (E := E) rfl Try.func42 rfl (by kernel_rfl) (by kernel_rfl) ?_
  simp [Try.f42, tmpAt]
  refine loop_fr [0] [] (fun m st => ∃ (i : Nat), i + m = n ∧ st.env 1 = .int .i64 ((k : Int) + 3 * i) ∧ st.env 5 = .int .i64 i) (n) _ ?_ ?_
  · exact ⟨0, by simp⟩
  rintro m0 ⟨env, rs⟩ hU0 hV0 ⟨i, hi, e0_1, e0_5⟩ ih0; simp at hU0 e0_1 e0_5; clear hV0
  have hu := wrap_up (show i < 4611686018427387904 by omega)
  have hw1 : IntKind.i64.wrap ((k : Int) + 3 * i + 1) = k + 3 * i + 1 := wrap_in (by omega) (by omega)
  have hw2 : IntKind.i64.wrap ((k : Int) + 3 * i + 1 + 1) = k + 3 * i + 1 + 1 := wrap_in (by omega) (by omega)
  have hw3 : IntKind.i64.wrap ((k : Int) + 3 * i + 1 + 1 + 1) = k + 3 * i + 1 + 1 + 1 := wrap_in (by omega) (by omega)
  simp [hU0, e0_1, e0_5, hlen]
  refine RB_dec ?_ ?_ <;> intro h
  · have hgi : X[i]'(by omega) = encSeen (seenMark k i) := by
      have := hg i h
      rw [List.getElem?_eq_getElem (by omega)] at this
      exact Option.some.inj this
    simp [hU0, e0_1, e0_5, h, hlen, hgi, hu, hw1, hw2, hw3, seenMark]
    refine ih0 (m0 - 1) _ (by omega) ?_ ?_ ⟨i + 1, by omega, ?_⟩
    · simp [hU0, e0_1, e0_5]
    · simp [hU0, e0_1, e0_5]
    simp [hU0, e0_1, e0_5, hu]
    omega
  · obtain rfl : i = n := by omega
    simp [hU0, e0_1, e0_5, h]
theorem eq_heldCache (x : Cache) (n k : Nat) (hk : k ≤ 4194304) (hx : n ≤ 1048576) (hu : x.seens = (List.range n).map (seenMark k)) : lim E 15 [encCache false false x, .int .i64 k] = some (.int .i64 ((k : Int) + 3 * n), []) := by
  have w := eq_heldSeenS n k hk hx
  rw [← hu] at w
  have hn : ¬ ((k : Int) + 3 * n < 0) := by omega
  refine lim_run (E := E) rfl Try.func15 rfl (by kernel_rfl) (by kernel_rfl) ?_
  simp [Try.f15, tmpAt, w, hn]
set_option maxHeartbeats 1000000 in
theorem ex_markRangeS (xs : List Range) (k : Nat) (hk : k ≤ 33554432) (hx : xs.length ≤ 1048576) : ∃ ys : List Range, ys.length = xs.length ∧ lim E 41 [.lst true 117 2 (xs.map encRange), .int .i64 k] = some (.int .i64 ((k : Int) + 2 * xs.length), [.lst true 117 2 (ys.map encRange)]) := by
  refine ex_split ?_
  refine lim_ex (E := E) rfl Try.func41 rfl (by kernel_rfl) (by kernel_rfl) ?_
  simp [Try.f41, tmpAt]
  refine loop_fr [0] [] (fun m st => ∃ (i : Nat) (L : List Range), i + m = xs.length ∧ L.length = xs.length ∧ st.env 1 = .int .i64 ((k : Int) + 2 * i) ∧ st.env 5 = .int .i64 i ∧ st.rs (0,99) = some ⟨false, .lst true 117 2 (L.map encRange)⟩) (xs.length) _ ?_ ?_
  · exact ⟨0, xs, by simp⟩
  rintro m0 ⟨env, rs⟩ hU0 hV0 ⟨i, L, hi, hL, e0_1, e0_5, r0_0_99⟩ ih0; simp at hU0 e0_1 e0_5 r0_0_99; clear hV0
  have hu := wrap_up (show i < 4611686018427387904 by omega)
  have hw1 : IntKind.i64.wrap ((k : Int) + 2 * i + 1) = k + 2 * i + 1 := wrap_in (by omega) (by omega)
  have hw2 : IntKind.i64.wrap ((k : Int) + 2 * i + 1 + 1) = k + 2 * i + 1 + 1 := wrap_in (by omega) (by omega)
  simp [hU0, e0_1, e0_5, r0_0_99, hL]
  refine RB_dec ?_ ?_ <;> intro h
  · simp [hU0, e0_1, e0_5, r0_0_99, h, hL, hu, hw1, hw2]
    refine ih0 (m0 - 1) _ (by omega) ?_ ?_ ⟨i + 1, L.set i ⟨(k : Int) + 2 * i, (k : Int) + 2 * i + 1⟩, by omega, by simp [hL], ?_⟩
    · simp [hU0, e0_1, e0_5, r0_0_99]
    · simp [hU0, e0_1, e0_5, r0_0_99]
    simp [hU0, e0_1, e0_5, r0_0_99, hu, List.map_set, hL]
    omega
  · obtain rfl : i = xs.length := by omega
    simp [hU0, e0_1, e0_5, r0_0_99, h, hL]
    exact ⟨L, hL, by simp⟩
set_option maxHeartbeats 4000000 in
theorem ex_markLineS (xs : List Line) (k : Nat) (hk : k ≤ 4194304) (hx : xs.length + tot (fun (y : Line) => szLine y) xs ≤ 1048576) : ∃ r : Nat × List Line, r.2.length = xs.length ∧ lim E 14 [.lst true 73 7 (xs.map (encLine false true)), .int .i64 k] = some (.int .i64 (r.1 : Int), [.lst true 73 7 (r.2.map (encLine false true))]) := by
  refine ex_split ?_
  refine lim_ex (E := E) rfl Try.func14 rfl (by kernel_rfl) (by kernel_rfl) ?_
  simp [Try.f14, tmpAt]
  refine loop_fr [0] [] (fun m st => ∃ (i p : Nat) (L : List Line), i + m = xs.length ∧ L.length = xs.length ∧ L.drop i = xs.drop i ∧ p + 6 * (xs.length - i) + 2 * tot (fun (y : Line) => szLine y) (xs.drop i) ≤ 12000000 ∧ st.env 1 = .int .i64 p ∧ st.env 5 = .int .i64 i ∧ st.rs (0,99) = some ⟨false, .lst true 73 7 (L.map (encLine false true))⟩) (xs.length) _ ?_ ?_
  · exact ⟨0, k, xs, by simp; omega⟩
  rintro m0 ⟨env, rs⟩ hU0 hV0 ⟨i, p, L, hi, hL, hd, hp, e0_1, e0_5, r0_0_99⟩ ih0; simp at hU0 e0_1 e0_5 r0_0_99; clear hV0
  have hu := wrap_up (show i < 4611686018427387904 by omega)
  simp [hU0, e0_1, e0_5, r0_0_99, hL]
  refine RB_dec ?_ ?_ <;> intro h
  · have hLi : i < L.length := by omega
    rw [List.drop_eq_getElem_cons h, List.drop_eq_getElem_cons hLi] at hd
    rw [List.drop_eq_getElem_cons h] at hp
    obtain ⟨hd1, hd2⟩ := List.cons.inj hd
    have hsz : szLine xs[i] = xs[i].set_.length := rfl
    simp only [tot, hsz] at hp
    have hset : L[i].set_.length = xs[i].set_.length := by rw [hd1]
    have hsl : xs[i].set_.length ≤ 1048576 := by
      have := tot_mem (fun (y : Line) => szLine y) (List.getElem_mem h)
      simp only [hsz] at this
      omega
    obtain ⟨zs, z1, wz⟩ := ex_markRangeS L[i].set_ (p + 5) (by omega) (by omega)
    have e5 : ((p + 5 : Nat) : Int) = (p : Int) + 1 + 1 + 1 + 1 + 1 := by omega
    rw [e5] at wz
    try simp at wz
    have hw1 : IntKind.i64.wrap ((p : Int) + 1) = p + 1 := wrap_in (by omega) (by omega)
    have hw2 : IntKind.i64.wrap ((p : Int) + 1 + 1) = p + 1 + 1 := wrap_in (by omega) (by omega)
    have hw3 : IntKind.i64.wrap ((p : Int) + 1 + 1 + 1) = p + 1 + 1 + 1 := wrap_in (by omega) (by omega)
    have hw4 : IntKind.i64.wrap ((p : Int) + 1 + 1 + 1 + 1) = p + 1 + 1 + 1 + 1 := wrap_in (by omega) (by omega)
    have hw5 : IntKind.i64.wrap ((p : Int) + 1 + 1 + 1 + 1 + 1) = p + 1 + 1 + 1 + 1 + 1 := wrap_in (by omega) (by omega)
    have hw6 : IntKind.i64.wrap ((p : Int) + 1 + 1 + 1 + 1 + 1 + 2 * L[i].set_.length + 1) = p + 1 + 1 + 1 + 1 + 1 + 2 * L[i].set_.length + 1 := wrap_in (by omega) (by omega)
    simp [hU0, e0_1, e0_5, r0_0_99, h, hL, hu, hw1, hw2, hw3, hw4, hw5, hw6, wz, z1]
    refine ih0 (m0 - 1) _ (by omega) ?_ ?_ ⟨i + 1, p + 6 + 2 * L[i].set_.length, L.set i ⟨(p : Int), (p : Int) + 1, (p : Int) + 1 + 1, (p : Int) + 1 + 1 + 1, (p : Int) + 1 + 1 + 1 + 1, zs, decide (Int.tmod ((p : Int) + 1 + 1 + 1 + 1 + 1 + 2 * L[i].set_.length) 3 = 0)⟩, by omega, by simp [hL], ?_, by rw [hset]; omega, ?_⟩
    · simp [hU0, e0_1, e0_5, r0_0_99]
    · simp [hU0, e0_1, e0_5, r0_0_99]
    · rw [List.drop_set_of_lt (by omega)]; exact hd2
    simp [hU0, e0_1, e0_5, r0_0_99, hu, List.map_set, hL]
    omega
  · obtain rfl : i = xs.length := by omega
    simp [hU0, e0_1, e0_5, r0_0_99, h, hL]
    exact ⟨(p, L), hL, by simp⟩
end Go.Proofs.Ytfboojamiabmcaa
