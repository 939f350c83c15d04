/- Marks in numbers, lines, mails, tombs, boxes. -/
import Derived.Test.YtfboojamiabmcaacA7
import Derived.Test.YtfboojamiabmcaacC1
set_option linter.unusedSectionVars false
set_option linter.all false
set_option linter.unusedVariables false
set_option linter.unusedSimpArgs false
set_option maxRecDepth 100000
namespace Go.Proofs.Ytfboojamiabmcaa
open Go.Lft

def markd {α : Type} (f : Nat → α) (i : Nat) (L : List α) : Prop := ∀ j (h : j < L.length), j < i → L[j] = f j
theorem markd_zero {α : Type} {f : Nat → α} {L : List α} : markd f 0 L := fun j h h0 => absurd h0 (Nat.not_lt_zero _)
theorem markd_next {α : Type} {f : Nat → α} {i : Nat} {L : List α} (h : markd f i L) : markd f (i + 1) (L.set i (f i)) := by
  intro j hj hi
  by_cases e : i = j
  · subst e; simp
  · rw [List.getElem_set_ne e]
    exact h j _ (by omega)
theorem markd_all {α : Type} {f : Nat → α} {i : Nat} {L : List α} (h : markd f i L) (hi : L.length ≤ i) : L = (List.range L.length).map f := by
  apply List.ext_getElem
  · simp
  · intro j h1 h2
    simp only [List.getElem_map, List.getElem_range]
    exact h j h1 (by omega)
def intMark (k : Nat) (i : Nat) : Int := (k : Int) + i
theorem eq_markIntS (xs : List Int) (k : Nat) (hk : k ≤ 4194304) (hx : xs.length ≤ 1048576) : lim E 62 [.lst true 3 1 (xs.map (.int .i64)), .int .i64 k] = some (.int .i64 ((k : Int) + xs.length), [.lst true 3 1 (((List.range xs.length).map (intMark k)).map (.int .i64))]) := by
  refine lim_run (E := E) rfl Try.func62 rfl (by kernel_rfl) (by kernel_rfl) ?_
  simp [Try.f62, tmpAt]
  refine loop_fr [0] [] (fun m st => ∃ (i : Nat) (L : List Int), i + m = xs.length ∧ L.length = xs.length ∧ markd (intMark k) i L ∧ st.env 1 = .int .i64 ((k : Int) + i) ∧ st.env 5 = .int .i64 i ∧ st.rs (0,99) = some ⟨false, .lst true 3 1 (L.map (.int .i64))⟩) (xs.length) _ ?_ ?_
  · exact ⟨0, xs, by simp [markd_zero]⟩
  rintro m0 ⟨env, rs⟩ hU0 hV0 ⟨i, L, hi, hL, hm, e0_1, e0_5, r0_0_99⟩ ih0; simp at hU0 e0_1 e0_5 r0_0_99; clear hV0
  have hu := wrap_up (show i < 4611686018427387904 by omega)
  have hw1 : IntKind.i64.wrap ((k : Int) + i + 1) = k + i + 1 := wrap_in (by omega) (by omega)
  simp [hU0, e0_1, e0_5, r0_0_99, hL]
  refine RB_dec ?_ ?_ <;> intro h
  · simp [hU0, e0_1, e0_5, r0_0_99, h, hL, hu, hw1]
    refine ih0 (m0 - 1) _ (by omega) ?_ ?_ ⟨i + 1, L.set i (intMark k i), by omega, by simp [hL], markd_next hm, ?_⟩
    · simp [hU0, e0_1, e0_5, r0_0_99]
    · simp [hU0, e0_1, e0_5, r0_0_99]
    simp [hU0, e0_1, e0_5, r0_0_99, hu, List.map_set, hL, intMark]
    omega
  · have hLL := markd_all hm (by omega)
    rw [hL] at hLL
    obtain rfl : i = xs.length := by omega
    simp [hU0, e0_1, e0_5, r0_0_99, h, hL]
    rw [hLL]
    simp
theorem eq_heldIntS (n k : Nat) (hk : k ≤ 4194304) (hx : n ≤ 1048576) : lim E 65 [.lst false 3 1 (((List.range n).map (intMark k)).map (.int .i64)), .int .i64 k] = some (.int .i64 ((k : Int) + n), []) := by
  have hg : ∀ i (h : i < n), (((List.range n).map (intMark k)).map (D.int .i64))[i]? = some (.int .i64 ((k : Int) + i)) := by
    intro i h
    simp [h, intMark]
  have hlen : (((List.range n).map (intMark k)).map (D.int .i64)).length = n := by simp
  generalize ((List.range n).map (intMark k)).map (D.int .i64) = X at *
  refine lim_run (E := E) rfl Try.func65 rfl (by kernel_rfl) (by kernel_rfl) ?_
  simp [Try.f65, tmpAt]
  refine loop_fr [0] [] (fun m st => ∃ (i : Nat), i + m = n ∧ st.env 1 = .int .i64 ((k : Int) + i) ∧ st.env 5 = .int .i64 i) (n) _ ?_ ?_
  · exact ⟨0, by simp⟩
  rintro m0 ⟨env, rs⟩ hU0 hV0 ⟨i, hi, e0_1, e0_5⟩ ih0; simp at hU0 e0_1 e0_5; clear hV0
  have hu := wrap_up (show i < 4611686018427387904 by omega)
  have hw1 : IntKind.i64.wrap ((k : Int) + i + 1) = k + i + 1 := wrap_in (by omega) (by omega)
  simp [hU0, e0_1, e0_5, hlen]
  refine RB_dec ?_ ?_ <;> intro h
  · have hgi : X[i]'(by omega) = .int .i64 ((k : Int) + i) := by
      have := hg i h
      rw [List.getElem?_eq_getElem (by omega)] at this
      exact Option.some.inj this
    simp [hU0, e0_1, e0_5, h, hlen, hgi, hu, hw1]
    refine ih0 (m0 - 1) _ (by omega) ?_ ?_ ⟨i + 1, by omega, ?_⟩
    · simp [hU0, e0_1, e0_5]
    · simp [hU0, e0_1, e0_5]
    simp [hU0, e0_1, e0_5, hu]
    omega
  · obtain rfl : i = n := by omega
    simp [hU0, e0_1, e0_5, h]
theorem eq_markRange0 (k : Int) : lim E 41 [.lst true 117 2 [], .int .i64 k] = some (.int .i64 k, [.lst true 117 2 []]) := by
  refine lim_run (E := E) rfl Try.func41 rfl (by kernel_rfl) (by kernel_rfl) ?_
  simp [Try.f41, tmpAt]
  refine loop_fr [0] [] (fun m st => ∃ (i : Nat), i + m = 0 ∧ st.env 1 = .int .i64 k ∧ st.env 5 = .int .i64 i ∧ st.rs (0,99) = some ⟨false, .lst true 117 2 []⟩) (0) _ ?_ ?_
  · exact ⟨0, by simp⟩
  rintro m0 ⟨env, rs⟩ hU0 hV0 ⟨i, hi, e0_1, e0_5, r0_0_99⟩ ih0; simp at hU0 e0_1 e0_5 r0_0_99; clear hV0
  obtain rfl : i = 0 := by omega
  simp [hU0, e0_1, e0_5, r0_0_99]
theorem eq_heldRange0 (k : Int) : lim E 66 [.lst false 117 2 [], .int .i64 k] = some (.int .i64 k, []) := by
  refine lim_run (E := E) rfl Try.func66 rfl (by kernel_rfl) (by kernel_rfl) ?_
  simp [Try.f66, tmpAt]
  refine loop_fr [0] [] (fun m st => ∃ (i : Nat), i + m = 0 ∧ st.env 1 = .int .i64 k ∧ st.env 5 = .int .i64 i) (0) _ ?_ ?_
  · exact ⟨0, by simp⟩
  rintro m0 ⟨env, rs⟩ hU0 hV0 ⟨i, hi, e0_1, e0_5⟩ ih0; simp at hU0 e0_1 e0_5; clear hV0
  obtain rfl : i = 0 := by omega
  simp [hU0, e0_1, e0_5]
def lineMark (k : Nat) (i : Nat) : Line := ⟨(k : Int) + 6 * i, (k : Int) + 6 * i + 1, (k : Int) + 6 * i + 1 + 1, (k : Int) + 6 * i + 1 + 1 + 1, (k : Int) + 6 * i + 1 + 1 + 1 + 1, [], decide (Int.tmod ((k : Int) + 6 * i + 1 + 1 + 1 + 1 + 1) 3 = 0)⟩
set_option maxHeartbeats 4000000 in
theorem eq_markLineS (xs : List Line) (k : Nat) (hk : k ≤ 4194304) (hx : xs.length ≤ 1048576) (hs : ∀ x ∈ xs, x.set_ = []) : lim E 14 [.lst true 73 7 (xs.map (encLine false true)), .int .i64 k] = some (.int .i64 ((k : Int) + 6 * xs.length), [.lst true 73 7 (((List.range xs.length).map (lineMark k)).map (encLine false true))]) := by
  refine lim_run (E := E) rfl Try.func14 rfl (by kernel_rfl) (by kernel_rfl) ?_
  simp [Try.f14, tmpAt]
  refine loop_fr [0] [] (fun m st => ∃ (i : Nat) (L : List Line), i + m = xs.length ∧ L.length = xs.length ∧ (∀ x ∈ L, x.set_ = []) ∧ markd (lineMark k) i L ∧ st.env 1 = .int .i64 ((k : Int) + 6 * i) ∧ st.env 5 = .int .i64 i ∧ st.rs (0,99) = some ⟨false, .lst true 73 7 (L.map (encLine false true))⟩) (xs.length) _ ?_ ?_
  · exact ⟨0, xs, by simpa [markd_zero] using hs⟩
  rintro m0 ⟨env, rs⟩ hU0 hV0 ⟨i, L, hi, hL, hs2, hm, e0_1, e0_5, r0_0_99⟩ ih0; simp at hU0 e0_1 e0_5 r0_0_99; clear hV0
  have hu := wrap_up (show i < 4611686018427387904 by omega)
  have hw1 : IntKind.i64.wrap ((k : Int) + 6 * i + 1) = k + 6 * i + 1 := wrap_in (by omega) (by omega)
  have hw2 : IntKind.i64.wrap ((k : Int) + 6 * i + 1 + 1) = k + 6 * i + 1 + 1 := wrap_in (by omega) (by omega)
  have hw3 : IntKind.i64.wrap ((k : Int) + 6 * i + 1 + 1 + 1) = k + 6 * i + 1 + 1 + 1 := wrap_in (by omega) (by omega)
  have hw4 : IntKind.i64.wrap ((k : Int) + 6 * i + 1 + 1 + 1 + 1) = k + 6 * i + 1 + 1 + 1 + 1 := wrap_in (by omega) (by omega)
  have hw5 : IntKind.i64.wrap ((k : Int) + 6 * i + 1 + 1 + 1 + 1 + 1) = k + 6 * i + 1 + 1 + 1 + 1 + 1 := wrap_in (by omega) (by omega)
  have hw6 : IntKind.i64.wrap ((k : Int) + 6 * i + 1 + 1 + 1 + 1 + 1 + 1) = k + 6 * i + 1 + 1 + 1 + 1 + 1 + 1 := wrap_in (by omega) (by omega)
  have wr := eq_markRange0
  simp [hU0, e0_1, e0_5, r0_0_99, hL]
  refine RB_dec ?_ ?_ <;> intro h
  · have hset : L[i].set_ = [] := hs2 _ (List.getElem_mem (by omega))
    simp [hU0, e0_1, e0_5, r0_0_99, h, hL, hu, hw1, hw2, hw3, hw4, hw5, hw6, hset, wr]
    refine ih0 (m0 - 1) _ (by omega) ?_ ?_ ⟨i + 1, L.set i (lineMark k i), by omega, by simp [hL], ?_, markd_next hm, ?_⟩
    · simp [hU0, e0_1, e0_5, r0_0_99]
    · simp [hU0, e0_1, e0_5, r0_0_99]
    · intro x hx
      rcases List.mem_or_eq_of_mem_set hx with h1 | rfl
      · exact hs2 x h1
      · rfl
    simp [hU0, e0_1, e0_5, r0_0_99, hu, List.map_set, hL, lineMark]
    omega
  · have hLL := markd_all hm (by omega)
    rw [hL] at hLL
    obtain rfl : i = xs.length := by omega
    simp [hU0, e0_1, e0_5, r0_0_99, h, hL]
    rw [hLL]
    simp
set_option maxHeartbeats 4000000 in
theorem eq_heldLineS (n k : Nat) (hk : k ≤ 4194304) (hx : n ≤ 1048576) : lim E 27 [.lst false 73 7 (((List.range n).map (lineMark k)).map (encLine false false)), .int .i64 k] = some (.int .i64 ((k : Int) + 6 * n), []) := by
  have hg : ∀ i (h : i < n), (((List.range n).map (lineMark k)).map (encLine false false))[i]? = some (encLine false false (lineMark k i)) := by
    intro i h
    simp [h]
  have hlen : (((List.range n).map (lineMark k)).map (encLine false false)).length = n := by simp
  generalize ((List.range n).map (lineMark k)).map (encLine false false) = X at *
  have wr := eq_heldRange0
  refine lim_run (E := E) rfl Try.func27 rfl (by kernel_rfl) (by kernel_rfl) ?_
  simp [Try.f27, tmpAt]
  refine loop_fr [0] [] (fun m st => ∃ (i : Nat), i + m = n ∧ st.env 1 = .int .i64 ((k : Int) + 6 * i) ∧ st.env 5 = .int .i64 i) (n) _ ?_ ?_
  · exact ⟨0, by simp⟩
  rintro m0 ⟨env, rs⟩ hU0 hV0 ⟨i, hi, e0_1, e0_5⟩ ih0; simp at hU0 e0_1 e0_5; clear hV0
  have hu := wrap_up (show i < 4611686018427387904 by omega)
  have hw1 : IntKind.i64.wrap ((k : Int) + 6 * i + 1) = k + 6 * i + 1 := wrap_in (by omega) (by omega)
  have hw2 : IntKind.i64.wrap ((k : Int) + 6 * i + 1 + 1) = k + 6 * i + 1 + 1 := wrap_in (by omega) (by omega)
  have hw3 : IntKind.i64.wrap ((k : Int) + 6 * i + 1 + 1 + 1) = k + 6 * i + 1 + 1 + 1 := wrap_in (by omega) (by omega)
  have hw4 : IntKind.i64.wrap ((k : Int) + 6 * i + 1 + 1 + 1 + 1) = k + 6 * i + 1 + 1 + 1 + 1 := wrap_in (by omega) (by omega)
  have hw5 : IntKind.i64.wrap ((k : Int) + 6 * i + 1 + 1 + 1 + 1 + 1) = k + 6 * i + 1 + 1 + 1 + 1 + 1 := wrap_in (by omega) (by omega)
  have hw6 : IntKind.i64.wrap ((k : Int) + 6 * i + 1 + 1 + 1 + 1 + 1 + 1) = k + 6 * i + 1 + 1 + 1 + 1 + 1 + 1 := wrap_in (by omega) (by omega)
  have hng : ¬ ((k : Int) + 6 * i + 1 + 1 + 1 + 1 + 1 < 0) := by omega
  simp [hU0, e0_1, e0_5, hlen]
  refine RB_dec ?_ ?_ <;> intro h
  · have hgi : X[i]'(by omega) = encLine false false (lineMark k i) := by
      have := hg i h
      rw [List.getElem?_eq_getElem (by omega)] at this
      exact Option.some.inj this
    simp [hU0, e0_1, e0_5, h, hlen, hgi, hu, hw1, hw2, hw3, hw4, hw5, hw6, lineMark, wr, hng]
    refine ih0 (m0 - 1) _ (by omega) ?_ ?_ ⟨i + 1, by omega, ?_⟩
    · simp [hU0, e0_1, e0_5]
    · simp [hU0, e0_1, e0_5]
    simp [hU0, e0_1, e0_5, hu]
    omega
  · obtain rfl : i = n := by omega
    simp [hU0, e0_1, e0_5, h]
set_option maxHeartbeats 4000000 in
theorem ex_markMailS (xs : List Mail) (k : Nat) (h0 : 0 < k) (hk : k ≤ 1048577) (hx : xs.length ≤ 1048576) (hkx : k + 4 * xs.length ≤ 4194305) : ∃ ys : List Mail, ys.length = xs.length ∧ lim E 63 [.lst true 90 4 (xs.map encMail), .int .i64 k] = some (.int .i64 ((k : Int) + 4 * xs.length), [.lst true 90 4 (ys.map encMail)]) := by
  refine ex_split ?_
  refine lim_ex (E := E) rfl Try.func63 rfl (by kernel_rfl) (by kernel_rfl) ?_
  simp [Try.f63, tmpAt]
  refine loop_fr [0] [] (fun m st => ∃ (i : Nat) (L : List Mail), i + m = xs.length ∧ L.length = xs.length ∧ st.env 1 = .int .i64 ((k : Int) + 4 * i) ∧ st.env 5 = .int .i64 i ∧ st.rs (0,99) = some ⟨false, .lst true 90 4 (L.map encMail)⟩) (xs.length) _ ?_ ?_
  · exact ⟨0, xs, by simp⟩
  rintro m0 ⟨env, rs⟩ hU0 hV0 ⟨i, L, hi, hL, e0_1, e0_5, r0_0_99⟩ ih0; simp at hU0 e0_1 e0_5 r0_0_99; clear hV0
  have hu := wrap_up (show i < 4611686018427387904 by omega)
  have hw1 : IntKind.i64.wrap ((k : Int) + 4 * i + 1) = k + 4 * i + 1 := wrap_in (by omega) (by omega)
  have hw2 : IntKind.i64.wrap ((k : Int) + 4 * i + 1 + 1) = k + 4 * i + 1 + 1 := wrap_in (by omega) (by omega)
  have hw3 : IntKind.i64.wrap ((k : Int) + 4 * i + 1 + 1 + 1) = k + 4 * i + 1 + 1 + 1 := wrap_in (by omega) (by omega)
  have hw4 : IntKind.i64.wrap ((k : Int) + 4 * i + 1 + 1 + 1 + 1) = k + 4 * i + 1 + 1 + 1 + 1 := wrap_in (by omega) (by omega)
  simp [hU0, e0_1, e0_5, r0_0_99, hL]
  refine RB_dec ?_ ?_ <;> intro h
  · have wm := eq_markText (k + 4 * i + 3) (by omega) (by omega)
    have ek : ((k + 4 * i + 3 : Nat) : Int) = (k : Int) + 4 * i + 1 + 1 + 1 := by omega
    rw [ek] at wm
    simp [hU0, e0_1, e0_5, r0_0_99, h, hL, hu, hw1, hw2, hw3, hw4, wm]
    refine ih0 (m0 - 1) _ (by omega) ?_ ?_ ⟨i + 1, L.set i ⟨(k : Int) + 4 * i, (k : Int) + 4 * i + 1, (k : Int) + 4 * i + 1 + 1, markT (k + 4 * i + 3)⟩, by omega, by simp [hL], ?_⟩
    · simp [hU0, e0_1, e0_5, r0_0_99]
    · simp [hU0, e0_1, e0_5, r0_0_99]
    simp [hU0, e0_1, e0_5, r0_0_99, hu, List.map_set, hL]
    omega
  · obtain rfl : i = xs.length := by omega
    simp [hU0, e0_1, e0_5, r0_0_99, h, hL]
    exact ⟨L, hL, by simp⟩
set_option maxHeartbeats 4000000 in
theorem ex_markTombS (xs : List Tomb) (k : Nat) (hk : k ≤ 8388608) (hx : xs.length ≤ 1048576) : ∃ ys : List Tomb, ys.length = xs.length ∧ lim E 64 [.lst true 121 2 (xs.map encTomb), .int .i64 k] = some (.int .i64 ((k : Int) + 2 * xs.length), [.lst true 121 2 (ys.map encTomb)]) := by
  refine ex_split ?_
  refine lim_ex (E := E) rfl Try.func64 rfl (by kernel_rfl) (by kernel_rfl) ?_
  simp [Try.f64, tmpAt]
  refine loop_fr [0] [] (fun m st => ∃ (i : Nat) (L : List Tomb), i + m = xs.length ∧ L.length = xs.length ∧ st.env 1 = .int .i64 ((k : Int) + 2 * i) ∧ st.env 5 = .int .i64 i ∧ st.rs (0,99) = some ⟨false, .lst true 121 2 (L.map encTomb)⟩) (xs.length) _ ?_ ?_
  · exact ⟨0, xs, by simp⟩
  rintro m0 ⟨env, rs⟩ hU0 hV0 ⟨i, L, hi, hL, e0_1, e0_5, r0_0_99⟩ ih0; simp at hU0 e0_1 e0_5 r0_0_99; clear hV0
  have hu := wrap_up (show i < 4611686018427387904 by omega)
  have hw1 : IntKind.i64.wrap ((k : Int) + 2 * i + 1) = k + 2 * i + 1 := wrap_in (by omega) (by omega)
  have hw2 : IntKind.i64.wrap ((k : Int) + 2 * i + 1 + 1) = k + 2 * i + 1 + 1 := wrap_in (by omega) (by omega)
  simp [hU0, e0_1, e0_5, r0_0_99, hL]
  refine RB_dec ?_ ?_ <;> intro h
  · simp [hU0, e0_1, e0_5, r0_0_99, h, hL, hu, hw1, hw2]
    refine ih0 (m0 - 1) _ (by omega) ?_ ?_ ⟨i + 1, L.set i ⟨(k : Int) + 2 * i, (k : Int) + 2 * i + 1⟩, by omega, by simp [hL], ?_⟩
    · simp [hU0, e0_1, e0_5, r0_0_99]
    · simp [hU0, e0_1, e0_5, r0_0_99]
    simp [hU0, e0_1, e0_5, r0_0_99, hu, List.map_set, hL]
    omega
  · obtain rfl : i = xs.length := by omega
    simp [hU0, e0_1, e0_5, r0_0_99, h, hL]
    exact ⟨L, hL, by simp⟩
theorem eq_markBox (b : Box) (k : Nat) (h0 : 0 < k) (hk : k ≤ 1048577) (h1 : b.mails.length ≤ 1048576) (h2 : b.tombs.length ≤ 1048576) (h3 : k + 4 * b.mails.length ≤ 4194305) : lim E 25 [encBox false true b, .int .i64 k] = some (.int .i64 ((k : Int) + 4 * b.mails.length + 2 * b.tombs.length), [.undef]) := by
  obtain ⟨ys, e1, w1⟩ := ex_markMailS b.mails k h0 hk h1 h3
  obtain ⟨zs, e2, w2⟩ := ex_markTombS b.tombs (k + 4 * b.mails.length) (by omega) h2
  try simp at w1
  try simp at w2
  refine lim_run (E := E) rfl Try.func25 rfl (by kernel_rfl) (by kernel_rfl) ?_
  simp [Try.f25, tmpAt, e1, e2, w1, w2]
end Go.Proofs.Ytfboojamiabmcaa
