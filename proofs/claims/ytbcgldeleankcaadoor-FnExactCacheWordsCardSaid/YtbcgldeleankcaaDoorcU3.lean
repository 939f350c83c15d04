/- Commands: CutPrefix, CutSuffix, strings.Split at a blank; the program's isList. -/
import Derived.Test.YtbcgldeleankcaaDoorcU2
set_option linter.unusedSectionVars false
set_option linter.all false
set_option linter.unusedVariables false
set_option linter.unusedSimpArgs false
set_option maxRecDepth 100000
namespace Go.Proofs.YtbcgldeleankcaaDoor
open Go.Lft

theorem eq_slCutPrefix (s : S) (b : UInt8) (hl : s.length ≤ 1048576) : lim E 92 [.str s, .str [b]] = some (.tup [.str (if s.head? = some b then s.drop 1 else s), .bool (decide (s.head? = some b))], []) := by
  by_cases h : s.head? = some b
  · have hl1 : 1 ≤ s.length := by cases s with | nil => simp at h | cons x l => simp
    have w := eq_HasPrefix s b
    rw [h] at w
    simp at w
    refine lim_run (E := E) rfl Tryd.func92 rfl (by kernel_rfl) (by kernel_rfl) ?_
    simp [Tryd.f92, tmpAt, w, h, hl1]
    exact List.take_of_length_le (by simp)
  · have w := eq_HasPrefix s b
    simp [h] at w
    refine lim_run (E := E) rfl Tryd.func92 rfl (by kernel_rfl) (by kernel_rfl) ?_
    simp [Tryd.f92, tmpAt, w, h]
theorem eq_CutPrefix (s : S) (b : UInt8) (hl : s.length ≤ 1048576) : lim E 84 [.str s, .str [b]] = some (.tup [.str (if s.head? = some b then s.drop 1 else s), .bool (decide (s.head? = some b))], []) := by
  have w := eq_slCutPrefix s b hl
  refine lim_run (E := E) rfl Tryd.func84 rfl (by kernel_rfl) (by kernel_rfl) ?_
  simp [Tryd.f84, tmpAt, w]
theorem eq_slCutSuffix (s : S) (b : UInt8) (hl : s.length ≤ 1048576) : lim E 93 [.str s, .str [b]] = some (.tup [.str (if s.getLast? = some b then s.take (s.length - 1) else s), .bool (decide (s.getLast? = some b))], []) := by
  by_cases h : s.getLast? = some b
  · have hl1 : 1 ≤ s.length := by cases s with | nil => simp at h | cons x l => simp
    have w := eq_HasSuffix s b hl
    rw [h] at w
    simp at w
    have hw : IntKind.i64.wrap ((s.length : Int) - 1) = ((s.length - 1 : Nat) : Int) := by rw [wrap_in (by omega) (by omega)]; omega
    refine lim_run (E := E) rfl Tryd.func93 rfl (by kernel_rfl) (by kernel_rfl) ?_
    simp [Tryd.f93, tmpAt, w, h, hl1, hw]
  · have w := eq_HasSuffix s b hl
    simp [h] at w
    refine lim_run (E := E) rfl Tryd.func93 rfl (by kernel_rfl) (by kernel_rfl) ?_
    simp [Tryd.f93, tmpAt, w, h]
theorem eq_CutSuffix (s : S) (b : UInt8) (hl : s.length ≤ 1048576) : lim E 85 [.str s, .str [b]] = some (.tup [.str (if s.getLast? = some b then s.take (s.length - 1) else s), .bool (decide (s.getLast? = some b))], []) := by
  have w := eq_slCutSuffix s b hl
  refine lim_run (E := E) rfl Tryd.func85 rfl (by kernel_rfl) (by kernel_rfl) ?_
  simp [Tryd.f85, tmpAt, w]
theorem set_next (done : List S) (n : Nat) (p : S) (h : done.length < n) : (done.map D.str ++ List.replicate (n - done.length) (D.str [])).set done.length (D.str p) = (done ++ [p]).map D.str ++ List.replicate (n - (done.length + 1)) (D.str []) := by
  obtain ⟨k, hk⟩ : ∃ k, n - done.length = k + 1 := ⟨n - done.length - 1, by omega⟩
  have hk2 : n - (done.length + 1) = k := by omega
  rw [hk, hk2, List.replicate_succ, List.set_append]
  simp
theorem get_next (done : List S) (n : Nat) (h : done.length < n) : ∀ h', (done.map D.str ++ List.replicate (n - done.length) (D.str []))[done.length]'h' = D.str [] := by
  intro h'
  rw [List.getElem_append_right (by simp)]
  simp
def blanks (s : S) : Nat := s.count 32
set_option maxHeartbeats 1000000 in
theorem eq_genSplit (s : S) (hl : s.length ≤ 1048576) : lim E 94 [.str s, .str [32], .int .i64 0, .int .i64 (-1)] = some (.lst true 9 1 ((splitL s).map .str), []) := by
  have w1 := eq_Count s
  have hc : s.count 32 ≤ s.length := List.count_le_length
  obtain ⟨N, hN0⟩ : ∃ N, s.count 32 = N := ⟨_, rfl⟩
  rw [hN0] at w1 hc
  have hn : IntKind.i64.wrap ((N : Nat) + 1 : Int) = ((N + 1 : Nat) : Int) := by rw [wrap_in (by omega) (by omega)]; omega
  have hn2 : IntKind.i64.wrap ((s.length : Int) + 1) = ((s.length + 1 : Nat) : Int) := by rw [wrap_in (by omega) (by omega)]; omega
  have hlt : ¬ s.length < N := by omega
  have hm : IntKind.i64.wrap ((N : Nat) + 1 - 1 : Int) = ((N : Nat) : Int) := by rw [wrap_in (by omega) (by omega)]; omega
  have hm2 : IntKind.i64.wrap ((N : Nat) : Int) = ((N : Nat) : Int) := wrap_in (by omega) (by omega)
  have hto : ((N : Nat) + 1 : Int).toNat = N + 1 := by omega
  have hb1 : (0 : Int) ≤ (N : Int) + 1 := by omega
  have hb2 : ((N : Int) + 1) * 16 ≤ 140737488351232 := by omega
  have hb3 : (N : Int) + 1 ≤ 140737488351232 := by omega
  refine lim_run (E := E) rfl Tryd.func94 rfl (by kernel_rfl) (by kernel_rfl) ?_
  simp [Tryd.f94, tmpAt, w1, hn, hn2, hlt, hm, hm2, hto, hb1, hb2, hb3]
  refine loop_fr [1, 2, 3, 9] [] (fun m st => ∃ (i : Nat) (r : S) (done : List S), i + m = N ∧ done.length = i ∧ splitL s = done ++ splitL r ∧ blanks r + i = N ∧ r.length ≤ s.length ∧ st.rs (31,0) = some ⟨false, .lst true 9 1 ((done ++ List.replicate (N + 1 - i) ([] : S)).map .str)⟩ ∧ st.env 0 = .str r ∧ st.env 10 = .int .i64 i) ((N)) _ ?_ ?_
  · exact ⟨0, s, [], by simp [blanks, hN0]⟩
  rintro m0 ⟨env, rs⟩ hU0 hV0 ⟨i, r, done, hi, hd, hs, hc2, hrl, q, e0_0, e0_10⟩ ih0; simp at hU0 e0_0 e0_10; clear hV0
  simp at q
  unfold blanks at hc2
  have hu := wrap_up (show i < 4611686018427387904 by omega)
  have wi := eq_Index r
  simp [hU0, e0_0, e0_10]
  refine RB_dec ?_ ?_ <;> intro h
  · have hpos : 0 ≤ Go.Lib.indexByte r 32 := by
      rcases Int.lt_or_le (Go.Lib.indexByte r 32) 0 with h1 | h1
      · have := index_none r h1; omega
      · exact h1
    obtain ⟨i1, i2, i3⟩ := index_at r hpos
    obtain ⟨k, hk⟩ : ∃ k : Nat, Go.Lib.indexByte r 32 = k := ⟨(Go.Lib.indexByte r 32).toNat, by omega⟩
    rw [hk] at i1 i2 i3 wi
    simp only [Int.toNat_natCast] at i2 i3
    have hk1 : IntKind.i64.wrap ((k : Int) + 1) = ((k + 1 : Nat) : Int) := by rw [wrap_in (by omega) (by omega)]; omega
    have hk0 : IntKind.i64.wrap (k : Int) = (k : Int) := wrap_in (by omega) (by omega)
    have hk2 : ¬ ((k : Int) < 0) := by omega
    have hk3 : k ≤ r.length := by omega
    have hk4 : k + 1 ≤ r.length := by omega
    have hin : i < N + 1 := by omega
    have hsn := set_next done (N + 1) (r.take k) (by omega)
    rw [hd] at hsn
    try simp at hsn
    have hlen : done.length + (N + 1 - i) = N + 1 := by omega
    have hinI : (i : Int) < (N : Int) + 1 := by omega
    have hge := get_next done (N + 1) (by omega)
    simp only [hd] at hge
    have hk5 : (0 : Int) ≤ (k : Int) + 1 := by omega
    have hk6 : ((k : Int) + 1).toNat = k + 1 := by omega
    simp [hU0, e0_0, e0_10, h, wi, hk0, hk1, hk2, hk3, hk4, hk5, hk6, q, hin, hinI, hlen, hsn, hge]
    have hdr : List.take (r.length - (k + 1)) (r.drop (k + 1)) = r.drop (k + 1) := List.take_of_length_le (by simp)
    refine ih0 (m0 - 1) _ (by omega) ?_ ?_ ⟨i + 1, r.drop (k + 1), done ++ [r.take k], by omega, by simp [hd], ?_, by unfold blanks; omega, by simp; omega, ?_⟩
    · simp [hU0, e0_0, e0_10]
    · simp [hU0, e0_0, e0_10]
    · rw [hs, i2]; simp
    · simp [hU0, e0_0, e0_10, hu, hdr]
  · have hie : i = N := by omega
    have hr0 := split_none r (by omega)
    have hin : i < N + 1 := by omega
    have hsn := set_next done (N + 1) r (by omega)
    rw [hd] at hsn
    try simp at hsn
    have hlen : done.length + (N + 1 - i) = N + 1 := by omega
    have hinI : (i : Int) < (N : Int) + 1 := by omega
    have hge := get_next done (N + 1) (by omega)
    simp only [hd] at hge
    have h0i : (0 : Int) ≤ (i : Int) + 1 := by omega
    have hti : ((i : Int) + 1).toNat = i + 1 := by omega
    have hle : i + 1 ≤ N + 1 := by omega
    simp [hU0, e0_0, e0_10, h, q, hin, hinI, hlen, hsn, hu, hge, h0i, hti, hle]
    rw [if_pos (by omega)]
    have hz : N - i = 0 := by omega
    have htk : List.take (i + 1) (done.map D.str ++ [D.str r]) = done.map D.str ++ [D.str r] := List.take_of_length_le (by simp [hd])
    simp [hz, hs, hr0, htk]
end Go.Proofs.YtbcgldeleankcaaDoor
