/- Marks in a copy: in what is seen; a struct that is handed over for good. -/
import Derived.Test.YtbcgldeleankcaaDoorcA7
import Derived.Test.YtbcgldeleankcaaDoorcC1
set_option linter.unusedSectionVars false
set_option linter.all false
set_option linter.unusedVariables false
set_option linter.unusedSimpArgs false
set_option maxRecDepth 100000
namespace Go.Proofs.YtbcgldeleankcaaDoor
open Go.Lft

set_option maxHeartbeats 1000000 in
theorem ex_markSeenS (xs : List Seen) (k : Nat) (hk : k ≤ 4194304) (hx : xs.length ≤ 1048576) : ∃ ys : List Seen, ys.length = xs.length ∧ lim E 47 [.lst true 89 3 (xs.map encSeen), .int .i64 k] = some (.int .i64 ((k : Int) + 3 * xs.length), [.lst true 89 3 (ys.map encSeen)]) := by
  refine ex_split ?_
  refine lim_ex (E := E) rfl Tryd.func47 rfl (by kernel_rfl) (by kernel_rfl) ?_
  simp [Tryd.f47, tmpAt]
  refine loop_fr [0] [] (fun m st => ∃ (i : Nat) (L : List Seen), i + m = xs.length ∧ L.length = xs.length ∧ st.env 1 = .int .i64 ((k : Int) + 3 * i) ∧ st.env 5 = .int .i64 i ∧ st.rs (0,99) = some ⟨false, .lst true 89 3 (L.map encSeen)⟩) (xs.length) _ ?_ ?_
  · exact ⟨0, xs, by simp⟩
  rintro m0 ⟨env, rs⟩ hU0 hV0 ⟨i, L, hi, hL, e0_1, e0_5, r0_0_99⟩ ih0; simp at hU0 e0_1 e0_5 r0_0_99; clear hV0
  have hu := wrap_up (show i < 4611686018427387904 by omega)
  have hw1 : IntKind.i64.wrap ((k : Int) + 3 * i + 1) = k + 3 * i + 1 := wrap_in (by omega) (by omega)
  have hw2 : IntKind.i64.wrap ((k : Int) + 3 * i + 1 + 1) = k + 3 * i + 1 + 1 := wrap_in (by omega) (by omega)
  have hw3 : IntKind.i64.wrap ((k : Int) + 3 * i + 1 + 1 + 1) = k + 3 * i + 1 + 1 + 1 := wrap_in (by omega) (by omega)
  simp [hU0, e0_1, e0_5, r0_0_99, hL]
  refine RB_dec ?_ ?_ <;> intro h
  · simp [hU0, e0_1, e0_5, r0_0_99, h, hL, hu, hw1, hw2, hw3]
    refine ih0 (m0 - 1) _ (by omega) ?_ ?_ ⟨i + 1, L.set i ⟨(k : Int) + 3 * i, (k : Int) + 3 * i + 1, (k : Int) + 3 * i + 1 + 1⟩, by omega, by simp [hL], ?_⟩
    · simp [hU0, e0_1, e0_5, r0_0_99]
    · simp [hU0, e0_1, e0_5, r0_0_99]
    simp [hU0, e0_1, e0_5, r0_0_99, hu, List.map_set, hL]
    omega
  · obtain rfl : i = xs.length := by omega
    simp [hU0, e0_1, e0_5, r0_0_99, h, hL]
    exact ⟨L, hL, by simp⟩
theorem eq_markCache (c : Cache) (k : Nat) (hk : k ≤ 4194304) (hx : c.seens.length ≤ 1048576) : lim E 22 [encCache false true c, .int .i64 k] = some (.int .i64 ((k : Int) + 3 * c.seens.length), [.undef]) := by
  obtain ⟨ys, h1, h2⟩ := ex_markSeenS c.seens k hk hx
  try simp at h2
  refine lim_run (E := E) rfl Tryd.func22 rfl (by kernel_rfl) (by kernel_rfl) ?_
  simp [Tryd.f22, tmpAt, h1, h2]
end Go.Proofs.YtbcgldeleankcaaDoor
