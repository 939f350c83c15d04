/- Whole draws of boxes, right or not. -/
import Derived.Test.YtoeadcefgpkdcaacC5
import Derived.Test.YtoeadcefgpkdcaacE2
set_option linter.unusedSectionVars false
set_option linter.all false
set_option linter.unusedVariables false
set_option linter.unusedSimpArgs false
set_option maxRecDepth 100000
namespace Go.Proofs.Ytoeadcefgpkdcaa
open Go.Lft

theorem ex_DrawAddMail (code : S) (hc : code.length ≤ 1048576) : ∃ r : Box × Int × S, (szBox r.1 ≤ 10100 ∧ r.2.2.length ≤ 300) ∧ lim E 35 [.lst false 5 1 (ofBytes code)] = some (.tup [encBox false true r.1, .int .i64 r.2.1, .str r.2.2], []) := by
  have w := eq_l01New code hc
  generalize newCur code hc = c at *
  refine ⟨((boxAny (mailAny (place c 31).2).2).1, (place c 31).1, (mailAny (place c 31).2).1), ⟨boxAny_sz _, mailAny_len _⟩, ?_⟩
  refine lim_run (E := E) rfl Try.func35 rfl (by kernel_rfl) (by kernel_rfl) ?_
  simp [Try.f35, tmpAt, w]
theorem ex_DrawSetFlags (code : S) (hc : code.length ≤ 1048576) : ∃ r : Box × List Range × Int × Int × Int, (szBox r.1 ≤ 10100 ∧ r.2.1.length ≤ 50) ∧ lim E 39 [.lst false 5 1 (ofBytes code)] = some (.tup [encBox false true r.1, .lst true 112 2 (r.2.1.map encRange), .int .i64 r.2.2.1, .int .i64 r.2.2.2.1, .int .i64 r.2.2.2.2], []) := by
  have w := eq_l01New code hc
  generalize newCur code hc = c at *
  have h1 := setAny_len c
  generalize hQ : setAny c = Q at *
  obtain ⟨s, c1⟩ := Q
  generalize hQ2 : pickInt c1 [1, 2, 3, 2, 3, 0, 4] = Q at *
  obtain ⟨how, c2⟩ := Q
  generalize hQ3 : below c2 33 = Q at *
  obtain ⟨bits, c3⟩ := Q
  generalize hQ4 : pickInt c3 [-1, -1, 0, 3, 8, 100000] = Q at *
  obtain ⟨since, c4⟩ := Q
  refine ⟨((boxAny c4).1, s, how, bits, since), ⟨boxAny_sz _, h1⟩, ?_⟩
  refine lim_run (E := E) rfl Try.func39 rfl (by kernel_rfl) (by kernel_rfl) ?_
  simp [Try.f39, tmpAt, w, hQ, hQ2, hQ3, hQ4]
theorem ex_DrawExpunge (code : S) (hc : code.length ≤ 1048576) : ∃ r : Box × List Range, (szBox r.1 ≤ 10100 ∧ r.2.length ≤ 50) ∧ lim E 36 [.lst false 5 1 (ofBytes code)] = some (.tup [encBox false true r.1, .lst true 112 2 (r.2.map encRange)], []) := by
  have w := eq_l01New code hc
  generalize newCur code hc = c at *
  have h1 := setAny_len c
  generalize hQ : setAny c = Q at *
  obtain ⟨s, c1⟩ := Q
  cases hO : (once c1 3).1
  · refine ⟨((boxAny (once c1 3).2).1, s), ⟨boxAny_sz _, h1⟩, ?_⟩
    refine lim_run (E := E) rfl Try.func36 rfl (by kernel_rfl) (by kernel_rfl) ?_
    simp [Try.f36, tmpAt, w, hQ, hO]
  · refine ⟨((boxAny (once c1 3).2).1, [⟨1, 9999⟩]), ⟨boxAny_sz _, by simp⟩, ?_⟩
    refine lim_run (E := E) rfl Try.func36 rfl (by kernel_rfl) (by kernel_rfl) ?_
    simp [Try.f36, tmpAt, w, hQ, hO]
theorem ex_l08Since (code : S) (hc : code.length ≤ 1048576) : ∃ r : Box × Int, (szBox r.1 ≤ 10100) ∧ lim E 111 [.lst false 5 1 (ofBytes code)] = some (.tup [encBox false true r.1, .int .i64 r.2], []) := by
  have w := eq_l01New code hc
  generalize newCur code hc = c at *
  generalize hQ : pickInt c [0, 1, 3, 6, 10, 15, -1, 100000, 9223372036854775807] = Q at *
  obtain ⟨n, c1⟩ := Q
  refine ⟨((boxAny c1).1, n), boxAny_sz _, ?_⟩
  refine lim_run (E := E) rfl Try.func111 rfl (by kernel_rfl) (by kernel_rfl) ?_
  simp [Try.f111, tmpAt, w, hQ]
theorem ex_DrawForgetTombs (code : S) (hc : code.length ≤ 1048576) : ∃ r : Box × Int, (szBox r.1 ≤ 10100) ∧ lim E 40 [.lst false 5 1 (ofBytes code)] = some (.tup [encBox false true r.1, .int .i64 r.2], []) := by
  obtain ⟨r, hr, w⟩ := ex_l08Since code hc
  refine ⟨r, hr, ?_⟩
  try simp at w
  refine lim_run (E := E) rfl Try.func40 rfl (by kernel_rfl) (by kernel_rfl) ?_
  simp [Try.f40, tmpAt, w]
theorem ex_DrawBoxNew (code : S) (hc : code.length ≤ 1048576) : ∃ r : S × Int, (r.1.length ≤ 300) ∧ lim E 41 [.lst false 5 1 (ofBytes code)] = some (.tup [.str r.1, .int .i64 r.2], []) := by
  refine ex_split ?_
  have w := eq_l01New code hc
  generalize newCur code hc = c at *
  refine lim_ex (E := E) rfl Try.func41 rfl (by kernel_rfl) (by kernel_rfl) ?_
  simp [Try.f41, tmpAt, w]
  generalize hp : pick c _ = P
  have hb := pick_tot hp
  obtain ⟨n, c1⟩ := P
  simp [tot] at hb
  exact ⟨(n, _), by simp; omega, rfl⟩
end Go.Proofs.Ytoeadcefgpkdcaa
