/- The law FnExactCacheTake, at the level of data: true for all data. -/
import Derived.Test.YtfboojamiabmcaacCT5
import Derived.Test.YtfboojamiabmcaacCM
set_option linter.unusedSectionVars false
set_option linter.all false
set_option linter.unusedVariables false
set_option linter.unusedSimpArgs false
set_option maxRecDepth 100000
namespace Go.Proofs.Ytfboojamiabmcaa
open Go.Lft

set_option maxHeartbeats 8000000 in
theorem law_CacheTake : ∀ xs, Sh.hasL [shCache, .slice 67 7 shLine] xs → lim E 3 xs = some (.bool true, []) := by
  intro xs h
  obtain ⟨x, s, rfl, g, h⟩ := has_cons h
  obtain ⟨y, s, rfl, g', h⟩ := has_cons h
  obtain rfl := has_nil h
  obtain ⟨e, rfl, hw, hr⟩ := has_Cache _ g
  obtain ⟨f, rfl, hw', hr'⟩ := has_list has_Line _ g'
  have w0 := eq_szCache e 1048576 hw (by omega) (by omega)
  try simp at w0
  refine lim_run (E := E) rfl Try.func3 rfl (by kernel_rfl) (by kernel_rfl) ?_
  simp [Try.f3, tmpAt, w0]
  refine RB_dec ?_ ?_ <;> intro h0
  · simp
  obtain ⟨c0, d0⟩ := cut_pos h0
  have v0 := eq_szLineS f (1048576 - szCache e) hw' (by omega) (by omega)
  generalize hfz : f.length + tot (fun (y : Line) => szLine y) f = fz at *
  try simp at v0
  simp [c0, v0]
  refine RB_dec ?_ ?_ <;> intro h1
  · simp
  obtain ⟨c1, d1⟩ := cut_pos h1
  have hz : szCache e ≤ 1048576 := by omega
  have hz' : fz ≤ 1048576 := by omega
  have hue : e.seens.length ≤ szCache e := by show _ ≤ e.box.length + e.seens.length; omega
  have hsets : ∀ x ∈ f, x.set_.length ≤ 16777216 := fun x hx => by
    have := tot_mem (fun (y : Line) => szLine y) hx
    have e2 : szLine x = x.set_.length := rfl
    simp only [e2] at this
    omega
  have w1 := eq_toCache e hz
  try simp at w1
  have v1 := eq_toLineS f (by omega)
  try simp at v1
  have w2 := eq_CacheTake e f hz (by omega) (by omega) hsets
  have w3 := eq_sCacheTake e f hz (by omega) (by omega) hsets
  have hTz : szCache (cacheTake e f) ≤ 1048576 ∧ (cacheTake e f).seens.length ≤ 1048576 := by
    unfold cacheTake
    split
    · have hh := takesI_len e f
      have e2 : szCache (takesI e f) = (takesI e f).box.length + (takesI e f).seens.length := rfl
      have e3 : szCache e = e.box.length + e.seens.length := rfl
      rw [e2, hh.2]
      omega
    · omega
  obtain ⟨hT1, hT2⟩ := hTz
  generalize hT : cacheTake e f = T at *
  try simp at w2
  try simp at w3
  have w4 := eq_eqCache e e hz
  try simp at w4
  have v4 := eq_eqLineS f f (by omega)
  try simp at v4
  have w5 := eq_eqCache T T hT1
  try simp at w5
  have m1 := eq_markSeenS e.seens 1 (by omega) (by omega)
  try simp at m1
  obtain ⟨⟨p, ys⟩, z1, m2⟩ := ex_markLineS f (1 + 3 * e.seens.length) (by omega) (by omega)
  simp only at z1 m2
  try simp at m2
  have m3 := eq_markSeenS T.seens 1 (by omega) (by omega)
  try simp at m3
  have m5 := eq_heldCache ⟨T.box, T.valid, T.mod, (List.range T.seens.length).map (seenMark 1)⟩ T.seens.length 1 (by omega) (by omega) rfl
  try simp at m5
  have n1 : ¬ (1 + 3 * (T.seens.length : Int) < 0) := by omega
  have n2 : ¬ ((p : Int) < 0) := by omega
  simp [w1, w2, w3, w4, w5, v1, v4, m1, m2, z1, m3, m5, n1, n2, tmpAt]
  exact trOk_unord (L := [(0, 1), (0, 2)]) (by kernel_rfl) (by simp) (by simp [indepAt, indep, spares, around, aside, pre, isSlc, Tr.feels, Tr.all, moves, bare, opData, isExt, cmpOf, Op.operands, Call.operands, mentL, ment, D.noUndefL, D.noUndef, pureE])
end Go.Proofs.Ytfboojamiabmcaa
