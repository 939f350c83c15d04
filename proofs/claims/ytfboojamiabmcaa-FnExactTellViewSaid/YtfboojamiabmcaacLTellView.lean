/- The law FnExactTellView, at the level of data: true for all data. -/
import Derived.Test.YtfboojamiabmcaacF3
import Derived.Test.YtfboojamiabmcaacTN
import Derived.Test.YtfboojamiabmcaacML
set_option linter.unusedSectionVars false
set_option linter.all false
set_option linter.unusedVariables false
set_option linter.unusedSimpArgs false
set_option maxRecDepth 100000
namespace Go.Proofs.Ytfboojamiabmcaa
open Go.Lft

theorem eq_heldView (x : View) (n k : Nat) (hk : k ≤ 4194304) (hx : n ≤ 1048576) (hu : x.uids = (List.range n).map (intMark k)) : lim E 26 [encView false x, .int .i64 k] = some (.int .i64 ((k : Int) + n), []) := by
  have w := eq_heldIntS n k hk hx
  rw [← hu] at w
  have hn : ¬ ((k : Int) + n < 0) := by omega
  refine lim_run (E := E) rfl Try.func26 rfl (by kernel_rfl) (by kernel_rfl) ?_
  simp [Try.f26, tmpAt, w, hn]
set_option maxHeartbeats 8000000 in
theorem law_TellView : ∀ xs, Sh.hasL [shView, shBox] xs → lim E 4 xs = some (.bool true, []) := by
  intro xs h
  obtain ⟨x, s, rfl, g, h⟩ := has_cons h
  obtain ⟨y, s, rfl, g', h⟩ := has_cons h
  obtain rfl := has_nil h
  obtain ⟨e, rfl, hw, hr⟩ := has_View _ g
  obtain ⟨f, rfl, hw', hr'⟩ := has_Box _ g'
  have w0 := eq_szView e 1048576 hw (by omega) (by omega)
  try simp at w0
  refine lim_run (E := E) rfl Try.func4 rfl (by kernel_rfl) (by kernel_rfl) ?_
  simp [Try.f4, tmpAt, w0]
  refine RB_dec ?_ ?_ <;> intro h0
  · simp
  obtain ⟨c0, d0⟩ := cut_pos h0
  have v0 := eq_szBox f (1048576 - szView e) hw' (by omega) (by omega)
  try simp at v0
  simp [c0, v0]
  refine RB_dec ?_ ?_ <;> intro h1
  · simp
  obtain ⟨c1, d1⟩ := cut_pos h1
  have hz : szView e ≤ 1048576 := by omega
  have hz' : szBox f ≤ 1048576 := by omega
  have hue : e.uids.length ≤ szView e := by show _ ≤ e.box.length + e.uids.length; omega
  have hmf : f.mails.length + f.tombs.length ≤ szBox f := by show _ ≤ f.name.length + (f.mails.length + tot (fun (y : Mail) => szMail y) f.mails) + f.tombs.length; omega
  have w1 := eq_toView e hz
  try simp at w1
  have v1 := eq_toBox f hz'
  try simp at v1
  have w2 := eq_TellView e f (by omega) (by omega)
  have w3 := eq_sTellView e f (by omega) (by omega)
  obtain ⟨t1, t2, t3⟩ := tn_view e f
  generalize hT : tellView e f = T at *
  obtain ⟨V, L⟩ := T
  simp only at t1 t2 t3
  have hVu : V.uids.length ≤ 100 := by have : szView V = V.box.length + V.uids.length := rfl; omega
  try simp at w2
  try simp at w3
  have w4 := eq_eqView e e hz
  try simp at w4
  have v4 := eq_eqBox f f hz'
  try simp at v4
  have w5 := eq_eqView V V (by omega)
  try simp at w5
  have w6 := eq_eqLineS L L (by rw [tot_nil L t1]; omega)
  try simp at w6
  have m1 := eq_markIntS e.uids 1 (by omega) (by omega)
  try simp at m1
  have m2 := eq_markBox f (1 + e.uids.length) (by omega) (by omega) (by omega) (by omega) (by omega)
  try simp at m2
  have m3 := eq_markIntS V.uids 1 (by omega) (by omega)
  try simp at m3
  have m4 := eq_markLineS L (1 + V.uids.length) (by omega) (by omega) t1
  try simp at m4
  have m5 := eq_heldView ⟨V.box, V.valid, (List.range V.uids.length).map (intMark 1), V.mod⟩ V.uids.length 1 (by omega) (by omega) rfl
  try simp at m5
  have m6 := eq_heldLineS L.length (1 + V.uids.length) (by omega) (by omega)
  try simp at m6
  have n1 : ¬ (1 + (V.uids.length : Int) < 0) := by omega
  have n2 : ¬ (1 + (V.uids.length : Int) + 6 * L.length < 0) := by omega
  have n3 : ¬ (1 + (e.uids.length : Int) + 4 * f.mails.length + 2 * f.tombs.length < 0) := by omega
  simp [w1, w2, w3, w4, w5, w6, v1, v4, m1, m2, m3, m4, m5, m6, n1, n2, n3, tmpAt]
  refine ⟨trOk_unord (L := [(0, 2), (0, 8), (1, 2), (1, 8), (2, 8), (3, 8), (4, 8), (5, 8), (6, 7), (6, 8), (7, 8), (7, 9)]) (by kernel_rfl) (by simp) (by simp [indepAt, indep, spares, around, aside, pre, isSlc, Tr.feels, Tr.all, moves, bare, opData, isExt, cmpOf, Op.operands, Call.operands, mentL, ment, D.noUndefL, D.noUndef, pureE]), trOk_unord (L := [(0, 1), (0, 2)]) (by kernel_rfl) (by simp) (by simp [indepAt, indep, spares, around, aside, pre, isSlc, Tr.feels, Tr.all, moves, bare, opData, isExt, cmpOf, Op.operands, Call.operands, mentL, ment, D.noUndefL, D.noUndef, pureE]), trOk_unord (L := [(0, 1), (0, 2)]) (by kernel_rfl) (by simp) (by simp [indepAt, indep, spares, around, aside, pre, isSlc, Tr.feels, Tr.all, moves, bare, opData, isExt, cmpOf, Op.operands, Call.operands, mentL, ment, D.noUndefL, D.noUndef, pureE]), trOk_unord (L := [(0, 2), (0, 8), (1, 2), (1, 8), (2, 8), (3, 8), (4, 8), (5, 8), (6, 7), (6, 8), (7, 8), (7, 9)]) (by kernel_rfl) (by simp) (by simp [indepAt, indep, spares, around, aside, pre, isSlc, Tr.feels, Tr.all, moves, bare, opData, isExt, cmpOf, Op.operands, Call.operands, mentL, ment, D.noUndefL, D.noUndef, pureE])⟩
end Go.Proofs.Ytfboojamiabmcaa
