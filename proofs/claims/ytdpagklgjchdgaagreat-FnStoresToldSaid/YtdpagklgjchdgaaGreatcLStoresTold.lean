/- The law FnStoresTold, at the level of data: true for all data. -/
import Derived.Test.YtdpagklgjchdgaaGreatcM1
import Derived.Test.YtdpagklgjchdgaaGreatcH9
import Derived.Test.YtdpagklgjchdgaaGreatcH4
import Derived.Test.YtdpagklgjchdgaaGreatcA5
import Derived.Test.YtdpagklgjchdgaaGreatcW1
set_option linter.unusedSectionVars false
set_option linter.all false
set_option linter.unusedVariables false
set_option linter.unusedSimpArgs false
set_option maxRecDepth 100000
namespace Go.Proofs.YtdpagklgjchdgaaGreat
open Go.Lft

theorem copy_sz (s : Store) (a : S) (l : List Range) (z : S) : szStore (copyMails s a l z).1 ≤ szStore s + 100000 := by
  by_cases h0 : (copyMails s a l z).2 = 0
  · obtain ⟨_, _, _, o4, b, hb, hp, p1, p2, p3⟩ := copyMails_ok h0
    rw [hp]
    have := storeOk_sz p1
    omega
  · have : (copyMails s a l z).1 = s := by
      unfold copyMails at h0 ⊢
      split
      · rename_i h1
        rw [if_pos h1] at h0
        split
        · rename_i h2
          rw [if_pos h2] at h0
          split
          · rename_i h3; rw [h3] at h0; simp at h0
          · rfl
        · rfl
      · rfl
    rw [this]; omega
theorem put_sz (s : Store) (b : Box) : szStore (putBox s b) ≤ szStore s + szBox b := by
  unfold putBox
  split
  · rename_i i hi
    have hl : i < s.boxes.length := (List.findIdx?_eq_some_iff_getElem.1 hi).1
    show (s.boxes.set i b).length + tot (fun (y : Box) => szBox y) (s.boxes.set i b) ≤ s.boxes.length + tot (fun (y : Box) => szBox y) s.boxes + szBox b
    rw [List.length_set]
    have key : ∀ (xs : List Box) (i : Nat), tot (fun (y : Box) => szBox y) (xs.set i b) ≤ tot (fun (y : Box) => szBox y) xs + szBox b := by
      intro xs
      induction xs with
      | nil => intro i; simp [tot]
      | cons x xs ih =>
        intro i
        cases i with
        | zero => simp [tot]; omega
        | succ i => have := ih i; simp [tot]; omega
    have := key s.boxes i
    omega
  · omega
theorem move_sz (s : Store) (a : S) (l : List Range) (z : S) : szStore (moveMails s a l z).1 ≤ szStore s + 200000 := by
  have h1 := copy_sz s a l z
  unfold moveMails
  split
  · simp only; omega
  · split
    · simp only; omega
    · rename_i h0
      have h0 : (copyMails s a l z).2 = 0 := Classical.byContradiction h0
      split
      · simp only; omega
      · obtain ⟨_, _, _, o4, b, hb, hp, p1, p2, p3⟩ := copyMails_ok h0
        rw [hp] at *
        have h2 := put_sz (putBox s b) (moveFrom (putBox s b) a l).1
        have h3 : szBox (moveFrom (putBox s b) a l).1 ≤ 20000 := by
          have h4 := (boxAt_small p1 a).2
          unfold moveFrom
          have h5 := sz_expunge' (setFlags (boxAt (putBox s b) a).1 l 2 8 (-1)).1 l
          have h6 := sz_setFlags' (boxAt (putBox s b) a).1 l 2 8 (-1)
          omega
        have h7 := storeOk_sz p1
        simp only; omega
theorem make_sz (s : Store) (n : S) : szStore (makeBox s n).1 ≤ szStore s + 100000 := by
  by_cases h : storeOk s = true
  · have := storeOk_sz (make_ok (n := n) h); omega
  · unfold makeBox; rw [if_neg (fun hc => h hc.1)]; simp only; omega
theorem drop_sz (s : Store) (n : S) : szStore (dropBox s n).1 ≤ szStore s + 100000 := by
  by_cases h : storeOk s = true
  · have := storeOk_sz (drop_ok (n := n) h); omega
  · unfold dropBox; rw [if_neg (fun hc => h hc.1)]; simp only; omega
set_option maxHeartbeats 8000000 in
theorem law_StoresTold : ∀ xs, Sh.hasL [.slice 5 1 (.int .u8)] xs → lim E 3 xs = some (.bool true, []) := by
  intro xs h
  obtain ⟨x, s, rfl, g, h⟩ := has_cons h
  obtain rfl := has_nil h
  obtain ⟨code, rfl⟩ := has_code _ _ g
  by_cases hbig : 1048576 < code.length
  · refine lim_run (E := E) rfl Tryz.func3 rfl (by kernel_rfl) (by kernel_rfl) ?_
    simp [Tryz.f3, tmpAt, hbig]
  have hc : code.length ≤ 1048576 := by omega
  obtain ⟨s, a, l, z, hs, hl, w1⟩ := ex_DrawCopyMails code hc
  obtain ⟨x, n, hx, hn, w2⟩ := ex_DrawMakeBox code hc
  obtain ⟨y, b, hy, hb, w3⟩ := ex_DrawPutBox code hc
  have a1 := eq_CopyMails s a l z (by omega) (by omega)
  have a2 := eq_sCopyMails s a l z (by omega) (by omega)
  have a3 := eq_MoveMails s a l z (by omega) (by omega)
  have a4 := eq_sMoveMails s a l z (by omega) (by omega)
  have a5 := eq_MakeBox x n (by omega) (by omega)
  have a6 := eq_sMakeBox x n (by omega) (by omega)
  have a7 := eq_DropBox x n (by omega)
  have a8 := eq_sDropBox x n (by omega)
  have a9 := eq_PutBox y b (by omega) (by omega)
  have a10 := eq_sPutBox y b (by omega) (by omega)
  have a11 := eq_StoreOk s (by omega)
  have a12 := eq_sStoreOk s (by omega)
  have a13 := eq_StoreNew
  have hk := new_good.ok
  have a14 := eq_StoreOk storeNew (by have := storeOk_sz hk; omega)
  rw [hk] at a14
  have z1 := copy_sz s a l z
  have z2 := move_sz s a l z
  have z3 := make_sz x n
  have z4 := drop_sz x n
  have z5 := put_sz y b
  generalize copyMails s a l z = Q1 at *
  obtain ⟨q1, k1⟩ := Q1
  generalize moveMails s a l z = Q2 at *
  obtain ⟨q2, k2⟩ := Q2
  generalize makeBox x n = Q3 at *
  obtain ⟨q3, k3⟩ := Q3
  generalize dropBox x n = Q4 at *
  obtain ⟨q4, k4⟩ := Q4
  generalize putBox y b = q5 at *
  generalize storeNew = q6 at *
  simp only at z1 z2 z3 z4
  have s1 := eq_sSameStore q1 q1 (by omega)
  have s2 := eq_sSameStore q2 q2 (by omega)
  have s3 := eq_sSameStore q3 q3 (by omega)
  have s4 := eq_sSameStore q4 q4 (by omega)
  have s5 := eq_sSameStore q5 q5 (by omega)
  try simp at w1
  try simp at w2
  try simp at w3
  try simp at a1
  try simp at a2
  try simp at a3
  try simp at a4
  try simp at a5
  try simp at a6
  try simp at a7
  try simp at a8
  try simp at a9
  try simp at a10
  try simp at a11
  try simp at a12
  try simp at a13
  try simp at a14
  try simp at s1
  try simp at s2
  try simp at s3
  try simp at s4
  try simp at s5
  refine lim_run (E := E) rfl Tryz.func3 rfl (by kernel_rfl) (by kernel_rfl) ?_
  simp [Tryz.f3, tmpAt, hbig, w1, w2, w3, a1, a2, a3, a4, a5, a6, a7, a8, a9, a10, a11, a12, a13, a14, s1, s2, s3, s4, s5]
  exact trOk_few [41, 44] (L := [(41, 42), (41, 43)]) (by kernel_rfl) (by simp) (by first | kernel_rfl | rfl) (by simp [indepAt, indep, spares, around, aside, pre, isSlc, Tr.feels, Tr.all, moves, bare, opData, isExt, cmpOf, Op.operands, Call.operands, mentL, ment, D.noUndefL, D.noUndef, pureE])
end Go.Proofs.YtdpagklgjchdgaaGreat
