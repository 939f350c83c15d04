/- Copies that take lines: the program's takeLine and CacheTake. -/
import Derived.Test.YtfboojamiabmcaacCT1
set_option linter.unusedSectionVars false
set_option linter.all false
set_option linter.unusedVariables false
set_option linter.unusedSimpArgs false
set_option maxRecDepth 100000
namespace Go.Proofs.Ytfboojamiabmcaa
open Go.Lft

def takeI (c : Cache) (x : Line) : Cache :=
  if x.kind = 5 then ⟨c.box, x.num, x.mod, if x.all = true ∨ ¬ x.num = c.valid then [] else c.seens⟩
  else if x.kind = 4 then ⟨c.box, c.valid, c.mod, c.seens.filter fun y => !setHas x.set_ y.uid⟩
  else if x.kind = 3 then ⟨c.box, c.valid, c.mod, putS c.seens ⟨x.uid, x.flags, x.mod⟩⟩
  else c
theorem putS_len (l : List Seen) (x : Seen) : (putS l x).length ≤ l.length + 1 := by
  unfold putS
  have h1 := List.length_filter_le (fun y : Seen => !decide (y.uid = x.uid)) l
  generalize (l.filter fun y => !decide (y.uid = x.uid)) = F at *
  have h2 := congrArg List.length (List.takeWhile_append_dropWhile (p := fun y : Seen => decide (y.uid < x.uid)) (l := F))
  simp only [List.length_append, List.length_cons, List.length_nil] at h2 ⊢
  omega
theorem takeI_len (c : Cache) (x : Line) : (takeI c x).seens.length ≤ c.seens.length + 1 := by
  unfold takeI
  split
  · simp only; split
    · simp
    · omega
  · split
    · exact Nat.le_succ_of_le (List.length_filter_le ..)
    · split
      · exact putS_len _ _
      · omega
theorem takeI_box (c : Cache) (x : Line) : (takeI c x).box = c.box := by
  unfold takeI
  split
  · rfl
  · split
    · rfl
    · split <;> rfl
theorem eq_takeLine1 (y : Seen) (x : Line) (hx : x.set_.length ≤ 16777216) : lim E 76 [encSeen y, .pto (encLine false false x)] = some (.bool (setHas x.set_ y.uid), []) := by
  have w := eq_SetHas x.set_ y.uid (by omega)
  try simp at w
  refine lim_run (E := E) rfl Try.func76 rfl (by kernel_rfl) (by kernel_rfl) ?_
  simp [Try.f76, tmpAt, w]
set_option maxHeartbeats 1000000 in
theorem eq_takeLine (c : Cache) (x : Line) (hx : x.set_.length ≤ 16777216) (hc : c.seens.length ≤ 1048576) : lim E 36 [.pto (encCache false true c), encLine false false x] = some (.tup [], [.pto (encCache false true (takeI c x))]) := by
  have w1 := eq_DeleteFuncSeen c.seens 76 (encLine false false x) (fun y => setHas x.set_ y.uid) rfl (fun m _ => eq_takeLine1 m x hx) (by omega)
  try simp at w1
  have w2 := eq_putSeen c.seens ⟨x.uid, x.flags, x.mod⟩ hc
  try simp at w2
  obtain ⟨kind, num, uid, flags, mod, set_, all_⟩ := x
  obtain ⟨box, valid, cm, seens⟩ := c
  simp only at w1 w2
  by_cases k5 : kind = 5
  · subst k5
    cases ha : all_
    · by_cases hv : num = valid
      · subst hv
        refine lim_run (E := E) rfl Try.func36 rfl (by kernel_rfl) (by kernel_rfl) ?_
        simp [Try.f36, tmpAt]
        refine ⟨trOk_unord (L := [(0, 1), (0, 2), (0, 3), (0, 4), (0, 5), (1, 2), (1, 3), (1, 4), (1, 5), (1, 6), (1, 7), (1, 8), (2, 4), (2, 5), (3, 4), (3, 5), (4, 6), (4, 7), (4, 8), (5, 6), (5, 7), (5, 8)]) (by kernel_rfl) (by simp) (by simp [indepAt, indep, spares, around, aside, pre, isSlc, Tr.feels, Tr.all, moves, bare, opData, isExt, cmpOf, Op.operands, Call.operands, mentL, ment, D.noUndefL, D.noUndef, pureE]), ?_⟩
        simp [takeI]
      · refine lim_run (E := E) rfl Try.func36 rfl (by kernel_rfl) (by kernel_rfl) ?_
        simp [Try.f36, tmpAt, hv]
        refine ⟨trOk_unord (L := [(0, 1), (0, 2), (0, 3), (0, 4), (0, 5), (1, 2), (1, 3), (1, 4), (1, 5), (1, 6), (1, 7), (1, 8), (2, 4), (2, 5), (3, 4), (3, 5), (4, 6), (4, 7), (4, 8), (5, 6), (5, 7), (5, 8)]) (by kernel_rfl) (by simp) (by simp [indepAt, indep, spares, around, aside, pre, isSlc, Tr.feels, Tr.all, moves, bare, opData, isExt, cmpOf, Op.operands, Call.operands, mentL, ment, D.noUndefL, D.noUndef, pureE]), ?_⟩
        simp [takeI, hv]
    · refine lim_run (E := E) rfl Try.func36 rfl (by kernel_rfl) (by kernel_rfl) ?_
      simp [Try.f36, tmpAt]
      refine ⟨trOk_unord (L := [(0, 1), (0, 2), (0, 3), (0, 4), (0, 5), (1, 2), (1, 3), (1, 4), (1, 5), (1, 6), (1, 7), (1, 8), (2, 4), (2, 5), (3, 4), (3, 5), (4, 6), (4, 7), (4, 8), (5, 6), (5, 7), (5, 8)]) (by kernel_rfl) (by simp) (by simp [indepAt, indep, spares, around, aside, pre, isSlc, Tr.feels, Tr.all, moves, bare, opData, isExt, cmpOf, Op.operands, Call.operands, mentL, ment, D.noUndefL, D.noUndef, pureE]), ?_⟩
      simp [takeI]
  · by_cases k4 : kind = 4
    · subst k4
      refine lim_run (E := E) rfl Try.func36 rfl (by kernel_rfl) (by kernel_rfl) ?_
      simp [Try.f36, tmpAt, w1]
      simp [takeI]
    · by_cases k3 : kind = 3
      · subst k3
        refine lim_run (E := E) rfl Try.func36 rfl (by kernel_rfl) (by kernel_rfl) ?_
        simp [Try.f36, tmpAt, w2]
        refine ⟨trOk_unord (L := [(0, 1), (0, 2), (0, 3), (0, 4), (0, 5), (0, 6), (0, 7), (0, 8), (0, 9), (0, 10), (0, 11), (0, 12), (1, 5), (1, 6), (1, 7), (1, 8), (1, 9), (1, 10), (1, 11), (2, 5), (2, 6), (2, 7), (2, 8), (2, 9), (2, 10), (2, 11), (3, 5), (3, 6), (3, 7), (3, 8), (3, 9), (3, 10), (3, 11), (4, 5), (4, 6), (4, 7), (4, 8), (4, 9), (4, 10), (4, 11), (5, 7), (5, 8), (5, 9), (5, 10), (6, 7), (6, 8), (6, 9), (6, 10), (7, 9), (7, 10), (8, 9), (8, 10)]) (by kernel_rfl) (by simp) (by simp [indepAt, indep, spares, around, aside, pre, isSlc, Tr.feels, Tr.all, moves, bare, opData, isExt, cmpOf, Op.operands, Call.operands, mentL, ment, D.noUndefL, D.noUndef, pureE, w2]), ?_⟩
        simp [takeI]
      · refine lim_run (E := E) rfl Try.func36 rfl (by kernel_rfl) (by kernel_rfl) ?_
        simp [Try.f36, tmpAt, k5, k4, k3]
        simp [takeI, k5, k4, k3]
end Go.Proofs.Ytfboojamiabmcaa
