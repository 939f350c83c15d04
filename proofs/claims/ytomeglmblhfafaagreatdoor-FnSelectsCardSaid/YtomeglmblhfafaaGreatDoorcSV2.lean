/- Sessions: the program's Serve of 'select' (of a box that is there) and of 'close'. -/
import Derived.Test.YtomeglmblhfafaaGreatDoorcSV1
import Derived.Test.YtomeglmblhfafaaGreatDoorcH8
set_option linter.unusedSectionVars false
set_option linter.all false
set_option linter.unusedVariables false
set_option linter.unusedSimpArgs false
set_option maxRecDepth 100000
namespace Go.Proofs.YtomeglmblhfafaaGreatDoor
open Go.Lft

set_option maxHeartbeats 1000000 in
theorem eq_askedSelect {s : Store} (x : Session) (n : S) (hok : storeOk s = true) (hb : (boxAt s n).2 = true) : lim E 53 [encStore false false s, encSession false x, .lst false 9 1 [.str [115, 101, 108, 101, 99, 116], .str n]] = some (.tup [encSession true ⟨true, viewOf (boxAt s n).1⟩, .lst true 48 7 ((selLines (boxAt s n).1).map (encLine false true)), .bool true], []) := by
  have w := eq_selected x n hok hb
  generalize (boxAt s n).1 = b at *
  try simp at w
  refine lim_run (E := E) rfl Tryz.func53 rfl (by kernel_rfl) (by kernel_rfl) ?_
  simp [Tryz.f53, tmpAt, w]
set_option maxHeartbeats 1000000 in
theorem eq_askedClose (s : Store) (x : Session) : lim E 53 [encStore false false s, encSession false x, .lst false 9 1 [.str [99, 108, 111, 115, 101]]] = some (.tup [encSession true zeroSession, .lst true 48 7 ([lnOk].map (encLine false true)), .bool true], []) := by
  refine lim_run (E := E) rfl Tryz.func53 rfl (by kernel_rfl) (by kernel_rfl) ?_
  simp [Tryz.f53, tmpAt]
  simp [lnOk]
set_option maxHeartbeats 1000000 in
theorem eq_ServeSelect {s : Store} (x : Session) (n : S) (hok : storeOk s = true) (hb : (boxAt s n).2 = true) : lim E 11 [encStore false false s, encSession false x, .lst false 9 1 [.str [115, 101, 108, 101, 99, 116], .str n]] = some (.tup [encStore false true s, encSession true ⟨true, viewOf (boxAt s n).1⟩, .lst true 48 7 ((selLines (boxAt s n).1).map (encLine false true)), .lst true 65 8 []], []) := by
  have w := eq_askedSelect x n hok hb
  have hs := storeOk_sz hok
  have wo := eq_StoreOk s (by omega)
  rw [hok] at wo
  have wc := eq_copyStore s (by omega)
  generalize (boxAt s n).1 = b at *
  try simp at w
  try simp at wo
  try simp at wc
  refine lim_run (E := E) rfl Tryz.func11 rfl (by kernel_rfl) (by kernel_rfl) ?_
  simp [Tryz.f11, tmpAt, w, wo, wc]
  exact trOk_unord (L := [(0, 2), (0, 3), (1, 2), (1, 3), (2, 3), (2, 4), (3, 4), (3, 5)]) (by kernel_rfl) (by simp) (by simp [indepAt, indep, spares, around, aside, pre, isSlc, Tr.feels, Tr.all, moves, bare, opData, isExt, cmpOf, Op.operands, Call.operands, mentL, ment, D.noUndefL, D.noUndef, pureE, w, wo, wc])
set_option maxHeartbeats 1000000 in
theorem eq_ServeClose {s : Store} (x : Session) (hok : storeOk s = true) : lim E 11 [encStore false false s, encSession false x, .lst false 9 1 [.str [99, 108, 111, 115, 101]]] = some (.tup [encStore false true s, encSession true zeroSession, .lst true 48 7 ([lnOk].map (encLine false true)), .lst true 65 8 []], []) := by
  have w := eq_askedClose s x
  have hs := storeOk_sz hok
  have wo := eq_StoreOk s (by omega)
  rw [hok] at wo
  have wc := eq_copyStore s (by omega)
  try simp at w
  try simp at wo
  try simp at wc
  refine lim_run (E := E) rfl Tryz.func11 rfl (by kernel_rfl) (by kernel_rfl) ?_
  simp [Tryz.f11, tmpAt, w, wo, wc]
  exact trOk_unord (L := [(0, 2), (0, 3), (1, 2), (1, 3), (2, 3), (2, 4), (3, 4), (3, 5)]) (by kernel_rfl) (by simp) (by simp [indepAt, indep, spares, around, aside, pre, isSlc, Tr.feels, Tr.all, moves, bare, opData, isExt, cmpOf, Op.operands, Call.operands, mentL, ment, D.noUndefL, D.noUndef, pureE, w, wo, wc])
end Go.Proofs.YtomeglmblhfafaaGreatDoor
