/- Sessions: 'select' of the program, of a box that is there. -/
import Derived.Test.YtomeglmblhfafaaGreatDoorcTK
import Derived.Test.YtomeglmblhfafaaGreatDoorcF1
import Derived.Test.YtomeglmblhfafaaGreatDoorcP1
import Derived.Test.YtomeglmblhfafaaGreatDoorcH6
set_option linter.unusedSectionVars false
set_option linter.all false
set_option linter.unusedVariables false
set_option linter.unusedSimpArgs false
set_option maxRecDepth 100000
namespace Go.Proofs.YtomeglmblhfafaaGreatDoor
open Go.Lft

def lnValid (b : Box) (all : Bool) : Line := ⟨5, b.valid, 0, 0, b.mod, [], all⟩
def lnOk : Line := ⟨7, 0, 0, 0, 0, [], false⟩
def selLines (b : Box) : List Line := lnValid b true :: lnExists b.mails.length :: (fetchLines 0 0 b.mails ++ [lnOk])
theorem fetchLines_all : ∀ (ms : List Mail) (k : Nat), (∀ m ∈ ms, 0 < m.mod) → (fetchLines 0 k ms).length = ms.length
  | [], k, h => rfl
  | m :: ms, k, h => by
    simp only [fetchLines, if_pos (h m (by simp)), List.length_cons, fetchLines_all ms (k + 1) fun x hx => h x (by simp [hx])]
set_option maxHeartbeats 1000000 in
theorem eq_selected {s : Store} (x : Session) (n : S) (hok : storeOk s = true) (hb : (boxAt s n).2 = true) : lim E 107 [encStore false false s, encSession false x, .lst false 9 1 [.str [115, 101, 108, 101, 99, 116], .str n]] = some (.tup [encSession true ⟨true, viewOf (boxAt s n).1⟩, .lst true 48 7 ((selLines (boxAt s n).1).map (encLine false true))], []) := by
  have hs := storeOk_sz hok
  have w := eq_BoxAt s n (by omega)
  rw [hb] at w
  rcases boxAt_cases hok n with ⟨q1, q2, q3, q4⟩ | ⟨q1, q2⟩
  case inr => rw [hb] at q1; cases q1
  have hsz := sz_box q2
  generalize (boxAt s n).1 = b at *
  try simp at w
  have hml := boxOk_lens q4
  have hn : ∀ m ∈ b.mails, 0 < m.mod := by
    intro m hm
    rw [boxOk_iff] at q4
    obtain ⟨_, _, _, _, _, hq, _⟩ := q4
    have := hq m hm
    unfold MailFine at this
    omega
  have hF := fetchLines_all b.mails 0 hn
  have wv := eq_ViewOf b (by omega)
  try simp at wv
  have bb : ∀ j : Nat, j ≤ 30 → (j + 1) * 72 ≤ 140737488351232 ∧ (2 + j) * 72 ≤ 140737488351232 ∧ (j + 1 + 1 + 1) * 72 ≤ 140737488351232 := fun j hj => by omega
  have hml1 := hml.1
  clear hml hs hsz
  refine lim_run (E := E) rfl Tryz.func107 rfl (by kernel_rfl) (by kernel_rfl) ?_
  simp [Tryz.f107, tmpAt, w]
  refine ⟨trOk_unord (L := [(0, 1), (0, 2), (0, 3), (0, 8), (1, 8), (2, 8), (3, 8), (4, 8), (5, 8), (6, 7), (6, 8), (7, 8), (7, 9)]) (by kernel_rfl) (by simp) (by simp [indepAt, indep, spares, around, aside, pre, isSlc, Tr.feels, Tr.all, moves, bare, opData, isExt, cmpOf, Op.operands, Call.operands, mentL, ment, D.noUndefL, D.noUndef, pureE, w]), ?_⟩
  refine loop_fr [2, 4, 6, 8, 10, 41, 42] [(4,0), (6,0), (8,0), (10,0)] (fun m st => ∃ (i r : Nat) (L : List Line), i + m = b.mails.length ∧ (r = 39 ∨ r = 54) ∧ L ++ fetchLines 0 i (b.mails.drop i) = fetchLines 0 0 b.mails ∧ L.length = i ∧ st.env 11 = .slc (r,0) [] 0 i ∧ st.rs (r,0) = some ⟨false, .lst true 48 7 (L.map (encLine false true))⟩ ∧ st.env 43 = .int .i64 i) (b.mails.length) _ ?_ ?_
  · exact ⟨0, 39, [], by simp⟩
  rintro m0 ⟨env, rs⟩ hU0 hV0 ⟨i, r, L, hi, hr, hL, hl, e11, q11, e0_43⟩ ih0; simp at hU0 hV0 e0_43
  simp at e11 q11
  have hu := wrap_up (show i < 4611686018427387904 by omega)
  have hr2 := hr
  obtain ⟨b1, b2, b3⟩ := bb i (by clear hr hr2 hu; omega)
  simp [hU0, hV0, e0_43]
  refine RB_dec ?_ ?_ <;> intro h
  · rw [List.drop_eq_getElem_cons h] at hL
    simp only [fetchLines, if_pos (hn _ (List.getElem_mem h))] at hL
    have wf := eq_fetchOf b.mails[i] ((i + 1 : Nat) : Int)
    try simp at wf
    rcases hr with rfl | rfl
    all_goals
      simp [hU0, hV0, e0_43, h, e11, q11, hu, wf, b1, hl]
      refine ih0 (m0 - 1) _ (by omega) ?_ ?_ ⟨i + 1, 54, L ++ [lnFetch b.mails[i] ((i + 1 : Nat) : Int)], by omega, .inr rfl, by simpa using hL, by simp [hl], ?_⟩
      · simp [hU0, hV0, e0_43]
      · simp [hU0, hV0, e0_43]
      simp [hU0, hV0, e0_43, hu, lnFetch]
  · have hd : b.mails.drop i = [] := List.drop_eq_nil_of_le (by omega)
    rw [hd] at hL
    simp only [fetchLines, List.append_nil] at hL
    have hil : i = b.mails.length := by clear hr hr2 hu b1 b2 b3; omega
    rcases hr with rfl | rfl
    all_goals
      simp [hU0, hV0, e0_43, h, e11, q11, wv, hl, b2, b3]
      have hsel : selLines b = lnValid b true :: lnExists b.mails.length :: (L ++ [lnOk]) := by rw [hL]; rfl
      simp [hsel, lnValid, lnExists, lnOk]
end Go.Proofs.YtomeglmblhfafaaGreatDoor
