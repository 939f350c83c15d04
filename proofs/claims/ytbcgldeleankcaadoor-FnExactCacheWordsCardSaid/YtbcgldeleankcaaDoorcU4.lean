/- Commands: the program's isList, wordText and CommandText. -/
import Derived.Test.YtbcgldeleankcaaDoorcQ3
import Derived.Test.YtbcgldeleankcaaDoorcU3
set_option linter.unusedSectionVars false
set_option linter.all false
set_option linter.unusedVariables false
set_option linter.unusedSimpArgs false
set_option maxRecDepth 100000
namespace Go.Proofs.YtbcgldeleankcaaDoor
open Go.Lft

theorem part_len : ∀ (u : S) (p : S), p ∈ splitL u → p.length ≤ u.length := by
  intro u
  induction u with
  | nil => intro p hp; simp [splitL] at hp; simp [hp]
  | cons b u ih =>
    intro p hp
    obtain ⟨q, qs, hq⟩ := splitL_ne u
    by_cases hb : b = 32
    · simp only [splitL, hb, if_true, List.mem_cons] at hp
      rcases hp with rfl | hp
      · simp
      · have := ih p hp; simp; omega
    · simp only [splitL, hb, if_false, hq, List.mem_cons] at hp
      rcases hp with rfl | hp
      · have := ih q (by rw [hq]; simp); simp; omega
      · have := ih p (by rw [hq]; simp [hp]); simp; omega
theorem eq_Split (s : S) (hl : s.length ≤ 1048576) : lim E 86 [.str s, .str [32]] = some (.lst true 9 1 ((splitL s).map .str), []) := by
  have w := eq_genSplit s hl
  try simp at w
  refine lim_run (E := E) rfl Tryd.func86 rfl (by kernel_rfl) (by kernel_rfl) ?_
  simp [Tryd.f86, tmpAt, w]
set_option maxHeartbeats 1000000 in
theorem eq_isList (w : S) (hw : w.length ≤ 1048576) : lim E 59 [.str w] = some (.bool (listW w), []) := by
  rw [← isListM_eq]
  have w1 := eq_CutPrefix w 40 hw
  by_cases h1 : w.head? = some 40
  case neg =>
    have w2 := eq_CutSuffix w 41 hw
    simp [h1] at w1
    by_cases h2 : w.getLast? = some 41
    · simp [h2] at w2
      refine lim_run (E := E) rfl Tryd.func59 rfl (by kernel_rfl) (by kernel_rfl) ?_
      simp [Tryd.f59, tmpAt, w1, w2]
      simp [isListM, h1]
    · simp [h2] at w2
      refine lim_run (E := E) rfl Tryd.func59 rfl (by kernel_rfl) (by kernel_rfl) ?_
      simp [Tryd.f59, tmpAt, w1, w2]
      simp [isListM, h1]
  simp only [h1, if_true, decide_true] at w1
  have hv : (w.drop 1).length ≤ 1048576 := by simp; omega
  have hM : isListM w = (decide ((w.drop 1).getLast? = some 41) && (decide ((w.drop 1).take ((w.drop 1).length - 1) = []) || (splitL ((w.drop 1).take ((w.drop 1).length - 1))).all plainW)) := by simp [isListM, h1]
  rw [hM]
  clear hM
  generalize w.drop 1 = v at *
  have w2 := eq_CutSuffix v 41 hv
  by_cases h2 : v.getLast? = some 41
  case neg =>
    simp [h2] at w2
    refine lim_run (E := E) rfl Tryd.func59 rfl (by kernel_rfl) (by kernel_rfl) ?_
    simp [Tryd.f59, tmpAt, w1, w2]
    simp [h2]
  simp only [h2, if_true, decide_true] at w2
  have hu : (v.take (v.length - 1)).length ≤ 1048576 := by simp; omega
  simp only [h2, decide_true, Bool.true_and]
  generalize v.take (v.length - 1) = u at *
  by_cases h3 : u = []
  · subst h3
    refine lim_run (E := E) rfl Tryd.func59 rfl (by kernel_rfl) (by kernel_rfl) ?_
    simp [Tryd.f59, tmpAt, w1, w2]
  have w3 := eq_Split u hu
  have hne : (splitL u).length = blanks u + 1 := split_len u
  have hbl : blanks u ≤ u.length := List.count_le_length
  try simp at w3
  refine lim_run (E := E) rfl Tryd.func59 rfl (by kernel_rfl) (by kernel_rfl) ?_
  simp [Tryd.f59, tmpAt, w1, w2, w3, h3]
  refine loop_fr [28, 29] [(28,0)] (fun m st => ∃ (i : Nat), i + m = (splitL u).length ∧ ((splitL u).take i).all plainW = true ∧ st.env 30 = .int .i64 i) ((splitL u).length) _ ?_ ?_
  · exact ⟨0, by simp⟩
  rintro m0 ⟨env, rs⟩ hU0 hV0 ⟨i, hi, ha, e0_30⟩ ih0; simp at hU0 hV0 e0_30
  have hw1 := wrap_up (show i < 4611686018427387904 by omega)
  simp [hU0, hV0, e0_30]
  refine RB_dec ?_ ?_ <;> intro h
  · have hpl := part_len u (splitL u)[i] (List.getElem_mem h)
    have wp := eq_isPlain (splitL u)[i] (by omega)
    cases hp : plainW (splitL u)[i]
    · rw [hp] at wp
      have hb := all_bad (f := plainW) h hp
      simp [hU0, hV0, e0_30, h, wp, hb]
    · rw [hp] at wp
      simp [hU0, hV0, e0_30, h, wp]
      refine ih0 (m0 - 1) _ (by omega) ?_ ?_ ⟨i + 1, by omega, all_next h ha hp, ?_⟩
      · simp [hU0, hV0, e0_30]
      · simp [hU0, hV0, e0_30]
      simp [hU0, hV0, e0_30, hw1]
  · have hb := all_take h ha
    simp [hU0, hV0, e0_30, h, hb]
theorem dec_digits (n : Nat) (h : n < 100) : Go.Lib.decDigits n = dec n := by
  unfold Go.Lib.decDigits dec fig
  by_cases h1 : n < 10
  · simp [h1]
  · simp only [h1, dif_neg, not_false_eq_true, if_false, h, if_true]
    unfold Go.Lib.decDigits
    have h2 : n / 10 < 10 := by omega
    simp [h2]
theorem dec_digits3 (n : Nat) (h : n < 1000) : Go.Lib.decDigits n = dec n := by
  by_cases h1 : n < 100
  · exact dec_digits n h1
  · unfold Go.Lib.decDigits
    have h2 : ¬ n < 10 := by omega
    simp only [h2, dif_neg, not_false_eq_true]
    rw [dec_digits (n / 10) (by omega)]
    have h3 : ¬ n / 10 < 10 := by omega
    have h4 : n / 10 < 100 := by omega
    unfold dec fig
    simp [h1, h2, h3, h4, Nat.div_div_eq_div_mul]
theorem eq_Itoa (n : Nat) (h : n < itoaMax) : lim E 75 [.int .i64 (n : Int)] = some (.str (dec n), []) := by
  rw [lim_ext ext75]
  unfold itoaMax at h
  first
    | simp only [extItoa]
      rw [if_pos ⟨by omega, by omega⟩, Int.toNat_natCast, dec_digits n h]
    | simp only [extItoaT, Go.Lib.itoa]
      rw [if_pos ⟨by omega, by omega⟩, if_neg (by omega), Int.toNat_natCast, dec_digits3 n (by omega)]
theorem eq_Decimal (n : Nat) (h : n < itoaMax) : lim E 45 [.int .i64 (n : Int)] = some (.str (dec n), []) := by
  have w := eq_Itoa n h
  refine lim_run (E := E) rfl Tryd.func45 rfl (by kernel_rfl) (by kernel_rfl) ?_
  simp [Tryd.f45, tmpAt, w]
theorem eq_wordText (w : S) (hw : w.length ≤ 1048576) (h : shownW w = true ∨ w.length < itoaMax) : lim E 36 [.str w] = some (.str (wordText w), []) := by
  have w1 := eq_isPlain w hw
  have w2 := eq_isList w hw
  have w3 := eq_isShown w hw
  have w4 := eq_quoted w hw
  unfold wordText
  cases p1 : plainW w
  · cases p2 : listW w
    · cases p3 : shownW w
      · rcases h with h | h
        · rw [p3] at h; cases h
        have w5 := eq_Decimal w.length h
        refine lim_run (E := E) rfl Tryd.func36 rfl (by kernel_rfl) (by kernel_rfl) ?_
        simp [Tryd.f36, tmpAt, w1, w2, w3, w5, p1, p2, p3]
        have hd := dec_len w.length
        refine ⟨by simp [strMax]; omega, by simp [strMax]; omega, by simp [strMax]; omega, by simp [strMax]; omega, by simp [litW]⟩
      · refine lim_run (E := E) rfl Tryd.func36 rfl (by kernel_rfl) (by kernel_rfl) ?_
        simp [Tryd.f36, tmpAt, w1, w2, w3, w4, p1, p2, p3]
    · refine lim_run (E := E) rfl Tryd.func36 rfl (by kernel_rfl) (by kernel_rfl) ?_
      simp [Tryd.f36, tmpAt, w1, w2, p1, p2]
  · refine lim_run (E := E) rfl Tryd.func36 rfl (by kernel_rfl) (by kernel_rfl) ?_
    simp [Tryd.f36, tmpAt, w1, p1]
theorem join_words : ∀ (ws : List S), Go.Lib.join (ws.map wordText) [32] = wordsText ws
  | [] => rfl
  | w :: ws => by
    rw [List.map_cons, Go.Lib.join_cons]
    induction ws generalizing w with
    | nil => simp [Go.Lib.joinTail, wordsText]
    | cons v vs ih =>
      have h1 := ih v
      simp only [wordsText, List.map_cons, Go.Lib.joinTail, List.flatten_cons, List.singleton_append, List.cons_append, List.nil_append] at h1 ⊢
      rw [h1]
theorem eq_Join (xs : List S) (sep : S) (h1 : xs.length ≤ 16777216) (h2 : (Go.Lib.join xs sep).length ≤ 16777216) : lim E 37 [.lst true 9 1 (xs.map .str), .str sep] = some (.str (Go.Lib.join xs sep), [.undef]) := by
  rw [lim_ext ext37]
  simp [extJoin, h1, h2]
theorem wordText_le (w : S) : (wordText w).length ≤ 2 * w.length + 7 := by
  unfold wordText
  split
  · omega
  · split
    · have := flat_le w; simp [quotedW]; simp at this; omega
    · have := dec_len w.length; simp [litW]; omega
theorem words_le : ∀ (ws : List S), (∀ w ∈ ws, w.length ≤ 300) → (wordsText ws).length ≤ 608 * ws.length
  | [], _ => by simp [wordsText]
  | [w], h => by have := wordText_le w; have := h w (by simp); simp [wordsText]; omega
  | w :: v :: vs, h => by
    have h1 := words_le (v :: vs) (fun x hx => h x (List.mem_cons_of_mem _ hx))
    have := wordText_le w; have := h w (by simp)
    simp only [wordsText, List.length_append, List.length_cons] at h1 ⊢
    omega
theorem take_mapN {α β : Type} (f : α → β) (xs : List α) (i : Nat) (h : i < xs.length) : (xs.take (i + 1)).map f = (xs.take i).map f ++ [f xs[i]] := by
  rw [List.take_succ_eq_append_getElem h, List.map_append]; rfl
def cmdOk (ws : List S) : Bool := decide (1 ≤ ws.length ∧ ws.length ≤ 12) && (ws.all (fun w => decide (w.length ≤ 300)) && decide ((cmdL ws).length ≤ 300))
set_option maxHeartbeats 1000000 in
theorem eq_CommandText (ws : List S) (hl : ws.length ≤ 1048576) (hs : ∀ w ∈ ws, shownW w = true ∨ w.length < itoaMax ∨ 300 < w.length) : lim E 11 [.lst false 9 1 (ws.map .str)] = some (.tup [.str (if cmdOk ws = true then cmdL ws else []), .bool (cmdOk ws)], []) := by
  cases h0 : within ws.length 1 12
  · have hc : cmdOk ws = false := by
      simp only [within, Bool.and_eq_false_iff, decide_eq_false_iff_not] at h0
      simp only [cmdOk, Bool.and_eq_false_iff, decide_eq_false_iff_not]
      left; omega
    refine lim_run (E := E) rfl Tryd.func11 rfl (by kernel_rfl) (by kernel_rfl) ?_
    simp [Tryd.f11, tmpAt, h0]
    simp [hc]
  have h12 : 1 ≤ ws.length ∧ ws.length ≤ 12 := by simp [within] at h0; omega
  refine lim_run (E := E) rfl Tryd.func11 rfl (by kernel_rfl) (by kernel_rfl) ?_
  simp [Tryd.f11, tmpAt, h0]
  refine loop_fr [13, 14] [] (fun m st => ∃ (i r : Nat) (xs : List S), i + m = ws.length ∧ (r = 12 ∨ r = 26) ∧ xs = (ws.take i).map wordText ∧ (ws.take i).all (fun w => decide (w.length ≤ 300)) = true ∧ st.env 4 = .slc (r,0) [] 0 xs.length ∧ st.rs (r,0) = some ⟨false, .lst true 9 1 (xs.map .str)⟩ ∧ st.env 15 = .int .i64 i) (ws.length) _ ?_ ?_
  · exact ⟨0, 12, [], by simp⟩
  rintro m0 ⟨env, rs⟩ hU0 hV0 ⟨i, r, xs, hi, hr, hx, ha, e4, q, e0_15⟩ ih0; simp at hU0 e0_15; clear hV0
  simp at e4 q
  have hu := wrap_up (show i < 4611686018427387904 by omega)
  have hxl : xs.length ≤ 12 := by rw [hx]; simp; omega
  simp [hU0, e0_15]
  refine RB_dec ?_ ?_ <;> intro h
  · simp [hU0, e0_15, h]
    refine RB_dec ?_ ?_ <;> intro h2
    · have hb := all_bad (f := fun w : S => decide (w.length ≤ 300)) h (by simp; omega)
      have hc : cmdOk ws = false := by simp [cmdOk, hb]
      simp [hU0, e0_15, hc]
    · have hwt := eq_wordText ws[i] (by omega) ((hs _ (List.getElem_mem h)).imp_right fun h => h.resolve_right (by omega))
      have hn := take_mapN wordText ws i h
      have hb1 : (xs.length + 1) * 16 ≤ 140737488351232 := by omega
      rcases hr with rfl | rfl
      all_goals
        simp [hU0, e0_15, e4, q, h, hwt, hb1]
        repeat (refine And.intro (by first | omega | (simp; omega)) ?_)
        refine ih0 (m0 - 1) _ (by omega) ?_ ?_ ⟨i + 1, 26, xs ++ [wordText ws[i]], by omega, by simp, by rw [hn, hx], all_next h ha (by simp; omega), ?_⟩
        · simp [hU0, e0_15]
        · simp [hU0, e0_15]
        simp [hU0, e0_15, hu]
  · have ht : ws.take i = ws := List.take_of_length_le (by omega)
    rw [ht] at ha hx
    have hie : i = ws.length := by omega
    have hwl := words_le ws (by simpa using ha)
    have wj := eq_Join xs [32] (by omega) (by rw [hx, join_words]; omega)
    rw [hx, join_words, ← hx] at wj
    have hc : cmdOk ws = decide ((cmdL ws).length ≤ 300) := by simp [cmdOk, ha, h12]
    have hcl : (cmdL ws).length = (wordsText ws).length + 2 := by simp [cmdL]
    rw [hc]
    try simp at wj
    rcases hr with rfl | rfl
    all_goals
      simp [hU0, e0_15, e4, q, h, wj]
      refine ⟨by simp [strMax]; omega, ?_⟩
      refine RB_dec ?_ ?_ <;> intro h3
      · have h4 : ¬ (cmdL ws).length ≤ 300 := by omega
        simp [hU0, e0_15, h4]
      · have h4 : (cmdL ws).length ≤ 300 := by omega
        simp [hU0, e0_15, h4]
        simp [cmdL]
end Go.Proofs.YtbcgldeleankcaaDoor
