/- Commands: the reference's words as texts, and its CommandText. -/
import Derived.Test.YtbcgldeleankcaaDoorcU4
import Derived.Test.YtbcgldeleankcaaDoorcB5
set_option linter.unusedSectionVars false
set_option linter.all false
set_option linter.unusedVariables false
set_option linter.unusedSimpArgs false
set_option maxRecDepth 100000
namespace Go.Proofs.YtbcgldeleankcaaDoor
open Go.Lft

theorem eq_l15Plain (w : S) (hw : w.length ≤ 1048576) : lim E 65 [.str w] = some (.bool (plainW w), []) := by
  refine lim_run (E := E) rfl Tryd.func65 rfl (by kernel_rfl) (by kernel_rfl) ?_
  simp [Tryd.f65, tmpAt]
  refine loop_fr [0] [] (fun m st => ∃ (i : Nat), i + m = w.length ∧ (w.take i).all plainByte = true ∧ st.env 3 = .int .i64 i) (w.length) _ ?_ ?_
  · exact ⟨0, by simp⟩
  rintro m0 ⟨env, rs⟩ hU0 hV0 ⟨i, hi, ha, e0_3⟩ ih0; simp at hU0 e0_3; clear hV0
  have hu := wrap_up (show i < 4611686018427387904 by omega)
  simp [hU0, e0_3]
  refine RB_dec ?_ ?_ <;> intro h
  · have wp := eq_l15Byte w[i]
    cases hp : plainByte w[i]
    · rw [hp] at wp
      have hb := all_bad (f := plainByte) h hp
      simp [hU0, e0_3, h, wp]
      simp [plainW, hb]
    · rw [hp] at wp
      simp [hU0, e0_3, h, wp]
      refine ih0 (m0 - 1) _ (by omega) ?_ ?_ ⟨i + 1, by omega, all_next h ha hp, ?_⟩
      · simp [hU0, e0_3]
      · simp [hU0, e0_3]
      simp [hU0, e0_3, hu]
  · have hb := all_take h ha
    have he : within (w.length : Int) 1 60 = plainW w := by
      rw [Bool.eq_iff_iff]; simp [within, plainW, hb]; omega
    simp [hU0, e0_3, h, he]
set_option maxHeartbeats 1000000 in
theorem eq_l15Quoted (w : S) (hw : w.length ≤ 1048576) : lim E 67 [.str w] = some (.tup [.str (if shownW w = true then quotedW w else []), .bool (shownW w)], []) := by
  refine lim_run (E := E) rfl Tryd.func67 rfl (by kernel_rfl) (by kernel_rfl) ?_
  simp [Tryd.f67, tmpAt]
  refine loop_fr [0] [] (fun m st => ∃ (i : Nat) (out : S), i + m = w.length ∧ out = 34 :: (w.take i).flatMap quoteB ∧ (w.take i).all (fun b => within b.toNat 32 126) = true ∧ st.env 4 = .str out ∧ st.env 5 = .int .i64 i) (w.length) _ ?_ ?_
  · exact ⟨0, [34], by simp⟩
  rintro m0 ⟨env, rs⟩ hU0 hV0 ⟨i, out, hi, ho, ha, e0_4, e0_5⟩ ih0; simp at hU0 e0_4 e0_5; clear hV0
  have hu := wrap_up (show i < 4611686018427387904 by omega)
  have hl : out.length ≤ 2 * i + 1 := by
    rw [ho]; have := flat_le (w.take i); simp at this ⊢; omega
  simp [hU0, e0_4, e0_5]
  refine RB_dec ?_ ?_ <;> intro h
  · have hn := flat_next w i h
    have q34 := byteEq w[i] 34 (by omega)
    have q92 := byteEq w[i] 92 (by omega)
    have h1 : i + 1 ≤ w.length := by omega
    have hsl : (w.drop i).take 1 = [w[i]] := by
      rw [List.drop_eq_getElem_cons h]; rfl
    have hmn : min 1 (w.length - i) = 1 := by omega
    have h0i : (0 : Int) ≤ (i : Int) + 1 := by omega
    have hti : ((i : Int) + 1).toNat = i + 1 := by omega
    cases hs : within (w[i].toNat : Int) 32 126
    · have hb := all_bad (f := fun b : UInt8 => within b.toNat 32 126) h hs
      have hs2 := hs
      rw [within_def] at hs2
      by_cases g : (w[i].toNat : Int) < 32
      · simp [hU0, e0_4, e0_5, h, tmpAt, g]
        simp [shownW, hb]
      · have g' : (126 : Int) < w[i].toNat := by omega
        simp [hU0, e0_4, e0_5, h, tmpAt, g, g']
        simp [shownW, hb]
    · have hs2 : ¬ (w[i].toNat : Int) < 32 ∧ ¬ (126 : Int) < w[i].toNat := by simp [within] at hs; omega
      by_cases g1 : (w[i].toNat : Int) = 34
      · have hq : quoteB w[i] = [92, w[i]] := by unfold quoteB; rw [if_pos (.inl (q34.2 g1))]
        simp [hU0, e0_4, e0_5, h, tmpAt, hs2, g1, h1, hsl, hmn, h0i, hti, hu]
        refine ⟨by simp [strMax]; omega, by simp [strMax]; omega, ?_⟩
        refine ih0 (m0 - 1) _ (by omega) ?_ ?_ ⟨i + 1, out ++ [92, w[i]], by omega, by rw [hn, hq, ho]; simp, all_next h ha hs, ?_⟩
        · simp [hU0, e0_4, e0_5]
        · simp [hU0, e0_4, e0_5]
        simp [hU0, e0_4, e0_5]
      · by_cases g2 : (w[i].toNat : Int) = 92
        · have hq : quoteB w[i] = [92, w[i]] := by unfold quoteB; rw [if_pos (.inr (q92.2 g2))]
          simp [hU0, e0_4, e0_5, h, tmpAt, hs2, g1, g2, h1, hsl, hmn, h0i, hti, hu]
          refine ⟨by simp [strMax]; omega, by simp [strMax]; omega, ?_⟩
          refine ih0 (m0 - 1) _ (by omega) ?_ ?_ ⟨i + 1, out ++ [92, w[i]], by omega, by rw [hn, hq, ho]; simp, all_next h ha hs, ?_⟩
          · simp [hU0, e0_4, e0_5]
          · simp [hU0, e0_4, e0_5]
          simp [hU0, e0_4, e0_5]
        · have hq : quoteB w[i] = [w[i]] := by unfold quoteB; rw [if_neg (fun hc => hc.elim (fun h => g1 (q34.1 h)) (fun h => g2 (q92.1 h)))]
          simp [hU0, e0_4, e0_5, h, tmpAt, hs2, g1, g2, h1, hsl, hmn, h0i, hti, hu]
          refine ⟨by simp [strMax]; omega, ?_⟩
          refine ih0 (m0 - 1) _ (by omega) ?_ ?_ ⟨i + 1, out ++ [w[i]], by omega, by rw [hn, hq, ho]; simp, all_next h ha hs, ?_⟩
          · simp [hU0, e0_4, e0_5]
          · simp [hU0, e0_4, e0_5]
          simp [hU0, e0_4, e0_5]
  · have ht : w.take i = w := List.take_of_length_le (by omega)
    rw [ht] at ho ha
    have hsh : shownW w = true := ha
    simp [hU0, e0_4, e0_5, h, hsh]
    refine ⟨by simp [strMax]; omega, ?_⟩
    simp [quotedW, ho]
theorem eq_l01Figure (d : Nat) (h : d < 10) : lim E 70 [.int .i64 (d : Int)] = some (.int .u8 ((fig d).toNat : Int), []) := by
  have h1 : (d : Int) < 10 := by omega
  have hw : IntKind.i64.wrap (48 + (d : Int)) = 48 + (d : Int) := wrap_in (by omega) (by omega)
  have hw8 : IntKind.u8.wrap (48 + (d : Int)) = 48 + (d : Int) := by rw [IntKind.wrap_u8]; omega
  have hf := fig_nat h
  refine lim_run (E := E) rfl Tryd.func70 rfl (by kernel_rfl) (by kernel_rfl) ?_
  simp [Tryd.f70, tmpAt, h1, hw, hw8]
  omega
set_option maxHeartbeats 1000000 in
theorem eq_sDecimal (n : Nat) (hn : n ≤ 1048576) : lim E 42 [.int .i64 (n : Int)] = some (.str (Go.Lib.decDigits n), []) := by
  by_cases h0 : n = 0
  · subst h0
    refine lim_run (E := E) rfl Tryd.func42 rfl (by kernel_rfl) (by kernel_rfl) ?_
    simp [Tryd.f42, tmpAt]
    unfold Go.Lib.decDigits
    rfl
  have h1 : ¬ (n : Int) < 0 := by omega
  have h2 : ¬ (n : Int) = 0 := by omega
  refine lim_run (E := E) rfl Tryd.func42 rfl (by kernel_rfl) (by kernel_rfl) ?_
  simp [Tryd.f42, tmpAt, h0, h1, h2]
  refine loop_fr [3] [] (fun m st => ∃ (k : Nat) (s : S), k ≤ m ∧ ((k = 0 ∧ s = Go.Lib.decDigits n) ∨ (k ≠ 0 ∧ Go.Lib.decDigits n = Go.Lib.decDigits k ++ s)) ∧ s.length + k ≤ 1048600 ∧ st.env 0 = .int .i64 k ∧ st.env 4 = .str s) (n) _ ?_ ?_
  · exact ⟨n, [], by simp [h0]; omega⟩
  rintro m0 ⟨env, rs⟩ hU0 hV0 ⟨k, s, hkm, hd, hsl, e0_0, e0_4⟩ ih0; simp at hU0 e0_0 e0_4; clear hV0
  by_cases hk : k = 0
  · subst hk
    have hs : s = Go.Lib.decDigits n := by rcases hd with h | h; exact h.2; exact absurd rfl h.1
    simp [hU0, e0_0, e0_4, hs]
  · have hdd : Go.Lib.decDigits n = Go.Lib.decDigits k ++ s := by rcases hd with h | h; exact absurd h.1 hk; exact h.2
    have hkI : ¬ (k : Int) = 0 := by omega
    obtain ⟨d, hdv⟩ : ∃ d : Nat, k % 10 = d := ⟨_, rfl⟩
    obtain ⟨q, hqv⟩ : ∃ q : Nat, k / 10 = q := ⟨_, rfl⟩
    have hd9 : d < 10 := by omega
    have hm10 : (k : Int).tmod 10 = (d : Int) := by rw [Int.tmod_eq_emod_of_nonneg (by omega)]; omega
    have hd10 : (k : Int).tdiv 10 = (q : Int) := by rw [Int.tdiv_eq_ediv_of_nonneg (by omega)]; omega
    have hwd : IntKind.i64.wrap (q : Int) = (q : Int) := wrap_in (by omega) (by omega)
    have hlt : ¬ (d : Int) < 0 := by omega
    have wf := eq_l01Figure d hd9
    have hcap : s.length ≤ 4611686018427387903 := by omega
    have hk10 : Go.Lib.decDigits k = if k < 10 then [fig k] else Go.Lib.decDigits q ++ [fig d] := by
      rw [← hdv, ← hqv]
      conv => lhs; unfold Go.Lib.decDigits
      split <;> rfl
    simp [hU0, e0_0, e0_4, hk, hkI, hm10, hd10, hwd, hlt, wf, hcap]
    refine ⟨by simp [strMax]; omega, ?_⟩
    refine ih0 (m0 - 1) _ (by omega) ?_ ?_ ⟨q, fig d :: s, by omega, ?_, by simp; omega, ?_⟩
    · simp [hU0, e0_0, e0_4]
    · simp [hU0, e0_0, e0_4]
    · by_cases h9 : k < 10
      · left
        rw [if_pos h9] at hk10
        have : d = k := by omega
        exact ⟨by omega, by rw [hdd, hk10, this]; rfl⟩
      · right
        rw [if_neg h9] at hk10
        exact ⟨by omega, by rw [hdd, hk10]; simp⟩
    · simp [hU0, e0_0, e0_4]
set_option maxHeartbeats 1000000 in
theorem eq_l15Word (w : S) (hw : w.length < 1000) : lim E 39 [.str w] = some (.str (wordText w), []) := by
  have w1 := eq_l15Plain w (by omega)
  have w3 := eq_l15Quoted w (by omega)
  have w4 := eq_sDecimal w.length (by omega)
  rw [dec_digits3 w.length hw] at w4
  have hd := dec_len w.length
  have hlit : 1 + (dec w.length).length ≤ strMax ∧ (dec w.length).length + 1 + 3 ≤ strMax ∧ (dec w.length).length + 3 + 1 + w.length ≤ strMax ∧ 123 :: (dec w.length ++ 125 :: 13 :: 10 :: w) = litW w := ⟨by simp [strMax]; omega, by simp [strMax]; omega, by simp [strMax]; omega, by simp [litW]⟩
  unfold wordText
  cases p1 : plainW w
  case true =>
    refine lim_run (E := E) rfl Tryd.func39 rfl (by kernel_rfl) (by kernel_rfl) ?_
    simp [Tryd.f39, tmpAt, w1, p1]
  by_cases h1 : 1 < w.length
  case neg =>
    have p2 : listW w = false := by simp [listW, h1]
    have h1' : ¬ (1 : Int) < w.length := by omega
    cases p3 : shownW w
    · rw [p3] at w3
      simp at w3
      refine lim_run (E := E) rfl Tryd.func39 rfl (by kernel_rfl) (by kernel_rfl) ?_
      simp [Tryd.f39, tmpAt, w1, w3, w4, p1, p2, h1, h1', tmpAt]
      exact hlit
    · rw [p3] at w3
      simp at w3
      refine lim_run (E := E) rfl Tryd.func39 rfl (by kernel_rfl) (by kernel_rfl) ?_
      simp [Tryd.f39, tmpAt, w1, w3, w4, p1, p2, h1, h1', tmpAt]
  have h1' : (1 : Int) < w.length := by omega
  have h0 : 0 < w.length := by omega
  have q40 := byteEq w[0] 40 (by omega)
  have hB : isB w 0 40 = decide ((w[0].toNat : Int) = 40) := by rw [Bool.eq_iff_iff]; simp [isB, List.getElem?_eq_getElem h0]; exact q40
  by_cases g : (w[0].toNat : Int) = 40
  case neg =>
    have p2 : listW w = false := by simp [listW, hB, g]
    cases p3 : shownW w
    · rw [p3] at w3
      simp at w3
      refine lim_run (E := E) rfl Tryd.func39 rfl (by kernel_rfl) (by kernel_rfl) ?_
      simp [Tryd.f39, tmpAt, w1, w3, w4, p1, p2, h1, h1', h0, g, tmpAt]
      exact hlit
    · rw [p3] at w3
      simp at w3
      refine lim_run (E := E) rfl Tryd.func39 rfl (by kernel_rfl) (by kernel_rfl) ?_
      simp [Tryd.f39, tmpAt, w1, w3, w4, p1, p2, h1, h1', h0, g, tmpAt]
  have w5 := eq_l15List w 0 h0 (by omega)
  have p2 : listW w = decide (sl (w.drop 1) 1 0 true = w.length) := by simp [listW, h1, hB, g]
  try simp at w5
  cases p3 : shownW w
  all_goals
    rw [p3] at w3
    try simp at w3
    by_cases g2 : sl (w.drop 1) 1 0 true = w.length
    · have p2' : listW w = true := by rw [p2]; simpa using g2
      try simp at g2
      refine lim_run (E := E) rfl Tryd.func39 rfl (by kernel_rfl) (by kernel_rfl) ?_
      simp [Tryd.f39, tmpAt, w1, w3, w4, w5, p1, p2', h1, h1', h0, g, g2, tmpAt]
    · have p2' : listW w = false := by rw [p2]; simpa using g2
      try simp at g2
      refine lim_run (E := E) rfl Tryd.func39 rfl (by kernel_rfl) (by kernel_rfl) ?_
      simp [Tryd.f39, tmpAt, w1, w3, w4, w5, p1, p2', h1, h1', h0, g, g2, tmpAt]
      first | done | exact hlit
theorem words_next (ws : List S) (i : Nat) (h : i < ws.length) : wordsText (ws.take (i + 1)) = (if i = 0 then wordsText (ws.take i) else wordsText (ws.take i) ++ [32]) ++ wordText ws[i] := by
  have key : ∀ (xs : List S) (w : S), wordsText (xs ++ [w]) = (if xs = [] then [] else wordsText xs ++ [32]) ++ wordText w := by
    intro xs
    induction xs with
    | nil => intro w; simp [wordsText]
    | cons x xs ih =>
      intro w
      cases xs with
      | nil => simp [wordsText]
      | cons y ys =>
        have := ih w
        simp only [List.cons_append] at this ⊢
        simp only [wordsText]
        rw [this]
        simp [wordsText]
  rw [List.take_succ_eq_append_getElem h, key]
  by_cases h0 : i = 0
  · subst h0; simp [wordsText]
  · have : ws.take i ≠ [] := by intro hc; have h9 := congrArg List.length hc; rw [List.length_take] at h9; simp only [List.length_nil] at h9; omega
    rw [if_neg this, if_neg h0]
set_option maxHeartbeats 1000000 in
theorem eq_sCommandText (ws : List S) (hl : ws.length ≤ 1048576) : lim E 12 [.lst false 9 1 (ws.map .str)] = some (.tup [.str (if cmdOk ws = true then cmdL ws else []), .bool (cmdOk ws)], []) := by
  cases h0 : within ws.length 1 12
  · have hc : cmdOk ws = false := by
      simp only [within, Bool.and_eq_false_iff, decide_eq_false_iff_not] at h0
      simp only [cmdOk, Bool.and_eq_false_iff, decide_eq_false_iff_not]
      left; omega
    refine lim_run (E := E) rfl Tryd.func12 rfl (by kernel_rfl) (by kernel_rfl) ?_
    simp [Tryd.f12, tmpAt, h0]
    simp [hc]
  have h12 : 1 ≤ ws.length ∧ ws.length ≤ 12 := by simp [within] at h0; omega
  refine lim_run (E := E) rfl Tryd.func12 rfl (by kernel_rfl) (by kernel_rfl) ?_
  simp [Tryd.f12, tmpAt, h0]
  refine loop_fr [0] [] (fun m st => ∃ (i : Nat) (s : S), i + m = ws.length ∧ s = wordsText (ws.take i) ∧ (ws.take i).all (fun w => decide (w.length ≤ 300)) = true ∧ st.env 4 = .str s ∧ st.env 5 = .int .i64 i) (ws.length) _ ?_ ?_
  · exact ⟨0, [], by simp [wordsText]⟩
  rintro m0 ⟨env, rs⟩ hU0 hV0 ⟨i, s, hi, hs, ha, e0_4, e0_5⟩ ih0; simp at hU0 e0_4 e0_5; clear hV0
  have hu := wrap_up (show i < 4611686018427387904 by omega)
  have hsl : s.length ≤ 608 * 12 := by
    have h1 := words_le (ws.take i) (by simpa using ha)
    rw [hs]; simp at h1; omega
  simp [hU0, e0_4, e0_5]
  refine RB_dec ?_ ?_ <;> intro h
  · simp [hU0, e0_4, e0_5, h]
    refine RB_dec ?_ ?_ <;> intro h2
    · have hb := all_bad (f := fun w : S => decide (w.length ≤ 300)) h (by simp; omega)
      have hc : cmdOk ws = false := by simp [cmdOk, hb]
      simp [hU0, e0_4, e0_5, hc]
    · have hwt := eq_l15Word ws[i] (by omega)
      have hn := words_next ws i h
      have hwl := wordText_le ws[i]
      by_cases hi0 : i = 0
      · subst hi0
        have hs0 : s = [] := by rw [hs]; simp [wordsText]
        subst hs0
        simp [hU0, e0_4, e0_5, h, hwt]
        refine ⟨by simp [strMax]; omega, ?_⟩
        refine ih0 (m0 - 1) _ (by omega) ?_ ?_ ⟨1, wordText ws[0], by omega, by rw [hn]; simp [wordsText], all_next h ha (by simp; omega), ?_⟩
        · simp [hU0, e0_4, e0_5]
        · simp [hU0, e0_4, e0_5]
        have hu1 : IntKind.i64.wrap 1 = 1 := wrap_in (by omega) (by omega)
        simp [hU0, e0_4, e0_5, hu1]
      · have hpos : (0 : Int) < (i : Int) := by omega
        have hposN : 0 < i := by omega
        rw [if_neg hi0, ← hs] at hn
        simp [hU0, e0_4, e0_5, h, hwt, hpos, hposN]
        refine ⟨by simp [strMax]; omega, by simp [strMax]; omega, ?_⟩
        refine ih0 (m0 - 1) _ (by omega) ?_ ?_ ⟨i + 1, s ++ (32 :: wordText ws[i]), by omega, by rw [hn]; simp, all_next h ha (by simp; omega), ?_⟩
        · simp [hU0, e0_4, e0_5]
        · simp [hU0, e0_4, e0_5]
        simp [hU0, e0_4, e0_5, hu]
  · have ht : ws.take i = ws := List.take_of_length_le (by omega)
    rw [ht] at ha hs
    have hc : cmdOk ws = decide ((cmdL ws).length ≤ 300) := by simp [cmdOk, ha, h12]
    have hcl : (cmdL ws).length = s.length + 2 := by simp [cmdL, hs]
    rw [hc]
    simp [hU0, e0_4, e0_5, h]
    refine ⟨by simp [strMax]; omega, ?_⟩
    refine RB_dec ?_ ?_ <;> intro h3
    · have h4 : ¬ (cmdL ws).length ≤ 300 := by omega
      simp [hU0, e0_4, e0_5, h4]
    · have h4 : (cmdL ws).length ≤ 300 := by omega
      simp [hU0, e0_4, e0_5, h4]
      simp [cmdL, hs]
end Go.Proofs.YtbcgldeleankcaaDoor
