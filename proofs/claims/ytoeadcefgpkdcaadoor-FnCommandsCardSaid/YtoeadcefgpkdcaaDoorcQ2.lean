/- Commands: what is read of a text that is cut. -/
import Derived.Test.YtoeadcefgpkdcaaDoorcQ1
set_option linter.unusedSectionVars false
set_option linter.all false
set_option linter.unusedVariables false
set_option linter.unusedSimpArgs false
namespace Go.Proofs.YtoeadcefgpkdcaaDoor
open Go.Lft

/-! ### A text that is cut -/
theorem sl_cut {s : S} (hs : s ≠ []) : ∀ (q : S) (i j n : Nat) (f : Bool), sl (q ++ s) i n f = ((i + (q.length + s.length) : Nat) : Int) → sl q j n f = 0 := by
  have hs1 : 0 < s.length := List.length_pos_iff.2 hs
  intro q
  induction q with
  | nil => intro i j n f _; rfl
  | cons b q ih =>
    intro i j n f h
    simp only [sl, List.cons_append, List.length_cons] at h ⊢
    split
    · rename_i hb
      rw [if_pos hb] at h
      split at h <;> omega
    · rename_i hb
      rw [if_neg hb] at h
      split
      · rename_i hc
        rw [if_pos hc] at h
        split
        · rename_i hd; rw [if_pos hd] at h; omega
        · rename_i hd
          rw [if_neg hd] at h
          exact ih (i + 1) _ _ _ (by rw [h]; congr 1; omega)
      · rename_i hc
        rw [if_neg hc] at h
        split
        · rename_i hd; rw [if_pos hd] at h; omega
        · rename_i hd
          rw [if_neg hd] at h
          exact ih (i + 1) _ _ _ (by rw [h]; congr 1; omega)
theorem st_cut {t s : S} (hs : s ≠ []) : ∀ (w : S) (q : S) (f i : Nat) (out : S), w.all (fun b => within b.toNat 32 126) = true → t.drop i = q → q ++ s = w.flatMap quoteB ++ [34] → st t f i out = ([], 0) := by
  have hnil : ∀ (f i : Nat) (out : S), t.drop i = [] → st t f i out = ([], 0) := by
    intro f i out h
    cases f with
    | zero => rfl
    | succ f => simp [st, get_drop t i, h]
  intro w
  induction w with
  | nil =>
    intro q f i out _ h he
    cases q with
    | nil => exact hnil f i out h
    | cons b q =>
      exfalso
      simp only [List.flatMap_nil, List.nil_append, List.cons_append, List.cons.injEq, List.append_eq_nil_iff] at he
      exact hs he.2.2
  | cons b w ih =>
    intro q f i out hw h he
    simp only [List.all_cons, Bool.and_eq_true] at hw
    cases f with
    | zero => rfl
    | succ f =>
    cases q with
    | nil => exact hnil _ i out h
    | cons c q =>
      simp only [List.flatMap_cons, List.append_assoc] at he
      have e1 : t[i]? = some c := by rw [get_drop, h]; rfl
      have d1 := drop_succ h
      by_cases hb : b = 34 ∨ b = 92
      · rw [quoteB, if_pos hb] at he
        simp only [List.cons_append, List.nil_append, List.cons.injEq] at he
        obtain ⟨rfl, he⟩ := he
        have hw92 : within ((92 : UInt8).toNat) 32 126 = true := by decide
        cases q with
        | nil =>
          have e2 : t[i + 1]? = none := by rw [get_drop, d1]; rfl
          simp [st, e1, e2]; decide
        | cons d q =>
          simp only [List.cons_append, List.cons.injEq] at he
          obtain ⟨rfl, he⟩ := he
          have e2 : t[i + 1]? = some d := by rw [get_drop, d1]; rfl
          have d2 := drop_succ d1
          have e3 := ih q f (i + 2) (out ++ [d]) hw.2 d2 he
          simp only [st, e1, e2, hw92, hb, if_true, e3]
          simp
      · rw [quoteB, if_neg hb] at he
        simp only [List.cons_append, List.nil_append, List.cons.injEq] at he
        obtain ⟨rfl, he⟩ := he
        have hb2 : c ≠ 34 ∧ c ≠ 92 := by constructor <;> (rintro rfl; simp at hb)
        have e3 := ih q f (i + 1) (out ++ [c]) hw.2 d1 he
        simp only [st, e1, hw.1, hb2.1, hb2.2, if_false, e3, Bool.true_eq_false]
theorem fig_in {n : Nat} (h : n < 10) : 48 ≤ (fig n).toNat ∧ (fig n).toNat ≤ 57 := by rw [fig_nat h]; omega
theorem litL_fig {t : S} : ∀ (q : S) (f a n : Nat), q.length ≤ f → (∀ b ∈ q, 48 ≤ b.toNat ∧ b.toNat ≤ 57) → t.drop a = q → (litL t f a n).1 = a + q.length := by
  intro q
  induction q with
  | nil =>
    intro f a n _ _ h
    cases f with
    | zero => rfl
    | succ f => simp [litL, get_drop t a, h]
  | cons b q ih =>
    intro f a n hf hq h
    cases f with
    | zero => simp at hf
    | succ f =>
      have e1 : t[a]? = some b := by rw [get_drop, h]; rfl
      have e2 := ih f (a + 1) (10 * n + (b.toNat - 48)) (by simpa using hf) (fun x hx => hq x (List.mem_cons_of_mem _ hx)) (drop_succ h)
      simp only [litL, e1]
      rw [if_pos (hq b (List.mem_cons_self ..)), e2]
      simp; omega
theorem dec_figs {n : Nat} (hn : n < 1000) : ∀ b ∈ dec n, 48 ≤ b.toNat ∧ b.toNat ≤ 57 := by
  intro b hb
  unfold dec at hb
  split at hb
  · simp only [List.mem_singleton] at hb; subst hb; exact fig_in (by omega)
  · split at hb
    · simp only [List.mem_cons, List.not_mem_nil, or_false] at hb; rcases hb with rfl | rfl <;> exact fig_in (by omega)
    · simp only [List.mem_cons, List.not_mem_nil, or_false] at hb; rcases hb with rfl | rfl | rfl <;> exact fig_in (by omega)
theorem want_end {t : S} : ∀ (q w : S) (a : Nat), t.drop a = q → a ≤ t.length → (∃ s, s ≠ [] ∧ q ++ s = w) → (wantM t w a 0).2 = 1 := by
  intro q
  induction q with
  | nil =>
    intro w a h ha ⟨s, hs, he⟩
    cases w with
    | nil => simp at he; exact absurd he hs
    | cons c w =>
      have : isB t a c = false := by rw [isB_drop, h]; rfl
      have hl := drop_len h ha
      simp only [List.length_nil] at hl
      simp [wantM, this, endCode]
      omega
  | cons b q ih =>
    intro w a h ha ⟨s, hs, he⟩
    cases w with
    | nil => simp at he
    | cons c w =>
      simp only [List.cons_append, List.cons.injEq] at he
      obtain ⟨rfl, he⟩ := he
      have i1 : isB t a b = true := by rw [isB_drop, h]; simp
      have hl := drop_len h ha
      simp only [List.length_cons] at hl
      simp only [wantM, i1, if_true]
      exact ih w (a + 1) (drop_succ h) (by omega) ⟨s, hs, he⟩
theorem pre_split {α : Type} : ∀ {p s x y : List α}, p ++ s = x ++ y → (∃ s', s' ≠ [] ∧ p ++ s' = x ∧ s = s' ++ y) ∨ (∃ p', p = x ++ p' ∧ p' ++ s = y)
  | [], s, [], y, h => .inr ⟨[], rfl, h⟩
  | [], s, a :: x, y, h => .inl ⟨a :: x, by simp, rfl, h⟩
  | a :: p, s, [], y, h => .inr ⟨a :: p, rfl, h⟩
  | a :: p, s, b :: x, y, h => by
    simp only [List.cons_append, List.cons.injEq] at h
    obtain ⟨rfl, h⟩ := h
    rcases pre_split h with ⟨s', h1, h2, h3⟩ | ⟨p', h1, h2⟩
    · exact .inl ⟨s', h1, by rw [List.cons_append, h2], h3⟩
    · exact .inr ⟨p', by rw [List.cons_append, ← h1], h2⟩
def cutGood (t : S) (n : Int) : Prop := n = 0 ∨ (0 < n ∧ n = t.length)
theorem next_nil {t : S} {a : Nat} (h : t.drop a = []) : snextM t a = ([], 0) := by
  unfold snextM
  rw [if_pos (List.drop_eq_nil_iff.1 h)]
theorem lit_cut {t p s w : S} {a : Nat} (h : t.drop a = p) (ha : a ≤ t.length) (he : p ++ s = litW w) (hs : s ≠ []) (hw : w.length < 1000) (hb : a + (litW w).length + 2 ≤ 300) : cutGood t (snextM t a).2 := by
  cases p with
  | nil => rw [next_nil h]; exact .inl rfl
  | cons c q =>
  simp only [litW, List.cons_append, List.cons.injEq] at he
  obtain ⟨rfl, he⟩ := he
  have hl := drop_len h ha
  simp only [List.length_cons] at hl
  have e1 : isB t a 123 = true := by rw [isB_drop, h]; rfl
  have d1 := drop_succ h
  have hd := dec_len w.length
  unfold snextM
  rw [if_neg (by omega), e1]
  simp only [if_true]
  rcases pre_split he with ⟨s', h1, h2, h3⟩ | ⟨q', h1, h2⟩
  · -- within the figures
    have hq3 : q.length ≤ 3 := by have := congrArg List.length h2; simp at this; omega
    have e2 := litL_fig (t := t) q 3 (a + 1) 0 hq3 (fun b hb => dec_figs hw b (by rw [← h2]; exact List.mem_append_left _ hb)) d1
    have e3 : (wantM t [125, 13, 10] (a + 1 + q.length) 0).2 = 1 := want_end [] _ _ (by
      have := drop_add (t := t) (a := a + 1) (x := q) (y := []) (by rw [d1]; simp)
      exact this) (by omega) ⟨[125, 13, 10], by simp, rfl⟩
    have e4 : (slit t a).2 = 0 := by
      unfold slit
      rw [e2, if_neg (by omega)]
      simp [slitEnd, e3]
    exact .inl (by unfold snextLit; rw [if_pos (by omega)]; exact e4)
  · subst h1
    rcases pre_split (x := [125, 13, 10]) (y := w) h2 with ⟨s', h3, h4, h5⟩ | ⟨q2, h3, h4⟩
    · -- within the head
      have e2 : (litL t 3 (a + 1) 0).1 = a + 1 + (dec w.length).length := by
        cases q' with
        | nil =>
          rw [litL_fig (t := t) (dec w.length) 3 (a + 1) 0 hd.2 (dec_figs hw) (by rw [d1]; simp)]
        | cons c q2 =>
          simp only [List.cons_append, List.cons.injEq] at h4
          obtain ⟨rfl, h4⟩ := h4
          rw [litL_dec w.length hw d1]
      have d2 := drop_add d1
      simp only [List.length_append] at hl
      have e3 : (wantM t [125, 13, 10] (a + 1 + (dec w.length).length) 0).2 = 1 := want_end q' _ _ d2 (by omega) ⟨s', h3, h4⟩
      have e4 : (slit t a).2 = 0 := by
        unfold slit
        rw [e2, if_neg (by omega)]
        simp [slitEnd, e3]
      exact .inl (by unfold snextLit; rw [if_pos (by omega)]; exact e4)
    · -- within the word
      subst h3
      have d2 : t.drop (a + 1) = dec w.length ++ 125 :: (13 :: 10 :: q2) := by rw [d1]; simp
      have e2 := litL_dec w.length hw d2
      have d3 := drop_add d2
      have d4 := drop_succ d3
      have d5 := drop_succ d4
      have w1 : wantM t [125, 13, 10] (a + 1 + (dec w.length).length) 0 = (a + 1 + (dec w.length).length + 3, 0) := by
        have i1 : isB t (a + 1 + (dec w.length).length) 125 = true := by rw [isB_drop, d3]; rfl
        have i2 : isB t (a + 1 + (dec w.length).length + 1) 13 = true := by rw [isB_drop, d4]; rfl
        have i3 : isB t (a + 1 + (dec w.length).length + 1 + 1) 10 = true := by rw [isB_drop, d5]; rfl
        simp [wantM, i1, i2, i3]
      simp only [List.length_append, List.length_cons, List.length_nil] at hl
      have e3 : slit t a = ((w.length : Int), ((a + 1 + (dec w.length).length : Nat) : Int) + 3) := by
        unfold slit
        rw [e2, w1]
        simp only
        rw [if_neg (by omega)]
        simp [slitEnd]
      have hlw : (litW w).length = 4 + (dec w.length).length + w.length := by simp [litW]; omega
      rw [hlw] at hb
      have h5 := congrArg List.length h4
      have h6 : 0 < s.length := List.length_pos_iff.2 hs
      simp only [List.length_append] at h5
      rw [e3]
      unfold snextLit
      simp only
      rw [if_neg (by omega), if_neg (by omega), if_pos (by omega)]
      exact .inl rfl
theorem word_cut {t p s w : S} {a : Nat} (h : t.drop a = p) (ha : a ≤ t.length) (he : p ++ s = wordText w) (hs : s ≠ []) (hw : w.length < 1000) (hb : a + (wordText w).length + 2 ≤ 300) : cutGood t (snextM t a).2 := by
  unfold wordText at he hb
  split at he
  · rename_i h1
    cases p with
    | nil => rw [next_nil h]; exact .inl rfl
    | cons c q =>
    have hl := drop_len h ha
    simp only [List.length_cons] at hl
    rcases h1 with h1 | h1
    · subst he
      simp only [plainW, Bool.and_eq_true, decide_eq_true_eq, List.all_append, List.length_append, List.length_cons] at h1
      have hp : plainW (c :: q) = true := by
        simp only [plainW, Bool.and_eq_true, decide_eq_true_eq, List.length_cons]
        exact ⟨⟨by omega, by omega⟩, h1.2.1⟩
      rw [next_plain (t := t) (r := []) (by rw [h]; simp) hp (by intro c hc; simp at hc)]
      refine .inr ⟨?_, ?_⟩
      · simp only [List.length_cons]; omega
      · simp only [List.length_cons]; omega
    · obtain ⟨v, rfl, h3, h4⟩ := list_head h1
      simp only [List.cons_append, List.cons.injEq] at he
      obtain ⟨rfl, rfl⟩ := he
      have e1 : isB t a 123 = false := by rw [isB_drop, h]; rfl
      have e2 : isB t a 34 = false := by rw [isB_drop, h]; rfl
      have e3 : isB t a 40 = true := by rw [isB_drop, h]; rfl
      have e5 := sl_cut hs q 1 (a + 1) 0 true (by rw [h3]; simp; omega)
      unfold snextM
      rw [if_neg (by omega), e1, e2, e3, drop_succ h, e5]
      exact .inl rfl
  · rename_i h1
    rw [if_neg h1] at hb
    split at he
    · rename_i h2
      cases p with
      | nil => rw [next_nil h]; exact .inl rfl
      | cons c q =>
      have hl := drop_len h ha
      simp only [List.length_cons] at hl
      simp only [quotedW, List.cons_append, List.cons.injEq] at he
      obtain ⟨rfl, he⟩ := he
      have e1 : isB t a 123 = false := by rw [isB_drop, h]; rfl
      have e2 : isB t a 34 = true := by rw [isB_drop, h]; rfl
      have e3 := st_cut hs w q t.length (a + 1) [] h2 (drop_succ h) he
      unfold snextM
      rw [if_neg (by omega), e1, e2, e3]
      exact .inl rfl
    · rename_i h2
      rw [if_neg h2] at hb
      exact lit_cut h ha he hs hw hb
theorem read_stop {t : S} {f : Nat} {acc : List S} {a : Nat} (h : cutGood t (snextM t a).2) : (sread t (f + 1) acc a).2 = 0 := by
  simp only [sread]
  rcases h with h | ⟨h1, h2⟩
  · rw [if_pos (by omega)]; exact h
  · rw [if_neg (by omega), if_pos h2]
theorem read_cut {t : S} : ∀ (ws : List S) (f : Nat) (acc : List S) (a : Nat) (p s : S), ws ≠ [] → t.drop a = p → a ≤ t.length → p ++ s = cmdL ws → s ≠ [] → a + (cmdL ws).length ≤ 300 → ws.length ≤ f → acc.length + ws.length ≤ 12 → (∀ w ∈ ws, w.length < 1000) → (sread t f acc a).2 = 0 := by
  intro ws
  induction ws with
  | nil => intro f acc a p s h; exact absurd rfl h
  | cons w ws ih =>
    intro f acc a p s _ h ha he hs hb hf hacc hw
    cases f with
    | zero => simp at hf
    | succ f =>
      have hne := wordText_ne w
      have hw1 := hw w (List.mem_cons_self ..)
      cases ws with
      | nil =>
        have hc : cmdL [w] = wordText w ++ [13, 10] := rfl
        rw [hc] at he hb
        simp only [List.length_append, List.length_cons, List.length_nil] at hb
        rcases pre_split he with ⟨s', h1, h2, h3⟩ | ⟨p', h1, h2⟩
        · exact read_stop (word_cut h ha h2 h1 hw1 (by omega))
        · subst h1
          have hl := drop_len h ha
          simp only [List.length_append] at hl
          cases p' with
          | nil =>
            have hn := next_word (t := t) (r := []) h hw1 (by omega) (by intro c hc; simp at hc)
            simp only [List.length_nil] at hl
            exact read_stop (by rw [hn]; exact .inr ⟨by omega, by simp only; omega⟩)
          | cons c p' =>
            simp only [List.cons_append, List.cons.injEq] at h2
            obtain ⟨rfl, h2⟩ := h2
            have hp : p' = [] := by
              cases p' with
              | nil => rfl
              | cons d p' =>
                simp only [List.cons_append, List.cons.injEq, List.append_eq_nil_iff] at h2
                exact absurd h2.2.2 hs
            subst hp
            have hn := next_word h hw1 (by omega) (by intro c hc; simp at hc; subst hc; decide)
            have i1 : isB t (a + (wordText w).length) 13 = true := by rw [isB_drop, drop_add h]; rfl
            simp only [List.length_cons, List.length_nil] at hl
            simp only [sread, hn]
            rw [if_neg (by omega), if_neg (by omega)]
            simp only [Int.toNat_natCast, i1, if_true]
            rw [if_pos (by omega)]
      | cons v vs =>
        have hc : cmdL (w :: v :: vs) = wordText w ++ 32 :: cmdL (v :: vs) := by simp [cmdL, wordsText]
        have hc2 : 2 ≤ (cmdL (v :: vs)).length := by simp [cmdL]
        rw [hc] at he hb
        simp only [List.length_append, List.length_cons] at hb hf hacc
        rcases pre_split he with ⟨s', h1, h2, h3⟩ | ⟨p', h1, h2⟩
        · exact read_stop (word_cut h ha h2 h1 hw1 (by omega))
        · subst h1
          have hl := drop_len h ha
          simp only [List.length_append] at hl
          cases p' with
          | nil =>
            have hn := next_word (t := t) (r := []) h hw1 (by omega) (by intro c hc; simp at hc)
            simp only [List.length_nil] at hl
            exact read_stop (by rw [hn]; exact .inr ⟨by omega, by simp only; omega⟩)
          | cons c p' =>
            simp only [List.cons_append, List.cons.injEq] at h2
            obtain ⟨rfl, h2⟩ := h2
            have hn := next_word h hw1 (by omega) (by intro c hc; simp at hc; subst hc; decide)
            have d0 := drop_add h
            have d1 := drop_succ (t := t) (b := 32) d0
            have i1 : isB t (a + (wordText w).length) 13 = false := by rw [isB_drop, d0]; rfl
            have i2 : isB t (a + (wordText w).length) 32 = true := by rw [isB_drop, d0]; rfl
            simp only [List.length_cons] at hl
            simp only [sread, hn]
            rw [if_neg (by omega)]
            split
            · rfl
            · simp only [Int.toNat_natCast, i1, i2, Bool.false_eq_true, if_false, Bool.true_eq_false, false_or]
              rw [if_neg (by simp; omega)]
              exact ih f (acc ++ [w]) (a + (wordText w).length + 1) p' s (by simp) d1 (by omega) h2 hs (by omega) (by simp; omega) (by simp; omega) (fun x hx => hw x (List.mem_cons_of_mem _ hx))
theorem cut_more {ws : List S} {k : Nat} (h0 : ws ≠ []) (h1 : ws.length ≤ 12) (h2 : (cmdL ws).length ≤ 300) (h3 : ∀ w ∈ ws, w.length < 1000) (hk : k < (cmdL ws).length) : sfin ((cmdL ws).take k) (sread ((cmdL ws).take k) 12 [] 0) = ([], 0, 1) := by
  have hs : (cmdL ws).drop k ≠ [] := by
    intro hc
    have := congrArg List.length hc
    simp at this
    omega
  have := read_cut (t := (cmdL ws).take k) ws 12 [] 0 ((cmdL ws).take k) ((cmdL ws).drop k) h0 rfl (by omega) (List.take_append_drop k _) hs (by omega) h1 (by simpa using h1) h3
  unfold sfin
  have hl : ((cmdL ws).take k).length < 300 := by simp; omega
  rw [if_neg (by omega), if_pos ⟨this, hl⟩]
end Go.Proofs.YtoeadcefgpkdcaaDoor
