/- Commands: the text of words, and what is read of it. -/
import Derived.Test.YtbcgldeleankcaaDoorcB7
set_option linter.unusedSectionVars false
set_option linter.all false
set_option linter.unusedVariables false
set_option linter.unusedSimpArgs false
namespace Go.Proofs.YtbcgldeleankcaaDoor
open Go.Lft

/-! ### The text of words, and what is read of it -/
def plainW (w : S) : Bool := decide (1 ≤ w.length ∧ w.length ≤ 60) && w.all plainByte
def listW (w : S) : Bool := decide (1 < w.length) && (isB w 0 40 && decide (sl (w.drop 1) 1 0 true = w.length))
def shownW (w : S) : Bool := w.all (fun b => within b.toNat 32 126)
def quoteB (b : UInt8) : S := if b = 34 ∨ b = 92 then [92, b] else [b]
def quotedW (w : S) : S := 34 :: (w.flatMap quoteB ++ [34])
def fig (n : Nat) : UInt8 := UInt8.ofNat (48 + n)
def dec (n : Nat) : S := if n < 10 then [fig n] else if n < 100 then [fig (n / 10), fig (n % 10)] else [fig (n / 100), fig (n / 10 % 10), fig (n % 10)]
def litW (w : S) : S := 123 :: (dec w.length ++ ([125, 13, 10] ++ w))
def wordText (w : S) : S := if plainW w = true ∨ listW w = true then w else if shownW w = true then quotedW w else litW w
def wordsText : List S → S
  | [] => []
  | [w] => wordText w
  | w :: ws => wordText w ++ 32 :: wordsText ws
def cmdL (ws : List S) : S := wordsText ws ++ [13, 10]

theorem isB_drop (t : S) (a : Nat) (c : UInt8) : isB t a c = ((t.drop a)[0]? == some c) := by simp [isB, List.getElem?_drop]
theorem get_drop (t : S) (a : Nat) : t[a]? = (t.drop a)[0]? := by simp [List.getElem?_drop]
theorem drop_add {t x y : S} {a : Nat} (h : t.drop a = x ++ y) : t.drop (a + x.length) = y := by
  rw [← List.drop_drop, h, List.drop_left]
theorem drop_succ {t y : S} {a : Nat} {b : UInt8} (h : t.drop a = b :: y) : t.drop (a + 1) = y := by
  rw [← List.drop_drop, h]; rfl
theorem drop_len {t x : S} {a : Nat} (h : t.drop a = x) (ha : a ≤ t.length) : t.length = a + x.length := by
  rw [← h, List.length_drop]; omega
theorem plain_not {b : UInt8} (h : plainByte b = true) : b ≠ 34 ∧ b ≠ 92 ∧ b ≠ 40 ∧ b ≠ 41 ∧ b ≠ 123 ∧ b ≠ 32 ∧ b ≠ 13 := by
  simp [plainByte] at h
  refine ⟨h.1.1.1.1.2, h.1.1.1.2, h.1.1.2, h.1.2, h.2, ?_, ?_⟩
  · rintro rfl; revert h; decide
  · rintro rfl; revert h; decide
theorem tw_app : ∀ (w r : S), w.all plainByte = true → (∀ c, r.head? = some c → plainByte c = false) → tw (w ++ r) = w.length := by
  intro w
  induction w with
  | nil =>
    intro r _ hc
    cases r with
    | nil => rfl
    | cons c r => simp [tw, hc c rfl]
  | cons b w ih =>
    intro r h hc
    simp only [List.all_cons, Bool.and_eq_true] at h
    simp [tw, h.1, ih r h.2 hc]
theorem next_plain {t w r : S} {a : Nat} (h : t.drop a = w ++ r) (hw : plainW w = true) (hr : ∀ c, r.head? = some c → plainByte c = false) : snextM t a = (w, ((a + w.length : Nat) : Int)) := by
  simp only [plainW, Bool.and_eq_true, decide_eq_true_eq] at hw
  obtain ⟨⟨h1, h2⟩, h3⟩ := hw
  have htw := tw_app w r h3 hr
  cases w with
  | nil => simp at h1
  | cons b w =>
    have hb : plainByte b = true := by simp only [List.all_cons, Bool.and_eq_true] at h3; exact h3.1
    obtain ⟨n1, n2, n3, n4, n5, n6, n7⟩ := plain_not hb
    have ha : ¬ t.length ≤ a := by
      intro hc
      rw [List.drop_eq_nil_of_le hc] at h
      simp at h
    have e1 : isB t a 123 = false := by rw [isB_drop, h]; simpa using n5
    have e2 : isB t a 34 = false := by rw [isB_drop, h]; simpa using n1
    have e3 : isB t a 40 = false := by rw [isB_drop, h]; simpa using n3
    unfold snextM
    rw [if_neg ha, e1, e2, e3]
    simp only [Bool.false_eq_true, if_false]
    unfold snextPlain
    rw [h, htw, if_neg (by simp only [List.length_cons] at h1 h2 ⊢; omega), List.take_left]
theorem sl_shift (r : S) (d : Nat) : ∀ (l : S) (i n : Nat) (f : Bool), 0 < sl l i n f → sl (l ++ r) (i + d) n f = sl l i n f + d := by
  intro l
  induction l with
  | nil => intro i n f h; simp [sl] at h
  | cons b l ih =>
    intro i n f h
    simp only [sl, List.cons_append] at h ⊢
    split
    · rename_i hb
      rw [if_pos hb] at h
      split
      · rename_i hc; rw [if_pos hc] at h; omega
      · push_cast; omega
    · rename_i hb
      rw [if_neg hb] at h
      split
      · rename_i hc
        rw [if_pos hc] at h
        split
        · rename_i hd; rw [if_pos hd] at h; omega
        · rename_i hd
          rw [if_neg hd] at h
          rw [show i + d + 1 = i + 1 + d by omega]
          exact ih _ _ _ h
      · rename_i hc
        rw [if_neg hc] at h
        split
        · rename_i hd; rw [if_pos hd] at h; omega
        · rename_i hd
          rw [if_neg hd] at h
          rw [show i + d + 1 = i + 1 + d by omega]
          exact ih _ _ _ h
theorem list_head {w : S} (hw : listW w = true) : ∃ v, w = 40 :: v ∧ sl v 1 0 true = w.length ∧ 1 < w.length := by
  simp only [listW, Bool.and_eq_true, decide_eq_true_eq] at hw
  obtain ⟨h1, h2, h3⟩ := hw
  cases w with
  | nil => simp at h1
  | cons b v =>
    have : b = 40 := by simpa [isB] using h2
    subst this
    exact ⟨v, rfl, by simpa using h3, h1⟩
theorem next_list {t w r : S} {a : Nat} (h : t.drop a = w ++ r) (hw : listW w = true) : snextM t a = (w, ((a + w.length : Nat) : Int)) := by
  obtain ⟨v, rfl, h3, h1⟩ := list_head hw
  have ha : ¬ t.length ≤ a := by
    intro hc
    rw [List.drop_eq_nil_of_le hc] at h
    simp at h
  have e1 : isB t a 123 = false := by rw [isB_drop, h]; rfl
  have e2 : isB t a 34 = false := by rw [isB_drop, h]; rfl
  have e3 : isB t a 40 = true := by rw [isB_drop, h]; rfl
  have e4 := drop_succ (t := t) (a := a) (b := 40) (y := v ++ r) (by rw [h]; rfl)
  have e5 := sl_shift r a v 1 0 true (by omega)
  rw [Nat.add_comm 1 a] at e5
  unfold snextM
  rw [if_neg ha, e1, e2, e3, e4, e5, h3]
  simp only [Bool.false_eq_true, if_false, if_true]
  unfold snextList
  rw [if_neg (by omega), h]
  have : (((40 :: v).length : Int) + a).toNat - a = (40 :: v).length := by omega
  rw [this, List.take_left]
  simp; omega
theorem st_quoted {t r : S} : ∀ (w : S) (f i : Nat) (out : S), w.all (fun b => within b.toNat 32 126) = true → t.drop i = w.flatMap quoteB ++ 34 :: r → w.length < f → st t f i out = (out ++ w, ((i + (w.flatMap quoteB).length : Nat) : Int) + 1) := by
  intro w
  induction w with
  | nil =>
    intro f i out _ h hf
    cases f with
    | zero => simp at hf
    | succ f =>
      simp only [List.flatMap_nil, List.nil_append] at h
      have e : t[i]? = some 34 := by rw [get_drop, h]; rfl
      simp [st, e]
  | cons b w ih =>
    intro f i out hs h hf
    cases f with
    | zero => simp at hf
    | succ f =>
      simp only [List.all_cons, Bool.and_eq_true] at hs
      simp only [List.flatMap_cons, List.append_assoc] at h
      by_cases hb : b = 34 ∨ b = 92
      · rw [quoteB, if_pos hb] at h
        have e1 : t[i]? = some 92 := by rw [get_drop, h]; rfl
        have e2 : t[i + 1]? = some b := by rw [get_drop, drop_succ (b := 92) (by rw [h]; rfl)]; rfl
        have e3 := ih f (i + 2) (out ++ [b]) hs.2 (by
          have := drop_add (t := t) (a := i) (x := [92, b]) h
          simpa using this) (by simp at hf; omega)
        have hw : within ((92 : UInt8).toNat) 32 126 = true := by decide
        simp only [st, e1, e2, hw, hb, if_true, e3]
        simp [quoteB, hb]
        omega
      · rw [quoteB, if_neg hb] at h
        have hb2 : b ≠ 34 ∧ b ≠ 92 := by constructor <;> (rintro rfl; simp at hb)
        have e1 : t[i]? = some b := by rw [get_drop, h]; rfl
        have e3 := ih f (i + 1) (out ++ [b]) hs.2 (by
          have := drop_add (t := t) (a := i) (x := [b]) h
          simpa using this) (by simp at hf; omega)
        simp only [st, e1, hs.1, hb2.1, hb2.2, if_false, e3, Bool.true_eq_false]
        simp [quoteB, hb]
        omega
theorem flat_len (w : S) : w.length ≤ (w.flatMap quoteB).length := by
  induction w with
  | nil => simp
  | cons b w ih =>
    simp only [List.flatMap_cons, List.length_append, List.length_cons]
    have : 1 ≤ (quoteB b).length := by unfold quoteB; split <;> simp
    omega
theorem next_quoted {t w r : S} {a : Nat} (h : t.drop a = quotedW w ++ r) (hw : shownW w = true) : snextM t a = (w, ((a + (quotedW w).length : Nat) : Int)) := by
  have ha : a < t.length := by
    rcases Nat.lt_or_ge a t.length with hc | hc
    · exact hc
    · rw [List.drop_eq_nil_of_le hc] at h; simp [quotedW] at h
  have hl := drop_len h (by omega)
  have e1 : isB t a 123 = false := by rw [isB_drop, h]; rfl
  have e2 : isB t a 34 = true := by rw [isB_drop, h]; rfl
  have h' : t.drop (a + 1) = w.flatMap quoteB ++ 34 :: r := by
    have := drop_succ (t := t) (a := a) (b := 34) (y := w.flatMap quoteB ++ [34] ++ r) (by rw [h]; rfl)
    rw [this]; simp
  have hf := flat_len w
  have e3 := st_quoted w t.length (a + 1) [] hw h' (by simp only [quotedW, List.length_append, List.length_cons, List.length_nil, List.cons_append] at hl; omega)
  unfold snextM
  rw [if_neg (by omega), e1, e2, e3]
  simp [quotedW]
  omega
theorem fig_nat {n : Nat} (h : n < 10) : (fig n).toNat = 48 + n := by
  unfold fig; rw [UInt8.toNat_ofNat']; omega
theorem litL_dec {t r : S} {a : Nat} (n : Nat) (hn : n < 1000) (h : t.drop a = dec n ++ 125 :: r) : litL t 3 a 0 = (a + (dec n).length, n) := by
  unfold dec at h ⊢
  split
  · rename_i h1
    rw [if_pos h1] at h
    have e1 : t[a]? = some (fig n) := by rw [get_drop, h]; rfl
    have e2 : t[a + 1]? = some 125 := by rw [get_drop, drop_succ (b := fig n) (by rw [h]; rfl)]; rfl
    have f1 := fig_nat h1
    simp only [litL, e1, e2]
    rw [if_pos (by omega), if_neg (by decide)]
    simp [f1]
  · rename_i h1
    rw [if_neg h1] at h
    split
    · rename_i h2
      rw [if_pos h2] at h
      have e1 : t[a]? = some (fig (n / 10)) := by rw [get_drop, h]; rfl
      have d1 := drop_succ (t := t) (a := a) (b := fig (n / 10)) (by rw [h]; rfl)
      have e2 : t[a + 1]? = some (fig (n % 10)) := by rw [get_drop, d1]; rfl
      have d2 := drop_succ (t := t) (a := a + 1) (b := fig (n % 10)) (by rw [d1]; rfl)
      have e3 : t[a + 1 + 1]? = some 125 := by rw [get_drop, d2]; rfl
      have f1 := fig_nat (n := n / 10) (by omega)
      have f2 := fig_nat (n := n % 10) (by omega)
      simp only [litL, e1, e2, e3]
      rw [if_pos (by omega), if_pos (by omega), if_neg (by decide)]
      simp [f1, f2]
      omega
    · rename_i h2
      rw [if_neg h2] at h
      have e1 : t[a]? = some (fig (n / 100)) := by rw [get_drop, h]; rfl
      have d1 := drop_succ (t := t) (a := a) (b := fig (n / 100)) (by rw [h]; rfl)
      have e2 : t[a + 1]? = some (fig (n / 10 % 10)) := by rw [get_drop, d1]; rfl
      have d2 := drop_succ (t := t) (a := a + 1) (b := fig (n / 10 % 10)) (by rw [d1]; rfl)
      have e3 : t[a + 1 + 1]? = some (fig (n % 10)) := by rw [get_drop, d2]; rfl
      have f1 := fig_nat (n := n / 100) (by omega)
      have f2 := fig_nat (n := n / 10 % 10) (by omega)
      have f3 := fig_nat (n := n % 10) (by omega)
      simp only [litL, e1, e2, e3]
      rw [if_pos (by omega), if_pos (by omega), if_pos (by omega)]
      simp [f1, f2, f3]
      omega
theorem dec_len (n : Nat) : 1 ≤ (dec n).length ∧ (dec n).length ≤ 3 := by unfold dec; split <;> (try split) <;> simp
theorem next_lit {t w r : S} {a : Nat} (h : t.drop a = litW w ++ r) (hw : w.length < 1000) (hs : a + (litW w).length + 2 ≤ 300) : snextM t a = (w, ((a + (litW w).length : Nat) : Int)) := by
  have ha : a < t.length := by
    rcases Nat.lt_or_ge a t.length with hc | hc
    · exact hc
    · rw [List.drop_eq_nil_of_le hc] at h; simp [litW] at h
  have hl := drop_len h (by omega)
  have e1 : isB t a 123 = true := by rw [isB_drop, h]; rfl
  have h1 : t.drop (a + 1) = dec w.length ++ 125 :: (13 :: 10 :: (w ++ r)) := by
    have := drop_succ (t := t) (a := a) (b := 123) (y := dec w.length ++ ([125, 13, 10] ++ w) ++ r) (by rw [h]; rfl)
    rw [this]; simp
  have e2 := litL_dec w.length hw h1
  have d0 := drop_add h1
  have d1 := drop_succ d0
  have d2 := drop_succ d1
  have d3 := drop_succ d2
  have hd := dec_len w.length
  have w1 : wantM t [125, 13, 10] (a + 1 + (dec w.length).length) 0 = (a + 1 + (dec w.length).length + 3, 0) := by
    have i1 : isB t (a + 1 + (dec w.length).length) 125 = true := by rw [isB_drop, d0]; rfl
    have i2 : isB t (a + 1 + (dec w.length).length + 1) 13 = true := by rw [isB_drop, d1]; rfl
    have i3 : isB t (a + 1 + (dec w.length).length + 1 + 1) 10 = true := by rw [isB_drop, d2]; rfl
    simp [wantM, i1, i2, i3]
  have e3 : slit t a = ((w.length : Int), ((a + 1 + (dec w.length).length : Nat) : Int) + 3) := by
    unfold slit
    rw [e2, w1]
    simp only
    rw [if_neg (by omega)]
    simp [slitEnd]
  have hlw : (litW w).length = 4 + (dec w.length).length + w.length := by simp [litW]; omega
  rw [hlw] at hs
  have hlr : (litW w ++ r).length = 4 + (dec w.length).length + w.length + r.length := by rw [List.length_append, hlw]
  rw [hlr] at hl
  unfold snextM
  rw [if_neg (by omega), e1, e3]
  simp only [if_true]
  unfold snextLit
  simp only
  rw [if_neg (by omega), if_neg (by omega), if_neg (by omega)]
  have q : (((a + 1 + (dec w.length).length : Nat) : Int) + 3).toNat = a + 1 + (dec w.length).length + 1 + 1 + 1 := by omega
  rw [q, d3, Int.toNat_natCast, List.take_left, hlw]
  simp only [Prod.mk.injEq, true_and]
  push_cast
  omega
theorem next_word {t w r : S} {a : Nat} (h : t.drop a = wordText w ++ r) (hw : w.length < 1000) (hs : a + (wordText w).length + 2 ≤ 300) (hr : ∀ c, r.head? = some c → plainByte c = false) : snextM t a = (w, ((a + (wordText w).length : Nat) : Int)) := by
  unfold wordText at h hs ⊢
  split
  · rename_i h1
    rw [if_pos h1] at h
    rcases h1 with h1 | h1
    · exact next_plain h h1 hr
    · exact next_list h h1
  · rename_i h1
    rw [if_neg h1] at h hs
    split
    · rename_i h2
      rw [if_pos h2] at h
      exact next_quoted h h2
    · rename_i h2
      rw [if_neg h2] at h hs
      exact next_lit h hw hs
theorem wordText_ne (w : S) : 0 < (wordText w).length := by
  unfold wordText
  split
  · rename_i h1
    rcases h1 with h1 | h1
    · simp [plainW] at h1; omega
    · obtain ⟨v, rfl, _, h⟩ := list_head h1; omega
  · split
    · simp [quotedW]
    · simp [litW]
theorem words_len {w : S} {ws : List S} : wordsText (w :: ws) = wordText w ++ (match ws with | [] => [] | _ :: _ => 32 :: wordsText ws) := by
  cases ws <;> simp [wordsText]
theorem read_words {t r : S} : ∀ (ws : List S) (f : Nat) (acc : List S) (a : Nat), ws ≠ [] → t.drop a = cmdL ws ++ r → a + (cmdL ws).length ≤ 300 → ws.length ≤ f → acc.length + ws.length ≤ 12 → (∀ w ∈ ws, w.length < 1000) → sread t f acc a = (acc ++ ws, ((a + (cmdL ws).length : Nat) : Int)) := by
  intro ws
  induction ws with
  | nil => intro f acc a h; exact absurd rfl h
  | cons w ws ih =>
    intro f acc a _ h hs hf hacc hw
    cases f with
    | zero => simp at hf
    | succ f =>
      have ha : a < t.length := by
        rcases Nat.lt_or_ge a t.length with hc | hc
        · exact hc
        · rw [List.drop_eq_nil_of_le hc] at h; simp [cmdL] at h
      have hlen := drop_len h (by omega)
      have hne := wordText_ne w
      cases ws with
      | nil =>
        simp only [cmdL, wordsText, List.append_assoc] at h hs hlen
        have hn := next_word h (hw w (by simp)) (by simp at hs; omega) (by intro c hc; simp at hc; subst hc; decide)
        have d0 := drop_add h
        have d1 := drop_succ (t := t) (b := 13) (y := 10 :: r) d0
        have i1 : isB t (a + (wordText w).length) 13 = true := by rw [isB_drop, d0]; rfl
        have i2 : isB t (a + (wordText w).length + 1) 10 = true := by rw [isB_drop, d1]; rfl
        simp only [List.length_append, List.length_cons, List.length_nil] at hlen
        simp only [sread, hn]
        rw [if_neg (by omega), if_neg (by omega)]
        simp only [Int.toNat_natCast, i1, i2, if_true]
        rw [if_neg (by omega)]
        simp [cmdL, wordsText]
        omega
      | cons v vs =>
        have he : cmdL (w :: v :: vs) = wordText w ++ 32 :: cmdL (v :: vs) := by simp [cmdL, wordsText]
        rw [he] at h hs hlen
        simp only [List.append_assoc, List.cons_append] at h
        have hn := next_word h (hw w (by simp)) (by simp [cmdL] at hs; omega) (by intro c hc; simp at hc; subst hc; decide)
        have d0 := drop_add h
        have d1 := drop_succ (t := t) (b := 32) d0
        have i1 : isB t (a + (wordText w).length) 13 = false := by rw [isB_drop, d0]; rfl
        have i2 : isB t (a + (wordText w).length) 32 = true := by rw [isB_drop, d0]; rfl
        simp only [List.length_append, List.length_cons] at hlen hs hacc hf
        have e3 := ih f (acc ++ [w]) (a + (wordText w).length + 1) (by simp) d1 (by omega) (by simp; omega) (by simp; omega) (fun x hx => hw x (List.mem_cons_of_mem _ hx))
        simp only [sread, hn]
        rw [if_neg (by omega), if_neg (by omega)]
        simp only [Int.toNat_natCast, i1, i2, Bool.false_eq_true, if_false, Bool.true_eq_false, false_or]
        rw [if_neg (by simp; omega), e3, he]
        simp
        omega
theorem read_back {ws : List S} {r : S} (h0 : ws ≠ []) (h1 : ws.length ≤ 12) (h2 : (cmdL ws).length ≤ 300) (h3 : ∀ w ∈ ws, w.length < 1000) : sfin (cmdL ws ++ r) (sread (cmdL ws ++ r) 12 [] 0) = (ws, ((cmdL ws).length : Int), 0) := by
  have := read_words (t := cmdL ws ++ r) (r := r) ws 12 [] 0 h0 rfl (by omega) h1 (by simpa using h1) h3
  rw [this]
  have hl : 0 < (cmdL ws).length := by simp [cmdL]
  unfold sfin
  simp only [Nat.zero_add, List.nil_append]
  rw [if_pos (by omega)]
end Go.Proofs.YtbcgldeleankcaaDoor
