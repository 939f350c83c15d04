/- Commands: the program's and the reference's answers are the same. -/
import Derived.Test.YtbcgldeleankcaaDoorcB4
import Derived.Test.YtbcgldeleankcaaDoorcB7
set_option linter.unusedSectionVars false
set_option linter.all false
set_option linter.unusedVariables false
set_option linter.unusedSimpArgs false
set_option maxRecDepth 100000
namespace Go.Proofs.YtbcgldeleankcaaDoor
open Go.Lft

def agree (t : S) (s : S × Int) (w : S × Nat × Int) : Prop :=
  (s.2 = 0 ∧ w.2.2 = 1) ∨ (s.2 = -1 ∧ w.2.2 = 2) ∨ (s.2 = -1 ∧ w.2.2 = 0 ∧ ∃ h : w.2.1 < t.length, plainByte t[w.2.1] = true) ∨ (0 < s.2 ∧ w.1 = s.1 ∧ (w.2.1 : Int) = s.2 ∧ w.2.2 = 0) ∨ (s.2 = t.length ∧ 0 < s.2 ∧ w.2.2 = 1)
theorem endCode_lt {t : S} {a : Nat} (h : a < t.length) : endCode t a = 2 := by unfold endCode; rw [if_neg (by omega)]
theorem endCode_ge {t : S} {a : Nat} (h : t.length ≤ a) : endCode t a = 1 := by unfold endCode; rw [if_pos h]
theorem isB_of {t : S} {a : Nat} (h : a < t.length) (c : UInt8) : isB t a c = decide (t[a] = c) := by rw [Bool.eq_iff_iff]; simp [isB, List.getElem?_eq_getElem h]
theorem isB_end {t : S} {a : Nat} (h : t.length ≤ a) (c : UInt8) : isB t a c = false := by simp [isB, List.getElem?_eq_none h]
theorem wantM_code (t : S) : ∀ (w : S) (a : Nat), (wantM t w a 0).2 = 0 ∨ (wantM t w a 0).2 = 1 ∨ (wantM t w a 0).2 = 2 := by
  intro w
  induction w with
  | nil => intro a; simp [wantM]
  | cons b w ih =>
    intro a
    simp only [wantM, if_true]
    split
    · exact ih (a + 1)
    · unfold endCode; split <;> simp
theorem wantM_skip (t w : S) (a : Nat) (k : Int) (h : ¬ k = 0) : wantM t w a k = (a, k) := by cases w <;> simp [wantM, h]
theorem pl_tw : ∀ (f : Nat) (l : S), pl f l = min f (tw l) := by
  intro f
  induction f with
  | zero => intro l; simp [pl]
  | succ f ih =>
    intro l
    cases l with
    | nil => simp [pl, tw]
    | cons b l =>
      simp only [pl, tw, ih]
      split <;> omega
theorem tw_get : ∀ (l : S) (i : Nat) (h : i < tw l), plainByte (l[i]'(Nat.lt_of_lt_of_le h (tw_le l))) = true := by
  intro l
  induction l with
  | nil => intro i h; simp [tw] at h
  | cons b l ih =>
    intro i h
    by_cases hb : plainByte b = true
    · cases i with
      | zero => simpa using hb
      | succ i =>
        simp only [tw, hb, if_true] at h
        simpa using ih i (by omega)
    · simp [tw, hb] at h
theorem tw_stop : ∀ (l : S) (h : tw l < l.length), plainByte l[tw l] = false := by
  intro l
  induction l with
  | nil => intro h; simp at h
  | cons b l ih =>
    intro h
    cases hb : plainByte b
    · simp [tw, hb]
    · simp only [tw, hb, if_true, List.length_cons] at h
      have := ih (by omega)
      simpa [tw, hb] using this
theorem plain_agree (t : S) (p : Nat) (hp : p < t.length) : agree t (snextPlain t p) (plainM t p 0) := by
  have h1 := tw_le (t.drop p)
  have h2 := pl_tw 60 (t.drop p)
  simp at h1
  unfold snextPlain plainM
  rw [h2]
  by_cases h3 : tw (t.drop p) = 0
  · simp only [h3, Nat.min_zero, true_or, if_true, Nat.add_zero]
    exact Or.inr (Or.inl ⟨rfl, endCode_lt hp⟩)
  by_cases h4 : 60 < tw (t.drop p)
  · have h5 : min 60 (tw (t.drop p)) = 60 := by omega
    rw [h5, if_pos (Or.inr h4), if_neg (by omega)]
    refine Or.inr (Or.inr (Or.inl ⟨rfl, rfl, by simp; omega, ?_⟩))
    have := tw_get (t.drop p) 60 h4
    simpa using this
  · have h5 : min 60 (tw (t.drop p)) = tw (t.drop p) := by omega
    rw [h5, if_neg (by omega)]
    by_cases h6 : p + tw (t.drop p) = t.length
    · rw [if_pos (Or.inr h6)]
      refine Or.inr (Or.inr (Or.inr (Or.inr ⟨by simp; omega, by simp; omega, ?_⟩)))
      exact endCode_ge (by omega)
    · rw [if_neg (by omega)]
      exact Or.inr (Or.inr (Or.inr (Or.inl ⟨by simp; omega, rfl, rfl, rfl⟩)))
theorem text_agree (t : S) : ∀ (f g i : Nat) (out : S), i ≤ t.length → t.length + 1 ≤ i + f → t.length ≤ i + g → agree t (st t g i out) (markM t 0 f i out) := by
  intro f
  induction f with
  | zero => intro g i out h1 h2; omega
  | succ f ih =>
    intro g i out h1 h2 h3
    by_cases hi : i < t.length
    · obtain ⟨g, rfl⟩ : ∃ g', g = g' + 1 := ⟨g - 1, by omega⟩
      simp only [st, markM, List.getElem?_eq_getElem hi, isB_of hi]
      by_cases h4 : t[i] = 34
      · simp only [h4, decide_true, if_true]
        exact Or.inr (Or.inr (Or.inr (Or.inl ⟨by first | (simp; done) | (simp; omega), rfl, by simp, rfl⟩)))
      by_cases h5 : t[i] = 92
      · have hw : ¬ within (t[i].toNat : Int) 32 126 = false := by rw [h5]; decide
        simp only [h4, hw, h5, decide_false, decide_true, if_true, if_false, Bool.false_eq_true]
        have hw' : ¬ (within ((92 : UInt8).toNat : Int) 32 126 = false) := by decide
        simp only [hw', if_false]
        by_cases h6 : i + 1 < t.length
        · simp only [List.getElem?_eq_getElem h6, isB_of h6]
          by_cases h7 : t[i + 1] = 34
          · simp only [h7, true_or, if_true, decide_true]
            exact ih g (i + 2) _ (by omega) (by omega) (by omega)
          by_cases h8 : t[i + 1] = 92
          · simp only [h8, or_true, if_true, decide_true]
            have : ¬ (92 : UInt8) = 34 := by decide
            simp only [this, decide_false, if_false, Bool.false_eq_true]
            exact ih g (i + 2) _ (by omega) (by omega) (by omega)
          · simp only [h7, h8, or_self, if_false, decide_false, Bool.false_eq_true]
            exact Or.inr (Or.inl ⟨rfl, endCode_lt h6⟩)
        · rw [List.getElem?_eq_none (by omega), isB_end (by omega), isB_end (by omega)]
          exact Or.inl ⟨rfl, endCode_ge (by omega)⟩
      · simp only [h4, h5, decide_false, if_false, Bool.false_eq_true]
        cases hw : within (t[i].toNat : Int) 32 126
        · simp only [if_true, Bool.false_eq_true, if_false]
          exact Or.inr (Or.inl ⟨rfl, endCode_lt hi⟩)
        · simp only [Bool.true_eq_false, if_false, if_true]
          exact ih g (i + 1) _ (by omega) (by omega) (by omega)
    · have h4 : t.length ≤ i := by omega
      have hs : st t g i out = ([], 0) := by
        cases g with
        | zero => rfl
        | succ g => simp only [st]; rw [List.getElem?_eq_none h4]
      have hm : markM t 0 (f + 1) i out = ([], i, endCode t i) := by
        simp only [markM, isB_end h4]
        rw [List.getElem?_eq_none h4]
        simp
      rw [hs, hm]
      exact Or.inl ⟨rfl, endCode_ge h4⟩
theorem lit_agree (t : S) (p : Nat) (hp : p < t.length) (hb : isB t p 123 = true) : agree t (snextLit t (slit t p)) (litM t p 0) := by
  have hw : wantM t [123] p 0 = (p + 1, 0) := by simp [wantM, hb]
  have l1 := litL_le t 3 (p + 1) 0 (by omega)
  have l2 := litL_num t 3 (p + 1) 0 (by simp) (by omega)
  unfold litM slit litTail
  rw [hw]
  simp only
  generalize litL t 3 (p + 1) 0 = r at *
  obtain ⟨x, n⟩ := r
  simp only at l1 l2 ⊢
  have c1 := wantM_code t [125, 13, 10] x
  have c2 := wantM_ok t [125, 13, 10] x
  have c3 := wantM_le t [125, 13, 10] x 0 l1.2
  by_cases h1 : x = p + 1
  · subst h1
    by_cases h2 : p + 1 < t.length
    · rw [if_pos ⟨h2, rfl⟩]
      simp only [if_true]
      exact Or.inr (Or.inl ⟨by simp [snextLit], endCode_lt h2⟩)
    · rw [if_neg (by omega)]
      simp only [if_true]
      have : wantM t [125, 13, 10] (p + 1) 0 = (p + 1, 1) := by simp [wantM, isB_end (show t.length ≤ p + 1 by omega), endCode_ge (show t.length ≤ p + 1 by omega)]
      rw [this]
      exact Or.inl ⟨by simp [snextLit, slitEnd], endCode_ge (by omega)⟩
  · rw [if_neg (by omega), if_neg h1]
    generalize wantM t [125, 13, 10] x 0 = q at *
    obtain ⟨y, c⟩ := q
    simp only at c1 c2 c3 ⊢
    rcases c1 with rfl | rfl | rfl
    · have hy : y = x + 3 := by simpa using c2 rfl
      subst hy
      simp only [slitEnd, if_true, snextLit]
      rw [if_neg (by omega)]
      by_cases h3 : 300 < x + 3 + n + 2
      · rw [if_pos (by omega), if_pos h3]
        exact Or.inr (Or.inl ⟨rfl, rfl⟩)
      rw [if_neg (by omega), if_neg h3]
      by_cases h4 : t.length < x + 3 + n
      · rw [if_pos (by omega), if_pos h4]
        exact Or.inl ⟨rfl, rfl⟩
      · rw [if_neg (by omega), if_neg h4]
        have h5 : ((x : Int) + 3).toNat = x + 3 := by omega
        refine Or.inr (Or.inr (Or.inr (Or.inl ⟨by simp; omega, ?_, by simp, rfl⟩)))
        simp [h5]
    · exact Or.inl ⟨by simp [snextLit, slitEnd], by simp⟩
    · exact Or.inr (Or.inl ⟨by simp [snextLit, slitEnd], by simp⟩)
def corr (n : Int) (r : Nat × Int) : Prop := (0 < n ∧ n = r.1 ∧ r.2 = 0) ∨ (n = 0 ∧ r.2 = 1) ∨ (n = -1 ∧ r.2 = 2)
theorem sl_run (t : S) : ∀ (f i n : Nat) (b : Bool), n + f = 60 → pl f (t.drop i) ≠ 0 → sl (t.drop i) i n b = sl (t.drop (i + pl f (t.drop i))) (i + pl f (t.drop i)) (n + pl f (t.drop i)) false := by
  intro f
  induction f with
  | zero => intro i n b h1 h2; simp [pl] at h2
  | succ f ih =>
    intro i n b h1 h2
    by_cases hi : i < t.length
    · rw [drop_cons hi] at h2 ⊢
      simp only [pl] at h2 ⊢
      by_cases hb : plainByte t[i] = true
      · have n41 : ¬ t[i] = 41 := by intro h; rw [h] at hb; revert hb; decide
        have n32 : ¬ t[i] = 32 := by intro h; rw [h] at hb; revert hb; decide
        simp only [hb, if_true, sl, n41, n32, if_false, Bool.true_eq_false, false_or]
        rw [if_neg (by omega)]
        by_cases hz : pl f (t.drop (i + 1)) = 0
        · rw [hz]
        · rw [ih (i + 1) (n + 1) false (by omega) hz]
          have e1 : i + 1 + pl f (t.drop (i + 1)) = i + (pl f (t.drop (i + 1)) + 1) := by omega
          have e2 : n + 1 + pl f (t.drop (i + 1)) = n + (pl f (t.drop (i + 1)) + 1) := by omega
          rw [e1, e2]
      · simp [hb] at h2
    · rw [List.drop_eq_nil_of_le (by omega)] at h2
      simp [pl] at h2
theorem pl_stop (t : S) (i : Nat) (h : i + pl 60 (t.drop i) < t.length) : pl 60 (t.drop i) = 60 ∨ plainByte (t[i + pl 60 (t.drop i)]) = false := by
  have h2 := pl_tw 60 (t.drop i)
  have h1 := tw_le (t.drop i)
  simp at h1
  by_cases h3 : tw (t.drop i) < 60
  · right
    have h4 : pl 60 (t.drop i) = tw (t.drop i) := by omega
    have := tw_stop (t.drop i) (by simp; omega)
    simp only [h4]
    simpa using this
  · left; omega
def tailEnd (t : S) (f : Nat) (r : Nat × Int) : Nat × Int := wantM t [41] (listTail t f r.1 r.2).1 (listTail t f r.1 r.2).2
theorem tailEnd_skip (t : S) (f a : Nat) (k : Int) (h : ¬ k = 0) : tailEnd t f (a, k) = (a, k) := by
  have : listTail t f a k = (a, k) := by cases f <;> simp [listTail, h]
  unfold tailEnd
  rw [this]
  exact wantM_skip t [41] a k h
theorem list_rest (t : S) : ∀ (f i : Nat) (first : Bool), i ≤ t.length → t.length + 1 ≤ i + f → (first = true → isB t i 41 = false) → corr (sl (t.drop i) i 0 first) (tailEnd t f (plainM t i 0).2) := by
  intro f
  induction f with
  | zero => intro i first h1 h2 h3; omega
  | succ f ih =>
    intro i first h1 h2 h3
    have hk := (pl_le 60 (t.drop i)).2
    simp at hk
    by_cases hz : pl 60 (t.drop i) = 0
    · have hp : plainM t i 0 = ([], i, endCode t i) := by unfold plainM; rw [hz]; simp
      rw [hp, tailEnd_skip _ _ _ _ (endCode_ne t i)]
      by_cases hi : i < t.length
      · rw [endCode_lt hi]
        refine Or.inr (Or.inr ⟨?_, rfl⟩)
        rw [drop_cons hi] at hz ⊢
        simp only [pl] at hz
        have hb : plainByte t[i] = false := by cases hb : plainByte t[i]; rfl; simp [hb] at hz
        simp only [sl]
        by_cases h41 : t[i] = 41
        · have : first = false := by
            cases first
            · rfl
            · have := h3 rfl; rw [isB_of hi] at this; simp [h41] at this
          simp [h41, this]
        · simp [h41, hb]
      · rw [endCode_ge (by omega), List.drop_eq_nil_of_le (by omega)]
        exact Or.inr (Or.inl ⟨rfl, rfl⟩)
    · rw [sl_run t 60 i 0 first rfl hz]
      have hs := pl_stop t i
      simp only [Nat.zero_add]
      generalize hK : pl 60 (t.drop i) = K at *
      by_cases he : i + K = t.length
      · have hp : (plainM t i 0).2 = (i + K, endCode t (i + K)) := by unfold plainM; rw [hK, if_pos (Or.inr he)]
        rw [hp, tailEnd_skip _ _ _ _ (endCode_ne t _), endCode_ge (by omega), List.drop_eq_nil_of_le (by omega)]
        exact Or.inr (Or.inl ⟨rfl, rfl⟩)
      · have hl : i + K < t.length := by omega
        have hp : (plainM t i 0).2 = (i + K, 0) := by unfold plainM; rw [hK, if_neg (by omega)]
        have hs := hs hl
        rw [hp, drop_cons hl]
        simp only [sl]
        unfold tailEnd
        simp only [listTail, isB_of hl]
        by_cases h41 : t[i + K] = 41
        · simp [h41, hz, wantM, isB_of hl]
          exact Or.inl ⟨by omega, by simp, rfl⟩
        by_cases h32 : t[i + K] = 32
        · simp [h41, h32, hz]
          exact ih (i + K + 1) false (by omega) (by omega) (by simp)
        · have : plainByte t[i + K] = false ∨ K = 60 := Or.symm hs
          simp [h41, h32, wantM, isB_of hl, this]
          exact Or.inr (Or.inr ⟨rfl, endCode_lt hl⟩)
theorem list_agree (t : S) (p : Nat) (hp : p < t.length) (hb : isB t p 40 = true) : agree t (snextList t p (sl (t.drop (p + 1)) (p + 1) 0 true)) (listM t p 0) := by
  have hw : wantM t [40] p 0 = (p + 1, 0) := by simp [wantM, hb]
  have key : corr (sl (t.drop (p + 1)) (p + 1) 0 true) (wantM t [41] (listAll t p 0).1 (listAll t p 0).2) := by
    unfold listAll listHead
    rw [hw]
    simp only
    by_cases h : isB t (p + 1) 41 = true
    · have hl := isB_lt h
      rw [if_pos h, drop_cons hl]
      have h41 : t[p + 1] = 41 := by rw [isB_of hl] at h; simpa using h
      simp only [sl, h41, listTail, isB_of hl, if_true]
      have : ¬ (41 : UInt8) = 32 := by decide
      simp [this, wantM, isB_of hl, h41]
      exact Or.inl ⟨by omega, by simp, rfl⟩
    · rw [if_neg h]
      exact list_rest t (t.length + 1) (p + 1) true (by omega) (by omega) (fun _ => by simpa using h)
  have l := wantM_le t [41] (listAll t p 0).1 (listAll t p 0).2 (listAll_le t p 0 (by omega)).2
  unfold listM
  generalize wantM t [41] (listAll t p 0).1 (listAll t p 0).2 = r at *
  generalize sl (t.drop (p + 1)) (p + 1) 0 true = n at *
  obtain ⟨x, c⟩ := r
  simp only at l ⊢
  rcases key with ⟨h1, h2, h3⟩ | ⟨h1, h2⟩ | ⟨h1, h2⟩
  · simp only at h2 h3
    subst h2; subst h3
    unfold snextList
    rw [if_neg (by omega)]
    exact Or.inr (Or.inr (Or.inr (Or.inl ⟨h1, by simp, rfl, rfl⟩)))
  · simp only at h2
    subst h1; subst h2
    exact Or.inl ⟨rfl, rfl⟩
  · simp only at h2
    subst h1; subst h2
    exact Or.inr (Or.inl ⟨rfl, rfl⟩)
theorem word_agree (t : S) (p : Nat) (hp : p ≤ t.length) : agree t (snextM t p) (wordM t p 0) := by
  unfold snextM wordM
  by_cases h : t.length ≤ p
  · rw [if_pos h]
    simp only [isB_end h]
    simp only [Bool.false_eq_true, if_false]
    have : plainM t p 0 = ([], p, 1) := by
      unfold plainM
      rw [List.drop_eq_nil_of_le h]
      simp [pl, endCode_ge h]
    rw [this]
    exact Or.inl ⟨rfl, rfl⟩
  · rw [if_neg h]
    have hl : p < t.length := by omega
    by_cases h1 : isB t p 123 = true
    · have h2 : isB t p 40 = false := by rw [isB_of hl] at h1 ⊢; simp at h1; rw [h1]; decide
      have h3 : isB t p 34 = false := by rw [isB_of hl] at h1 ⊢; simp at h1; rw [h1]; decide
      simp only [h1, h2, h3, if_true, Bool.false_eq_true, if_false]
      exact lit_agree t p hl h1
    by_cases h2 : isB t p 34 = true
    · have h3 : isB t p 40 = false := by rw [isB_of hl] at h2 ⊢; simp at h2; rw [h2]; decide
      simp only [h1, h2, h3, if_true, Bool.false_eq_true, if_false]
      have hw : wantM t [34] p 0 = (p + 1, 0) := by simp [wantM, h2]
      unfold markedM
      rw [hw]
      exact text_agree t (t.length + 1) t.length (p + 1) [] (by omega) (by omega) (by omega)
    by_cases h3 : isB t p 40 = true
    · simp only [h1, h2, h3, if_true, if_false]
      exact list_agree t p hl h3
    · simp only [h1, h2, h3, if_false]
      exact plain_agree t p hl
def rfin (t : S) (r : List S × Nat × Int) : List S × Nat × Int := if readCode t (readEnd t r) = 0 then (r.1, (readEnd t r).1, 0) else ([], 0, readCode t (readEnd t r))
def same (a : List S × Nat × Int) (b : List S × Int × Int) : Prop := a.1 = b.1 ∧ (a.2.1 : Int) = b.2.1 ∧ a.2.2 = b.2.2
theorem stop_loop (t : S) (f : Nat) (ws : List S) (a : Nat) (k : Int) (more : Bool) (h : ¬ (more = true ∧ k = 0)) : readLoop t f ws a k more = (ws, a, k) := by
  cases f with
  | zero => rfl
  | succ f => simp only [readLoop]; rw [if_neg h]
theorem fin_one (t : S) (ws ws' : List S) (a : Nat) : same (rfin t (ws, a, 1)) (sfin t (ws', 0)) := by
  unfold rfin sfin same readCode readEnd
  by_cases h : 300 ≤ t.length
  · simp [h, show ¬ t.length < 300 by omega]
  · simp [h, show t.length < 300 by omega]
theorem fin_two (t : S) (ws ws' : List S) (a : Nat) : same (rfin t (ws, a, 2)) (sfin t (ws', -1)) := by
  unfold rfin sfin same readCode readEnd
  simp
theorem fin_want (t : S) (ws ws' : List S) (a : Nat) (k : Int) (hk : k = 1 ∨ k = 2) (q : Nat) (h : wantM t [13, 10] a 0 = (q, k)) : same (rfin t (ws, a, 0)) (sfin t (ws', if k = 1 then 0 else -1)) := by
  have : rfin t (ws, a, 0) = rfin t (ws, q, k) := by
    have h1 : readEnd t (ws, a, 0) = (q, k) := by unfold readEnd; simp [h]
    have h2 : readEnd t (ws, q, k) = (q, k) := by unfold readEnd; rcases hk with rfl | rfl <;> simp
    unfold rfin
    rw [h1, h2]
  rw [this]
  rcases hk with rfl | rfl
  · exact fin_one t ws ws' q
  · exact fin_two t ws ws' q
theorem read_same (t : S) : ∀ (f : Nat) (ws : List S) (a p : Nat), ws.length + f = 12 → ws.length < 12 → p ≤ t.length → readPos t ws a = p → same (rfin t (readLoop t (f + 1) ws a 0 true)) (sfin t (sread t f ws p)) := by
  intro f
  induction f with
  | zero => intro ws a p h1 h2; omega
  | succ f ih =>
    intro ws a p h1 h2 h3 h4
    rw [readLoop]
    simp only [sread]
    rw [if_pos (by simp), if_neg (by omega), h4]
    have ha := word_agree t p h3
    have hb := wordM_le t p 0 h3
    have hc := snext_le t p h3
    generalize wordM t p 0 = w at *
    generalize snextM t p = s at *
    obtain ⟨wd, x, k⟩ := w
    obtain ⟨sd, n⟩ := s
    simp only at hb hc ⊢
    rcases ha with ⟨e1, e2⟩ | ⟨e1, e2⟩ | ⟨e1, e2, e3, e4⟩ | ⟨e1, e2, e3, e4⟩ | ⟨e1, e2, e3⟩
    · simp only at e1 e2
      subst e1; subst e2
      rw [stop_loop _ _ _ _ _ _ (by simp), if_pos (by omega)]
      exact fin_one t _ _ x
    · simp only at e1 e2
      subst e1; subst e2
      rw [stop_loop _ _ _ _ _ _ (by simp), if_pos (by omega)]
      exact fin_two t _ _ x
    · simp only at e1 e2 e3 e4
      subst e1; subst e2
      have n32 : isB t x 32 = false := by rw [isB_of e3]; simp; intro h; rw [h] at e4; revert e4; decide
      have n13 : isB t x 13 = false := by rw [isB_of e3]; simp; intro h; rw [h] at e4; revert e4; decide
      rw [stop_loop _ _ _ _ _ _ (by simp [n32]), if_pos (by omega)]
      exact fin_want t _ _ x 2 (Or.inr rfl) x (by simp [wantM, n13, endCode_lt e3])
    · simp only at e1 e2 e3 e4
      subst e2; subst e3; subst e4
      rw [if_neg (by omega)]
      by_cases g1 : x = t.length
      · rw [if_pos (by omega), stop_loop _ _ _ _ _ _ (by simp [isB_end (show t.length ≤ x by omega)])]
        exact fin_want t _ _ x 1 (Or.inl rfl) x (by simp [wantM, isB_end (show t.length ≤ x by omega), endCode_ge (show t.length ≤ x by omega)])
      · rw [if_neg (by omega)]
        have hx : x < t.length := by omega
        simp only [Int.toNat_natCast]
        by_cases g2 : isB t x 13 = true
        · have n32 : isB t x 32 = false := by rw [isB_of hx] at g2 ⊢; simp at g2; rw [g2]; decide
          rw [if_pos g2, stop_loop _ _ _ _ _ _ (by simp [n32])]
          by_cases g3 : x + 1 = t.length
          · rw [if_pos (by omega)]
            exact fin_want t _ _ x 1 (Or.inl rfl) (x + 1) (by simp [wantM, g2, isB_end (show t.length ≤ x + 1 by omega), endCode_ge (show t.length ≤ x + 1 by omega)])
          · rw [if_neg (by omega)]
            have hx1 : x + 1 < t.length := by omega
            by_cases g4 : isB t (x + 1) 10 = true
            · rw [if_pos g4]
              have hw : wantM t [13, 10] x 0 = (x + 2, 0) := by simp [wantM, g2, g4]
              unfold rfin sfin same readCode readEnd
              simp only [hw, if_true]
              by_cases g5 : 300 < x + 2
              · simp [g5, show ¬ ((x : Int) + 2 ≤ 300) by omega, show ¬ ((x : Int) + 2 = 0) by omega]
              · simp [g5, show ((x : Int) + 2 ≤ 300) by omega, show (0 : Int) < (x : Int) + 2 by omega]
            · rw [if_neg g4]
              exact fin_want t _ _ x 2 (Or.inr rfl) (x + 1) (by simp [wantM, g2, g4, endCode_lt hx1])
        · rw [if_neg g2]
          by_cases g3 : isB t x 32 = true
          · simp only [g3, Bool.true_eq_false, false_or]
            by_cases g4 : (ws ++ [wd]).length = 12
            · rw [if_pos g4, readLoop, if_pos (by simp), if_pos g4]
              exact fin_two t _ _ x
            · rw [if_neg g4]
              simp at g4
              refine ih (ws ++ [wd]) x (x + 1) (by simp; omega) (by simp; omega) (by omega) ?_
              unfold readPos
              rw [if_pos ⟨g3, by simp⟩]
          · simp at g3
            rw [if_pos (Or.inl g3), stop_loop _ _ _ _ _ _ (by simp [g3])]
            exact fin_want t _ _ x 2 (Or.inr rfl) x (by simp [wantM, g2, endCode_lt hx])
    · simp only at e1 e2 e3
      subst e1; subst e3
      rw [if_neg (by omega), if_pos rfl, stop_loop _ _ _ _ _ _ (by simp)]
      exact fin_one t _ _ x
theorem readM_same (t : S) : same (readM t) (sfin t (sread t 12 [] 0)) := read_same t 12 [] 0 0 rfl (by simp) (by omega) (by simp [readPos])
end Go.Proofs.YtbcgldeleankcaaDoor
