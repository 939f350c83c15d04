/- Commands: a list of words, as the reference scans it and as the program parts it. -/
import Derived.Test.YtbcgldeleankcaaDoorcU2
set_option linter.unusedSectionVars false
set_option linter.all false
set_option linter.unusedVariables false
set_option linter.unusedSimpArgs false
namespace Go.Proofs.YtbcgldeleankcaaDoor
open Go.Lft

/-! ### A list of words: the reference's scan and the program's parts -/
def partsC (n : Nat) (u : S) : Prop := match splitL u with
  | p :: ps => (1 ≤ n + p.length ∧ n + p.length ≤ 60 ∧ p.all plainByte = true) ∧ ps.all plainW = true
  | [] => False
theorem plain_41 : plainByte 41 = false := by decide
theorem plain_32 : plainByte 32 = false := by decide
theorem partsC_cons {b : UInt8} {u : S} {n : Nat} (h : ¬ b = 32) : partsC n (b :: u) ↔ plainByte b = true ∧ partsC (n + 1) u := by
  obtain ⟨p, ps, hp⟩ := splitL_ne u
  simp only [partsC, splitL, h, if_false, hp, List.length_cons, List.all_cons, Bool.and_eq_true]
  constructor
  · rintro ⟨⟨h1, h2, h3, h4⟩, h5⟩; exact ⟨h3, ⟨by omega, by omega, h4⟩, h5⟩
  · rintro ⟨h3, ⟨h1, h2, h4⟩, h5⟩; exact ⟨⟨by omega, by omega, h3, h4⟩, h5⟩
theorem partsC_blank {u : S} {n : Nat} : partsC n (32 :: u) ↔ (1 ≤ n ∧ n ≤ 60) ∧ partsC 0 u := by
  obtain ⟨p, ps, hp⟩ := splitL_ne u
  have h1 : splitL (32 :: u) = [] :: p :: ps := by simp [splitL, hp]
  simp only [partsC, h1, hp]
  simp only [List.length_nil, Nat.add_zero, List.all_nil, and_true, List.all_cons, Bool.and_eq_true, plainW, decide_eq_true_eq, Nat.zero_add]
  constructor
  · rintro ⟨⟨h1, h2⟩, ⟨⟨h3, h4⟩, h5⟩, h6⟩; exact ⟨⟨h1, h2⟩, ⟨h3, h4, h5⟩, h6⟩
  · rintro ⟨⟨h1, h2⟩, ⟨h3, h4, h5⟩, h6⟩; exact ⟨⟨h1, h2⟩, ⟨⟨h3, h4⟩, h5⟩, h6⟩
theorem sl_parts (x : UInt8) : ∀ (u : S) (i n : Nat), n ≤ 60 → (sl (u ++ [x]) i n false = ((i + u.length : Nat) : Int) + 1 ↔ x = 41 ∧ partsC n u) := by
  intro u
  induction u with
  | nil =>
    intro i n hn
    simp only [List.nil_append, sl, partsC, splitL, List.length_nil, List.all_nil]
    by_cases h1 : x = 41
    · simp only [h1, if_true, and_true]
      by_cases h2 : n = 0
      · simp only [h2, if_true]; constructor
        · intro h; omega
        · intro h; omega
      · simp [h2]; omega
    · simp only [h1, if_false, false_and, iff_false]
      split
      · split <;> omega
      · split <;> omega
  | cons b u ih =>
    intro i n hn
    simp only [List.cons_append, sl, List.length_cons]
    by_cases h1 : b = 41
    · subst h1
      have : ¬ partsC n (41 :: u) := by rw [partsC_cons (by decide)]; simp [plain_41]
      simp only [if_true, this, and_false, iff_false]
      split <;> omega
    · simp only [h1, if_false]
      by_cases h2 : b = 32
      · subst h2
        simp only [if_true, partsC_blank]
        by_cases h3 : n = 0
        · simp only [h3, if_true]; constructor
          · intro h; omega
          · rintro ⟨_, ⟨h, _⟩, _⟩; omega
        · simp only [h3, if_false]
          have := ih (i + 1) 0 (by omega)
          rw [show ((i + (u.length + 1) : Nat) : Int) = ((i + 1 + u.length : Nat) : Int) by omega, this]
          constructor
          · rintro ⟨h4, h5⟩; exact ⟨h4, ⟨by omega, by omega⟩, h5⟩
          · rintro ⟨h4, _, h5⟩; exact ⟨h4, h5⟩
      · simp only [h2, if_false, partsC_cons h2]
        by_cases h3 : plainByte b = false ∨ n = 60
        · simp only [h3, if_true]
          constructor
          · intro h; omega
          · rintro ⟨_, h5, h6⟩
            rcases h3 with h3 | h3
            · rw [h3] at h5; cases h5
            · exfalso
              obtain ⟨p, ps, hp⟩ := splitL_ne u
              simp only [partsC, hp] at h6
              omega
        · simp only [h3, if_false]
          have := ih (i + 1) (n + 1) (by omega)
          rw [show ((i + (u.length + 1) : Nat) : Int) = ((i + 1 + u.length : Nat) : Int) by omega, this]
          have hp : plainByte b = true := by
            cases hb : plainByte b
            · exact absurd (.inl hb) h3
            · rfl
          simp [hp]
def isListM (w : S) : Bool := decide (w.head? = some 40) && (decide ((w.drop 1).getLast? = some 41) && (decide ((w.drop 1).take ((w.drop 1).length - 1) = []) || (splitL ((w.drop 1).take ((w.drop 1).length - 1))).all plainW))
theorem all_parts {u : S} : (splitL u).all plainW = true ↔ partsC 0 u := by
  obtain ⟨p, ps, hp⟩ := splitL_ne u
  simp only [partsC, hp, List.all_cons, Bool.and_eq_true, plainW, decide_eq_true_eq]
  constructor
  · rintro ⟨⟨⟨h1, h2⟩, h3⟩, h4⟩; exact ⟨⟨by omega, by omega, h3⟩, h4⟩
  · rintro ⟨⟨h1, h2, h3⟩, h4⟩; exact ⟨⟨⟨by omega, by omega⟩, h3⟩, h4⟩
theorem isListM_eq (w : S) : isListM w = listW w := by
  cases w with
  | nil => rfl
  | cons b v =>
    by_cases hb : b = 40
    case neg =>
      have h1 : isB (b :: v) 0 40 = false := by simpa [isB] using hb
      simp [isListM, listW, h1, hb]
    subst hb
    rcases List.eq_nil_or_concat v with rfl | ⟨u, x, rfl⟩
    · rfl
    · have h1 : isB (40 :: u.concat x) 0 40 = true := by simp [isB]
      have h2 : ∀ (P : Bool) (Q : Prop) [Decidable Q], (P = true ↔ Q) → P = decide Q := fun P Q _ h => by rw [Bool.eq_iff_iff]; simpa using h
      rw [List.concat_eq_append]
      rw [Bool.eq_iff_iff]
      simp only [isListM, listW, List.head?_cons, List.drop_succ_cons, List.drop_zero, List.getLast?_concat, List.length_append, List.length_cons, List.length_nil, Nat.add_sub_cancel, List.take_left', Bool.and_eq_true, decide_eq_true_eq, Bool.or_eq_true, Option.some.injEq, true_and, Nat.zero_add]
      rw [all_parts]
      have h3 : isB (40 :: (u ++ [x])) 0 40 = true := by simp [isB]
      simp only [h3, true_and]
      cases u with
      | nil =>
        simp only [sl, List.nil_append]
        by_cases hx : x = 41
        · subst hx; simp
        · simp only [hx, false_and, if_false, false_iff, not_and]
          intro _
          split
          · split <;> simp
          · split <;> simp
      | cons c u =>
        have hne : ¬ (c :: u) = [] := by simp
        simp only [hne, false_or, List.cons_append, sl, List.length_cons]
        by_cases h4 : c = 41
        · subst h4
          have : ¬ partsC 0 (41 :: u) := by rw [partsC_cons (by decide)]; simp [plain_41]
          simp only [this, and_false, false_iff, if_true, not_and]
          intro _
          simp; omega
        · simp only [h4, if_false]
          by_cases h5 : c = 32
          · subst h5
            simp only [if_true, partsC_blank]
            constructor
            · rintro ⟨_, ⟨h, _⟩, _⟩; omega
            · rintro ⟨_, h⟩; omega
          · simp only [h5, if_false, partsC_cons h5]
            by_cases h6 : plainByte c = false
            · simp only [h6, true_or, if_true]
              constructor
              · rintro ⟨_, h, _⟩; cases h
              · rintro ⟨_, h⟩; omega
            · have hp : plainByte c = true := by
                cases hb : plainByte c
                · exact absurd hb h6
                · rfl
              have := sl_parts x u 2 1 (by omega)
              rw [if_neg (by rintro (h | h); exact h6 h; omega)]
              simp only [hp, true_and, Nat.zero_add]
              show _ ↔ _ ∧ sl (u ++ [x]) 2 1 false = _
              rw [show ((u.length + 1 + 1 + 1 : Nat) : Int) = ((2 + u.length : Nat) : Int) + 1 by omega, this]
              constructor
              · rintro ⟨h7, h8⟩; exact ⟨by omega, h7, h8⟩
              · rintro ⟨_, h7, h8⟩; exact ⟨h7, h8⟩
end Go.Proofs.YtbcgldeleankcaaDoor
