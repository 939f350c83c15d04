/- Stores: order of names; a box put, made, dropped: of the program. -/
import Derived.Test.YtomeglmblhfafaaGreatDoorcH1
import Derived.Test.YtomeglmblhfafaaGreatDoorcP1
set_option linter.unusedSectionVars false
set_option linter.all false
set_option linter.unusedVariables false
set_option linter.unusedSimpArgs false
set_option maxRecDepth 100000
namespace Go.Proofs.YtomeglmblhfafaaGreatDoor
open Go.Lft

/-! ### The order of names -/
theorem ltB_irrefl : ∀ a : S, ltB a a = false
  | [] => rfl
  | a :: x => by simp [ltB, ltB_irrefl x]
theorem ltB_trans : ∀ {a b c : S}, ltB a b = true → ltB b c = true → ltB a c = true
  | _, [], c, h, _ => by simp [ltB] at h
  | _, _ :: _, [], _, h => by simp [ltB] at h
  | [], _ :: _, _ :: _, _, _ => rfl
  | a :: x, b :: y, c :: z, h1, h2 => by
    simp only [ltB, Bool.or_eq_true, Bool.and_eq_true, decide_eq_true_eq] at h1 h2 ⊢
    rcases h1 with h1 | ⟨rfl, h1⟩
    · rcases h2 with h2 | ⟨rfl, h2⟩
      · exact .inl (UInt8.lt_trans h1 h2)
      · exact .inl h1
    · rcases h2 with h2 | ⟨rfl, h2⟩
      · exact .inl h2
      · exact .inr ⟨rfl, ltB_trans h1 h2⟩
theorem ltB_asymm {a b : S} (h : ltB a b = true) : ltB b a = false := by
  cases hb : ltB b a
  · rfl
  · have := ltB_trans h hb
    rw [ltB_irrefl] at this; cases this
theorem ltB_tri : ∀ {a b : S}, ltB a b = false → ltB b a = false → a = b
  | [], [], _, _ => rfl
  | [], _ :: _, h, _ => by simp [ltB] at h
  | _ :: _, [], _, h => by simp [ltB] at h
  | a :: x, b :: y, h1, h2 => by
    simp only [ltB, Bool.or_eq_false_iff, Bool.and_eq_false_iff, decide_eq_false_iff_not] at h1 h2
    have hab : a = b := by
      have h3 := UInt8.not_lt.1 h1.1
      have h4 := UInt8.not_lt.1 h2.1
      exact UInt8.le_antisymm h4 h3
    subst hab
    congr 1
    exact ltB_tri (by rcases h1.2 with h | h; exact absurd rfl h; exact h) (by rcases h2.2 with h | h; exact absurd rfl h; exact h)
theorem storeGoodB_iff {s : Store} {k : Nat} {b : Box} : storeGoodB s k b = true ↔ storeGood s.valid (prevOf s.boxes k) b := by
  unfold storeGoodB
  exact ⟨fun h => @of_decide_eq_true _ (Classical.propDecidable _) h, fun h => @decide_eq_true _ (Classical.propDecidable _) h⟩
theorem storeOk_iff (s : Store) : storeOk s = true ↔ (∀ b ∈ s.boxes, boxOk b = true ∧ b.valid < s.valid) ∧ s.boxes.Pairwise (fun a c => ltB a.name c.name = true) ∧ (1 ≤ s.boxes.length ∧ s.boxes.length ≤ 4) ∧ (2 ≤ s.valid ∧ s.valid ≤ 9999) := by
  unfold storeOk
  rw [Bool.and_eq_true, Bool.and_eq_true, decide_eq_true_eq]
  have key : StoresOK s ↔ (∀ b ∈ s.boxes, boxOk b = true ∧ b.valid < s.valid) ∧ s.boxes.Pairwise (fun a c => ltB a.name c.name = true) := by
    unfold StoresOK
    constructor
    · intro h
      refine ⟨fun b hb => ?_, pairwise_of_next (R := fun a c : Box => ltB a.name c.name = true) (fun a b c h1 h2 => ltB_trans h1 h2) fun k hk => ?_⟩
      · obtain ⟨k, hk, rfl⟩ := List.getElem_of_mem hb
        have := h k s.boxes[k] hk (List.getElem?_eq_getElem hk)
        have := storeGoodB_iff.1 this
        exact ⟨this.1, this.2.2⟩
      · have := h (k + 1) s.boxes[k + 1] hk (List.getElem?_eq_getElem hk)
        have := storeGoodB_iff.1 this
        simp only [storeGood, prevOf_succ (show k < s.boxes.length by omega)] at this
        exact this.2.1
    · rintro ⟨h1, h2⟩ k x hk hx
      rw [List.getElem?_eq_getElem hk] at hx
      obtain rfl := Option.some.inj hx
      obtain ⟨a1, a2⟩ := h1 s.boxes[k] (List.getElem_mem hk)
      show storeGoodB s k s.boxes[k] = true
      rw [storeGoodB_iff]
      unfold storeGood
      refine ⟨a1, ?_, a2⟩
      cases k with
      | zero => simp [prevOf]
      | succ k =>
        rw [prevOf_succ (by omega)]
        rw [List.pairwise_iff_getElem] at h2
        exact h2 k (k + 1) (by omega) hk (by omega)
  rw [key]
  simp only [within, Bool.and_eq_true, decide_eq_true_eq]
  constructor
  · rintro ⟨⟨a, b⟩, ⟨c, d⟩, e⟩; exact ⟨a, b, ⟨by omega, by omega⟩, e⟩
  · rintro ⟨a, b, ⟨c, d⟩, e⟩; exact ⟨⟨a, b⟩, ⟨by omega, by omega⟩, e⟩
theorem storeOk_sz {s : Store} (h : storeOk s = true) : szStore s ≤ 100000 := by
  obtain ⟨h1, _, h3, _⟩ := (storeOk_iff s).1 h
  have hz : szStore s = s.boxes.length + tot (fun (y : Box) => szBox y) s.boxes := rfl
  have key : ∀ xs : List Box, (∀ b ∈ xs, szBox b ≤ 10000) → tot (fun (y : Box) => szBox y) xs ≤ xs.length * 10000 := by
    intro xs
    induction xs with
    | nil => intro _; exact Nat.le_refl _
    | cons b xs ih =>
      intro hb
      have := hb b (by simp)
      have := ih fun x hx => hb x (List.mem_cons_of_mem _ hx)
      simp only [tot, List.length_cons]; omega
  have := key s.boxes fun b hb => boxOk_sz (h1 b hb).1
  have := Nat.mul_le_mul_right 10000 h3.2
  omega
theorem split_at {xs : List Box} {n : S} (hp : xs.Pairwise (fun a c => ltB a.name c.name = true)) (hn : xs.any (isNamed n) = false) {i : Nat} (h1 : ∀ x ∈ xs.take i, ltB x.name n = true) (h2 : ∀ h : i < xs.length, ltB xs[i].name n = false) :
    xs.take i = xs.filter (fun b => ltB b.name n) ∧ xs.drop i = xs.filter (fun b => ltB n b.name) := by
  have hd : ∀ y ∈ xs.drop i, ltB y.name n = false ∧ ltB n y.name = true := by
    intro y hy
    have hi : i < xs.length := by
      rcases Nat.lt_or_ge i xs.length with h | h
      · exact h
      · rw [List.drop_eq_nil_of_le h] at hy; simp at hy
    have h3 := h2 hi
    have hlt : ltB y.name n = false := by
      cases hc : ltB y.name n
      · rfl
      · exfalso
        rw [List.drop_eq_getElem_cons hi] at hy
        rcases List.mem_cons.1 hy with rfl | hy
        · rw [hc] at h3; cases h3
        · have hp2 : (xs[i] :: xs.drop (i + 1)).Pairwise (fun a c => ltB a.name c.name = true) := by
            rw [← List.drop_eq_getElem_cons hi]; exact hp.sublist (List.drop_sublist ..)
          have := ltB_trans ((List.pairwise_cons.1 hp2).1 y hy) hc
          rw [this] at h3; cases h3
    refine ⟨hlt, ?_⟩
    cases hc : ltB n y.name
    · exfalso
      have := ltB_tri hlt hc
      rw [List.any_eq_false] at hn
      exact hn y (List.mem_of_mem_drop hy) (by simp [isNamed, this])
    · rfl
  have e1 : xs.filter (fun b => ltB b.name n) = (xs.take i).filter (fun b => ltB b.name n) ++ (xs.drop i).filter (fun b => ltB b.name n) := by rw [← List.filter_append, List.take_append_drop]
  have e2 : xs.filter (fun b => ltB n b.name) = (xs.take i).filter (fun b => ltB n b.name) ++ (xs.drop i).filter (fun b => ltB n b.name) := by rw [← List.filter_append, List.take_append_drop]
  rw [e1, e2, List.filter_eq_self.2 h1, List.filter_eq_nil_iff.2 (fun y hy => by simp [(hd y hy).1]), List.filter_eq_nil_iff.2 (fun y hy => by simp [ltB_asymm (h1 y hy)]), List.filter_eq_self.2 (fun y hy => (hd y hy).2)]
  simp
/-! ### A box put back -/
def putBox (s : Store) (b : Box) : Store := match s.boxes.findIdx? (isNamed b.name) with | some i => ⟨s.boxes.set i b, s.valid⟩ | none => s
theorem putBox_at {s : Store} {b : Box} {i : Nat} (h : i < s.boxes.length) (h1 : isNamed b.name s.boxes[i] = true) (h2 : (s.boxes.take i).any (isNamed b.name) = false) : putBox s b = ⟨s.boxes.set i b, s.valid⟩ := by
  have : s.boxes.findIdx? (isNamed b.name) = some i := by
    rw [List.findIdx?_eq_some_iff_getElem]
    refine ⟨h, h1, fun j hj => ?_⟩
    rw [List.any_eq_false] at h2
    simpa using h2 s.boxes[j] (by rw [List.mem_take_iff_getElem]; exact ⟨j, by omega, rfl⟩)
  simp [putBox, this]
theorem putBox_none {s : Store} {b : Box} (h : s.boxes.any (isNamed b.name) = false) : putBox s b = s := by
  have : s.boxes.findIdx? (isNamed b.name) = none := by
    rw [List.findIdx?_eq_none_iff]
    intro x hx
    rw [List.any_eq_false] at h
    simpa using h x hx
  simp [putBox, this]
end Go.Proofs.YtomeglmblhfafaaGreatDoor
