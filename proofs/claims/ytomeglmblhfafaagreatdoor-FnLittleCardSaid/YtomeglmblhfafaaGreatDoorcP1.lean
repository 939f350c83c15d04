/- Plain facts about right boxes. -/
import Derived.Test.YtomeglmblhfafaaGreatDoorcD5
import Derived.Test.YtomeglmblhfafaaGreatDoorcC3
set_option linter.unusedSectionVars false
set_option linter.all false
set_option linter.unusedVariables false
set_option linter.unusedSimpArgs false
set_option maxRecDepth 100000
namespace Go.Proofs.YtomeglmblhfafaaGreatDoor
open Go.Lft

theorem pairwise_of_next {α : Type} {R : α → α → Prop} (tr : ∀ a b c, R a b → R b c → R a c) {xs : List α} (h : ∀ (k : Nat) (hk : k + 1 < xs.length), R xs[k] xs[k + 1]) : xs.Pairwise R := by
  rw [List.pairwise_iff_getElem]
  have key : ∀ (d i : Nat) (hi : i + d + 1 < xs.length), R xs[i] xs[i + d + 1] := by
    intro d
    induction d with
    | zero => intro i hi; exact h i hi
    | succ d ih =>
      intro i hi
      exact tr _ _ _ (ih i (by omega)) (h (i + d + 1) (by omega))
  intro i j hi hj hij
  have := key (j - i - 1) i (by omega)
  have e : i + (j - i - 1) + 1 = j := by omega
  simpa only [e] using this
theorem prevOf_succ {α : Type} {xs : List α} {k : Nat} (h : k < xs.length) : prevOf xs (k + 1) = some xs[k] := by simp [prevOf, h]
def MailFine (b : Box) (m : Mail) : Prop := 1 ≤ m.uid ∧ m.uid ≤ b.next - 1 ∧ within m.flags 0 31 = true ∧ 1 ≤ m.mod ∧ m.mod ≤ b.mod ∧ mailOk m.text = true
theorem mails_iff (b : Box) : upto b.mails (mailsGood b) b.mails.length ↔ (∀ m ∈ b.mails, MailFine b m) ∧ b.mails.Pairwise (fun a c => a.uid < c.uid) := by
  constructor
  · intro h
    refine ⟨fun m hm => ?_, pairwise_of_next (fun a b c h1 h2 => by omega) fun k hk => ?_⟩
    · obtain ⟨k, hk, rfl⟩ := List.getElem_of_mem hm
      have := h k b.mails[k] hk (List.getElem?_eq_getElem hk)
      simp only [mailsGood, mailGood, Bool.and_eq_true, within, decide_eq_true_eq] at this
      obtain ⟨⟨⟨⟨⟨h1, h2⟩, _⟩, h3⟩, ⟨h4, h5⟩⟩, h6⟩ := this
      exact ⟨h1, h2, by simp [within, h3], h4, h5, h6⟩
    · have := h (k + 1) b.mails[k + 1] hk (List.getElem?_eq_getElem hk)
      simp only [mailsGood, mailGood, prevOf_succ (show k < b.mails.length by omega), Bool.and_eq_true, decide_eq_true_eq] at this
      exact this.1.1.1.2
  · rintro ⟨h1, h2⟩ k x hk hx
    rw [List.getElem?_eq_getElem hk] at hx
    obtain rfl := Option.some.inj hx
    obtain ⟨a1, a2, a3, a4, a5, a6⟩ := h1 b.mails[k] (List.getElem_mem hk)
    simp only [mailsGood, mailGood, Bool.and_eq_true]
    refine ⟨⟨⟨⟨by simp [within]; omega, ?_⟩, a3⟩, by simp [within]; omega⟩, a6⟩
    cases k with
    | zero => simp [prevOf]
    | succ k =>
      rw [prevOf_succ (by omega)]
      rw [List.pairwise_iff_getElem] at h2
      simpa using h2 k (k + 1) (by omega) hk (by omega)
def tombLt (a c : Tomb) : Prop := a.mod < c.mod ∨ (a.mod = c.mod ∧ a.uid < c.uid)
def TombFine (b : Box) (t : Tomb) : Prop := 1 ≤ t.uid ∧ t.uid ≤ b.next - 1 ∧ b.horizon + 1 ≤ t.mod ∧ t.mod ≤ b.mod ∧ hasUid b.mails t.uid = false
theorem tombs_iff (b : Box) : upto b.tombs (tombsGood b) b.tombs.length ↔ (∀ t ∈ b.tombs, TombFine b t) ∧ b.tombs.Pairwise (fun a c => tombLt a c) ∧ b.tombs.Pairwise (fun a c => a.uid ≠ c.uid) := by
  constructor
  · intro h
    refine ⟨fun m hm => ?_, pairwise_of_next (fun a b c h1 h2 => by unfold tombLt at *; omega) fun k hk => ?_, ?_⟩
    · obtain ⟨k, hk, rfl⟩ := List.getElem_of_mem hm
      have := h k b.tombs[k] hk (List.getElem?_eq_getElem hk)
      simp only [tombsGood, tombGood, Bool.and_eq_true, within, decide_eq_true_eq, Bool.not_eq_true'] at this
      obtain ⟨⟨⟨⟨⟨h1, h2⟩, ⟨h3, h4⟩⟩, _⟩, h5⟩, _⟩ := this
      exact ⟨h1, h2, h3, h4, h5⟩
    · have := h (k + 1) b.tombs[k + 1] hk (List.getElem?_eq_getElem hk)
      simp only [tombsGood, tombGood, prevOf_succ (show k < b.tombs.length by omega), Bool.and_eq_true, Bool.or_eq_true, decide_eq_true_eq] at this
      exact this.2
    · rw [List.pairwise_iff_getElem]
      intro i j hi hj hij he
      have := h j b.tombs[j] hj (List.getElem?_eq_getElem hj)
      simp only [tombsGood, tombGood, Bool.and_eq_true, Bool.not_eq_true', hasTomb, List.any_eq_false, decide_eq_true_eq] at this
      exact this.1.1.2 b.tombs[i] (by rw [List.mem_take_iff_getElem]; exact ⟨i, by omega, rfl⟩) he
  · rintro ⟨h1, h2, h3⟩ k x hk hx
    rw [List.getElem?_eq_getElem hk] at hx
    obtain rfl := Option.some.inj hx
    obtain ⟨a1, a2, a3, a4, a5⟩ := h1 b.tombs[k] (List.getElem_mem hk)
    simp only [tombsGood, tombGood, Bool.and_eq_true, Bool.not_eq_true']
    refine ⟨⟨⟨⟨by simp [within]; omega, by simp [within]; omega⟩, ?_⟩, a5⟩, ?_⟩
    · unfold hasTomb
      rw [List.any_eq_false]
      intro t ht
      rw [List.mem_take_iff_getElem] at ht
      obtain ⟨i, hi, rfl⟩ := ht
      rw [List.pairwise_iff_getElem] at h3
      simpa using h3 i k (by omega) hk (by omega)
    · cases k with
      | zero => simp [prevOf]
      | succ k =>
        rw [prevOf_succ (by omega)]
        rw [List.pairwise_iff_getElem] at h2
        simpa [tombLt] using h2 k (k + 1) (by omega) hk (by omega)
theorem boxOk_iff (b : Box) : boxOk b = true ↔ boxName b.name = true ∧ (1 ≤ b.valid ∧ b.valid ≤ 9999) ∧ (1 ≤ b.next ∧ b.next ≤ 9999) ∧ (1 ≤ b.mod ∧ b.mod ≤ 100000) ∧ (0 ≤ b.horizon ∧ b.horizon ≤ b.mod) ∧ (∀ m ∈ b.mails, MailFine b m) ∧ b.mails.Pairwise (fun a c => a.uid < c.uid) ∧ b.mails.length ≤ 30 ∧ (∀ t ∈ b.tombs, TombFine b t) ∧ b.tombs.Pairwise (fun a c => tombLt a c) ∧ b.tombs.Pairwise (fun a c => a.uid ≠ c.uid) ∧ b.tombs.length ≤ 40 := by
  unfold boxOk
  rw [decide_eq_true_eq]
  unfold BoxOK NumsOK MailsOK TombsOK
  rw [mails_iff, tombs_iff]
  simp only [within, Bool.and_eq_true, decide_eq_true_eq]
  constructor
  · rintro ⟨a, ⟨b1, b2, b3, b4⟩, ⟨⟨c1, c2⟩, c3⟩, ⟨⟨d1, d2, d3⟩, d4⟩⟩
    exact ⟨a, b1, b2, b3, b4, c1, c2, c3, d1, d2, d3, d4⟩
  · rintro ⟨a, b1, b2, b3, b4, c1, c2, c3, d1, d2, d3, d4⟩
    exact ⟨a, ⟨b1, b2, b3, b4⟩, ⟨⟨c1, c2⟩, c3⟩, ⟨⟨d1, d2, d3⟩, d4⟩⟩
end Go.Proofs.YtomeglmblhfafaaGreatDoor

set_option linter.unusedVariables false
set_option linter.unusedSimpArgs false
set_option maxRecDepth 100000
namespace Go.Proofs.YtomeglmblhfafaaGreatDoor
open Go.Lft

theorem forget_ok {b : Box} {u : Int} (h : boxOk b = true) : boxOk (forget b u) = true := by
  unfold forget
  split
  · rename_i h2
    obtain ⟨_, hu⟩ := h2
    simp [within] at hu
    rw [boxOk_iff] at h ⊢
    obtain ⟨a, b1, b2, b3, b4, c1, c2, c3, d1, d2, d3, d4⟩ := h
    refine ⟨a, b1, b2, b3, ?_, c1, c2, c3, ?_, ?_, ?_, ?_⟩
    · show 0 ≤ (if b.horizon < u then u else b.horizon) ∧ (if b.horizon < u then u else b.horizon) ≤ b.mod
      split <;> omega
    · intro t ht
      simp only [forgot, List.mem_filter, decide_eq_true_eq] at ht
      obtain ⟨e1, e2, e3, e4, e5⟩ := d1 t ht.1
      refine ⟨e1, e2, ?_, e4, e5⟩
      show (if b.horizon < u then u else b.horizon) + 1 ≤ t.mod
      split <;> omega
    · exact d2.filter _
    · exact d3.filter _
    · exact Nat.le_trans (List.length_filter_le ..) d4
  · exact h
theorem boxNew_ok {n : S} {v : Int} (hn : boxName n = true) (h1 : 1 ≤ v) (h2 : v ≤ 9999) : boxOk (boxNew n v) = true := by
  rw [boxOk_iff]
  simp [boxNew, hn]
  omega
end Go.Proofs.YtomeglmblhfafaaGreatDoor
