/- Boxes: AddMail of the program and of the reference. -/
import Derived.Test.YtfboojamiabmcaacD8
set_option linter.unusedSectionVars false
set_option linter.all false
set_option linter.unusedVariables false
set_option linter.unusedSimpArgs false
set_option maxRecDepth 100000
namespace Go.Proofs.Ytfboojamiabmcaa
open Go.Lft

def added (b : Box) (flags : Int) (text : S) : Box := ⟨b.name, b.valid, b.next + 1, b.mod + 1, b.mails ++ [⟨b.next, flags, b.mod + 1, text⟩], b.tombs, b.horizon⟩
noncomputable def addMail (b : Box) (flags : Int) (text : S) : Box × Int := if boxOk b = true ∧ boxOk (added b flags text) = true then (added b flags text, b.next) else (b, 0)
theorem tot_append {α : Type} (f : α → Nat) : ∀ (xs ys : List α), tot f (xs ++ ys) = tot f xs + tot f ys
  | [], ys => by simp [tot]
  | x :: xs, ys => by simp [tot, tot_append f xs ys]; omega
theorem sz_added (b : Box) (flags : Int) (text : S) : szBox (added b flags text) = szBox b + 1 + text.length := by
  simp [szBox, added, tot_append, tot, szMail]; omega
theorem boxOk_nums {b : Box} (h : boxOk b = true) : 1 ≤ b.next ∧ b.next ≤ 9999 ∧ 1 ≤ b.mod ∧ b.mod ≤ 100000 ∧ 0 ≤ b.horizon ∧ b.horizon ≤ b.mod ∧ 1 ≤ b.valid ∧ b.valid ≤ 9999 := by
  simp [boxOk, BoxOK, NumsOK, within] at h
  omega
theorem boxOk_lens {b : Box} (h : boxOk b = true) : b.mails.length ≤ 30 ∧ b.tombs.length ≤ 40 := by
  unfold boxOk at h
  obtain ⟨_, _, ⟨_, h1⟩, ⟨_, h2⟩⟩ := of_decide_eq_true h
  exact ⟨h1, h2⟩
end Go.Proofs.Ytfboojamiabmcaa
