/- The law FnMovesMails: whatever store and set the bytes draw, mails that are moved into a new box are there, are gone where they were, and all others stay. No condition. -/
import Derived.Test.YtoeadcefgpkdcaacLMovesMails
import Derived.Test.YtoeadcefgpkdcaaRows
set_option linter.unusedSectionVars false
set_option linter.all false
set_option linter.unusedVariables false
set_option linter.unusedSimpArgs false
set_option maxRecDepth 100000
namespace Go.Proofs.Ytoeadcefgpkdcaa
open Go.Lft

theorem own : ownKnob Try.prog.godebug = none := by kernel_rfl
theorem laidOut : laidOutB Try.prog = true := by kernel_rfl
theorem follows : Try.prog.follows .mixedOrders = true := by kernel_rfl
theorem soundE : CallsOk E.P (lim E) E.md := sound (tbOf_ok Try.prog) follows extOk
theorem fits0 : Sh.fits E.P (.slice 5 1 (.int .u8)) 22 = true := by kernel_rfl
theorem lifted (os : Os) (started : os.Started) (H : Type) (enc : TypeId × Value → H) :
    ReturnsInHanded {} Try.checked os 11 .any (Rows.fnMovesMailsSpec.pre6 enc Try.prog Try.f11 Rows.fnMovesMailsRow.domain false) (Rows.fnMovesMailsSpec.post enc Try.prog Try.f11 false true false false) := by
  refine returnsInHanded_of_change (C := Try.checked) own started (by kernel_rfl) Try.func11
    (ChangeSpec.witness6 (enc := enc) (C := Try.checked) false ⟨#[], #[.slice none 0 0], []⟩ 8 (by kernel_rfl) (by kernel_rfl) (by kernel_rfl) (by kernel_rfl)) ?_
  intro W base args ds gs before hval hW hcnd _
  exact law_contract (E := E) soundE Try.func11 rfl (by kernel_rfl) rfl (ss := [.slice 5 1 (.int .u8)]) (by kernel_rfl) (by
      intro j s t h1 h2
      rw [Try.params11] at h2
      match j, h1, h2 with
      | 0, h1, h2 =>
        obtain rfl := Option.some.inj h1
        obtain rfl := Option.some.inj h2
        exact fits0) laidOut (by
      intro t ht
      rw [Try.params11] at ht
      simp at ht
      subst ht
      exact ⟨by kernel_rfl, of_decide_eq_true (by kernel_rfl)⟩) (tb := 4) rfl (by kernel_rfl) rfl (by
      intro ds h
      match ds, h with
      | [d0], _ => rfl) law_MovesMails W base args ds gs before hval hW

theorem holds : Rows.FnMovesMailsSaid :=
  OpenClaim.holds_of_wide 11 Try.f11 rfl rfl rfl rfl rfl rfl rfl ⟨rfl, rfl, rfl, rfl, rfl⟩ rfl rfl rfl rfl rfl (by kernel_rfl) Try.func11 (by kernel_rfl)
    (of_decide_eq_true (by kernel_rfl)) (by unfold Func.isWrapper; rw [if_neg (of_decide_eq_false (by kernel_rfl))]; exact ⟨rfl, rfl⟩)
    (fun os started H enc _ => lifted os started H enc)
#print axioms holds
end Go.Proofs.Ytoeadcefgpkdcaa
