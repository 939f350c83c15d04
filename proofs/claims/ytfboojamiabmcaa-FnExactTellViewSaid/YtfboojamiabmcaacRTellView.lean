/- The law FnExactTellView: for every world the program's TellView tells what the reference's tells, leaves its arguments as they were, and shares nothing with them. No condition. -/
import Derived.Test.YtfboojamiabmcaacLTellView
import Derived.Test.YtfboojamiabmcaaRows
set_option linter.unusedSectionVars false
set_option linter.all false
set_option linter.unusedVariables false
set_option linter.unusedSimpArgs false
set_option maxRecDepth 100000
namespace Go.Proofs.Ytfboojamiabmcaa
open Go.Lft

theorem own : ownKnob Try.prog.godebug = none := by kernel_rfl
theorem laidOut : laidOutB Try.prog = true := by kernel_rfl
theorem follows : Try.prog.follows .mixedOrders = true := by kernel_rfl
theorem soundE : CallsOk E.P E.kn (lim E) E.md := sound (tbOf_ok Try.prog) follows extOk
theorem fits0 : Sh.fits E.P (shView) 42 = true := by kernel_rfl
theorem fits1 : Sh.fits E.P (shBox) 46 = true := by kernel_rfl
theorem lifted (os : Os) (started : os.Started) (H : Type) (enc : TypeId × Value → H) :
    ReturnsInHanded {} Try.checked os 4 .any (Rows.fnExactTellViewSpec.pre6 enc Try.prog Try.f4 Rows.fnExactTellViewRow.domain false) (Rows.fnExactTellViewSpec.post enc Try.prog Try.f4 false true false false) := by
  refine returnsInHanded_of_change (C := Try.checked) own started (by kernel_rfl) Try.func4
    (ChangeSpec.witness6 (enc := enc) (C := Try.checked) false ⟨#[], #[.agg #[.string ⟨#[]⟩, .int .i64 0, .slice none 0 0, .int .i64 0], .agg #[.string ⟨#[]⟩, .int .i64 0, .int .i64 0, .int .i64 0, .slice none 0 0, .slice none 0 0, .int .i64 0]], []⟩ 8 (by kernel_rfl) (by kernel_rfl) (by kernel_rfl) (by kernel_rfl)) ?_
  intro W base args ds gs before hval hW hcnd _
  exact law_contract (E := E) soundE Try.func4 rfl (by kernel_rfl) rfl (ss := [shView, shBox]) (by kernel_rfl) (by
      intro j s t h1 h2
      rw [Try.params4] at h2
      match j, h1, h2 with
      | 0, h1, h2 =>
        obtain rfl := Option.some.inj h1
        obtain rfl := Option.some.inj h2
        exact fits0
      | 1, h1, h2 =>
        obtain rfl := Option.some.inj h1
        obtain rfl := Option.some.inj h2
        exact fits1) laidOut (by
      intro t ht
      rw [Try.params4] at ht
      simp at ht
      rcases ht with rfl | rfl <;> exact ⟨by kernel_rfl, of_decide_eq_true (by kernel_rfl)⟩) (tb := 4) rfl (by kernel_rfl) rfl (by
      intro ds h
      match ds, h with
      | [d0, d1], _ => rfl) law_TellView W base args ds gs before hval hW

theorem holds : Rows.FnExactTellViewSaid :=
  OpenClaim.holds_of_wide 4 Try.f4 rfl rfl rfl rfl rfl rfl rfl ⟨rfl, rfl, rfl, rfl, rfl⟩ rfl rfl rfl rfl rfl (by kernel_rfl) Try.func4 (by kernel_rfl)
    (of_decide_eq_true (by kernel_rfl)) (by unfold Func.isWrapper; rw [if_neg (of_decide_eq_false (by kernel_rfl))]; exact ⟨rfl, rfl⟩)
    (fun os started H enc _ => lifted os started H enc)
#print axioms holds
end Go.Proofs.Ytfboojamiabmcaa
