/- The law FnApplies: whatever store and edit the bytes draw, what the program makes of them is what the reference makes; it stays right; what is refused changes nothing. No condition. -/
import Derived.Test.YtdpagklgjchdgaaGreatcLApplies
import Derived.Test.YtdpagklgjchdgaaGreatRows
set_option linter.unusedSectionVars false
set_option linter.all false
set_option linter.unusedVariables false
set_option linter.unusedSimpArgs false
set_option maxRecDepth 100000
namespace Go.Proofs.YtdpagklgjchdgaaGreat
open Go.Lft

theorem own : ownKnob Tryz.prog.godebug = none := by kernel_rfl
theorem laidOut : laidOutB Tryz.prog = true := by kernel_rfl
theorem follows : Tryz.prog.follows .mixedOrders = true := by kernel_rfl
theorem soundE : CallsOk E.P (lim E) E.md := sound (tbOf_ok Tryz.prog) follows extOk
theorem fits0 : Sh.fits E.P (.slice 5 1 (.int .u8)) 22 = true := by kernel_rfl
theorem lifted (os : Os) (started : os.Started) (H : Type) (enc : TypeId × Value → H) :
    ReturnsInHanded {} Tryz.checked os 4 .any (Rows.fnAppliesSpec.pre6 enc Tryz.prog Tryz.f4 Rows.fnAppliesRow.domain false) (Rows.fnAppliesSpec.post enc Tryz.prog Tryz.f4 false true false false) := by
  refine returnsInHanded_of_change (C := Tryz.checked) own started (by kernel_rfl) Tryz.func4
    (ChangeSpec.witness6 (enc := enc) (C := Tryz.checked) false ⟨#[], #[.slice none 0 0], []⟩ 8 (by kernel_rfl) (by kernel_rfl) (by kernel_rfl) (by kernel_rfl)) ?_
  intro W base args ds gs before hval hW hcnd _
  exact law_contract (E := E) soundE Tryz.func4 rfl (by kernel_rfl) rfl (ss := [.slice 5 1 (.int .u8)]) (by kernel_rfl) (by
      intro j s t h1 h2
      rw [Tryz.params4] at h2
      match j, h1, h2 with
      | 0, h1, h2 =>
        obtain rfl := Option.some.inj h1
        obtain rfl := Option.some.inj h2
        exact fits0) laidOut (by
      intro t ht
      rw [Tryz.params4] at ht
      simp at ht
      subst ht
      exact ⟨by kernel_rfl, of_decide_eq_true (by kernel_rfl)⟩) (tb := 4) rfl (by kernel_rfl) rfl (by
      intro ds h
      match ds, h with
      | [d0], _ => rfl) law_Applies W base args ds gs before hval hW

theorem holds : Rows.FnAppliesSaid :=
  OpenClaim.holds_of_wide 4 Tryz.f4 rfl rfl rfl rfl rfl rfl rfl ⟨rfl, rfl, rfl, rfl, rfl⟩ rfl rfl rfl rfl rfl (by kernel_rfl) Tryz.func4 (by kernel_rfl)
    (of_decide_eq_true (by kernel_rfl)) (by unfold Func.isWrapper; rw [if_neg (of_decide_eq_false (by kernel_rfl))]; exact ⟨rfl, rfl⟩)
    (fun os started H enc _ => lifted os started H enc)
#print axioms holds
end Go.Proofs.YtdpagklgjchdgaaGreat
