/- The law FnExactCacheTake: for every world the program's CacheTake tells what the reference's tells, leaves its arguments as they were, and shares nothing with them. No condition. -/
import Derived.Test.YtfboojamiabmcaacLCacheTake
import Derived.Test.YtfboojamiabmcaaRows
set_option linter.unusedSectionVars false
set_option linter.all false
set_option linter.unusedVariables false
set_option linter.unusedSimpArgs false
set_option maxRecDepth 100000
namespace Go.Proofs.Ytfboojamiabmcaa
open Go.Lft

theorem own : ownKnob Try.prog.godebug = none := by kernel_rfl
theorem laidOut : laidOutB Try.prog = true := by kernel_rfl
theorem follows : Try.prog.follows .mixedOrders = true := by kernel_rfl
theorem soundE : CallsOk E.P E.kn (lim E) E.md := sound (tbOf_ok Try.prog) follows extOk
theorem fits0 : Sh.fits E.P (shCache) 24 = true := by kernel_rfl
theorem fits1 : Sh.fits E.P (.slice (teLine true) 7 shLine) 25 = true := by kernel_rfl
theorem lifted (os : Os) (started : os.Started) (H : Type) (enc : TypeId × Value → H) :
    ReturnsInHanded {} Try.checked os 3 .any (Rows.fnExactCacheTakeSpec.pre6 enc Try.prog Try.f3 Rows.fnExactCacheTakeRow.domain false) (Rows.fnExactCacheTakeSpec.post enc Try.prog Try.f3 false true false false) := by
  refine returnsInHanded_of_change (C := Try.checked) own started (by kernel_rfl) Try.func3
    (ChangeSpec.witness6 (enc := enc) (C := Try.checked) false ⟨#[], #[.agg #[.string ⟨#[]⟩, .int .i64 0, .int .i64 0, .slice none 0 0], .slice none 0 0], []⟩ 8 (by kernel_rfl) (by kernel_rfl) (by kernel_rfl) (by kernel_rfl)) ?_
  intro W base args ds gs before hval hW hcnd _
  exact law_contract (E := E) soundE Try.func3 rfl (by kernel_rfl) rfl (ss := [shCache, .slice (teLine true) 7 shLine]) (by kernel_rfl) (by
      intro j s t h1 h2
      rw [Try.params3] at h2
      match j, h1, h2 with
      | 0, h1, h2 =>
        obtain rfl := Option.some.inj h1
        obtain rfl := Option.some.inj h2
        exact fits0
      | 1, h1, h2 =>
        obtain rfl := Option.some.inj h1
        obtain rfl := Option.some.inj h2
        exact fits1) laidOut (by
      intro t ht
      rw [Try.params3] at ht
      simp at ht
      rcases ht with rfl | rfl <;> exact ⟨by kernel_rfl, of_decide_eq_true (by kernel_rfl)⟩) (tb := 4) rfl (by kernel_rfl) rfl (by
      intro ds h
      match ds, h with
      | [d0, d1], _ => rfl) law_CacheTake W base args ds gs before hval hW

theorem holds : Rows.FnExactCacheTakeSaid :=
  OpenClaim.holds_of_wide 3 Try.f3 rfl rfl rfl rfl rfl rfl rfl ⟨rfl, rfl, rfl, rfl, rfl⟩ rfl rfl rfl rfl rfl (by kernel_rfl) Try.func3 (by kernel_rfl)
    (of_decide_eq_true (by kernel_rfl)) (by unfold Func.isWrapper; rw [if_neg (of_decide_eq_false (by kernel_rfl))]; exact ⟨rfl, rfl⟩)
    (fun os started H enc _ => lifted os started H enc)
#print axioms holds
end Go.Proofs.Ytfboojamiabmcaa
