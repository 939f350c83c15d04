/- The law FnExactShowBox: for all arguments the program's ShowBox returns what the reference's returns. The row lists tables of Go's own, of which only that of the powers of ten is read; the tied card. No condition beyond what the card ties. -/
import Derived.Test.YtfboojamiabmcaaDoorcLShowBox
import Derived.Test.YtfboojamiabmcaaDoorRows
import Derived.Test.YtfboojamiabmcaaDoorCards
import Derived.Test.YtfboojamiabmcaaDoorTie
import Derived.ProofKit
import Derived.OpenShut
import Derived.LaidMore
import Derived.Lay
import Derived.SevenTiedAt
import Derived.Stop.Joined
set_option linter.unusedSectionVars false
set_option linter.all false
set_option linter.unusedVariables false
set_option linter.unusedSimpArgs false
set_option maxRecDepth 100000
namespace Go.Proofs.YtfboojamiabmcaaDoor
open Go.Lft

theorem own : ownKnob Tryd.prog.godebug = none := by kernel_rfl
theorem laidOut : laidOutB Tryd.prog = true := by kernel_rfl
theorem follows : Tryd.prog.follows .mixedOrders = true := by kernel_rfl
theorem soundE : CallsOk E.P E.kn (lim E) E.md := sound (tbOf_ok Tryd.prog) follows extOk
theorem fits0 : Sh.fits E.P shBox 25 = true := by kernel_rfl
theorem lifted (os : Os) (started : os.Started) (H : Type) (enc : TypeId × Value → H) :
    ReturnsInHanded {} Tryd.checked os 3 .any (fun w args => (Rows.fnExactShowBoxSpec.pre enc Tryd.prog Tryd.f3 Rows.fnExactShowBoxRow.domain false w args ∧ laidMetH Tryd.prog Rows.fnExactShowBoxRow.laid w) ∧ sizedMet enc Tryd.prog Tryd.f3 (OpenSpec.ofChange Rows.fnExactShowBoxSpec) false w args)
      (Rows.fnExactShowBoxSpec.post enc Tryd.prog Tryd.f3 false true false false) := by
  refine returnsInHanded_of_change_and (C := Tryd.checked) (X := fun w _ => laidMetH Tryd.prog Rows.fnExactShowBoxRow.laid w) (fun _ _ _ hh h => h.of_heap hh) own started (by kernel_rfl) Tryd.func3
    (ChangeSpec.witness_shaped (enc := enc) (C := Tryd.checked) (os := os) (X := fun w _ => laidMetH Tryd.prog Rows.fnExactShowBoxRow.laid w) false (World.laidAll Tryd.prog os Rows.fnExactShowBoxRow.laid) #[.agg #[.string ⟨#[]⟩, .int .i64 0, .int .i64 0, .int .i64 0, .slice none 0 0, .slice none 0 0, .int .i64 0]] 8 (World.laidAll_os _ _ _)
      (World.shaped_of_ZipB (by kernel_rfl) (by kernel_rfl)) (by kernel_rfl) (by kernel_rfl) (by kernel_rfl)
      (by rw [MakeChecks.laidMetH_plain _ _ _ (by kernel_rfl)]; exact laidMet_laidAll _ (by kernel_rfl) (by kernel_rfl))) ?_
  intro W base args ds gs before hval hW _ _ hcnd _
  have htab : tab10 Tryd.prog W := tab10_of (laidMet.tail (laidMet.tail ((MakeChecks.laidMetH_plain _ _ _ (by kernel_rfl)).mp hcnd)))
  exact law_contract (E := E) soundE Tryd.func3 rfl (by kernel_rfl) rfl (ss := [shBox]) (by kernel_rfl) (by
      intro j s t h1 h2
      rw [Tryd.params3] at h2
      match j, h1, h2 with
      | 0, h1, h2 =>
        obtain rfl := Option.some.inj h1
        obtain rfl := Option.some.inj h2
        exact fits0) laidOut (by
      intro t ht
      rw [Tryd.params3] at ht
      simp at ht
      subst ht
      exact ⟨by kernel_rfl, of_decide_eq_true (by kernel_rfl)⟩) (tb := 4) rfl (by kernel_rfl) rfl (by
      intro ds h
      match ds, h with
      | [d0], _ => rfl) law_ShowBox W base args ds gs before hval hW (fun W' hs => tab10_stay htab W' hs)

theorem row_holds : Rows.FnExactShowBoxSaid :=
  OpenClaim.holds_of_wide 3 Tryd.f3 rfl rfl rfl rfl rfl rfl rfl ⟨rfl, rfl, rfl, rfl, rfl⟩ rfl rfl rfl rfl rfl (by kernel_rfl) Tryd.func3 (by kernel_rfl)
    (of_decide_eq_true (by kernel_rfl)) (by unfold Func.isWrapper; rw [if_neg (of_decide_eq_false (by kernel_rfl))]; exact ⟨rfl, rfl⟩)
    (fun os started H enc _ => lifted os started H enc)
theorem holds : Rows.FnExactShowBoxCardSaid :=
  Claim7.holds_tied_plain_at .later [] [.data, .data, .data] true (true, "8bc1b62e5ba2d2b8ef127548a20f9a76be75f13fe194f597e63c849bff64d15e") true row_holds (fun _ h => by cases h) (by kernel_rfl) (fun _ h => by cases h) fnExactShowBox_row_tie rfl ⟨rfl, rfl⟩ (by kernel_rfl) rfl
    (fun f fn hf hfn => by
      obtain rfl : f = 3 := Option.some.inj ((show Tryd.prog.funcNamed Rows.fnExactShowBoxRow.func = some 3 by kernel_rfl).symm.trans hf) |>.symm
      obtain rfl : fn = Tryd.f3 := (Option.some.inj (Tryd.func3.symm.trans hfn)).symm
      exact ⟨by kernel_rfl, fun j t ht => by
        rw [Tryd.params3] at ht
        have hm : t ∈ [25] := by simpa using Array.mem_of_getElem? ht
        have hall : ([25].all fun u => !Tryd.prog.wantsStandIn u) = true := by kernel_rfl
        exact (show Tryd.prog.wantsStandIn t = false by simpa using List.all_eq_true.1 hall t hm)⟩)
    (by kernel_rfl)
#print axioms holds
end Go.Proofs.YtfboojamiabmcaaDoor
