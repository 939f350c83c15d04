/- The law FnSelects: whatever bytes are drawn, a word of them comes back. The row lists tables of Go's own, which this road does not read; the tied card. No condition beyond what the card ties. -/
import Derived.Test.YtomeglmblhfafaaGreatDoorcLSelects
import Derived.Test.YtomeglmblhfafaaGreatDoorcJSelects
import Derived.Test.YtomeglmblhfafaaGreatDoorcKSelects
import Derived.Test.YtomeglmblhfafaaGreatDoorRows
import Derived.Test.YtomeglmblhfafaaGreatDoorCards
import Derived.Test.YtomeglmblhfafaaGreatDoorTie
import Derived.ProofKit
import Derived.OpenShut
import Derived.LaidMore
import Derived.Lay
import Derived.SevenTiedAt
import Derived.Stop.Joined
set_option linter.unusedSectionVars false
set_option linter.all false
set_option linter.unusedVariables false
set_option linter.unusedSimpArgs false
set_option maxRecDepth 100000
namespace Go.Proofs.YtomeglmblhfafaaGreatDoor
open Go.Lft

theorem own : ownKnob Tryz.prog.godebug = none := by kernel_rfl
theorem laidOut : laidOutB Tryz.prog = true := by kernel_rfl
theorem follows : Tryz.prog.follows .mixedOrders = true := by kernel_rfl
theorem soundE : CallsOk E.P E.kn (lim E) E.md := sound (tbOf_ok Tryz.prog) follows extOk
theorem fits0 : Sh.fits E.P (.slice 5 1 (.int .u8)) 22 = true := by kernel_rfl
theorem lifted (os : Os) (started : os.Started) (H : Type) (enc : TypeId × Value → H) :
    ReturnsInHanded {} Tryz.checked os 3 .any (fun w args => (Rows.fnSelectsSpec.pre enc Tryz.prog Tryz.f3 Rows.fnSelectsRow.domain false w args ∧ laidMetH Tryz.prog Rows.fnSelectsRow.laid w) ∧ sizedMet enc Tryz.prog Tryz.f3 (OpenSpec.ofChange Rows.fnSelectsSpec) false w args)
      (Rows.fnSelectsSpec.post enc Tryz.prog Tryz.f3 false true false false) := by
  refine returnsInHanded_of_change_and (C := Tryz.checked) (X := fun w _ => laidMetH Tryz.prog Rows.fnSelectsRow.laid w) (fun _ _ _ hh h => h.of_heap hh) own started (by kernel_rfl) Tryz.func3
    (ChangeSpec.witness_shaped (enc := enc) (C := Tryz.checked) (os := os) (X := fun w _ => laidMetH Tryz.prog Rows.fnSelectsRow.laid w) false (World.laidAll Tryz.prog os Rows.fnSelectsRow.laid) #[.slice none 0 0] 8 (World.laidAll_os _ _ _)
      (World.shaped_of_ZipB (by kernel_rfl) (by kernel_rfl)) (by kernel_rfl) (by kernel_rfl) (by kernel_rfl)
      (by rw [MakeChecks.laidMetH_plain _ _ _ (by kernel_rfl)]; exact laidMet_laidAll _ (by kernel_rfl) (by kernel_rfl))) ?_
  intro W base args ds gs before hval hW _ _ hcnd _
  exact law_contract (E := E) soundE Tryz.func3 rfl (by kernel_rfl) rfl (ss := [.slice 5 1 (.int .u8)]) (by kernel_rfl) (by
      intro j s t h1 h2
      rw [Tryz.params3] at h2
      match j, h1, h2 with
      | 0, h1, h2 =>
        obtain rfl := Option.some.inj h1
        obtain rfl := Option.some.inj h2
        exact fits0) laidOut (by
      intro t ht
      rw [Tryz.params3] at ht
      simp at ht
      subst ht
      exact ⟨by kernel_rfl, of_decide_eq_true (by kernel_rfl)⟩) (tb := 4) rfl (by kernel_rfl) rfl (by
      intro ds h
      match ds, h with
      | [d0], _ => rfl) law_Selects W base args ds gs before hval hW

theorem row_holds : Rows.FnSelectsSaid :=
  OpenClaim.holds_of_wide 3 Tryz.f3 rfl rfl rfl rfl rfl rfl rfl ⟨rfl, rfl, rfl, rfl, rfl⟩ rfl rfl rfl rfl rfl (by kernel_rfl) Tryz.func3 joined
    (of_decide_eq_true (by kernel_rfl)) (by unfold Func.isWrapper; rw [if_neg (of_decide_eq_false (by kernel_rfl))]; exact ⟨rfl, rfl⟩)
    (fun os started H enc _ => lifted os started H enc)
theorem holds : Rows.FnSelectsCardSaid :=
  Claim7.holds_tied_plain_at .later [] [.data, .data, .data, .data, .sentinel, .sentinel, .pinned] true (true, "9443118240005946e34ffdd6b37a9747578a0de17fe150a9cbfa182848bed480") true row_holds (fun _ h => by cases h) (by kernel_rfl) (fun _ h => by cases h) fnSelects_row_tie rfl ⟨rfl, rfl⟩ card_main rfl
    (fun f fn hf hfn => by
      obtain rfl : f = 3 := Option.some.inj ((show Tryz.prog.funcNamed Rows.fnSelectsRow.func = some 3 by kernel_rfl).symm.trans hf) |>.symm
      obtain rfl : fn = Tryz.f3 := (Option.some.inj (Tryz.func3.symm.trans hfn)).symm
      exact ⟨card_looks, fun j t ht => by
        rw [Tryz.params3] at ht
        have hm : t ∈ [22] := by simpa using Array.mem_of_getElem? ht
        have hall : ([22].all fun u => !Tryz.prog.wantsStandIn u) = true := by kernel_rfl
        exact (show Tryz.prog.wantsStandIn t = false by simpa using List.all_eq_true.1 hall t hm)⟩)
    card_goes
#print axioms holds
end Go.Proofs.YtomeglmblhfafaaGreatDoor
