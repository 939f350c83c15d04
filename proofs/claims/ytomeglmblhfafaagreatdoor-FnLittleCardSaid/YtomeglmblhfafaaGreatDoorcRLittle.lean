/- The law FnLittle: whatever bytes are drawn, a word of them comes back. The row lists tables of Go's own, which this road does not read; the tied card. No condition beyond what the card ties. -/
import Derived.Test.YtomeglmblhfafaaGreatDoorcLLittle
import Derived.Test.YtomeglmblhfafaaGreatDoorcJLittle
import Derived.Test.YtomeglmblhfafaaGreatDoorcKLittle
import Derived.Test.YtomeglmblhfafaaGreatDoorRows
import Derived.Test.YtomeglmblhfafaaGreatDoorCards
import Derived.Test.YtomeglmblhfafaaGreatDoorTie
import Derived.ProofKit
import Derived.OpenShut
import Derived.LaidMore
import Derived.Lay
import Derived.SevenTiedAt
import Derived.Stop.Joined
set_option linter.unusedSectionVars false
set_option linter.all false
set_option linter.unusedVariables false
set_option linter.unusedSimpArgs false
set_option maxRecDepth 100000
namespace Go.Proofs.YtomeglmblhfafaaGreatDoor
open Go.Lft

theorem own : ownKnob Tryz.prog.godebug = none := by kernel_rfl
theorem laidOut : laidOutB Tryz.prog = true := by kernel_rfl
theorem follows : Tryz.prog.follows .mixedOrders = true := by kernel_rfl
theorem soundE : CallsOk E.P E.kn (lim E) E.md := sound (tbOf_ok Tryz.prog) follows extOk
theorem fits0 : Sh.fits E.P (.slice 5 1 (.int .u8)) 22 = true := by kernel_rfl
theorem lifted (os : Os) (started : os.Started) (H : Type) (enc : TypeId × Value → H) :
    ReturnsInHanded {} Tryz.checked os 4 .any (fun w args => (Rows.fnLittleSpec.pre enc Tryz.prog Tryz.f4 Rows.fnLittleRow.domain false w args ∧ laidMetH Tryz.prog Rows.fnLittleRow.laid w) ∧ sizedMet enc Tryz.prog Tryz.f4 (OpenSpec.ofChange Rows.fnLittleSpec) false w args)
      (Rows.fnLittleSpec.post enc Tryz.prog Tryz.f4 false true false false) := by
  refine returnsInHanded_of_change_and (C := Tryz.checked) (X := fun w _ => laidMetH Tryz.prog Rows.fnLittleRow.laid w) (fun _ _ _ hh h => h.of_heap hh) own started (by kernel_rfl) Tryz.func4
    (ChangeSpec.witness_shaped (enc := enc) (C := Tryz.checked) (os := os) (X := fun w _ => laidMetH Tryz.prog Rows.fnLittleRow.laid w) false (World.laidAll Tryz.prog os Rows.fnLittleRow.laid) #[.slice none 0 0] 8 (World.laidAll_os _ _ _)
      (World.shaped_of_ZipB (by kernel_rfl) (by kernel_rfl)) (by kernel_rfl) (by kernel_rfl) (by kernel_rfl)
      (by rw [MakeChecks.laidMetH_plain _ _ _ (by kernel_rfl)]; exact laidMet_laidAll _ (by kernel_rfl) (by kernel_rfl))) ?_
  intro W base args ds gs before hval hW _ _ hcnd _
  have htab : tab10 Tryz.prog W := tab10_of (laidMet.tail (laidMet.tail ((MakeChecks.laidMetH_plain _ _ _ (by kernel_rfl)).mp hcnd)))
  exact law_contract (E := E) soundE Tryz.func4 rfl (by kernel_rfl) rfl (ss := [.slice 5 1 (.int .u8)]) (by kernel_rfl) (by
      intro j s t h1 h2
      rw [Tryz.params4] at h2
      match j, h1, h2 with
      | 0, h1, h2 =>
        obtain rfl := Option.some.inj h1
        obtain rfl := Option.some.inj h2
        exact fits0) laidOut (by
      intro t ht
      rw [Tryz.params4] at ht
      simp at ht
      subst ht
      exact ⟨by kernel_rfl, of_decide_eq_true (by kernel_rfl)⟩) (tb := 4) rfl (by kernel_rfl) rfl (by
      intro ds h
      match ds, h with
      | [d0], _ => rfl) law_Little W base args ds gs before hval hW
        (fun W' hs => tab10_stay htab W' hs)

theorem row_holds : Rows.FnLittleSaid :=
  OpenClaim.holds_of_wide 4 Tryz.f4 rfl rfl rfl rfl rfl rfl rfl ⟨rfl, rfl, rfl, rfl, rfl⟩ rfl rfl rfl rfl rfl (by kernel_rfl) Tryz.func4 joined
    (of_decide_eq_true (by kernel_rfl)) (by unfold Func.isWrapper; rw [if_neg (of_decide_eq_false (by kernel_rfl))]; exact ⟨rfl, rfl⟩)
    (fun os started H enc _ => lifted os started H enc)
theorem holds : Rows.FnLittleCardSaid :=
  Claim7.holds_tied_plain_at .later [] [.data, .data, .data, .data, .sentinel, .sentinel, .pinned] true (true, "9443118240005946e34ffdd6b37a9747578a0de17fe150a9cbfa182848bed480") true row_holds (fun _ h => by cases h) (by kernel_rfl) (fun _ h => by cases h) fnLittle_row_tie rfl ⟨rfl, rfl⟩ card_main rfl
    (fun f fn hf hfn => by
      obtain rfl : f = 4 := Option.some.inj ((show Tryz.prog.funcNamed Rows.fnLittleRow.func = some 4 by kernel_rfl).symm.trans hf) |>.symm
      obtain rfl : fn = Tryz.f4 := (Option.some.inj (Tryz.func4.symm.trans hfn)).symm
      exact ⟨card_looks, fun j t ht => by
        rw [Tryz.params4] at ht
        have hm : t ∈ [22] := by simpa using Array.mem_of_getElem? ht
        have hall : ([22].all fun u => !Tryz.prog.wantsStandIn u) = true := by kernel_rfl
        exact (show Tryz.prog.wantsStandIn t = false by simpa using List.all_eq_true.1 hall t hm)⟩)
    card_goes
#print axioms holds
end Go.Proofs.YtomeglmblhfafaaGreatDoor
