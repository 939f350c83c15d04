/-
  DERIVED. GIVEN WITH THE SEED: THE CARDS: each row of YtfboojamiabmcaaDoorRows.lean that lists a variable, with what it lists TIED to the program's text (the seventh form; the later family's looks); each row that meets fmt, with fmt's text TOLD by the authors' own Lean function (tested against real Go, not proved from fmt's source: count such statements apart). THE CARD IS WHAT COUNTS. Prove the row's statement (the work); the ties are given (YtfboojamiabmcaaDoorTie.lean); close each card by the builder's one call (the guide's Derived/Test/ToyasCard.lean, 'card_holds'). Laid BY PROGRAM, IN A SANDBOX (cutbox-door.mjs). By AI agents, Wed Nov 11 2026. No macro, syntax, notation, axiom, sorry.
-/
import Derived.Test.YtfboojamiabmcaaDoorRows
import GoSem.ClaimSeven
namespace Go.Proofs.YtfboojamiabmcaaDoor
namespace Rows

/-- THE TIED CARD OF 'laws.FnExactShowBox'. -/
def fnExactShowBoxCard : Claim7 := { stood := { row := fnExactShowBoxRow, standIns := [], harness := (true, "8bc1b62e5ba2d2b8ef127548a20f9a76be75f13fe194f597e63c849bff64d15e"), looks := true }, kinds := [], alts := [], laidByText := true, laidKinds := [.data, .data, .data], laidTests := true, laidLooks := .later }
def FnExactShowBoxCardSaid : Prop := Claim7.holds Tryd.pinned (.plain (OpenSpec.ofChange fnExactShowBoxSpec)) fnExactShowBoxCard

/-- THE TIED CARD OF 'laws.FnExactReadScript'. -/
def fnExactReadScriptCard : Claim7 := { stood := { row := fnExactReadScriptRow, standIns := [], harness := (true, "8bc1b62e5ba2d2b8ef127548a20f9a76be75f13fe194f597e63c849bff64d15e"), looks := true }, kinds := [], alts := [], laidByText := true, laidKinds := [.data, .data, .data, .data, .sentinel, .sentinel, .pinned], laidTests := true, laidLooks := .later }
def FnExactReadScriptCardSaid : Prop := Claim7.holds Tryd.pinned (.plain (OpenSpec.ofChange fnExactReadScriptSpec)) fnExactReadScriptCard

/-- THE SECOND FORM's CARD OF 'laws.FnExactShowBox'. -/
def fnExactShowBoxUptoCard : Claim7 := { stood := { row := fnExactShowBoxUptoRow, standIns := [], harness := (true, "8bc1b62e5ba2d2b8ef127548a20f9a76be75f13fe194f597e63c849bff64d15e"), looks := true }, kinds := [], alts := [], laidByText := true, laidKinds := [.data, .data, .data], laidTests := true, laidLooks := .later }
def FnExactShowBoxUptoCardSaid : Prop := Claim7.holds Tryd.pinned (.plain (OpenSpec.upto fnExactShowBoxSpec)) fnExactShowBoxUptoCard

/-- THE SECOND FORM's CARD OF 'laws.FnExactReadScript'. -/
def fnExactReadScriptUptoCard : Claim7 := { stood := { row := fnExactReadScriptUptoRow, standIns := [], harness := (true, "8bc1b62e5ba2d2b8ef127548a20f9a76be75f13fe194f597e63c849bff64d15e"), looks := true }, kinds := [], alts := [], laidByText := true, laidKinds := [.data, .data, .data, .data, .sentinel, .sentinel, .pinned], laidTests := true, laidLooks := .later }
def FnExactReadScriptUptoCardSaid : Prop := Claim7.holds Tryd.pinned (.plain (OpenSpec.upto fnExactReadScriptSpec)) fnExactReadScriptUptoCard
end Rows
end Go.Proofs.YtfboojamiabmcaaDoor
