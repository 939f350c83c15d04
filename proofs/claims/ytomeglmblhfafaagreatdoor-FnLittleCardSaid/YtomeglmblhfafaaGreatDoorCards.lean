/-
  DERIVED. GIVEN WITH THE SEED: THE CARDS: each row of YtomeglmblhfafaaGreatDoorRows.lean that lists a variable, with what it lists TIED to the program's text (the seventh form; the later family's looks); each row that meets fmt, with fmt's text TOLD by the authors' own Lean function (tested against real Go, not proved from fmt's source: count such statements apart). THE CARD IS WHAT COUNTS. Prove the row's statement (the work); the ties are given (YtomeglmblhfafaaGreatDoorTie.lean); close each card by the builder's one call (the guide's Derived/Test/ToyasCard.lean, 'card_holds'). Laid BY PROGRAM, IN A SANDBOX (cutbox-door.mjs). By AI agents, Wed Nov 11 2026. No macro, syntax, notation, axiom, sorry.
-/
import Derived.Test.YtomeglmblhfafaaGreatDoorRows
import GoSem.ClaimSeven
namespace Go.Proofs.YtomeglmblhfafaaGreatDoor
namespace Rows

/-- THE TIED CARD OF 'laws.FnSelects'. -/
def fnSelectsCard : Claim7 := { stood := { row := fnSelectsRow, standIns := [], harness := (true, "9443118240005946e34ffdd6b37a9747578a0de17fe150a9cbfa182848bed480"), looks := true }, kinds := [], alts := [], laidByText := true, laidKinds := [.data, .data, .data, .data, .sentinel, .sentinel, .pinned], laidTests := true, laidLooks := .later }
def FnSelectsCardSaid : Prop := Claim7.holds Tryz.pinned (.plain (OpenSpec.ofChange fnSelectsSpec)) fnSelectsCard

/-- THE TIED CARD OF 'laws.FnLittle'. -/
def fnLittleCard : Claim7 := { stood := { row := fnLittleRow, standIns := [], harness := (true, "9443118240005946e34ffdd6b37a9747578a0de17fe150a9cbfa182848bed480"), looks := true }, kinds := [], alts := [], laidByText := true, laidKinds := [.data, .data, .data, .data, .sentinel, .sentinel, .pinned], laidTests := true, laidLooks := .later }
def FnLittleCardSaid : Prop := Claim7.holds Tryz.pinned (.plain (OpenSpec.ofChange fnLittleSpec)) fnLittleCard

/-- THE TIED CARD OF 'laws.FnMadeAnew'. -/
def fnMadeAnewCard : Claim7 := { stood := { row := fnMadeAnewRow, standIns := [], harness := (true, "9443118240005946e34ffdd6b37a9747578a0de17fe150a9cbfa182848bed480"), looks := true }, kinds := [], alts := [], laidByText := true, laidKinds := [.data, .data, .data, .data, .sentinel, .sentinel, .pinned], laidTests := true, laidLooks := .later }
def FnMadeAnewCardSaid : Prop := Claim7.holds Tryz.pinned (.plain (OpenSpec.ofChange fnMadeAnewSpec)) fnMadeAnewCard

/-- THE TIED CARD OF 'laws.FnCaches'. -/
def fnCachesCard : Claim7 := { stood := { row := fnCachesRow, standIns := [], harness := (true, "9443118240005946e34ffdd6b37a9747578a0de17fe150a9cbfa182848bed480"), looks := true }, kinds := [], alts := [], laidByText := true, laidKinds := [.data, .data, .data], laidTests := true, laidLooks := .later }
def FnCachesCardSaid : Prop := Claim7.holds Tryz.pinned (.plain (OpenSpec.ofChange fnCachesSpec)) fnCachesCard

/-- THE TIED CARD OF 'laws.FnShown'. -/
def fnShownCard : Claim7 := { stood := { row := fnShownRow, standIns := [], harness := (true, "9443118240005946e34ffdd6b37a9747578a0de17fe150a9cbfa182848bed480"), looks := true }, kinds := [], alts := [], laidByText := true, laidKinds := [.data, .data, .data, .data, .sentinel, .sentinel, .pinned], laidTests := true, laidLooks := .later }
def FnShownCardSaid : Prop := Claim7.holds Tryz.pinned (.plain (OpenSpec.ofChange fnShownSpec)) fnShownCard

/-- THE TIED CARD OF 'laws.FnCatchesUp'. -/
def fnCatchesUpCard : Claim7 := { stood := { row := fnCatchesUpRow, standIns := [], harness := (true, "9443118240005946e34ffdd6b37a9747578a0de17fe150a9cbfa182848bed480"), looks := true }, kinds := [], alts := [], laidByText := true, laidKinds := [.data, .data, .data, .data, .sentinel, .sentinel, .pinned], laidTests := true, laidLooks := .later }
def FnCatchesUpCardSaid : Prop := Claim7.holds Tryz.pinned (.plain (OpenSpec.ofChange fnCatchesUpSpec)) fnCatchesUpCard

/-- THE SECOND FORM's CARD OF 'laws.FnSelects'. -/
def fnSelectsUptoCard : Claim7 := { stood := { row := fnSelectsUptoRow, standIns := [], harness := (true, "9443118240005946e34ffdd6b37a9747578a0de17fe150a9cbfa182848bed480"), looks := true }, kinds := [], alts := [], laidByText := true, laidKinds := [.data, .data, .data, .data, .sentinel, .sentinel, .pinned], laidTests := true, laidLooks := .later }
def FnSelectsUptoCardSaid : Prop := Claim7.holds Tryz.pinned (.plain (OpenSpec.upto fnSelectsSpec)) fnSelectsUptoCard

/-- THE SECOND FORM's CARD OF 'laws.FnLittle'. -/
def fnLittleUptoCard : Claim7 := { stood := { row := fnLittleUptoRow, standIns := [], harness := (true, "9443118240005946e34ffdd6b37a9747578a0de17fe150a9cbfa182848bed480"), looks := true }, kinds := [], alts := [], laidByText := true, laidKinds := [.data, .data, .data, .data, .sentinel, .sentinel, .pinned], laidTests := true, laidLooks := .later }
def FnLittleUptoCardSaid : Prop := Claim7.holds Tryz.pinned (.plain (OpenSpec.upto fnLittleSpec)) fnLittleUptoCard

/-- THE SECOND FORM's CARD OF 'laws.FnMadeAnew'. -/
def fnMadeAnewUptoCard : Claim7 := { stood := { row := fnMadeAnewUptoRow, standIns := [], harness := (true, "9443118240005946e34ffdd6b37a9747578a0de17fe150a9cbfa182848bed480"), looks := true }, kinds := [], alts := [], laidByText := true, laidKinds := [.data, .data, .data, .data, .sentinel, .sentinel, .pinned], laidTests := true, laidLooks := .later }
def FnMadeAnewUptoCardSaid : Prop := Claim7.holds Tryz.pinned (.plain (OpenSpec.upto fnMadeAnewSpec)) fnMadeAnewUptoCard

/-- THE SECOND FORM's CARD OF 'laws.FnCaches'. -/
def fnCachesUptoCard : Claim7 := { stood := { row := fnCachesUptoRow, standIns := [], harness := (true, "9443118240005946e34ffdd6b37a9747578a0de17fe150a9cbfa182848bed480"), looks := true }, kinds := [], alts := [], laidByText := true, laidKinds := [.data, .data, .data], laidTests := true, laidLooks := .later }
def FnCachesUptoCardSaid : Prop := Claim7.holds Tryz.pinned (.plain (OpenSpec.upto fnCachesSpec)) fnCachesUptoCard

/-- THE SECOND FORM's CARD OF 'laws.FnShown'. -/
def fnShownUptoCard : Claim7 := { stood := { row := fnShownUptoRow, standIns := [], harness := (true, "9443118240005946e34ffdd6b37a9747578a0de17fe150a9cbfa182848bed480"), looks := true }, kinds := [], alts := [], laidByText := true, laidKinds := [.data, .data, .data, .data, .sentinel, .sentinel, .pinned], laidTests := true, laidLooks := .later }
def FnShownUptoCardSaid : Prop := Claim7.holds Tryz.pinned (.plain (OpenSpec.upto fnShownSpec)) fnShownUptoCard

/-- THE SECOND FORM's CARD OF 'laws.FnCatchesUp'. -/
def fnCatchesUpUptoCard : Claim7 := { stood := { row := fnCatchesUpUptoRow, standIns := [], harness := (true, "9443118240005946e34ffdd6b37a9747578a0de17fe150a9cbfa182848bed480"), looks := true }, kinds := [], alts := [], laidByText := true, laidKinds := [.data, .data, .data, .data, .sentinel, .sentinel, .pinned], laidTests := true, laidLooks := .later }
def FnCatchesUpUptoCardSaid : Prop := Claim7.holds Tryz.pinned (.plain (OpenSpec.upto fnCatchesUpSpec)) fnCatchesUpUptoCard
end Rows
end Go.Proofs.YtomeglmblhfafaaGreatDoor
