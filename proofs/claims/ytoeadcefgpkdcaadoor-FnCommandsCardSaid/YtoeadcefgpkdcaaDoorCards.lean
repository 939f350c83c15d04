/-
  DERIVED. GIVEN WITH THE SEED: THE CARDS: each row of YtoeadcefgpkdcaaDoorRows.lean that lists a variable, with what it lists TIED to the program's text (the seventh form; the later family's looks); each row that meets fmt, with fmt's text TOLD by the authors' own Lean function (tested against real Go, not proved from fmt's source: count such statements apart). THE CARD IS WHAT COUNTS. Prove the row's statement (the work); the ties are given (YtoeadcefgpkdcaaDoorTie.lean); close each card by the builder's one call (the guide's Derived/Test/ToyasCard.lean, 'card_holds'). Laid BY PROGRAM, IN A SANDBOX (cutbox-door.mjs). By AI agents, Wed Nov 11 2026. No macro, syntax, notation, axiom, sorry.
-/
import Derived.Test.YtoeadcefgpkdcaaDoorRows
import GoSem.ClaimSeven
namespace Go.Proofs.YtoeadcefgpkdcaaDoor
namespace Rows

/-- THE TIED CARD OF 'laws.FnAnyWord'. -/
def fnAnyWordCard : Claim7 := { stood := { row := fnAnyWordRow, standIns := [], harness := (true, "6904676dbc70ed12e81541ac82252f53464195d0bbb54e0b893a099fe6bcc207"), looks := false }, kinds := [], alts := [], laidByText := true, laidKinds := [.data, .data, .data, .data, .pinned], laidTests := true, laidLooks := .later }
def FnAnyWordCardSaid : Prop := Claim7.holds Tryd.pinned (.plain (OpenSpec.ofChange fnAnyWordSpec)) fnAnyWordCard

/-- THE TIED CARD OF 'laws.FnCommands'. -/
def fnCommandsCard : Claim7 := { stood := { row := fnCommandsRow, standIns := [], harness := (true, "6904676dbc70ed12e81541ac82252f53464195d0bbb54e0b893a099fe6bcc207"), looks := false }, kinds := [], alts := [], laidByText := true, laidKinds := [.data, .data, .data, .data, .pinned], laidTests := true, laidLooks := .later }
def FnCommandsCardSaid : Prop := Claim7.holds Tryd.pinned (.plain (OpenSpec.ofChange fnCommandsSpec)) fnCommandsCard

/-- THE SECOND FORM's CARD OF 'laws.FnAnyWord'. -/
def fnAnyWordUptoCard : Claim7 := { stood := { row := fnAnyWordUptoRow, standIns := [], harness := (true, "6904676dbc70ed12e81541ac82252f53464195d0bbb54e0b893a099fe6bcc207"), looks := false }, kinds := [], alts := [], laidByText := true, laidKinds := [.data, .data, .data, .data, .pinned], laidTests := true, laidLooks := .later }
def FnAnyWordUptoCardSaid : Prop := Claim7.holds Tryd.pinned (.plain (OpenSpec.upto fnAnyWordSpec)) fnAnyWordUptoCard

/-- THE SECOND FORM's CARD OF 'laws.FnCommands'. -/
def fnCommandsUptoCard : Claim7 := { stood := { row := fnCommandsUptoRow, standIns := [], harness := (true, "6904676dbc70ed12e81541ac82252f53464195d0bbb54e0b893a099fe6bcc207"), looks := false }, kinds := [], alts := [], laidByText := true, laidKinds := [.data, .data, .data, .data, .pinned], laidTests := true, laidLooks := .later }
def FnCommandsUptoCardSaid : Prop := Claim7.holds Tryd.pinned (.plain (OpenSpec.upto fnCommandsSpec)) fnCommandsUptoCard
end Rows
end Go.Proofs.YtoeadcefgpkdcaaDoor
