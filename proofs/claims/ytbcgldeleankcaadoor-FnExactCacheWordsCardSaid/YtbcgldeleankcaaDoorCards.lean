/-
  DERIVED. GIVEN WITH THE SEED: THE CARDS: each row of YtbcgldeleankcaaDoorRows.lean that lists a variable, with what it lists TIED to the program's text (the seventh form; the later family's looks); each row that meets fmt, with fmt's text TOLD by the authors' own Lean function (tested against real Go, not proved from fmt's source: count such statements apart). THE CARD IS WHAT COUNTS. Prove the row's statement (the work); the ties are given (YtbcgldeleankcaaDoorTie.lean); close each card by the builder's one call (the guide's Derived/Test/ToyasCard.lean, 'card_holds'). Laid BY PROGRAM, IN A SANDBOX (cutbox-door.mjs). By AI agents, Wed Nov 11 2026. No macro, syntax, notation, axiom, sorry.
-/
import Derived.Test.YtbcgldeleankcaaDoorRows
import GoSem.ClaimSeven
namespace Go.Proofs.YtbcgldeleankcaaDoor
namespace Rows

/-- THE TIED CARD OF 'laws.FnCommandsTold'. -/
def fnCommandsToldCard : Claim7 := { stood := { row := fnCommandsToldRow, standIns := [], harness := (true, "91d136b4d0a0d416db8a1e40cbaf63816d917d76bb35024132fde0c8770702a3"), looks := false }, kinds := [], alts := [], laidByText := true, laidKinds := [.data, .data, .data, .data, .pinned], laidTests := true, laidLooks := .later }
def FnCommandsToldCardSaid : Prop := Claim7.holds Tryd.pinned (.plain (OpenSpec.ofChange fnCommandsToldSpec)) fnCommandsToldCard

/-- THE TIED CARD OF 'laws.FnExactCommandText'. -/
def fnExactCommandTextCard : Claim7 := { stood := { row := fnExactCommandTextRow, standIns := [], harness := (true, "91d136b4d0a0d416db8a1e40cbaf63816d917d76bb35024132fde0c8770702a3"), looks := false }, kinds := [], alts := [], laidByText := true, laidKinds := [.data, .data, .data, .data, .pinned], laidTests := true, laidLooks := .later }
def FnExactCommandTextCardSaid : Prop := Claim7.holds Tryd.pinned (.plain (OpenSpec.ofChange fnExactCommandTextSpec)) fnExactCommandTextCard

/-- THE TIED CARD OF 'laws.FnExactCacheWords'. -/
def fnExactCacheWordsCard : Claim7 := { stood := { row := fnExactCacheWordsRow, standIns := [], harness := (true, "91d136b4d0a0d416db8a1e40cbaf63816d917d76bb35024132fde0c8770702a3"), looks := false }, kinds := [], alts := [], laidByText := true, laidKinds := [.data, .data, .data], laidTests := true, laidLooks := .later }
def FnExactCacheWordsCardSaid : Prop := Claim7.holds Tryd.pinned (.plain (OpenSpec.ofChange fnExactCacheWordsSpec)) fnExactCacheWordsCard

/-- THE SECOND FORM's CARD OF 'laws.FnCommandsTold'. -/
def fnCommandsToldUptoCard : Claim7 := { stood := { row := fnCommandsToldUptoRow, standIns := [], harness := (true, "91d136b4d0a0d416db8a1e40cbaf63816d917d76bb35024132fde0c8770702a3"), looks := false }, kinds := [], alts := [], laidByText := true, laidKinds := [.data, .data, .data, .data, .pinned], laidTests := true, laidLooks := .later }
def FnCommandsToldUptoCardSaid : Prop := Claim7.holds Tryd.pinned (.plain (OpenSpec.upto fnCommandsToldSpec)) fnCommandsToldUptoCard

/-- THE SECOND FORM's CARD OF 'laws.FnExactCommandText'. -/
def fnExactCommandTextUptoCard : Claim7 := { stood := { row := fnExactCommandTextUptoRow, standIns := [], harness := (true, "91d136b4d0a0d416db8a1e40cbaf63816d917d76bb35024132fde0c8770702a3"), looks := false }, kinds := [], alts := [], laidByText := true, laidKinds := [.data, .data, .data, .data, .pinned], laidTests := true, laidLooks := .later }
def FnExactCommandTextUptoCardSaid : Prop := Claim7.holds Tryd.pinned (.plain (OpenSpec.upto fnExactCommandTextSpec)) fnExactCommandTextUptoCard

/-- THE SECOND FORM's CARD OF 'laws.FnExactCacheWords'. -/
def fnExactCacheWordsUptoCard : Claim7 := { stood := { row := fnExactCacheWordsUptoRow, standIns := [], harness := (true, "91d136b4d0a0d416db8a1e40cbaf63816d917d76bb35024132fde0c8770702a3"), looks := false }, kinds := [], alts := [], laidByText := true, laidKinds := [.data, .data, .data], laidTests := true, laidLooks := .later }
def FnExactCacheWordsUptoCardSaid : Prop := Claim7.holds Tryd.pinned (.plain (OpenSpec.upto fnExactCacheWordsSpec)) fnExactCacheWordsUptoCard
end Rows
end Go.Proofs.YtbcgldeleankcaaDoor
