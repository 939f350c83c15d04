/-
  No cell of these rows narrows 'for every input' (looked for: loops, veiled, ifaces, maps, wideKeys, modest, calm, conditions, laid).
  DERIVED. THE GIVEN ROWS OF THIS SEAT. 9 by the template 'for every input the law returns true; each argument reads behind the call as it read before'; 0 by the template 'total and deterministic' (their statements: YtoeadcefgpkdcaaTotals.lean).
  GIVEN WITH THE SEED: the statements are not yours to turn. If you find one false, say at which input.
  Laid BY PROGRAM, IN A SANDBOX (cutbox-rows.mjs): the forced cells as the released guide's own fill.sh prints them over the translation 52289f6a57245750… (all of the seat's roots in one cut). By AI agents, Wed Nov 11 2026. No macro, syntax, notation, axiom, sorry.
-/
import Derived.Test.YtoeadcefgpkdcaaChecked
import GoSem.Claim
import GoSem.ClaimJoined
import GoSem.ClaimMapViews
import Derived.JoinedTies
import Derived.KernelRfl
namespace Go.Proofs.Ytoeadcefgpkdcaa
/- THE CELL 'sum', in the pinned program and in every row, IS THE sha256 OF THE DUMP (.gsa) THAT YtoeadcefgpkdcaaProg.lean LOADS. Nothing in Lean hashes anything: it is a label: what it is worth is what the hold of that sum in a sandbox is worth. -/
noncomputable def Try.pinned : Pinned := { name := "ytoeadcefgpkdcaa", sum := "52289f6a572457506e646b34e9d086e79049f5b4ee04de16aa70f40afadeecb8", checked := Try.checked }
namespace Rows
def none {H : Type} : Left H := { results := [], args := [] }

/-- 'laws.FnAdds': WHATEVER THE INPUT: true; the input reads as it did. -/
def fnAddsSpec : ChangeSpec := { name := "fnAdds", fn := fun _ => fun
  | [d] => { results := [.lit (.bool true)], args := [d] }
  | _ => none }
def fnAddsRow : OpenClaim := { program := "ytoeadcefgpkdcaa", sum := "52289f6a572457506e646b34e9d086e79049f5b4ee04de16aa70f40afadeecb8", func := "loop.example/g00247/laws.FnAdds", spec := "fnAdds", inPlace := ["internal/bytealg.IndexByteString"], unfollowed := true, recurses := true, apart := false }
def FnAddsSaid : Prop := fnAddsRow.holds Try.pinned (OpenSpec.ofChange fnAddsSpec)

/-- ITS FALSE NEIGHBOUR: 'it returns false'. Refute it at one input. -/
def fnAddsWrong : ChangeSpec := { name := "fnAdds", fn := fun _ => fun
  | [d] => { results := [.lit (.bool false)], args := [d] }
  | _ => none }
def FnAddsWrongFalsely : Prop := fnAddsRow.holds Try.pinned (OpenSpec.ofChange fnAddsWrong)

/-- 'laws.FnStores': WHATEVER THE INPUT: true; the input reads as it did. -/
def fnStoresSpec : ChangeSpec := { name := "fnStores", fn := fun _ => fun
  | [d] => { results := [.lit (.bool true)], args := [d] }
  | _ => none }
def fnStoresRow : OpenClaim := { program := "ytoeadcefgpkdcaa", sum := "52289f6a572457506e646b34e9d086e79049f5b4ee04de16aa70f40afadeecb8", func := "loop.example/g00247/laws.FnStores", spec := "fnStores", inPlace := ["internal/bytealg.IndexByteString"], unfollowed := true, recurses := true, apart := false }
def FnStoresSaid : Prop := fnStoresRow.holds Try.pinned (OpenSpec.ofChange fnStoresSpec)

/-- ITS FALSE NEIGHBOUR: 'it returns false'. Refute it at one input. -/
def fnStoresWrong : ChangeSpec := { name := "fnStores", fn := fun _ => fun
  | [d] => { results := [.lit (.bool false)], args := [d] }
  | _ => none }
def FnStoresWrongFalsely : Prop := fnStoresRow.holds Try.pinned (OpenSpec.ofChange fnStoresWrong)

/-- 'laws.FnTells': WHATEVER THE INPUT: true; the input reads as it did. -/
def fnTellsSpec : ChangeSpec := { name := "fnTells", fn := fun _ => fun
  | [d] => { results := [.lit (.bool true)], args := [d] }
  | _ => none }
def fnTellsRow : OpenClaim := { program := "ytoeadcefgpkdcaa", sum := "52289f6a572457506e646b34e9d086e79049f5b4ee04de16aa70f40afadeecb8", func := "loop.example/g00247/laws.FnTells", spec := "fnTells", inPlace := ["internal/bytealg.IndexByteString"], unfollowed := true, recurses := true, apart := false }
def FnTellsSaid : Prop := fnTellsRow.holds Try.pinned (OpenSpec.ofChange fnTellsSpec)

/-- ITS FALSE NEIGHBOUR: 'it returns false'. Refute it at one input. -/
def fnTellsWrong : ChangeSpec := { name := "fnTells", fn := fun _ => fun
  | [d] => { results := [.lit (.bool false)], args := [d] }
  | _ => none }
def FnTellsWrongFalsely : Prop := fnTellsRow.holds Try.pinned (OpenSpec.ofChange fnTellsWrong)

/-- 'laws.FnBoxesTold': WHATEVER THE INPUT: true; the input reads as it did. -/
def fnBoxesToldSpec : ChangeSpec := { name := "fnBoxesTold", fn := fun _ => fun
  | [d] => { results := [.lit (.bool true)], args := [d] }
  | _ => none }
def fnBoxesToldRow : OpenClaim := { program := "ytoeadcefgpkdcaa", sum := "52289f6a572457506e646b34e9d086e79049f5b4ee04de16aa70f40afadeecb8", func := "loop.example/g00247/laws.FnBoxesTold", spec := "fnBoxesTold", inPlace := ["internal/bytealg.IndexByteString"], unfollowed := true, recurses := true, apart := false }
def FnBoxesToldSaid : Prop := fnBoxesToldRow.holds Try.pinned (OpenSpec.ofChange fnBoxesToldSpec)

/-- ITS FALSE NEIGHBOUR: 'it returns false'. Refute it at one input. -/
def fnBoxesToldWrong : ChangeSpec := { name := "fnBoxesTold", fn := fun _ => fun
  | [d] => { results := [.lit (.bool false)], args := [d] }
  | _ => none }
def FnBoxesToldWrongFalsely : Prop := fnBoxesToldRow.holds Try.pinned (OpenSpec.ofChange fnBoxesToldWrong)

/-- 'laws.FnBoxes': WHATEVER THE INPUT: true; the input reads as it did. -/
def fnBoxesSpec : ChangeSpec := { name := "fnBoxes", fn := fun _ => fun
  | [d] => { results := [.lit (.bool true)], args := [d] }
  | _ => none }
def fnBoxesRow : OpenClaim := { program := "ytoeadcefgpkdcaa", sum := "52289f6a572457506e646b34e9d086e79049f5b4ee04de16aa70f40afadeecb8", func := "loop.example/g00247/laws.FnBoxes", spec := "fnBoxes", inPlace := ["internal/bytealg.IndexByteString", "slices.overlaps[loop.example/g00247/impl.Box]"], unfollowed := true, recurses := true, apart := false }
def FnBoxesSaid : Prop := fnBoxesRow.holds Try.pinned (OpenSpec.ofChange fnBoxesSpec)

/-- ITS FALSE NEIGHBOUR: 'it returns false'. Refute it at one input. -/
def fnBoxesWrong : ChangeSpec := { name := "fnBoxes", fn := fun _ => fun
  | [d] => { results := [.lit (.bool false)], args := [d] }
  | _ => none }
def FnBoxesWrongFalsely : Prop := fnBoxesRow.holds Try.pinned (OpenSpec.ofChange fnBoxesWrong)

/-- 'laws.FnCopiesMails': WHATEVER THE INPUT: true; the input reads as it did. -/
def fnCopiesMailsSpec : ChangeSpec := { name := "fnCopiesMails", fn := fun _ => fun
  | [d] => { results := [.lit (.bool true)], args := [d] }
  | _ => none }
def fnCopiesMailsRow : OpenClaim := { program := "ytoeadcefgpkdcaa", sum := "52289f6a572457506e646b34e9d086e79049f5b4ee04de16aa70f40afadeecb8", func := "loop.example/g00247/laws.FnCopiesMails", spec := "fnCopiesMails", inPlace := ["internal/bytealg.IndexByteString", "slices.overlaps[loop.example/g00247/impl.Box]"], unfollowed := true, recurses := true, apart := false }
def FnCopiesMailsSaid : Prop := fnCopiesMailsRow.holds Try.pinned (OpenSpec.ofChange fnCopiesMailsSpec)

/-- ITS FALSE NEIGHBOUR: 'it returns false'. Refute it at one input. -/
def fnCopiesMailsWrong : ChangeSpec := { name := "fnCopiesMails", fn := fun _ => fun
  | [d] => { results := [.lit (.bool false)], args := [d] }
  | _ => none }
def FnCopiesMailsWrongFalsely : Prop := fnCopiesMailsRow.holds Try.pinned (OpenSpec.ofChange fnCopiesMailsWrong)

/-- 'laws.FnSince': WHATEVER THE INPUT: true; the input reads as it did. -/
def fnSinceSpec : ChangeSpec := { name := "fnSince", fn := fun _ => fun
  | [d] => { results := [.lit (.bool true)], args := [d] }
  | _ => none }
def fnSinceRow : OpenClaim := { program := "ytoeadcefgpkdcaa", sum := "52289f6a572457506e646b34e9d086e79049f5b4ee04de16aa70f40afadeecb8", func := "loop.example/g00247/laws.FnSince", spec := "fnSince", inPlace := ["internal/bytealg.IndexByteString"], unfollowed := true, recurses := true, apart := false }
def FnSinceSaid : Prop := fnSinceRow.holds Try.pinned (OpenSpec.ofChange fnSinceSpec)

/-- ITS FALSE NEIGHBOUR: 'it returns false'. Refute it at one input. -/
def fnSinceWrong : ChangeSpec := { name := "fnSince", fn := fun _ => fun
  | [d] => { results := [.lit (.bool false)], args := [d] }
  | _ => none }
def FnSinceWrongFalsely : Prop := fnSinceRow.holds Try.pinned (OpenSpec.ofChange fnSinceWrong)

/-- 'laws.FnExpunges': WHATEVER THE INPUT: true; the input reads as it did. -/
def fnExpungesSpec : ChangeSpec := { name := "fnExpunges", fn := fun _ => fun
  | [d] => { results := [.lit (.bool true)], args := [d] }
  | _ => none }
def fnExpungesRow : OpenClaim := { program := "ytoeadcefgpkdcaa", sum := "52289f6a572457506e646b34e9d086e79049f5b4ee04de16aa70f40afadeecb8", func := "loop.example/g00247/laws.FnExpunges", spec := "fnExpunges", inPlace := ["internal/bytealg.IndexByteString"], unfollowed := true, recurses := true, apart := false }
def FnExpungesSaid : Prop := fnExpungesRow.holds Try.pinned (OpenSpec.ofChange fnExpungesSpec)

/-- ITS FALSE NEIGHBOUR: 'it returns false'. Refute it at one input. -/
def fnExpungesWrong : ChangeSpec := { name := "fnExpunges", fn := fun _ => fun
  | [d] => { results := [.lit (.bool false)], args := [d] }
  | _ => none }
def FnExpungesWrongFalsely : Prop := fnExpungesRow.holds Try.pinned (OpenSpec.ofChange fnExpungesWrong)

/-- 'laws.FnMovesMails': WHATEVER THE INPUT: true; the input reads as it did. -/
def fnMovesMailsSpec : ChangeSpec := { name := "fnMovesMails", fn := fun _ => fun
  | [d] => { results := [.lit (.bool true)], args := [d] }
  | _ => none }
def fnMovesMailsRow : OpenClaim := { program := "ytoeadcefgpkdcaa", sum := "52289f6a572457506e646b34e9d086e79049f5b4ee04de16aa70f40afadeecb8", func := "loop.example/g00247/laws.FnMovesMails", spec := "fnMovesMails", inPlace := ["internal/bytealg.IndexByteString", "slices.overlaps[loop.example/g00247/impl.Box]"], unfollowed := true, recurses := true, apart := false }
def FnMovesMailsSaid : Prop := fnMovesMailsRow.holds Try.pinned (OpenSpec.ofChange fnMovesMailsSpec)

/-- ITS FALSE NEIGHBOUR: 'it returns false'. Refute it at one input. -/
def fnMovesMailsWrong : ChangeSpec := { name := "fnMovesMails", fn := fun _ => fun
  | [d] => { results := [.lit (.bool false)], args := [d] }
  | _ => none }
def FnMovesMailsWrongFalsely : Prop := fnMovesMailsRow.holds Try.pinned (OpenSpec.ofChange fnMovesMailsWrong)

/- THE SECOND FORM. 'bulk': how many values and letters a reading holds, each counted each time it is reached (what is shared counts as often as it is met; a slice's spare places count too). A statement '..UptoSaid' is the law's where the arguments, and the package variables that the reading takes, are together of bulk at most 1048576: NARROWER than '..Said'. Prove '..Said' where nothing that the law and all that it calls make is longer than what came in: it says more and counts as full. Else prove '..UptoSaid'. A law counts once. -/
mutual
def uptoBulk {H : Type} : DataW H → Nat
  | .lit (.string bytes) => bytes.length + 1
  | .lit _ => 1
  | .nil => 1
  | .ptr d => uptoBulk d + 1
  | .slice elems spare => uptoBulkAll elems + uptoBulkAll spare + 1
  | .agg parts => uptoBulkAll parts + 1
  | .iface _ d => uptoBulk d + 1
  | .map entries => uptoBulkEntries entries + 1
  | .held _ => 1
def uptoBulkAll {H : Type} : List (DataW H) → Nat
  | [] => 0
  | d :: r => uptoBulk d + uptoBulkAll r
def uptoBulkEntries {H : Type} : List (Lit × DataW H) → Nat
  | [] => 0
  | x :: r => uptoBulkEntry x + uptoBulkEntries r
def uptoBulkEntry {H : Type} : Lit × DataW H → Nat
  | (.string bytes, d) => bytes.length + uptoBulk d + 1
  | (_, d) => uptoBulk d + 1
 end
def uptoSmall : (H : Type) → List (DataW H) → Bool := fun _ ds => decide (uptoBulkAll ds ≤ 1048576)
def OpenSpec.upto (s : _root_.Go.ChangeSpec) : _root_.Go.OpenSpec := { _root_.Go.OpenSpec.ofChange s with cond := some uptoSmall }

/-- 'laws.FnAdds', WHERE WHAT IT READS IS OF BULK AT MOST 1048576: true; the input reads as it did. -/
def fnAddsUptoRow : OpenClaim := { program := "ytoeadcefgpkdcaa", sum := "52289f6a572457506e646b34e9d086e79049f5b4ee04de16aa70f40afadeecb8", func := "loop.example/g00247/laws.FnAdds", spec := "fnAdds", inPlace := ["internal/bytealg.IndexByteString"], unfollowed := true, recurses := true, apart := false, narrowed := true }
def FnAddsUptoSaid : Prop := fnAddsUptoRow.holds Try.pinned (OpenSpec.upto fnAddsSpec)

/-- 'laws.FnStores', WHERE WHAT IT READS IS OF BULK AT MOST 1048576: true; the input reads as it did. -/
def fnStoresUptoRow : OpenClaim := { program := "ytoeadcefgpkdcaa", sum := "52289f6a572457506e646b34e9d086e79049f5b4ee04de16aa70f40afadeecb8", func := "loop.example/g00247/laws.FnStores", spec := "fnStores", inPlace := ["internal/bytealg.IndexByteString"], unfollowed := true, recurses := true, apart := false, narrowed := true }
def FnStoresUptoSaid : Prop := fnStoresUptoRow.holds Try.pinned (OpenSpec.upto fnStoresSpec)

/-- 'laws.FnTells', WHERE WHAT IT READS IS OF BULK AT MOST 1048576: true; the input reads as it did. -/
def fnTellsUptoRow : OpenClaim := { program := "ytoeadcefgpkdcaa", sum := "52289f6a572457506e646b34e9d086e79049f5b4ee04de16aa70f40afadeecb8", func := "loop.example/g00247/laws.FnTells", spec := "fnTells", inPlace := ["internal/bytealg.IndexByteString"], unfollowed := true, recurses := true, apart := false, narrowed := true }
def FnTellsUptoSaid : Prop := fnTellsUptoRow.holds Try.pinned (OpenSpec.upto fnTellsSpec)

/-- 'laws.FnBoxesTold', WHERE WHAT IT READS IS OF BULK AT MOST 1048576: true; the input reads as it did. -/
def fnBoxesToldUptoRow : OpenClaim := { program := "ytoeadcefgpkdcaa", sum := "52289f6a572457506e646b34e9d086e79049f5b4ee04de16aa70f40afadeecb8", func := "loop.example/g00247/laws.FnBoxesTold", spec := "fnBoxesTold", inPlace := ["internal/bytealg.IndexByteString"], unfollowed := true, recurses := true, apart := false, narrowed := true }
def FnBoxesToldUptoSaid : Prop := fnBoxesToldUptoRow.holds Try.pinned (OpenSpec.upto fnBoxesToldSpec)

/-- 'laws.FnBoxes', WHERE WHAT IT READS IS OF BULK AT MOST 1048576: true; the input reads as it did. -/
def fnBoxesUptoRow : OpenClaim := { program := "ytoeadcefgpkdcaa", sum := "52289f6a572457506e646b34e9d086e79049f5b4ee04de16aa70f40afadeecb8", func := "loop.example/g00247/laws.FnBoxes", spec := "fnBoxes", inPlace := ["internal/bytealg.IndexByteString", "slices.overlaps[loop.example/g00247/impl.Box]"], unfollowed := true, recurses := true, apart := false, narrowed := true }
def FnBoxesUptoSaid : Prop := fnBoxesUptoRow.holds Try.pinned (OpenSpec.upto fnBoxesSpec)

/-- 'laws.FnCopiesMails', WHERE WHAT IT READS IS OF BULK AT MOST 1048576: true; the input reads as it did. -/
def fnCopiesMailsUptoRow : OpenClaim := { program := "ytoeadcefgpkdcaa", sum := "52289f6a572457506e646b34e9d086e79049f5b4ee04de16aa70f40afadeecb8", func := "loop.example/g00247/laws.FnCopiesMails", spec := "fnCopiesMails", inPlace := ["internal/bytealg.IndexByteString", "slices.overlaps[loop.example/g00247/impl.Box]"], unfollowed := true, recurses := true, apart := false, narrowed := true }
def FnCopiesMailsUptoSaid : Prop := fnCopiesMailsUptoRow.holds Try.pinned (OpenSpec.upto fnCopiesMailsSpec)

/-- 'laws.FnSince', WHERE WHAT IT READS IS OF BULK AT MOST 1048576: true; the input reads as it did. -/
def fnSinceUptoRow : OpenClaim := { program := "ytoeadcefgpkdcaa", sum := "52289f6a572457506e646b34e9d086e79049f5b4ee04de16aa70f40afadeecb8", func := "loop.example/g00247/laws.FnSince", spec := "fnSince", inPlace := ["internal/bytealg.IndexByteString"], unfollowed := true, recurses := true, apart := false, narrowed := true }
def FnSinceUptoSaid : Prop := fnSinceUptoRow.holds Try.pinned (OpenSpec.upto fnSinceSpec)

/-- 'laws.FnExpunges', WHERE WHAT IT READS IS OF BULK AT MOST 1048576: true; the input reads as it did. -/
def fnExpungesUptoRow : OpenClaim := { program := "ytoeadcefgpkdcaa", sum := "52289f6a572457506e646b34e9d086e79049f5b4ee04de16aa70f40afadeecb8", func := "loop.example/g00247/laws.FnExpunges", spec := "fnExpunges", inPlace := ["internal/bytealg.IndexByteString"], unfollowed := true, recurses := true, apart := false, narrowed := true }
def FnExpungesUptoSaid : Prop := fnExpungesUptoRow.holds Try.pinned (OpenSpec.upto fnExpungesSpec)

/-- 'laws.FnMovesMails', WHERE WHAT IT READS IS OF BULK AT MOST 1048576: true; the input reads as it did. -/
def fnMovesMailsUptoRow : OpenClaim := { program := "ytoeadcefgpkdcaa", sum := "52289f6a572457506e646b34e9d086e79049f5b4ee04de16aa70f40afadeecb8", func := "loop.example/g00247/laws.FnMovesMails", spec := "fnMovesMails", inPlace := ["internal/bytealg.IndexByteString", "slices.overlaps[loop.example/g00247/impl.Box]"], unfollowed := true, recurses := true, apart := false, narrowed := true }
def FnMovesMailsUptoSaid : Prop := fnMovesMailsUptoRow.holds Try.pinned (OpenSpec.upto fnMovesMailsSpec)

end Rows
end Go.Proofs.Ytoeadcefgpkdcaa
