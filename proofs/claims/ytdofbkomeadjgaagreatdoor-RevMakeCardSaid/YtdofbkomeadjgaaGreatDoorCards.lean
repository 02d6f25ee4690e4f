/-
  DERIVED. GIVEN WITH THE SEED: THE CARDS: each row of YtdofbkomeadjgaaGreatDoorRows.lean that lists a variable, with what it lists TIED to the program's text (the seventh form; the later family's looks); each row that meets fmt, with fmt's text TOLD by the authors' own Lean function (tested against real Go, not proved from fmt's source: count such statements apart). THE CARD IS WHAT COUNTS. Prove the row's statement (the work); the ties are given (YtdofbkomeadjgaaGreatDoorTie.lean); close each card by the builder's one call (the guide's Derived/Test/ToyasCard.lean, 'card_holds'). Laid BY PROGRAM, IN A SANDBOX (cutbox-door.mjs). By AI agents, Wed Nov 11 2026. No macro, syntax, notation, axiom, sorry.
-/
import Derived.Test.YtdofbkomeadjgaaGreatDoorRows
import GoSem.ClaimSeven
namespace Go.Proofs.YtdofbkomeadjgaaGreatDoor
namespace Rows

/-- THE TIED CARD OF 'tidewracklaw06.RevMake'. -/
def revMakeCard : Claim7 := { stood := { row := revMakeRow, standIns := [], harness := (true, "cef43a09c4241c052e3db160a932ad5fbd630d79b67a947119b04550012437f6"), looks := true }, kinds := [], alts := [], laidByText := true, laidKinds := [.data, .data, .data, .sentinel, .sentinel], laidTests := true, laidLooks := .later }
def RevMakeCardSaid : Prop := Claim7.holds Tryz.pinned (.plain (OpenSpec.ofChange revMakeSpec)) revMakeCard

/-- THE SECOND FORM's CARD OF 'tidewracklaw06.RevMake'. -/
def revMakeUptoCard : Claim7 := { stood := { row := revMakeUptoRow, standIns := [], harness := (true, "cef43a09c4241c052e3db160a932ad5fbd630d79b67a947119b04550012437f6"), looks := true }, kinds := [], alts := [], laidByText := true, laidKinds := [.data, .data, .data, .sentinel, .sentinel], laidTests := true, laidLooks := .later }
def RevMakeUptoCardSaid : Prop := Claim7.holds Tryz.pinned (.plain (OpenSpec.upto revMakeSpec)) revMakeUptoCard
end Rows
end Go.Proofs.YtdofbkomeadjgaaGreatDoor
