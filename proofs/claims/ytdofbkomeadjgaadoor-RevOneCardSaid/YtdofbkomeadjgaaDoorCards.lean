/-
  DERIVED. GIVEN WITH THE SEED: THE CARDS: each row of YtdofbkomeadjgaaDoorRows.lean that lists a variable, with what it lists TIED to the program's text (the seventh form; the later family's looks); each row that meets fmt, with fmt's text TOLD by the authors' own Lean function (tested against real Go, not proved from fmt's source: count such statements apart). THE CARD IS WHAT COUNTS. Prove the row's statement (the work); the ties are given (YtdofbkomeadjgaaDoorTie.lean); close each card by the builder's one call (the guide's Derived/Test/ToyasCard.lean, 'card_holds'). Laid BY PROGRAM, IN A SANDBOX (cutbox-door.mjs). By AI agents, Wed Nov 11 2026. No macro, syntax, notation, axiom, sorry.
-/
import Derived.Test.YtdofbkomeadjgaaDoorRows
import GoSem.ClaimSeven
namespace Go.Proofs.YtdofbkomeadjgaaDoor
namespace Rows

/-- THE TIED CARD OF 'tidewracklaw06.RevChain'. -/
def revChainCard : Claim7 := { stood := { row := revChainRow, standIns := [], harness := (true, "80b6ddcdb3b8b93d9073793964af6713ae74cec538d0d358a43fc4f0a2157b4e"), looks := true }, kinds := [], alts := [], laidByText := true, laidKinds := [.data, .data, .data, .sentinel, .sentinel], laidTests := true, laidLooks := .later }
def RevChainCardSaid : Prop := Claim7.holds Tryd.pinned (.plain (OpenSpec.ofChange revChainSpec)) revChainCard

/-- THE TIED CARD OF 'tidewracklaw06.RevOne'. -/
def revOneCard : Claim7 := { stood := { row := revOneRow, standIns := [], harness := (true, "80b6ddcdb3b8b93d9073793964af6713ae74cec538d0d358a43fc4f0a2157b4e"), looks := true }, kinds := [], alts := [], laidByText := true, laidKinds := [.data, .data, .data, .sentinel, .sentinel], laidTests := true, laidLooks := .later }
def RevOneCardSaid : Prop := Claim7.holds Tryd.pinned (.plain (OpenSpec.ofChange revOneSpec)) revOneCard

/-- THE TIED CARD OF 'tidewracklaw06.RevText'. -/
def revTextCard : Claim7 := { stood := { row := revTextRow, standIns := [], harness := (true, "80b6ddcdb3b8b93d9073793964af6713ae74cec538d0d358a43fc4f0a2157b4e"), looks := true }, kinds := [], alts := [], laidByText := true, laidKinds := [.data, .data, .data, .sentinel, .sentinel], laidTests := true, laidLooks := .later }
def RevTextCardSaid : Prop := Claim7.holds Tryd.pinned (.plain (OpenSpec.ofChange revTextSpec)) revTextCard

/-- THE TIED CARD OF 'tidewracklaw06.RevBack'. -/
def revBackCard : Claim7 := { stood := { row := revBackRow, standIns := [], harness := (true, "80b6ddcdb3b8b93d9073793964af6713ae74cec538d0d358a43fc4f0a2157b4e"), looks := true }, kinds := [], alts := [], laidByText := true, laidKinds := [.data, .data, .data, .sentinel, .sentinel], laidTests := true, laidLooks := .later }
def RevBackCardSaid : Prop := Claim7.holds Tryd.pinned (.plain (OpenSpec.ofChange revBackSpec)) revBackCard

/-- THE SECOND FORM's CARD OF 'tidewracklaw06.RevChain'. -/
def revChainUptoCard : Claim7 := { stood := { row := revChainUptoRow, standIns := [], harness := (true, "80b6ddcdb3b8b93d9073793964af6713ae74cec538d0d358a43fc4f0a2157b4e"), looks := true }, kinds := [], alts := [], laidByText := true, laidKinds := [.data, .data, .data, .sentinel, .sentinel], laidTests := true, laidLooks := .later }
def RevChainUptoCardSaid : Prop := Claim7.holds Tryd.pinned (.plain (OpenSpec.upto revChainSpec)) revChainUptoCard

/-- THE SECOND FORM's CARD OF 'tidewracklaw06.RevOne'. -/
def revOneUptoCard : Claim7 := { stood := { row := revOneUptoRow, standIns := [], harness := (true, "80b6ddcdb3b8b93d9073793964af6713ae74cec538d0d358a43fc4f0a2157b4e"), looks := true }, kinds := [], alts := [], laidByText := true, laidKinds := [.data, .data, .data, .sentinel, .sentinel], laidTests := true, laidLooks := .later }
def RevOneUptoCardSaid : Prop := Claim7.holds Tryd.pinned (.plain (OpenSpec.upto revOneSpec)) revOneUptoCard

/-- THE SECOND FORM's CARD OF 'tidewracklaw06.RevText'. -/
def revTextUptoCard : Claim7 := { stood := { row := revTextUptoRow, standIns := [], harness := (true, "80b6ddcdb3b8b93d9073793964af6713ae74cec538d0d358a43fc4f0a2157b4e"), looks := true }, kinds := [], alts := [], laidByText := true, laidKinds := [.data, .data, .data, .sentinel, .sentinel], laidTests := true, laidLooks := .later }
def RevTextUptoCardSaid : Prop := Claim7.holds Tryd.pinned (.plain (OpenSpec.upto revTextSpec)) revTextUptoCard

/-- THE SECOND FORM's CARD OF 'tidewracklaw06.RevBack'. -/
def revBackUptoCard : Claim7 := { stood := { row := revBackUptoRow, standIns := [], harness := (true, "80b6ddcdb3b8b93d9073793964af6713ae74cec538d0d358a43fc4f0a2157b4e"), looks := true }, kinds := [], alts := [], laidByText := true, laidKinds := [.data, .data, .data, .sentinel, .sentinel], laidTests := true, laidLooks := .later }
def RevBackUptoCardSaid : Prop := Claim7.holds Tryd.pinned (.plain (OpenSpec.upto revBackSpec)) revBackUptoCard
end Rows
end Go.Proofs.YtdofbkomeadjgaaDoor
