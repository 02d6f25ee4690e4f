/-
  DERIVED. GIVEN WITH THE SEED: THE CARDS: each row of YtepifllifhikiaaDoorRows.lean that lists a variable, with what it lists TIED to the program's text (the seventh form; the later family's looks); each row that meets fmt, with fmt's text TOLD by the authors' own Lean function (tested against real Go, not proved from fmt's source: count such statements apart). THE CARD IS WHAT COUNTS. Prove the row's statement (the work); the ties are given (YtepifllifhikiaaDoorTie.lean); close each card by the builder's one call (the guide's Derived/Test/ToyasCard.lean, 'card_holds'). Laid BY PROGRAM, IN A SANDBOX (cutbox-door.mjs). By AI agents, Wed Nov 11 2026. No macro, syntax, notation, axiom, sorry.
-/
import Derived.Test.YtepifllifhikiaaDoorRows
import GoSem.ClaimSeven
namespace Go.Proofs.YtepifllifhikiaaDoor
namespace Rows

/-- THE TIED CARD OF 'tidewracklaw12.KeysMerges'. -/
def keysMergesCard : Claim7 := { stood := { row := keysMergesRow, standIns := [], harness := (true, "17c89551121150fd3f37a608dbce316191d0f4695282c4c6a2da63b5ea02cadc"), looks := false }, kinds := [], alts := [], laidByText := true, laidKinds := [.data, .data, .data], laidTests := true, laidLooks := .later }
def KeysMergesCardSaid : Prop := Claim7.holds Tryd.pinned (.plain (OpenSpec.ofChange keysMergesSpec)) keysMergesCard

/-- THE TIED CARD OF 'tidewracklaw12.KeysNumbers'. -/
def keysNumbersCard : Claim7 := { stood := { row := keysNumbersRow, standIns := [], harness := (true, "17c89551121150fd3f37a608dbce316191d0f4695282c4c6a2da63b5ea02cadc"), looks := false }, kinds := [], alts := [], laidByText := true, laidKinds := [.data, .data, .data], laidTests := true, laidLooks := .later }
def KeysNumbersCardSaid : Prop := Claim7.holds Tryd.pinned (.plain (OpenSpec.ofChange keysNumbersSpec)) keysNumbersCard

/-- THE TIED CARD OF 'tidewracklaw12.KeysTwo'. -/
def keysTwoCard : Claim7 := { stood := { row := keysTwoRow, standIns := [], harness := (true, "17c89551121150fd3f37a608dbce316191d0f4695282c4c6a2da63b5ea02cadc"), looks := false }, kinds := [], alts := [], laidByText := true, laidKinds := [.data, .data, .data], laidTests := true, laidLooks := .later }
def KeysTwoCardSaid : Prop := Claim7.holds Tryd.pinned (.plain (OpenSpec.ofChange keysTwoSpec)) keysTwoCard

/-- THE TIED CARD OF 'tidewracklaw12.KeysRow'. -/
def keysRowCard : Claim7 := { stood := { row := keysRowRow, standIns := [], harness := (true, "17c89551121150fd3f37a608dbce316191d0f4695282c4c6a2da63b5ea02cadc"), looks := false }, kinds := [], alts := [], laidByText := true, laidKinds := [.data, .data, .data], laidTests := true, laidLooks := .later }
def KeysRowCardSaid : Prop := Claim7.holds Tryd.pinned (.plain (OpenSpec.ofChange keysRowSpec)) keysRowCard

/-- THE TIED CARD OF 'tidewracklaw12.KeysPlays'. -/
def keysPlaysCard : Claim7 := { stood := { row := keysPlaysRow, standIns := [], harness := (true, "17c89551121150fd3f37a608dbce316191d0f4695282c4c6a2da63b5ea02cadc"), looks := false }, kinds := [], alts := [], laidByText := true, laidKinds := [.data, .data, .data], laidTests := true, laidLooks := .later }
def KeysPlaysCardSaid : Prop := Claim7.holds Tryd.pinned (.plain (OpenSpec.ofChange keysPlaysSpec)) keysPlaysCard

/-- THE TIED CARD OF 'tidewracklaw12.KeysNobody'. -/
def keysNobodyCard : Claim7 := { stood := { row := keysNobodyRow, standIns := [], harness := (true, "17c89551121150fd3f37a608dbce316191d0f4695282c4c6a2da63b5ea02cadc"), looks := false }, kinds := [], alts := [], laidByText := true, laidKinds := [.data, .data, .data], laidTests := true, laidLooks := .later }
def KeysNobodyCardSaid : Prop := Claim7.holds Tryd.pinned (.plain (OpenSpec.ofChange keysNobodySpec)) keysNobodyCard

/-- THE SECOND FORM's CARD OF 'tidewracklaw12.KeysMerges'. -/
def keysMergesUptoCard : Claim7 := { stood := { row := keysMergesUptoRow, standIns := [], harness := (true, "17c89551121150fd3f37a608dbce316191d0f4695282c4c6a2da63b5ea02cadc"), looks := false }, kinds := [], alts := [], laidByText := true, laidKinds := [.data, .data, .data], laidTests := true, laidLooks := .later }
def KeysMergesUptoCardSaid : Prop := Claim7.holds Tryd.pinned (.plain (OpenSpec.upto keysMergesSpec)) keysMergesUptoCard

/-- THE SECOND FORM's CARD OF 'tidewracklaw12.KeysNumbers'. -/
def keysNumbersUptoCard : Claim7 := { stood := { row := keysNumbersUptoRow, standIns := [], harness := (true, "17c89551121150fd3f37a608dbce316191d0f4695282c4c6a2da63b5ea02cadc"), looks := false }, kinds := [], alts := [], laidByText := true, laidKinds := [.data, .data, .data], laidTests := true, laidLooks := .later }
def KeysNumbersUptoCardSaid : Prop := Claim7.holds Tryd.pinned (.plain (OpenSpec.upto keysNumbersSpec)) keysNumbersUptoCard

/-- THE SECOND FORM's CARD OF 'tidewracklaw12.KeysTwo'. -/
def keysTwoUptoCard : Claim7 := { stood := { row := keysTwoUptoRow, standIns := [], harness := (true, "17c89551121150fd3f37a608dbce316191d0f4695282c4c6a2da63b5ea02cadc"), looks := false }, kinds := [], alts := [], laidByText := true, laidKinds := [.data, .data, .data], laidTests := true, laidLooks := .later }
def KeysTwoUptoCardSaid : Prop := Claim7.holds Tryd.pinned (.plain (OpenSpec.upto keysTwoSpec)) keysTwoUptoCard

/-- THE SECOND FORM's CARD OF 'tidewracklaw12.KeysRow'. -/
def keysRowUptoCard : Claim7 := { stood := { row := keysRowUptoRow, standIns := [], harness := (true, "17c89551121150fd3f37a608dbce316191d0f4695282c4c6a2da63b5ea02cadc"), looks := false }, kinds := [], alts := [], laidByText := true, laidKinds := [.data, .data, .data], laidTests := true, laidLooks := .later }
def KeysRowUptoCardSaid : Prop := Claim7.holds Tryd.pinned (.plain (OpenSpec.upto keysRowSpec)) keysRowUptoCard

/-- THE SECOND FORM's CARD OF 'tidewracklaw12.KeysPlays'. -/
def keysPlaysUptoCard : Claim7 := { stood := { row := keysPlaysUptoRow, standIns := [], harness := (true, "17c89551121150fd3f37a608dbce316191d0f4695282c4c6a2da63b5ea02cadc"), looks := false }, kinds := [], alts := [], laidByText := true, laidKinds := [.data, .data, .data], laidTests := true, laidLooks := .later }
def KeysPlaysUptoCardSaid : Prop := Claim7.holds Tryd.pinned (.plain (OpenSpec.upto keysPlaysSpec)) keysPlaysUptoCard

/-- THE SECOND FORM's CARD OF 'tidewracklaw12.KeysNobody'. -/
def keysNobodyUptoCard : Claim7 := { stood := { row := keysNobodyUptoRow, standIns := [], harness := (true, "17c89551121150fd3f37a608dbce316191d0f4695282c4c6a2da63b5ea02cadc"), looks := false }, kinds := [], alts := [], laidByText := true, laidKinds := [.data, .data, .data], laidTests := true, laidLooks := .later }
def KeysNobodyUptoCardSaid : Prop := Claim7.holds Tryd.pinned (.plain (OpenSpec.upto keysNobodySpec)) keysNobodyUptoCard
end Rows
end Go.Proofs.YtepifllifhikiaaDoor
