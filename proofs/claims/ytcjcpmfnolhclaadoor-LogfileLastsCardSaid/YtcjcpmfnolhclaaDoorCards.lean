/-
  DERIVED. GIVEN WITH THE SEED: THE CARDS: each row of YtcjcpmfnolhclaaDoorRows.lean that lists a variable, with what it lists TIED to the program's text (the seventh form; the later family's looks); each row that meets fmt, with fmt's text TOLD by the authors' own Lean function (tested against real Go, not proved from fmt's source: count such statements apart). THE CARD IS WHAT COUNTS. Prove the row's statement (the work); the ties are given (YtcjcpmfnolhclaaDoorTie.lean); close each card by the builder's one call (the guide's Derived/Test/ToyasCard.lean, 'card_holds'). Laid BY PROGRAM, IN A SANDBOX (cutbox-door.mjs). By AI agents, Wed Nov 11 2026. No macro, syntax, notation, axiom, sorry.
-/
import Derived.Test.YtcjcpmfnolhclaaDoorRows
import GoSem.ClaimSeven
namespace Go.Proofs.YtcjcpmfnolhclaaDoor
namespace Rows

/-- THE TIED CARD OF 'tidewracklaw11.LogfileLasts'. -/
def logfileLastsCard : Claim7 := { stood := { row := logfileLastsRow, standIns := [], harness := (true, "9f0e28b82cb8461b1f7b5f2aee13f45476dd6904ff4c244154ac762b0360f175"), looks := true }, kinds := [], alts := [], laidByText := true, laidKinds := [.data, .pinned], laidTests := true, laidLooks := .later }
def LogfileLastsCardSaid : Prop := Claim7.holds Tryd.pinned (.plain (OpenSpec.ofChange logfileLastsSpec)) logfileLastsCard

/-- THE TIED CARD OF 'tidewracklaw11.LogfileNobody'. -/
def logfileNobodyCard : Claim7 := { stood := { row := logfileNobodyRow, standIns := [], harness := (true, "9f0e28b82cb8461b1f7b5f2aee13f45476dd6904ff4c244154ac762b0360f175"), looks := true }, kinds := [], alts := [], laidByText := true, laidKinds := [.data, .pinned], laidTests := true, laidLooks := .later }
def LogfileNobodyCardSaid : Prop := Claim7.holds Tryd.pinned (.plain (OpenSpec.ofChange logfileNobodySpec)) logfileNobodyCard

/-- THE TIED CARD OF 'tidewracklaw11.LogfileFull'. -/
def logfileFullCard : Claim7 := { stood := { row := logfileFullRow, standIns := [], harness := (true, "9f0e28b82cb8461b1f7b5f2aee13f45476dd6904ff4c244154ac762b0360f175"), looks := true }, kinds := [], alts := [], laidByText := true, laidKinds := [.data, .pinned], laidTests := true, laidLooks := .later }
def LogfileFullCardSaid : Prop := Claim7.holds Tryd.pinned (.plain (OpenSpec.ofChange logfileFullSpec)) logfileFullCard

/-- THE SECOND FORM's CARD OF 'tidewracklaw11.LogfileLasts'. -/
def logfileLastsUptoCard : Claim7 := { stood := { row := logfileLastsUptoRow, standIns := [], harness := (true, "9f0e28b82cb8461b1f7b5f2aee13f45476dd6904ff4c244154ac762b0360f175"), looks := true }, kinds := [], alts := [], laidByText := true, laidKinds := [.data, .pinned], laidTests := true, laidLooks := .later }
def LogfileLastsUptoCardSaid : Prop := Claim7.holds Tryd.pinned (.plain (OpenSpec.upto logfileLastsSpec)) logfileLastsUptoCard

/-- THE SECOND FORM's CARD OF 'tidewracklaw11.LogfileNobody'. -/
def logfileNobodyUptoCard : Claim7 := { stood := { row := logfileNobodyUptoRow, standIns := [], harness := (true, "9f0e28b82cb8461b1f7b5f2aee13f45476dd6904ff4c244154ac762b0360f175"), looks := true }, kinds := [], alts := [], laidByText := true, laidKinds := [.data, .pinned], laidTests := true, laidLooks := .later }
def LogfileNobodyUptoCardSaid : Prop := Claim7.holds Tryd.pinned (.plain (OpenSpec.upto logfileNobodySpec)) logfileNobodyUptoCard

/-- THE SECOND FORM's CARD OF 'tidewracklaw11.LogfileFull'. -/
def logfileFullUptoCard : Claim7 := { stood := { row := logfileFullUptoRow, standIns := [], harness := (true, "9f0e28b82cb8461b1f7b5f2aee13f45476dd6904ff4c244154ac762b0360f175"), looks := true }, kinds := [], alts := [], laidByText := true, laidKinds := [.data, .pinned], laidTests := true, laidLooks := .later }
def LogfileFullUptoCardSaid : Prop := Claim7.holds Tryd.pinned (.plain (OpenSpec.upto logfileFullSpec)) logfileFullUptoCard
end Rows
end Go.Proofs.YtcjcpmfnolhclaaDoor
