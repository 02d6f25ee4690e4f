/-
  DERIVED. GIVEN WITH THE SEED: THE CARDS: each row of YtoeanjoenlghlaaDoorRows.lean that lists a variable, with what it lists TIED to the program's text (the seventh form; the later family's looks); each row that meets fmt, with fmt's text TOLD by the authors' own Lean function (tested against real Go, not proved from fmt's source: count such statements apart). THE CARD IS WHAT COUNTS. Prove the row's statement (the work); the ties are given (YtoeanjoenlghlaaDoorTie.lean); close each card by the builder's one call (the guide's Derived/Test/ToyasCard.lean, 'card_holds'). Laid BY PROGRAM, IN A SANDBOX (cutbox-door.mjs). By AI agents, Wed Nov 11 2026. No macro, syntax, notation, axiom, sorry.
-/
import Derived.Test.YtoeanjoenlghlaaDoorRows
import GoSem.ClaimSeven
namespace Go.Proofs.YtoeanjoenlghlaaDoor
namespace Rows

/-- THE TIED CARD OF 'tidewracklaw05.DiskBeginnings'. -/
def diskBeginningsCard : Claim7 := { stood := { row := diskBeginningsRow, standIns := [], harness := (true, "37884080c087b0ec889b7ee5a2cb58d643625c65406324ae164290eee723e1ea"), looks := true }, kinds := [], alts := [], laidByText := true, laidKinds := [.data, .pinned], laidTests := true, laidLooks := .later }
def DiskBeginningsCardSaid : Prop := Claim7.holds Tryd.pinned (.plain (OpenSpec.ofChange diskBeginningsSpec)) diskBeginningsCard

/-- THE TIED CARD OF 'tidewracklaw05.DiskCalls'. -/
def diskCallsCard : Claim7 := { stood := { row := diskCallsRow, standIns := [], harness := (true, "37884080c087b0ec889b7ee5a2cb58d643625c65406324ae164290eee723e1ea"), looks := true }, kinds := [], alts := [], laidByText := true, laidKinds := [.data, .pinned], laidTests := true, laidLooks := .later }
def DiskCallsCardSaid : Prop := Claim7.holds Tryd.pinned (.plain (OpenSpec.ofChange diskCallsSpec)) diskCallsCard

/-- THE TIED CARD OF 'tidewracklaw05.DiskFuse'. -/
def diskFuseCard : Claim7 := { stood := { row := diskFuseRow, standIns := [], harness := (true, "37884080c087b0ec889b7ee5a2cb58d643625c65406324ae164290eee723e1ea"), looks := true }, kinds := [], alts := [], laidByText := true, laidKinds := [.data, .pinned], laidTests := true, laidLooks := .later }
def DiskFuseCardSaid : Prop := Claim7.holds Tryd.pinned (.plain (OpenSpec.ofChange diskFuseSpec)) diskFuseCard

/-- THE TIED CARD OF 'tidewracklaw05.DiskTorn'. -/
def diskTornCard : Claim7 := { stood := { row := diskTornRow, standIns := [], harness := (true, "37884080c087b0ec889b7ee5a2cb58d643625c65406324ae164290eee723e1ea"), looks := true }, kinds := [], alts := [], laidByText := true, laidKinds := [.data, .pinned], laidTests := true, laidLooks := .later }
def DiskTornCardSaid : Prop := Claim7.holds Tryd.pinned (.plain (OpenSpec.ofChange diskTornSpec)) diskTornCard

/-- THE TIED CARD OF 'tidewracklaw05.DiskNames'. -/
def diskNamesCard : Claim7 := { stood := { row := diskNamesRow, standIns := [], harness := (true, "37884080c087b0ec889b7ee5a2cb58d643625c65406324ae164290eee723e1ea"), looks := true }, kinds := [], alts := [], laidByText := true, laidKinds := [.data, .pinned], laidTests := true, laidLooks := .later }
def DiskNamesCardSaid : Prop := Claim7.holds Tryd.pinned (.plain (OpenSpec.ofChange diskNamesSpec)) diskNamesCard

/-- THE TIED CARD OF 'tidewracklaw05.DiskRoom'. -/
def diskRoomCard : Claim7 := { stood := { row := diskRoomRow, standIns := [], harness := (true, "37884080c087b0ec889b7ee5a2cb58d643625c65406324ae164290eee723e1ea"), looks := true }, kinds := [], alts := [], laidByText := true, laidKinds := [.data, .pinned], laidTests := true, laidLooks := .later }
def DiskRoomCardSaid : Prop := Claim7.holds Tryd.pinned (.plain (OpenSpec.ofChange diskRoomSpec)) diskRoomCard

/-- THE TIED CARD OF 'tidewracklaw05.DiskNobody'. -/
def diskNobodyCard : Claim7 := { stood := { row := diskNobodyRow, standIns := [], harness := (true, "37884080c087b0ec889b7ee5a2cb58d643625c65406324ae164290eee723e1ea"), looks := true }, kinds := [], alts := [], laidByText := true, laidKinds := [.data, .pinned], laidTests := true, laidLooks := .later }
def DiskNobodyCardSaid : Prop := Claim7.holds Tryd.pinned (.plain (OpenSpec.ofChange diskNobodySpec)) diskNobodyCard

/-- THE TIED CARD OF 'tidewracklaw05.DiskApart'. -/
def diskApartCard : Claim7 := { stood := { row := diskApartRow, standIns := [], harness := (true, "37884080c087b0ec889b7ee5a2cb58d643625c65406324ae164290eee723e1ea"), looks := true }, kinds := [], alts := [], laidByText := true, laidKinds := [.data, .pinned], laidTests := true, laidLooks := .later }
def DiskApartCardSaid : Prop := Claim7.holds Tryd.pinned (.plain (OpenSpec.ofChange diskApartSpec)) diskApartCard

/-- THE SECOND FORM's CARD OF 'tidewracklaw05.DiskBeginnings'. -/
def diskBeginningsUptoCard : Claim7 := { stood := { row := diskBeginningsUptoRow, standIns := [], harness := (true, "37884080c087b0ec889b7ee5a2cb58d643625c65406324ae164290eee723e1ea"), looks := true }, kinds := [], alts := [], laidByText := true, laidKinds := [.data, .pinned], laidTests := true, laidLooks := .later }
def DiskBeginningsUptoCardSaid : Prop := Claim7.holds Tryd.pinned (.plain (OpenSpec.upto diskBeginningsSpec)) diskBeginningsUptoCard

/-- THE SECOND FORM's CARD OF 'tidewracklaw05.DiskCalls'. -/
def diskCallsUptoCard : Claim7 := { stood := { row := diskCallsUptoRow, standIns := [], harness := (true, "37884080c087b0ec889b7ee5a2cb58d643625c65406324ae164290eee723e1ea"), looks := true }, kinds := [], alts := [], laidByText := true, laidKinds := [.data, .pinned], laidTests := true, laidLooks := .later }
def DiskCallsUptoCardSaid : Prop := Claim7.holds Tryd.pinned (.plain (OpenSpec.upto diskCallsSpec)) diskCallsUptoCard

/-- THE SECOND FORM's CARD OF 'tidewracklaw05.DiskFuse'. -/
def diskFuseUptoCard : Claim7 := { stood := { row := diskFuseUptoRow, standIns := [], harness := (true, "37884080c087b0ec889b7ee5a2cb58d643625c65406324ae164290eee723e1ea"), looks := true }, kinds := [], alts := [], laidByText := true, laidKinds := [.data, .pinned], laidTests := true, laidLooks := .later }
def DiskFuseUptoCardSaid : Prop := Claim7.holds Tryd.pinned (.plain (OpenSpec.upto diskFuseSpec)) diskFuseUptoCard

/-- THE SECOND FORM's CARD OF 'tidewracklaw05.DiskTorn'. -/
def diskTornUptoCard : Claim7 := { stood := { row := diskTornUptoRow, standIns := [], harness := (true, "37884080c087b0ec889b7ee5a2cb58d643625c65406324ae164290eee723e1ea"), looks := true }, kinds := [], alts := [], laidByText := true, laidKinds := [.data, .pinned], laidTests := true, laidLooks := .later }
def DiskTornUptoCardSaid : Prop := Claim7.holds Tryd.pinned (.plain (OpenSpec.upto diskTornSpec)) diskTornUptoCard

/-- THE SECOND FORM's CARD OF 'tidewracklaw05.DiskNames'. -/
def diskNamesUptoCard : Claim7 := { stood := { row := diskNamesUptoRow, standIns := [], harness := (true, "37884080c087b0ec889b7ee5a2cb58d643625c65406324ae164290eee723e1ea"), looks := true }, kinds := [], alts := [], laidByText := true, laidKinds := [.data, .pinned], laidTests := true, laidLooks := .later }
def DiskNamesUptoCardSaid : Prop := Claim7.holds Tryd.pinned (.plain (OpenSpec.upto diskNamesSpec)) diskNamesUptoCard

/-- THE SECOND FORM's CARD OF 'tidewracklaw05.DiskRoom'. -/
def diskRoomUptoCard : Claim7 := { stood := { row := diskRoomUptoRow, standIns := [], harness := (true, "37884080c087b0ec889b7ee5a2cb58d643625c65406324ae164290eee723e1ea"), looks := true }, kinds := [], alts := [], laidByText := true, laidKinds := [.data, .pinned], laidTests := true, laidLooks := .later }
def DiskRoomUptoCardSaid : Prop := Claim7.holds Tryd.pinned (.plain (OpenSpec.upto diskRoomSpec)) diskRoomUptoCard

/-- THE SECOND FORM's CARD OF 'tidewracklaw05.DiskNobody'. -/
def diskNobodyUptoCard : Claim7 := { stood := { row := diskNobodyUptoRow, standIns := [], harness := (true, "37884080c087b0ec889b7ee5a2cb58d643625c65406324ae164290eee723e1ea"), looks := true }, kinds := [], alts := [], laidByText := true, laidKinds := [.data, .pinned], laidTests := true, laidLooks := .later }
def DiskNobodyUptoCardSaid : Prop := Claim7.holds Tryd.pinned (.plain (OpenSpec.upto diskNobodySpec)) diskNobodyUptoCard

/-- THE SECOND FORM's CARD OF 'tidewracklaw05.DiskApart'. -/
def diskApartUptoCard : Claim7 := { stood := { row := diskApartUptoRow, standIns := [], harness := (true, "37884080c087b0ec889b7ee5a2cb58d643625c65406324ae164290eee723e1ea"), looks := true }, kinds := [], alts := [], laidByText := true, laidKinds := [.data, .pinned], laidTests := true, laidLooks := .later }
def DiskApartUptoCardSaid : Prop := Claim7.holds Tryd.pinned (.plain (OpenSpec.upto diskApartSpec)) diskApartUptoCard
end Rows
end Go.Proofs.YtoeanjoenlghlaaDoor
