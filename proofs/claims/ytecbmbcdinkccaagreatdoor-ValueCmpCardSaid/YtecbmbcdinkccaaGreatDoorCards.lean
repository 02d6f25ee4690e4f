/-
  DERIVED. GIVEN WITH THE SEED: THE CARDS: each row of YtecbmbcdinkccaaGreatDoorRows.lean that lists a variable, with what it lists TIED to the program's text (the seventh form; the later family's looks); each row that meets fmt, with fmt's text TOLD by the authors' own Lean function (tested against real Go, not proved from fmt's source: count such statements apart). THE CARD IS WHAT COUNTS. Prove the row's statement (the work); the ties are given (YtecbmbcdinkccaaGreatDoorTie.lean); close each card by the builder's one call (the guide's Derived/Test/ToyasCard.lean, 'card_holds'). Laid BY PROGRAM, IN A SANDBOX (cutbox-door.mjs). By AI agents, Wed Nov 11 2026. No macro, syntax, notation, axiom, sorry.
-/
import Derived.Test.YtecbmbcdinkccaaGreatDoorRows
import GoSem.ClaimSeven
namespace Go.Proofs.YtecbmbcdinkccaaGreatDoor
namespace Rows

/-- THE TIED CARD OF 'tidewracklaw01.ValueCmp'. -/
def valueCmpCard : Claim7 := { stood := { row := valueCmpRow, standIns := [], harness := (true, "1b3ae986eb33d2752a371c0eb9f0bd03232c7fb147466c8d58392cb15e1753b4"), looks := true }, kinds := [], alts := [], laidByText := true, laidKinds := [.data, .data, .data, .data, .sentinel, .sentinel, .pinned], laidTests := true, laidLooks := .later }
def ValueCmpCardSaid : Prop := Claim7.holds Tryz.pinned (.plain (OpenSpec.ofChange valueCmpSpec)) valueCmpCard

/-- THE TIED CARD OF 'tidewracklaw01.ValueOrder'. -/
def valueOrderCard : Claim7 := { stood := { row := valueOrderRow, standIns := [], harness := (true, "1b3ae986eb33d2752a371c0eb9f0bd03232c7fb147466c8d58392cb15e1753b4"), looks := true }, kinds := [], alts := [], laidByText := true, laidKinds := [.data, .data, .data, .data, .sentinel, .sentinel, .pinned], laidTests := true, laidLooks := .later }
def ValueOrderCardSaid : Prop := Claim7.holds Tryz.pinned (.plain (OpenSpec.ofChange valueOrderSpec)) valueOrderCard

/-- THE TIED CARD OF 'tidewracklaw01.ValueAt'. -/
def valueAtCard : Claim7 := { stood := { row := valueAtRow, standIns := [], harness := (true, "1b3ae986eb33d2752a371c0eb9f0bd03232c7fb147466c8d58392cb15e1753b4"), looks := true }, kinds := [], alts := [], laidByText := true, laidKinds := [.data, .data, .data, .data, .sentinel, .sentinel, .pinned], laidTests := true, laidLooks := .later }
def ValueAtCardSaid : Prop := Claim7.holds Tryz.pinned (.plain (OpenSpec.ofChange valueAtSpec)) valueAtCard

/-- THE TIED CARD OF 'tidewracklaw01.ValuePut'. -/
def valuePutCard : Claim7 := { stood := { row := valuePutRow, standIns := [], harness := (true, "1b3ae986eb33d2752a371c0eb9f0bd03232c7fb147466c8d58392cb15e1753b4"), looks := true }, kinds := [], alts := [], laidByText := true, laidKinds := [.data, .data, .data, .data, .sentinel, .sentinel, .pinned], laidTests := true, laidLooks := .later }
def ValuePutCardSaid : Prop := Claim7.holds Tryz.pinned (.plain (OpenSpec.ofChange valuePutSpec)) valuePutCard

/-- THE SECOND FORM's CARD OF 'tidewracklaw01.ValueCmp'. -/
def valueCmpUptoCard : Claim7 := { stood := { row := valueCmpUptoRow, standIns := [], harness := (true, "1b3ae986eb33d2752a371c0eb9f0bd03232c7fb147466c8d58392cb15e1753b4"), looks := true }, kinds := [], alts := [], laidByText := true, laidKinds := [.data, .data, .data, .data, .sentinel, .sentinel, .pinned], laidTests := true, laidLooks := .later }
def ValueCmpUptoCardSaid : Prop := Claim7.holds Tryz.pinned (.plain (OpenSpec.upto valueCmpSpec)) valueCmpUptoCard

/-- THE SECOND FORM's CARD OF 'tidewracklaw01.ValueOrder'. -/
def valueOrderUptoCard : Claim7 := { stood := { row := valueOrderUptoRow, standIns := [], harness := (true, "1b3ae986eb33d2752a371c0eb9f0bd03232c7fb147466c8d58392cb15e1753b4"), looks := true }, kinds := [], alts := [], laidByText := true, laidKinds := [.data, .data, .data, .data, .sentinel, .sentinel, .pinned], laidTests := true, laidLooks := .later }
def ValueOrderUptoCardSaid : Prop := Claim7.holds Tryz.pinned (.plain (OpenSpec.upto valueOrderSpec)) valueOrderUptoCard

/-- THE SECOND FORM's CARD OF 'tidewracklaw01.ValueAt'. -/
def valueAtUptoCard : Claim7 := { stood := { row := valueAtUptoRow, standIns := [], harness := (true, "1b3ae986eb33d2752a371c0eb9f0bd03232c7fb147466c8d58392cb15e1753b4"), looks := true }, kinds := [], alts := [], laidByText := true, laidKinds := [.data, .data, .data, .data, .sentinel, .sentinel, .pinned], laidTests := true, laidLooks := .later }
def ValueAtUptoCardSaid : Prop := Claim7.holds Tryz.pinned (.plain (OpenSpec.upto valueAtSpec)) valueAtUptoCard

/-- THE SECOND FORM's CARD OF 'tidewracklaw01.ValuePut'. -/
def valuePutUptoCard : Claim7 := { stood := { row := valuePutUptoRow, standIns := [], harness := (true, "1b3ae986eb33d2752a371c0eb9f0bd03232c7fb147466c8d58392cb15e1753b4"), looks := true }, kinds := [], alts := [], laidByText := true, laidKinds := [.data, .data, .data, .data, .sentinel, .sentinel, .pinned], laidTests := true, laidLooks := .later }
def ValuePutUptoCardSaid : Prop := Claim7.holds Tryz.pinned (.plain (OpenSpec.upto valuePutSpec)) valuePutUptoCard
end Rows
end Go.Proofs.YtecbmbcdinkccaaGreatDoor
