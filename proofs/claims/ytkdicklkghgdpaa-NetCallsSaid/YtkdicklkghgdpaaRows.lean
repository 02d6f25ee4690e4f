/-
  No cell of these rows narrows 'for every input' (looked for: loops, veiled, ifaces, maps, wideKeys, modest, calm, conditions, laid).
  DERIVED. THE GIVEN ROWS OF THIS SEAT. 5 by the template 'for every input the law returns true; each argument reads behind the call as it read before'; 0 by the template 'total and deterministic' (their statements: YtkdicklkghgdpaaTotals.lean).
  GIVEN WITH THE SEED: the statements are not yours to turn. If you find one false, say at which input.
  Laid BY PROGRAM, IN A SANDBOX (cutbox-rows.mjs): the forced cells as the released guide's own fill.sh prints them over the translation 8438c6e0b64e0064… (all of the seat's roots in one cut). By AI agents, Wed Nov 11 2026. No macro, syntax, notation, axiom, sorry.
-/
import Derived.Test.YtkdicklkghgdpaaChecked
import GoSem.Claim
import GoSem.ClaimJoined
import GoSem.ClaimMapViews
import Derived.JoinedTies
import Derived.KernelRfl
namespace Go.Proofs.Ytkdicklkghgdpaa
/- THE CELL 'sum', in the pinned program and in every row, IS THE sha256 OF THE DUMP (.gsa) THAT YtkdicklkghgdpaaProg.lean LOADS. Nothing in Lean hashes anything: it is a label: what it is worth is what the hold of that sum in a sandbox is worth. -/
noncomputable def Try.pinned : Pinned := { name := "ytkdicklkghgdpaa", sum := "8438c6e0b64e0064b2eda5cf486f6e874d4c5758d8d069391db67e4eba15f07d", checked := Try.checked }
namespace Rows
def none {H : Type} : Left H := { results := [], args := [] }

/-- 'tidewracklaw22.NetRoom': WHATEVER THE INPUT: true; the input reads as it did. -/
def netRoomSpec : ChangeSpec := { name := "netRoom", fn := fun _ => fun
  | [d1, d2, d3, d4, d5] => { results := [.lit (.bool true)], args := [d1, d2, d3, d4, d5] }
  | _ => none }
def netRoomRow : OpenClaim := { program := "ytkdicklkghgdpaa", sum := "8438c6e0b64e0064b2eda5cf486f6e874d4c5758d8d069391db67e4eba15f07d", func := "tidewrack/tidewracklaw22.NetRoom", spec := "netRoom", unfollowed := true, recurses := true, apart := false }
def NetRoomSaid : Prop := netRoomRow.holds Try.pinned (OpenSpec.ofChange netRoomSpec)

/-- ITS FALSE NEIGHBOUR: 'it returns false'. Refute it at one input. -/
def netRoomWrong : ChangeSpec := { name := "netRoom", fn := fun _ => fun
  | [d1, d2, d3, d4, d5] => { results := [.lit (.bool false)], args := [d1, d2, d3, d4, d5] }
  | _ => none }
def NetRoomWrongFalsely : Prop := netRoomRow.holds Try.pinned (OpenSpec.ofChange netRoomWrong)

/-- 'tidewracklaw22.NetOnce': WHATEVER THE INPUT: true; the input reads as it did. -/
def netOnceSpec : ChangeSpec := { name := "netOnce", fn := fun _ => fun
  | [d1, d2] => { results := [.lit (.bool true)], args := [d1, d2] }
  | _ => none }
def netOnceRow : OpenClaim := { program := "ytkdicklkghgdpaa", sum := "8438c6e0b64e0064b2eda5cf486f6e874d4c5758d8d069391db67e4eba15f07d", func := "tidewrack/tidewracklaw22.NetOnce", spec := "netOnce", unfollowed := true, recurses := true, apart := false }
def NetOnceSaid : Prop := netOnceRow.holds Try.pinned (OpenSpec.ofChange netOnceSpec)

/-- ITS FALSE NEIGHBOUR: 'it returns false'. Refute it at one input. -/
def netOnceWrong : ChangeSpec := { name := "netOnce", fn := fun _ => fun
  | [d1, d2] => { results := [.lit (.bool false)], args := [d1, d2] }
  | _ => none }
def NetOnceWrongFalsely : Prop := netOnceRow.holds Try.pinned (OpenSpec.ofChange netOnceWrong)

/-- 'tidewracklaw22.NetCalls': WHATEVER THE INPUT: true; the input reads as it did. -/
def netCallsSpec : ChangeSpec := { name := "netCalls", fn := fun _ => fun
  | [d1, d2, d3] => { results := [.lit (.bool true)], args := [d1, d2, d3] }
  | _ => none }
def netCallsRow : OpenClaim := { program := "ytkdicklkghgdpaa", sum := "8438c6e0b64e0064b2eda5cf486f6e874d4c5758d8d069391db67e4eba15f07d", func := "tidewrack/tidewracklaw22.NetCalls", spec := "netCalls", inPlace := ["maps.clone"], unfollowed := true, recurses := true, apart := false }
def NetCallsSaid : Prop := netCallsRow.holds Try.pinned (OpenSpec.ofChange netCallsSpec)

/-- ITS FALSE NEIGHBOUR: 'it returns false'. Refute it at one input. -/
def netCallsWrong : ChangeSpec := { name := "netCalls", fn := fun _ => fun
  | [d1, d2, d3] => { results := [.lit (.bool false)], args := [d1, d2, d3] }
  | _ => none }
def NetCallsWrongFalsely : Prop := netCallsRow.holds Try.pinned (OpenSpec.ofChange netCallsWrong)

/-- 'tidewracklaw22.NetNobody': WHATEVER THE INPUT: true; the input reads as it did. -/
def netNobodySpec : ChangeSpec := { name := "netNobody", fn := fun _ => fun
  | [d] => { results := [.lit (.bool true)], args := [d] }
  | _ => none }
def netNobodyRow : OpenClaim := { program := "ytkdicklkghgdpaa", sum := "8438c6e0b64e0064b2eda5cf486f6e874d4c5758d8d069391db67e4eba15f07d", func := "tidewrack/tidewracklaw22.NetNobody", spec := "netNobody", inPlace := ["maps.clone"], unfollowed := true, recurses := true, apart := false }
def NetNobodySaid : Prop := netNobodyRow.holds Try.pinned (OpenSpec.ofChange netNobodySpec)

/-- ITS FALSE NEIGHBOUR: 'it returns false'. Refute it at one input. -/
def netNobodyWrong : ChangeSpec := { name := "netNobody", fn := fun _ => fun
  | [d] => { results := [.lit (.bool false)], args := [d] }
  | _ => none }
def NetNobodyWrongFalsely : Prop := netNobodyRow.holds Try.pinned (OpenSpec.ofChange netNobodyWrong)

/-- 'tidewracklaw22.NetBag': WHATEVER THE INPUT: true; the input reads as it did. -/
def netBagSpec : ChangeSpec := { name := "netBag", fn := fun _ => fun
  | [d1, d2, d3] => { results := [.lit (.bool true)], args := [d1, d2, d3] }
  | _ => none }
def netBagRow : OpenClaim := { program := "ytkdicklkghgdpaa", sum := "8438c6e0b64e0064b2eda5cf486f6e874d4c5758d8d069391db67e4eba15f07d", func := "tidewrack/tidewracklaw22.NetBag", spec := "netBag", inPlace := ["maps.clone"], unfollowed := true, recurses := true, apart := false }
def NetBagSaid : Prop := netBagRow.holds Try.pinned (OpenSpec.ofChange netBagSpec)

/-- ITS FALSE NEIGHBOUR: 'it returns false'. Refute it at one input. -/
def netBagWrong : ChangeSpec := { name := "netBag", fn := fun _ => fun
  | [d1, d2, d3] => { results := [.lit (.bool false)], args := [d1, d2, d3] }
  | _ => none }
def NetBagWrongFalsely : Prop := netBagRow.holds Try.pinned (OpenSpec.ofChange netBagWrong)

/- THE SECOND FORM. 'bulk': how many values and letters a reading holds, each counted each time it is reached (what is shared counts as often as it is met; a slice's spare places count too). A statement '..UptoSaid' is the law's where the arguments, and the package variables that the reading takes, are together of bulk at most 1048576: NARROWER than '..Said'. Prove '..Said' where nothing that the law and all that it calls make is longer than what came in: it says more and counts as full. Else prove '..UptoSaid'. A law counts once. -/
mutual
def uptoBulk {H : Type} : DataW H → Nat
  | .lit (.string bytes) => bytes.length + 1
  | .lit _ => 1
  | .nil => 1
  | .ptr d => uptoBulk d + 1
  | .slice elems spare => uptoBulkAll elems + uptoBulkAll spare + 1
  | .agg parts => uptoBulkAll parts + 1
  | .iface _ d => uptoBulk d + 1
  | .map entries => uptoBulkEntries entries + 1
  | .held _ => 1
def uptoBulkAll {H : Type} : List (DataW H) → Nat
  | [] => 0
  | d :: r => uptoBulk d + uptoBulkAll r
def uptoBulkEntries {H : Type} : List (Lit × DataW H) → Nat
  | [] => 0
  | x :: r => uptoBulkEntry x + uptoBulkEntries r
def uptoBulkEntry {H : Type} : Lit × DataW H → Nat
  | (.string bytes, d) => bytes.length + uptoBulk d + 1
  | (_, d) => uptoBulk d + 1
 end
def uptoSmall : (H : Type) → List (DataW H) → Bool := fun _ ds => decide (uptoBulkAll ds ≤ 1048576)
def OpenSpec.upto (s : _root_.Go.ChangeSpec) : _root_.Go.OpenSpec := { _root_.Go.OpenSpec.ofChange s with cond := some uptoSmall }

/-- 'tidewracklaw22.NetRoom', WHERE WHAT IT READS IS OF BULK AT MOST 1048576: true; the input reads as it did. -/
def netRoomUptoRow : OpenClaim := { program := "ytkdicklkghgdpaa", sum := "8438c6e0b64e0064b2eda5cf486f6e874d4c5758d8d069391db67e4eba15f07d", func := "tidewrack/tidewracklaw22.NetRoom", spec := "netRoom", unfollowed := true, recurses := true, apart := false, narrowed := true }
def NetRoomUptoSaid : Prop := netRoomUptoRow.holds Try.pinned (OpenSpec.upto netRoomSpec)

/-- 'tidewracklaw22.NetOnce', WHERE WHAT IT READS IS OF BULK AT MOST 1048576: true; the input reads as it did. -/
def netOnceUptoRow : OpenClaim := { program := "ytkdicklkghgdpaa", sum := "8438c6e0b64e0064b2eda5cf486f6e874d4c5758d8d069391db67e4eba15f07d", func := "tidewrack/tidewracklaw22.NetOnce", spec := "netOnce", unfollowed := true, recurses := true, apart := false, narrowed := true }
def NetOnceUptoSaid : Prop := netOnceUptoRow.holds Try.pinned (OpenSpec.upto netOnceSpec)

/-- 'tidewracklaw22.NetCalls', WHERE WHAT IT READS IS OF BULK AT MOST 1048576: true; the input reads as it did. -/
def netCallsUptoRow : OpenClaim := { program := "ytkdicklkghgdpaa", sum := "8438c6e0b64e0064b2eda5cf486f6e874d4c5758d8d069391db67e4eba15f07d", func := "tidewrack/tidewracklaw22.NetCalls", spec := "netCalls", inPlace := ["maps.clone"], unfollowed := true, recurses := true, apart := false, narrowed := true }
def NetCallsUptoSaid : Prop := netCallsUptoRow.holds Try.pinned (OpenSpec.upto netCallsSpec)

/-- 'tidewracklaw22.NetNobody', WHERE WHAT IT READS IS OF BULK AT MOST 1048576: true; the input reads as it did. -/
def netNobodyUptoRow : OpenClaim := { program := "ytkdicklkghgdpaa", sum := "8438c6e0b64e0064b2eda5cf486f6e874d4c5758d8d069391db67e4eba15f07d", func := "tidewrack/tidewracklaw22.NetNobody", spec := "netNobody", inPlace := ["maps.clone"], unfollowed := true, recurses := true, apart := false, narrowed := true }
def NetNobodyUptoSaid : Prop := netNobodyUptoRow.holds Try.pinned (OpenSpec.upto netNobodySpec)

/-- 'tidewracklaw22.NetBag', WHERE WHAT IT READS IS OF BULK AT MOST 1048576: true; the input reads as it did. -/
def netBagUptoRow : OpenClaim := { program := "ytkdicklkghgdpaa", sum := "8438c6e0b64e0064b2eda5cf486f6e874d4c5758d8d069391db67e4eba15f07d", func := "tidewrack/tidewracklaw22.NetBag", spec := "netBag", inPlace := ["maps.clone"], unfollowed := true, recurses := true, apart := false, narrowed := true }
def NetBagUptoSaid : Prop := netBagUptoRow.holds Try.pinned (OpenSpec.upto netBagSpec)

end Rows
end Go.Proofs.Ytkdicklkghgdpaa
