/-
  NARROWER THAN 'FOR EVERY INPUT', by the rows' own cells (each row's printed sentence says how): KeysMerges: laid · KeysNumbers: laid · KeysTwo: laid · KeysRow: laid · KeysPlays: laid · KeysNobody: laid.
  DERIVED. THE GIVEN ROWS OF THIS SEAT. 6 by the template 'for every input the law returns true; each argument reads behind the call as it read before'; 0 by the template 'total and deterministic' (their statements: YtepifllifhikiaaDoorTotals.lean).
  GIVEN WITH THE SEED: the statements are not yours to turn. If you find one false, say at which input.
  Laid BY PROGRAM, IN A SANDBOX (cutbox-rows.mjs): the forced cells as the released guide's own fill.sh prints them over the translation f160f6152dc42c47… (all of the seat's roots in one cut). By AI agents, Wed Nov 11 2026. No macro, syntax, notation, axiom, sorry.
-/
import Derived.Test.YtepifllifhikiaaDoorChecked
import GoSem.Claim
import GoSem.ClaimJoined
import GoSem.ClaimMapViews
import Derived.JoinedTies
import Derived.KernelRfl
namespace Go.Proofs.YtepifllifhikiaaDoor
/- THE CELL 'sum', in the pinned program and in every row, IS THE sha256 OF THE DUMP (.gsa) THAT YtepifllifhikiaaDoorProg.lean LOADS. Nothing in Lean hashes anything: it is a label: what it is worth is what the hold of that sum in a sandbox is worth. -/
noncomputable def Tryd.pinned : Pinned := { name := "ytepifllifhikiaadoor", sum := "f160f6152dc42c47985ba71d7ba4b50eef6314cfc53ec8a8f56c05de27a2d31f", checked := Tryd.checked }
namespace Rows
def none {H : Type} : Left H := { results := [], args := [] }

/- WHAT THE LISTED PACKAGE-LEVEL VARIABLES READ AS WHEN THE CALL BEGINS. Each datum BY PROGRAM (the guide's laid-datum.mjs) off the statement by which the dump's own 'gosem.cut.vars' lays the variable. In a bare row this is a premise. The card (YtepifllifhikiaaDoorCards.lean) ties it to the program's text. -/
def laid_math_bits_deBruijn32tab {H : Type} : DataW H := .agg [.lit (.int .u8 0), .lit (.int .u8 1), .lit (.int .u8 28), .lit (.int .u8 2), .lit (.int .u8 29), .lit (.int .u8 14), .lit (.int .u8 24), .lit (.int .u8 3), .lit (.int .u8 30), .lit (.int .u8 22), .lit (.int .u8 20), .lit (.int .u8 15), .lit (.int .u8 25), .lit (.int .u8 17), .lit (.int .u8 4), .lit (.int .u8 8), .lit (.int .u8 31), .lit (.int .u8 27), .lit (.int .u8 13), .lit (.int .u8 23), .lit (.int .u8 21), .lit (.int .u8 19), .lit (.int .u8 16), .lit (.int .u8 7), .lit (.int .u8 26), .lit (.int .u8 12), .lit (.int .u8 18), .lit (.int .u8 6), .lit (.int .u8 11), .lit (.int .u8 5), .lit (.int .u8 10), .lit (.int .u8 9)]
def laid_math_bits_deBruijn64tab {H : Type} : DataW H := .agg [.lit (.int .u8 0), .lit (.int .u8 1), .lit (.int .u8 56), .lit (.int .u8 2), .lit (.int .u8 57), .lit (.int .u8 49), .lit (.int .u8 28), .lit (.int .u8 3), .lit (.int .u8 61), .lit (.int .u8 58), .lit (.int .u8 42), .lit (.int .u8 50), .lit (.int .u8 38), .lit (.int .u8 29), .lit (.int .u8 17), .lit (.int .u8 4), .lit (.int .u8 62), .lit (.int .u8 47), .lit (.int .u8 59), .lit (.int .u8 36), .lit (.int .u8 45), .lit (.int .u8 43), .lit (.int .u8 51), .lit (.int .u8 22), .lit (.int .u8 53), .lit (.int .u8 39), .lit (.int .u8 33), .lit (.int .u8 30), .lit (.int .u8 24), .lit (.int .u8 18), .lit (.int .u8 12), .lit (.int .u8 5), .lit (.int .u8 63), .lit (.int .u8 55), .lit (.int .u8 48), .lit (.int .u8 27), .lit (.int .u8 60), .lit (.int .u8 41), .lit (.int .u8 37), .lit (.int .u8 16), .lit (.int .u8 46), .lit (.int .u8 35), .lit (.int .u8 44), .lit (.int .u8 21), .lit (.int .u8 52), .lit (.int .u8 32), .lit (.int .u8 23), .lit (.int .u8 11), .lit (.int .u8 54), .lit (.int .u8 26), .lit (.int .u8 40), .lit (.int .u8 15), .lit (.int .u8 34), .lit (.int .u8 20), .lit (.int .u8 31), .lit (.int .u8 10), .lit (.int .u8 25), .lit (.int .u8 14), .lit (.int .u8 19), .lit (.int .u8 9), .lit (.int .u8 13), .lit (.int .u8 8), .lit (.int .u8 7), .lit (.int .u8 6)]
def laid_internal_strconv_uint64pow10 {H : Type} : DataW H := .agg [.lit (.int .u64 1), .lit (.int .u64 10), .lit (.int .u64 100), .lit (.int .u64 1000), .lit (.int .u64 10000), .lit (.int .u64 100000), .lit (.int .u64 1000000), .lit (.int .u64 10000000), .lit (.int .u64 100000000), .lit (.int .u64 1000000000), .lit (.int .u64 10000000000), .lit (.int .u64 100000000000), .lit (.int .u64 1000000000000), .lit (.int .u64 10000000000000), .lit (.int .u64 100000000000000), .lit (.int .u64 1000000000000000), .lit (.int .u64 10000000000000000), .lit (.int .u64 100000000000000000), .lit (.int .u64 1000000000000000000), .lit (.int .u64 10000000000000000000)]

/-- 'tidewracklaw12.KeysMerges': WHATEVER THE INPUT: true; the input reads as it did. -/
def keysMergesSpec : ChangeSpec := { name := "keysMerges", fn := fun _ => fun
  | [d1, d2] => { results := [.lit (.bool true)], args := [d1, d2] }
  | _ => none }
def keysMergesRow : OpenClaim := { program := "ytepifllifhikiaadoor", sum := "f160f6152dc42c47985ba71d7ba4b50eef6314cfc53ec8a8f56c05de27a2d31f", func := "tidewrack/tidewracklaw12.KeysMerges", spec := "keysMerges", inPlace := ["internal/bytealg.abigen_runtime_cmpstring", "slices.overlaps[tidewrack/keys.entry[int]]", "internal/abi.NoEscape", "internal/bytealg.MakeNoZero"], unfollowed := true, recurses := true, named := ["internal/strconv.uint64pow10", "math/bits.deBruijn32tab", "math/bits.deBruijn64tab"], apart := false, laid := [("math/bits.deBruijn32tab", laid_math_bits_deBruijn32tab), ("math/bits.deBruijn64tab", laid_math_bits_deBruijn64tab), ("internal/strconv.uint64pow10", laid_internal_strconv_uint64pow10)] }
def KeysMergesSaid : Prop := keysMergesRow.holds Tryd.pinned (OpenSpec.ofChange keysMergesSpec)

/-- ITS FALSE NEIGHBOUR: 'it returns false'. Refute it at one input. -/
def keysMergesWrong : ChangeSpec := { name := "keysMerges", fn := fun _ => fun
  | [d1, d2] => { results := [.lit (.bool false)], args := [d1, d2] }
  | _ => none }
def KeysMergesWrongFalsely : Prop := keysMergesRow.holds Tryd.pinned (OpenSpec.ofChange keysMergesWrong)

/-- 'tidewracklaw12.KeysNumbers': WHATEVER THE INPUT: true; the input reads as it did. -/
def keysNumbersSpec : ChangeSpec := { name := "keysNumbers", fn := fun _ => fun
  | [d1, d2] => { results := [.lit (.bool true)], args := [d1, d2] }
  | _ => none }
def keysNumbersRow : OpenClaim := { program := "ytepifllifhikiaadoor", sum := "f160f6152dc42c47985ba71d7ba4b50eef6314cfc53ec8a8f56c05de27a2d31f", func := "tidewrack/tidewracklaw12.KeysNumbers", spec := "keysNumbers", inPlace := ["internal/abi.NoEscape", "internal/bytealg.MakeNoZero", "internal/bytealg.abigen_runtime_cmpstring", "slices.overlaps[tidewrack/keys.entry[int]]"], unfollowed := true, recurses := true, named := ["internal/strconv.uint64pow10", "math/bits.deBruijn32tab", "math/bits.deBruijn64tab"], apart := false, laid := [("math/bits.deBruijn32tab", laid_math_bits_deBruijn32tab), ("math/bits.deBruijn64tab", laid_math_bits_deBruijn64tab), ("internal/strconv.uint64pow10", laid_internal_strconv_uint64pow10)] }
def KeysNumbersSaid : Prop := keysNumbersRow.holds Tryd.pinned (OpenSpec.ofChange keysNumbersSpec)

/-- ITS FALSE NEIGHBOUR: 'it returns false'. Refute it at one input. -/
def keysNumbersWrong : ChangeSpec := { name := "keysNumbers", fn := fun _ => fun
  | [d1, d2] => { results := [.lit (.bool false)], args := [d1, d2] }
  | _ => none }
def KeysNumbersWrongFalsely : Prop := keysNumbersRow.holds Tryd.pinned (OpenSpec.ofChange keysNumbersWrong)

/-- 'tidewracklaw12.KeysTwo': WHATEVER THE INPUT: true; the input reads as it did. -/
def keysTwoSpec : ChangeSpec := { name := "keysTwo", fn := fun _ => fun
  | [d1, d2] => { results := [.lit (.bool true)], args := [d1, d2] }
  | _ => none }
def keysTwoRow : OpenClaim := { program := "ytepifllifhikiaadoor", sum := "f160f6152dc42c47985ba71d7ba4b50eef6314cfc53ec8a8f56c05de27a2d31f", func := "tidewrack/tidewracklaw12.KeysTwo", spec := "keysTwo", inPlace := ["internal/bytealg.abigen_runtime_cmpstring", "slices.overlaps[tidewrack/keys.entry[int]]", "internal/abi.NoEscape", "internal/bytealg.MakeNoZero"], unfollowed := true, recurses := true, named := ["internal/strconv.uint64pow10", "math/bits.deBruijn32tab", "math/bits.deBruijn64tab"], apart := false, laid := [("math/bits.deBruijn32tab", laid_math_bits_deBruijn32tab), ("math/bits.deBruijn64tab", laid_math_bits_deBruijn64tab), ("internal/strconv.uint64pow10", laid_internal_strconv_uint64pow10)] }
def KeysTwoSaid : Prop := keysTwoRow.holds Tryd.pinned (OpenSpec.ofChange keysTwoSpec)

/-- ITS FALSE NEIGHBOUR: 'it returns false'. Refute it at one input. -/
def keysTwoWrong : ChangeSpec := { name := "keysTwo", fn := fun _ => fun
  | [d1, d2] => { results := [.lit (.bool false)], args := [d1, d2] }
  | _ => none }
def KeysTwoWrongFalsely : Prop := keysTwoRow.holds Tryd.pinned (OpenSpec.ofChange keysTwoWrong)

/-- 'tidewracklaw12.KeysRow': WHATEVER THE INPUT: true; the input reads as it did. -/
def keysRowSpec : ChangeSpec := { name := "keysRow", fn := fun _ => fun
  | [d1, d2, d3] => { results := [.lit (.bool true)], args := [d1, d2, d3] }
  | _ => none }
def keysRowRow : OpenClaim := { program := "ytepifllifhikiaadoor", sum := "f160f6152dc42c47985ba71d7ba4b50eef6314cfc53ec8a8f56c05de27a2d31f", func := "tidewrack/tidewracklaw12.KeysRow", spec := "keysRow", inPlace := ["internal/bytealg.abigen_runtime_cmpstring", "slices.overlaps[tidewrack/keys.entry[int]]", "internal/abi.NoEscape", "internal/bytealg.MakeNoZero"], unfollowed := true, recurses := true, named := ["internal/strconv.uint64pow10", "math/bits.deBruijn32tab", "math/bits.deBruijn64tab"], apart := false, laid := [("math/bits.deBruijn32tab", laid_math_bits_deBruijn32tab), ("math/bits.deBruijn64tab", laid_math_bits_deBruijn64tab), ("internal/strconv.uint64pow10", laid_internal_strconv_uint64pow10)] }
def KeysRowSaid : Prop := keysRowRow.holds Tryd.pinned (OpenSpec.ofChange keysRowSpec)

/-- ITS FALSE NEIGHBOUR: 'it returns false'. Refute it at one input. -/
def keysRowWrong : ChangeSpec := { name := "keysRow", fn := fun _ => fun
  | [d1, d2, d3] => { results := [.lit (.bool false)], args := [d1, d2, d3] }
  | _ => none }
def KeysRowWrongFalsely : Prop := keysRowRow.holds Tryd.pinned (OpenSpec.ofChange keysRowWrong)

/-- 'tidewracklaw12.KeysPlays': WHATEVER THE INPUT: true; the input reads as it did. -/
def keysPlaysSpec : ChangeSpec := { name := "keysPlays", fn := fun _ => fun
  | [d] => { results := [.lit (.bool true)], args := [d] }
  | _ => none }
def keysPlaysRow : OpenClaim := { program := "ytepifllifhikiaadoor", sum := "f160f6152dc42c47985ba71d7ba4b50eef6314cfc53ec8a8f56c05de27a2d31f", func := "tidewrack/tidewracklaw12.KeysPlays", spec := "keysPlays", inPlace := ["internal/bytealg.abigen_runtime_cmpstring", "slices.overlaps[tidewrack/keys.entry[int]]", "internal/abi.NoEscape", "internal/bytealg.MakeNoZero"], unfollowed := true, recurses := true, named := ["internal/strconv.uint64pow10", "math/bits.deBruijn32tab", "math/bits.deBruijn64tab"], apart := false, laid := [("math/bits.deBruijn32tab", laid_math_bits_deBruijn32tab), ("math/bits.deBruijn64tab", laid_math_bits_deBruijn64tab), ("internal/strconv.uint64pow10", laid_internal_strconv_uint64pow10)] }
def KeysPlaysSaid : Prop := keysPlaysRow.holds Tryd.pinned (OpenSpec.ofChange keysPlaysSpec)

/-- ITS FALSE NEIGHBOUR: 'it returns false'. Refute it at one input. -/
def keysPlaysWrong : ChangeSpec := { name := "keysPlays", fn := fun _ => fun
  | [d] => { results := [.lit (.bool false)], args := [d] }
  | _ => none }
def KeysPlaysWrongFalsely : Prop := keysPlaysRow.holds Tryd.pinned (OpenSpec.ofChange keysPlaysWrong)

/-- 'tidewracklaw12.KeysNobody': WHATEVER THE INPUT: true; the input reads as it did. -/
def keysNobodySpec : ChangeSpec := { name := "keysNobody", fn := fun _ => fun
  | [d] => { results := [.lit (.bool true)], args := [d] }
  | _ => none }
def keysNobodyRow : OpenClaim := { program := "ytepifllifhikiaadoor", sum := "f160f6152dc42c47985ba71d7ba4b50eef6314cfc53ec8a8f56c05de27a2d31f", func := "tidewrack/tidewracklaw12.KeysNobody", spec := "keysNobody", inPlace := ["internal/bytealg.abigen_runtime_cmpstring", "slices.overlaps[tidewrack/keys.entry[int]]", "internal/abi.NoEscape", "internal/bytealg.MakeNoZero"], unfollowed := true, recurses := true, named := ["internal/strconv.uint64pow10", "math/bits.deBruijn32tab", "math/bits.deBruijn64tab"], apart := false, laid := [("math/bits.deBruijn32tab", laid_math_bits_deBruijn32tab), ("math/bits.deBruijn64tab", laid_math_bits_deBruijn64tab), ("internal/strconv.uint64pow10", laid_internal_strconv_uint64pow10)] }
def KeysNobodySaid : Prop := keysNobodyRow.holds Tryd.pinned (OpenSpec.ofChange keysNobodySpec)

/-- ITS FALSE NEIGHBOUR: 'it returns false'. Refute it at one input. -/
def keysNobodyWrong : ChangeSpec := { name := "keysNobody", fn := fun _ => fun
  | [d] => { results := [.lit (.bool false)], args := [d] }
  | _ => none }
def KeysNobodyWrongFalsely : Prop := keysNobodyRow.holds Tryd.pinned (OpenSpec.ofChange keysNobodyWrong)

/- THE SECOND FORM. 'bulk': how many values and letters a reading holds, each counted each time it is reached (what is shared counts as often as it is met; a slice's spare places count too). A statement '..UptoSaid' is the law's where the arguments, and the package variables that the reading takes, are together of bulk at most 1048576: NARROWER than '..Said'. Prove '..Said' where nothing that the law and all that it calls make is longer than what came in: it says more and counts as full. Else prove '..UptoSaid'. A law counts once. -/
mutual
def uptoBulk {H : Type} : DataW H → Nat
  | .lit (.string bytes) => bytes.length + 1
  | .lit _ => 1
  | .nil => 1
  | .ptr d => uptoBulk d + 1
  | .slice elems spare => uptoBulkAll elems + uptoBulkAll spare + 1
  | .agg parts => uptoBulkAll parts + 1
  | .iface _ d => uptoBulk d + 1
  | .map entries => uptoBulkEntries entries + 1
  | .held _ => 1
def uptoBulkAll {H : Type} : List (DataW H) → Nat
  | [] => 0
  | d :: r => uptoBulk d + uptoBulkAll r
def uptoBulkEntries {H : Type} : List (Lit × DataW H) → Nat
  | [] => 0
  | x :: r => uptoBulkEntry x + uptoBulkEntries r
def uptoBulkEntry {H : Type} : Lit × DataW H → Nat
  | (.string bytes, d) => bytes.length + uptoBulk d + 1
  | (_, d) => uptoBulk d + 1
 end
def uptoSmall : (H : Type) → List (DataW H) → Bool := fun _ ds => decide (uptoBulkAll ds ≤ 1048576)
def OpenSpec.upto (s : _root_.Go.ChangeSpec) : _root_.Go.OpenSpec := { _root_.Go.OpenSpec.ofChange s with cond := some uptoSmall }

/-- 'tidewracklaw12.KeysMerges', WHERE WHAT IT READS IS OF BULK AT MOST 1048576: true; the input reads as it did. -/
def keysMergesUptoRow : OpenClaim := { program := "ytepifllifhikiaadoor", sum := "f160f6152dc42c47985ba71d7ba4b50eef6314cfc53ec8a8f56c05de27a2d31f", func := "tidewrack/tidewracklaw12.KeysMerges", spec := "keysMerges", inPlace := ["internal/bytealg.abigen_runtime_cmpstring", "slices.overlaps[tidewrack/keys.entry[int]]", "internal/abi.NoEscape", "internal/bytealg.MakeNoZero"], unfollowed := true, recurses := true, named := ["internal/strconv.uint64pow10", "math/bits.deBruijn32tab", "math/bits.deBruijn64tab"], apart := false, laid := [("math/bits.deBruijn32tab", laid_math_bits_deBruijn32tab), ("math/bits.deBruijn64tab", laid_math_bits_deBruijn64tab), ("internal/strconv.uint64pow10", laid_internal_strconv_uint64pow10)], narrowed := true }
def KeysMergesUptoSaid : Prop := keysMergesUptoRow.holds Tryd.pinned (OpenSpec.upto keysMergesSpec)

/-- 'tidewracklaw12.KeysNumbers', WHERE WHAT IT READS IS OF BULK AT MOST 1048576: true; the input reads as it did. -/
def keysNumbersUptoRow : OpenClaim := { program := "ytepifllifhikiaadoor", sum := "f160f6152dc42c47985ba71d7ba4b50eef6314cfc53ec8a8f56c05de27a2d31f", func := "tidewrack/tidewracklaw12.KeysNumbers", spec := "keysNumbers", inPlace := ["internal/abi.NoEscape", "internal/bytealg.MakeNoZero", "internal/bytealg.abigen_runtime_cmpstring", "slices.overlaps[tidewrack/keys.entry[int]]"], unfollowed := true, recurses := true, named := ["internal/strconv.uint64pow10", "math/bits.deBruijn32tab", "math/bits.deBruijn64tab"], apart := false, laid := [("math/bits.deBruijn32tab", laid_math_bits_deBruijn32tab), ("math/bits.deBruijn64tab", laid_math_bits_deBruijn64tab), ("internal/strconv.uint64pow10", laid_internal_strconv_uint64pow10)], narrowed := true }
def KeysNumbersUptoSaid : Prop := keysNumbersUptoRow.holds Tryd.pinned (OpenSpec.upto keysNumbersSpec)

/-- 'tidewracklaw12.KeysTwo', WHERE WHAT IT READS IS OF BULK AT MOST 1048576: true; the input reads as it did. -/
def keysTwoUptoRow : OpenClaim := { program := "ytepifllifhikiaadoor", sum := "f160f6152dc42c47985ba71d7ba4b50eef6314cfc53ec8a8f56c05de27a2d31f", func := "tidewrack/tidewracklaw12.KeysTwo", spec := "keysTwo", inPlace := ["internal/bytealg.abigen_runtime_cmpstring", "slices.overlaps[tidewrack/keys.entry[int]]", "internal/abi.NoEscape", "internal/bytealg.MakeNoZero"], unfollowed := true, recurses := true, named := ["internal/strconv.uint64pow10", "math/bits.deBruijn32tab", "math/bits.deBruijn64tab"], apart := false, laid := [("math/bits.deBruijn32tab", laid_math_bits_deBruijn32tab), ("math/bits.deBruijn64tab", laid_math_bits_deBruijn64tab), ("internal/strconv.uint64pow10", laid_internal_strconv_uint64pow10)], narrowed := true }
def KeysTwoUptoSaid : Prop := keysTwoUptoRow.holds Tryd.pinned (OpenSpec.upto keysTwoSpec)

/-- 'tidewracklaw12.KeysRow', WHERE WHAT IT READS IS OF BULK AT MOST 1048576: true; the input reads as it did. -/
def keysRowUptoRow : OpenClaim := { program := "ytepifllifhikiaadoor", sum := "f160f6152dc42c47985ba71d7ba4b50eef6314cfc53ec8a8f56c05de27a2d31f", func := "tidewrack/tidewracklaw12.KeysRow", spec := "keysRow", inPlace := ["internal/bytealg.abigen_runtime_cmpstring", "slices.overlaps[tidewrack/keys.entry[int]]", "internal/abi.NoEscape", "internal/bytealg.MakeNoZero"], unfollowed := true, recurses := true, named := ["internal/strconv.uint64pow10", "math/bits.deBruijn32tab", "math/bits.deBruijn64tab"], apart := false, laid := [("math/bits.deBruijn32tab", laid_math_bits_deBruijn32tab), ("math/bits.deBruijn64tab", laid_math_bits_deBruijn64tab), ("internal/strconv.uint64pow10", laid_internal_strconv_uint64pow10)], narrowed := true }
def KeysRowUptoSaid : Prop := keysRowUptoRow.holds Tryd.pinned (OpenSpec.upto keysRowSpec)

/-- 'tidewracklaw12.KeysPlays', WHERE WHAT IT READS IS OF BULK AT MOST 1048576: true; the input reads as it did. -/
def keysPlaysUptoRow : OpenClaim := { program := "ytepifllifhikiaadoor", sum := "f160f6152dc42c47985ba71d7ba4b50eef6314cfc53ec8a8f56c05de27a2d31f", func := "tidewrack/tidewracklaw12.KeysPlays", spec := "keysPlays", inPlace := ["internal/bytealg.abigen_runtime_cmpstring", "slices.overlaps[tidewrack/keys.entry[int]]", "internal/abi.NoEscape", "internal/bytealg.MakeNoZero"], unfollowed := true, recurses := true, named := ["internal/strconv.uint64pow10", "math/bits.deBruijn32tab", "math/bits.deBruijn64tab"], apart := false, laid := [("math/bits.deBruijn32tab", laid_math_bits_deBruijn32tab), ("math/bits.deBruijn64tab", laid_math_bits_deBruijn64tab), ("internal/strconv.uint64pow10", laid_internal_strconv_uint64pow10)], narrowed := true }
def KeysPlaysUptoSaid : Prop := keysPlaysUptoRow.holds Tryd.pinned (OpenSpec.upto keysPlaysSpec)

/-- 'tidewracklaw12.KeysNobody', WHERE WHAT IT READS IS OF BULK AT MOST 1048576: true; the input reads as it did. -/
def keysNobodyUptoRow : OpenClaim := { program := "ytepifllifhikiaadoor", sum := "f160f6152dc42c47985ba71d7ba4b50eef6314cfc53ec8a8f56c05de27a2d31f", func := "tidewrack/tidewracklaw12.KeysNobody", spec := "keysNobody", inPlace := ["internal/bytealg.abigen_runtime_cmpstring", "slices.overlaps[tidewrack/keys.entry[int]]", "internal/abi.NoEscape", "internal/bytealg.MakeNoZero"], unfollowed := true, recurses := true, named := ["internal/strconv.uint64pow10", "math/bits.deBruijn32tab", "math/bits.deBruijn64tab"], apart := false, laid := [("math/bits.deBruijn32tab", laid_math_bits_deBruijn32tab), ("math/bits.deBruijn64tab", laid_math_bits_deBruijn64tab), ("internal/strconv.uint64pow10", laid_internal_strconv_uint64pow10)], narrowed := true }
def KeysNobodyUptoSaid : Prop := keysNobodyUptoRow.holds Tryd.pinned (OpenSpec.upto keysNobodySpec)

end Rows
end Go.Proofs.YtepifllifhikiaaDoor
