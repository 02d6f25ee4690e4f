import Derived.Test.YtoeanjoenlghlaaDoorP05
set_option linter.unusedSimpArgs false
set_option linter.unusedVariables false
namespace Go.Proofs
open Go.Fw
theorem agg31 : aggT Tryd.prog 31 7 = true := by kernel_rfl
theorem agg61 : aggT Tryd.prog 61 8 = true := by kernel_rfl
theorem agg68 : aggT Tryd.prog 68 7 = true := by kernel_rfl
theorem agg76 : aggT Tryd.prog 76 2 = true := by kernel_rfl
theorem agg78 : aggT Tryd.prog 78 2 = true := by kernel_rfl
theorem agg87 : aggT Tryd.prog 87 2 = true := by kernel_rfl
theorem arr66 : arrT Tryd.prog 66 3 3 1 := ⟨Tryd.underlying66, by kernel_rfl⟩
theorem cal11 : Callable Tryd.prog 11 := ⟨_, Tryd.func11, by kernel_rfl, by kernel_rfl⟩
theorem cal112 : Callable Tryd.prog 112 := ⟨_, Tryd.func112, by kernel_rfl, by kernel_rfl⟩
theorem cal113 : Callable Tryd.prog 113 := ⟨_, Tryd.func113, by kernel_rfl, by kernel_rfl⟩
theorem cal114 : Callable Tryd.prog 114 := ⟨_, Tryd.func114, by kernel_rfl, by kernel_rfl⟩
theorem cal115 : Callable Tryd.prog 115 := ⟨_, Tryd.func115, by kernel_rfl, by kernel_rfl⟩
theorem cal116 : Callable Tryd.prog 116 := ⟨_, Tryd.func116, by kernel_rfl, by kernel_rfl⟩
theorem cal117 : Callable Tryd.prog 117 := ⟨_, Tryd.func117, by kernel_rfl, by kernel_rfl⟩
theorem cal118 : Callable Tryd.prog 118 := ⟨_, Tryd.func118, by kernel_rfl, by kernel_rfl⟩
theorem cal119 : Callable Tryd.prog 119 := ⟨_, Tryd.func119, by kernel_rfl, by kernel_rfl⟩
theorem cal12 : Callable Tryd.prog 12 := ⟨_, Tryd.func12, by kernel_rfl, by kernel_rfl⟩
theorem cal120 : Callable Tryd.prog 120 := ⟨_, Tryd.func120, by kernel_rfl, by kernel_rfl⟩
theorem cal121 : Callable Tryd.prog 121 := ⟨_, Tryd.func121, by kernel_rfl, by kernel_rfl⟩
theorem cal13 : Callable Tryd.prog 13 := ⟨_, Tryd.func13, by kernel_rfl, by kernel_rfl⟩
theorem cal14 : Callable Tryd.prog 14 := ⟨_, Tryd.func14, by kernel_rfl, by kernel_rfl⟩
theorem cal15 : Callable Tryd.prog 15 := ⟨_, Tryd.func15, by kernel_rfl, by kernel_rfl⟩
theorem cal16 : Callable Tryd.prog 16 := ⟨_, Tryd.func16, by kernel_rfl, by kernel_rfl⟩
theorem cal17 : Callable Tryd.prog 17 := ⟨_, Tryd.func17, by kernel_rfl, by kernel_rfl⟩
theorem cal18 : Callable Tryd.prog 18 := ⟨_, Tryd.func18, by kernel_rfl, by kernel_rfl⟩
theorem cal19 : Callable Tryd.prog 19 := ⟨_, Tryd.func19, by kernel_rfl, by kernel_rfl⟩
theorem cal20 : Callable Tryd.prog 20 := ⟨_, Tryd.func20, by kernel_rfl, by kernel_rfl⟩
theorem cal21 : Callable Tryd.prog 21 := ⟨_, Tryd.func21, by kernel_rfl, by kernel_rfl⟩
theorem cal22 : Callable Tryd.prog 22 := ⟨_, Tryd.func22, by kernel_rfl, by kernel_rfl⟩
theorem cal23 : Callable Tryd.prog 23 := ⟨_, Tryd.func23, by kernel_rfl, by kernel_rfl⟩
theorem cal24 : Callable Tryd.prog 24 := ⟨_, Tryd.func24, by kernel_rfl, by kernel_rfl⟩
theorem cal25 : Callable Tryd.prog 25 := ⟨_, Tryd.func25, by kernel_rfl, by kernel_rfl⟩
theorem cal26 : Callable Tryd.prog 26 := ⟨_, Tryd.func26, by kernel_rfl, by kernel_rfl⟩
theorem cal27 : Callable Tryd.prog 27 := ⟨_, Tryd.func27, by kernel_rfl, by kernel_rfl⟩
theorem cal28 : Callable Tryd.prog 28 := ⟨_, Tryd.func28, by kernel_rfl, by kernel_rfl⟩
theorem cal29 : Callable Tryd.prog 29 := ⟨_, Tryd.func29, by kernel_rfl, by kernel_rfl⟩
theorem cal30 : Callable Tryd.prog 30 := ⟨_, Tryd.func30, by kernel_rfl, by kernel_rfl⟩
theorem cal31 : Callable Tryd.prog 31 := ⟨_, Tryd.func31, by kernel_rfl, by kernel_rfl⟩
theorem cal32 : Callable Tryd.prog 32 := ⟨_, Tryd.func32, by kernel_rfl, by kernel_rfl⟩
theorem cal33 : Callable Tryd.prog 33 := ⟨_, Tryd.func33, by kernel_rfl, by kernel_rfl⟩
theorem cal34 : Callable Tryd.prog 34 := ⟨_, Tryd.func34, by kernel_rfl, by kernel_rfl⟩
theorem cal35 : Callable Tryd.prog 35 := ⟨_, Tryd.func35, by kernel_rfl, by kernel_rfl⟩
theorem cal36 : Callable Tryd.prog 36 := ⟨_, Tryd.func36, by kernel_rfl, by kernel_rfl⟩
theorem cal37 : Callable Tryd.prog 37 := ⟨_, Tryd.func37, by kernel_rfl, by kernel_rfl⟩
theorem cal38 : Callable Tryd.prog 38 := ⟨_, Tryd.func38, by kernel_rfl, by kernel_rfl⟩
theorem cal39 : Callable Tryd.prog 39 := ⟨_, Tryd.func39, by kernel_rfl, by kernel_rfl⟩
theorem cal40 : Callable Tryd.prog 40 := ⟨_, Tryd.func40, by kernel_rfl, by kernel_rfl⟩
theorem cal41 : Callable Tryd.prog 41 := ⟨_, Tryd.func41, by kernel_rfl, by kernel_rfl⟩
theorem cal42 : Callable Tryd.prog 42 := ⟨_, Tryd.func42, by kernel_rfl, by kernel_rfl⟩
theorem cal43 : Callable Tryd.prog 43 := ⟨_, Tryd.func43, by kernel_rfl, by kernel_rfl⟩
theorem cal44 : Callable Tryd.prog 44 := ⟨_, Tryd.func44, by kernel_rfl, by kernel_rfl⟩
theorem cal45 : Callable Tryd.prog 45 := ⟨_, Tryd.func45, by kernel_rfl, by kernel_rfl⟩
theorem cal46 : Callable Tryd.prog 46 := ⟨_, Tryd.func46, by kernel_rfl, by kernel_rfl⟩
theorem cal47 : Callable Tryd.prog 47 := ⟨_, Tryd.func47, by kernel_rfl, by kernel_rfl⟩
theorem cal48 : Callable Tryd.prog 48 := ⟨_, Tryd.func48, by kernel_rfl, by kernel_rfl⟩
theorem cal49 : Callable Tryd.prog 49 := ⟨_, Tryd.func49, by kernel_rfl, by kernel_rfl⟩
theorem cal50 : Callable Tryd.prog 50 := ⟨_, Tryd.func50, by kernel_rfl, by kernel_rfl⟩
theorem cal51 : Callable Tryd.prog 51 := ⟨_, Tryd.func51, by kernel_rfl, by kernel_rfl⟩
theorem cal52 : Callable Tryd.prog 52 := ⟨_, Tryd.func52, by kernel_rfl, by kernel_rfl⟩
theorem cal53 : Callable Tryd.prog 53 := ⟨_, Tryd.func53, by kernel_rfl, by kernel_rfl⟩
theorem cal54 : Callable Tryd.prog 54 := ⟨_, Tryd.func54, by kernel_rfl, by kernel_rfl⟩
theorem cal55 : Callable Tryd.prog 55 := ⟨_, Tryd.func55, by kernel_rfl, by kernel_rfl⟩
theorem cal56 : Callable Tryd.prog 56 := ⟨_, Tryd.func56, by kernel_rfl, by kernel_rfl⟩
theorem cal57 : Callable Tryd.prog 57 := ⟨_, Tryd.func57, by kernel_rfl, by kernel_rfl⟩
theorem cal58 : Callable Tryd.prog 58 := ⟨_, Tryd.func58, by kernel_rfl, by kernel_rfl⟩
theorem cal59 : Callable Tryd.prog 59 := ⟨_, Tryd.func59, by kernel_rfl, by kernel_rfl⟩
theorem cal60 : Callable Tryd.prog 60 := ⟨_, Tryd.func60, by kernel_rfl, by kernel_rfl⟩
theorem cal61 : Callable Tryd.prog 61 := ⟨_, Tryd.func61, by kernel_rfl, by kernel_rfl⟩
theorem cal62 : Callable Tryd.prog 62 := ⟨_, Tryd.func62, by kernel_rfl, by kernel_rfl⟩
theorem cal63 : Callable Tryd.prog 63 := ⟨_, Tryd.func63, by kernel_rfl, by kernel_rfl⟩
theorem cal64 : Callable Tryd.prog 64 := ⟨_, Tryd.func64, by kernel_rfl, by kernel_rfl⟩
theorem cal65 : Callable Tryd.prog 65 := ⟨_, Tryd.func65, by kernel_rfl, by kernel_rfl⟩
theorem cal66 : Callable Tryd.prog 66 := ⟨_, Tryd.func66, by kernel_rfl, by kernel_rfl⟩
theorem cal67 : Callable Tryd.prog 67 := ⟨_, Tryd.func67, by kernel_rfl, by kernel_rfl⟩
theorem cal68 : Callable Tryd.prog 68 := ⟨_, Tryd.func68, by kernel_rfl, by kernel_rfl⟩
theorem cal69 : Callable Tryd.prog 69 := ⟨_, Tryd.func69, by kernel_rfl, by kernel_rfl⟩
theorem cal70 : Callable Tryd.prog 70 := ⟨_, Tryd.func70, by kernel_rfl, by kernel_rfl⟩
theorem cal71 : Callable Tryd.prog 71 := ⟨_, Tryd.func71, by kernel_rfl, by kernel_rfl⟩
theorem cal72 : Callable Tryd.prog 72 := ⟨_, Tryd.func72, by kernel_rfl, by kernel_rfl⟩
theorem cal73 : Callable Tryd.prog 73 := ⟨_, Tryd.func73, by kernel_rfl, by kernel_rfl⟩
theorem cal74 : Callable Tryd.prog 74 := ⟨_, Tryd.func74, by kernel_rfl, by kernel_rfl⟩
theorem conc100 : Program.concrete Tryd.prog 100 = true := by kernel_rfl
theorem conc101 : Program.concrete Tryd.prog 101 = true := by kernel_rfl
theorem conc78 : Program.concrete Tryd.prog 78 = true := by kernel_rfl
theorem conc98 : Program.concrete Tryd.prog 98 = true := by kernel_rfl
theorem elem29 : elemT Tryd.prog 29 5 1 1 (.int .u8 0) := elemT_of Tryd.underlying29 (by kernel_rfl) (by kernel_rfl) (by kernel_rfl) (by kernel_rfl) (by decide)
theorem elem46 : elemT Tryd.prog 46 9 1 16 (S []) := elemT_of Tryd.underlying46 (by kernel_rfl) (by kernel_rfl) (by kernel_rfl) (by kernel_rfl) (by decide)
theorem elem56 : elemT Tryd.prog 56 73 1 24 (.slice none 0 0) := elemT_of Tryd.underlying56 (by kernel_rfl) (by kernel_rfl) (by kernel_rfl) (by kernel_rfl) (by decide)
theorem elem57 : elemT Tryd.prog 57 81 1 16 (.nilIface) := elemT_of Tryd.underlying57 (by kernel_rfl) (by kernel_rfl) (by kernel_rfl) (by kernel_rfl) (by decide)
theorem elem64 : elemT Tryd.prog 64 65 1 24 (.slice none 0 0) := elemT_of Tryd.underlying64 (by kernel_rfl) (by kernel_rfl) (by kernel_rfl) (by kernel_rfl) (by decide)
theorem elem65 : elemT Tryd.prog 65 87 2 40 (.agg #[S [], .slice none 0 0]) := elemT_of Tryd.underlying65 (by kernel_rfl) (by kernel_rfl) (by kernel_rfl) (by kernel_rfl) (by decide)
theorem elem73 : elemT Tryd.prog 73 76 2 40 (.agg #[S [], .slice none 0 0]) := elemT_of Tryd.underlying73 (by kernel_rfl) (by kernel_rfl) (by kernel_rfl) (by kernel_rfl) (by decide)
theorem fld100_0 : fieldT Tryd.prog 100 0 = some 0 := by kernel_rfl
theorem fld31_0 : fieldT Tryd.prog 31 0 = some 0 := by kernel_rfl
theorem fld31_1 : fieldT Tryd.prog 31 1 = some 1 := by kernel_rfl
theorem fld31_2 : fieldT Tryd.prog 31 2 = some 2 := by kernel_rfl
theorem fld31_3 : fieldT Tryd.prog 31 3 = some 3 := by kernel_rfl
theorem fld31_4 : fieldT Tryd.prog 31 4 = some 4 := by kernel_rfl
theorem fld31_5 : fieldT Tryd.prog 31 5 = some 5 := by kernel_rfl
theorem fld31_6 : fieldT Tryd.prog 31 6 = some 6 := by kernel_rfl
theorem fld59_0 : fieldT Tryd.prog 59 0 = some 0 := by kernel_rfl
theorem fld59_1 : fieldT Tryd.prog 59 1 = some 1 := by kernel_rfl
theorem fld59_2 : fieldT Tryd.prog 59 2 = some 2 := by kernel_rfl
theorem fld61_0 : fieldT Tryd.prog 61 0 = some 0 := by kernel_rfl
theorem fld61_1 : fieldT Tryd.prog 61 1 = some 1 := by kernel_rfl
theorem fld61_2 : fieldT Tryd.prog 61 2 = some 2 := by kernel_rfl
theorem fld61_3 : fieldT Tryd.prog 61 3 = some 3 := by kernel_rfl
theorem fld61_4 : fieldT Tryd.prog 61 4 = some 4 := by kernel_rfl
theorem fld61_5 : fieldT Tryd.prog 61 5 = some 5 := by kernel_rfl
theorem fld68_0 : fieldT Tryd.prog 68 0 = some 0 := by kernel_rfl
theorem fld68_1 : fieldT Tryd.prog 68 1 = some 1 := by kernel_rfl
theorem fld68_2 : fieldT Tryd.prog 68 2 = some 2 := by kernel_rfl
theorem fld68_3 : fieldT Tryd.prog 68 3 = some 3 := by kernel_rfl
theorem fld68_4 : fieldT Tryd.prog 68 4 = some 4 := by kernel_rfl
theorem fld76_0 : fieldT Tryd.prog 76 0 = some 0 := by kernel_rfl
theorem fld76_1 : fieldT Tryd.prog 76 1 = some 1 := by kernel_rfl
theorem fld78_0 : fieldT Tryd.prog 78 0 = some 0 := by kernel_rfl
theorem fld87_0 : fieldT Tryd.prog 87 0 = some 0 := by kernel_rfl
theorem fld87_1 : fieldT Tryd.prog 87 1 = some 1 := by kernel_rfl
theorem fld98_0 : fieldT Tryd.prog 98 0 = some 0 := by kernel_rfl
theorem fld98_1 : fieldT Tryd.prog 98 1 = some 1 := by kernel_rfl
theorem meth100_next : methT Tryd.prog 100 "tidewrack/disk.next" 120 := fun _ _ => by kernel_rfl
theorem meth101_next : methT Tryd.prog 101 "tidewrack/disk.next" 121 := fun _ _ => by kernel_rfl
theorem meth78_next : methT Tryd.prog 78 "tidewrack/disk.next" 112 := fun _ _ => by kernel_rfl
theorem meth98_next : methT Tryd.prog 98 "tidewrack/disk.next" 119 := fun _ _ => by kernel_rfl
theorem mixed : Tryd.prog.follows .mixedOrders = true := by kernel_rfl
theorem nilA100_next : ∀ (u : Value) (w : World), (nilAhead (Tryd.prog.types.size + Made.depth) 100 u "tidewrack/disk.next").run Tryd.prog w = .ok (some false) w := fun _ _ => by kernel_rfl
theorem nilA101_next : ∀ (u : Value) (w : World), (nilAhead (Tryd.prog.types.size + Made.depth) 101 u "tidewrack/disk.next").run Tryd.prog w = .ok (some false) w := fun _ _ => by kernel_rfl
theorem nilA78_next : ∀ (u : Value) (w : World), (nilAhead (Tryd.prog.types.size + Made.depth) 78 u "tidewrack/disk.next").run Tryd.prog w = .ok (some false) w := fun _ _ => by kernel_rfl
theorem nilA98_next : ∀ (u : Value) (w : World), (nilAhead (Tryd.prog.types.size + Made.depth) 98 u "tidewrack/disk.next").run Tryd.prog w = .ok (some false) w := fun _ _ => by kernel_rfl
theorem noti78 : (∃ m, Tryd.prog.underlying 78 = some (.interface m)) → False := by rintro ⟨m, h⟩; rw [Tryd.underlying78] at h; cases h
theorem one23 : oneT Tryd.prog 23 = true := by kernel_rfl
theorem one29 : oneT Tryd.prog 29 = true := by kernel_rfl
theorem one3 : oneT Tryd.prog 3 = true := by kernel_rfl
theorem one4 : oneT Tryd.prog 4 = true := by kernel_rfl
theorem one46 : oneT Tryd.prog 46 = true := by kernel_rfl
theorem one5 : oneT Tryd.prog 5 = true := by kernel_rfl
theorem one56 : oneT Tryd.prog 56 = true := by kernel_rfl
theorem one57 : oneT Tryd.prog 57 = true := by kernel_rfl
theorem one64 : oneT Tryd.prog 64 = true := by kernel_rfl
theorem one65 : oneT Tryd.prog 65 = true := by kernel_rfl
theorem one73 : oneT Tryd.prog 73 = true := by kernel_rfl
theorem one81 : oneT Tryd.prog 81 = true := by kernel_rfl
theorem one9 : oneT Tryd.prog 9 = true := by kernel_rfl
theorem plc100 : placesT Tryd.prog 100 [(0, 2)] := ⟨_, Tryd.underlying100, fun _ => by kernel_rfl⟩
theorem plc59 : placesT Tryd.prog 59 [(0, 1), (1, 1), (2, 1)] := ⟨_, Tryd.underlying59, fun _ => by kernel_rfl⟩
theorem plc61 : placesT Tryd.prog 61 [(0, 1), (1, 1), (2, 1), (3, 1), (4, 1), (5, 3)] := ⟨_, Tryd.underlying61, fun _ => by kernel_rfl⟩
theorem plc68 : placesT Tryd.prog 68 [(0, 1), (1, 1), (2, 1), (3, 1), (4, 3)] := ⟨_, Tryd.underlying68, fun _ => by kernel_rfl⟩
theorem plc76 : placesT Tryd.prog 76 [(0, 1), (1, 1)] := ⟨_, Tryd.underlying76, fun _ => by kernel_rfl⟩
theorem plc78 : placesT Tryd.prog 78 [(0, 2)] := ⟨_, Tryd.underlying78, fun _ => by kernel_rfl⟩
theorem plc87 : placesT Tryd.prog 87 [(0, 1), (1, 1)] := ⟨_, Tryd.underlying87, fun _ => by kernel_rfl⟩
theorem plc98 : placesT Tryd.prog 98 [(0, 1), (1, 1)] := ⟨_, Tryd.underlying98, fun _ => by kernel_rfl⟩
theorem size23 : sizeT Tryd.prog 23 1 = true := by kernel_rfl
theorem size29 : sizeT Tryd.prog 29 1 = true := by kernel_rfl
theorem size3 : sizeT Tryd.prog 3 1 = true := by kernel_rfl
theorem size31 : sizeT Tryd.prog 31 7 = true := by kernel_rfl
theorem size4 : sizeT Tryd.prog 4 1 = true := by kernel_rfl
theorem size46 : sizeT Tryd.prog 46 1 = true := by kernel_rfl
theorem size5 : sizeT Tryd.prog 5 1 = true := by kernel_rfl
theorem size56 : sizeT Tryd.prog 56 1 = true := by kernel_rfl
theorem size57 : sizeT Tryd.prog 57 1 = true := by kernel_rfl
theorem size59 : sizeT Tryd.prog 59 3 = true := by kernel_rfl
theorem size61 : sizeT Tryd.prog 61 8 = true := by kernel_rfl
theorem size64 : sizeT Tryd.prog 64 1 = true := by kernel_rfl
theorem size65 : sizeT Tryd.prog 65 1 = true := by kernel_rfl
theorem size66 : sizeT Tryd.prog 66 3 = true := by kernel_rfl
theorem size68 : sizeT Tryd.prog 68 7 = true := by kernel_rfl
theorem size73 : sizeT Tryd.prog 73 1 = true := by kernel_rfl
theorem size76 : sizeT Tryd.prog 76 2 = true := by kernel_rfl
theorem size78 : sizeT Tryd.prog 78 2 = true := by kernel_rfl
theorem size81 : sizeT Tryd.prog 81 1 = true := by kernel_rfl
theorem size87 : sizeT Tryd.prog 87 2 = true := by kernel_rfl
theorem size9 : sizeT Tryd.prog 9 1 = true := by kernel_rfl
theorem slc154 : sliceT Tryd.prog 154 29 1 (.slice none 0 0) := ⟨Tryd.underlying154, by kernel_rfl, by kernel_rfl, by kernel_rfl, by decide⟩
theorem slc29 : sliceT Tryd.prog 29 5 1 (.int .u8 0) := ⟨Tryd.underlying29, by kernel_rfl, by kernel_rfl, by kernel_rfl, by decide⟩
theorem slc46 : sliceT Tryd.prog 46 9 1 (S []) := ⟨Tryd.underlying46, by kernel_rfl, by kernel_rfl, by kernel_rfl, by decide⟩
theorem slc56 : sliceT Tryd.prog 56 73 1 (.slice none 0 0) := ⟨Tryd.underlying56, by kernel_rfl, by kernel_rfl, by kernel_rfl, by decide⟩
theorem slc57 : sliceT Tryd.prog 57 81 1 (.nilIface) := ⟨Tryd.underlying57, by kernel_rfl, by kernel_rfl, by kernel_rfl, by decide⟩
theorem slc62 : sliceT Tryd.prog 62 23 1 (.pointer none) := ⟨Tryd.underlying62, by kernel_rfl, by kernel_rfl, by kernel_rfl, by decide⟩
theorem slc64 : sliceT Tryd.prog 64 65 1 (.slice none 0 0) := ⟨Tryd.underlying64, by kernel_rfl, by kernel_rfl, by kernel_rfl, by decide⟩
theorem slc65 : sliceT Tryd.prog 65 87 2 (.agg #[S [], .slice none 0 0]) := ⟨Tryd.underlying65, by kernel_rfl, by kernel_rfl, by kernel_rfl, by decide⟩
theorem slc73 : sliceT Tryd.prog 73 76 2 (.agg #[S [], .slice none 0 0]) := ⟨Tryd.underlying73, by kernel_rfl, by kernel_rfl, by kernel_rfl, by decide⟩
theorem zero100 : zeroT Tryd.prog 100 = some (.agg #[S [], .slice none 0 0]) := by kernel_rfl
theorem zero3 : zeroT Tryd.prog 3 = some (.int .i64 0) := by kernel_rfl
theorem zero31 : zeroT Tryd.prog 31 = some (.agg #[.int .i64 0, S [], S [], .slice none 0 0, .int .i64 0, .int .i64 0, .int .i64 0]) := by kernel_rfl
theorem zero46 : zeroT Tryd.prog 46 = some (.slice none 0 0) := by kernel_rfl
theorem zero59 : zeroT Tryd.prog 59 = some (.agg #[.int .i64 0, .int .i64 0, .int .i64 0]) := by kernel_rfl
theorem zero61 : zeroT Tryd.prog 61 = some (.agg #[.int .i64 0, .bool false, .bool false, .slice none 0 0, .slice none 0 0, .int .i64 0, .int .i64 0, .int .i64 0]) := by kernel_rfl
theorem zero66 : zeroT Tryd.prog 66 = some (.agg #[.int .i64 0, .int .i64 0, .int .i64 0]) := by kernel_rfl
theorem zero68 : zeroT Tryd.prog 68 = some (.agg #[.int .i64 0, .bool false, .slice none 0 0, .slice none 0 0, .int .i64 0, .int .i64 0, .int .i64 0]) := by kernel_rfl
theorem zero76 : zeroT Tryd.prog 76 = some (.agg #[S [], .slice none 0 0]) := by kernel_rfl
theorem zero78 : zeroT Tryd.prog 78 = some (.agg #[S [], .slice none 0 0]) := by kernel_rfl
theorem zero87 : zeroT Tryd.prog 87 = some (.agg #[S [], .slice none 0 0]) := by kernel_rfl
theorem zero98 : zeroT Tryd.prog 98 = some (.agg #[S [], S []]) := by kernel_rfl
theorem opnLaw05Call {s : St} {cs : List Value} {x : Law05Call} (h : RC s cs (dLaw05Call x)) : ∃ v3 : Value, cs = [.int .i64 x.Do, S x.A, S x.B, v3, .int .i64 x.K, .int .i64 x.N, .int .i64 x.M] ∧ R s v3 ((dL 1 bD) x.Bytes) := by
  obtain ⟨c1, r1, rfl, g1, e1⟩ := h.acons
  obtain rfl := g1.val_inv
  obtain ⟨c2, r2, rfl, g2, e2⟩ := e1.acons
  obtain rfl := g2.val_inv
  obtain ⟨c3, r3, rfl, g3, e3⟩ := e2.acons
  obtain rfl := g3.val_inv
  obtain ⟨c4, r4, rfl, g4, e4⟩ := e3.acons
  obtain ⟨v3, rfl, q3⟩ := g4.sl_inv
  obtain ⟨c5, r5, rfl, g5, e5⟩ := e4.acons
  obtain rfl := g5.val_inv
  obtain ⟨c6, r6, rfl, g6, e6⟩ := e5.acons
  obtain rfl := g6.val_inv
  obtain ⟨c7, r7, rfl, g7, e7⟩ := e6.acons
  obtain rfl := g7.val_inv
  obtain rfl := e7.anil
  exact ⟨v3, rfl, q3⟩
theorem clsLaw05Call {s : St} (x : Law05Call) {v3 : Value} (q3 : R s v3 ((dL 1 bD) x.Bytes)) : RC s [.int .i64 x.Do, S x.A, S x.B, v3, .int .i64 x.K, .int .i64 x.N, .int .i64 x.M] (dLaw05Call x) := (RC.mkc (RC.val _ rfl) (RC.mkc (RC.val _ rfl) (RC.mkc (RC.val _ rfl) (RC.mkc q3 (RC.mkc (RC.val _ rfl) (RC.mkc (RC.val _ rfl) (RC.mkc (RC.val _ rfl) RC.mkn)))))))
theorem opnRef05File {s : St} {cs : List Value} {x : Ref05File} (h : RC s cs (dRef05File x)) : ∃ v1 : Value, cs = [S x.Name, v1] ∧ R s v1 ((dL 1 bD) x.Bytes) := by
  obtain ⟨c1, r1, rfl, g1, e1⟩ := h.acons
  obtain rfl := g1.val_inv
  obtain ⟨c2, r2, rfl, g2, e2⟩ := e1.acons
  obtain ⟨v1, rfl, q1⟩ := g2.sl_inv
  obtain rfl := e2.anil
  exact ⟨v1, rfl, q1⟩
theorem clsRef05File {s : St} (x : Ref05File) {v1 : Value} (q1 : R s v1 ((dL 1 bD) x.Bytes)) : RC s [S x.Name, v1] (dRef05File x) := (RC.mkc (RC.val _ rfl) (RC.mkc q1 RC.mkn))
theorem opnSt66 {s : St} {cs : List Value} {x : St66} (h : RC s cs (dSt66 x)) : cs = [.int .i64 x.e0, .int .i64 x.e1, .int .i64 x.e2] := by
  obtain ⟨c1, r1, rfl, g1, e1⟩ := h.acons
  obtain rfl := g1.val_inv
  obtain ⟨c2, r2, rfl, g2, e2⟩ := e1.acons
  obtain rfl := g2.val_inv
  obtain ⟨c3, r3, rfl, g3, e3⟩ := e2.acons
  obtain rfl := g3.val_inv
  obtain rfl := e3.anil
  exact rfl
theorem clsSt66 {s : St} (x : St66) : RC s [.int .i64 x.e0, .int .i64 x.e1, .int .i64 x.e2] (dSt66 x) := (RC.mkc (RC.val _ rfl) (RC.mkc (RC.val _ rfl) (RC.mkc (RC.val _ rfl) RC.mkn)))
theorem opnRef05Disk {s : St} {cs : List Value} {x : Ref05Disk} (h : RC s cs (dRef05Disk x)) : ∃ v2 : Value, ∃ v3 : Value, cs = [.int .i64 x.Most, .bool x.Off, v2, v3, .int .i64 x.Fuse.e0, .int .i64 x.Fuse.e1, .int .i64 x.Fuse.e2] ∧ R s v2 ((dL 1 (dL 2 dRef05File)) x.Pictures) ∧ R s v3 ((dL 2 dRef05File) x.Made) := by
  obtain ⟨c1, r1, rfl, g1, e1⟩ := h.acons
  obtain rfl := g1.val_inv
  obtain ⟨c2, r2, rfl, g2, e2⟩ := e1.acons
  obtain rfl := g2.val_inv
  obtain ⟨c3, r3, rfl, g3, e3⟩ := e2.acons
  obtain ⟨v2, rfl, q2⟩ := g3.sl_inv
  obtain ⟨c4, r4, rfl, g4, e4⟩ := e3.acons
  obtain ⟨v3, rfl, q3⟩ := g4.sl_inv
  obtain ⟨c5, r5, rfl, g5, e5⟩ := e4.acons
  have g5 := g5
  obtain ⟨c6, r6, rfl, g6, e6⟩ := g5.acons
  obtain rfl := g6.val_inv
  obtain ⟨c7, r7, rfl, g7, e7⟩ := e6.acons
  obtain rfl := g7.val_inv
  obtain ⟨c8, r8, rfl, g8, e8⟩ := e7.acons
  obtain rfl := g8.val_inv
  obtain rfl := e8.anil
  obtain rfl := e5.anil
  exact ⟨v2, v3, rfl, q2, q3⟩
theorem clsRef05Disk {s : St} (x : Ref05Disk) {v2 : Value} (q2 : R s v2 ((dL 1 (dL 2 dRef05File)) x.Pictures)) {v3 : Value} (q3 : R s v3 ((dL 2 dRef05File) x.Made)) : RC s [.int .i64 x.Most, .bool x.Off, v2, v3, .int .i64 x.Fuse.e0, .int .i64 x.Fuse.e1, .int .i64 x.Fuse.e2] (dRef05Disk x) := (RC.mkc (RC.val _ rfl) (RC.mkc (RC.val _ rfl) (RC.mkc q2 (RC.mkc q3 (RC.mkc (RC.mkc (RC.val _ rfl) (RC.mkc (RC.val _ rfl) (RC.mkc (RC.val _ rfl) RC.mkn))) RC.mkn)))))
/-- An object in memory: Ref05Disk. -/
def ORef05Disk (s : St) (k : Nat) (p : Value) (x : Ref05Disk) : Prop := k ≠ 0 ∧ ∃ b, p = .pointer (some ⟨b, 0, none⟩) ∧ ∃ v2 : Value, ∃ v3 : Value, Blk s b ⟨k, 0⟩ [.int .i64 x.Most, .bool x.Off, v2, v3, .int .i64 x.Fuse.e0, .int .i64 x.Fuse.e1, .int .i64 x.Fuse.e2] 68 ∧ R s v2 ((dL 1 (dL 2 dRef05File)) x.Pictures) ∧ R s v3 ((dL 2 dRef05File) x.Made)
theorem ORef05Disk.ptr {s : St} {k : Nat} {p : Value} {x : Ref05Disk} (h : ORef05Disk s k p x) : ∃ b, p = .pointer (some ⟨b, 0, none⟩) := by obtain ⟨_, b, e, _⟩ := h; exact ⟨b, e⟩
theorem ORef05Disk.at_ {s : St} {k b : Nat} {x : Ref05Disk} (h : ORef05Disk s k (.pointer (some ⟨b, 0, none⟩)) x) : ∃ v2 : Value, ∃ v3 : Value, Blk s b ⟨k, 0⟩ [.int .i64 x.Most, .bool x.Off, v2, v3, .int .i64 x.Fuse.e0, .int .i64 x.Fuse.e1, .int .i64 x.Fuse.e2] 68 ∧ R s v2 ((dL 1 (dL 2 dRef05File)) x.Pictures) ∧ R s v3 ((dL 2 dRef05File) x.Made) := by
  obtain ⟨_, b', e, h⟩ := h
  injection e with e; injection e with e; injection e with e
  subst e
  exact h
theorem ORef05Disk.mk_ {s : St} {k b : Nat} (x : Ref05Disk) (h0 : k ≠ 0) {v2 : Value} (g2 : R s v2 ((dL 1 (dL 2 dRef05File)) x.Pictures)) {v3 : Value} (g3 : R s v3 ((dL 2 dRef05File) x.Made)) (hb : Blk s b ⟨k, 0⟩ [.int .i64 x.Most, .bool x.Off, v2, v3, .int .i64 x.Fuse.e0, .int .i64 x.Fuse.e1, .int .i64 x.Fuse.e2] 68) : ORef05Disk s k (.pointer (some ⟨b, 0, none⟩)) x := ⟨h0, b, rfl, ⟨v2, v3, hb, g2, g3⟩⟩
theorem ORef05Disk.ne {s : St} {k : Nat} {p : Value} {x : Ref05Disk} (h : ORef05Disk s k p x) : k ≠ 0 := h.1
theorem ORef05Disk.le {s : St} {k : Nat} {p : Value} {x : Ref05Disk} (h : ORef05Disk s k p x) : k ≤ s.n := by
  obtain ⟨b, rfl⟩ := h.ptr
  obtain ⟨v2, v3, hb, g2, g3⟩ := h.at_
  exact hb.own_le
theorem ORef05Disk.up2 {K : Lab → Prop} {s s' : St} {k : Nat} {p : Value} {x : Ref05Disk} (h : ORef05Disk s k p x) (st : Step K s s') (hk : ∀ c, ¬ K ⟨k, c⟩ := by intro c; first | exact id | (simp only [KU, KN, KC, KO, K0, KB] <;> omega)) : ORef05Disk s' k p x := by
  obtain ⟨h0, b, e, h⟩ := h
  obtain ⟨v2, v3, hb, g2, g3⟩ := h
  exact ⟨h0, b, e, ⟨v2, v3, hb.up st (hk 0), g2.up st, g3.up st⟩⟩
def OptORef05Disk (s : St) (k : Nat) (p : Value) : Option Ref05Disk → Prop
  | none => p = .pointer none
  | some x => ORef05Disk s k p x
theorem OptORef05Disk.le {s : St} {k : Nat} {p : Value} {x : Option Ref05Disk} (h : OptORef05Disk s k p x) : x = none ∨ k ≤ s.n := by
  cases x with
  | none => exact .inl rfl
  | some x => have h : ORef05Disk s k p x := h; exact .inr h.le
theorem OptORef05Disk.up2 {K : Lab → Prop} {s s' : St} {k : Nat} {p : Value} {x : Option Ref05Disk} (h : OptORef05Disk s k p x) (st : Step K s s') (hk : k ≤ s.n → k ≠ 0 → ∀ c, ¬ K ⟨k, c⟩ := by intro _ _ c; first | exact id | (simp only [KU, KN, KC, KO, K0, KB] <;> omega)) : OptORef05Disk s' k p x := by
  cases x with
  | none => exact h
  | some x => have h : ORef05Disk s k p x := h; exact ORef05Disk.up2 h st (hk h.le h.ne)
theorem OptORef05Disk.up3 {K : Lab → Prop} {s s' : St} {k n0 : Nat} {p : Value} {x : Option Ref05Disk} (h : OptORef05Disk s k p x) (ol : x = none ∨ k ≤ n0) (st : Step K s s') (hk : k ≤ n0 → k ≠ 0 → ∀ c, ¬ K ⟨k, c⟩ := by intro _ _ c; first | exact id | (simp only [KU, KN, KC, KO, K0, KB] <;> omega)) : OptORef05Disk s' k p x := by
  cases x with
  | none => exact h
  | some x => have h : ORef05Disk s k p x := h; exact ORef05Disk.up2 h st (hk (ol.resolve_left (by simp)) h.ne)
theorem opnDiskFile {s : St} {cs : List Value} {x : DiskFile} (h : RC s cs (dDiskFile x)) : ∃ v1 : Value, cs = [S x.name, v1] ∧ R s v1 ((dL 1 bD) x.b) := by
  obtain ⟨c1, r1, rfl, g1, e1⟩ := h.acons
  obtain rfl := g1.val_inv
  obtain ⟨c2, r2, rfl, g2, e2⟩ := e1.acons
  obtain ⟨v1, rfl, q1⟩ := g2.sl_inv
  obtain rfl := e2.anil
  exact ⟨v1, rfl, q1⟩
theorem clsDiskFile {s : St} (x : DiskFile) {v1 : Value} (q1 : R s v1 ((dL 1 bD) x.b)) : RC s [S x.name, v1] (dDiskFile x) := (RC.mkc (RC.val _ rfl) (RC.mkc q1 RC.mkn))
theorem opnDiskAdding {s : St} {cs : List Value} {x : DiskAdding} (h : RC s cs (dDiskAdding x)) : ∃ v1 : Value, cs = [S x.file.name, v1] ∧ R s v1 ((dL 1 bD) x.file.b) := by
  obtain ⟨c1, r1, rfl, g1, e1⟩ := h.acons
  have g1 := g1
  obtain ⟨c2, r2, rfl, g2, e2⟩ := g1.acons
  obtain rfl := g2.val_inv
  obtain ⟨c3, r3, rfl, g3, e3⟩ := e2.acons
  obtain ⟨v1, rfl, q1⟩ := g3.sl_inv
  obtain rfl := e3.anil
  obtain rfl := e1.anil
  exact ⟨v1, rfl, q1⟩
theorem clsDiskAdding {s : St} (x : DiskAdding) {v1 : Value} (q1 : R s v1 ((dL 1 bD) x.file.b)) : RC s [S x.file.name, v1] (dDiskAdding x) := (RC.mkc (RC.mkc (RC.val _ rfl) (RC.mkc q1 RC.mkn)) RC.mkn)
theorem opnDiskNaming {s : St} {cs : List Value} {x : DiskNaming} (h : RC s cs (dDiskNaming x)) : cs = [S x.from_, S x.to_] := by
  obtain ⟨c1, r1, rfl, g1, e1⟩ := h.acons
  obtain rfl := g1.val_inv
  obtain ⟨c2, r2, rfl, g2, e2⟩ := e1.acons
  obtain rfl := g2.val_inv
  obtain rfl := e2.anil
  exact rfl
theorem clsDiskNaming {s : St} (x : DiskNaming) : RC s [S x.from_, S x.to_] (dDiskNaming x) := (RC.mkc (RC.val _ rfl) (RC.mkc (RC.val _ rfl) RC.mkn))
theorem opnDiskPutting {s : St} {cs : List Value} {x : DiskPutting} (h : RC s cs (dDiskPutting x)) : ∃ v1 : Value, cs = [S x.file.name, v1] ∧ R s v1 ((dL 1 bD) x.file.b) := by
  obtain ⟨c1, r1, rfl, g1, e1⟩ := h.acons
  have g1 := g1
  obtain ⟨c2, r2, rfl, g2, e2⟩ := g1.acons
  obtain rfl := g2.val_inv
  obtain ⟨c3, r3, rfl, g3, e3⟩ := e2.acons
  obtain ⟨v1, rfl, q1⟩ := g3.sl_inv
  obtain rfl := e3.anil
  obtain rfl := e1.anil
  exact ⟨v1, rfl, q1⟩
theorem clsDiskPutting {s : St} (x : DiskPutting) {v1 : Value} (q1 : R s v1 ((dL 1 bD) x.file.b)) : RC s [S x.file.name, v1] (dDiskPutting x) := (RC.mkc (RC.mkc (RC.val _ rfl) (RC.mkc q1 RC.mkn)) RC.mkn)
theorem DiskCall.as_adding_some {e : DiskCall} {x : DiskAdding} (h : e.as_adding = some x) : e = .adding x := by cases e <;> simp [DiskCall.as_adding] at h ⊢ <;> exact h
theorem DiskCall.as_adding_none {s : St} {v : Value} {e : DiskCall} (h : e.as_adding = none) (hr : R s v (dDiskCall e)) : ∃ tu u, v = .iface tu u ∧ Nat.beq tu 78 = false := by
  cases e <;> first | (simp [DiskCall.as_adding] at h; done) | (obtain ⟨u, rfl, _⟩ := R.ifc_inv hr; exact ⟨_, u, rfl, by decide⟩)
theorem DiskCall.as_naming_some {e : DiskCall} {x : DiskNaming} (h : e.as_naming = some x) : e = .naming x := by cases e <;> simp [DiskCall.as_naming] at h ⊢ <;> exact h
theorem DiskCall.as_naming_none {s : St} {v : Value} {e : DiskCall} (h : e.as_naming = none) (hr : R s v (dDiskCall e)) : ∃ tu u, v = .iface tu u ∧ Nat.beq tu 98 = false := by
  cases e <;> first | (simp [DiskCall.as_naming] at h; done) | (obtain ⟨u, rfl, _⟩ := R.ifc_inv hr; exact ⟨_, u, rfl, by decide⟩)
theorem DiskCall.as_putting_some {e : DiskCall} {x : DiskPutting} (h : e.as_putting = some x) : e = .putting x := by cases e <;> simp [DiskCall.as_putting] at h ⊢ <;> exact h
theorem DiskCall.as_putting_none {s : St} {v : Value} {e : DiskCall} (h : e.as_putting = none) (hr : R s v (dDiskCall e)) : ∃ tu u, v = .iface tu u ∧ Nat.beq tu 100 = false := by
  cases e <;> first | (simp [DiskCall.as_putting] at h; done) | (obtain ⟨u, rfl, _⟩ := R.ifc_inv hr; exact ⟨_, u, rfl, by decide⟩)
theorem DiskCall.as_removing_some {e : DiskCall} {x : (List UInt8)} (h : e.as_removing = some x) : e = .removing x := by cases e <;> simp [DiskCall.as_removing] at h ⊢ <;> exact h
theorem DiskCall.as_removing_none {s : St} {v : Value} {e : DiskCall} (h : e.as_removing = none) (hr : R s v (dDiskCall e)) : ∃ tu u, v = .iface tu u ∧ Nat.beq tu 101 = false := by
  cases e <;> first | (simp [DiskCall.as_removing] at h; done) | (obtain ⟨u, rfl, _⟩ := R.ifc_inv hr; exact ⟨_, u, rfl, by decide⟩)
theorem dDiskCall_wd (e : DiskCall) : (dDiskCall e).wd = 1 := by cases e <;> rfl
theorem dDiskCall_na (e : DiskCall) : (dDiskCall e).isAgg = false := by cases e <;> rfl
theorem opnDiskFuse {s : St} {cs : List Value} {x : DiskFuse} (h : RC s cs (dDiskFuse x)) : cs = [.int .i64 x.n, .int .i64 x.keep, .int .i64 x.torn] := by
  obtain ⟨c1, r1, rfl, g1, e1⟩ := h.acons
  obtain rfl := g1.val_inv
  obtain ⟨c2, r2, rfl, g2, e2⟩ := e1.acons
  obtain rfl := g2.val_inv
  obtain ⟨c3, r3, rfl, g3, e3⟩ := e2.acons
  obtain rfl := g3.val_inv
  obtain rfl := e3.anil
  exact rfl
theorem clsDiskFuse {s : St} (x : DiskFuse) : RC s [.int .i64 x.n, .int .i64 x.keep, .int .i64 x.torn] (dDiskFuse x) := (RC.mkc (RC.val _ rfl) (RC.mkc (RC.val _ rfl) (RC.mkc (RC.val _ rfl) RC.mkn)))
theorem opnDiskDisk {s : St} {cs : List Value} {x : DiskDisk} (h : RC s cs (dDiskDisk x)) : ∃ v3 : Value, ∃ v4 : Value, cs = [.int .i64 x.capacity, .bool x.made, .bool x.down, v3, v4, .int .i64 x.fuse.n, .int .i64 x.fuse.keep, .int .i64 x.fuse.torn] ∧ R s v3 ((dL 1 (dL 2 dDiskFile)) x.pictures) ∧ R s v4 ((dL 1 dDiskCall) x.calls) := by
  obtain ⟨c1, r1, rfl, g1, e1⟩ := h.acons
  obtain rfl := g1.val_inv
  obtain ⟨c2, r2, rfl, g2, e2⟩ := e1.acons
  obtain rfl := g2.val_inv
  obtain ⟨c3, r3, rfl, g3, e3⟩ := e2.acons
  obtain rfl := g3.val_inv
  obtain ⟨c4, r4, rfl, g4, e4⟩ := e3.acons
  obtain ⟨v3, rfl, q3⟩ := g4.sl_inv
  obtain ⟨c5, r5, rfl, g5, e5⟩ := e4.acons
  obtain ⟨v4, rfl, q4⟩ := g5.sl_inv
  obtain ⟨c6, r6, rfl, g6, e6⟩ := e5.acons
  have g6 := g6
  obtain ⟨c7, r7, rfl, g7, e7⟩ := g6.acons
  obtain rfl := g7.val_inv
  obtain ⟨c8, r8, rfl, g8, e8⟩ := e7.acons
  obtain rfl := g8.val_inv
  obtain ⟨c9, r9, rfl, g9, e9⟩ := e8.acons
  obtain rfl := g9.val_inv
  obtain rfl := e9.anil
  obtain rfl := e6.anil
  exact ⟨v3, v4, rfl, q3, q4⟩
theorem clsDiskDisk {s : St} (x : DiskDisk) {v3 : Value} (q3 : R s v3 ((dL 1 (dL 2 dDiskFile)) x.pictures)) {v4 : Value} (q4 : R s v4 ((dL 1 dDiskCall) x.calls)) : RC s [.int .i64 x.capacity, .bool x.made, .bool x.down, v3, v4, .int .i64 x.fuse.n, .int .i64 x.fuse.keep, .int .i64 x.fuse.torn] (dDiskDisk x) := (RC.mkc (RC.val _ rfl) (RC.mkc (RC.val _ rfl) (RC.mkc (RC.val _ rfl) (RC.mkc q3 (RC.mkc q4 (RC.mkc (RC.mkc (RC.val _ rfl) (RC.mkc (RC.val _ rfl) (RC.mkc (RC.val _ rfl) RC.mkn))) RC.mkn))))))
/-- An object in memory: DiskDisk. -/
def ODiskDisk (s : St) (k : Nat) (p : Value) (x : DiskDisk) : Prop := k ≠ 0 ∧ ∃ b, p = .pointer (some ⟨b, 0, none⟩) ∧ ∃ v3 : Value, ∃ v4 : Value, Blk s b ⟨k, 0⟩ [.int .i64 x.capacity, .bool x.made, .bool x.down, v3, v4, .int .i64 x.fuse.n, .int .i64 x.fuse.keep, .int .i64 x.fuse.torn] 61 ∧ Own s ⟨k, 5⟩ 73 1 v3 (x.pictures.map (dL 2 dDiskFile)) ∧ Own s ⟨k, 6⟩ 81 1 v4 (x.calls.map dDiskCall)
theorem ODiskDisk.ptr {s : St} {k : Nat} {p : Value} {x : DiskDisk} (h : ODiskDisk s k p x) : ∃ b, p = .pointer (some ⟨b, 0, none⟩) := by obtain ⟨_, b, e, _⟩ := h; exact ⟨b, e⟩
theorem ODiskDisk.at_ {s : St} {k b : Nat} {x : DiskDisk} (h : ODiskDisk s k (.pointer (some ⟨b, 0, none⟩)) x) : ∃ v3 : Value, ∃ v4 : Value, Blk s b ⟨k, 0⟩ [.int .i64 x.capacity, .bool x.made, .bool x.down, v3, v4, .int .i64 x.fuse.n, .int .i64 x.fuse.keep, .int .i64 x.fuse.torn] 61 ∧ Own s ⟨k, 5⟩ 73 1 v3 (x.pictures.map (dL 2 dDiskFile)) ∧ Own s ⟨k, 6⟩ 81 1 v4 (x.calls.map dDiskCall) := by
  obtain ⟨_, b', e, h⟩ := h
  injection e with e; injection e with e; injection e with e
  subst e
  exact h
theorem ODiskDisk.mk_ {s : St} {k b : Nat} (x : DiskDisk) (h0 : k ≠ 0) {v3 : Value} (g3 : Own s ⟨k, 5⟩ 73 1 v3 (x.pictures.map (dL 2 dDiskFile))) {v4 : Value} (g4 : Own s ⟨k, 6⟩ 81 1 v4 (x.calls.map dDiskCall)) (hb : Blk s b ⟨k, 0⟩ [.int .i64 x.capacity, .bool x.made, .bool x.down, v3, v4, .int .i64 x.fuse.n, .int .i64 x.fuse.keep, .int .i64 x.fuse.torn] 61) : ODiskDisk s k (.pointer (some ⟨b, 0, none⟩)) x := ⟨h0, b, rfl, ⟨v3, v4, hb, g3, g4⟩⟩
theorem ODiskDisk.ne {s : St} {k : Nat} {p : Value} {x : DiskDisk} (h : ODiskDisk s k p x) : k ≠ 0 := h.1
theorem ODiskDisk.le {s : St} {k : Nat} {p : Value} {x : DiskDisk} (h : ODiskDisk s k p x) : k ≤ s.n := by
  obtain ⟨b, rfl⟩ := h.ptr
  obtain ⟨v3, v4, hb, g3, g4⟩ := h.at_
  exact hb.own_le
theorem ODiskDisk.up2 {K : Lab → Prop} {s s' : St} {k : Nat} {p : Value} {x : DiskDisk} (h : ODiskDisk s k p x) (st : Step K s s') (hk : ∀ c, ¬ K ⟨k, c⟩ := by intro c; first | exact id | (simp only [KU, KN, KC, KO, K0, KB] <;> omega)) : ODiskDisk s' k p x := by
  obtain ⟨h0, b, e, h⟩ := h
  obtain ⟨v3, v4, hb, g3, g4⟩ := h
  exact ⟨h0, b, e, ⟨v3, v4, hb.up st (hk 0), g3.up st (hk 5), g4.up st (hk 6)⟩⟩
def OptODiskDisk (s : St) (k : Nat) (p : Value) : Option DiskDisk → Prop
  | none => p = .pointer none
  | some x => ODiskDisk s k p x
theorem OptODiskDisk.le {s : St} {k : Nat} {p : Value} {x : Option DiskDisk} (h : OptODiskDisk s k p x) : x = none ∨ k ≤ s.n := by
  cases x with
  | none => exact .inl rfl
  | some x => have h : ODiskDisk s k p x := h; exact .inr h.le
theorem OptODiskDisk.up2 {K : Lab → Prop} {s s' : St} {k : Nat} {p : Value} {x : Option DiskDisk} (h : OptODiskDisk s k p x) (st : Step K s s') (hk : k ≤ s.n → k ≠ 0 → ∀ c, ¬ K ⟨k, c⟩ := by intro _ _ c; first | exact id | (simp only [KU, KN, KC, KO, K0, KB] <;> omega)) : OptODiskDisk s' k p x := by
  cases x with
  | none => exact h
  | some x => have h : ODiskDisk s k p x := h; exact ODiskDisk.up2 h st (hk h.le h.ne)
theorem OptODiskDisk.up3 {K : Lab → Prop} {s s' : St} {k n0 : Nat} {p : Value} {x : Option DiskDisk} (h : OptODiskDisk s k p x) (ol : x = none ∨ k ≤ n0) (st : Step K s s') (hk : k ≤ n0 → k ≠ 0 → ∀ c, ¬ K ⟨k, c⟩ := by intro _ _ c; first | exact id | (simp only [KU, KN, KC, KO, K0, KB] <;> omega)) : OptODiskDisk s' k p x := by
  cases x with
  | none => exact h
  | some x => have h : ODiskDisk s k p x := h; exact ODiskDisk.up2 h st (hk (ol.resolve_left (by simp)) h.ne)
theorem nil_DiskCall_next {s : St} {v : Value} {e : DiskCall} (h : R s v (dDiskCall e)) : ∃ t u, v = .iface t u ∧ ∀ w, (nilAhead (Tryd.prog.types.size + Made.depth) t u "tidewrack/disk.next").run Tryd.prog w = .ok (some false) w := by
  cases e with
  | adding x => obtain ⟨u, rfl, _⟩ := R.ifc_inv h; exact ⟨78, u, rfl, nilA78_next u⟩
  | naming x => obtain ⟨u, rfl, _⟩ := R.ifc_inv h; exact ⟨98, u, rfl, nilA98_next u⟩
  | putting x => obtain ⟨u, rfl, _⟩ := R.ifc_inv h; exact ⟨100, u, rfl, nilA100_next u⟩
  | removing x => obtain ⟨u, rfl, _⟩ := R.ifc_inv h; exact ⟨101, u, rfl, nilA101_next u⟩
end Go.Proofs
