import Derived.Test.YtdofbkomeadjgaaDoorP06D
set_option linter.unusedSimpArgs false
set_option linter.unusedVariables false
namespace Go.Proofs
open Go.Fw
theorem agg118 : aggT Tryd.prog 118 16 = true := by kernel_rfl
theorem agg121 : aggT Tryd.prog 121 10 = true := by kernel_rfl
theorem agg126 : aggT Tryd.prog 126 4 = true := by kernel_rfl
theorem agg27 : aggT Tryd.prog 27 16 = true := by kernel_rfl
theorem agg29 : aggT Tryd.prog 29 17 = true := by kernel_rfl
theorem agg34 : aggT Tryd.prog 34 5 = true := by kernel_rfl
theorem agg79 : aggT Tryd.prog 79 8 = true := by kernel_rfl
theorem agg81 : aggT Tryd.prog 81 11 = true := by kernel_rfl
theorem arr105 : arrT Tryd.prog 105 5 64 1 := ⟨Tryd.underlying105, by kernel_rfl⟩
theorem arr118 : arrT Tryd.prog 118 78 16 1 := ⟨Tryd.underlying118, by kernel_rfl⟩
theorem arr121 : arrT Tryd.prog 121 9 10 1 := ⟨Tryd.underlying121, by kernel_rfl⟩
theorem arr126 : arrT Tryd.prog 126 3 4 1 := ⟨Tryd.underlying126, by kernel_rfl⟩
theorem arr27 : arrT Tryd.prog 27 5 16 1 := ⟨Tryd.underlying27, by kernel_rfl⟩
theorem arr77 : arrT Tryd.prog 77 9 7 1 := ⟨Tryd.underlying77, by kernel_rfl⟩
theorem arr79 : arrT Tryd.prog 79 78 8 1 := ⟨Tryd.underlying79, by kernel_rfl⟩
theorem arr87 : arrT Tryd.prog 87 5 24 1 := ⟨Tryd.underlying87, by kernel_rfl⟩
theorem cal10 : Callable Tryd.prog 10 := ⟨_, Tryd.func10, by kernel_rfl, by kernel_rfl⟩
theorem cal11 : Callable Tryd.prog 11 := ⟨_, Tryd.func11, by kernel_rfl, by kernel_rfl⟩
theorem cal12 : Callable Tryd.prog 12 := ⟨_, Tryd.func12, by kernel_rfl, by kernel_rfl⟩
theorem cal13 : Callable Tryd.prog 13 := ⟨_, Tryd.func13, by kernel_rfl, by kernel_rfl⟩
theorem cal14 : Callable Tryd.prog 14 := ⟨_, Tryd.func14, by kernel_rfl, by kernel_rfl⟩
theorem cal15 : Callable Tryd.prog 15 := ⟨_, Tryd.func15, by kernel_rfl, by kernel_rfl⟩
theorem cal16 : Callable Tryd.prog 16 := ⟨_, Tryd.func16, by kernel_rfl, by kernel_rfl⟩
theorem cal17 : Callable Tryd.prog 17 := ⟨_, Tryd.func17, by kernel_rfl, by kernel_rfl⟩
theorem cal18 : Callable Tryd.prog 18 := ⟨_, Tryd.func18, by kernel_rfl, by kernel_rfl⟩
theorem cal19 : Callable Tryd.prog 19 := ⟨_, Tryd.func19, by kernel_rfl, by kernel_rfl⟩
theorem cal20 : Callable Tryd.prog 20 := ⟨_, Tryd.func20, by kernel_rfl, by kernel_rfl⟩
theorem cal21 : Callable Tryd.prog 21 := ⟨_, Tryd.func21, by kernel_rfl, by kernel_rfl⟩
theorem cal22 : Callable Tryd.prog 22 := ⟨_, Tryd.func22, by kernel_rfl, by kernel_rfl⟩
theorem cal23 : Callable Tryd.prog 23 := ⟨_, Tryd.func23, by kernel_rfl, by kernel_rfl⟩
theorem cal24 : Callable Tryd.prog 24 := ⟨_, Tryd.func24, by kernel_rfl, by kernel_rfl⟩
theorem cal25 : Callable Tryd.prog 25 := ⟨_, Tryd.func25, by kernel_rfl, by kernel_rfl⟩
theorem cal26 : Callable Tryd.prog 26 := ⟨_, Tryd.func26, by kernel_rfl, by kernel_rfl⟩
theorem cal27 : Callable Tryd.prog 27 := ⟨_, Tryd.func27, by kernel_rfl, by kernel_rfl⟩
theorem cal28 : Callable Tryd.prog 28 := ⟨_, Tryd.func28, by kernel_rfl, by kernel_rfl⟩
theorem cal29 : Callable Tryd.prog 29 := ⟨_, Tryd.func29, by kernel_rfl, by kernel_rfl⟩
theorem cal30 : Callable Tryd.prog 30 := ⟨_, Tryd.func30, by kernel_rfl, by kernel_rfl⟩
theorem cal31 : Callable Tryd.prog 31 := ⟨_, Tryd.func31, by kernel_rfl, by kernel_rfl⟩
theorem cal32 : Callable Tryd.prog 32 := ⟨_, Tryd.func32, by kernel_rfl, by kernel_rfl⟩
theorem cal33 : Callable Tryd.prog 33 := ⟨_, Tryd.func33, by kernel_rfl, by kernel_rfl⟩
theorem cal34 : Callable Tryd.prog 34 := ⟨_, Tryd.func34, by kernel_rfl, by kernel_rfl⟩
theorem cal36 : Callable Tryd.prog 36 := ⟨_, Tryd.func36, by kernel_rfl, by kernel_rfl⟩
theorem cal37 : Callable Tryd.prog 37 := ⟨_, Tryd.func37, by kernel_rfl, by kernel_rfl⟩
theorem cal40 : Callable Tryd.prog 40 := ⟨_, Tryd.func40, by kernel_rfl, by kernel_rfl⟩
theorem cal42 : Callable Tryd.prog 42 := ⟨_, Tryd.func42, by kernel_rfl, by kernel_rfl⟩
theorem cal43 : Callable Tryd.prog 43 := ⟨_, Tryd.func43, by kernel_rfl, by kernel_rfl⟩
theorem cal44 : Callable Tryd.prog 44 := ⟨_, Tryd.func44, by kernel_rfl, by kernel_rfl⟩
theorem cal45 : Callable Tryd.prog 45 := ⟨_, Tryd.func45, by kernel_rfl, by kernel_rfl⟩
theorem cal46 : Callable Tryd.prog 46 := ⟨_, Tryd.func46, by kernel_rfl, by kernel_rfl⟩
theorem cal47 : Callable Tryd.prog 47 := ⟨_, Tryd.func47, by kernel_rfl, by kernel_rfl⟩
theorem cal48 : Callable Tryd.prog 48 := ⟨_, Tryd.func48, by kernel_rfl, by kernel_rfl⟩
theorem cal49 : Callable Tryd.prog 49 := ⟨_, Tryd.func49, by kernel_rfl, by kernel_rfl⟩
theorem cal50 : Callable Tryd.prog 50 := ⟨_, Tryd.func50, by kernel_rfl, by kernel_rfl⟩
theorem cal51 : Callable Tryd.prog 51 := ⟨_, Tryd.func51, by kernel_rfl, by kernel_rfl⟩
theorem cal52 : Callable Tryd.prog 52 := ⟨_, Tryd.func52, by kernel_rfl, by kernel_rfl⟩
theorem cal60 : Callable Tryd.prog 60 := ⟨_, Tryd.func60, by kernel_rfl, by kernel_rfl⟩
theorem cal61 : Callable Tryd.prog 61 := ⟨_, Tryd.func61, by kernel_rfl, by kernel_rfl⟩
theorem cal62 : Callable Tryd.prog 62 := ⟨_, Tryd.func62, by kernel_rfl, by kernel_rfl⟩
theorem cal63 : Callable Tryd.prog 63 := ⟨_, Tryd.func63, by kernel_rfl, by kernel_rfl⟩
theorem cal64 : Callable Tryd.prog 64 := ⟨_, Tryd.func64, by kernel_rfl, by kernel_rfl⟩
theorem cal65 : Callable Tryd.prog 65 := ⟨_, Tryd.func65, by kernel_rfl, by kernel_rfl⟩
theorem cal66 : Callable Tryd.prog 66 := ⟨_, Tryd.func66, by kernel_rfl, by kernel_rfl⟩
theorem cal67 : Callable Tryd.prog 67 := ⟨_, Tryd.func67, by kernel_rfl, by kernel_rfl⟩
theorem cal68 : Callable Tryd.prog 68 := ⟨_, Tryd.func68, by kernel_rfl, by kernel_rfl⟩
theorem cal69 : Callable Tryd.prog 69 := ⟨_, Tryd.func69, by kernel_rfl, by kernel_rfl⟩
theorem cal7 : Callable Tryd.prog 7 := ⟨_, Tryd.func7, by kernel_rfl, by kernel_rfl⟩
theorem cal8 : Callable Tryd.prog 8 := ⟨_, Tryd.func8, by kernel_rfl, by kernel_rfl⟩
theorem cal81 : Callable Tryd.prog 81 := ⟨_, Tryd.func81, by kernel_rfl, by kernel_rfl⟩
theorem cal82 : Callable Tryd.prog 82 := ⟨_, Tryd.func82, by kernel_rfl, by kernel_rfl⟩
theorem cal83 : Callable Tryd.prog 83 := ⟨_, Tryd.func83, by kernel_rfl, by kernel_rfl⟩
theorem cal84 : Callable Tryd.prog 84 := ⟨_, Tryd.func84, by kernel_rfl, by kernel_rfl⟩
theorem cal85 : Callable Tryd.prog 85 := ⟨_, Tryd.func85, by kernel_rfl, by kernel_rfl⟩
theorem cal86 : Callable Tryd.prog 86 := ⟨_, Tryd.func86, by kernel_rfl, by kernel_rfl⟩
theorem cal87 : Callable Tryd.prog 87 := ⟨_, Tryd.func87, by kernel_rfl, by kernel_rfl⟩
theorem cal88 : Callable Tryd.prog 88 := ⟨_, Tryd.func88, by kernel_rfl, by kernel_rfl⟩
theorem cal9 : Callable Tryd.prog 9 := ⟨_, Tryd.func9, by kernel_rfl, by kernel_rfl⟩
theorem cal94 : Callable Tryd.prog 94 := ⟨_, Tryd.func94, by kernel_rfl, by kernel_rfl⟩
theorem cal95 : Callable Tryd.prog 95 := ⟨_, Tryd.func95, by kernel_rfl, by kernel_rfl⟩
theorem cal96 : Callable Tryd.prog 96 := ⟨_, Tryd.func96, by kernel_rfl, by kernel_rfl⟩
theorem cal97 : Callable Tryd.prog 97 := ⟨_, Tryd.func97, by kernel_rfl, by kernel_rfl⟩
theorem elem120 : elemT Tryd.prog 120 78 1 4 (.int .u32 0) := elemT_of Tryd.underlying120 (by kernel_rfl) (by kernel_rfl) (by kernel_rfl) (by kernel_rfl) (by decide)
theorem elem22 : elemT Tryd.prog 22 29 17 24 (.agg #[.int .u64 0, .int .u8 0, .int .u8 0, .int .u8 0, .int .u8 0, .int .u8 0, .int .u8 0, .int .u8 0, .int .u8 0, .int .u8 0, .int .u8 0, .int .u8 0, .int .u8 0, .int .u8 0, .int .u8 0, .int .u8 0, .int .u8 0]) := elemT_of Tryd.underlying22 (by kernel_rfl) (by kernel_rfl) (by kernel_rfl) (by kernel_rfl) (by decide)
theorem elem51 : elemT Tryd.prog 51 5 1 1 (.int .u8 0) := elemT_of Tryd.underlying51 (by kernel_rfl) (by kernel_rfl) (by kernel_rfl) (by kernel_rfl) (by decide)
theorem flatB29 : flatB Tryd.prog 29 .u64 16 := by
  refine ⟨by kernel_rfl, by kernel_rfl, by kernel_rfl, ?_⟩
  simp only [Program.fieldsOf, Tryd.underlying29]
  exact ⟨_, _, 5, rfl, by decide, by decide, rfl, rfl, Tryd.underlying26, Tryd.underlying27, Tryd.underlying5, by unfold sizeT; kernel_rfl, by unfold sizeT; kernel_rfl⟩
theorem fld29_0 : fieldT Tryd.prog 29 0 = some 0 := by kernel_rfl
theorem fld29_1 : fieldT Tryd.prog 29 1 = some 1 := by kernel_rfl
theorem fld34_0 : fieldT Tryd.prog 34 0 = some 0 := by kernel_rfl
theorem fld34_1 : fieldT Tryd.prog 34 1 = some 1 := by kernel_rfl
theorem fld34_2 : fieldT Tryd.prog 34 2 = some 2 := by kernel_rfl
theorem fld34_3 : fieldT Tryd.prog 34 3 = some 3 := by kernel_rfl
theorem fld34_4 : fieldT Tryd.prog 34 4 = some 4 := by kernel_rfl
theorem fld81_0 : fieldT Tryd.prog 81 0 = some 0 := by kernel_rfl
theorem fld81_1 : fieldT Tryd.prog 81 1 = some 8 := by kernel_rfl
theorem fld81_2 : fieldT Tryd.prog 81 2 = some 9 := by kernel_rfl
theorem fld81_3 : fieldT Tryd.prog 81 3 = some 10 := by kernel_rfl
theorem mixed : Tryd.prog.follows .mixedOrders = true := by kernel_rfl
theorem one138 : oneT Tryd.prog 138 = true := by kernel_rfl
theorem one2 : oneT Tryd.prog 2 = true := by kernel_rfl
theorem one26 : oneT Tryd.prog 26 = true := by kernel_rfl
theorem one3 : oneT Tryd.prog 3 = true := by kernel_rfl
theorem one30 : oneT Tryd.prog 30 = true := by kernel_rfl
theorem one32 : oneT Tryd.prog 32 = true := by kernel_rfl
theorem one4 : oneT Tryd.prog 4 = true := by kernel_rfl
theorem one5 : oneT Tryd.prog 5 = true := by kernel_rfl
theorem one51 : oneT Tryd.prog 51 = true := by kernel_rfl
theorem one78 : oneT Tryd.prog 78 = true := by kernel_rfl
theorem one9 : oneT Tryd.prog 9 = true := by kernel_rfl
theorem plc29 : placesT Tryd.prog 29 [(0, 1), (1, 16)] := ⟨_, Tryd.underlying29, fun _ => by kernel_rfl⟩
theorem plc34 : placesT Tryd.prog 34 [(0, 1), (1, 1), (2, 1), (3, 1), (4, 1)] := ⟨_, Tryd.underlying34, fun _ => by kernel_rfl⟩
theorem plc81 : placesT Tryd.prog 81 [(0, 8), (8, 1), (9, 1), (10, 1)] := ⟨_, Tryd.underlying81, fun _ => by kernel_rfl⟩
theorem size118 : sizeT Tryd.prog 118 16 = true := by kernel_rfl
theorem size121 : sizeT Tryd.prog 121 10 = true := by kernel_rfl
theorem size126 : sizeT Tryd.prog 126 4 = true := by kernel_rfl
theorem size138 : sizeT Tryd.prog 138 1 = true := by kernel_rfl
theorem size2 : sizeT Tryd.prog 2 1 = true := by kernel_rfl
theorem size26 : sizeT Tryd.prog 26 1 = true := by kernel_rfl
theorem size27 : sizeT Tryd.prog 27 16 = true := by kernel_rfl
theorem size29 : sizeT Tryd.prog 29 17 = true := by kernel_rfl
theorem size3 : sizeT Tryd.prog 3 1 = true := by kernel_rfl
theorem size30 : sizeT Tryd.prog 30 1 = true := by kernel_rfl
theorem size32 : sizeT Tryd.prog 32 1 = true := by kernel_rfl
theorem size34 : sizeT Tryd.prog 34 5 = true := by kernel_rfl
theorem size4 : sizeT Tryd.prog 4 1 = true := by kernel_rfl
theorem size5 : sizeT Tryd.prog 5 1 = true := by kernel_rfl
theorem size51 : sizeT Tryd.prog 51 1 = true := by kernel_rfl
theorem size78 : sizeT Tryd.prog 78 1 = true := by kernel_rfl
theorem size79 : sizeT Tryd.prog 79 8 = true := by kernel_rfl
theorem size81 : sizeT Tryd.prog 81 11 = true := by kernel_rfl
theorem size9 : sizeT Tryd.prog 9 1 = true := by kernel_rfl
theorem slc22 : sliceT Tryd.prog 22 29 17 (.agg #[.int .u64 0, .int .u8 0, .int .u8 0, .int .u8 0, .int .u8 0, .int .u8 0, .int .u8 0, .int .u8 0, .int .u8 0, .int .u8 0, .int .u8 0, .int .u8 0, .int .u8 0, .int .u8 0, .int .u8 0, .int .u8 0, .int .u8 0]) := ⟨Tryd.underlying22, by kernel_rfl, by kernel_rfl, by kernel_rfl, by decide⟩
theorem slc51 : sliceT Tryd.prog 51 5 1 (.int .u8 0) := ⟨Tryd.underlying51, by kernel_rfl, by kernel_rfl, by kernel_rfl, by decide⟩
theorem slc68 : sliceT Tryd.prog 68 51 1 (.slice none 0 0) := ⟨Tryd.underlying68, by kernel_rfl, by kernel_rfl, by kernel_rfl, by decide⟩
theorem slc71 : sliceT Tryd.prog 71 3 1 (.int .i64 0) := ⟨Tryd.underlying71, by kernel_rfl, by kernel_rfl, by kernel_rfl, by decide⟩
theorem zero105 : zeroT Tryd.prog 105 = some (.agg #[.int .u8 0, .int .u8 0, .int .u8 0, .int .u8 0, .int .u8 0, .int .u8 0, .int .u8 0, .int .u8 0, .int .u8 0, .int .u8 0, .int .u8 0, .int .u8 0, .int .u8 0, .int .u8 0, .int .u8 0, .int .u8 0, .int .u8 0, .int .u8 0, .int .u8 0, .int .u8 0, .int .u8 0, .int .u8 0, .int .u8 0, .int .u8 0, .int .u8 0, .int .u8 0, .int .u8 0, .int .u8 0, .int .u8 0, .int .u8 0, .int .u8 0, .int .u8 0, .int .u8 0, .int .u8 0, .int .u8 0, .int .u8 0, .int .u8 0, .int .u8 0, .int .u8 0, .int .u8 0, .int .u8 0, .int .u8 0, .int .u8 0, .int .u8 0, .int .u8 0, .int .u8 0, .int .u8 0, .int .u8 0, .int .u8 0, .int .u8 0, .int .u8 0, .int .u8 0, .int .u8 0, .int .u8 0, .int .u8 0, .int .u8 0, .int .u8 0, .int .u8 0, .int .u8 0, .int .u8 0, .int .u8 0, .int .u8 0, .int .u8 0, .int .u8 0]) := by kernel_rfl
theorem zero118 : zeroT Tryd.prog 118 = some (.agg #[.int .u32 0, .int .u32 0, .int .u32 0, .int .u32 0, .int .u32 0, .int .u32 0, .int .u32 0, .int .u32 0, .int .u32 0, .int .u32 0, .int .u32 0, .int .u32 0, .int .u32 0, .int .u32 0, .int .u32 0, .int .u32 0]) := by kernel_rfl
theorem zero121 : zeroT Tryd.prog 121 = some (.agg #[S [], S [], S [], S [], S [], S [], S [], S [], S [], S []]) := by kernel_rfl
theorem zero126 : zeroT Tryd.prog 126 = some (.agg #[.int .i64 0, .int .i64 0, .int .i64 0, .int .i64 0]) := by kernel_rfl
theorem zero138 : zeroT Tryd.prog 138 = some (.pointer none) := by kernel_rfl
theorem zero27 : zeroT Tryd.prog 27 = some (.agg #[.int .u8 0, .int .u8 0, .int .u8 0, .int .u8 0, .int .u8 0, .int .u8 0, .int .u8 0, .int .u8 0, .int .u8 0, .int .u8 0, .int .u8 0, .int .u8 0, .int .u8 0, .int .u8 0, .int .u8 0, .int .u8 0]) := by kernel_rfl
theorem zero29 : zeroT Tryd.prog 29 = some (.agg #[.int .u64 0, .int .u8 0, .int .u8 0, .int .u8 0, .int .u8 0, .int .u8 0, .int .u8 0, .int .u8 0, .int .u8 0, .int .u8 0, .int .u8 0, .int .u8 0, .int .u8 0, .int .u8 0, .int .u8 0, .int .u8 0, .int .u8 0]) := by kernel_rfl
theorem zero3 : zeroT Tryd.prog 3 = some (.int .i64 0) := by kernel_rfl
theorem zero34 : zeroT Tryd.prog 34 = some (.agg #[.int .i64 0, .int .i64 0, S [], .slice none 0 0, .slice none 0 0]) := by kernel_rfl
theorem zero4 : zeroT Tryd.prog 4 = some (.bool false) := by kernel_rfl
theorem zero77 : zeroT Tryd.prog 77 = some (.agg #[S [], S [], S [], S [], S [], S [], S []]) := by kernel_rfl
theorem zero79 : zeroT Tryd.prog 79 = some (.agg #[.int .u32 0, .int .u32 0, .int .u32 0, .int .u32 0, .int .u32 0, .int .u32 0, .int .u32 0, .int .u32 0]) := by kernel_rfl
theorem zero81 : zeroT Tryd.prog 81 = some (.agg #[.int .u32 0, .int .u32 0, .int .u32 0, .int .u32 0, .int .u32 0, .int .u32 0, .int .u32 0, .int .u32 0, .slice none 0 0, .int .u64 0, .int .i64 0]) := by kernel_rfl
theorem zero87 : zeroT Tryd.prog 87 = some (.agg #[.int .u8 0, .int .u8 0, .int .u8 0, .int .u8 0, .int .u8 0, .int .u8 0, .int .u8 0, .int .u8 0, .int .u8 0, .int .u8 0, .int .u8 0, .int .u8 0, .int .u8 0, .int .u8 0, .int .u8 0, .int .u8 0, .int .u8 0, .int .u8 0, .int .u8 0, .int .u8 0, .int .u8 0, .int .u8 0, .int .u8 0, .int .u8 0]) := by kernel_rfl
theorem zero9 : zeroT Tryd.prog 9 = some (S []) := by kernel_rfl
theorem opnSt27 {s : St} {cs : List Value} {x : St27} (h : RC s cs (dSt27 x)) : cs = [.int .u8 (x.e0.toNat : Int), .int .u8 (x.e1.toNat : Int), .int .u8 (x.e2.toNat : Int), .int .u8 (x.e3.toNat : Int), .int .u8 (x.e4.toNat : Int), .int .u8 (x.e5.toNat : Int), .int .u8 (x.e6.toNat : Int), .int .u8 (x.e7.toNat : Int), .int .u8 (x.e8.toNat : Int), .int .u8 (x.e9.toNat : Int), .int .u8 (x.e10.toNat : Int), .int .u8 (x.e11.toNat : Int), .int .u8 (x.e12.toNat : Int), .int .u8 (x.e13.toNat : Int), .int .u8 (x.e14.toNat : Int), .int .u8 (x.e15.toNat : Int)] := by
  obtain ⟨c1, r1, rfl, g1, e1⟩ := h.acons
  obtain rfl := g1.val_inv
  obtain ⟨c2, r2, rfl, g2, e2⟩ := e1.acons
  obtain rfl := g2.val_inv
  obtain ⟨c3, r3, rfl, g3, e3⟩ := e2.acons
  obtain rfl := g3.val_inv
  obtain ⟨c4, r4, rfl, g4, e4⟩ := e3.acons
  obtain rfl := g4.val_inv
  obtain ⟨c5, r5, rfl, g5, e5⟩ := e4.acons
  obtain rfl := g5.val_inv
  obtain ⟨c6, r6, rfl, g6, e6⟩ := e5.acons
  obtain rfl := g6.val_inv
  obtain ⟨c7, r7, rfl, g7, e7⟩ := e6.acons
  obtain rfl := g7.val_inv
  obtain ⟨c8, r8, rfl, g8, e8⟩ := e7.acons
  obtain rfl := g8.val_inv
  obtain ⟨c9, r9, rfl, g9, e9⟩ := e8.acons
  obtain rfl := g9.val_inv
  obtain ⟨c10, r10, rfl, g10, e10⟩ := e9.acons
  obtain rfl := g10.val_inv
  obtain ⟨c11, r11, rfl, g11, e11⟩ := e10.acons
  obtain rfl := g11.val_inv
  obtain ⟨c12, r12, rfl, g12, e12⟩ := e11.acons
  obtain rfl := g12.val_inv
  obtain ⟨c13, r13, rfl, g13, e13⟩ := e12.acons
  obtain rfl := g13.val_inv
  obtain ⟨c14, r14, rfl, g14, e14⟩ := e13.acons
  obtain rfl := g14.val_inv
  obtain ⟨c15, r15, rfl, g15, e15⟩ := e14.acons
  obtain rfl := g15.val_inv
  obtain ⟨c16, r16, rfl, g16, e16⟩ := e15.acons
  obtain rfl := g16.val_inv
  obtain rfl := e16.anil
  exact rfl
theorem clsSt27 {s : St} (x : St27) : RC s [.int .u8 (x.e0.toNat : Int), .int .u8 (x.e1.toNat : Int), .int .u8 (x.e2.toNat : Int), .int .u8 (x.e3.toNat : Int), .int .u8 (x.e4.toNat : Int), .int .u8 (x.e5.toNat : Int), .int .u8 (x.e6.toNat : Int), .int .u8 (x.e7.toNat : Int), .int .u8 (x.e8.toNat : Int), .int .u8 (x.e9.toNat : Int), .int .u8 (x.e10.toNat : Int), .int .u8 (x.e11.toNat : Int), .int .u8 (x.e12.toNat : Int), .int .u8 (x.e13.toNat : Int), .int .u8 (x.e14.toNat : Int), .int .u8 (x.e15.toNat : Int)] (dSt27 x) := (RC.mkc (RC.val _ rfl) (RC.mkc (RC.val _ rfl) (RC.mkc (RC.val _ rfl) (RC.mkc (RC.val _ rfl) (RC.mkc (RC.val _ rfl) (RC.mkc (RC.val _ rfl) (RC.mkc (RC.val _ rfl) (RC.mkc (RC.val _ rfl) (RC.mkc (RC.val _ rfl) (RC.mkc (RC.val _ rfl) (RC.mkc (RC.val _ rfl) (RC.mkc (RC.val _ rfl) (RC.mkc (RC.val _ rfl) (RC.mkc (RC.val _ rfl) (RC.mkc (RC.val _ rfl) (RC.mkc (RC.val _ rfl) RC.mkn))))))))))))))))
theorem opnApiRev {s : St} {cs : List Value} {x : ApiRev} (h : RC s cs (dApiRev x)) : cs = [.int .u64 (x.Gen.toNat : Int), .int .u8 (x.Sum.e0.toNat : Int), .int .u8 (x.Sum.e1.toNat : Int), .int .u8 (x.Sum.e2.toNat : Int), .int .u8 (x.Sum.e3.toNat : Int), .int .u8 (x.Sum.e4.toNat : Int), .int .u8 (x.Sum.e5.toNat : Int), .int .u8 (x.Sum.e6.toNat : Int), .int .u8 (x.Sum.e7.toNat : Int), .int .u8 (x.Sum.e8.toNat : Int), .int .u8 (x.Sum.e9.toNat : Int), .int .u8 (x.Sum.e10.toNat : Int), .int .u8 (x.Sum.e11.toNat : Int), .int .u8 (x.Sum.e12.toNat : Int), .int .u8 (x.Sum.e13.toNat : Int), .int .u8 (x.Sum.e14.toNat : Int), .int .u8 (x.Sum.e15.toNat : Int)] := by
  obtain ⟨c1, r1, rfl, g1, e1⟩ := h.acons
  obtain rfl := g1.val_inv
  obtain ⟨c2, r2, rfl, g2, e2⟩ := e1.acons
  have g2 := g2
  obtain ⟨c3, r3, rfl, g3, e3⟩ := g2.acons
  obtain rfl := g3.val_inv
  obtain ⟨c4, r4, rfl, g4, e4⟩ := e3.acons
  obtain rfl := g4.val_inv
  obtain ⟨c5, r5, rfl, g5, e5⟩ := e4.acons
  obtain rfl := g5.val_inv
  obtain ⟨c6, r6, rfl, g6, e6⟩ := e5.acons
  obtain rfl := g6.val_inv
  obtain ⟨c7, r7, rfl, g7, e7⟩ := e6.acons
  obtain rfl := g7.val_inv
  obtain ⟨c8, r8, rfl, g8, e8⟩ := e7.acons
  obtain rfl := g8.val_inv
  obtain ⟨c9, r9, rfl, g9, e9⟩ := e8.acons
  obtain rfl := g9.val_inv
  obtain ⟨c10, r10, rfl, g10, e10⟩ := e9.acons
  obtain rfl := g10.val_inv
  obtain ⟨c11, r11, rfl, g11, e11⟩ := e10.acons
  obtain rfl := g11.val_inv
  obtain ⟨c12, r12, rfl, g12, e12⟩ := e11.acons
  obtain rfl := g12.val_inv
  obtain ⟨c13, r13, rfl, g13, e13⟩ := e12.acons
  obtain rfl := g13.val_inv
  obtain ⟨c14, r14, rfl, g14, e14⟩ := e13.acons
  obtain rfl := g14.val_inv
  obtain ⟨c15, r15, rfl, g15, e15⟩ := e14.acons
  obtain rfl := g15.val_inv
  obtain ⟨c16, r16, rfl, g16, e16⟩ := e15.acons
  obtain rfl := g16.val_inv
  obtain ⟨c17, r17, rfl, g17, e17⟩ := e16.acons
  obtain rfl := g17.val_inv
  obtain ⟨c18, r18, rfl, g18, e18⟩ := e17.acons
  obtain rfl := g18.val_inv
  obtain rfl := e18.anil
  obtain rfl := e2.anil
  exact rfl
theorem clsApiRev {s : St} (x : ApiRev) : RC s [.int .u64 (x.Gen.toNat : Int), .int .u8 (x.Sum.e0.toNat : Int), .int .u8 (x.Sum.e1.toNat : Int), .int .u8 (x.Sum.e2.toNat : Int), .int .u8 (x.Sum.e3.toNat : Int), .int .u8 (x.Sum.e4.toNat : Int), .int .u8 (x.Sum.e5.toNat : Int), .int .u8 (x.Sum.e6.toNat : Int), .int .u8 (x.Sum.e7.toNat : Int), .int .u8 (x.Sum.e8.toNat : Int), .int .u8 (x.Sum.e9.toNat : Int), .int .u8 (x.Sum.e10.toNat : Int), .int .u8 (x.Sum.e11.toNat : Int), .int .u8 (x.Sum.e12.toNat : Int), .int .u8 (x.Sum.e13.toNat : Int), .int .u8 (x.Sum.e14.toNat : Int), .int .u8 (x.Sum.e15.toNat : Int)] (dApiRev x) := (RC.mkc (RC.val _ rfl) (RC.mkc (RC.mkc (RC.val _ rfl) (RC.mkc (RC.val _ rfl) (RC.mkc (RC.val _ rfl) (RC.mkc (RC.val _ rfl) (RC.mkc (RC.val _ rfl) (RC.mkc (RC.val _ rfl) (RC.mkc (RC.val _ rfl) (RC.mkc (RC.val _ rfl) (RC.mkc (RC.val _ rfl) (RC.mkc (RC.val _ rfl) (RC.mkc (RC.val _ rfl) (RC.mkc (RC.val _ rfl) (RC.mkc (RC.val _ rfl) (RC.mkc (RC.val _ rfl) (RC.mkc (RC.val _ rfl) (RC.mkc (RC.val _ rfl) RC.mkn)))))))))))))))) RC.mkn))
theorem opnApiValue {s : St} {cs : List Value} {x : ApiValue} (h : RC s cs (dApiValue x)) : ∃ v3 : Value, ∃ v4 : Value, cs = [.int .i64 x.Kind, .int .i64 x.Num, S x.Text, v3, v4] ∧ R s v3 ((dL 5 dApiValue) x.List_) ∧ R s v4 ((dL 1 dS) x.Keys) := by
  replace h : RC s cs (.agg [dI64 x.Kind, dI64 x.Num, dS x.Text, (dL 5 dApiValue) x.List_, (dL 1 dS) x.Keys]) := by have e := dsApiValue_eq x.List_; have h2 : RC s cs (.agg [dI64 x.Kind, dI64 x.Num, dS x.Text, .sl 5 (dsApiValue x.List_), (dL 1 dS) x.Keys]) := h; rw [e] at h2; exact h2
  obtain ⟨c1, r1, rfl, g1, e1⟩ := h.acons
  obtain rfl := g1.val_inv
  obtain ⟨c2, r2, rfl, g2, e2⟩ := e1.acons
  obtain rfl := g2.val_inv
  obtain ⟨c3, r3, rfl, g3, e3⟩ := e2.acons
  obtain rfl := g3.val_inv
  obtain ⟨c4, r4, rfl, g4, e4⟩ := e3.acons
  obtain ⟨v3, rfl, q3⟩ := g4.sl_inv
  obtain ⟨c5, r5, rfl, g5, e5⟩ := e4.acons
  obtain ⟨v4, rfl, q4⟩ := g5.sl_inv
  obtain rfl := e5.anil
  exact ⟨v3, v4, rfl, q3, q4⟩
theorem clsApiValue {s : St} (x : ApiValue) {v3 : Value} (q3 : R s v3 ((dL 5 dApiValue) x.List_)) {v4 : Value} (q4 : R s v4 ((dL 1 dS) x.Keys)) : RC s [.int .i64 x.Kind, .int .i64 x.Num, S x.Text, v3, v4] (dApiValue x) := by
  have e := dsApiValue_eq x.List_
  show RC s [.int .i64 x.Kind, .int .i64 x.Num, S x.Text, v3, v4] (.agg [dI64 x.Kind, dI64 x.Num, dS x.Text, .sl 5 (dsApiValue x.List_), (dL 1 dS) x.Keys])
  rw [e]
  exact (RC.mkc (RC.val _ rfl) (RC.mkc (RC.val _ rfl) (RC.mkc (RC.val _ rfl) (RC.mkc q3 (RC.mkc q4 RC.mkn)))))
theorem opnSt79 {s : St} {cs : List Value} {x : St79} (h : RC s cs (dSt79 x)) : cs = [.int .u32 (x.e0.toNat : Int), .int .u32 (x.e1.toNat : Int), .int .u32 (x.e2.toNat : Int), .int .u32 (x.e3.toNat : Int), .int .u32 (x.e4.toNat : Int), .int .u32 (x.e5.toNat : Int), .int .u32 (x.e6.toNat : Int), .int .u32 (x.e7.toNat : Int)] := by
  obtain ⟨c1, r1, rfl, g1, e1⟩ := h.acons
  obtain rfl := g1.val_inv
  obtain ⟨c2, r2, rfl, g2, e2⟩ := e1.acons
  obtain rfl := g2.val_inv
  obtain ⟨c3, r3, rfl, g3, e3⟩ := e2.acons
  obtain rfl := g3.val_inv
  obtain ⟨c4, r4, rfl, g4, e4⟩ := e3.acons
  obtain rfl := g4.val_inv
  obtain ⟨c5, r5, rfl, g5, e5⟩ := e4.acons
  obtain rfl := g5.val_inv
  obtain ⟨c6, r6, rfl, g6, e6⟩ := e5.acons
  obtain rfl := g6.val_inv
  obtain ⟨c7, r7, rfl, g7, e7⟩ := e6.acons
  obtain rfl := g7.val_inv
  obtain ⟨c8, r8, rfl, g8, e8⟩ := e7.acons
  obtain rfl := g8.val_inv
  obtain rfl := e8.anil
  exact rfl
theorem clsSt79 {s : St} (x : St79) : RC s [.int .u32 (x.e0.toNat : Int), .int .u32 (x.e1.toNat : Int), .int .u32 (x.e2.toNat : Int), .int .u32 (x.e3.toNat : Int), .int .u32 (x.e4.toNat : Int), .int .u32 (x.e5.toNat : Int), .int .u32 (x.e6.toNat : Int), .int .u32 (x.e7.toNat : Int)] (dSt79 x) := (RC.mkc (RC.val _ rfl) (RC.mkc (RC.val _ rfl) (RC.mkc (RC.val _ rfl) (RC.mkc (RC.val _ rfl) (RC.mkc (RC.val _ rfl) (RC.mkc (RC.val _ rfl) (RC.mkc (RC.val _ rfl) (RC.mkc (RC.val _ rfl) RC.mkn))))))))
theorem opnApiDigest {s : St} {cs : List Value} {x : ApiDigest} (h : RC s cs (dApiDigest x)) : ∃ v8 : Value, cs = [.int .u32 (x.H.e0.toNat : Int), .int .u32 (x.H.e1.toNat : Int), .int .u32 (x.H.e2.toNat : Int), .int .u32 (x.H.e3.toNat : Int), .int .u32 (x.H.e4.toNat : Int), .int .u32 (x.H.e5.toNat : Int), .int .u32 (x.H.e6.toNat : Int), .int .u32 (x.H.e7.toNat : Int), v8, .int .u64 (x.N.toNat : Int), .int .i64 x.Size] ∧ R s v8 ((dL 1 bD) x.Rest) := by
  obtain ⟨c1, r1, rfl, g1, e1⟩ := h.acons
  have g1 := g1
  obtain ⟨c2, r2, rfl, g2, e2⟩ := g1.acons
  obtain rfl := g2.val_inv
  obtain ⟨c3, r3, rfl, g3, e3⟩ := e2.acons
  obtain rfl := g3.val_inv
  obtain ⟨c4, r4, rfl, g4, e4⟩ := e3.acons
  obtain rfl := g4.val_inv
  obtain ⟨c5, r5, rfl, g5, e5⟩ := e4.acons
  obtain rfl := g5.val_inv
  obtain ⟨c6, r6, rfl, g6, e6⟩ := e5.acons
  obtain rfl := g6.val_inv
  obtain ⟨c7, r7, rfl, g7, e7⟩ := e6.acons
  obtain rfl := g7.val_inv
  obtain ⟨c8, r8, rfl, g8, e8⟩ := e7.acons
  obtain rfl := g8.val_inv
  obtain ⟨c9, r9, rfl, g9, e9⟩ := e8.acons
  obtain rfl := g9.val_inv
  obtain rfl := e9.anil
  obtain ⟨c10, r10, rfl, g10, e10⟩ := e1.acons
  obtain ⟨v8, rfl, q8⟩ := g10.sl_inv
  obtain ⟨c11, r11, rfl, g11, e11⟩ := e10.acons
  obtain rfl := g11.val_inv
  obtain ⟨c12, r12, rfl, g12, e12⟩ := e11.acons
  obtain rfl := g12.val_inv
  obtain rfl := e12.anil
  exact ⟨v8, rfl, q8⟩
theorem clsApiDigest {s : St} (x : ApiDigest) {v8 : Value} (q8 : R s v8 ((dL 1 bD) x.Rest)) : RC s [.int .u32 (x.H.e0.toNat : Int), .int .u32 (x.H.e1.toNat : Int), .int .u32 (x.H.e2.toNat : Int), .int .u32 (x.H.e3.toNat : Int), .int .u32 (x.H.e4.toNat : Int), .int .u32 (x.H.e5.toNat : Int), .int .u32 (x.H.e6.toNat : Int), .int .u32 (x.H.e7.toNat : Int), v8, .int .u64 (x.N.toNat : Int), .int .i64 x.Size] (dApiDigest x) := (RC.mkc (RC.mkc (RC.val _ rfl) (RC.mkc (RC.val _ rfl) (RC.mkc (RC.val _ rfl) (RC.mkc (RC.val _ rfl) (RC.mkc (RC.val _ rfl) (RC.mkc (RC.val _ rfl) (RC.mkc (RC.val _ rfl) (RC.mkc (RC.val _ rfl) RC.mkn)))))))) (RC.mkc q8 (RC.mkc (RC.val _ rfl) (RC.mkc (RC.val _ rfl) RC.mkn))))
theorem opnSt126 {s : St} {cs : List Value} {x : St126} (h : RC s cs (dSt126 x)) : cs = [.int .i64 x.e0, .int .i64 x.e1, .int .i64 x.e2, .int .i64 x.e3] := by
  obtain ⟨c1, r1, rfl, g1, e1⟩ := h.acons
  obtain rfl := g1.val_inv
  obtain ⟨c2, r2, rfl, g2, e2⟩ := e1.acons
  obtain rfl := g2.val_inv
  obtain ⟨c3, r3, rfl, g3, e3⟩ := e2.acons
  obtain rfl := g3.val_inv
  obtain ⟨c4, r4, rfl, g4, e4⟩ := e3.acons
  obtain rfl := g4.val_inv
  obtain rfl := e4.anil
  exact rfl
theorem clsSt126 {s : St} (x : St126) : RC s [.int .i64 x.e0, .int .i64 x.e1, .int .i64 x.e2, .int .i64 x.e3] (dSt126 x) := (RC.mkc (RC.val _ rfl) (RC.mkc (RC.val _ rfl) (RC.mkc (RC.val _ rfl) (RC.mkc (RC.val _ rfl) RC.mkn))))
end Go.Proofs
