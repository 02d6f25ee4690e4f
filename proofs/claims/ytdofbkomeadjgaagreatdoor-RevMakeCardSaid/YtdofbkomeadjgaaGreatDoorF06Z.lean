import Derived.Test.YtdofbkomeadjgaaGreatDoorP06Z
set_option linter.unusedSimpArgs false
set_option linter.unusedVariables false
namespace Go.Proofs
open Go.Fw hiding Own k_append k_append_nil k_append_str k_append_str_nil k_bslice2 k_cut_row0 Elt jBe jBn k_makeI2
open Go.FwT
theorem agg117 : aggT Tryz.prog 117 16 = true := by kernel_rfl
theorem agg120 : aggT Tryz.prog 120 10 = true := by kernel_rfl
theorem agg125 : aggT Tryz.prog 125 4 = true := by kernel_rfl
theorem agg23 : aggT Tryz.prog 23 16 = true := by kernel_rfl
theorem agg25 : aggT Tryz.prog 25 17 = true := by kernel_rfl
theorem agg29 : aggT Tryz.prog 29 5 = true := by kernel_rfl
theorem agg76 : aggT Tryz.prog 76 8 = true := by kernel_rfl
theorem agg78 : aggT Tryz.prog 78 11 = true := by kernel_rfl
theorem arr103 : arrT Tryz.prog 103 5 64 1 := ⟨Tryz.underlying103, by kernel_rfl⟩
theorem arr117 : arrT Tryz.prog 117 75 16 1 := ⟨Tryz.underlying117, by kernel_rfl⟩
theorem arr120 : arrT Tryz.prog 120 9 10 1 := ⟨Tryz.underlying120, by kernel_rfl⟩
theorem arr125 : arrT Tryz.prog 125 3 4 1 := ⟨Tryz.underlying125, by kernel_rfl⟩
theorem arr23 : arrT Tryz.prog 23 5 16 1 := ⟨Tryz.underlying23, by kernel_rfl⟩
theorem arr74 : arrT Tryz.prog 74 9 7 1 := ⟨Tryz.underlying74, by kernel_rfl⟩
theorem arr76 : arrT Tryz.prog 76 75 8 1 := ⟨Tryz.underlying76, by kernel_rfl⟩
theorem arr92 : arrT Tryz.prog 92 5 24 1 := ⟨Tryz.underlying92, by kernel_rfl⟩
theorem cal10 : Callable Tryz.prog 10 := ⟨_, Tryz.func10, by kernel_rfl, by kernel_rfl⟩
theorem cal105 : Callable Tryz.prog 105 := ⟨_, Tryz.func105, by kernel_rfl, by kernel_rfl⟩
theorem cal106 : Callable Tryz.prog 106 := ⟨_, Tryz.func106, by kernel_rfl, by kernel_rfl⟩
theorem cal107 : Callable Tryz.prog 107 := ⟨_, Tryz.func107, by kernel_rfl, by kernel_rfl⟩
theorem cal108 : Callable Tryz.prog 108 := ⟨_, Tryz.func108, by kernel_rfl, by kernel_rfl⟩
theorem cal109 : Callable Tryz.prog 109 := ⟨_, Tryz.func109, by kernel_rfl, by kernel_rfl⟩
theorem cal11 : Callable Tryz.prog 11 := ⟨_, Tryz.func11, by kernel_rfl, by kernel_rfl⟩
theorem cal12 : Callable Tryz.prog 12 := ⟨_, Tryz.func12, by kernel_rfl, by kernel_rfl⟩
theorem cal13 : Callable Tryz.prog 13 := ⟨_, Tryz.func13, by kernel_rfl, by kernel_rfl⟩
theorem cal14 : Callable Tryz.prog 14 := ⟨_, Tryz.func14, by kernel_rfl, by kernel_rfl⟩
theorem cal15 : Callable Tryz.prog 15 := ⟨_, Tryz.func15, by kernel_rfl, by kernel_rfl⟩
theorem cal16 : Callable Tryz.prog 16 := ⟨_, Tryz.func16, by kernel_rfl, by kernel_rfl⟩
theorem cal17 : Callable Tryz.prog 17 := ⟨_, Tryz.func17, by kernel_rfl, by kernel_rfl⟩
theorem cal18 : Callable Tryz.prog 18 := ⟨_, Tryz.func18, by kernel_rfl, by kernel_rfl⟩
theorem cal19 : Callable Tryz.prog 19 := ⟨_, Tryz.func19, by kernel_rfl, by kernel_rfl⟩
theorem cal20 : Callable Tryz.prog 20 := ⟨_, Tryz.func20, by kernel_rfl, by kernel_rfl⟩
theorem cal21 : Callable Tryz.prog 21 := ⟨_, Tryz.func21, by kernel_rfl, by kernel_rfl⟩
theorem cal22 : Callable Tryz.prog 22 := ⟨_, Tryz.func22, by kernel_rfl, by kernel_rfl⟩
theorem cal23 : Callable Tryz.prog 23 := ⟨_, Tryz.func23, by kernel_rfl, by kernel_rfl⟩
theorem cal24 : Callable Tryz.prog 24 := ⟨_, Tryz.func24, by kernel_rfl, by kernel_rfl⟩
theorem cal25 : Callable Tryz.prog 25 := ⟨_, Tryz.func25, by kernel_rfl, by kernel_rfl⟩
theorem cal26 : Callable Tryz.prog 26 := ⟨_, Tryz.func26, by kernel_rfl, by kernel_rfl⟩
theorem cal27 : Callable Tryz.prog 27 := ⟨_, Tryz.func27, by kernel_rfl, by kernel_rfl⟩
theorem cal28 : Callable Tryz.prog 28 := ⟨_, Tryz.func28, by kernel_rfl, by kernel_rfl⟩
theorem cal29 : Callable Tryz.prog 29 := ⟨_, Tryz.func29, by kernel_rfl, by kernel_rfl⟩
theorem cal30 : Callable Tryz.prog 30 := ⟨_, Tryz.func30, by kernel_rfl, by kernel_rfl⟩
theorem cal31 : Callable Tryz.prog 31 := ⟨_, Tryz.func31, by kernel_rfl, by kernel_rfl⟩
theorem cal32 : Callable Tryz.prog 32 := ⟨_, Tryz.func32, by kernel_rfl, by kernel_rfl⟩
theorem cal33 : Callable Tryz.prog 33 := ⟨_, Tryz.func33, by kernel_rfl, by kernel_rfl⟩
theorem cal34 : Callable Tryz.prog 34 := ⟨_, Tryz.func34, by kernel_rfl, by kernel_rfl⟩
theorem cal35 : Callable Tryz.prog 35 := ⟨_, Tryz.func35, by kernel_rfl, by kernel_rfl⟩
theorem cal36 : Callable Tryz.prog 36 := ⟨_, Tryz.func36, by kernel_rfl, by kernel_rfl⟩
theorem cal38 : Callable Tryz.prog 38 := ⟨_, Tryz.func38, by kernel_rfl, by kernel_rfl⟩
theorem cal4 : Callable Tryz.prog 4 := ⟨_, Tryz.func4, by kernel_rfl, by kernel_rfl⟩
theorem cal41 : Callable Tryz.prog 41 := ⟨_, Tryz.func41, by kernel_rfl, by kernel_rfl⟩
theorem cal43 : Callable Tryz.prog 43 := ⟨_, Tryz.func43, by kernel_rfl, by kernel_rfl⟩
theorem cal44 : Callable Tryz.prog 44 := ⟨_, Tryz.func44, by kernel_rfl, by kernel_rfl⟩
theorem cal45 : Callable Tryz.prog 45 := ⟨_, Tryz.func45, by kernel_rfl, by kernel_rfl⟩
theorem cal46 : Callable Tryz.prog 46 := ⟨_, Tryz.func46, by kernel_rfl, by kernel_rfl⟩
theorem cal47 : Callable Tryz.prog 47 := ⟨_, Tryz.func47, by kernel_rfl, by kernel_rfl⟩
theorem cal48 : Callable Tryz.prog 48 := ⟨_, Tryz.func48, by kernel_rfl, by kernel_rfl⟩
theorem cal49 : Callable Tryz.prog 49 := ⟨_, Tryz.func49, by kernel_rfl, by kernel_rfl⟩
theorem cal5 : Callable Tryz.prog 5 := ⟨_, Tryz.func5, by kernel_rfl, by kernel_rfl⟩
theorem cal50 : Callable Tryz.prog 50 := ⟨_, Tryz.func50, by kernel_rfl, by kernel_rfl⟩
theorem cal51 : Callable Tryz.prog 51 := ⟨_, Tryz.func51, by kernel_rfl, by kernel_rfl⟩
theorem cal52 : Callable Tryz.prog 52 := ⟨_, Tryz.func52, by kernel_rfl, by kernel_rfl⟩
theorem cal53 : Callable Tryz.prog 53 := ⟨_, Tryz.func53, by kernel_rfl, by kernel_rfl⟩
theorem cal54 : Callable Tryz.prog 54 := ⟨_, Tryz.func54, by kernel_rfl, by kernel_rfl⟩
theorem cal6 : Callable Tryz.prog 6 := ⟨_, Tryz.func6, by kernel_rfl, by kernel_rfl⟩
theorem cal61 : Callable Tryz.prog 61 := ⟨_, Tryz.func61, by kernel_rfl, by kernel_rfl⟩
theorem cal62 : Callable Tryz.prog 62 := ⟨_, Tryz.func62, by kernel_rfl, by kernel_rfl⟩
theorem cal63 : Callable Tryz.prog 63 := ⟨_, Tryz.func63, by kernel_rfl, by kernel_rfl⟩
theorem cal64 : Callable Tryz.prog 64 := ⟨_, Tryz.func64, by kernel_rfl, by kernel_rfl⟩
theorem cal66 : Callable Tryz.prog 66 := ⟨_, Tryz.func66, by kernel_rfl, by kernel_rfl⟩
theorem cal67 : Callable Tryz.prog 67 := ⟨_, Tryz.func67, by kernel_rfl, by kernel_rfl⟩
theorem cal68 : Callable Tryz.prog 68 := ⟨_, Tryz.func68, by kernel_rfl, by kernel_rfl⟩
theorem cal69 : Callable Tryz.prog 69 := ⟨_, Tryz.func69, by kernel_rfl, by kernel_rfl⟩
theorem cal7 : Callable Tryz.prog 7 := ⟨_, Tryz.func7, by kernel_rfl, by kernel_rfl⟩
theorem cal70 : Callable Tryz.prog 70 := ⟨_, Tryz.func70, by kernel_rfl, by kernel_rfl⟩
theorem cal71 : Callable Tryz.prog 71 := ⟨_, Tryz.func71, by kernel_rfl, by kernel_rfl⟩
theorem cal72 : Callable Tryz.prog 72 := ⟨_, Tryz.func72, by kernel_rfl, by kernel_rfl⟩
theorem cal73 : Callable Tryz.prog 73 := ⟨_, Tryz.func73, by kernel_rfl, by kernel_rfl⟩
theorem cal74 : Callable Tryz.prog 74 := ⟨_, Tryz.func74, by kernel_rfl, by kernel_rfl⟩
theorem cal75 : Callable Tryz.prog 75 := ⟨_, Tryz.func75, by kernel_rfl, by kernel_rfl⟩
theorem cal76 : Callable Tryz.prog 76 := ⟨_, Tryz.func76, by kernel_rfl, by kernel_rfl⟩
theorem cal77 : Callable Tryz.prog 77 := ⟨_, Tryz.func77, by kernel_rfl, by kernel_rfl⟩
theorem cal8 : Callable Tryz.prog 8 := ⟨_, Tryz.func8, by kernel_rfl, by kernel_rfl⟩
theorem cal89 : Callable Tryz.prog 89 := ⟨_, Tryz.func89, by kernel_rfl, by kernel_rfl⟩
theorem cal9 : Callable Tryz.prog 9 := ⟨_, Tryz.func9, by kernel_rfl, by kernel_rfl⟩
theorem cal90 : Callable Tryz.prog 90 := ⟨_, Tryz.func90, by kernel_rfl, by kernel_rfl⟩
theorem cal91 : Callable Tryz.prog 91 := ⟨_, Tryz.func91, by kernel_rfl, by kernel_rfl⟩
theorem cal92 : Callable Tryz.prog 92 := ⟨_, Tryz.func92, by kernel_rfl, by kernel_rfl⟩
theorem cal93 : Callable Tryz.prog 93 := ⟨_, Tryz.func93, by kernel_rfl, by kernel_rfl⟩
theorem cal94 : Callable Tryz.prog 94 := ⟨_, Tryz.func94, by kernel_rfl, by kernel_rfl⟩
theorem cal95 : Callable Tryz.prog 95 := ⟨_, Tryz.func95, by kernel_rfl, by kernel_rfl⟩
theorem cal96 : Callable Tryz.prog 96 := ⟨_, Tryz.func96, by kernel_rfl, by kernel_rfl⟩
theorem cal97 : Callable Tryz.prog 97 := ⟨_, Tryz.func97, by kernel_rfl, by kernel_rfl⟩
theorem cal98 : Callable Tryz.prog 98 := ⟨_, Tryz.func98, by kernel_rfl, by kernel_rfl⟩
theorem cal99 : Callable Tryz.prog 99 := ⟨_, Tryz.func99, by kernel_rfl, by kernel_rfl⟩
theorem elem119 : elemT Tryz.prog 119 75 1 4 (.int .u32 0) := elemT_of Tryz.underlying119 (by kernel_rfl) (by kernel_rfl) (by kernel_rfl) (by kernel_rfl) (by decide)
theorem elem43 : elemT Tryz.prog 43 5 1 1 (.int .u8 0) := elemT_of Tryz.underlying43 (by kernel_rfl) (by kernel_rfl) (by kernel_rfl) (by kernel_rfl) (by decide)
theorem flatB25 : flatB Tryz.prog 25 .u64 16 := by
  refine ⟨by kernel_rfl, by kernel_rfl, by kernel_rfl, ?_⟩
  simp only [Program.fieldsOf, Tryz.underlying25]
  exact ⟨_, _, 5, rfl, by decide, by decide, rfl, rfl, Tryz.underlying22, Tryz.underlying23, Tryz.underlying5, by unfold sizeT; kernel_rfl, by unfold sizeT; kernel_rfl⟩
theorem fld25_0 : fieldT Tryz.prog 25 0 = some 0 := by kernel_rfl
theorem fld25_1 : fieldT Tryz.prog 25 1 = some 1 := by kernel_rfl
theorem fld29_0 : fieldT Tryz.prog 29 0 = some 0 := by kernel_rfl
theorem fld29_1 : fieldT Tryz.prog 29 1 = some 1 := by kernel_rfl
theorem fld29_2 : fieldT Tryz.prog 29 2 = some 2 := by kernel_rfl
theorem fld29_3 : fieldT Tryz.prog 29 3 = some 3 := by kernel_rfl
theorem fld29_4 : fieldT Tryz.prog 29 4 = some 4 := by kernel_rfl
theorem fld78_0 : fieldT Tryz.prog 78 0 = some 0 := by kernel_rfl
theorem fld78_1 : fieldT Tryz.prog 78 1 = some 8 := by kernel_rfl
theorem fld78_2 : fieldT Tryz.prog 78 2 = some 9 := by kernel_rfl
theorem fld78_3 : fieldT Tryz.prog 78 3 = some 10 := by kernel_rfl
theorem mixed : Tryz.prog.follows .mixedOrders = true := by kernel_rfl
theorem one140 : oneT Tryz.prog 140 = true := by kernel_rfl
theorem one2 : oneT Tryz.prog 2 = true := by kernel_rfl
theorem one22 : oneT Tryz.prog 22 = true := by kernel_rfl
theorem one26 : oneT Tryz.prog 26 = true := by kernel_rfl
theorem one27 : oneT Tryz.prog 27 = true := by kernel_rfl
theorem one3 : oneT Tryz.prog 3 = true := by kernel_rfl
theorem one4 : oneT Tryz.prog 4 = true := by kernel_rfl
theorem one43 : oneT Tryz.prog 43 = true := by kernel_rfl
theorem one5 : oneT Tryz.prog 5 = true := by kernel_rfl
theorem one68 : oneT Tryz.prog 68 = true := by kernel_rfl
theorem one75 : oneT Tryz.prog 75 = true := by kernel_rfl
theorem one9 : oneT Tryz.prog 9 = true := by kernel_rfl
theorem plc25 : placesT Tryz.prog 25 [(0, 1), (1, 16)] := ⟨_, Tryz.underlying25, fun _ => by kernel_rfl⟩
theorem plc29 : placesT Tryz.prog 29 [(0, 1), (1, 1), (2, 1), (3, 1), (4, 1)] := ⟨_, Tryz.underlying29, fun _ => by kernel_rfl⟩
theorem plc78 : placesT Tryz.prog 78 [(0, 8), (8, 1), (9, 1), (10, 1)] := ⟨_, Tryz.underlying78, fun _ => by kernel_rfl⟩
theorem size117 : sizeT Tryz.prog 117 16 = true := by kernel_rfl
theorem size120 : sizeT Tryz.prog 120 10 = true := by kernel_rfl
theorem size125 : sizeT Tryz.prog 125 4 = true := by kernel_rfl
theorem size140 : sizeT Tryz.prog 140 1 = true := by kernel_rfl
theorem size2 : sizeT Tryz.prog 2 1 = true := by kernel_rfl
theorem size22 : sizeT Tryz.prog 22 1 = true := by kernel_rfl
theorem size23 : sizeT Tryz.prog 23 16 = true := by kernel_rfl
theorem size25 : sizeT Tryz.prog 25 17 = true := by kernel_rfl
theorem size26 : sizeT Tryz.prog 26 1 = true := by kernel_rfl
theorem size27 : sizeT Tryz.prog 27 1 = true := by kernel_rfl
theorem size29 : sizeT Tryz.prog 29 5 = true := by kernel_rfl
theorem size3 : sizeT Tryz.prog 3 1 = true := by kernel_rfl
theorem size4 : sizeT Tryz.prog 4 1 = true := by kernel_rfl
theorem size43 : sizeT Tryz.prog 43 1 = true := by kernel_rfl
theorem size5 : sizeT Tryz.prog 5 1 = true := by kernel_rfl
theorem size68 : sizeT Tryz.prog 68 1 = true := by kernel_rfl
theorem size75 : sizeT Tryz.prog 75 1 = true := by kernel_rfl
theorem size76 : sizeT Tryz.prog 76 8 = true := by kernel_rfl
theorem size78 : sizeT Tryz.prog 78 11 = true := by kernel_rfl
theorem size9 : sizeT Tryz.prog 9 1 = true := by kernel_rfl
theorem slc119 : sliceT Tryz.prog 119 75 1 (.int .u32 0) := ⟨Tryz.underlying119, by kernel_rfl, by kernel_rfl, by kernel_rfl, by decide⟩
theorem slc129 : sliceT Tryz.prog 129 68 1 (.slice none 0 0) := ⟨Tryz.underlying129, by kernel_rfl, by kernel_rfl, by kernel_rfl, by decide⟩
theorem slc43 : sliceT Tryz.prog 43 5 1 (.int .u8 0) := ⟨Tryz.underlying43, by kernel_rfl, by kernel_rfl, by kernel_rfl, by decide⟩
theorem slc60 : sliceT Tryz.prog 60 25 17 (.agg #[.int .u64 0, .int .u8 0, .int .u8 0, .int .u8 0, .int .u8 0, .int .u8 0, .int .u8 0, .int .u8 0, .int .u8 0, .int .u8 0, .int .u8 0, .int .u8 0, .int .u8 0, .int .u8 0, .int .u8 0, .int .u8 0, .int .u8 0]) := ⟨Tryz.underlying60, by kernel_rfl, by kernel_rfl, by kernel_rfl, by decide⟩
theorem slc62 : sliceT Tryz.prog 62 43 1 (.slice none 0 0) := ⟨Tryz.underlying62, by kernel_rfl, by kernel_rfl, by kernel_rfl, by decide⟩
theorem slc68 : sliceT Tryz.prog 68 3 1 (.int .i64 0) := ⟨Tryz.underlying68, by kernel_rfl, by kernel_rfl, by kernel_rfl, by decide⟩
theorem zero103 : zeroT Tryz.prog 103 = some (.agg #[.int .u8 0, .int .u8 0, .int .u8 0, .int .u8 0, .int .u8 0, .int .u8 0, .int .u8 0, .int .u8 0, .int .u8 0, .int .u8 0, .int .u8 0, .int .u8 0, .int .u8 0, .int .u8 0, .int .u8 0, .int .u8 0, .int .u8 0, .int .u8 0, .int .u8 0, .int .u8 0, .int .u8 0, .int .u8 0, .int .u8 0, .int .u8 0, .int .u8 0, .int .u8 0, .int .u8 0, .int .u8 0, .int .u8 0, .int .u8 0, .int .u8 0, .int .u8 0, .int .u8 0, .int .u8 0, .int .u8 0, .int .u8 0, .int .u8 0, .int .u8 0, .int .u8 0, .int .u8 0, .int .u8 0, .int .u8 0, .int .u8 0, .int .u8 0, .int .u8 0, .int .u8 0, .int .u8 0, .int .u8 0, .int .u8 0, .int .u8 0, .int .u8 0, .int .u8 0, .int .u8 0, .int .u8 0, .int .u8 0, .int .u8 0, .int .u8 0, .int .u8 0, .int .u8 0, .int .u8 0, .int .u8 0, .int .u8 0, .int .u8 0, .int .u8 0]) := by kernel_rfl
theorem zero117 : zeroT Tryz.prog 117 = some (.agg #[.int .u32 0, .int .u32 0, .int .u32 0, .int .u32 0, .int .u32 0, .int .u32 0, .int .u32 0, .int .u32 0, .int .u32 0, .int .u32 0, .int .u32 0, .int .u32 0, .int .u32 0, .int .u32 0, .int .u32 0, .int .u32 0]) := by kernel_rfl
theorem zero120 : zeroT Tryz.prog 120 = some (.agg #[S [], S [], S [], S [], S [], S [], S [], S [], S [], S []]) := by kernel_rfl
theorem zero125 : zeroT Tryz.prog 125 = some (.agg #[.int .i64 0, .int .i64 0, .int .i64 0, .int .i64 0]) := by kernel_rfl
theorem zero140 : zeroT Tryz.prog 140 = some (.pointer none) := by kernel_rfl
theorem zero23 : zeroT Tryz.prog 23 = some (.agg #[.int .u8 0, .int .u8 0, .int .u8 0, .int .u8 0, .int .u8 0, .int .u8 0, .int .u8 0, .int .u8 0, .int .u8 0, .int .u8 0, .int .u8 0, .int .u8 0, .int .u8 0, .int .u8 0, .int .u8 0, .int .u8 0]) := by kernel_rfl
theorem zero25 : zeroT Tryz.prog 25 = some (.agg #[.int .u64 0, .int .u8 0, .int .u8 0, .int .u8 0, .int .u8 0, .int .u8 0, .int .u8 0, .int .u8 0, .int .u8 0, .int .u8 0, .int .u8 0, .int .u8 0, .int .u8 0, .int .u8 0, .int .u8 0, .int .u8 0, .int .u8 0]) := by kernel_rfl
theorem zero29 : zeroT Tryz.prog 29 = some (.agg #[.int .i64 0, .int .i64 0, S [], .slice none 0 0, .slice none 0 0]) := by kernel_rfl
theorem zero3 : zeroT Tryz.prog 3 = some (.int .i64 0) := by kernel_rfl
theorem zero4 : zeroT Tryz.prog 4 = some (.bool false) := by kernel_rfl
theorem zero74 : zeroT Tryz.prog 74 = some (.agg #[S [], S [], S [], S [], S [], S [], S []]) := by kernel_rfl
theorem zero76 : zeroT Tryz.prog 76 = some (.agg #[.int .u32 0, .int .u32 0, .int .u32 0, .int .u32 0, .int .u32 0, .int .u32 0, .int .u32 0, .int .u32 0]) := by kernel_rfl
theorem zero78 : zeroT Tryz.prog 78 = some (.agg #[.int .u32 0, .int .u32 0, .int .u32 0, .int .u32 0, .int .u32 0, .int .u32 0, .int .u32 0, .int .u32 0, .slice none 0 0, .int .u64 0, .int .i64 0]) := by kernel_rfl
theorem zero9 : zeroT Tryz.prog 9 = some (S []) := by kernel_rfl
theorem zero92 : zeroT Tryz.prog 92 = some (.agg #[.int .u8 0, .int .u8 0, .int .u8 0, .int .u8 0, .int .u8 0, .int .u8 0, .int .u8 0, .int .u8 0, .int .u8 0, .int .u8 0, .int .u8 0, .int .u8 0, .int .u8 0, .int .u8 0, .int .u8 0, .int .u8 0, .int .u8 0, .int .u8 0, .int .u8 0, .int .u8 0, .int .u8 0, .int .u8 0, .int .u8 0, .int .u8 0]) := by kernel_rfl
theorem opnSt23 {s : St} {cs : List Value} {x : St23} (h : RC s cs (dSt23 x)) : cs = [.int .u8 (x.e0.toNat : Int), .int .u8 (x.e1.toNat : Int), .int .u8 (x.e2.toNat : Int), .int .u8 (x.e3.toNat : Int), .int .u8 (x.e4.toNat : Int), .int .u8 (x.e5.toNat : Int), .int .u8 (x.e6.toNat : Int), .int .u8 (x.e7.toNat : Int), .int .u8 (x.e8.toNat : Int), .int .u8 (x.e9.toNat : Int), .int .u8 (x.e10.toNat : Int), .int .u8 (x.e11.toNat : Int), .int .u8 (x.e12.toNat : Int), .int .u8 (x.e13.toNat : Int), .int .u8 (x.e14.toNat : Int), .int .u8 (x.e15.toNat : Int)] := by
  obtain ⟨c1, r1, rfl, g1, e1⟩ := h.acons
  obtain rfl := g1.val_inv
  obtain ⟨c2, r2, rfl, g2, e2⟩ := e1.acons
  obtain rfl := g2.val_inv
  obtain ⟨c3, r3, rfl, g3, e3⟩ := e2.acons
  obtain rfl := g3.val_inv
  obtain ⟨c4, r4, rfl, g4, e4⟩ := e3.acons
  obtain rfl := g4.val_inv
  obtain ⟨c5, r5, rfl, g5, e5⟩ := e4.acons
  obtain rfl := g5.val_inv
  obtain ⟨c6, r6, rfl, g6, e6⟩ := e5.acons
  obtain rfl := g6.val_inv
  obtain ⟨c7, r7, rfl, g7, e7⟩ := e6.acons
  obtain rfl := g7.val_inv
  obtain ⟨c8, r8, rfl, g8, e8⟩ := e7.acons
  obtain rfl := g8.val_inv
  obtain ⟨c9, r9, rfl, g9, e9⟩ := e8.acons
  obtain rfl := g9.val_inv
  obtain ⟨c10, r10, rfl, g10, e10⟩ := e9.acons
  obtain rfl := g10.val_inv
  obtain ⟨c11, r11, rfl, g11, e11⟩ := e10.acons
  obtain rfl := g11.val_inv
  obtain ⟨c12, r12, rfl, g12, e12⟩ := e11.acons
  obtain rfl := g12.val_inv
  obtain ⟨c13, r13, rfl, g13, e13⟩ := e12.acons
  obtain rfl := g13.val_inv
  obtain ⟨c14, r14, rfl, g14, e14⟩ := e13.acons
  obtain rfl := g14.val_inv
  obtain ⟨c15, r15, rfl, g15, e15⟩ := e14.acons
  obtain rfl := g15.val_inv
  obtain ⟨c16, r16, rfl, g16, e16⟩ := e15.acons
  obtain rfl := g16.val_inv
  obtain rfl := e16.anil
  exact rfl
theorem clsSt23 {s : St} (x : St23) : RC s [.int .u8 (x.e0.toNat : Int), .int .u8 (x.e1.toNat : Int), .int .u8 (x.e2.toNat : Int), .int .u8 (x.e3.toNat : Int), .int .u8 (x.e4.toNat : Int), .int .u8 (x.e5.toNat : Int), .int .u8 (x.e6.toNat : Int), .int .u8 (x.e7.toNat : Int), .int .u8 (x.e8.toNat : Int), .int .u8 (x.e9.toNat : Int), .int .u8 (x.e10.toNat : Int), .int .u8 (x.e11.toNat : Int), .int .u8 (x.e12.toNat : Int), .int .u8 (x.e13.toNat : Int), .int .u8 (x.e14.toNat : Int), .int .u8 (x.e15.toNat : Int)] (dSt23 x) := (RC.mkc (RC.val _ rfl) (RC.mkc (RC.val _ rfl) (RC.mkc (RC.val _ rfl) (RC.mkc (RC.val _ rfl) (RC.mkc (RC.val _ rfl) (RC.mkc (RC.val _ rfl) (RC.mkc (RC.val _ rfl) (RC.mkc (RC.val _ rfl) (RC.mkc (RC.val _ rfl) (RC.mkc (RC.val _ rfl) (RC.mkc (RC.val _ rfl) (RC.mkc (RC.val _ rfl) (RC.mkc (RC.val _ rfl) (RC.mkc (RC.val _ rfl) (RC.mkc (RC.val _ rfl) (RC.mkc (RC.val _ rfl) RC.mkn))))))))))))))))
theorem opnApiRev {s : St} {cs : List Value} {x : ApiRev} (h : RC s cs (dApiRev x)) : cs = [.int .u64 (x.Gen.toNat : Int), .int .u8 (x.Sum.e0.toNat : Int), .int .u8 (x.Sum.e1.toNat : Int), .int .u8 (x.Sum.e2.toNat : Int), .int .u8 (x.Sum.e3.toNat : Int), .int .u8 (x.Sum.e4.toNat : Int), .int .u8 (x.Sum.e5.toNat : Int), .int .u8 (x.Sum.e6.toNat : Int), .int .u8 (x.Sum.e7.toNat : Int), .int .u8 (x.Sum.e8.toNat : Int), .int .u8 (x.Sum.e9.toNat : Int), .int .u8 (x.Sum.e10.toNat : Int), .int .u8 (x.Sum.e11.toNat : Int), .int .u8 (x.Sum.e12.toNat : Int), .int .u8 (x.Sum.e13.toNat : Int), .int .u8 (x.Sum.e14.toNat : Int), .int .u8 (x.Sum.e15.toNat : Int)] := by
  obtain ⟨c1, r1, rfl, g1, e1⟩ := h.acons
  obtain rfl := g1.val_inv
  obtain ⟨c2, r2, rfl, g2, e2⟩ := e1.acons
  have g2 := g2
  obtain ⟨c3, r3, rfl, g3, e3⟩ := g2.acons
  obtain rfl := g3.val_inv
  obtain ⟨c4, r4, rfl, g4, e4⟩ := e3.acons
  obtain rfl := g4.val_inv
  obtain ⟨c5, r5, rfl, g5, e5⟩ := e4.acons
  obtain rfl := g5.val_inv
  obtain ⟨c6, r6, rfl, g6, e6⟩ := e5.acons
  obtain rfl := g6.val_inv
  obtain ⟨c7, r7, rfl, g7, e7⟩ := e6.acons
  obtain rfl := g7.val_inv
  obtain ⟨c8, r8, rfl, g8, e8⟩ := e7.acons
  obtain rfl := g8.val_inv
  obtain ⟨c9, r9, rfl, g9, e9⟩ := e8.acons
  obtain rfl := g9.val_inv
  obtain ⟨c10, r10, rfl, g10, e10⟩ := e9.acons
  obtain rfl := g10.val_inv
  obtain ⟨c11, r11, rfl, g11, e11⟩ := e10.acons
  obtain rfl := g11.val_inv
  obtain ⟨c12, r12, rfl, g12, e12⟩ := e11.acons
  obtain rfl := g12.val_inv
  obtain ⟨c13, r13, rfl, g13, e13⟩ := e12.acons
  obtain rfl := g13.val_inv
  obtain ⟨c14, r14, rfl, g14, e14⟩ := e13.acons
  obtain rfl := g14.val_inv
  obtain ⟨c15, r15, rfl, g15, e15⟩ := e14.acons
  obtain rfl := g15.val_inv
  obtain ⟨c16, r16, rfl, g16, e16⟩ := e15.acons
  obtain rfl := g16.val_inv
  obtain ⟨c17, r17, rfl, g17, e17⟩ := e16.acons
  obtain rfl := g17.val_inv
  obtain ⟨c18, r18, rfl, g18, e18⟩ := e17.acons
  obtain rfl := g18.val_inv
  obtain rfl := e18.anil
  obtain rfl := e2.anil
  exact rfl
theorem clsApiRev {s : St} (x : ApiRev) : RC s [.int .u64 (x.Gen.toNat : Int), .int .u8 (x.Sum.e0.toNat : Int), .int .u8 (x.Sum.e1.toNat : Int), .int .u8 (x.Sum.e2.toNat : Int), .int .u8 (x.Sum.e3.toNat : Int), .int .u8 (x.Sum.e4.toNat : Int), .int .u8 (x.Sum.e5.toNat : Int), .int .u8 (x.Sum.e6.toNat : Int), .int .u8 (x.Sum.e7.toNat : Int), .int .u8 (x.Sum.e8.toNat : Int), .int .u8 (x.Sum.e9.toNat : Int), .int .u8 (x.Sum.e10.toNat : Int), .int .u8 (x.Sum.e11.toNat : Int), .int .u8 (x.Sum.e12.toNat : Int), .int .u8 (x.Sum.e13.toNat : Int), .int .u8 (x.Sum.e14.toNat : Int), .int .u8 (x.Sum.e15.toNat : Int)] (dApiRev x) := (RC.mkc (RC.val _ rfl) (RC.mkc (RC.mkc (RC.val _ rfl) (RC.mkc (RC.val _ rfl) (RC.mkc (RC.val _ rfl) (RC.mkc (RC.val _ rfl) (RC.mkc (RC.val _ rfl) (RC.mkc (RC.val _ rfl) (RC.mkc (RC.val _ rfl) (RC.mkc (RC.val _ rfl) (RC.mkc (RC.val _ rfl) (RC.mkc (RC.val _ rfl) (RC.mkc (RC.val _ rfl) (RC.mkc (RC.val _ rfl) (RC.mkc (RC.val _ rfl) (RC.mkc (RC.val _ rfl) (RC.mkc (RC.val _ rfl) (RC.mkc (RC.val _ rfl) RC.mkn)))))))))))))))) RC.mkn))
theorem opnApiValue {s : St} {cs : List Value} {x : ApiValue} (h : RC s cs (dApiValue x)) : ∃ v3 : Value, ∃ v4 : Value, cs = [.int .i64 x.Kind, .int .i64 x.Num, S x.Text, v3, v4] ∧ R s v3 ((dL 5 dApiValue) x.List_) ∧ R s v4 ((dL 1 dS) x.Keys) := by
  replace h : RC s cs (.agg [dI64 x.Kind, dI64 x.Num, dS x.Text, (dL 5 dApiValue) x.List_, (dL 1 dS) x.Keys]) := by have e := dsApiValue_eq x.List_; have h2 : RC s cs (.agg [dI64 x.Kind, dI64 x.Num, dS x.Text, .sl 5 (dsApiValue x.List_), (dL 1 dS) x.Keys]) := h; rw [e] at h2; exact h2
  obtain ⟨c1, r1, rfl, g1, e1⟩ := h.acons
  obtain rfl := g1.val_inv
  obtain ⟨c2, r2, rfl, g2, e2⟩ := e1.acons
  obtain rfl := g2.val_inv
  obtain ⟨c3, r3, rfl, g3, e3⟩ := e2.acons
  obtain rfl := g3.val_inv
  obtain ⟨c4, r4, rfl, g4, e4⟩ := e3.acons
  obtain ⟨v3, rfl, q3⟩ := g4.sl_inv
  obtain ⟨c5, r5, rfl, g5, e5⟩ := e4.acons
  obtain ⟨v4, rfl, q4⟩ := g5.sl_inv
  obtain rfl := e5.anil
  exact ⟨v3, v4, rfl, q3, q4⟩
theorem clsApiValue {s : St} (x : ApiValue) {v3 : Value} (q3 : R s v3 ((dL 5 dApiValue) x.List_)) {v4 : Value} (q4 : R s v4 ((dL 1 dS) x.Keys)) : RC s [.int .i64 x.Kind, .int .i64 x.Num, S x.Text, v3, v4] (dApiValue x) := by
  have e := dsApiValue_eq x.List_
  show RC s [.int .i64 x.Kind, .int .i64 x.Num, S x.Text, v3, v4] (.agg [dI64 x.Kind, dI64 x.Num, dS x.Text, .sl 5 (dsApiValue x.List_), (dL 1 dS) x.Keys])
  rw [e]
  exact (RC.mkc (RC.val _ rfl) (RC.mkc (RC.val _ rfl) (RC.mkc (RC.val _ rfl) (RC.mkc q3 (RC.mkc q4 RC.mkn)))))
theorem opnSt76 {s : St} {cs : List Value} {x : St76} (h : RC s cs (dSt76 x)) : cs = [.int .u32 (x.e0.toNat : Int), .int .u32 (x.e1.toNat : Int), .int .u32 (x.e2.toNat : Int), .int .u32 (x.e3.toNat : Int), .int .u32 (x.e4.toNat : Int), .int .u32 (x.e5.toNat : Int), .int .u32 (x.e6.toNat : Int), .int .u32 (x.e7.toNat : Int)] := by
  obtain ⟨c1, r1, rfl, g1, e1⟩ := h.acons
  obtain rfl := g1.val_inv
  obtain ⟨c2, r2, rfl, g2, e2⟩ := e1.acons
  obtain rfl := g2.val_inv
  obtain ⟨c3, r3, rfl, g3, e3⟩ := e2.acons
  obtain rfl := g3.val_inv
  obtain ⟨c4, r4, rfl, g4, e4⟩ := e3.acons
  obtain rfl := g4.val_inv
  obtain ⟨c5, r5, rfl, g5, e5⟩ := e4.acons
  obtain rfl := g5.val_inv
  obtain ⟨c6, r6, rfl, g6, e6⟩ := e5.acons
  obtain rfl := g6.val_inv
  obtain ⟨c7, r7, rfl, g7, e7⟩ := e6.acons
  obtain rfl := g7.val_inv
  obtain ⟨c8, r8, rfl, g8, e8⟩ := e7.acons
  obtain rfl := g8.val_inv
  obtain rfl := e8.anil
  exact rfl
theorem clsSt76 {s : St} (x : St76) : RC s [.int .u32 (x.e0.toNat : Int), .int .u32 (x.e1.toNat : Int), .int .u32 (x.e2.toNat : Int), .int .u32 (x.e3.toNat : Int), .int .u32 (x.e4.toNat : Int), .int .u32 (x.e5.toNat : Int), .int .u32 (x.e6.toNat : Int), .int .u32 (x.e7.toNat : Int)] (dSt76 x) := (RC.mkc (RC.val _ rfl) (RC.mkc (RC.val _ rfl) (RC.mkc (RC.val _ rfl) (RC.mkc (RC.val _ rfl) (RC.mkc (RC.val _ rfl) (RC.mkc (RC.val _ rfl) (RC.mkc (RC.val _ rfl) (RC.mkc (RC.val _ rfl) RC.mkn))))))))
theorem opnApiDigest {s : St} {cs : List Value} {x : ApiDigest} (h : RC s cs (dApiDigest x)) : ∃ v8 : Value, cs = [.int .u32 (x.H.e0.toNat : Int), .int .u32 (x.H.e1.toNat : Int), .int .u32 (x.H.e2.toNat : Int), .int .u32 (x.H.e3.toNat : Int), .int .u32 (x.H.e4.toNat : Int), .int .u32 (x.H.e5.toNat : Int), .int .u32 (x.H.e6.toNat : Int), .int .u32 (x.H.e7.toNat : Int), v8, .int .u64 (x.N.toNat : Int), .int .i64 x.Size] ∧ R s v8 ((dL 1 bD) x.Rest) := by
  obtain ⟨c1, r1, rfl, g1, e1⟩ := h.acons
  have g1 := g1
  obtain ⟨c2, r2, rfl, g2, e2⟩ := g1.acons
  obtain rfl := g2.val_inv
  obtain ⟨c3, r3, rfl, g3, e3⟩ := e2.acons
  obtain rfl := g3.val_inv
  obtain ⟨c4, r4, rfl, g4, e4⟩ := e3.acons
  obtain rfl := g4.val_inv
  obtain ⟨c5, r5, rfl, g5, e5⟩ := e4.acons
  obtain rfl := g5.val_inv
  obtain ⟨c6, r6, rfl, g6, e6⟩ := e5.acons
  obtain rfl := g6.val_inv
  obtain ⟨c7, r7, rfl, g7, e7⟩ := e6.acons
  obtain rfl := g7.val_inv
  obtain ⟨c8, r8, rfl, g8, e8⟩ := e7.acons
  obtain rfl := g8.val_inv
  obtain ⟨c9, r9, rfl, g9, e9⟩ := e8.acons
  obtain rfl := g9.val_inv
  obtain rfl := e9.anil
  obtain ⟨c10, r10, rfl, g10, e10⟩ := e1.acons
  obtain ⟨v8, rfl, q8⟩ := g10.sl_inv
  obtain ⟨c11, r11, rfl, g11, e11⟩ := e10.acons
  obtain rfl := g11.val_inv
  obtain ⟨c12, r12, rfl, g12, e12⟩ := e11.acons
  obtain rfl := g12.val_inv
  obtain rfl := e12.anil
  exact ⟨v8, rfl, q8⟩
theorem clsApiDigest {s : St} (x : ApiDigest) {v8 : Value} (q8 : R s v8 ((dL 1 bD) x.Rest)) : RC s [.int .u32 (x.H.e0.toNat : Int), .int .u32 (x.H.e1.toNat : Int), .int .u32 (x.H.e2.toNat : Int), .int .u32 (x.H.e3.toNat : Int), .int .u32 (x.H.e4.toNat : Int), .int .u32 (x.H.e5.toNat : Int), .int .u32 (x.H.e6.toNat : Int), .int .u32 (x.H.e7.toNat : Int), v8, .int .u64 (x.N.toNat : Int), .int .i64 x.Size] (dApiDigest x) := (RC.mkc (RC.mkc (RC.val _ rfl) (RC.mkc (RC.val _ rfl) (RC.mkc (RC.val _ rfl) (RC.mkc (RC.val _ rfl) (RC.mkc (RC.val _ rfl) (RC.mkc (RC.val _ rfl) (RC.mkc (RC.val _ rfl) (RC.mkc (RC.val _ rfl) RC.mkn)))))))) (RC.mkc q8 (RC.mkc (RC.val _ rfl) (RC.mkc (RC.val _ rfl) RC.mkn))))
theorem opnSt125 {s : St} {cs : List Value} {x : St125} (h : RC s cs (dSt125 x)) : cs = [.int .i64 x.e0, .int .i64 x.e1, .int .i64 x.e2, .int .i64 x.e3] := by
  obtain ⟨c1, r1, rfl, g1, e1⟩ := h.acons
  obtain rfl := g1.val_inv
  obtain ⟨c2, r2, rfl, g2, e2⟩ := e1.acons
  obtain rfl := g2.val_inv
  obtain ⟨c3, r3, rfl, g3, e3⟩ := e2.acons
  obtain rfl := g3.val_inv
  obtain ⟨c4, r4, rfl, g4, e4⟩ := e3.acons
  obtain rfl := g4.val_inv
  obtain rfl := e4.anil
  exact rfl
theorem clsSt125 {s : St} (x : St125) : RC s [.int .i64 x.e0, .int .i64 x.e1, .int .i64 x.e2, .int .i64 x.e3] (dSt125 x) := (RC.mkc (RC.val _ rfl) (RC.mkc (RC.val _ rfl) (RC.mkc (RC.val _ rfl) (RC.mkc (RC.val _ rfl) RC.mkn))))
end Go.Proofs
