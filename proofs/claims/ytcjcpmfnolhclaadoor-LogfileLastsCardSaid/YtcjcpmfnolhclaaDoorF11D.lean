import Derived.Test.YtcjcpmfnolhclaaDoorP11D
set_option linter.unusedSimpArgs false
set_option linter.unusedVariables false
namespace Go.Proofs
open Go.Fw
theorem agg118 : aggT Tryd.prog 118 256 = true := by kernel_rfl
theorem agg35 : aggT Tryd.prog 35 5 = true := by kernel_rfl
theorem agg51 : aggT Tryd.prog 51 3 = true := by kernel_rfl
theorem agg80 : aggT Tryd.prog 80 2 = true := by kernel_rfl
theorem agg82 : aggT Tryd.prog 82 2 = true := by kernel_rfl
theorem arr118 : arrT Tryd.prog 118 49 256 1 := ⟨Tryd.underlying118, by kernel_rfl⟩
theorem cal10 : Callable Tryd.prog 10 := ⟨_, Tryd.func10, by kernel_rfl, by kernel_rfl⟩
theorem cal103 : Callable Tryd.prog 103 := ⟨_, Tryd.func103, by kernel_rfl, by kernel_rfl⟩
theorem cal104 : Callable Tryd.prog 104 := ⟨_, Tryd.func104, by kernel_rfl, by kernel_rfl⟩
theorem cal105 : Callable Tryd.prog 105 := ⟨_, Tryd.func105, by kernel_rfl, by kernel_rfl⟩
theorem cal106 : Callable Tryd.prog 106 := ⟨_, Tryd.func106, by kernel_rfl, by kernel_rfl⟩
theorem cal107 : Callable Tryd.prog 107 := ⟨_, Tryd.func107, by kernel_rfl, by kernel_rfl⟩
theorem cal108 : Callable Tryd.prog 108 := ⟨_, Tryd.func108, by kernel_rfl, by kernel_rfl⟩
theorem cal11 : Callable Tryd.prog 11 := ⟨_, Tryd.func11, by kernel_rfl, by kernel_rfl⟩
theorem cal12 : Callable Tryd.prog 12 := ⟨_, Tryd.func12, by kernel_rfl, by kernel_rfl⟩
theorem cal13 : Callable Tryd.prog 13 := ⟨_, Tryd.func13, by kernel_rfl, by kernel_rfl⟩
theorem cal14 : Callable Tryd.prog 14 := ⟨_, Tryd.func14, by kernel_rfl, by kernel_rfl⟩
theorem cal15 : Callable Tryd.prog 15 := ⟨_, Tryd.func15, by kernel_rfl, by kernel_rfl⟩
theorem cal16 : Callable Tryd.prog 16 := ⟨_, Tryd.func16, by kernel_rfl, by kernel_rfl⟩
theorem cal17 : Callable Tryd.prog 17 := ⟨_, Tryd.func17, by kernel_rfl, by kernel_rfl⟩
theorem cal18 : Callable Tryd.prog 18 := ⟨_, Tryd.func18, by kernel_rfl, by kernel_rfl⟩
theorem cal19 : Callable Tryd.prog 19 := ⟨_, Tryd.func19, by kernel_rfl, by kernel_rfl⟩
theorem cal20 : Callable Tryd.prog 20 := ⟨_, Tryd.func20, by kernel_rfl, by kernel_rfl⟩
theorem cal21 : Callable Tryd.prog 21 := ⟨_, Tryd.func21, by kernel_rfl, by kernel_rfl⟩
theorem cal22 : Callable Tryd.prog 22 := ⟨_, Tryd.func22, by kernel_rfl, by kernel_rfl⟩
theorem cal23 : Callable Tryd.prog 23 := ⟨_, Tryd.func23, by kernel_rfl, by kernel_rfl⟩
theorem cal24 : Callable Tryd.prog 24 := ⟨_, Tryd.func24, by kernel_rfl, by kernel_rfl⟩
theorem cal25 : Callable Tryd.prog 25 := ⟨_, Tryd.func25, by kernel_rfl, by kernel_rfl⟩
theorem cal26 : Callable Tryd.prog 26 := ⟨_, Tryd.func26, by kernel_rfl, by kernel_rfl⟩
theorem cal27 : Callable Tryd.prog 27 := ⟨_, Tryd.func27, by kernel_rfl, by kernel_rfl⟩
theorem cal28 : Callable Tryd.prog 28 := ⟨_, Tryd.func28, by kernel_rfl, by kernel_rfl⟩
theorem cal29 : Callable Tryd.prog 29 := ⟨_, Tryd.func29, by kernel_rfl, by kernel_rfl⟩
theorem cal30 : Callable Tryd.prog 30 := ⟨_, Tryd.func30, by kernel_rfl, by kernel_rfl⟩
theorem cal31 : Callable Tryd.prog 31 := ⟨_, Tryd.func31, by kernel_rfl, by kernel_rfl⟩
theorem cal32 : Callable Tryd.prog 32 := ⟨_, Tryd.func32, by kernel_rfl, by kernel_rfl⟩
theorem cal33 : Callable Tryd.prog 33 := ⟨_, Tryd.func33, by kernel_rfl, by kernel_rfl⟩
theorem cal34 : Callable Tryd.prog 34 := ⟨_, Tryd.func34, by kernel_rfl, by kernel_rfl⟩
theorem cal35 : Callable Tryd.prog 35 := ⟨_, Tryd.func35, by kernel_rfl, by kernel_rfl⟩
theorem cal36 : Callable Tryd.prog 36 := ⟨_, Tryd.func36, by kernel_rfl, by kernel_rfl⟩
theorem cal37 : Callable Tryd.prog 37 := ⟨_, Tryd.func37, by kernel_rfl, by kernel_rfl⟩
theorem cal38 : Callable Tryd.prog 38 := ⟨_, Tryd.func38, by kernel_rfl, by kernel_rfl⟩
theorem cal39 : Callable Tryd.prog 39 := ⟨_, Tryd.func39, by kernel_rfl, by kernel_rfl⟩
theorem cal40 : Callable Tryd.prog 40 := ⟨_, Tryd.func40, by kernel_rfl, by kernel_rfl⟩
theorem cal41 : Callable Tryd.prog 41 := ⟨_, Tryd.func41, by kernel_rfl, by kernel_rfl⟩
theorem cal42 : Callable Tryd.prog 42 := ⟨_, Tryd.func42, by kernel_rfl, by kernel_rfl⟩
theorem cal43 : Callable Tryd.prog 43 := ⟨_, Tryd.func43, by kernel_rfl, by kernel_rfl⟩
theorem cal44 : Callable Tryd.prog 44 := ⟨_, Tryd.func44, by kernel_rfl, by kernel_rfl⟩
theorem cal45 : Callable Tryd.prog 45 := ⟨_, Tryd.func45, by kernel_rfl, by kernel_rfl⟩
theorem cal46 : Callable Tryd.prog 46 := ⟨_, Tryd.func46, by kernel_rfl, by kernel_rfl⟩
theorem cal47 : Callable Tryd.prog 47 := ⟨_, Tryd.func47, by kernel_rfl, by kernel_rfl⟩
theorem cal48 : Callable Tryd.prog 48 := ⟨_, Tryd.func48, by kernel_rfl, by kernel_rfl⟩
theorem cal49 : Callable Tryd.prog 49 := ⟨_, Tryd.func49, by kernel_rfl, by kernel_rfl⟩
theorem cal50 : Callable Tryd.prog 50 := ⟨_, Tryd.func50, by kernel_rfl, by kernel_rfl⟩
theorem cal51 : Callable Tryd.prog 51 := ⟨_, Tryd.func51, by kernel_rfl, by kernel_rfl⟩
theorem cal52 : Callable Tryd.prog 52 := ⟨_, Tryd.func52, by kernel_rfl, by kernel_rfl⟩
theorem cal53 : Callable Tryd.prog 53 := ⟨_, Tryd.func53, by kernel_rfl, by kernel_rfl⟩
theorem cal54 : Callable Tryd.prog 54 := ⟨_, Tryd.func54, by kernel_rfl, by kernel_rfl⟩
theorem cal55 : Callable Tryd.prog 55 := ⟨_, Tryd.func55, by kernel_rfl, by kernel_rfl⟩
theorem cal56 : Callable Tryd.prog 56 := ⟨_, Tryd.func56, by kernel_rfl, by kernel_rfl⟩
theorem cal57 : Callable Tryd.prog 57 := ⟨_, Tryd.func57, by kernel_rfl, by kernel_rfl⟩
theorem cal58 : Callable Tryd.prog 58 := ⟨_, Tryd.func58, by kernel_rfl, by kernel_rfl⟩
theorem cal59 : Callable Tryd.prog 59 := ⟨_, Tryd.func59, by kernel_rfl, by kernel_rfl⟩
theorem cal6 : Callable Tryd.prog 6 := ⟨_, Tryd.func6, by kernel_rfl, by kernel_rfl⟩
theorem cal60 : Callable Tryd.prog 60 := ⟨_, Tryd.func60, by kernel_rfl, by kernel_rfl⟩
theorem cal61 : Callable Tryd.prog 61 := ⟨_, Tryd.func61, by kernel_rfl, by kernel_rfl⟩
theorem cal62 : Callable Tryd.prog 62 := ⟨_, Tryd.func62, by kernel_rfl, by kernel_rfl⟩
theorem cal63 : Callable Tryd.prog 63 := ⟨_, Tryd.func63, by kernel_rfl, by kernel_rfl⟩
theorem cal64 : Callable Tryd.prog 64 := ⟨_, Tryd.func64, by kernel_rfl, by kernel_rfl⟩
theorem cal65 : Callable Tryd.prog 65 := ⟨_, Tryd.func65, by kernel_rfl, by kernel_rfl⟩
theorem cal7 : Callable Tryd.prog 7 := ⟨_, Tryd.func7, by kernel_rfl, by kernel_rfl⟩
theorem cal8 : Callable Tryd.prog 8 := ⟨_, Tryd.func8, by kernel_rfl, by kernel_rfl⟩
theorem cal9 : Callable Tryd.prog 9 := ⟨_, Tryd.func9, by kernel_rfl, by kernel_rfl⟩
theorem conc82 : Program.concrete Tryd.prog 82 = true := by kernel_rfl
theorem conc94 : Program.concrete Tryd.prog 94 = true := by kernel_rfl
theorem elem32 : elemT Tryd.prog 32 33 1 24 (.slice none 0 0) := elemT_of Tryd.underlying32 (by kernel_rfl) (by kernel_rfl) (by kernel_rfl) (by kernel_rfl) (by decide)
theorem elem33 : elemT Tryd.prog 33 5 1 1 (.int .u8 0) := elemT_of Tryd.underlying33 (by kernel_rfl) (by kernel_rfl) (by kernel_rfl) (by kernel_rfl) (by decide)
theorem elem59 : elemT Tryd.prog 59 76 1 24 (.slice none 0 0) := elemT_of Tryd.underlying59 (by kernel_rfl) (by kernel_rfl) (by kernel_rfl) (by kernel_rfl) (by decide)
theorem elem60 : elemT Tryd.prog 60 85 1 16 (.nilIface) := elemT_of Tryd.underlying60 (by kernel_rfl) (by kernel_rfl) (by kernel_rfl) (by kernel_rfl) (by decide)
theorem elem76 : elemT Tryd.prog 76 80 2 40 (.agg #[S [], .slice none 0 0]) := elemT_of Tryd.underlying76 (by kernel_rfl) (by kernel_rfl) (by kernel_rfl) (by kernel_rfl) (by decide)
theorem elem99 : elemT Tryd.prog 99 9 1 16 (S []) := elemT_of Tryd.underlying99 (by kernel_rfl) (by kernel_rfl) (by kernel_rfl) (by kernel_rfl) (by decide)
theorem fld35_0 : fieldT Tryd.prog 35 0 = some 0 := by kernel_rfl
theorem fld35_1 : fieldT Tryd.prog 35 1 = some 1 := by kernel_rfl
theorem fld35_2 : fieldT Tryd.prog 35 2 = some 2 := by kernel_rfl
theorem fld35_3 : fieldT Tryd.prog 35 3 = some 3 := by kernel_rfl
theorem fld35_4 : fieldT Tryd.prog 35 4 = some 4 := by kernel_rfl
theorem fld48_0 : fieldT Tryd.prog 48 0 = some 0 := by kernel_rfl
theorem fld51_0 : fieldT Tryd.prog 51 0 = some 0 := by kernel_rfl
theorem fld51_1 : fieldT Tryd.prog 51 1 = some 1 := by kernel_rfl
theorem fld51_2 : fieldT Tryd.prog 51 2 = some 2 := by kernel_rfl
theorem fld53_0 : fieldT Tryd.prog 53 0 = some 0 := by kernel_rfl
theorem fld53_1 : fieldT Tryd.prog 53 1 = some 1 := by kernel_rfl
theorem fld53_2 : fieldT Tryd.prog 53 2 = some 2 := by kernel_rfl
theorem fld53_3 : fieldT Tryd.prog 53 3 = some 3 := by kernel_rfl
theorem fld62_0 : fieldT Tryd.prog 62 0 = some 0 := by kernel_rfl
theorem fld62_1 : fieldT Tryd.prog 62 1 = some 1 := by kernel_rfl
theorem fld62_2 : fieldT Tryd.prog 62 2 = some 2 := by kernel_rfl
theorem fld64_0 : fieldT Tryd.prog 64 0 = some 0 := by kernel_rfl
theorem fld64_1 : fieldT Tryd.prog 64 1 = some 1 := by kernel_rfl
theorem fld64_2 : fieldT Tryd.prog 64 2 = some 2 := by kernel_rfl
theorem fld64_3 : fieldT Tryd.prog 64 3 = some 3 := by kernel_rfl
theorem fld64_4 : fieldT Tryd.prog 64 4 = some 4 := by kernel_rfl
theorem fld64_5 : fieldT Tryd.prog 64 5 = some 5 := by kernel_rfl
theorem fld80_0 : fieldT Tryd.prog 80 0 = some 0 := by kernel_rfl
theorem fld80_1 : fieldT Tryd.prog 80 1 = some 1 := by kernel_rfl
theorem fld82_0 : fieldT Tryd.prog 82 0 = some 0 := by kernel_rfl
theorem fld94_0 : fieldT Tryd.prog 94 0 = some 0 := by kernel_rfl
theorem meth82_next : methT Tryd.prog 82 "tidewrack/disk.next" 103 := fun _ _ => by kernel_rfl
theorem meth94_next : methT Tryd.prog 94 "tidewrack/disk.next" 108 := fun _ _ => by kernel_rfl
theorem mixed : Tryd.prog.follows .mixedOrders = true := by kernel_rfl
theorem nilA82_next : ∀ (u : Value) (w : World), (nilAhead (Tryd.prog.types.size + Made.depth) 82 u "tidewrack/disk.next").run Tryd.prog w = .ok (some false) w := fun _ _ => by kernel_rfl
theorem nilA94_next : ∀ (u : Value) (w : World), (nilAhead (Tryd.prog.types.size + Made.depth) 94 u "tidewrack/disk.next").run Tryd.prog w = .ok (some false) w := fun _ _ => by kernel_rfl
theorem noti82 : (∃ m, Tryd.prog.underlying 82 = some (.interface m)) → False := by rintro ⟨m, h⟩; rw [Tryd.underlying82] at h; cases h
theorem one23 : oneT Tryd.prog 23 = true := by kernel_rfl
theorem one29 : oneT Tryd.prog 29 = true := by kernel_rfl
theorem one3 : oneT Tryd.prog 3 = true := by kernel_rfl
theorem one32 : oneT Tryd.prog 32 = true := by kernel_rfl
theorem one33 : oneT Tryd.prog 33 = true := by kernel_rfl
theorem one4 : oneT Tryd.prog 4 = true := by kernel_rfl
theorem one49 : oneT Tryd.prog 49 = true := by kernel_rfl
theorem one5 : oneT Tryd.prog 5 = true := by kernel_rfl
theorem one59 : oneT Tryd.prog 59 = true := by kernel_rfl
theorem one60 : oneT Tryd.prog 60 = true := by kernel_rfl
theorem one76 : oneT Tryd.prog 76 = true := by kernel_rfl
theorem one85 : oneT Tryd.prog 85 = true := by kernel_rfl
theorem one9 : oneT Tryd.prog 9 = true := by kernel_rfl
theorem plc48 : placesT Tryd.prog 48 [(0, 1)] := ⟨_, Tryd.underlying48, fun _ => by kernel_rfl⟩
theorem plc51 : placesT Tryd.prog 51 [(0, 1), (1, 1), (2, 1)] := ⟨_, Tryd.underlying51, fun _ => by kernel_rfl⟩
theorem plc53 : placesT Tryd.prog 53 [(0, 1), (1, 1), (2, 1), (3, 3)] := ⟨_, Tryd.underlying53, fun _ => by kernel_rfl⟩
theorem plc62 : placesT Tryd.prog 62 [(0, 1), (1, 1), (2, 1)] := ⟨_, Tryd.underlying62, fun _ => by kernel_rfl⟩
theorem plc64 : placesT Tryd.prog 64 [(0, 1), (1, 1), (2, 1), (3, 1), (4, 1), (5, 3)] := ⟨_, Tryd.underlying64, fun _ => by kernel_rfl⟩
theorem plc80 : placesT Tryd.prog 80 [(0, 1), (1, 1)] := ⟨_, Tryd.underlying80, fun _ => by kernel_rfl⟩
theorem plc82 : placesT Tryd.prog 82 [(0, 2)] := ⟨_, Tryd.underlying82, fun _ => by kernel_rfl⟩
theorem plc94 : placesT Tryd.prog 94 [(0, 2)] := ⟨_, Tryd.underlying94, fun _ => by kernel_rfl⟩
theorem size118 : sizeT Tryd.prog 118 256 = true := by kernel_rfl
theorem size29 : sizeT Tryd.prog 29 1 = true := by kernel_rfl
theorem size3 : sizeT Tryd.prog 3 1 = true := by kernel_rfl
theorem size32 : sizeT Tryd.prog 32 1 = true := by kernel_rfl
theorem size33 : sizeT Tryd.prog 33 1 = true := by kernel_rfl
theorem size35 : sizeT Tryd.prog 35 5 = true := by kernel_rfl
theorem size4 : sizeT Tryd.prog 4 1 = true := by kernel_rfl
theorem size49 : sizeT Tryd.prog 49 1 = true := by kernel_rfl
theorem size5 : sizeT Tryd.prog 5 1 = true := by kernel_rfl
theorem size51 : sizeT Tryd.prog 51 3 = true := by kernel_rfl
theorem size59 : sizeT Tryd.prog 59 1 = true := by kernel_rfl
theorem size60 : sizeT Tryd.prog 60 1 = true := by kernel_rfl
theorem size62 : sizeT Tryd.prog 62 3 = true := by kernel_rfl
theorem size76 : sizeT Tryd.prog 76 1 = true := by kernel_rfl
theorem size80 : sizeT Tryd.prog 80 2 = true := by kernel_rfl
theorem size82 : sizeT Tryd.prog 82 2 = true := by kernel_rfl
theorem size85 : sizeT Tryd.prog 85 1 = true := by kernel_rfl
theorem size9 : sizeT Tryd.prog 9 1 = true := by kernel_rfl
theorem slc32 : sliceT Tryd.prog 32 33 1 (.slice none 0 0) := ⟨Tryd.underlying32, by kernel_rfl, by kernel_rfl, by kernel_rfl, by decide⟩
theorem slc33 : sliceT Tryd.prog 33 5 1 (.int .u8 0) := ⟨Tryd.underlying33, by kernel_rfl, by kernel_rfl, by kernel_rfl, by decide⟩
theorem slc54 : sliceT Tryd.prog 54 29 1 (.pointer none) := ⟨Tryd.underlying54, by kernel_rfl, by kernel_rfl, by kernel_rfl, by decide⟩
theorem slc59 : sliceT Tryd.prog 59 76 1 (.slice none 0 0) := ⟨Tryd.underlying59, by kernel_rfl, by kernel_rfl, by kernel_rfl, by decide⟩
theorem slc60 : sliceT Tryd.prog 60 85 1 (.nilIface) := ⟨Tryd.underlying60, by kernel_rfl, by kernel_rfl, by kernel_rfl, by decide⟩
theorem slc76 : sliceT Tryd.prog 76 80 2 (.agg #[S [], .slice none 0 0]) := ⟨Tryd.underlying76, by kernel_rfl, by kernel_rfl, by kernel_rfl, by decide⟩
theorem slc99 : sliceT Tryd.prog 99 9 1 (S []) := ⟨Tryd.underlying99, by kernel_rfl, by kernel_rfl, by kernel_rfl, by decide⟩
theorem zero118 : zeroT Tryd.prog 118 = some (.agg #[.int .u32 0, .int .u32 0, .int .u32 0, .int .u32 0, .int .u32 0, .int .u32 0, .int .u32 0, .int .u32 0, .int .u32 0, .int .u32 0, .int .u32 0, .int .u32 0, .int .u32 0, .int .u32 0, .int .u32 0, .int .u32 0, .int .u32 0, .int .u32 0, .int .u32 0, .int .u32 0, .int .u32 0, .int .u32 0, .int .u32 0, .int .u32 0, .int .u32 0, .int .u32 0, .int .u32 0, .int .u32 0, .int .u32 0, .int .u32 0, .int .u32 0, .int .u32 0, .int .u32 0, .int .u32 0, .int .u32 0, .int .u32 0, .int .u32 0, .int .u32 0, .int .u32 0, .int .u32 0, .int .u32 0, .int .u32 0, .int .u32 0, .int .u32 0, .int .u32 0, .int .u32 0, .int .u32 0, .int .u32 0, .int .u32 0, .int .u32 0, .int .u32 0, .int .u32 0, .int .u32 0, .int .u32 0, .int .u32 0, .int .u32 0, .int .u32 0, .int .u32 0, .int .u32 0, .int .u32 0, .int .u32 0, .int .u32 0, .int .u32 0, .int .u32 0, .int .u32 0, .int .u32 0, .int .u32 0, .int .u32 0, .int .u32 0, .int .u32 0, .int .u32 0, .int .u32 0, .int .u32 0, .int .u32 0, .int .u32 0, .int .u32 0, .int .u32 0, .int .u32 0, .int .u32 0, .int .u32 0, .int .u32 0, .int .u32 0, .int .u32 0, .int .u32 0, .int .u32 0, .int .u32 0, .int .u32 0, .int .u32 0, .int .u32 0, .int .u32 0, .int .u32 0, .int .u32 0, .int .u32 0, .int .u32 0, .int .u32 0, .int .u32 0, .int .u32 0, .int .u32 0, .int .u32 0, .int .u32 0, .int .u32 0, .int .u32 0, .int .u32 0, .int .u32 0, .int .u32 0, .int .u32 0, .int .u32 0, .int .u32 0, .int .u32 0, .int .u32 0, .int .u32 0, .int .u32 0, .int .u32 0, .int .u32 0, .int .u32 0, .int .u32 0, .int .u32 0, .int .u32 0, .int .u32 0, .int .u32 0, .int .u32 0, .int .u32 0, .int .u32 0, .int .u32 0, .int .u32 0, .int .u32 0, .int .u32 0, .int .u32 0, .int .u32 0, .int .u32 0, .int .u32 0, .int .u32 0, .int .u32 0, .int .u32 0, .int .u32 0, .int .u32 0, .int .u32 0, .int .u32 0, .int .u32 0, .int .u32 0, .int .u32 0, .int .u32 0, .int .u32 0, .int .u32 0, .int .u32 0, .int .u32 0, .int .u32 0, .int .u32 0, .int .u32 0, .int .u32 0, .int .u32 0, .int .u32 0, .int .u32 0, .int .u32 0, .int .u32 0, .int .u32 0, .int .u32 0, .int .u32 0, .int .u32 0, .int .u32 0, .int .u32 0, .int .u32 0, .int .u32 0, .int .u32 0, .int .u32 0, .int .u32 0, .int .u32 0, .int .u32 0, .int .u32 0, .int .u32 0, .int .u32 0, .int .u32 0, .int .u32 0, .int .u32 0, .int .u32 0, .int .u32 0, .int .u32 0, .int .u32 0, .int .u32 0, .int .u32 0, .int .u32 0, .int .u32 0, .int .u32 0, .int .u32 0, .int .u32 0, .int .u32 0, .int .u32 0, .int .u32 0, .int .u32 0, .int .u32 0, .int .u32 0, .int .u32 0, .int .u32 0, .int .u32 0, .int .u32 0, .int .u32 0, .int .u32 0, .int .u32 0, .int .u32 0, .int .u32 0, .int .u32 0, .int .u32 0, .int .u32 0, .int .u32 0, .int .u32 0, .int .u32 0, .int .u32 0, .int .u32 0, .int .u32 0, .int .u32 0, .int .u32 0, .int .u32 0, .int .u32 0, .int .u32 0, .int .u32 0, .int .u32 0, .int .u32 0, .int .u32 0, .int .u32 0, .int .u32 0, .int .u32 0, .int .u32 0, .int .u32 0, .int .u32 0, .int .u32 0, .int .u32 0, .int .u32 0, .int .u32 0, .int .u32 0, .int .u32 0, .int .u32 0, .int .u32 0, .int .u32 0, .int .u32 0, .int .u32 0, .int .u32 0, .int .u32 0, .int .u32 0, .int .u32 0, .int .u32 0, .int .u32 0, .int .u32 0, .int .u32 0, .int .u32 0, .int .u32 0, .int .u32 0, .int .u32 0, .int .u32 0, .int .u32 0, .int .u32 0, .int .u32 0, .int .u32 0, .int .u32 0, .int .u32 0, .int .u32 0, .int .u32 0]) := by kernel_rfl
theorem zero29 : zeroT Tryd.prog 29 = some (.pointer none) := by kernel_rfl
theorem zero3 : zeroT Tryd.prog 3 = some (.int .i64 0) := by kernel_rfl
theorem zero32 : zeroT Tryd.prog 32 = some (.slice none 0 0) := by kernel_rfl
theorem zero35 : zeroT Tryd.prog 35 = some (.agg #[.int .i64 0, .int .i64 0, .int .i64 0, .int .i64 0, .slice none 0 0]) := by kernel_rfl
theorem zero48 : zeroT Tryd.prog 48 = some (.agg #[.pointer none]) := by kernel_rfl
theorem zero51 : zeroT Tryd.prog 51 = some (.agg #[.int .i64 0, .int .i64 0, .int .u32 0]) := by kernel_rfl
theorem zero53 : zeroT Tryd.prog 53 = some (.agg #[.pointer none, S [], .slice none 0 0, .int .i64 0, .int .i64 0, .int .u32 0]) := by kernel_rfl
theorem zero62 : zeroT Tryd.prog 62 = some (.agg #[.int .i64 0, .int .i64 0, .int .i64 0]) := by kernel_rfl
theorem zero64 : zeroT Tryd.prog 64 = some (.agg #[.int .i64 0, .bool false, .bool false, .slice none 0 0, .slice none 0 0, .int .i64 0, .int .i64 0, .int .i64 0]) := by kernel_rfl
theorem zero80 : zeroT Tryd.prog 80 = some (.agg #[S [], .slice none 0 0]) := by kernel_rfl
theorem zero82 : zeroT Tryd.prog 82 = some (.agg #[S [], .slice none 0 0]) := by kernel_rfl
theorem zero94 : zeroT Tryd.prog 94 = some (.agg #[S [], .slice none 0 0]) := by kernel_rfl
theorem opnApiTail {s : St} {cs : List Value} {x : ApiTail} (h : RC s cs (dApiTail x)) : cs = [.int .i64 x.Count, .int .i64 x.Size, .int .u32 (x.Sum.toNat : Int)] := by
  obtain ⟨c1, r1, rfl, g1, e1⟩ := h.acons
  obtain rfl := g1.val_inv
  obtain ⟨c2, r2, rfl, g2, e2⟩ := e1.acons
  obtain rfl := g2.val_inv
  obtain ⟨c3, r3, rfl, g3, e3⟩ := e2.acons
  obtain rfl := g3.val_inv
  obtain rfl := e3.anil
  exact rfl
theorem clsApiTail {s : St} (x : ApiTail) : RC s [.int .i64 x.Count, .int .i64 x.Size, .int .u32 (x.Sum.toNat : Int)] (dApiTail x) := (RC.mkc (RC.val _ rfl) (RC.mkc (RC.val _ rfl) (RC.mkc (RC.val _ rfl) RC.mkn)))
/-- An object in memory: LogfileLog. -/
def OLogfileLog (g_0 : Value) (s : St) (k : Nat) (p : Value) (x : LogfileLog) : Prop := k ≠ 0 ∧ ∃ b, p = .pointer (some ⟨b, 0, none⟩) ∧ ∃ v2 : Value, Blk s b ⟨k, 0⟩ [g_0, S x.name, v2, .int .i64 x.tail.Count, .int .i64 x.tail.Size, .int .u32 (x.tail.Sum.toNat : Int)] 53 ∧ Own s ⟨k, 4⟩ 33 1 v2 (x.all_.map (dL 1 bD))
theorem OLogfileLog.ptr {g_0 : Value} {s : St} {k : Nat} {p : Value} {x : LogfileLog} (h : OLogfileLog g_0 s k p x) : ∃ b, p = .pointer (some ⟨b, 0, none⟩) := by obtain ⟨_, b, e, _⟩ := h; exact ⟨b, e⟩
theorem OLogfileLog.at_ {g_0 : Value} {s : St} {k b : Nat} {x : LogfileLog} (h : OLogfileLog g_0 s k (.pointer (some ⟨b, 0, none⟩)) x) : ∃ v2 : Value, Blk s b ⟨k, 0⟩ [g_0, S x.name, v2, .int .i64 x.tail.Count, .int .i64 x.tail.Size, .int .u32 (x.tail.Sum.toNat : Int)] 53 ∧ Own s ⟨k, 4⟩ 33 1 v2 (x.all_.map (dL 1 bD)) := by
  obtain ⟨_, b', e, h⟩ := h
  injection e with e; injection e with e; injection e with e
  subst e
  exact h
theorem OLogfileLog.mk_ {g_0 : Value} {s : St} {k b : Nat} (x : LogfileLog) (h0 : k ≠ 0) {v2 : Value} (g2 : Own s ⟨k, 4⟩ 33 1 v2 (x.all_.map (dL 1 bD))) (hb : Blk s b ⟨k, 0⟩ [g_0, S x.name, v2, .int .i64 x.tail.Count, .int .i64 x.tail.Size, .int .u32 (x.tail.Sum.toNat : Int)] 53) : OLogfileLog g_0 s k (.pointer (some ⟨b, 0, none⟩)) x := ⟨h0, b, rfl, ⟨v2, hb, g2⟩⟩
theorem OLogfileLog.ne {g_0 : Value} {s : St} {k : Nat} {p : Value} {x : LogfileLog} (h : OLogfileLog g_0 s k p x) : k ≠ 0 := h.1
theorem OLogfileLog.le {g_0 : Value} {s : St} {k : Nat} {p : Value} {x : LogfileLog} (h : OLogfileLog g_0 s k p x) : k ≤ s.n := by
  obtain ⟨b, rfl⟩ := h.ptr
  obtain ⟨v2, hb, g2⟩ := h.at_
  exact hb.own_le
theorem OLogfileLog.up2 {g_0 : Value} {K : Lab → Prop} {s s' : St} {k : Nat} {p : Value} {x : LogfileLog} (h : OLogfileLog g_0 s k p x) (st : Step K s s') (hk : ∀ c, c < 1000 → ¬ K ⟨k, c⟩ := by intro c hc; first | exact id | (simp only [KU, KN, KC, KO, K0, KB] <;> omega)) : OLogfileLog g_0 s' k p x := by
  obtain ⟨h0, b, e, h⟩ := h
  obtain ⟨v2, hb, g2⟩ := id h
  exact ⟨h0, b, e, ⟨v2, hb.up st (hk 0 (by decide)), g2.up st (hk 4 (by decide))⟩⟩
def OptOLogfileLog (g_0 : Value) (s : St) (k : Nat) (p : Value) : Option LogfileLog → Prop
  | none => p = .pointer none
  | some x => OLogfileLog g_0 s k p x
theorem OptOLogfileLog.le {g_0 : Value} {s : St} {k : Nat} {p : Value} {x : Option LogfileLog} (h : OptOLogfileLog g_0 s k p x) : x = none ∨ k ≤ s.n := by
  cases x with
  | none => exact .inl rfl
  | some x => have h : OLogfileLog g_0 s k p x := h; exact .inr h.le
theorem OptOLogfileLog.up2 {g_0 : Value} {K : Lab → Prop} {s s' : St} {k : Nat} {p : Value} {x : Option LogfileLog} (h : OptOLogfileLog g_0 s k p x) (st : Step K s s') (hk : k ≤ s.n → k ≠ 0 → ∀ c, c < 1000 → ¬ K ⟨k, c⟩ := by intro _ _ c hc; first | exact id | (simp only [KU, KN, KC, KO, K0, KB] <;> omega)) : OptOLogfileLog g_0 s' k p x := by
  cases x with
  | none => exact h
  | some x => have h : OLogfileLog g_0 s k p x := h; exact OLogfileLog.up2 h st (hk h.le h.ne)
theorem OptOLogfileLog.up3 {g_0 : Value} {K : Lab → Prop} {s s' : St} {k n0 : Nat} {p : Value} {x : Option LogfileLog} (h : OptOLogfileLog g_0 s k p x) (ol : x = none ∨ k ≤ n0) (st : Step K s s') (hk : k ≤ n0 → k ≠ 0 → ∀ c, c < 1000 → ¬ K ⟨k, c⟩ := by intro _ _ c hc; first | exact id | (simp only [KU, KN, KC, KO, K0, KB] <;> omega)) : OptOLogfileLog g_0 s' k p x := by
  cases x with
  | none => exact h
  | some x => have h : OLogfileLog g_0 s k p x := h; exact OLogfileLog.up2 h st (hk (ol.resolve_left (by simp)) h.ne)
theorem opnDiskFile {s : St} {cs : List Value} {x : DiskFile} (h : RC s cs (dDiskFile x)) : ∃ v1 : Value, cs = [S x.name, v1] ∧ R s v1 ((dL 1 bD) x.b) := by
  obtain ⟨c1, r1, rfl, g1, e1⟩ := h.acons
  obtain rfl := g1.val_inv
  obtain ⟨c2, r2, rfl, g2, e2⟩ := e1.acons
  obtain ⟨v1, rfl, q1⟩ := g2.sl_inv
  obtain rfl := e2.anil
  exact ⟨v1, rfl, q1⟩
theorem clsDiskFile {s : St} (x : DiskFile) {v1 : Value} (q1 : R s v1 ((dL 1 bD) x.b)) : RC s [S x.name, v1] (dDiskFile x) := (RC.mkc (RC.val _ rfl) (RC.mkc q1 RC.mkn))
theorem opnDiskPutting {s : St} {cs : List Value} {x : DiskPutting} (h : RC s cs (dDiskPutting x)) : ∃ v1 : Value, cs = [S x.file.name, v1] ∧ R s v1 ((dL 1 bD) x.file.b) := by
  obtain ⟨c1, r1, rfl, g1, e1⟩ := h.acons
  have g1 := g1
  obtain ⟨c2, r2, rfl, g2, e2⟩ := g1.acons
  obtain rfl := g2.val_inv
  obtain ⟨c3, r3, rfl, g3, e3⟩ := e2.acons
  obtain ⟨v1, rfl, q1⟩ := g3.sl_inv
  obtain rfl := e3.anil
  obtain rfl := e1.anil
  exact ⟨v1, rfl, q1⟩
theorem clsDiskPutting {s : St} (x : DiskPutting) {v1 : Value} (q1 : R s v1 ((dL 1 bD) x.file.b)) : RC s [S x.file.name, v1] (dDiskPutting x) := (RC.mkc (RC.mkc (RC.val _ rfl) (RC.mkc q1 RC.mkn)) RC.mkn)
theorem opnDiskAdding {s : St} {cs : List Value} {x : DiskAdding} (h : RC s cs (dDiskAdding x)) : ∃ v1 : Value, cs = [S x.file.name, v1] ∧ R s v1 ((dL 1 bD) x.file.b) := by
  obtain ⟨c1, r1, rfl, g1, e1⟩ := h.acons
  have g1 := g1
  obtain ⟨c2, r2, rfl, g2, e2⟩ := g1.acons
  obtain rfl := g2.val_inv
  obtain ⟨c3, r3, rfl, g3, e3⟩ := e2.acons
  obtain ⟨v1, rfl, q1⟩ := g3.sl_inv
  obtain rfl := e3.anil
  obtain rfl := e1.anil
  exact ⟨v1, rfl, q1⟩
theorem clsDiskAdding {s : St} (x : DiskAdding) {v1 : Value} (q1 : R s v1 ((dL 1 bD) x.file.b)) : RC s [S x.file.name, v1] (dDiskAdding x) := (RC.mkc (RC.mkc (RC.val _ rfl) (RC.mkc q1 RC.mkn)) RC.mkn)
theorem DiskCall.as_adding_some {e : DiskCall} {x : DiskAdding} (h : e.as_adding = some x) : e = .adding x := by cases e <;> simp [DiskCall.as_adding] at h ⊢ <;> exact h
theorem DiskCall.as_adding_none {s : St} {v : Value} {e : DiskCall} (h : e.as_adding = none) (hr : R s v (dDiskCall e)) : ∃ tu u, v = .iface tu u ∧ Nat.beq tu 82 = false := by
  cases e <;> first | (simp [DiskCall.as_adding] at h; done) | (obtain ⟨u, rfl, _⟩ := R.ifc_inv hr; exact ⟨_, u, rfl, by decide⟩)
theorem DiskCall.as_putting_some {e : DiskCall} {x : DiskPutting} (h : e.as_putting = some x) : e = .putting x := by cases e <;> simp [DiskCall.as_putting] at h ⊢ <;> exact h
theorem DiskCall.as_putting_none {s : St} {v : Value} {e : DiskCall} (h : e.as_putting = none) (hr : R s v (dDiskCall e)) : ∃ tu u, v = .iface tu u ∧ Nat.beq tu 94 = false := by
  cases e <;> first | (simp [DiskCall.as_putting] at h; done) | (obtain ⟨u, rfl, _⟩ := R.ifc_inv hr; exact ⟨_, u, rfl, by decide⟩)
theorem dDiskCall_wd (e : DiskCall) : (dDiskCall e).wd = 1 := by cases e <;> rfl
theorem dDiskCall_na (e : DiskCall) : (dDiskCall e).isAgg = false := by cases e <;> rfl
theorem nil_DiskCall_next {s : St} {v : Value} {e : DiskCall} (h : R s v (dDiskCall e)) : ∃ t u, v = .iface t u ∧ ∀ w, (nilAhead (Tryd.prog.types.size + Made.depth) t u "tidewrack/disk.next").run Tryd.prog w = .ok (some false) w := by
  cases e with
  | adding x => obtain ⟨u, rfl, _⟩ := R.ifc_inv h; exact ⟨82, u, rfl, nilA82_next u⟩
  | putting x => obtain ⟨u, rfl, _⟩ := R.ifc_inv h; exact ⟨94, u, rfl, nilA94_next u⟩
theorem opnDiskFuse {s : St} {cs : List Value} {x : DiskFuse} (h : RC s cs (dDiskFuse x)) : cs = [.int .i64 x.n, .int .i64 x.keep, .int .i64 x.torn] := by
  obtain ⟨c1, r1, rfl, g1, e1⟩ := h.acons
  obtain rfl := g1.val_inv
  obtain ⟨c2, r2, rfl, g2, e2⟩ := e1.acons
  obtain rfl := g2.val_inv
  obtain ⟨c3, r3, rfl, g3, e3⟩ := e2.acons
  obtain rfl := g3.val_inv
  obtain rfl := e3.anil
  exact rfl
theorem clsDiskFuse {s : St} (x : DiskFuse) : RC s [.int .i64 x.n, .int .i64 x.keep, .int .i64 x.torn] (dDiskFuse x) := (RC.mkc (RC.val _ rfl) (RC.mkc (RC.val _ rfl) (RC.mkc (RC.val _ rfl) RC.mkn)))
theorem opnDiskDisk {s : St} {cs : List Value} {x : DiskDisk} (h : RC s cs (dDiskDisk x)) : ∃ v3 : Value, ∃ v4 : Value, cs = [.int .i64 x.capacity, .bool x.made, .bool x.down, v3, v4, .int .i64 x.fuse.n, .int .i64 x.fuse.keep, .int .i64 x.fuse.torn] ∧ R s v3 ((dL 1 (dL 2 dDiskFile)) x.pictures) ∧ R s v4 ((dL 1 dDiskCall) x.calls) := by
  obtain ⟨c1, r1, rfl, g1, e1⟩ := h.acons
  obtain rfl := g1.val_inv
  obtain ⟨c2, r2, rfl, g2, e2⟩ := e1.acons
  obtain rfl := g2.val_inv
  obtain ⟨c3, r3, rfl, g3, e3⟩ := e2.acons
  obtain rfl := g3.val_inv
  obtain ⟨c4, r4, rfl, g4, e4⟩ := e3.acons
  obtain ⟨v3, rfl, q3⟩ := g4.sl_inv
  obtain ⟨c5, r5, rfl, g5, e5⟩ := e4.acons
  obtain ⟨v4, rfl, q4⟩ := g5.sl_inv
  obtain ⟨c6, r6, rfl, g6, e6⟩ := e5.acons
  have g6 := g6
  obtain ⟨c7, r7, rfl, g7, e7⟩ := g6.acons
  obtain rfl := g7.val_inv
  obtain ⟨c8, r8, rfl, g8, e8⟩ := e7.acons
  obtain rfl := g8.val_inv
  obtain ⟨c9, r9, rfl, g9, e9⟩ := e8.acons
  obtain rfl := g9.val_inv
  obtain rfl := e9.anil
  obtain rfl := e6.anil
  exact ⟨v3, v4, rfl, q3, q4⟩
theorem clsDiskDisk {s : St} (x : DiskDisk) {v3 : Value} (q3 : R s v3 ((dL 1 (dL 2 dDiskFile)) x.pictures)) {v4 : Value} (q4 : R s v4 ((dL 1 dDiskCall) x.calls)) : RC s [.int .i64 x.capacity, .bool x.made, .bool x.down, v3, v4, .int .i64 x.fuse.n, .int .i64 x.fuse.keep, .int .i64 x.fuse.torn] (dDiskDisk x) := (RC.mkc (RC.val _ rfl) (RC.mkc (RC.val _ rfl) (RC.mkc (RC.val _ rfl) (RC.mkc q3 (RC.mkc q4 (RC.mkc (RC.mkc (RC.val _ rfl) (RC.mkc (RC.val _ rfl) (RC.mkc (RC.val _ rfl) RC.mkn))) RC.mkn))))))
/-- An object in memory: DiskDisk. -/
def ODiskDisk (s : St) (k : Nat) (p : Value) (x : DiskDisk) : Prop := k ≠ 0 ∧ ∃ b, p = .pointer (some ⟨b, 0, none⟩) ∧ ∃ v3 : Value, ∃ v4 : Value, Blk s b ⟨k, 0⟩ [.int .i64 x.capacity, .bool x.made, .bool x.down, v3, v4, .int .i64 x.fuse.n, .int .i64 x.fuse.keep, .int .i64 x.fuse.torn] 64 ∧ Own s ⟨k, 5⟩ 76 1 v3 (x.pictures.map (dL 2 dDiskFile)) ∧ Own s ⟨k, 6⟩ 85 1 v4 (x.calls.map dDiskCall)
theorem ODiskDisk.ptr {s : St} {k : Nat} {p : Value} {x : DiskDisk} (h : ODiskDisk s k p x) : ∃ b, p = .pointer (some ⟨b, 0, none⟩) := by obtain ⟨_, b, e, _⟩ := h; exact ⟨b, e⟩
theorem ODiskDisk.at_ {s : St} {k b : Nat} {x : DiskDisk} (h : ODiskDisk s k (.pointer (some ⟨b, 0, none⟩)) x) : ∃ v3 : Value, ∃ v4 : Value, Blk s b ⟨k, 0⟩ [.int .i64 x.capacity, .bool x.made, .bool x.down, v3, v4, .int .i64 x.fuse.n, .int .i64 x.fuse.keep, .int .i64 x.fuse.torn] 64 ∧ Own s ⟨k, 5⟩ 76 1 v3 (x.pictures.map (dL 2 dDiskFile)) ∧ Own s ⟨k, 6⟩ 85 1 v4 (x.calls.map dDiskCall) := by
  obtain ⟨_, b', e, h⟩ := h
  injection e with e; injection e with e; injection e with e
  subst e
  exact h
theorem ODiskDisk.mk_ {s : St} {k b : Nat} (x : DiskDisk) (h0 : k ≠ 0) {v3 : Value} (g3 : Own s ⟨k, 5⟩ 76 1 v3 (x.pictures.map (dL 2 dDiskFile))) {v4 : Value} (g4 : Own s ⟨k, 6⟩ 85 1 v4 (x.calls.map dDiskCall)) (hb : Blk s b ⟨k, 0⟩ [.int .i64 x.capacity, .bool x.made, .bool x.down, v3, v4, .int .i64 x.fuse.n, .int .i64 x.fuse.keep, .int .i64 x.fuse.torn] 64) : ODiskDisk s k (.pointer (some ⟨b, 0, none⟩)) x := ⟨h0, b, rfl, ⟨v3, v4, hb, g3, g4⟩⟩
theorem ODiskDisk.ne {s : St} {k : Nat} {p : Value} {x : DiskDisk} (h : ODiskDisk s k p x) : k ≠ 0 := h.1
theorem ODiskDisk.le {s : St} {k : Nat} {p : Value} {x : DiskDisk} (h : ODiskDisk s k p x) : k ≤ s.n := by
  obtain ⟨b, rfl⟩ := h.ptr
  obtain ⟨v3, v4, hb, g3, g4⟩ := h.at_
  exact hb.own_le
theorem ODiskDisk.up2 {K : Lab → Prop} {s s' : St} {k : Nat} {p : Value} {x : DiskDisk} (h : ODiskDisk s k p x) (st : Step K s s') (hk : ∀ c, c < 1000 → ¬ K ⟨k, c⟩ := by intro c hc; first | exact id | (simp only [KU, KN, KC, KO, K0, KB] <;> omega)) : ODiskDisk s' k p x := by
  obtain ⟨h0, b, e, h⟩ := h
  obtain ⟨v3, v4, hb, g3, g4⟩ := id h
  exact ⟨h0, b, e, ⟨v3, v4, hb.up st (hk 0 (by decide)), g3.up st (hk 5 (by decide)), g4.up st (hk 6 (by decide))⟩⟩
def OptODiskDisk (s : St) (k : Nat) (p : Value) : Option DiskDisk → Prop
  | none => p = .pointer none
  | some x => ODiskDisk s k p x
theorem OptODiskDisk.le {s : St} {k : Nat} {p : Value} {x : Option DiskDisk} (h : OptODiskDisk s k p x) : x = none ∨ k ≤ s.n := by
  cases x with
  | none => exact .inl rfl
  | some x => have h : ODiskDisk s k p x := h; exact .inr h.le
theorem OptODiskDisk.up2 {K : Lab → Prop} {s s' : St} {k : Nat} {p : Value} {x : Option DiskDisk} (h : OptODiskDisk s k p x) (st : Step K s s') (hk : k ≤ s.n → k ≠ 0 → ∀ c, c < 1000 → ¬ K ⟨k, c⟩ := by intro _ _ c hc; first | exact id | (simp only [KU, KN, KC, KO, K0, KB] <;> omega)) : OptODiskDisk s' k p x := by
  cases x with
  | none => exact h
  | some x => have h : ODiskDisk s k p x := h; exact ODiskDisk.up2 h st (hk h.le h.ne)
theorem OptODiskDisk.up3 {K : Lab → Prop} {s s' : St} {k n0 : Nat} {p : Value} {x : Option DiskDisk} (h : OptODiskDisk s k p x) (ol : x = none ∨ k ≤ n0) (st : Step K s s') (hk : k ≤ n0 → k ≠ 0 → ∀ c, c < 1000 → ¬ K ⟨k, c⟩ := by intro _ _ c hc; first | exact id | (simp only [KU, KN, KC, KO, K0, KB] <;> omega)) : OptODiskDisk s' k p x := by
  cases x with
  | none => exact h
  | some x => have h : ODiskDisk s k p x := h; exact ODiskDisk.up2 h st (hk (ol.resolve_left (by simp)) h.ne)
theorem opnLaw11Act {s : St} {cs : List Value} {x : Law11Act} (h : RC s cs (dLaw11Act x)) : ∃ v4 : Value, cs = [.int .i64 x.Do, .int .i64 x.N, .int .i64 x.Keep, .int .i64 x.Torn, v4] ∧ R s v4 ((dL 1 bD) x.Bytes) := by
  obtain ⟨c1, r1, rfl, g1, e1⟩ := h.acons
  obtain rfl := g1.val_inv
  obtain ⟨c2, r2, rfl, g2, e2⟩ := e1.acons
  obtain rfl := g2.val_inv
  obtain ⟨c3, r3, rfl, g3, e3⟩ := e2.acons
  obtain rfl := g3.val_inv
  obtain ⟨c4, r4, rfl, g4, e4⟩ := e3.acons
  obtain rfl := g4.val_inv
  obtain ⟨c5, r5, rfl, g5, e5⟩ := e4.acons
  obtain ⟨v4, rfl, q4⟩ := g5.sl_inv
  obtain rfl := e5.anil
  exact ⟨v4, rfl, q4⟩
theorem clsLaw11Act {s : St} (x : Law11Act) {v4 : Value} (q4 : R s v4 ((dL 1 bD) x.Bytes)) : RC s [.int .i64 x.Do, .int .i64 x.N, .int .i64 x.Keep, .int .i64 x.Torn, v4] (dLaw11Act x) := (RC.mkc (RC.val _ rfl) (RC.mkc (RC.val _ rfl) (RC.mkc (RC.val _ rfl) (RC.mkc (RC.val _ rfl) (RC.mkc q4 RC.mkn)))))
end Go.Proofs
