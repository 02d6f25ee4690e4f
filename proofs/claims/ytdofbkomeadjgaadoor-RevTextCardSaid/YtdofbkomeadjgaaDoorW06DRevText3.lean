import Derived.Test.YtdofbkomeadjgaaDoorW06DRevText2
set_option linter.unusedSimpArgs false
set_option linter.unusedVariables false
namespace Go.Proofs
open Go.Fw
set_option maxHeartbeats 20000000 in
set_option maxRecDepth 100000 in
theorem law06_awake_w {s : St}  {r : Bool} (tb2 : Tab2 s) (tb0 : Tab0 s) (tb1 : Tab1 s) (h : law06_awake = some r) : Calls Tryd.prog 7 #[] s.w (Ret s K0 (fun s1 v => v = .bool r)) := by
 unfold law06_awake at h
 have hS := Step.r0 K0 s
 refine k_fn (rs := [0]) (args := []) Tryd.func7 rfl rfl rfl rfl ?_
 refine k_seq ?_
 refine k_region ?_
 refine k_assign rfl rfl ?_
 refine k_nil ?_
 refine k_seq ?_
 refine k_region ?_
 refine k_build plc29 zero29 rfl Parts.nil (by rfl) rfl ?_
 refine k_as (v := .agg #[.int .u64 0, .int .u8 0, .int .u8 0, .int .u8 0, .int .u8 0, .int .u8 0, .int .u8 0, .int .u8 0, .int .u8 0, .int .u8 0, .int .u8 0, .int .u8 0, .int .u8 0, .int .u8 0, .int .u8 0, .int .u8 0, .int .u8 0]) rfl ?_
 refine k_build plc34 zero34 rfl Parts.nil (by rfl) rfl ?_
 refine k_as (v := .agg #[.int .i64 0, .int .i64 0, S ([] : List UInt8), .slice none 0 0, .slice none 0 0]) rfl ?_
 obtain ⟨x1, hx1, h⟩ := ob h
 refine k_call cal11 rfl (rev_Make_w  (clsApiRev (⟨(0 : UInt64), (⟨(0 : UInt8), (0 : UInt8), (0 : UInt8), (0 : UInt8), (0 : UInt8), (0 : UInt8), (0 : UInt8), (0 : UInt8), (0 : UInt8), (0 : UInt8), (0 : UInt8), (0 : UInt8), (0 : UInt8), (0 : UInt8), (0 : UInt8), (0 : UInt8)⟩ : St27)⟩ : ApiRev)) (clsApiValue (⟨0, 0, ([] : List UInt8), [], []⟩ : ApiValue) (R.of_SL (.inl ⟨rfl, none, 0, rfl, fun _ => rfl⟩)) (R.of_SL (.inl ⟨rfl, none, 0, rfl, fun _ => rfl⟩))) tb2 hx1) rfl ?_
 rintro s1 vr1 st1 ⟨cs1_0, rfl, h1_0⟩
 have szs1 := st1.size
 have hS := hS.trans0 st1
 replace tb2 := tb2.up2 st1
 replace tb0 := tb0.up2 st1
 replace tb1 := tb1.up2 st1
 obtain rfl := opnApiRev h1_0
 refine k_move rfl rfl ?_
 refine k_extract rfl rfl rfl ?_
 refine k_extract rfl rfl rfl ?_
 refine k_alloc zero29 rfl ?_
 intro s2 b2 st2 h2 ge2
 have szs2 := st2.size
 have hS := hS.trans0 st2
 replace tb2 := tb2.up2 st2
 replace tb0 := tb0.up2 st2
 replace tb1 := tb1.up2 st2
 have lt2 := h2.lt
 refine k_store_c (cs' := [.int .u64 (x1.1.Gen.toNat : Int), .int .u8 (x1.1.Sum.e0.toNat : Int), .int .u8 (x1.1.Sum.e1.toNat : Int), .int .u8 (x1.1.Sum.e2.toNat : Int), .int .u8 (x1.1.Sum.e3.toNat : Int), .int .u8 (x1.1.Sum.e4.toNat : Int), .int .u8 (x1.1.Sum.e5.toNat : Int), .int .u8 (x1.1.Sum.e6.toNat : Int), .int .u8 (x1.1.Sum.e7.toNat : Int), .int .u8 (x1.1.Sum.e8.toNat : Int), .int .u8 (x1.1.Sum.e9.toNat : Int), .int .u8 (x1.1.Sum.e10.toNat : Int), .int .u8 (x1.1.Sum.e11.toNat : Int), .int .u8 (x1.1.Sum.e12.toNat : Int), .int .u8 (x1.1.Sum.e13.toNat : Int), .int .u8 (x1.1.Sum.e14.toNat : Int), .int .u8 (x1.1.Sum.e15.toNat : Int)]) size29 rfl rfl h2 (by first | (simp; done) | omega | (dsimp only; omega)) (CellsOf.lit rfl rfl) rfl (by first | rfl | (simp; done) | (simp; omega)) rfl ?_
 intro s3 st3 h2
 have szs3 := st3.size
 have hS := hS.c0 st3
 replace tb2 := tb2.up2 st3
 replace tb0 := tb0.up2 st3
 replace tb1 := tb1.up2 st3
 refine k_assign rfl rfl ?_
 refine k_nil ?_
 refine k_keep [(0, _), (1, _), (2, _)] ⟨rfl, rfl, rfl, trivial⟩ ?_
 refine k_seq ?_
 refine k_region ?_
 refine k_load_blka (cs := [.int .u64 (x1.1.Gen.toNat : Int), .int .u8 (x1.1.Sum.e0.toNat : Int), .int .u8 (x1.1.Sum.e1.toNat : Int), .int .u8 (x1.1.Sum.e2.toNat : Int), .int .u8 (x1.1.Sum.e3.toNat : Int), .int .u8 (x1.1.Sum.e4.toNat : Int), .int .u8 (x1.1.Sum.e5.toNat : Int), .int .u8 (x1.1.Sum.e6.toNat : Int), .int .u8 (x1.1.Sum.e7.toNat : Int), .int .u8 (x1.1.Sum.e8.toNat : Int), .int .u8 (x1.1.Sum.e9.toNat : Int), .int .u8 (x1.1.Sum.e10.toNat : Int), .int .u8 (x1.1.Sum.e11.toNat : Int), .int .u8 (x1.1.Sum.e12.toNat : Int), .int .u8 (x1.1.Sum.e13.toNat : Int), .int .u8 (x1.1.Sum.e14.toNat : Int), .int .u8 (x1.1.Sum.e15.toNat : Int)]) agg29 rfl h2 rfl ?_
 refine k_build plc34 zero34 rfl Parts.nil (by rfl) rfl ?_
 refine k_as (v := .agg #[.int .i64 0, .int .i64 0, S ([] : List UInt8), .slice none 0 0, .slice none 0 0]) rfl ?_
 obtain ⟨x2, hx2, h⟩ := ob h
 refine k_call cal11 rfl (rev_Make_w  (clsApiRev x1.1) (clsApiValue (⟨0, 0, ([] : List UInt8), [], []⟩ : ApiValue) (R.of_SL (.inl ⟨rfl, none, 0, rfl, fun _ => rfl⟩)) (R.of_SL (.inl ⟨rfl, none, 0, rfl, fun _ => rfl⟩))) tb2 hx2) rfl ?_
 rintro s4 vr4 st4 ⟨cs4_0, rfl, h4_0⟩
 have szs4 := st4.size
 have hS := hS.trans0 st4
 replace h2 := h2.up2 st4
 replace tb2 := tb2.up2 st4
 replace tb0 := tb0.up2 st4
 replace tb1 := tb1.up2 st4
 obtain rfl := opnApiRev h4_0
 refine k_move rfl rfl ?_
 refine k_extract rfl rfl rfl ?_
 refine k_extract rfl rfl rfl ?_
 refine k_alloc zero29 rfl ?_
 intro s5 b5 st5 h5 ge5
 have szs5 := st5.size
 have hS := hS.trans0 st5
 replace h2 := h2.up2 st5
 replace tb2 := tb2.up2 st5
 replace tb0 := tb0.up2 st5
 replace tb1 := tb1.up2 st5
 have lt5 := h5.lt
 refine k_store_c (cs' := [.int .u64 (x2.1.Gen.toNat : Int), .int .u8 (x2.1.Sum.e0.toNat : Int), .int .u8 (x2.1.Sum.e1.toNat : Int), .int .u8 (x2.1.Sum.e2.toNat : Int), .int .u8 (x2.1.Sum.e3.toNat : Int), .int .u8 (x2.1.Sum.e4.toNat : Int), .int .u8 (x2.1.Sum.e5.toNat : Int), .int .u8 (x2.1.Sum.e6.toNat : Int), .int .u8 (x2.1.Sum.e7.toNat : Int), .int .u8 (x2.1.Sum.e8.toNat : Int), .int .u8 (x2.1.Sum.e9.toNat : Int), .int .u8 (x2.1.Sum.e10.toNat : Int), .int .u8 (x2.1.Sum.e11.toNat : Int), .int .u8 (x2.1.Sum.e12.toNat : Int), .int .u8 (x2.1.Sum.e13.toNat : Int), .int .u8 (x2.1.Sum.e14.toNat : Int), .int .u8 (x2.1.Sum.e15.toNat : Int)]) size29 rfl rfl h5 (by first | (simp; done) | omega | (dsimp only; omega)) (CellsOf.lit rfl rfl) rfl (by first | rfl | (simp; done) | (simp; omega)) rfl ?_
 intro s6 st6 h5
 have szs6 := st6.size
 have hS := hS.c0 st6
 replace h2 := h2.up2 st6
 replace tb2 := tb2.up2 st6
 replace tb0 := tb0.up2 st6
 replace tb1 := tb1.up2 st6
 refine k_assign rfl rfl ?_
 refine k_nil ?_
 refine k_keep [(0, _), (1, _), (2, _), (3, _), (4, _)] ⟨rfl, rfl, rfl, rfl, rfl, trivial⟩ ?_
 refine k_seq ?_
 refine k_region ?_
 obtain ⟨x3, hx3, h⟩ := ob h
 refine k_call cal17 rfl (rev_Parse_w  tb0 tb1 tb2 hx3) rfl ?_
 rintro s7 vr7 st7 ⟨cs7_0, rfl, h7_0⟩
 have szs7 := st7.size
 have hS := hS.trans0 st7
 replace h2 := h2.up2 st7
 replace h5 := h5.up2 st7
 replace tb2 := tb2.up2 st7
 replace tb0 := tb0.up2 st7
 replace tb1 := tb1.up2 st7
 obtain rfl := opnApiRev h7_0
 refine k_move rfl rfl ?_
 refine k_extract rfl rfl rfl ?_
 refine k_extract rfl rfl rfl ?_
 refine k_alloc zero29 rfl ?_
 intro s8 b8 st8 h8 ge8
 have szs8 := st8.size
 have hS := hS.trans0 st8
 replace h2 := h2.up2 st8
 replace h5 := h5.up2 st8
 replace tb2 := tb2.up2 st8
 replace tb0 := tb0.up2 st8
 replace tb1 := tb1.up2 st8
 have lt8 := h8.lt
 refine k_store_c (cs' := [.int .u64 (x3.1.Gen.toNat : Int), .int .u8 (x3.1.Sum.e0.toNat : Int), .int .u8 (x3.1.Sum.e1.toNat : Int), .int .u8 (x3.1.Sum.e2.toNat : Int), .int .u8 (x3.1.Sum.e3.toNat : Int), .int .u8 (x3.1.Sum.e4.toNat : Int), .int .u8 (x3.1.Sum.e5.toNat : Int), .int .u8 (x3.1.Sum.e6.toNat : Int), .int .u8 (x3.1.Sum.e7.toNat : Int), .int .u8 (x3.1.Sum.e8.toNat : Int), .int .u8 (x3.1.Sum.e9.toNat : Int), .int .u8 (x3.1.Sum.e10.toNat : Int), .int .u8 (x3.1.Sum.e11.toNat : Int), .int .u8 (x3.1.Sum.e12.toNat : Int), .int .u8 (x3.1.Sum.e13.toNat : Int), .int .u8 (x3.1.Sum.e14.toNat : Int), .int .u8 (x3.1.Sum.e15.toNat : Int)]) size29 rfl rfl h8 (by first | (simp; done) | omega | (dsimp only; omega)) (CellsOf.lit rfl rfl) rfl (by first | rfl | (simp; done) | (simp; omega)) rfl ?_
 intro s9 st9 h8
 have szs9 := st9.size
 have hS := hS.c0 st9
 replace h2 := h2.up2 st9
 replace h5 := h5.up2 st9
 replace tb2 := tb2.up2 st9
 replace tb0 := tb0.up2 st9
 replace tb1 := tb1.up2 st9
 refine k_assign rfl rfl ?_
 refine k_nil ?_
 refine k_keep [(0, _), (1, _), (2, _), (3, _), (4, _), (5, _), (6, _)] ⟨rfl, rfl, rfl, rfl, rfl, rfl, rfl, trivial⟩ ?_
 refine k_seq ?_
 refine k_region ?_
 obtain ⟨x4, hx4, h⟩ := ob h
 refine k_call cal17 rfl (rev_Parse_w  tb0 tb1 tb2 hx4) rfl ?_
 rintro s10 vr10 st10 ⟨cs10_0, rfl, h10_0⟩
 have szs10 := st10.size
 have hS := hS.trans0 st10
 replace h2 := h2.up2 st10
 replace h5 := h5.up2 st10
 replace h8 := h8.up2 st10
 obtain rfl := opnApiRev h10_0
 refine k_move rfl rfl ?_
 refine k_extract rfl rfl rfl ?_
 refine k_extract rfl rfl rfl ?_
 refine k_alloc zero29 rfl ?_
 intro s11 b11 st11 h11 ge11
 have szs11 := st11.size
 have hS := hS.trans0 st11
 replace h2 := h2.up2 st11
 replace h5 := h5.up2 st11
 replace h8 := h8.up2 st11
 have lt11 := h11.lt
 refine k_store_c (cs' := [.int .u64 (x4.1.Gen.toNat : Int), .int .u8 (x4.1.Sum.e0.toNat : Int), .int .u8 (x4.1.Sum.e1.toNat : Int), .int .u8 (x4.1.Sum.e2.toNat : Int), .int .u8 (x4.1.Sum.e3.toNat : Int), .int .u8 (x4.1.Sum.e4.toNat : Int), .int .u8 (x4.1.Sum.e5.toNat : Int), .int .u8 (x4.1.Sum.e6.toNat : Int), .int .u8 (x4.1.Sum.e7.toNat : Int), .int .u8 (x4.1.Sum.e8.toNat : Int), .int .u8 (x4.1.Sum.e9.toNat : Int), .int .u8 (x4.1.Sum.e10.toNat : Int), .int .u8 (x4.1.Sum.e11.toNat : Int), .int .u8 (x4.1.Sum.e12.toNat : Int), .int .u8 (x4.1.Sum.e13.toNat : Int), .int .u8 (x4.1.Sum.e14.toNat : Int), .int .u8 (x4.1.Sum.e15.toNat : Int)]) size29 rfl rfl h11 (by first | (simp; done) | omega | (dsimp only; omega)) (CellsOf.lit rfl rfl) rfl (by first | rfl | (simp; done) | (simp; omega)) rfl ?_
 intro s12 st12 h11
 have szs12 := st12.size
 have hS := hS.c0 st12
 replace h2 := h2.up2 st12
 replace h5 := h5.up2 st12
 replace h8 := h8.up2 st12
 refine k_assign rfl rfl ?_
 refine k_nil ?_
 refine k_keep [(0, _), (1, _), (2, _), (3, _), (4, _), (5, _), (6, _), (8, _)] ⟨rfl, rfl, rfl, rfl, rfl, rfl, rfl, rfl, trivial⟩ ?_
 refine k_seq ?_
 refine k_region ?_
 refine k_move rfl rfl ?_
 refine k_eql rfl rfl rfl ?_
 refine k_move rfl rfl ?_
 have hE13 := Step.r0 K0 s12
 refine k_cutl (X := St) 3 [(0, .bool false), (1, .pointer (some ⟨b2, 0, none⟩)), (2, .int .i64 x1.2), (3, .pointer (some ⟨b5, 0, none⟩)), (4, .int .i64 x2.2), (5, .pointer (some ⟨b8, 0, none⟩)), (6, .int .i64 x3.2), (8, .int .i64 x4.2), (29, .int .i64 x1.2), (30, .bool (decide (x1.2 = 0)))] (fun _ => [(34, .bool (decide ((x1.2 = 0) ∧ (x2.2 = 0))))]) (fun sl wL => sl.w = wL ∧ Step K0 s12 sl) ?_ ?_
 ·
  refine k_again 31 rfl ?_
  refine k_split (fun c14 => ?_) (fun c14 => ?_)
  ·
   refine k_yes rfl rfl ?_
   refine k_move rfl rfl ?_
   refine k_yes rfl rfl ?_
   refine k_eql rfl rfl rfl ?_
   refine k_pickT rfl rfl rfl rfl ?_
   exact k_met ⟨s12, ⟨(congrArg (fun b => some (Value.bool b)) (by first | exact decide_eq_decide.2 ⟨fun h => ⟨c14, h⟩, fun h => h.2⟩ | exact (decide_eq_false (fun h => c14 h.1)).symm | (simp [c14]; done) | exact dec_andT c14 | exact dec_andF c14 | exact dec_orF c14 | exact dec_orT c14 | (simp [c14, i64] <;> omega))), trivial⟩, ⟨rfl, rfl, rfl, rfl, rfl, rfl, rfl, rfl, rfl, rfl, trivial⟩, rfl, hE13⟩
  ·
   refine k_no rfl rfl rfl rfl ?_
   refine k_no rfl rfl rfl rfl ?_
   refine k_pickF rfl rfl rfl rfl ?_
   exact k_met ⟨s12, ⟨(congrArg (fun b => some (Value.bool b)) (by first | exact decide_eq_decide.2 ⟨fun h => ⟨c14, h⟩, fun h => h.2⟩ | exact (decide_eq_false (fun h => c14 h.1)).symm | (simp [c14]; done) | exact dec_andT c14 | exact dec_andF c14 | exact dec_orF c14 | exact dec_orT c14 | (simp [c14, i64] <;> omega))), trivial⟩, ⟨rfl, rfl, rfl, rfl, rfl, rfl, rfl, rfl, rfl, rfl, trivial⟩, rfl, hE13⟩
 ·
  rintro s15 wL ⟨rfl, hE13⟩
  have szs15 := hE13.size
  have hS := hS.trans0 hE13
  replace h2 := h2.up2 hE13
  replace h5 := h5.up2 hE13
  replace h8 := h8.up2 hE13
  refine k_move rfl rfl ?_
  have hE16 := Step.r0 K0 s15
  refine k_cutl (X := St) 4 [(0, .bool false), (1, .pointer (some ⟨b2, 0, none⟩)), (2, .int .i64 x1.2), (3, .pointer (some ⟨b5, 0, none⟩)), (4, .int .i64 x2.2), (5, .pointer (some ⟨b8, 0, none⟩)), (6, .int .i64 x3.2), (8, .int .i64 x4.2), (29, .int .i64 x1.2), (30, .bool (decide (x1.2 = 0))), (34, .bool (decide ((x1.2 = 0) ∧ (x2.2 = 0))))] (fun _ => [(39, .bool (decide (((x1.2 = 0) ∧ (x2.2 = 0)) ∧ ((x1.1.Gen.toNat : Int) = 1))))]) (fun sl wL => sl.w = wL ∧ Step K0 s15 sl) ?_ ?_
  ·
   refine k_again 35 rfl ?_
   refine k_split (fun c17 => ?_) (fun c17 => ?_)
   ·
    refine k_yes rfl rfl ?_
    refine k_field_addr fld29_0 rfl rfl ?_
    refine k_yes rfl rfl ?_
    refine k_load_blk one26 rfl h2 rfl rfl ?_
    refine k_yes rfl rfl ?_
    refine k_eql rfl rfl rfl ?_
    refine k_pickT rfl rfl rfl rfl ?_
    exact k_met ⟨s15, ⟨(congrArg (fun b => some (Value.bool b)) (by first | exact decide_eq_decide.2 ⟨fun h => ⟨c17, h⟩, fun h => h.2⟩ | exact (decide_eq_false (fun h => c17 h.1)).symm | (simp [c17]; done) | exact dec_andT c17 | exact dec_andF c17 | exact dec_orF c17 | exact dec_orT c17 | (simp [c17, i64] <;> omega))), trivial⟩, ⟨rfl, rfl, rfl, rfl, rfl, rfl, rfl, rfl, rfl, rfl, rfl, trivial⟩, rfl, hE16⟩
   ·
    refine k_no rfl rfl rfl rfl ?_
    refine k_no rfl rfl rfl rfl ?_
    refine k_no rfl rfl rfl rfl ?_
    refine k_pickF rfl rfl rfl rfl ?_
    exact k_met ⟨s15, ⟨(congrArg (fun b => some (Value.bool b)) (by first | exact decide_eq_decide.2 ⟨fun h => ⟨c17, h⟩, fun h => h.2⟩ | exact (decide_eq_false (fun h => c17 h.1)).symm | (simp [c17]; done) | exact dec_andT c17 | exact dec_andF c17 | exact dec_orF c17 | exact dec_orT c17 | (simp [c17, i64] <;> omega))), trivial⟩, ⟨rfl, rfl, rfl, rfl, rfl, rfl, rfl, rfl, rfl, rfl, rfl, trivial⟩, rfl, hE16⟩
  ·
   rintro s18 wL ⟨rfl, hE16⟩
   have szs18 := hE16.size
   have hS := hS.trans0 hE16
   replace h2 := h2.up2 hE16
   replace h5 := h5.up2 hE16
   replace h8 := h8.up2 hE16
   refine k_move rfl rfl ?_
   have hE19 := Step.r0 K0 s18
   refine k_cutl (X := St) 4 [(0, .bool false), (1, .pointer (some ⟨b2, 0, none⟩)), (2, .int .i64 x1.2), (3, .pointer (some ⟨b5, 0, none⟩)), (4, .int .i64 x2.2), (5, .pointer (some ⟨b8, 0, none⟩)), (6, .int .i64 x3.2), (8, .int .i64 x4.2), (29, .int .i64 x1.2), (30, .bool (decide (x1.2 = 0))), (34, .bool (decide ((x1.2 = 0) ∧ (x2.2 = 0)))), (39, .bool (decide (((x1.2 = 0) ∧ (x2.2 = 0)) ∧ ((x1.1.Gen.toNat : Int) = 1))))] (fun _ => [(44, .bool (decide ((((x1.2 = 0) ∧ (x2.2 = 0)) ∧ ((x1.1.Gen.toNat : Int) = 1)) ∧ ((x2.1.Gen.toNat : Int) = 2))))]) (fun sl wL => sl.w = wL ∧ Step K0 s18 sl) ?_ ?_
   ·
    refine k_again 40 rfl ?_
    refine k_split (fun c20 => ?_) (fun c20 => ?_)
    ·
     refine k_yes rfl rfl ?_
     refine k_field_addr fld29_0 rfl rfl ?_
     refine k_yes rfl rfl ?_
     refine k_load_blk one26 rfl h5 rfl rfl ?_
     refine k_yes rfl rfl ?_
     refine k_eql rfl rfl rfl ?_
     refine k_pickT rfl rfl rfl rfl ?_
     exact k_met ⟨s18, ⟨(congrArg (fun b => some (Value.bool b)) (by first | exact decide_eq_decide.2 ⟨fun h => ⟨c20, h⟩, fun h => h.2⟩ | exact (decide_eq_false (fun h => c20 h.1)).symm | (simp [c20]; done) | exact dec_andT c20 | exact dec_andF c20 | exact dec_orF c20 | exact dec_orT c20 | (simp [c20, i64] <;> omega))), trivial⟩, ⟨rfl, rfl, rfl, rfl, rfl, rfl, rfl, rfl, rfl, rfl, rfl, rfl, trivial⟩, rfl, hE19⟩
    ·
     refine k_no rfl rfl rfl rfl ?_
     refine k_no rfl rfl rfl rfl ?_
     refine k_no rfl rfl rfl rfl ?_
     refine k_pickF rfl rfl rfl rfl ?_
     exact k_met ⟨s18, ⟨(congrArg (fun b => some (Value.bool b)) (by first | exact decide_eq_decide.2 ⟨fun h => ⟨c20, h⟩, fun h => h.2⟩ | exact (decide_eq_false (fun h => c20 h.1)).symm | (simp [c20]; done) | exact dec_andT c20 | exact dec_andF c20 | exact dec_orF c20 | exact dec_orT c20 | (simp [c20, i64] <;> omega))), trivial⟩, ⟨rfl, rfl, rfl, rfl, rfl, rfl, rfl, rfl, rfl, rfl, rfl, rfl, trivial⟩, rfl, hE19⟩
   ·
    rintro s21 wL ⟨rfl, hE19⟩
    have szs21 := hE19.size
    have hS := hS.trans0 hE19
    replace h2 := h2.up2 hE19
    replace h5 := h5.up2 hE19
    replace h8 := h8.up2 hE19
    refine k_move rfl rfl ?_
    have hE22 := Step.r0 K0 s21
    refine k_cutl (X := St) 3 [(0, .bool false), (1, .pointer (some ⟨b2, 0, none⟩)), (2, .int .i64 x1.2), (3, .pointer (some ⟨b5, 0, none⟩)), (4, .int .i64 x2.2), (5, .pointer (some ⟨b8, 0, none⟩)), (6, .int .i64 x3.2), (8, .int .i64 x4.2), (29, .int .i64 x1.2), (30, .bool (decide (x1.2 = 0))), (34, .bool (decide ((x1.2 = 0) ∧ (x2.2 = 0)))), (39, .bool (decide (((x1.2 = 0) ∧ (x2.2 = 0)) ∧ ((x1.1.Gen.toNat : Int) = 1)))), (44, .bool (decide ((((x1.2 = 0) ∧ (x2.2 = 0)) ∧ ((x1.1.Gen.toNat : Int) = 1)) ∧ ((x2.1.Gen.toNat : Int) = 2))))] (fun _ => [(48, .bool (decide (((((x1.2 = 0) ∧ (x2.2 = 0)) ∧ ((x1.1.Gen.toNat : Int) = 1)) ∧ ((x2.1.Gen.toNat : Int) = 2)) ∧ (x3.2 = 0))))]) (fun sl wL => sl.w = wL ∧ Step K0 s21 sl) ?_ ?_
    ·
     refine k_again 45 rfl ?_
     refine k_split (fun c23 => ?_) (fun c23 => ?_)
     ·
      refine k_yes rfl rfl ?_
      refine k_move rfl rfl ?_
      refine k_yes rfl rfl ?_
      refine k_eql rfl rfl rfl ?_
      refine k_pickT rfl rfl rfl rfl ?_
      exact k_met ⟨s21, ⟨(congrArg (fun b => some (Value.bool b)) (by first | exact decide_eq_decide.2 ⟨fun h => ⟨c23, h⟩, fun h => h.2⟩ | exact (decide_eq_false (fun h => c23 h.1)).symm | (simp [c23]; done) | exact dec_andT c23 | exact dec_andF c23 | exact dec_orF c23 | exact dec_orT c23 | (simp [c23, i64] <;> omega))), trivial⟩, ⟨rfl, rfl, rfl, rfl, rfl, rfl, rfl, rfl, rfl, rfl, rfl, rfl, rfl, trivial⟩, rfl, hE22⟩
     ·
      refine k_no rfl rfl rfl rfl ?_
      refine k_no rfl rfl rfl rfl ?_
      refine k_pickF rfl rfl rfl rfl ?_
      exact k_met ⟨s21, ⟨(congrArg (fun b => some (Value.bool b)) (by first | exact decide_eq_decide.2 ⟨fun h => ⟨c23, h⟩, fun h => h.2⟩ | exact (decide_eq_false (fun h => c23 h.1)).symm | (simp [c23]; done) | exact dec_andT c23 | exact dec_andF c23 | exact dec_orF c23 | exact dec_orT c23 | (simp [c23, i64] <;> omega))), trivial⟩, ⟨rfl, rfl, rfl, rfl, rfl, rfl, rfl, rfl, rfl, rfl, rfl, rfl, rfl, trivial⟩, rfl, hE22⟩
    ·
     rintro s24 wL ⟨rfl, hE22⟩
     have szs24 := hE22.size
     have hS := hS.trans0 hE22
     replace h2 := h2.up2 hE22
     replace h5 := h5.up2 hE22
     replace h8 := h8.up2 hE22
     refine k_move rfl rfl ?_
     have hE25 := Step.r0 K0 s24
     refine k_cutl (X := St) 4 [(0, .bool false), (1, .pointer (some ⟨b2, 0, none⟩)), (2, .int .i64 x1.2), (3, .pointer (some ⟨b5, 0, none⟩)), (4, .int .i64 x2.2), (5, .pointer (some ⟨b8, 0, none⟩)), (6, .int .i64 x3.2), (8, .int .i64 x4.2), (29, .int .i64 x1.2), (30, .bool (decide (x1.2 = 0))), (34, .bool (decide ((x1.2 = 0) ∧ (x2.2 = 0)))), (39, .bool (decide (((x1.2 = 0) ∧ (x2.2 = 0)) ∧ ((x1.1.Gen.toNat : Int) = 1)))), (44, .bool (decide ((((x1.2 = 0) ∧ (x2.2 = 0)) ∧ ((x1.1.Gen.toNat : Int) = 1)) ∧ ((x2.1.Gen.toNat : Int) = 2)))), (48, .bool (decide (((((x1.2 = 0) ∧ (x2.2 = 0)) ∧ ((x1.1.Gen.toNat : Int) = 1)) ∧ ((x2.1.Gen.toNat : Int) = 2)) ∧ (x3.2 = 0))))] (fun _ => [(53, .bool (decide ((((((x1.2 = 0) ∧ (x2.2 = 0)) ∧ ((x1.1.Gen.toNat : Int) = 1)) ∧ ((x2.1.Gen.toNat : Int) = 2)) ∧ (x3.2 = 0)) ∧ ((x3.1.Gen.toNat : Int) = 2 ∧ ([x3.1.Sum.e0, x3.1.Sum.e1, x3.1.Sum.e2, x3.1.Sum.e3, x3.1.Sum.e4, x3.1.Sum.e5, x3.1.Sum.e6, x3.1.Sum.e7, x3.1.Sum.e8, x3.1.Sum.e9, x3.1.Sum.e10, x3.1.Sum.e11, x3.1.Sum.e12, x3.1.Sum.e13, x3.1.Sum.e14, x3.1.Sum.e15] : List UInt8) = ([(0 : UInt8), (0 : UInt8), (0 : UInt8), (0 : UInt8), (0 : UInt8), (0 : UInt8), (0 : UInt8), (0 : UInt8), (0 : UInt8), (0 : UInt8), (0 : UInt8), (0 : UInt8), (0 : UInt8), (0 : UInt8), (0 : UInt8), (0 : UInt8)] : List UInt8)))))]) (fun sl wL => sl.w = wL ∧ Step K0 s24 sl) ?_ ?_
     ·
      refine k_again 49 rfl ?_
      refine k_split (fun c26 => ?_) (fun c26 => ?_)
      ·
       refine k_yes rfl rfl ?_
       refine k_load_blka (cs := [.int .u64 (x3.1.Gen.toNat : Int), .int .u8 (x3.1.Sum.e0.toNat : Int), .int .u8 (x3.1.Sum.e1.toNat : Int), .int .u8 (x3.1.Sum.e2.toNat : Int), .int .u8 (x3.1.Sum.e3.toNat : Int), .int .u8 (x3.1.Sum.e4.toNat : Int), .int .u8 (x3.1.Sum.e5.toNat : Int), .int .u8 (x3.1.Sum.e6.toNat : Int), .int .u8 (x3.1.Sum.e7.toNat : Int), .int .u8 (x3.1.Sum.e8.toNat : Int), .int .u8 (x3.1.Sum.e9.toNat : Int), .int .u8 (x3.1.Sum.e10.toNat : Int), .int .u8 (x3.1.Sum.e11.toNat : Int), .int .u8 (x3.1.Sum.e12.toNat : Int), .int .u8 (x3.1.Sum.e13.toNat : Int), .int .u8 (x3.1.Sum.e14.toNat : Int), .int .u8 (x3.1.Sum.e15.toNat : Int)]) agg29 rfl h8 rfl ?_
       refine k_yes rfl rfl ?_
       refine k_build plc29 zero29 rfl (Parts.cons (CellsOf.lit rfl rfl).1 Parts.nil) (by rfl) rfl ?_
       refine k_as (v := .agg #[.int .u64 2, .int .u8 0, .int .u8 0, .int .u8 0, .int .u8 0, .int .u8 0, .int .u8 0, .int .u8 0, .int .u8 0, .int .u8 0, .int .u8 0, .int .u8 0, .int .u8 0, .int .u8 0, .int .u8 0, .int .u8 0, .int .u8 0]) rfl ?_
       refine k_yes rfl rfl ?_
       refine k_eql_fb (a := (x3.1.Gen.toNat : Int)) (b := 2) (xs := ([x3.1.Sum.e0, x3.1.Sum.e1, x3.1.Sum.e2, x3.1.Sum.e3, x3.1.Sum.e4, x3.1.Sum.e5, x3.1.Sum.e6, x3.1.Sum.e7, x3.1.Sum.e8, x3.1.Sum.e9, x3.1.Sum.e10, x3.1.Sum.e11, x3.1.Sum.e12, x3.1.Sum.e13, x3.1.Sum.e14, x3.1.Sum.e15] : List UInt8)) (ys := ([(0 : UInt8), (0 : UInt8), (0 : UInt8), (0 : UInt8), (0 : UInt8), (0 : UInt8), (0 : UInt8), (0 : UInt8), (0 : UInt8), (0 : UInt8), (0 : UInt8), (0 : UInt8), (0 : UInt8), (0 : UInt8), (0 : UInt8), (0 : UInt8)] : List UInt8)) flatB29 rfl rfl rfl rfl rfl ?_
       refine k_pickT rfl rfl rfl rfl ?_
       exact k_met ⟨s24, ⟨(congrArg (fun b => some (Value.bool b)) (by first | exact decide_eq_decide.2 ⟨fun h => ⟨c26, h⟩, fun h => h.2⟩ | exact (decide_eq_false (fun h => c26 h.1)).symm | (simp [c26]; done) | exact dec_andT c26 | exact dec_andF c26 | exact dec_orF c26 | exact dec_orT c26 | (simp [c26, i64] <;> omega))), trivial⟩, ⟨rfl, rfl, rfl, rfl, rfl, rfl, rfl, rfl, rfl, rfl, rfl, rfl, rfl, rfl, trivial⟩, rfl, hE25⟩
      ·
       refine k_no rfl rfl rfl rfl ?_
       refine k_no rfl rfl rfl rfl ?_
       refine k_no rfl rfl rfl rfl ?_
       refine k_pickF rfl rfl rfl rfl ?_
       exact k_met ⟨s24, ⟨(congrArg (fun b => some (Value.bool b)) (by first | exact decide_eq_decide.2 ⟨fun h => ⟨c26, h⟩, fun h => h.2⟩ | exact (decide_eq_false (fun h => c26 h.1)).symm | (simp [c26]; done) | exact dec_andT c26 | exact dec_andF c26 | exact dec_orF c26 | exact dec_orT c26 | (simp [c26, i64] <;> omega))), trivial⟩, ⟨rfl, rfl, rfl, rfl, rfl, rfl, rfl, rfl, rfl, rfl, rfl, rfl, rfl, rfl, trivial⟩, rfl, hE25⟩
     ·
      rintro s27 wL ⟨rfl, hE25⟩
      have szs27 := hE25.size
      have hS := hS.trans0 hE25
      replace h2 := h2.up2 hE25
      replace h5 := h5.up2 hE25
      refine k_move rfl rfl ?_
      have hE28 := Step.r0 K0 s27
      refine k_cutl (X := St) 3 [(0, .bool false), (1, .pointer (some ⟨b2, 0, none⟩)), (2, .int .i64 x1.2), (3, .pointer (some ⟨b5, 0, none⟩)), (4, .int .i64 x2.2), (5, .pointer (some ⟨b8, 0, none⟩)), (6, .int .i64 x3.2), (8, .int .i64 x4.2), (29, .int .i64 x1.2), (30, .bool (decide (x1.2 = 0))), (34, .bool (decide ((x1.2 = 0) ∧ (x2.2 = 0)))), (39, .bool (decide (((x1.2 = 0) ∧ (x2.2 = 0)) ∧ ((x1.1.Gen.toNat : Int) = 1)))), (44, .bool (decide ((((x1.2 = 0) ∧ (x2.2 = 0)) ∧ ((x1.1.Gen.toNat : Int) = 1)) ∧ ((x2.1.Gen.toNat : Int) = 2)))), (48, .bool (decide (((((x1.2 = 0) ∧ (x2.2 = 0)) ∧ ((x1.1.Gen.toNat : Int) = 1)) ∧ ((x2.1.Gen.toNat : Int) = 2)) ∧ (x3.2 = 0)))), (53, .bool (decide ((((((x1.2 = 0) ∧ (x2.2 = 0)) ∧ ((x1.1.Gen.toNat : Int) = 1)) ∧ ((x2.1.Gen.toNat : Int) = 2)) ∧ (x3.2 = 0)) ∧ ((x3.1.Gen.toNat : Int) = 2 ∧ ([x3.1.Sum.e0, x3.1.Sum.e1, x3.1.Sum.e2, x3.1.Sum.e3, x3.1.Sum.e4, x3.1.Sum.e5, x3.1.Sum.e6, x3.1.Sum.e7, x3.1.Sum.e8, x3.1.Sum.e9, x3.1.Sum.e10, x3.1.Sum.e11, x3.1.Sum.e12, x3.1.Sum.e13, x3.1.Sum.e14, x3.1.Sum.e15] : List UInt8) = ([(0 : UInt8), (0 : UInt8), (0 : UInt8), (0 : UInt8), (0 : UInt8), (0 : UInt8), (0 : UInt8), (0 : UInt8), (0 : UInt8), (0 : UInt8), (0 : UInt8), (0 : UInt8), (0 : UInt8), (0 : UInt8), (0 : UInt8), (0 : UInt8)] : List UInt8)))))] (fun _ => [(57, .bool (decide (((((((x1.2 = 0) ∧ (x2.2 = 0)) ∧ ((x1.1.Gen.toNat : Int) = 1)) ∧ ((x2.1.Gen.toNat : Int) = 2)) ∧ (x3.2 = 0)) ∧ ((x3.1.Gen.toNat : Int) = 2 ∧ ([x3.1.Sum.e0, x3.1.Sum.e1, x3.1.Sum.e2, x3.1.Sum.e3, x3.1.Sum.e4, x3.1.Sum.e5, x3.1.Sum.e6, x3.1.Sum.e7, x3.1.Sum.e8, x3.1.Sum.e9, x3.1.Sum.e10, x3.1.Sum.e11, x3.1.Sum.e12, x3.1.Sum.e13, x3.1.Sum.e14, x3.1.Sum.e15] : List UInt8) = ([(0 : UInt8), (0 : UInt8), (0 : UInt8), (0 : UInt8), (0 : UInt8), (0 : UInt8), (0 : UInt8), (0 : UInt8), (0 : UInt8), (0 : UInt8), (0 : UInt8), (0 : UInt8), (0 : UInt8), (0 : UInt8), (0 : UInt8), (0 : UInt8)] : List UInt8))) ∧ (x4.2 = 2))))]) (fun sl wL => sl.w = wL ∧ Step K0 s27 sl) ?_ ?_
      ·
       refine k_again 54 rfl ?_
       refine k_split (fun c29 => ?_) (fun c29 => ?_)
       ·
        refine k_yes rfl rfl ?_
        refine k_move rfl rfl ?_
        refine k_yes rfl rfl ?_
        refine k_eql rfl rfl rfl ?_
        refine k_pickT rfl rfl rfl rfl ?_
        exact k_met ⟨s27, ⟨(congrArg (fun b => some (Value.bool b)) (by first | exact decide_eq_decide.2 ⟨fun h => ⟨c29, h⟩, fun h => h.2⟩ | exact (decide_eq_false (fun h => c29 h.1)).symm | (simp [c29]; done) | exact dec_andT c29 | exact dec_andF c29 | exact dec_orF c29 | exact dec_orT c29 | (simp [c29, i64] <;> omega))), trivial⟩, ⟨rfl, rfl, rfl, rfl, rfl, rfl, rfl, rfl, rfl, rfl, rfl, rfl, rfl, rfl, rfl, trivial⟩, rfl, hE28⟩
       ·
        refine k_no rfl rfl rfl rfl ?_
        refine k_no rfl rfl rfl rfl ?_
        refine k_pickF rfl rfl rfl rfl ?_
        exact k_met ⟨s27, ⟨(congrArg (fun b => some (Value.bool b)) (by first | exact decide_eq_decide.2 ⟨fun h => ⟨c29, h⟩, fun h => h.2⟩ | exact (decide_eq_false (fun h => c29 h.1)).symm | (simp [c29]; done) | exact dec_andT c29 | exact dec_andF c29 | exact dec_orF c29 | exact dec_orT c29 | (simp [c29, i64] <;> omega))), trivial⟩, ⟨rfl, rfl, rfl, rfl, rfl, rfl, rfl, rfl, rfl, rfl, rfl, rfl, rfl, rfl, rfl, trivial⟩, rfl, hE28⟩
      ·
       rintro s30 wL ⟨rfl, hE28⟩
       have szs30 := hE28.size
       have hS := hS.trans0 hE28
       replace h2 := h2.up2 hE28
       replace h5 := h5.up2 hE28
       refine k_move rfl rfl ?_
       obtain ⟨x5, hx5, h⟩ := ob h
       have hE31 := Step.r0 K0 s30
       refine k_cutl (X := St) 5 [(0, .bool false), (1, .pointer (some ⟨b2, 0, none⟩)), (2, .int .i64 x1.2), (3, .pointer (some ⟨b5, 0, none⟩)), (4, .int .i64 x2.2), (5, .pointer (some ⟨b8, 0, none⟩)), (6, .int .i64 x3.2), (8, .int .i64 x4.2), (29, .int .i64 x1.2), (30, .bool (decide (x1.2 = 0))), (34, .bool (decide ((x1.2 = 0) ∧ (x2.2 = 0)))), (39, .bool (decide (((x1.2 = 0) ∧ (x2.2 = 0)) ∧ ((x1.1.Gen.toNat : Int) = 1)))), (44, .bool (decide ((((x1.2 = 0) ∧ (x2.2 = 0)) ∧ ((x1.1.Gen.toNat : Int) = 1)) ∧ ((x2.1.Gen.toNat : Int) = 2)))), (48, .bool (decide (((((x1.2 = 0) ∧ (x2.2 = 0)) ∧ ((x1.1.Gen.toNat : Int) = 1)) ∧ ((x2.1.Gen.toNat : Int) = 2)) ∧ (x3.2 = 0)))), (53, .bool (decide ((((((x1.2 = 0) ∧ (x2.2 = 0)) ∧ ((x1.1.Gen.toNat : Int) = 1)) ∧ ((x2.1.Gen.toNat : Int) = 2)) ∧ (x3.2 = 0)) ∧ ((x3.1.Gen.toNat : Int) = 2 ∧ ([x3.1.Sum.e0, x3.1.Sum.e1, x3.1.Sum.e2, x3.1.Sum.e3, x3.1.Sum.e4, x3.1.Sum.e5, x3.1.Sum.e6, x3.1.Sum.e7, x3.1.Sum.e8, x3.1.Sum.e9, x3.1.Sum.e10, x3.1.Sum.e11, x3.1.Sum.e12, x3.1.Sum.e13, x3.1.Sum.e14, x3.1.Sum.e15] : List UInt8) = ([(0 : UInt8), (0 : UInt8), (0 : UInt8), (0 : UInt8), (0 : UInt8), (0 : UInt8), (0 : UInt8), (0 : UInt8), (0 : UInt8), (0 : UInt8), (0 : UInt8), (0 : UInt8), (0 : UInt8), (0 : UInt8), (0 : UInt8), (0 : UInt8)] : List UInt8))))), (57, .bool (decide (((((((x1.2 = 0) ∧ (x2.2 = 0)) ∧ ((x1.1.Gen.toNat : Int) = 1)) ∧ ((x2.1.Gen.toNat : Int) = 2)) ∧ (x3.2 = 0)) ∧ ((x3.1.Gen.toNat : Int) = 2 ∧ ([x3.1.Sum.e0, x3.1.Sum.e1, x3.1.Sum.e2, x3.1.Sum.e3, x3.1.Sum.e4, x3.1.Sum.e5, x3.1.Sum.e6, x3.1.Sum.e7, x3.1.Sum.e8, x3.1.Sum.e9, x3.1.Sum.e10, x3.1.Sum.e11, x3.1.Sum.e12, x3.1.Sum.e13, x3.1.Sum.e14, x3.1.Sum.e15] : List UInt8) = ([(0 : UInt8), (0 : UInt8), (0 : UInt8), (0 : UInt8), (0 : UInt8), (0 : UInt8), (0 : UInt8), (0 : UInt8), (0 : UInt8), (0 : UInt8), (0 : UInt8), (0 : UInt8), (0 : UInt8), (0 : UInt8), (0 : UInt8), (0 : UInt8)] : List UInt8))) ∧ (x4.2 = 2))))] (fun _ => [(63, .bool x5)]) (fun sl wL => sl.w = wL ∧ Step K0 s30 sl) ?_ ?_
       ·
        refine k_again 58 rfl ?_
        refine k_split (fun c32 => ?_) (fun c32 => ?_)
        ·
         have hx5 := itT hx5 c32
         refine k_yes rfl rfl ?_
         refine k_load_blka (cs := [.int .u64 (x1.1.Gen.toNat : Int), .int .u8 (x1.1.Sum.e0.toNat : Int), .int .u8 (x1.1.Sum.e1.toNat : Int), .int .u8 (x1.1.Sum.e2.toNat : Int), .int .u8 (x1.1.Sum.e3.toNat : Int), .int .u8 (x1.1.Sum.e4.toNat : Int), .int .u8 (x1.1.Sum.e5.toNat : Int), .int .u8 (x1.1.Sum.e6.toNat : Int), .int .u8 (x1.1.Sum.e7.toNat : Int), .int .u8 (x1.1.Sum.e8.toNat : Int), .int .u8 (x1.1.Sum.e9.toNat : Int), .int .u8 (x1.1.Sum.e10.toNat : Int), .int .u8 (x1.1.Sum.e11.toNat : Int), .int .u8 (x1.1.Sum.e12.toNat : Int), .int .u8 (x1.1.Sum.e13.toNat : Int), .int .u8 (x1.1.Sum.e14.toNat : Int), .int .u8 (x1.1.Sum.e15.toNat : Int)]) agg29 rfl h2 rfl ?_
         refine k_yes rfl rfl ?_
         refine k_load_blka (cs := [.int .u64 (x2.1.Gen.toNat : Int), .int .u8 (x2.1.Sum.e0.toNat : Int), .int .u8 (x2.1.Sum.e1.toNat : Int), .int .u8 (x2.1.Sum.e2.toNat : Int), .int .u8 (x2.1.Sum.e3.toNat : Int), .int .u8 (x2.1.Sum.e4.toNat : Int), .int .u8 (x2.1.Sum.e5.toNat : Int), .int .u8 (x2.1.Sum.e6.toNat : Int), .int .u8 (x2.1.Sum.e7.toNat : Int), .int .u8 (x2.1.Sum.e8.toNat : Int), .int .u8 (x2.1.Sum.e9.toNat : Int), .int .u8 (x2.1.Sum.e10.toNat : Int), .int .u8 (x2.1.Sum.e11.toNat : Int), .int .u8 (x2.1.Sum.e12.toNat : Int), .int .u8 (x2.1.Sum.e13.toNat : Int), .int .u8 (x2.1.Sum.e14.toNat : Int), .int .u8 (x2.1.Sum.e15.toNat : Int)]) agg29 rfl h5 rfl ?_
         refine k_yes rfl rfl ?_
         obtain ⟨x6, hx6, hx5⟩ := ob hx5
         refine k_call cal12 rfl (rev_Cmp_w  (clsApiRev x1.1) (clsApiRev x2.1) hx6) rfl ?_
         rintro s33 vr33 st33 rfl
         have szs33 := st33.size
         have hS := hS.trans0 st33
         have hE31 := hE31.trans0 st33
         refine k_yes rfl rfl ?_
         refine k_lss rfl rfl rfl ?_
         refine k_pickT rfl rfl rfl rfl ?_
         exact k_met ⟨s33, ⟨(congrArg (fun b => some (Value.bool b)) (Option.some.inj hx5)), trivial⟩, ⟨rfl, rfl, rfl, rfl, rfl, rfl, rfl, rfl, rfl, rfl, rfl, rfl, rfl, rfl, rfl, rfl, trivial⟩, rfl, hE31⟩
        ·
         have hx5 := itF hx5 c32
         refine k_no rfl rfl rfl rfl ?_
         refine k_no rfl rfl rfl rfl ?_
         refine k_no rfl rfl rfl rfl ?_
         refine k_no rfl rfl rfl rfl ?_
         refine k_pickF rfl rfl rfl rfl ?_
         exact k_met ⟨s30, ⟨(congrArg (fun b => some (Value.bool b)) (Option.some.inj hx5)), trivial⟩, ⟨rfl, rfl, rfl, rfl, rfl, rfl, rfl, rfl, rfl, rfl, rfl, rfl, rfl, rfl, rfl, rfl, trivial⟩, rfl, hE31⟩
       ·
        rintro s34 wL ⟨rfl, hE31⟩
        have szs34 := hE31.size
        have hS := hS.trans0 hE31
        replace h2 := h2.up2 hE31
        replace h5 := h5.up2 hE31
        refine k_move rfl rfl ?_
        obtain ⟨x7, hx7, h⟩ := ob h
        have hE35 := Step.r0 K0 s34
        refine k_cutl (X := St) 5 [(0, .bool false), (1, .pointer (some ⟨b2, 0, none⟩)), (2, .int .i64 x1.2), (3, .pointer (some ⟨b5, 0, none⟩)), (4, .int .i64 x2.2), (5, .pointer (some ⟨b8, 0, none⟩)), (6, .int .i64 x3.2), (8, .int .i64 x4.2), (29, .int .i64 x1.2), (30, .bool (decide (x1.2 = 0))), (34, .bool (decide ((x1.2 = 0) ∧ (x2.2 = 0)))), (39, .bool (decide (((x1.2 = 0) ∧ (x2.2 = 0)) ∧ ((x1.1.Gen.toNat : Int) = 1)))), (44, .bool (decide ((((x1.2 = 0) ∧ (x2.2 = 0)) ∧ ((x1.1.Gen.toNat : Int) = 1)) ∧ ((x2.1.Gen.toNat : Int) = 2)))), (48, .bool (decide (((((x1.2 = 0) ∧ (x2.2 = 0)) ∧ ((x1.1.Gen.toNat : Int) = 1)) ∧ ((x2.1.Gen.toNat : Int) = 2)) ∧ (x3.2 = 0)))), (53, .bool (decide ((((((x1.2 = 0) ∧ (x2.2 = 0)) ∧ ((x1.1.Gen.toNat : Int) = 1)) ∧ ((x2.1.Gen.toNat : Int) = 2)) ∧ (x3.2 = 0)) ∧ ((x3.1.Gen.toNat : Int) = 2 ∧ ([x3.1.Sum.e0, x3.1.Sum.e1, x3.1.Sum.e2, x3.1.Sum.e3, x3.1.Sum.e4, x3.1.Sum.e5, x3.1.Sum.e6, x3.1.Sum.e7, x3.1.Sum.e8, x3.1.Sum.e9, x3.1.Sum.e10, x3.1.Sum.e11, x3.1.Sum.e12, x3.1.Sum.e13, x3.1.Sum.e14, x3.1.Sum.e15] : List UInt8) = ([(0 : UInt8), (0 : UInt8), (0 : UInt8), (0 : UInt8), (0 : UInt8), (0 : UInt8), (0 : UInt8), (0 : UInt8), (0 : UInt8), (0 : UInt8), (0 : UInt8), (0 : UInt8), (0 : UInt8), (0 : UInt8), (0 : UInt8), (0 : UInt8)] : List UInt8))))), (57, .bool (decide (((((((x1.2 = 0) ∧ (x2.2 = 0)) ∧ ((x1.1.Gen.toNat : Int) = 1)) ∧ ((x2.1.Gen.toNat : Int) = 2)) ∧ (x3.2 = 0)) ∧ ((x3.1.Gen.toNat : Int) = 2 ∧ ([x3.1.Sum.e0, x3.1.Sum.e1, x3.1.Sum.e2, x3.1.Sum.e3, x3.1.Sum.e4, x3.1.Sum.e5, x3.1.Sum.e6, x3.1.Sum.e7, x3.1.Sum.e8, x3.1.Sum.e9, x3.1.Sum.e10, x3.1.Sum.e11, x3.1.Sum.e12, x3.1.Sum.e13, x3.1.Sum.e14, x3.1.Sum.e15] : List UInt8) = ([(0 : UInt8), (0 : UInt8), (0 : UInt8), (0 : UInt8), (0 : UInt8), (0 : UInt8), (0 : UInt8), (0 : UInt8), (0 : UInt8), (0 : UInt8), (0 : UInt8), (0 : UInt8), (0 : UInt8), (0 : UInt8), (0 : UInt8), (0 : UInt8)] : List UInt8))) ∧ (x4.2 = 2)))), (63, .bool x5)] (fun _ => [(69, .bool x7)]) (fun sl wL => sl.w = wL ∧ Step K0 s34 sl) ?_ ?_
        ·
         refine k_again 64 rfl ?_
         refine k_splitb (fun c36 => ?_) (fun c36 => ?_)
         ·
          have hx7 := ibT hx7 c36
          refine k_yes rfl rfl ?_
          refine k_load_blka (cs := [.int .u64 (x2.1.Gen.toNat : Int), .int .u8 (x2.1.Sum.e0.toNat : Int), .int .u8 (x2.1.Sum.e1.toNat : Int), .int .u8 (x2.1.Sum.e2.toNat : Int), .int .u8 (x2.1.Sum.e3.toNat : Int), .int .u8 (x2.1.Sum.e4.toNat : Int), .int .u8 (x2.1.Sum.e5.toNat : Int), .int .u8 (x2.1.Sum.e6.toNat : Int), .int .u8 (x2.1.Sum.e7.toNat : Int), .int .u8 (x2.1.Sum.e8.toNat : Int), .int .u8 (x2.1.Sum.e9.toNat : Int), .int .u8 (x2.1.Sum.e10.toNat : Int), .int .u8 (x2.1.Sum.e11.toNat : Int), .int .u8 (x2.1.Sum.e12.toNat : Int), .int .u8 (x2.1.Sum.e13.toNat : Int), .int .u8 (x2.1.Sum.e14.toNat : Int), .int .u8 (x2.1.Sum.e15.toNat : Int)]) agg29 rfl h5 rfl ?_
          refine k_yes rfl rfl ?_
          refine k_load_blka (cs := [.int .u64 (x1.1.Gen.toNat : Int), .int .u8 (x1.1.Sum.e0.toNat : Int), .int .u8 (x1.1.Sum.e1.toNat : Int), .int .u8 (x1.1.Sum.e2.toNat : Int), .int .u8 (x1.1.Sum.e3.toNat : Int), .int .u8 (x1.1.Sum.e4.toNat : Int), .int .u8 (x1.1.Sum.e5.toNat : Int), .int .u8 (x1.1.Sum.e6.toNat : Int), .int .u8 (x1.1.Sum.e7.toNat : Int), .int .u8 (x1.1.Sum.e8.toNat : Int), .int .u8 (x1.1.Sum.e9.toNat : Int), .int .u8 (x1.1.Sum.e10.toNat : Int), .int .u8 (x1.1.Sum.e11.toNat : Int), .int .u8 (x1.1.Sum.e12.toNat : Int), .int .u8 (x1.1.Sum.e13.toNat : Int), .int .u8 (x1.1.Sum.e14.toNat : Int), .int .u8 (x1.1.Sum.e15.toNat : Int)]) agg29 rfl h2 rfl ?_
          refine k_yes rfl rfl ?_
          refine k_bslice2 (ds := ([x2.1, x1.1] : List ApiRev).map dApiRev) slc22 rfl (RVs.cons ⟨_, rfl, (clsApiRev x2.1)⟩ (RVs.cons ⟨_, rfl, (clsApiRev x1.1)⟩ RVs.nil)) (by rfl) (by rfl) rfl rfl ?_
          intro s37 v37 b37 st37 ge37 bl37 h37
          have szs37 := st37.size
          have hS := hS.trans0 st37
          have hE35 := hE35.trans0 st37
          have lt37 := Own.le1 h37
          refine k_yes rfl rfl ?_
          obtain ⟨x8, hx8, hx7⟩ := ob hx7
          refine k_call cal8 rfl (rev_Chain_w  (h37.sl) hx8) rfl ?_
          rintro s38 vr38 st38 rfl
          have szs38 := st38.size
          have hS := hS.trans0 st38
          have hE35 := hE35.trans0 st38
          refine k_pickT rfl rfl rfl rfl ?_
          exact k_met ⟨s38, ⟨(congrArg (fun b => some (Value.bool b)) (Option.some.inj hx7)), trivial⟩, ⟨rfl, rfl, rfl, rfl, rfl, rfl, rfl, rfl, rfl, rfl, rfl, rfl, rfl, rfl, rfl, rfl, rfl, trivial⟩, rfl, hE35⟩
         ·
          have hx7 := ibF hx7 c36
          refine k_no rfl rfl rfl rfl ?_
          refine k_no rfl rfl rfl rfl ?_
          refine k_no rfl rfl rfl rfl ?_
          refine k_no rfl rfl rfl rfl ?_
          refine k_pickF rfl rfl rfl rfl ?_
          exact k_met ⟨s34, ⟨(congrArg (fun b => some (Value.bool b)) (Option.some.inj hx7)), trivial⟩, ⟨rfl, rfl, rfl, rfl, rfl, rfl, rfl, rfl, rfl, rfl, rfl, rfl, rfl, rfl, rfl, rfl, rfl, trivial⟩, rfl, hE35⟩
        ·
         rintro s39 wL ⟨rfl, hE35⟩
         have szs39 := hE35.size
         have hS := hS.trans0 hE35
         refine k_assign rfl rfl ?_
         refine k_nil ?_
         refine k_keep [(0, _)] ⟨rfl, trivial⟩ ?_
         refine k_ret ?_
         obtain rfl := Option.some.inj h
         refine ⟨_, rfl, Ret.mk hS ?_⟩
         exact rfl

set_option maxHeartbeats 20000000 in
set_option maxRecDepth 100000 in
theorem ref06_May_w {s : St} {cs0 : List Value} {a0 : ApiRev} {r : Bool} (hp0 : RC s cs0 (dApiRev a0)) (h : ref06_May a0 = some r) : Calls Tryd.prog 15 #[.agg cs0.toArray] s.w (Ret s K0 (fun s1 v => v = .bool r)) := by
 unfold ref06_May at h
 obtain rfl := opnApiRev hp0
 have hS := Step.r0 K0 s
 refine k_fn (rs := [2]) (args := [.agg #[.int .u64 (a0.Gen.toNat : Int), .int .u8 (a0.Sum.e0.toNat : Int), .int .u8 (a0.Sum.e1.toNat : Int), .int .u8 (a0.Sum.e2.toNat : Int), .int .u8 (a0.Sum.e3.toNat : Int), .int .u8 (a0.Sum.e4.toNat : Int), .int .u8 (a0.Sum.e5.toNat : Int), .int .u8 (a0.Sum.e6.toNat : Int), .int .u8 (a0.Sum.e7.toNat : Int), .int .u8 (a0.Sum.e8.toNat : Int), .int .u8 (a0.Sum.e9.toNat : Int), .int .u8 (a0.Sum.e10.toNat : Int), .int .u8 (a0.Sum.e11.toNat : Int), .int .u8 (a0.Sum.e12.toNat : Int), .int .u8 (a0.Sum.e13.toNat : Int), .int .u8 (a0.Sum.e14.toNat : Int), .int .u8 (a0.Sum.e15.toNat : Int)]]) Tryd.func15 rfl rfl rfl rfl ?_
 refine k_seq ?_
 refine k_region ?_
 refine k_box rfl rfl ?_
 intro s1 b1 st1 h1 ge1
 have szs1 := st1.size
 have hS := hS.trans0 st1
 have lt1 := h1.lt
 refine k_assign rfl rfl ?_
 refine k_nil ?_
 refine k_keep [(1, _), (2, _)] ⟨rfl, rfl, trivial⟩ ?_
 refine k_seq ?_
 refine k_region ?_
 refine k_field_addr fld29_0 rfl rfl ?_
 refine k_load_blk one26 rfl h1 rfl rfl ?_
 refine k_gtr rfl rfl rfl ?_
 refine k_move rfl rfl ?_
 have hE2 := Step.r0 K0 s1
 refine k_cutl (X := St) 4 [(1, .pointer (some ⟨b1, 0, none⟩)), (2, .bool false), (3, .pointer (some ⟨b1, 0, none⟩)), (4, .int .u64 (a0.Gen.toNat : Int)), (5, .bool (decide (0 < (a0.Gen.toNat : Int))))] (fun _ => [(10, .bool (decide ((0 < (a0.Gen.toNat : Int)) ∧ ((a0.Gen.toNat : Int) < 4611686018427387904))))]) (fun sl wL => sl.w = wL ∧ Step K0 s1 sl) ?_ ?_
 ·
  refine k_again 6 rfl ?_
  refine k_split (fun c3 => ?_) (fun c3 => ?_)
  ·
   refine k_yes rfl rfl ?_
   refine k_field_addr fld29_0 rfl rfl ?_
   refine k_yes rfl rfl ?_
   refine k_load_blk one26 rfl h1 rfl rfl ?_
   refine k_yes rfl rfl ?_
   refine k_lss rfl rfl rfl ?_
   refine k_pickT rfl rfl rfl rfl ?_
   exact k_met ⟨s1, ⟨(congrArg (fun b => some (Value.bool b)) (by first | exact decide_eq_decide.2 ⟨fun h => ⟨c3, h⟩, fun h => h.2⟩ | exact (decide_eq_false (fun h => c3 h.1)).symm | (simp [c3]; done) | exact dec_andT c3 | exact dec_andF c3 | exact dec_orF c3 | exact dec_orT c3 | (simp [c3, i64] <;> omega))), trivial⟩, ⟨rfl, rfl, rfl, rfl, rfl, trivial⟩, rfl, hE2⟩
  ·
   refine k_no rfl rfl rfl rfl ?_
   refine k_no rfl rfl rfl rfl ?_
   refine k_no rfl rfl rfl rfl ?_
   refine k_pickF rfl rfl rfl rfl ?_
   exact k_met ⟨s1, ⟨(congrArg (fun b => some (Value.bool b)) (by first | exact decide_eq_decide.2 ⟨fun h => ⟨c3, h⟩, fun h => h.2⟩ | exact (decide_eq_false (fun h => c3 h.1)).symm | (simp [c3]; done) | exact dec_andT c3 | exact dec_andF c3 | exact dec_orF c3 | exact dec_orT c3 | (simp [c3, i64] <;> omega))), trivial⟩, ⟨rfl, rfl, rfl, rfl, rfl, trivial⟩, rfl, hE2⟩
 ·
  rintro s4 wL ⟨rfl, hE2⟩
  have szs4 := hE2.size
  have hS := hS.trans0 hE2
  refine k_assign rfl rfl ?_
  refine k_nil ?_
  refine k_keep [(2, _)] ⟨rfl, trivial⟩ ?_
  refine k_ret ?_
  obtain rfl := Option.some.inj h
  refine ⟨_, rfl, Ret.mk hS ?_⟩
  exact rfl

set_option maxHeartbeats 20000000 in
set_option maxRecDepth 100000 in
theorem strconv_AppendUint_nl_own_w {s : St} {a1 : UInt64} {a2 : Int} {r : (List UInt8)} (tb2 : Tab2 s) (h : strconv_AppendUint_nl a1 a2 = some r) : Calls Tryd.prog 36 #[.slice none 0 0, .int .u64 (a1.toNat : Int), .int .i64 a2] s.w (Ret s K0 (fun s1 v => ∃ (u0 : Value), ∃ (lu0 : Lab), v = u0 ∧ (s.n < lu0.o ∧ lu0.c = 0) ∧ Own s1 lu0 5 1 u0 (r.map bD))) := by
 unfold strconv_AppendUint_nl at h
 have hS := Step.r0 K0 s
 refine k_fn (rs := [6]) (args := [.slice none 0 0, .int .u64 (a1.toNat : Int), .int .i64 a2]) Tryd.func36 rfl rfl rfl rfl ?_
 refine k_seq ?_
 refine k_region ?_
 refine k_assign rfl rfl ?_
 refine k_nil ?_
 refine k_seq ?_
 refine k_seq ?_
 refine k_region ?_
 refine k_move rfl rfl ?_
 refine k_eql rfl rfl rfl ?_
 refine k_nil ?_
 refine k_keep [(0, _), (1, _), (2, _), (6, _), (10, _)] ⟨rfl, rfl, rfl, rfl, rfl, trivial⟩ ?_
 refine k_cond_dec rfl (fun c1 => ?_) (fun c1 => ?_)
 ·
  have h := itT h c1
  refine k_seq ?_
  refine k_seq ?_
  refine k_region ?_
  refine k_move rfl rfl ?_
  refine k_lss rfl rfl rfl ?_
  refine k_nil ?_
  refine k_keep [(0, _), (1, _), (2, _), (6, _), (12, _)] ⟨rfl, rfl, rfl, rfl, rfl, trivial⟩ ?_
  refine k_cond_dec rfl (fun c2 => ?_) (fun c2 => ?_)
  ·
   have h := itT h c2
   refine k_seq ?_
   refine k_region ?_
   refine k_move rfl rfl ?_
   refine k_move rfl rfl ?_
   refine k_conv (p := (a1.toNat : Int)) Tryd.underlying26 Tryd.underlying3 rfl rfl ?_
   by_cases c3 : 0 ≤ i64 (a1.toNat : Int) ∧ i64 (a1.toNat : Int) < 100
   case neg => exact (noneNe (itF h c3)).elim
   replace h := itT h c3
   refine k_call cal48 rfl (small_w (a0 := (i64 (a1.toNat : Int))) c3) rfl ?_
   rintro s4 _ st4 rfl
   have szs4 := st4.size
   have hS := hS.trans0 st4
   obtain ⟨x1, hx1, h⟩ := ob h
   refine k_append_str_nil 1017 elem51 rfl rfl Tryd.underlying9 rfl rfl (by have := (app_out hx1).1; omega) rfl ?_
   intro s5 v5 st5 h5
   rw [← List.nil_append (decF 30 (i64 (a1.toNat : Int)).toNat), ← (app_out hx1).2] at h5
   have szs5 := st5.size
   have hS := hS.trans0 st5
   refine k_assign rfl rfl ?_
   refine k_nil ?_
   refine k_keep [(0, _), (1, _), (2, _), (6, _)] ⟨rfl, rfl, rfl, rfl, trivial⟩ ?_
   refine k_ret ?_
   obtain ⟨s6, e6, st6, h5⟩ := h5.zero
   rw [← e6]
   have szs6 := st6.size
   have hS := hS.c0 st6
   obtain rfl := Option.some.inj h
   refine ⟨_, rfl, Ret.mk hS ?_⟩
   exact ⟨_, ⟨s4.n + 1, 0⟩, rfl, ⟨by (try dsimp only); omega, rfl⟩, h5⟩
  ·
   have h := itF h c2
   refine k_skip ?_
   refine k_seq ?_
   refine k_region ?_
   refine k_alloc zero87 rfl ?_
   intro s7 b7 st7 h7 ge7
   have szs7 := st7.size
   have hS := hS.trans0 st7
   replace tb2 := tb2.up2 st7
   have lt7 := h7.lt
   refine k_nil ?_
   refine k_keep [(0, _), (1, _), (2, _), (6, _), (7, _)] ⟨rfl, rfl, rfl, rfl, rfl, trivial⟩ ?_
   refine k_seq ?_
   refine k_region ?_
   refine k_move rfl rfl ?_
   by_cases c8 : 1 ≤ a1.toNat
   case neg => exact (noneNe (itF h c8)).elim
   replace h := itT h c8
   refine k_call cal49 rfl (numDigits_w (a0 := a1) tb2 c8) rfl ?_
   rintro s9 _ st9 rfl
   have szs9 := st9.size
   have hS := hS.trans0 st9
   replace h7 := h7.up2 st9
   refine k_assign rfl rfl ?_
   refine k_nil ?_
   refine k_keep [(0, _), (1, _), (2, _), (6, _), (7, _), (8, _)] ⟨rfl, rfl, rfl, rfl, rfl, rfl, trivial⟩ ?_
   refine k_seq ?_
   refine k_region ?_
   refine k_move rfl rfl ?_
   by_cases c11 : 0 ≤ ((decF 30 a1.toNat).length : Int) ∧ ((decF 30 a1.toNat).length : Int) ≤ 24
   case neg => exact (noneNe (itF h c11)).elim
   replace h := itT h c11
   have hj10 : (((decF 30 a1.toNat).length : Int) : Int).toNat ≤ (List.replicate 24 (0 : UInt8)).length := by have hq : (List.replicate 24 (0 : UInt8)).length = 24 := (List.length_replicate); omega
   refine k_cut_rowx (g := bD) (xs := (List.replicate 24 (0 : UInt8))) (j := (((decF 30 a1.toNat).length : Int) : Int).toNat) cB (fun _ => rfl) (fun _ => rfl) arr87 rfl h7 (List.length_replicate) (CutAt.int rfl c11.1) (by omega) rfl ?_
   intro h12
   refine k_move rfl rfl ?_
   by_cases c14 : (decF 30 a1.toNat).length = (((decF 30 a1.toNat).length : Int) : Int).toNat ∧ (((decF 30 a1.toNat).length : Int) : Int).toNat < 1000
   case neg => exact (noneNe (itF h c14)).elim
   replace h := itT h c14
   refine k_call cal50 rfl (fmt10_w (xs := (List.replicate 24 (0 : UInt8))) (a1 := a1) h7 (by first | (simp; done) | omega | (dsimp only; omega)) hj10 c14) rfl ?_
   rintro s13 _ st13 ⟨rfl, h7⟩
   have hl13 : (decF 30 a1.toNat ++ (List.replicate 24 (0 : UInt8)).drop (((decF 30 a1.toNat).length : Int) : Int).toNat).length = 24 := by have hq := hj10; have hq2 : (List.replicate 24 (0 : UInt8)).length = 24 := (List.length_replicate); rw [List.length_append, List.length_drop, c14.1]; omega
   have szs13 := st13.size
   have hS := hS.c0 st13
   refine k_nil ?_
   refine k_keep [(0, _), (1, _), (2, _), (6, _), (7, _), (8, _)] ⟨rfl, rfl, rfl, rfl, rfl, rfl, trivial⟩ ?_
   refine k_seq ?_
   refine k_region ?_
   refine k_move rfl rfl ?_
   refine k_move rfl rfl ?_
   by_cases c16 : 0 ≤ ((decF 30 a1.toNat).length : Int) ∧ ((decF 30 a1.toNat).length : Int) ≤ 24
   case neg => exact (noneNe (itF h c16)).elim
   replace h := itT h c16
   have hj15 : (((decF 30 a1.toNat).length : Int) : Int).toNat ≤ (decF 30 a1.toNat ++ (List.replicate 24 (0 : UInt8)).drop (((decF 30 a1.toNat).length : Int) : Int).toNat).length := by have hq : (decF 30 a1.toNat ++ (List.replicate 24 (0 : UInt8)).drop (((decF 30 a1.toNat).length : Int) : Int).toNat).length = 24 := hl13; omega
   refine k_cut_rowx (g := bD) (xs := (decF 30 a1.toNat ++ (List.replicate 24 (0 : UInt8)).drop (((decF 30 a1.toNat).length : Int) : Int).toNat)) (j := (((decF 30 a1.toNat).length : Int) : Int).toNat) cB (fun _ => rfl) (fun _ => rfl) arr87 rfl h7 hl13 (CutAt.int rfl c16.1) (by omega) rfl ?_
   intro h17
   obtain ⟨x2, hx2, h⟩ := ob h
   refine k_append_nil (es := ((decF 30 a1.toNat ++ (List.replicate 24 (0 : UInt8)).drop (((decF 30 a1.toNat).length : Int) : Int).toNat).take (((decF 30 a1.toNat).length : Int) : Int).toNat).map bD) 1027 elem51 rfl rfl h17 (by have := (app_out hx2).1; simp only [List.length_map, List.length_nil] at *; omega) (by have := (app_out hx2).1; simp only [List.length_map, List.length_nil] at *; omega) rfl ?_
   intro s18 v18 st18 h18
   rw [← List.nil_append (((decF 30 a1.toNat ++ (List.replicate 24 (0 : UInt8)).drop (((decF 30 a1.toNat).length : Int) : Int).toNat).take (((decF 30 a1.toNat).length : Int) : Int).toNat)), ← (app_out hx2).2] at h18
   have szs18 := st18.size
   have hS := hS.trans0 st18
   refine k_assign rfl rfl ?_
   refine k_nil ?_
   refine k_keep [(0, _), (1, _), (2, _), (6, _)] ⟨rfl, rfl, rfl, rfl, trivial⟩ ?_
   refine k_ret ?_
   obtain ⟨s19, e19, st19, h18⟩ := h18.zero
   rw [← e19]
   have szs19 := st19.size
   have hS := hS.c0 st19
   obtain rfl := Option.some.inj h
   refine ⟨_, rfl, Ret.mk hS ?_⟩
   exact ⟨_, ⟨s13.n + 1, 0⟩, rfl, ⟨by (try dsimp only); omega, rfl⟩, h18⟩
 ·
  have h := itF h c1
  refine k_skip ?_
  refine k_seq ?_
  refine k_region ?_
  refine k_move rfl rfl ?_
  refine k_move rfl rfl ?_
  refine k_move rfl rfl ?_
  by_cases c20 : (0 : Nat) = 1
  case neg => exact (noneNe (itF h c20)).elim
  replace h := itT h c20
  refine k_call cal51 rfl (show Calls Tryd.prog 51 #[.slice none 0 0, .int .u64 (a1.toNat : Int), .int .i64 a2, .bool false, .bool true] s.w (Ret s K0 (fun _ v => v = .tuple #[.slice none 0 0, S ([] : List UInt8)])) from absurd c20 (by decide)) rfl ?_
  rintro s21 _ st21 rfl
  have szs21 := st21.size
  have hS := hS.trans0 st21
  refine k_move rfl rfl ?_
  refine k_extract rfl rfl rfl ?_
  refine k_extract rfl rfl rfl ?_
  refine k_assign rfl rfl ?_
  refine k_nil ?_
  refine k_keep [(0, _), (6, _)] ⟨rfl, rfl, trivial⟩ ?_
  refine k_seq ?_
  refine k_region ?_
  refine k_move rfl rfl ?_
  refine k_assign rfl rfl ?_
  refine k_nil ?_
  refine k_keep [(6, _)] ⟨rfl, trivial⟩ ?_
  refine k_ret ?_
  obtain rfl := Option.some.inj h
  refine ⟨_, rfl, Ret.mk hS ?_⟩
  exact ⟨_, ⟨s21.n + 1, 0⟩, rfl, ⟨by show s.n < s21.n + 1; omega, rfl⟩, Own.nil (by simp) (Nat.le_refl _)⟩

set_option maxHeartbeats 20000000 in
set_option maxRecDepth 100000 in
theorem strconv_AppendUint_nl_o_own_w {s : St} {a1 : UInt64} {a2 : Int} {r : (List UInt8)} (tb2 : Tab2 s) (h : strconv_AppendUint_nl_o a1 a2 = some r) : Calls Tryd.prog 25 #[.slice none 0 0, .int .u64 (a1.toNat : Int), .int .i64 a2] s.w (Ret s K0 (fun s1 v => ∃ (u0 : Value), ∃ (lu0 : Lab), v = u0 ∧ (s.n < lu0.o ∧ lu0.c = 0) ∧ Own s1 lu0 5 1 u0 (r.map bD))) := by
 unfold strconv_AppendUint_nl_o at h
 have hS := Step.r0 K0 s
 refine k_fn (rs := [6]) (args := [.slice none 0 0, .int .u64 (a1.toNat : Int), .int .i64 a2]) Tryd.func25 rfl rfl rfl rfl ?_
 refine k_seq ?_
 refine k_region ?_
 refine k_assign rfl rfl ?_
 refine k_nil ?_
 refine k_seq ?_
 refine k_region ?_
 refine k_move rfl rfl ?_
 refine k_move rfl rfl ?_
 refine k_move rfl rfl ?_
 obtain ⟨x1, hx1, h⟩ := ob h
 refine k_call cal36 rfl (strconv_AppendUint_nl_own_w  tb2 hx1) rfl ?_
 rintro s1 v1_0 st1 ⟨_, l1_0, rfl, hl1_0, h1_0⟩
 have szs1 := st1.size
 have hS := hS.trans0 st1
 obtain ⟨l1_0, hl1_0, h1_0⟩ := Own.anew 2010 h1_0 hl1_0 szs1
 have lt1_0 := Own.le1 h1_0
 refine k_assign rfl rfl ?_
 refine k_nil ?_
 refine k_keep [(6, _)] ⟨rfl, trivial⟩ ?_
 refine k_ret ?_
 obtain ⟨s2, e2, st2, h1_0⟩ := h1_0.zero
 rw [← e2]
 have szs2 := st2.size
 have hS := hS.c0 st2
 obtain rfl := Option.some.inj h
 refine ⟨_, rfl, Ret.mk hS ?_⟩
 exact ⟨_, ⟨l1_0.o, 0⟩, rfl, ⟨by (try dsimp only); omega, rfl⟩, h1_0⟩

set_option maxHeartbeats 20000000 in
set_option maxRecDepth 100000 in
theorem rev_Print_w {s : St} {cs0 : List Value} {a0 : ApiRev} {r : ((List UInt8) × Int)} (hp0 : RC s cs0 (dApiRev a0)) (tb2 : Tab2 s) (h : rev_Print a0 = some r) : Calls Tryd.prog 14 #[.agg cs0.toArray] s.w (Ret s K0 (fun s1 v => v = .tuple #[S r.1, .int .i64 r.2])) := by
 unfold rev_Print at h
 obtain rfl := opnApiRev hp0
 have hS := Step.r0 K0 s
 refine k_fn (rs := [2, 3]) (args := [.agg #[.int .u64 (a0.Gen.toNat : Int), .int .u8 (a0.Sum.e0.toNat : Int), .int .u8 (a0.Sum.e1.toNat : Int), .int .u8 (a0.Sum.e2.toNat : Int), .int .u8 (a0.Sum.e3.toNat : Int), .int .u8 (a0.Sum.e4.toNat : Int), .int .u8 (a0.Sum.e5.toNat : Int), .int .u8 (a0.Sum.e6.toNat : Int), .int .u8 (a0.Sum.e7.toNat : Int), .int .u8 (a0.Sum.e8.toNat : Int), .int .u8 (a0.Sum.e9.toNat : Int), .int .u8 (a0.Sum.e10.toNat : Int), .int .u8 (a0.Sum.e11.toNat : Int), .int .u8 (a0.Sum.e12.toNat : Int), .int .u8 (a0.Sum.e13.toNat : Int), .int .u8 (a0.Sum.e14.toNat : Int), .int .u8 (a0.Sum.e15.toNat : Int)]]) Tryd.func14 rfl rfl rfl rfl ?_
 refine k_seq ?_
 refine k_region ?_
 refine k_box rfl rfl ?_
 intro s1 b1 st1 h1 ge1
 have szs1 := st1.size
 have hS := hS.trans0 st1
 replace tb2 := tb2.up2 st1
 have lt1 := h1.lt
 refine k_assign rfl rfl ?_
 refine k_assign rfl rfl ?_
 refine k_nil ?_
 refine k_keep [(1, _), (2, _), (3, _)] ⟨rfl, rfl, rfl, trivial⟩ ?_
 refine k_seq ?_
 refine k_seq ?_
 refine k_region ?_
 refine k_load_blka (cs := [.int .u64 (a0.Gen.toNat : Int), .int .u8 (a0.Sum.e0.toNat : Int), .int .u8 (a0.Sum.e1.toNat : Int), .int .u8 (a0.Sum.e2.toNat : Int), .int .u8 (a0.Sum.e3.toNat : Int), .int .u8 (a0.Sum.e4.toNat : Int), .int .u8 (a0.Sum.e5.toNat : Int), .int .u8 (a0.Sum.e6.toNat : Int), .int .u8 (a0.Sum.e7.toNat : Int), .int .u8 (a0.Sum.e8.toNat : Int), .int .u8 (a0.Sum.e9.toNat : Int), .int .u8 (a0.Sum.e10.toNat : Int), .int .u8 (a0.Sum.e11.toNat : Int), .int .u8 (a0.Sum.e12.toNat : Int), .int .u8 (a0.Sum.e13.toNat : Int), .int .u8 (a0.Sum.e14.toNat : Int), .int .u8 (a0.Sum.e15.toNat : Int)]) agg29 rfl h1 rfl ?_
 obtain ⟨x1, hx1, h⟩ := ob h
 refine k_call cal13 rfl (rev_May_w  (clsApiRev a0) hx1) rfl ?_
 rintro s2 vr2 st2 rfl
 have szs2 := st2.size
 have hS := hS.trans0 st2
 replace h1 := h1.up2 st2
 replace tb2 := tb2.up2 st2
 refine k_not rfl rfl ?_
 refine k_nil ?_
 refine k_keep [(1, _), (2, _), (3, _), (9, _)] ⟨rfl, rfl, rfl, rfl, trivial⟩ ?_
 refine k_cond rfl (fun c3 => ?_) (fun c3 => ?_)
 ·
  have h := ibT h c3
  refine k_seq ?_
  refine k_region ?_
  refine k_assign rfl rfl ?_
  refine k_assign rfl rfl ?_
  refine k_nil ?_
  refine k_keep [(1, _), (2, _), (3, _)] ⟨rfl, rfl, rfl, trivial⟩ ?_
  refine k_ret ?_
  obtain rfl := Option.some.inj h
  refine ⟨_, rfl, Ret.mk hS ?_⟩
  exact rfl
 ·
  have h := ibF h c3
  refine k_skip ?_
  refine k_seq ?_
  refine k_region ?_
  refine k_field_addr fld29_0 rfl rfl ?_
  refine k_load_blk one26 rfl h1 rfl rfl ?_
  obtain ⟨x2, hx2, h⟩ := ob h
  refine k_call cal25 rfl (strconv_AppendUint_nl_o_own_w  tb2 hx2) rfl ?_
  rintro s4 v4_0 st4 ⟨_, l4_0, rfl, hl4_0, h4_0⟩
  have szs4 := st4.size
  have hS := hS.trans0 st4
  replace h1 := h1.up2 st4
  obtain ⟨l4_0, hl4_0, h4_0⟩ := Own.anew 2040 h4_0 hl4_0 szs4
  have lt4_0 := Own.le1 h4_0
  refine k_bslice2 (ds := ([(45 : UInt8)] : List UInt8).map bD) slc51 rfl (RVs.cons (R.val rfl) RVs.nil) (by rfl) (by rfl) rfl rfl ?_
  intro s5 v5 b5 st5 ge5 bl5 h5
  have szs5 := st5.size
  have hS := hS.trans0 st5
  replace h1 := h1.up2 st5
  replace h4_0 := h4_0.up2 st5
  have lt5 := Own.le1 h5
  obtain ⟨x3, hx3, h⟩ := ob h
  refine k_append (es := ([(45 : UInt8)] : List UInt8).map bD) elem51 rfl rfl h4_0 (h5.sl) (by have := (app_out hx3).1; simp only [List.length_map] at *; omega) (by have := (app_out hx3).1; simp only [List.length_map] at *; omega) rfl ?_
  intro s6 v6 st6 h6
  rw [← List.map_append, ← (app_out hx3).2] at h6
  have szs6 := st6.size
  have hS := hS.c0 st6
  replace h1 := h1.up2 st6
  refine k_assign rfl rfl ?_
  refine k_nil ?_
  refine k_keep [(1, _), (2, _), (3, _), (4, _)] ⟨rfl, rfl, rfl, rfl, trivial⟩ ?_
  refine k_seq ?_
  obtain ⟨kj4, hK7, h⟩ := jn_out h
  have hE7 := Step.r0 (KC l4_0.o l4_0.c) s6
  refine k_cutc (X := St × (List UInt8) × Value) [(2, S ([] : List UInt8)), (3, .int .i64 0)] (fun (xL : St × (List UInt8) × Value) => match xL with | (sl, x5, v8) => [(4, v8)]) (fun (xL : St × (List UInt8) × Value) (wL : World) => match xL with | (sl, x5, v8) => sl.w = wL ∧ Step (KC l4_0.o l4_0.c) s6 sl ∧ (Own sl ⟨l4_0.o, l4_0.c⟩ 5 1 v8 (x5.map bD)) ∧ kj4 x5 = some r) ?_ ?_
  ·
   refine k_seq ?_
   refine k_region ?_
   refine k_field_addr fld29_1 rfl rfl ?_
   refine k_load_sub (cs' := [.int .u8 (a0.Sum.e0.toNat : Int), .int .u8 (a0.Sum.e1.toNat : Int), .int .u8 (a0.Sum.e2.toNat : Int), .int .u8 (a0.Sum.e3.toNat : Int), .int .u8 (a0.Sum.e4.toNat : Int), .int .u8 (a0.Sum.e5.toNat : Int), .int .u8 (a0.Sum.e6.toNat : Int), .int .u8 (a0.Sum.e7.toNat : Int), .int .u8 (a0.Sum.e8.toNat : Int), .int .u8 (a0.Sum.e9.toNat : Int), .int .u8 (a0.Sum.e10.toNat : Int), .int .u8 (a0.Sum.e11.toNat : Int), .int .u8 (a0.Sum.e12.toNat : Int), .int .u8 (a0.Sum.e13.toNat : Int), .int .u8 (a0.Sum.e14.toNat : Int), .int .u8 (a0.Sum.e15.toNat : Int)]) agg27 rfl h1 rfl rfl rfl ?_
   refine k_move rfl rfl ?_
   refine k_nil ?_
   refine k_keep [(2, _), (3, _), (4, _), (16, _), (17, _)] ⟨rfl, rfl, rfl, rfl, rfl, trivial⟩ ?_
   refine k_block ?_
   refine k_loopc (X := St × (List UInt8) × Value × Int × Nat) [(2, _), (3, _), (16, _)] (fun (xL : St × (List UInt8) × Value × Int × Nat) => match xL with | (sl, x6, v10, x7, j) => [(4, v10), (17, .int .i64 x7)]) (fun (xL : St × (List UInt8) × Value × Int × Nat) (wL : World) => match xL with | (sl, x6, v10, x7, j) => sl.w = wL ∧ Step (KC l4_0.o l4_0.c) s6 sl ∧ (Own sl ⟨l4_0.o, l4_0.c⟩ 5 1 v10 (x6.map bD)) ∧ rev_Print_l1 a0 kj4 j x6 x7 = some r) (fun (xL : St × (List UInt8) × Value × Int × Nat) => match xL with | (sl, x6, v10, x7, j) => j) (s6, x3, v6, 0, FU) ⟨rfl, rfl, rfl, trivial⟩ ⟨(by first | rfl | (simp <;> rfl)), (by first | rfl | (simp <;> rfl)), trivial⟩ ⟨rfl, (Step.refl _).of0 (by first | exact fun _ h => h | (intro c h; simp [KC, KO, KU, KN, KB] at h <;> omega)), h6, h⟩ ?_
   rintro ⟨s11, x6, v10, x7, j⟩ wL ⟨rfl, hE9, h10, h⟩
   cases j with
   | zero => rw [rev_Print_l1] at h; exact (noneNe h).elim
   | succ j =>
   rw [rev_Print_l1] at h
   have szs11 := hE9.size
   have hS := hS.c0 hE9
   have hE7 := hE7.c0 hE9
   refine k_seq ?_
   refine k_region ?_
   refine k_lss rfl rfl rfl ?_
   refine k_nil ?_
   refine k_seq ?_
   refine k_cond_dec rfl (fun c12 => ?_) (fun c12 => ?_)
   ·
    have h := itT h c12
    refine k_skip ?_
    refine k_seq ?_
    refine k_block ?_
    refine k_seq ?_
    refine k_region ?_
    obtain ⟨x8, hx8, h⟩ := ob h
    refine k_index_row cB (xs := ([a0.Sum.e0, a0.Sum.e1, a0.Sum.e2, a0.Sum.e3, a0.Sum.e4, a0.Sum.e5, a0.Sum.e6, a0.Sum.e7, a0.Sum.e8, a0.Sum.e9, a0.Sum.e10, a0.Sum.e11, a0.Sum.e12, a0.Sum.e13, a0.Sum.e14, a0.Sum.e15] : List UInt8)) arr27 one5 rfl rfl rfl hx8 rfl ?_
    refine k_assign rfl rfl ?_
    refine k_nil ?_
    refine k_keep [(2, _), (3, _), (4, _), (6, _), (16, _), (17, _)] ⟨rfl, rfl, rfl, rfl, rfl, rfl, trivial⟩ ?_
    have h10_d := h10
    refine k_drawT (KN s11.n) 8 (.read 0 (.read 1 (.read 2 (.read 3 (.read 4 (.read 5 (.read 6 (.alt 7 .fin .no)))))))) mixed (by intro c h; (try simp only [KC, KO, KU, KN, KB] at h) <;> omega) rfl rfl rfl ?_
    intro s13 st13
    have szs13 := st13.size
    have hS := hS.trans0 st13
    have hE7 := hE7.trans0 st13
    have hE9 := hE9.trans0 st13
    replace h10 := h10.up2 st13
    refine rt_read (v10) rfl rfl (fun s14 st14 => ?_) ?_
    ·refine k_move rfl rfl ?_
     exact fq_end
    refine rt_read (.int .u8 (x8.toNat : Int)) rfl rfl (fun s15 st15 => ?_) ?_
    ·refine k_move rfl rfl ?_
     exact fq_end
    refine rt_read (.int .u8 ((shr8 x8 4).toNat : Int)) rfl rfl (fun s16 st16 => ?_) ?_
    ·refine k_shr (p := (x8.toNat : Int)) rfl rfl (by decide) rfl ?_
     refine k_as (congrArg (Value.int .u8) (shr8_eq _ _)) ?_
     exact fq_end
    obtain ⟨x9, hx9, h⟩ := ob h
    refine rt_read (.int .u8 (x9.toNat : Int)) rfl rfl (fun s17 st17 => ?_) ?_
    ·refine k_index_str Tryd.underlying9 rfl rfl (geti_out hx9).1 (geti_out hx9).2.1 rfl ?_
     refine k_as (congrArg (fun c : UInt8 => Value.int .u8 (c.toNat : Int)) (geti_getD hx9)) ?_
     exact fq_end
    refine rt_read (.int .u8 (x8.toNat : Int)) rfl rfl (fun s18 st18 => ?_) ?_
    ·refine k_move rfl rfl ?_
     exact fq_end
    refine rt_read (.int .u8 ((x8 &&& (15 : UInt8)).toNat : Int)) rfl rfl (fun s19 st19 => ?_) ?_
    ·refine k_bits (p := (x8.toNat : Int)) (q := ((15 : UInt8).toNat : Int)) (.inl ⟨rfl, rfl⟩) rfl rfl rfl ?_
     refine k_as (congrArg (Value.int .u8) (and8 _ _)) ?_
     exact fq_end
    obtain ⟨x10, hx10, h⟩ := ob h
    refine rt_read (.int .u8 (x10.toNat : Int)) rfl rfl (fun s20 st20 => ?_) ?_
    ·refine k_index_str Tryd.underlying9 rfl rfl (geti_out hx10).1 (geti_out hx10).2.1 rfl ?_
     refine k_as (congrArg (fun c : UInt8 => Value.int .u8 (c.toNat : Int)) (geti_getD hx10)) ?_
     exact fq_end
    refine rt_act rfl rfl ?_
    have hA21 := Step.r0 (KN s11.n) s13
    refine k_bslice2 (ds := ([x9, x10] : List UInt8).map bD) slc51 rfl (RVs.cons (R.val rfl) (RVs.cons (R.val rfl) RVs.nil)) (by rfl) (by rfl) rfl rfl ?_
    intro s22 v22 b22 st22 ge22 bl22 h22
    have szs22 := st22.size
    have hS := hS.trans0 st22
    have hE7 := hE7.trans0 st22
    have hE9 := hE9.trans0 st22
    have hA21 := hA21.trans0 st22
    replace h10 := h10.up2 st22
    have lt22 := Own.le1 h22
    refine rt_cont hA21 ?_
    refine rt_fin ?_
    obtain ⟨x11, hx11, h⟩ := ob h
    refine k_append (es := ([x9, x10] : List UInt8).map bD) elem51 rfl rfl h10 (h22.sl) (by have := (app_out hx11).1; simp only [List.length_map] at *; omega) (by have := (app_out hx11).1; simp only [List.length_map] at *; omega) rfl ?_
    intro s23 v23 st23 h23
    rw [← List.map_append, ← (app_out hx11).2] at h23
    have szs23 := st23.size
    have hS := hS.c0 st23
    have hE7 := hE7.c0 st23
    have hE9 := hE9.c0 st23
    refine k_assign rfl rfl ?_
    refine k_nil ?_
    refine k_blk ?_
    refine k_region ?_
    refine k_add rfl rfl rfl ?_
    refine k_move rfl rfl ?_
    refine k_nil ?_
    exact k_stop ⟨(s23, x11, v23, i64 (x7 + 1), j), ⟨(by first | rfl | (simp <;> rfl)), (by first | rfl | (simp <;> rfl)), trivial⟩, ⟨rfl, rfl, rfl, trivial⟩, ⟨rfl, hE9, h23, h⟩, (by simp)⟩
   ·
    have h := itF h c12
    refine k_exit rfl ?_
    exact k_stop ⟨(s11, x6, v10), ⟨(by first | rfl | (simp <;> rfl)), trivial⟩, ⟨rfl, rfl, trivial⟩, ⟨rfl, hE7, h10, h⟩⟩
  ·
   rintro ⟨s24, x5, v8⟩ wL ⟨rfl, hE7, h8, h⟩
   rw [hK7] at h
   have szs24 := hE7.size
   have hS := hS.c0 hE7
   refine k_seq ?_
   refine k_region ?_
   refine k_move rfl rfl ?_
   refine k_bts (m := x5) Tryd.underlying51 Tryd.underlying5 Tryd.underlying9 rfl (h8.sl) rfl ?_
   refine k_assign rfl rfl ?_
   refine k_assign rfl rfl ?_
   refine k_nil ?_
   refine k_keep [(2, _), (3, _)] ⟨rfl, rfl, trivial⟩ ?_
   refine k_ret ?_
   obtain rfl := Option.some.inj h
   refine ⟨_, rfl, Ret.mk hS ?_⟩
   exact rfl

set_option maxHeartbeats 20000000 in
set_option maxRecDepth 100000 in
theorem ref06_Print_w {s : St} {cs0 : List Value} {a0 : ApiRev} {r : (List UInt8)} (hp0 : RC s cs0 (dApiRev a0)) (h : ref06_Print a0 = some r) : Calls Tryd.prog 16 #[.agg cs0.toArray] s.w (Ret s K0 (fun s1 v => v = S r)) := by
 unfold ref06_Print at h
 obtain rfl := opnApiRev hp0
 have hS := Step.r0 K0 s
 refine k_fn (rs := [2]) (args := [.agg #[.int .u64 (a0.Gen.toNat : Int), .int .u8 (a0.Sum.e0.toNat : Int), .int .u8 (a0.Sum.e1.toNat : Int), .int .u8 (a0.Sum.e2.toNat : Int), .int .u8 (a0.Sum.e3.toNat : Int), .int .u8 (a0.Sum.e4.toNat : Int), .int .u8 (a0.Sum.e5.toNat : Int), .int .u8 (a0.Sum.e6.toNat : Int), .int .u8 (a0.Sum.e7.toNat : Int), .int .u8 (a0.Sum.e8.toNat : Int), .int .u8 (a0.Sum.e9.toNat : Int), .int .u8 (a0.Sum.e10.toNat : Int), .int .u8 (a0.Sum.e11.toNat : Int), .int .u8 (a0.Sum.e12.toNat : Int), .int .u8 (a0.Sum.e13.toNat : Int), .int .u8 (a0.Sum.e14.toNat : Int), .int .u8 (a0.Sum.e15.toNat : Int)]]) Tryd.func16 rfl rfl rfl rfl ?_
 refine k_seq ?_
 refine k_region ?_
 refine k_box rfl rfl ?_
 intro s1 b1 st1 h1 ge1
 have szs1 := st1.size
 have hS := hS.trans0 st1
 have lt1 := h1.lt
 refine k_assign rfl rfl ?_
 refine k_nil ?_
 refine k_keep [(1, _), (2, _)] ⟨rfl, rfl, trivial⟩ ?_
 refine k_seq ?_
 refine k_region ?_
 refine k_assign rfl rfl ?_
 refine k_nil ?_
 refine k_seq ?_
 obtain ⟨kj1, hK2, h⟩ := jn_out h
 have hE2 := Step.r0 K0 s1
 refine k_cutc (X := St × (List UInt8)) [(1, .pointer (some ⟨b1, 0, none⟩)), (2, S ([] : List UInt8))] (fun (xL : St × (List UInt8)) => match xL with | (sl, x2) => [(3, S x2)]) (fun (xL : St × (List UInt8)) (wL : World) => match xL with | (sl, x2) => sl.w = wL ∧ Step K0 s1 sl ∧ kj1 x2 = some r) ?_ ?_
 ·
  refine k_seq ?_
  refine k_region ?_
  refine k_field_addr fld29_0 rfl rfl ?_
  refine k_load_blk one26 rfl h1 rfl rfl ?_
  refine k_assign rfl rfl ?_
  refine k_nil ?_
  refine k_keep [(1, _), (2, _), (3, _), (4, _)] ⟨rfl, rfl, rfl, rfl, trivial⟩ ?_
  refine k_block ?_
  refine k_loopc (X := St × (List UInt8) × UInt64 × Nat) [(1, _), (2, _)] (fun (xL : St × (List UInt8) × UInt64 × Nat) => match xL with | (sl, x3, x4, j) => [(3, S x3), (4, .int .u64 (x4.toNat : Int))]) (fun (xL : St × (List UInt8) × UInt64 × Nat) (wL : World) => match xL with | (sl, x3, x4, j) => sl.w = wL ∧ Step K0 s1 sl ∧ ref06_Print_l1 kj1 j x3 x4 = some r) (fun (xL : St × (List UInt8) × UInt64 × Nat) => match xL with | (sl, x3, x4, j) => j) (s1, ([] : List UInt8), a0.Gen, FU) ⟨rfl, rfl, trivial⟩ ⟨(by first | rfl | (simp <;> rfl)), (by first | rfl | (simp <;> rfl)), trivial⟩ ⟨rfl, (Step.refl _).of0 (by first | exact fun _ h => h | (intro c h; simp [KC, KO, KU, KN, KB] at h <;> omega)), h⟩ ?_
  rintro ⟨s4, x3, x4, j⟩ wL ⟨rfl, hE3, h⟩
  cases j with
  | zero => rw [ref06_Print_l1] at h; exact (noneNe h).elim
  | succ j =>
  rw [ref06_Print_l1] at h
  have szs4 := hE3.size
  have hS := hS.trans0 hE3
  have hE2 := hE2.trans0 hE3
  refine k_seq ?_
  refine k_block ?_
  refine k_seq ?_
  refine k_region ?_
  refine k_move rfl rfl ?_
  refine k_rem rfl rfl (by decide) rfl ?_
  refine k_as (congrArg (Value.int .u64) (rem64 _ _)) ?_
  refine k_move rfl rfl ?_
  refine k_rem rfl rfl (by decide) rfl ?_
  refine k_as (congrArg (Value.int .u64) (rem64 _ _)) ?_
  refine k_add rfl rfl rfl ?_
  refine k_as (congrArg (Value.int .u64) (w64 _)) ?_
  obtain ⟨x5, hx5, h⟩ := ob h
  refine k_cut_str (i := (((ofI64 ((x4.toNat : Int).tmod 10)).toNat : Int) : Int).toNat) (j := (((ofI64 (((ofI64 ((x4.toNat : Int).tmod 10)).toNat : Int) + 1)).toNat : Int) : Int).toNat) Tryd.underlying9 rfl (CutAt.int rfl (subl_out hx5).1) (CutAt.int rfl (Int.le_trans (subl_out hx5).1 (subl_out hx5).2.1)) (subl_ij hx5) (subl_j hx5) rfl ?_
  refine k_as (v := S x5) (congrArg S (subl_out hx5).2.2.2.symm) ?_
  refine k_move rfl rfl ?_
  obtain ⟨x6, hx6, h⟩ := ob h
  refine k_add_str rfl rfl (app_out hx6).1 rfl ?_
  refine k_as (v := S x6) (congrArg S (app_out hx6).2.symm) ?_
  refine k_assign rfl rfl ?_
  refine k_nil ?_
  refine k_keep [(1, _), (2, _), (3, _), (4, _)] ⟨rfl, rfl, rfl, rfl, trivial⟩ ?_
  refine k_seq ?_
  refine k_region ?_
  refine k_move rfl rfl ?_
  refine k_lss rfl rfl rfl ?_
  refine k_nil ?_
  refine k_keep [(1, _), (2, _), (3, _), (4, _), (19, _)] ⟨rfl, rfl, rfl, rfl, rfl, trivial⟩ ?_
  refine k_cond_dec rfl (fun c5 => ?_) (fun c5 => ?_)
  ·
   have h := itT h c5
   refine k_exit rfl ?_
   exact k_stop ⟨(s4, x6), ⟨(by first | rfl | (simp <;> rfl)), trivial⟩, ⟨rfl, rfl, trivial⟩, ⟨rfl, hE2, h⟩⟩
  ·
   have h := itF h c5
   refine k_skip ?_
   refine k_blk ?_
   refine k_region ?_
   refine k_move rfl rfl ?_
   refine k_quo rfl rfl (by decide) rfl ?_
   refine k_as (congrArg (Value.int .u64) (w64 _)) ?_
   refine k_assign rfl rfl ?_
   refine k_nil ?_
   exact k_stop ⟨(s4, x6, ofI64 ((x4.toNat : Int).tdiv 10), j), ⟨(by first | rfl | (simp <;> rfl)), (by first | rfl | (simp <;> rfl)), trivial⟩, ⟨rfl, rfl, trivial⟩, ⟨rfl, hE3, h⟩, (by simp)⟩
 ·
  rintro ⟨s6, x2⟩ wL ⟨rfl, hE2, h⟩
  rw [hK2] at h
  have szs6 := hE2.size
  have hS := hS.trans0 hE2
  replace h1 := h1.up2 hE2
  refine k_seq ?_
  refine k_region ?_
  refine k_move rfl rfl ?_
  obtain ⟨x7, hx7, h⟩ := ob h
  refine k_add_str rfl rfl (app_out hx7).1 rfl ?_
  refine k_as (v := S x7) (congrArg S (app_out hx7).2.symm) ?_
  refine k_assign rfl rfl ?_
  refine k_nil ?_
  refine k_keep [(1, _), (2, _), (3, _)] ⟨rfl, rfl, rfl, trivial⟩ ?_
  refine k_seq ?_
  obtain ⟨kj8, hK7, h⟩ := jn_out h
  have hE7 := Step.r0 K0 s6
  refine k_cutc (X := St × (List UInt8)) [(2, S ([] : List UInt8))] (fun (xL : St × (List UInt8)) => match xL with | (sl, x9) => [(3, S x9)]) (fun (xL : St × (List UInt8)) (wL : World) => match xL with | (sl, x9) => sl.w = wL ∧ Step K0 s6 sl ∧ kj8 x9 = some r) ?_ ?_
  ·
   refine k_seq ?_
   refine k_region ?_
   refine k_assign rfl rfl ?_
   refine k_nil ?_
   refine k_block ?_
   refine k_loopc (X := St × (List UInt8) × Int × Nat) [(1, _), (2, _)] (fun (xL : St × (List UInt8) × Int × Nat) => match xL with | (sl, x10, x11, j) => [(3, S x10), (5, .int .i64 x11)]) (fun (xL : St × (List UInt8) × Int × Nat) (wL : World) => match xL with | (sl, x10, x11, j) => sl.w = wL ∧ Step K0 s6 sl ∧ ref06_Print_l2 a0 kj8 j x10 x11 = some r) (fun (xL : St × (List UInt8) × Int × Nat) => match xL with | (sl, x10, x11, j) => j) (s6, x7, 0, FU) ⟨rfl, rfl, trivial⟩ ⟨(by first | rfl | (simp <;> rfl)), (by first | rfl | (simp <;> rfl)), trivial⟩ ⟨rfl, (Step.refl _).of0 (by first | exact fun _ h => h | (intro c h; simp [KC, KO, KU, KN, KB] at h <;> omega)), h⟩ ?_
   rintro ⟨s9, x10, x11, j⟩ wL ⟨rfl, hE8, h⟩
   cases j with
   | zero => rw [ref06_Print_l2] at h; exact (noneNe h).elim
   | succ j =>
   rw [ref06_Print_l2] at h
   have szs9 := hE8.size
   have hS := hS.trans0 hE8
   have hE7 := hE7.trans0 hE8
   replace h1 := h1.up2 hE8
   refine k_seq ?_
   refine k_seq ?_
   refine k_region ?_
   refine k_move rfl rfl ?_
   refine k_lss rfl rfl rfl ?_
   refine k_nil ?_
   refine k_keep [(1, _), (2, _), (3, _), (5, _), (23, _)] ⟨rfl, rfl, rfl, rfl, rfl, trivial⟩ ?_
   refine k_cond_dec rfl (fun c10 => ?_) (fun c10 => ?_)
   ·
    have h := itT h c10
    refine k_skip ?_
    refine k_seq ?_
    refine k_block ?_
    refine k_keep [(1, _), (2, _), (3, _), (5, _)] ⟨rfl, rfl, rfl, rfl, trivial⟩ ?_
    refine k_drawT (KN s9.n) 27 (.read 0 (.read 1 (.read 2 (.read 3 (.read 4 (.read 5 (.read 6 (.read 7 (.read 8 (.read 9 (.read 10 (.read 11 (.read 12 (.read 13 (.read 14 (.read 15 (.read 16 (.read 17 (.read 18 (.read 19 (.read 20 (.read 21 (.read 22 (.read 23 (.read 24 (.read 25 (.read 26 .fin))))))))))))))))))))))))))) mixed (by intro c h; (try simp only [KC, KO, KU, KN, KB] at h) <;> omega) rfl rfl rfl ?_
    intro s11 st11
    have szs11 := st11.size
    have hS := hS.trans0 st11
    have hE7 := hE7.trans0 st11
    have hE8 := hE8.trans0 st11
    replace h1 := h1.up2 st11
    refine rt_read (S x10) rfl rfl (fun s12 st12 => ?_) ?_
    ·refine k_move rfl rfl ?_
     exact fq_end
    refine rt_read (.int .i64 x11) rfl rfl (fun s13 st13 => ?_) ?_
    ·refine k_move rfl rfl ?_
     exact fq_end
    refine rt_read (.pointer (some ⟨b1, 1, none⟩)) rfl rfl (fun s14 st14 => ?_) ?_
    ·refine k_field_addr fld29_1 rfl rfl ?_
     exact fq_end
    obtain ⟨x12, hx12, h⟩ := ob h
    refine rt_read (.pointer (some ⟨b1, 1 + (x11 : Int).toNat, none⟩)) rfl rfl (fun s15 st15 => ?_) ?_
    ·refine k_ixarr (m := 1) (xs := ([a0.Sum.e0, a0.Sum.e1, a0.Sum.e2, a0.Sum.e3, a0.Sum.e4, a0.Sum.e5, a0.Sum.e6, a0.Sum.e7, a0.Sum.e8, a0.Sum.e9, a0.Sum.e10, a0.Sum.e11, a0.Sum.e12, a0.Sum.e13, a0.Sum.e14, a0.Sum.e15] : List UInt8)) arr27 rfl rfl rfl hx12 rfl ?_
     exact fq_end
    obtain ⟨x13, hx13, h⟩ := ob h
    refine rt_read (.int .u8 (x13.toNat : Int)) rfl rfl (fun s16 st16 => ?_) ?_
    ·try replace h1 := h1.up2 st16
     refine k_load_el2 cB (pre := [.int .u64 (a0.Gen.toNat : Int)]) (post := []) (xs := ([a0.Sum.e0, a0.Sum.e1, a0.Sum.e2, a0.Sum.e3, a0.Sum.e4, a0.Sum.e5, a0.Sum.e6, a0.Sum.e7, a0.Sum.e8, a0.Sum.e9, a0.Sum.e10, a0.Sum.e11, a0.Sum.e12, a0.Sum.e13, a0.Sum.e14, a0.Sum.e15] : List UInt8)) one5 rfl h1 rfl hx13 rfl ?_
     exact fq_end
    refine rt_read (.int .u8 ((shr8 x13 4).toNat : Int)) rfl rfl (fun s17 st17 => ?_) ?_
    ·refine k_shr (p := (x13.toNat : Int)) rfl rfl (by decide) rfl ?_
     refine k_as (congrArg (Value.int .u8) (shr8_eq _ _)) ?_
     exact fq_end
    refine rt_read (.int .i64 x11) rfl rfl (fun s18 st18 => ?_) ?_
    ·refine k_move rfl rfl ?_
     exact fq_end
    refine rt_read (.pointer (some ⟨b1, 1, none⟩)) rfl rfl (fun s19 st19 => ?_) ?_
    ·refine k_field_addr fld29_1 rfl rfl ?_
     exact fq_end
    obtain ⟨x14, hx14, h⟩ := ob h
    refine rt_read (.pointer (some ⟨b1, 1 + (x11 : Int).toNat, none⟩)) rfl rfl (fun s20 st20 => ?_) ?_
    ·refine k_ixarr (m := 1) (xs := ([a0.Sum.e0, a0.Sum.e1, a0.Sum.e2, a0.Sum.e3, a0.Sum.e4, a0.Sum.e5, a0.Sum.e6, a0.Sum.e7, a0.Sum.e8, a0.Sum.e9, a0.Sum.e10, a0.Sum.e11, a0.Sum.e12, a0.Sum.e13, a0.Sum.e14, a0.Sum.e15] : List UInt8)) arr27 rfl rfl rfl hx14 rfl ?_
     exact fq_end
    obtain ⟨x15, hx15, h⟩ := ob h
    refine rt_read (.int .u8 (x15.toNat : Int)) rfl rfl (fun s21 st21 => ?_) ?_
    ·try replace h1 := h1.up2 st21
     refine k_load_el2 cB (pre := [.int .u64 (a0.Gen.toNat : Int)]) (post := []) (xs := ([a0.Sum.e0, a0.Sum.e1, a0.Sum.e2, a0.Sum.e3, a0.Sum.e4, a0.Sum.e5, a0.Sum.e6, a0.Sum.e7, a0.Sum.e8, a0.Sum.e9, a0.Sum.e10, a0.Sum.e11, a0.Sum.e12, a0.Sum.e13, a0.Sum.e14, a0.Sum.e15] : List UInt8)) one5 rfl h1 rfl hx15 rfl ?_
     exact fq_end
    refine rt_read (.int .u8 ((shr8 x15 4).toNat : Int)) rfl rfl (fun s22 st22 => ?_) ?_
    ·refine k_shr (p := (x15.toNat : Int)) rfl rfl (by decide) rfl ?_
     refine k_as (congrArg (Value.int .u8) (shr8_eq _ _)) ?_
     exact fq_end
    refine rt_read (.int .u8 ((ofI8 (((shr8 x15 4).toNat : Int) + 1)).toNat : Int)) rfl rfl (fun s23 st23 => ?_) ?_
    ·refine k_add rfl rfl rfl ?_
     refine k_as (congrArg (Value.int .u8) (w8 _)) ?_
     exact fq_end
    obtain ⟨x16, hx16, h⟩ := ob h
    refine rt_read (S x16) rfl rfl (fun s24 st24 => ?_) ?_
    ·refine k_cut_str (i := (((shr8 x13 4).toNat : Int) : Int).toNat) (j := (((ofI8 (((shr8 x15 4).toNat : Int) + 1)).toNat : Int) : Int).toNat) Tryd.underlying9 rfl (CutAt.int rfl (subl_out hx16).1) (CutAt.int rfl (Int.le_trans (subl_out hx16).1 (subl_out hx16).2.1)) (subl_ij hx16) (subl_j hx16) rfl ?_
     refine k_as (v := S x16) (congrArg S (subl_out hx16).2.2.2.symm) ?_
     exact fq_end
    obtain ⟨x17, hx17, h⟩ := ob h
    refine rt_read (S x17) rfl rfl (fun s25 st25 => ?_) ?_
    ·refine k_add_str rfl rfl (app_out hx17).1 rfl ?_
     refine k_as (v := S x17) (congrArg S (app_out hx17).2.symm) ?_
     exact fq_end
    refine rt_read (.int .i64 x11) rfl rfl (fun s26 st26 => ?_) ?_
    ·refine k_move rfl rfl ?_
     exact fq_end
    refine rt_read (.pointer (some ⟨b1, 1, none⟩)) rfl rfl (fun s27 st27 => ?_) ?_
    ·refine k_field_addr fld29_1 rfl rfl ?_
     exact fq_end
    obtain ⟨x18, hx18, h⟩ := ob h
    refine rt_read (.pointer (some ⟨b1, 1 + (x11 : Int).toNat, none⟩)) rfl rfl (fun s28 st28 => ?_) ?_
    ·refine k_ixarr (m := 1) (xs := ([a0.Sum.e0, a0.Sum.e1, a0.Sum.e2, a0.Sum.e3, a0.Sum.e4, a0.Sum.e5, a0.Sum.e6, a0.Sum.e7, a0.Sum.e8, a0.Sum.e9, a0.Sum.e10, a0.Sum.e11, a0.Sum.e12, a0.Sum.e13, a0.Sum.e14, a0.Sum.e15] : List UInt8)) arr27 rfl rfl rfl hx18 rfl ?_
     exact fq_end
    obtain ⟨x19, hx19, h⟩ := ob h
    refine rt_read (.int .u8 (x19.toNat : Int)) rfl rfl (fun s29 st29 => ?_) ?_
    ·try replace h1 := h1.up2 st29
     refine k_load_el2 cB (pre := [.int .u64 (a0.Gen.toNat : Int)]) (post := []) (xs := ([a0.Sum.e0, a0.Sum.e1, a0.Sum.e2, a0.Sum.e3, a0.Sum.e4, a0.Sum.e5, a0.Sum.e6, a0.Sum.e7, a0.Sum.e8, a0.Sum.e9, a0.Sum.e10, a0.Sum.e11, a0.Sum.e12, a0.Sum.e13, a0.Sum.e14, a0.Sum.e15] : List UInt8)) one5 rfl h1 rfl hx19 rfl ?_
     exact fq_end
    refine rt_read (.int .u8 ((x19 &&& (15 : UInt8)).toNat : Int)) rfl rfl (fun s30 st30 => ?_) ?_
    ·refine k_bits (p := (x19.toNat : Int)) (q := ((15 : UInt8).toNat : Int)) (.inl ⟨rfl, rfl⟩) rfl rfl rfl ?_
     refine k_as (congrArg (Value.int .u8) (and8 _ _)) ?_
     exact fq_end
    refine rt_read (.int .i64 x11) rfl rfl (fun s31 st31 => ?_) ?_
    ·refine k_move rfl rfl ?_
     exact fq_end
    refine rt_read (.pointer (some ⟨b1, 1, none⟩)) rfl rfl (fun s32 st32 => ?_) ?_
    ·refine k_field_addr fld29_1 rfl rfl ?_
     exact fq_end
    obtain ⟨x20, hx20, h⟩ := ob h
    refine rt_read (.pointer (some ⟨b1, 1 + (x11 : Int).toNat, none⟩)) rfl rfl (fun s33 st33 => ?_) ?_
    ·refine k_ixarr (m := 1) (xs := ([a0.Sum.e0, a0.Sum.e1, a0.Sum.e2, a0.Sum.e3, a0.Sum.e4, a0.Sum.e5, a0.Sum.e6, a0.Sum.e7, a0.Sum.e8, a0.Sum.e9, a0.Sum.e10, a0.Sum.e11, a0.Sum.e12, a0.Sum.e13, a0.Sum.e14, a0.Sum.e15] : List UInt8)) arr27 rfl rfl rfl hx20 rfl ?_
     exact fq_end
    obtain ⟨x21, hx21, h⟩ := ob h
    refine rt_read (.int .u8 (x21.toNat : Int)) rfl rfl (fun s34 st34 => ?_) ?_
    ·try replace h1 := h1.up2 st34
     refine k_load_el2 cB (pre := [.int .u64 (a0.Gen.toNat : Int)]) (post := []) (xs := ([a0.Sum.e0, a0.Sum.e1, a0.Sum.e2, a0.Sum.e3, a0.Sum.e4, a0.Sum.e5, a0.Sum.e6, a0.Sum.e7, a0.Sum.e8, a0.Sum.e9, a0.Sum.e10, a0.Sum.e11, a0.Sum.e12, a0.Sum.e13, a0.Sum.e14, a0.Sum.e15] : List UInt8)) one5 rfl h1 rfl hx21 rfl ?_
     exact fq_end
    refine rt_read (.int .u8 ((x21 &&& (15 : UInt8)).toNat : Int)) rfl rfl (fun s35 st35 => ?_) ?_
    ·refine k_bits (p := (x21.toNat : Int)) (q := ((15 : UInt8).toNat : Int)) (.inl ⟨rfl, rfl⟩) rfl rfl rfl ?_
     refine k_as (congrArg (Value.int .u8) (and8 _ _)) ?_
     exact fq_end
    refine rt_read (.int .u8 ((ofI8 (((x21 &&& (15 : UInt8)).toNat : Int) + 1)).toNat : Int)) rfl rfl (fun s36 st36 => ?_) ?_
    ·refine k_add rfl rfl rfl ?_
     refine k_as (congrArg (Value.int .u8) (w8 _)) ?_
     exact fq_end
    obtain ⟨x22, hx22, h⟩ := ob h
    refine rt_read (S x22) rfl rfl (fun s37 st37 => ?_) ?_
    ·refine k_cut_str (i := (((x19 &&& (15 : UInt8)).toNat : Int) : Int).toNat) (j := (((ofI8 (((x21 &&& (15 : UInt8)).toNat : Int) + 1)).toNat : Int) : Int).toNat) Tryd.underlying9 rfl (CutAt.int rfl (subl_out hx22).1) (CutAt.int rfl (Int.le_trans (subl_out hx22).1 (subl_out hx22).2.1)) (subl_ij hx22) (subl_j hx22) rfl ?_
     refine k_as (v := S x22) (congrArg S (subl_out hx22).2.2.2.symm) ?_
     exact fq_end
    obtain ⟨x23, hx23, h⟩ := ob h
    refine rt_read (S x23) rfl rfl (fun s38 st38 => ?_) ?_
    ·refine k_add_str rfl rfl (app_out hx23).1 rfl ?_
     refine k_as (v := S x23) (congrArg S (app_out hx23).2.symm) ?_
     exact fq_end
    refine rt_fin ?_
    refine k_assign rfl rfl ?_
    refine k_nil ?_
    refine k_blk ?_
    refine k_region ?_
    refine k_move rfl rfl ?_
    refine k_add rfl rfl rfl ?_
    refine k_assign rfl rfl ?_
    refine k_nil ?_
    exact k_stop ⟨(s11, x23, i64 (x11 + 1), j), ⟨(by first | rfl | (simp <;> rfl)), (by first | rfl | (simp <;> rfl)), trivial⟩, ⟨rfl, rfl, trivial⟩, ⟨rfl, hE8, h⟩, (by simp)⟩
   ·
    have h := itF h c10
    refine k_exit rfl ?_
    exact k_stop ⟨(s9, x10), ⟨(by first | rfl | (simp <;> rfl)), trivial⟩, ⟨rfl, trivial⟩, ⟨rfl, hE7, h⟩⟩
  ·
   rintro ⟨s39, x9⟩ wL ⟨rfl, hE7, h⟩
   rw [hK7] at h
   have szs39 := hE7.size
   have hS := hS.trans0 hE7
   refine k_seq ?_
   refine k_region ?_
   refine k_move rfl rfl ?_
   refine k_assign rfl rfl ?_
   refine k_nil ?_
   refine k_keep [(2, _)] ⟨rfl, trivial⟩ ?_
   refine k_ret ?_
   obtain rfl := Option.some.inj h
   refine ⟨_, rfl, Ret.mk hS ?_⟩
   exact rfl

set_option maxHeartbeats 20000000 in
set_option maxRecDepth 100000 in
theorem ref06_Parse_w {s : St} {a0 : (List UInt8)} {r : (ApiRev × Bool)}  (h : ref06_Parse a0 = some r) : Calls Tryd.prog 18 #[S a0] s.w (Ret s K0 (fun s1 v => ∃ (u0 : List Value), v = .tuple #[.agg u0.toArray, .bool r.2] ∧ RC s1 u0 (dApiRev r.1))) := by
 unfold ref06_Parse at h
 have hS := Step.r0 K0 s
 refine k_fn_c (rs := [.cell 2 29, .tmp 3]) (args := [S a0]) Tryd.func18 rfl rfl rfl rfl ?_
 refine k_seq ?_
 refine k_region ?_
 refine k_alloc zero29 rfl ?_
 intro s1 b1 st1 h1 ge1
 have szs1 := st1.size
 have hS := hS.trans0 st1
 have lt1 := h1.lt
 refine k_assign rfl rfl ?_
 refine k_nil ?_
 refine k_seq ?_
 refine k_region ?_
 refine k_alloc zero29 rfl ?_
 intro s2 b2 st2 h2 ge2
 have szs2 := st2.size
 have hS := hS.trans0 st2
 replace h1 := h1.up2 st2
 have lt2 := h2.lt
 refine k_nil ?_
 refine k_seq ?_
 refine k_region ?_
 refine k_assign rfl rfl ?_
 refine k_nil ?_
 refine k_seq ?_
 obtain ⟨kj1, hK3, h⟩ := jn_out h
 have hE3 := Step.r0 (KC (b2 + 1) 0) s2
 refine k_cutc (X := St × Int × UInt64) [(0, S a0), (2, .pointer (some ⟨b1, 0, none⟩)), (3, .bool false), (4, .pointer (some ⟨b2, 0, none⟩))] (fun (xL : St × Int × UInt64) => match xL with | (sl, x2, x3) => [(5, .int .i64 x2)]) (fun (xL : St × Int × UInt64) (wL : World) => match xL with | (sl, x2, x3) => sl.w = wL ∧ Step (KC (b2 + 1) 0) s2 sl ∧ (Blk sl b2 ⟨b2 + 1, 0⟩ [.int .u64 (x3.toNat : Int), .int .u8 0, .int .u8 0, .int .u8 0, .int .u8 0, .int .u8 0, .int .u8 0, .int .u8 0, .int .u8 0, .int .u8 0, .int .u8 0, .int .u8 0, .int .u8 0, .int .u8 0, .int .u8 0, .int .u8 0, .int .u8 0] 29) ∧ kj1 x2 x3 = some r) ?_ ?_
 ·
  refine k_block ?_
  refine k_loopc (X := St × Int × UInt64 × Nat) [(0, _), (2, _), (3, _), (4, _)] (fun (xL : St × Int × UInt64 × Nat) => match xL with | (sl, x4, x5, j) => [(5, .int .i64 x4)]) (fun (xL : St × Int × UInt64 × Nat) (wL : World) => match xL with | (sl, x4, x5, j) => sl.w = wL ∧ Step (KC (b2 + 1) 0) s2 sl ∧ (Blk sl b2 ⟨b2 + 1, 0⟩ [.int .u64 (x5.toNat : Int), .int .u8 0, .int .u8 0, .int .u8 0, .int .u8 0, .int .u8 0, .int .u8 0, .int .u8 0, .int .u8 0, .int .u8 0, .int .u8 0, .int .u8 0, .int .u8 0, .int .u8 0, .int .u8 0, .int .u8 0, .int .u8 0] 29) ∧ ref06_Parse_l1 a0 kj1 j x4 x5 = some r) (fun (xL : St × Int × UInt64 × Nat) => match xL with | (sl, x4, x5, j) => j) (s2, 0, (0 : UInt64), FU) ⟨rfl, rfl, rfl, rfl, trivial⟩ ⟨(by first | rfl | (simp <;> rfl)), trivial⟩ ⟨rfl, (Step.refl _).of0 (by first | exact fun _ h => h | (intro c h; simp [KC, KO, KU, KN, KB] at h <;> omega)), h2, h⟩ ?_
  rintro ⟨s5, x4, x5, j⟩ wL ⟨rfl, hE4, h2, h⟩
  cases j with
  | zero => rw [ref06_Parse_l1] at h; exact (noneNe h).elim
  | succ j =>
  rw [ref06_Parse_l1] at h
  have szs5 := hE4.size
  have hS := hS.c0 hE4
  have hE3 := hE3.c0 hE4
  refine k_seq ?_
  refine k_seq ?_
  refine k_region ?_
  refine k_move rfl rfl ?_
  refine k_move rfl rfl ?_
  refine k_len_str Tryd.underlying9 rfl rfl ?_
  refine k_lss rfl rfl rfl ?_
  refine k_move rfl rfl ?_
  have hE6 := Step.r0 K0 s5
  refine k_cutl (X := St) 3 [(0, S a0), (2, .pointer (some ⟨b1, 0, none⟩)), (3, .bool false), (4, .pointer (some ⟨b2, 0, none⟩)), (5, .int .i64 x4), (9, .int .i64 x4), (10, S a0), (11, .int .i64 (a0.length : Int)), (12, .bool (decide (x4 < (a0.length : Int))))] (fun _ => [(16, .bool (decide ((x4 < (a0.length : Int)) ∧ (x4 < 20))))]) (fun sl wL => sl.w = wL ∧ Step K0 s5 sl) ?_ ?_
  ·
   refine k_again 13 rfl ?_
   refine k_split (fun c7 => ?_) (fun c7 => ?_)
   ·
    refine k_yes rfl rfl ?_
    refine k_move rfl rfl ?_
    refine k_yes rfl rfl ?_
    refine k_lss rfl rfl rfl ?_
    refine k_pickT rfl rfl rfl rfl ?_
    exact k_met ⟨s5, ⟨(congrArg (fun b => some (Value.bool b)) (by first | exact decide_eq_decide.2 ⟨fun h => ⟨c7, h⟩, fun h => h.2⟩ | exact (decide_eq_false (fun h => c7 h.1)).symm | (simp [c7]; done) | exact dec_andT c7 | exact dec_andF c7 | exact dec_orF c7 | exact dec_orT c7 | (simp [c7, i64] <;> omega))), trivial⟩, ⟨rfl, rfl, rfl, rfl, rfl, rfl, rfl, rfl, rfl, trivial⟩, rfl, hE6⟩
   ·
    refine k_no rfl rfl rfl rfl ?_
    refine k_no rfl rfl rfl rfl ?_
    refine k_pickF rfl rfl rfl rfl ?_
    exact k_met ⟨s5, ⟨(congrArg (fun b => some (Value.bool b)) (by first | exact decide_eq_decide.2 ⟨fun h => ⟨c7, h⟩, fun h => h.2⟩ | exact (decide_eq_false (fun h => c7 h.1)).symm | (simp [c7]; done) | exact dec_andT c7 | exact dec_andF c7 | exact dec_orF c7 | exact dec_orT c7 | (simp [c7, i64] <;> omega))), trivial⟩, ⟨rfl, rfl, rfl, rfl, rfl, rfl, rfl, rfl, rfl, trivial⟩, rfl, hE6⟩
  ·
   rintro s8 wL ⟨rfl, hE6⟩
   have szs8 := hE6.size
   have hS := hS.trans0 hE6
   have hE3 := hE3.trans0 hE6
   have hE4 := hE4.trans0 hE6
   replace h2 := h2.up2 hE6
   refine k_move rfl rfl ?_
   obtain ⟨x6, hx6, h⟩ := ob h
   have hE9 := Step.r0 K0 s8
   refine k_cutl (X := St) 5 [(0, S a0), (2, .pointer (some ⟨b1, 0, none⟩)), (3, .bool false), (4, .pointer (some ⟨b2, 0, none⟩)), (5, .int .i64 x4), (9, .int .i64 x4), (10, S a0), (11, .int .i64 (a0.length : Int)), (12, .bool (decide (x4 < (a0.length : Int)))), (16, .bool (decide ((x4 < (a0.length : Int)) ∧ (x4 < 20))))] (fun _ => [(22, .bool x6)]) (fun sl wL => sl.w = wL ∧ Step K0 s8 sl) ?_ ?_
   ·
    refine k_again 17 rfl ?_
    refine k_split (fun c10 => ?_) (fun c10 => ?_)
    ·
     have hx6 := itT hx6 c10
     refine k_yes rfl rfl ?_
     refine k_move rfl rfl ?_
     refine k_yes rfl rfl ?_
     refine k_move rfl rfl ?_
     refine k_yes rfl rfl ?_
     obtain ⟨x7, hx7, hx6⟩ := ob hx6
     refine k_index_str Tryd.underlying9 rfl rfl (geti_out hx7).1 (geti_out hx7).2.1 rfl ?_
     refine k_as (congrArg (fun c : UInt8 => Value.int .u8 (c.toNat : Int)) (geti_getD hx7)) ?_
     refine k_yes rfl rfl ?_
     refine k_geq rfl rfl rfl ?_
     refine k_pickT rfl rfl rfl rfl ?_
     exact k_met ⟨s8, ⟨(congrArg (fun b => some (Value.bool b)) (Option.some.inj hx6)), trivial⟩, ⟨rfl, rfl, rfl, rfl, rfl, rfl, rfl, rfl, rfl, rfl, trivial⟩, rfl, hE9⟩
    ·
     have hx6 := itF hx6 c10
     refine k_no rfl rfl rfl rfl ?_
     refine k_no rfl rfl rfl rfl ?_
     refine k_no rfl rfl rfl rfl ?_
     refine k_no rfl rfl rfl rfl ?_
     refine k_pickF rfl rfl rfl rfl ?_
     exact k_met ⟨s8, ⟨(congrArg (fun b => some (Value.bool b)) (Option.some.inj hx6)), trivial⟩, ⟨rfl, rfl, rfl, rfl, rfl, rfl, rfl, rfl, rfl, rfl, trivial⟩, rfl, hE9⟩
   ·
    rintro s11 wL ⟨rfl, hE9⟩
    have szs11 := hE9.size
    have hS := hS.trans0 hE9
    have hE3 := hE3.trans0 hE9
    have hE4 := hE4.trans0 hE9
    replace h2 := h2.up2 hE9
    refine k_move rfl rfl ?_
    obtain ⟨x8, hx8, h⟩ := ob h
    have hE12 := Step.r0 K0 s11
    refine k_cutl (X := St) 5 [(0, S a0), (2, .pointer (some ⟨b1, 0, none⟩)), (3, .bool false), (4, .pointer (some ⟨b2, 0, none⟩)), (5, .int .i64 x4), (9, .int .i64 x4), (10, S a0), (11, .int .i64 (a0.length : Int)), (12, .bool (decide (x4 < (a0.length : Int)))), (16, .bool (decide ((x4 < (a0.length : Int)) ∧ (x4 < 20)))), (22, .bool x6)] (fun _ => [(28, .bool x8)]) (fun sl wL => sl.w = wL ∧ Step K0 s11 sl) ?_ ?_
    ·
     refine k_again 23 rfl ?_
     refine k_splitb (fun c13 => ?_) (fun c13 => ?_)
     ·
      have hx8 := ibT hx8 c13
      refine k_yes rfl rfl ?_
      refine k_move rfl rfl ?_
      refine k_yes rfl rfl ?_
      refine k_move rfl rfl ?_
      refine k_yes rfl rfl ?_
      obtain ⟨x9, hx9, hx8⟩ := ob hx8
      refine k_index_str Tryd.underlying9 rfl rfl (geti_out hx9).1 (geti_out hx9).2.1 rfl ?_
      refine k_as (congrArg (fun c : UInt8 => Value.int .u8 (c.toNat : Int)) (geti_getD hx9)) ?_
      refine k_yes rfl rfl ?_
      refine k_leq rfl rfl rfl ?_
      refine k_pickT rfl rfl rfl rfl ?_
      exact k_met ⟨s11, ⟨(congrArg (fun b => some (Value.bool b)) (Option.some.inj hx8)), trivial⟩, ⟨rfl, rfl, rfl, rfl, rfl, rfl, rfl, rfl, rfl, rfl, rfl, trivial⟩, rfl, hE12⟩
     ·
      have hx8 := ibF hx8 c13
      refine k_no rfl rfl rfl rfl ?_
      refine k_no rfl rfl rfl rfl ?_
      refine k_no rfl rfl rfl rfl ?_
      refine k_no rfl rfl rfl rfl ?_
      refine k_pickF rfl rfl rfl rfl ?_
      exact k_met ⟨s11, ⟨(congrArg (fun b => some (Value.bool b)) (Option.some.inj hx8)), trivial⟩, ⟨rfl, rfl, rfl, rfl, rfl, rfl, rfl, rfl, rfl, rfl, rfl, trivial⟩, rfl, hE12⟩
    ·
     rintro s14 wL ⟨rfl, hE12⟩
     have szs14 := hE12.size
     have hS := hS.trans0 hE12
     have hE3 := hE3.trans0 hE12
     have hE4 := hE4.trans0 hE12
     replace h2 := h2.up2 hE12
     refine k_nil ?_
     refine k_keep [(0, _), (2, _), (3, _), (4, _), (5, _), (28, _)] ⟨rfl, rfl, rfl, rfl, rfl, rfl, trivial⟩ ?_
     refine k_cond rfl (fun c15 => ?_) (fun c15 => ?_)
     ·
      have h := ibT h c15
      refine k_skip ?_
      refine k_block ?_
      refine k_seq ?_
      refine k_keep [(0, _), (2, _), (3, _), (4, _), (5, _)] ⟨rfl, rfl, rfl, rfl, rfl, trivial⟩ ?_
      refine k_drawT (KN s14.n) 8 (.read 0 (.read 1 (.read 2 (.read 3 (.read 4 (.read 5 (.read 6 (.read 7 .fin)))))))) mixed (by intro c h; (try simp only [KC, KO, KU, KN, KB] at h) <;> omega) rfl rfl rfl ?_
      intro s16 st16
      have szs16 := st16.size
      have hS := hS.trans0 st16
      have hE3 := hE3.trans0 st16
      have hE4 := hE4.trans0 st16
      replace h2 := h2.up2 st16
      refine rt_read (.pointer (some ⟨b2, 0, none⟩)) rfl rfl (fun s17 st17 => ?_) ?_
      ·refine k_field_addr fld29_0 rfl rfl ?_
       exact fq_end
      refine rt_read (.int .u64 (x5.toNat : Int)) rfl rfl (fun s18 st18 => ?_) ?_
      ·try replace h2 := h2.up2 st18
       refine k_load_blk one26 rfl h2 rfl rfl ?_
       exact fq_end
      refine rt_read (.int .u64 ((ofI64 ((x5.toNat : Int) * 10)).toNat : Int)) rfl rfl (fun s19 st19 => ?_) ?_
      ·refine k_mul rfl rfl rfl ?_
       refine k_as (congrArg (Value.int .u64) (w64 _)) ?_
       exact fq_end
      refine rt_read (S a0) rfl rfl (fun s20 st20 => ?_) ?_
      ·refine k_move rfl rfl ?_
       exact fq_end
      refine rt_read (.int .i64 x4) rfl rfl (fun s21 st21 => ?_) ?_
      ·refine k_move rfl rfl ?_
       exact fq_end
      obtain ⟨x10, hx10, h⟩ := ob h
      refine rt_read (.int .u8 (x10.toNat : Int)) rfl rfl (fun s22 st22 => ?_) ?_
      ·refine k_index_str Tryd.underlying9 rfl rfl (geti_out hx10).1 (geti_out hx10).2.1 rfl ?_
       refine k_as (congrArg (fun c : UInt8 => Value.int .u8 (c.toNat : Int)) (geti_getD hx10)) ?_
       exact fq_end
      refine rt_read (.int .u8 ((ofI8 ((x10.toNat : Int) - 48)).toNat : Int)) rfl rfl (fun s23 st23 => ?_) ?_
      ·refine k_sub_ rfl rfl rfl ?_
       refine k_as (congrArg (Value.int .u8) (w8 _)) ?_
       exact fq_end
      refine rt_read (.int .u64 ((ofI64 ((ofI8 ((x10.toNat : Int) - 48)).toNat : Int)).toNat : Int)) rfl rfl (fun s24 st24 => ?_) ?_
      ·refine k_conv (p := ((ofI8 ((x10.toNat : Int) - 48)).toNat : Int)) Tryd.underlying5 Tryd.underlying26 rfl rfl ?_
       refine k_as (congrArg (Value.int .u64) (w64 _)) ?_
       exact fq_end
      refine rt_fin ?_
      refine k_add rfl rfl rfl ?_
      refine k_as (congrArg (Value.int .u64) (w64 _)) ?_
      refine k_field_addr fld29_0 rfl rfl ?_
      refine k_store_c (cs' := [.int .u64 ((ofI64 (((ofI64 ((x5.toNat : Int) * 10)).toNat : Int) + ((ofI64 ((ofI8 ((x10.toNat : Int) - 48)).toNat : Int)).toNat : Int))).toNat : Int), .int .u8 0, .int .u8 0, .int .u8 0, .int .u8 0, .int .u8 0, .int .u8 0, .int .u8 0, .int .u8 0, .int .u8 0, .int .u8 0, .int .u8 0, .int .u8 0, .int .u8 0, .int .u8 0, .int .u8 0, .int .u8 0]) size26 rfl rfl h2 (by first | (simp; done) | omega | (dsimp only; omega)) (CellsOf.lit rfl rfl) rfl (by first | rfl | (simp; done) | (simp; omega)) rfl ?_
      intro s25 st25 h2
      have szs25 := st25.size
      have hS := hS.c0 st25
      have hE3 := hE3.c0 st25
      have hE4 := hE4.c0 st25
      refine k_nil ?_
      refine k_keep [(0, _), (2, _), (3, _), (4, _), (5, _)] ⟨rfl, rfl, rfl, rfl, rfl, trivial⟩ ?_
      refine k_region ?_
      refine k_move rfl rfl ?_
      refine k_add rfl rfl rfl ?_
      refine k_assign rfl rfl ?_
      refine k_nil ?_
      refine k_blk ?_
      exact k_stop ⟨(s25, i64 (x4 + 1), ofI64 (((ofI64 ((x5.toNat : Int) * 10)).toNat : Int) + ((ofI64 ((ofI8 ((x10.toNat : Int) - 48)).toNat : Int)).toNat : Int)), j), ⟨(by first | rfl | (simp <;> rfl)), trivial⟩, ⟨rfl, rfl, rfl, rfl, trivial⟩, ⟨rfl, hE4, h2, h⟩, (by simp)⟩
     ·
      have h := ibF h c15
      refine k_exit rfl ?_
      exact k_stop ⟨(s14, x4, x5), ⟨(by first | rfl | (simp <;> rfl)), trivial⟩, ⟨rfl, rfl, rfl, rfl, trivial⟩, ⟨rfl, hE3, h2, h⟩⟩
 ·
  rintro ⟨s26, x2, x3⟩ wL ⟨rfl, hE3, h2, h⟩
  rw [hK3] at h
  have szs26 := hE3.size
  have hS := hS.c0 hE3
  replace h1 := h1.up2 hE3
  refine k_seq ?_
  refine k_seq ?_
  refine k_region ?_
  refine k_move rfl rfl ?_
  refine k_len_str Tryd.underlying9 rfl rfl ?_
  refine k_move rfl rfl ?_
  refine k_add rfl rfl rfl ?_
  refine k_neq rfl rfl rfl ?_
  refine k_move rfl rfl ?_
  obtain ⟨x11, hx11, h⟩ := ob h
  have hE27 := Step.r0 K0 s26
  refine k_cutl (X := St) 5 [(0, S a0), (2, .pointer (some ⟨b1, 0, none⟩)), (3, .bool false), (4, .pointer (some ⟨b2, 0, none⟩)), (5, .int .i64 x2), (41, S a0), (42, .int .i64 (a0.length : Int)), (43, .int .i64 x2), (44, .int .i64 (i64 (x2 + 33))), (45, .bool (decide ((a0.length : Int) ≠ i64 (x2 + 33))))] (fun _ => [(51, .bool x11)]) (fun sl wL => sl.w = wL ∧ Step K0 s26 sl) ?_ ?_
  ·
   refine k_again 46 rfl ?_
   refine k_split (fun c28 => ?_) (fun c28 => ?_)
   ·
    have hx11 := itT hx11 c28
    refine k_no rfl rfl rfl rfl ?_
    refine k_no rfl rfl rfl rfl ?_
    refine k_no rfl rfl rfl rfl ?_
    refine k_no rfl rfl rfl rfl ?_
    refine k_pickT rfl rfl rfl rfl ?_
    exact k_met ⟨s26, ⟨(congrArg (fun b => some (Value.bool b)) (Option.some.inj hx11)), trivial⟩, ⟨rfl, rfl, rfl, rfl, rfl, rfl, rfl, rfl, rfl, rfl, trivial⟩, rfl, hE27⟩
   ·
    have hx11 := itF hx11 c28
    refine k_yes rfl rfl ?_
    refine k_move rfl rfl ?_
    refine k_yes rfl rfl ?_
    refine k_move rfl rfl ?_
    refine k_yes rfl rfl ?_
    obtain ⟨x12, hx12, hx11⟩ := ob hx11
    refine k_index_str Tryd.underlying9 rfl rfl (geti_out hx12).1 (geti_out hx12).2.1 rfl ?_
    refine k_as (congrArg (fun c : UInt8 => Value.int .u8 (c.toNat : Int)) (geti_getD hx12)) ?_
    refine k_yes rfl rfl ?_
    refine k_neq rfl rfl rfl ?_
    refine k_pickF rfl rfl rfl rfl ?_
    exact k_met ⟨s26, ⟨(congrArg (fun b => some (Value.bool b)) (Option.some.inj hx11)), trivial⟩, ⟨rfl, rfl, rfl, rfl, rfl, rfl, rfl, rfl, rfl, rfl, trivial⟩, rfl, hE27⟩
  ·
   rintro s29 wL ⟨rfl, hE27⟩
   have szs29 := hE27.size
   have hS := hS.trans0 hE27
   replace h1 := h1.up2 hE27
   replace h2 := h2.up2 hE27
   refine k_nil ?_
   refine k_keep [(0, _), (2, _), (3, _), (4, _), (5, _), (51, _)] ⟨rfl, rfl, rfl, rfl, rfl, rfl, trivial⟩ ?_
   refine k_cond rfl (fun c30 => ?_) (fun c30 => ?_)
   ·
    have h := ibT h c30
    refine k_seq ?_
    refine k_region ?_
    refine k_build plc29 zero29 rfl Parts.nil (by rfl) rfl ?_
    refine k_as (v := .agg #[.int .u64 0, .int .u8 0, .int .u8 0, .int .u8 0, .int .u8 0, .int .u8 0, .int .u8 0, .int .u8 0, .int .u8 0, .int .u8 0, .int .u8 0, .int .u8 0, .int .u8 0, .int .u8 0, .int .u8 0, .int .u8 0, .int .u8 0]) rfl ?_
    refine k_store_c (cs' := [.int .u64 0, .int .u8 0, .int .u8 0, .int .u8 0, .int .u8 0, .int .u8 0, .int .u8 0, .int .u8 0, .int .u8 0, .int .u8 0, .int .u8 0, .int .u8 0, .int .u8 0, .int .u8 0, .int .u8 0, .int .u8 0, .int .u8 0]) size29 rfl rfl h1 (by first | (simp; done) | omega | (dsimp only; omega)) (CellsOf.lit rfl rfl) rfl (by first | rfl | (simp; done) | (simp; omega)) rfl ?_
    intro s31 st31 h1
    have szs31 := st31.size
    have hS := hS.c0 st31
    refine k_assign rfl rfl ?_
    refine k_nil ?_
    refine k_keep [(0, _), (2, _), (3, _), (4, _), (5, _)] ⟨rfl, rfl, rfl, rfl, rfl, trivial⟩ ?_
    refine k_ret ?_
    obtain rfl := Option.some.inj h
    refine ⟨[.agg [.int .u64 0, .int .u8 0, .int .u8 0, .int .u8 0, .int .u8 0, .int .u8 0, .int .u8 0, .int .u8 0, .int .u8 0, .int .u8 0, .int .u8 0, .int .u8 0, .int .u8 0, .int .u8 0, .int .u8 0, .int .u8 0, .int .u8 0].toArray, .bool false], ⟨res_blk (cs := [.int .u64 0, .int .u8 0, .int .u8 0, .int .u8 0, .int .u8 0, .int .u8 0, .int .u8 0, .int .u8 0, .int .u8 0, .int .u8 0, .int .u8 0, .int .u8 0, .int .u8 0, .int .u8 0, .int .u8 0, .int .u8 0, .int .u8 0]) rfl agg29 h1, rfl, trivial⟩, Ret.mk hS ?_⟩
    exact ⟨_, rfl, (clsApiRev (⟨(0 : UInt64), (⟨(0 : UInt8), (0 : UInt8), (0 : UInt8), (0 : UInt8), (0 : UInt8), (0 : UInt8), (0 : UInt8), (0 : UInt8), (0 : UInt8), (0 : UInt8), (0 : UInt8), (0 : UInt8), (0 : UInt8), (0 : UInt8), (0 : UInt8), (0 : UInt8)⟩ : St27)⟩ : ApiRev))⟩
   ·
    have h := ibF h c30
    refine k_skip ?_
    refine k_seq ?_
    refine k_keep [(0, _), (2, _), (3, _), (4, _), (5, _)] ⟨rfl, rfl, rfl, rfl, rfl, trivial⟩ ?_
    obtain ⟨kj13, hK32, h⟩ := jn_out h
    have hE32 := Step.r0 (KC (b2 + 1) 0) s29
    refine k_cutc (X := St × UInt8 × UInt8 × UInt8 × UInt8 × UInt8 × UInt8 × UInt8 × UInt8 × UInt8 × UInt8 × UInt8 × UInt8 × UInt8 × UInt8 × UInt8 × UInt8) [(0, S a0), (2, .pointer (some ⟨b1, 0, none⟩)), (3, .bool false), (4, .pointer (some ⟨b2, 0, none⟩))] (fun (xL : St × UInt8 × UInt8 × UInt8 × UInt8 × UInt8 × UInt8 × UInt8 × UInt8 × UInt8 × UInt8 × UInt8 × UInt8 × UInt8 × UInt8 × UInt8 × UInt8) => match xL with | (sl, x14, x15, x16, x17, x18, x19, x20, x21, x22, x23, x24, x25, x26, x27, x28, x29) => []) (fun (xL : St × UInt8 × UInt8 × UInt8 × UInt8 × UInt8 × UInt8 × UInt8 × UInt8 × UInt8 × UInt8 × UInt8 × UInt8 × UInt8 × UInt8 × UInt8 × UInt8) (wL : World) => match xL with | (sl, x14, x15, x16, x17, x18, x19, x20, x21, x22, x23, x24, x25, x26, x27, x28, x29) => sl.w = wL ∧ Step (KC (b2 + 1) 0) s29 sl ∧ (Blk sl b2 ⟨b2 + 1, 0⟩ [.int .u64 (x3.toNat : Int), .int .u8 (x14.toNat : Int), .int .u8 (x15.toNat : Int), .int .u8 (x16.toNat : Int), .int .u8 (x17.toNat : Int), .int .u8 (x18.toNat : Int), .int .u8 (x19.toNat : Int), .int .u8 (x20.toNat : Int), .int .u8 (x21.toNat : Int), .int .u8 (x22.toNat : Int), .int .u8 (x23.toNat : Int), .int .u8 (x24.toNat : Int), .int .u8 (x25.toNat : Int), .int .u8 (x26.toNat : Int), .int .u8 (x27.toNat : Int), .int .u8 (x28.toNat : Int), .int .u8 (x29.toNat : Int)] 29) ∧ kj13 x14 x15 x16 x17 x18 x19 x20 x21 x22 x23 x24 x25 x26 x27 x28 x29 = some r) ?_ ?_
    ·
     refine k_seq ?_
     refine k_region ?_
     refine k_assign rfl rfl ?_
     refine k_nil ?_
     refine k_block ?_
     refine k_loopc (X := St × Int × UInt8 × UInt8 × UInt8 × UInt8 × UInt8 × UInt8 × UInt8 × UInt8 × UInt8 × UInt8 × UInt8 × UInt8 × UInt8 × UInt8 × UInt8 × UInt8 × Nat) [(0, _), (2, _), (3, _), (4, _), (5, _)] (fun (xL : St × Int × UInt8 × UInt8 × UInt8 × UInt8 × UInt8 × UInt8 × UInt8 × UInt8 × UInt8 × UInt8 × UInt8 × UInt8 × UInt8 × UInt8 × UInt8 × UInt8 × Nat) => match xL with | (sl, x30, x31, x32, x33, x34, x35, x36, x37, x38, x39, x40, x41, x42, x43, x44, x45, x46, j) => [(6, .int .i64 x30)]) (fun (xL : St × Int × UInt8 × UInt8 × UInt8 × UInt8 × UInt8 × UInt8 × UInt8 × UInt8 × UInt8 × UInt8 × UInt8 × UInt8 × UInt8 × UInt8 × UInt8 × UInt8 × Nat) (wL : World) => match xL with | (sl, x30, x31, x32, x33, x34, x35, x36, x37, x38, x39, x40, x41, x42, x43, x44, x45, x46, j) => sl.w = wL ∧ Step (KC (b2 + 1) 0) s29 sl ∧ (Blk sl b2 ⟨b2 + 1, 0⟩ [.int .u64 (x3.toNat : Int), .int .u8 (x31.toNat : Int), .int .u8 (x32.toNat : Int), .int .u8 (x33.toNat : Int), .int .u8 (x34.toNat : Int), .int .u8 (x35.toNat : Int), .int .u8 (x36.toNat : Int), .int .u8 (x37.toNat : Int), .int .u8 (x38.toNat : Int), .int .u8 (x39.toNat : Int), .int .u8 (x40.toNat : Int), .int .u8 (x41.toNat : Int), .int .u8 (x42.toNat : Int), .int .u8 (x43.toNat : Int), .int .u8 (x44.toNat : Int), .int .u8 (x45.toNat : Int), .int .u8 (x46.toNat : Int)] 29) ∧ ref06_Parse_l2 a0 x2 kj13 j x30 x31 x32 x33 x34 x35 x36 x37 x38 x39 x40 x41 x42 x43 x44 x45 x46 = some r) (fun (xL : St × Int × UInt8 × UInt8 × UInt8 × UInt8 × UInt8 × UInt8 × UInt8 × UInt8 × UInt8 × UInt8 × UInt8 × UInt8 × UInt8 × UInt8 × UInt8 × UInt8 × Nat) => match xL with | (sl, x30, x31, x32, x33, x34, x35, x36, x37, x38, x39, x40, x41, x42, x43, x44, x45, x46, j) => j) (s29, 0, (0 : UInt8), (0 : UInt8), (0 : UInt8), (0 : UInt8), (0 : UInt8), (0 : UInt8), (0 : UInt8), (0 : UInt8), (0 : UInt8), (0 : UInt8), (0 : UInt8), (0 : UInt8), (0 : UInt8), (0 : UInt8), (0 : UInt8), (0 : UInt8), FU) ⟨rfl, rfl, rfl, rfl, rfl, trivial⟩ ⟨(by first | rfl | (simp <;> rfl)), trivial⟩ ⟨rfl, (Step.refl _).of0 (by first | exact fun _ h => h | (intro c h; simp [KC, KO, KU, KN, KB] at h <;> omega)), h2, h⟩ ?_
     rintro ⟨s34, x30, x31, x32, x33, x34, x35, x36, x37, x38, x39, x40, x41, x42, x43, x44, x45, x46, j⟩ wL ⟨rfl, hE33, h2, h⟩
     cases j with
     | zero => rw [ref06_Parse_l2] at h; exact (noneNe h).elim
     | succ j =>
     rw [ref06_Parse_l2] at h
     have szs34 := hE33.size
     have hS := hS.c0 hE33
     have hE32 := hE32.c0 hE33
     replace h1 := h1.up2 hE33
     refine k_seq ?_
     refine k_seq ?_
     refine k_region ?_
     refine k_move rfl rfl ?_
     refine k_lss rfl rfl rfl ?_
     refine k_nil ?_
     refine k_keep [(0, _), (2, _), (3, _), (4, _), (5, _), (6, _), (54, _)] ⟨rfl, rfl, rfl, rfl, rfl, rfl, rfl, trivial⟩ ?_
     refine k_cond_dec rfl (fun c35 => ?_) (fun c35 => ?_)
     ·
      have h := itT h c35
      refine k_skip ?_
      refine k_seq ?_
      refine k_block ?_
      refine k_seq ?_
      refine k_region ?_
      refine k_move rfl rfl ?_
      refine k_move rfl rfl ?_
      refine k_add rfl rfl rfl ?_
      refine k_move rfl rfl ?_
      refine k_add rfl rfl rfl ?_
      obtain ⟨x47, hx47, h⟩ := ob h
      refine k_index_str Tryd.underlying9 rfl rfl (geti_out hx47).1 (geti_out hx47).2.1 rfl ?_
      refine k_as (congrArg (fun c : UInt8 => Value.int .u8 (c.toNat : Int)) (geti_getD hx47)) ?_
      refine k_assign rfl rfl ?_
      refine k_nil ?_
      refine k_keep [(0, _), (2, _), (3, _), (4, _), (5, _), (6, _), (7, _)] ⟨rfl, rfl, rfl, rfl, rfl, rfl, rfl, trivial⟩ ?_
      refine k_seq ?_
      refine k_region ?_
      refine k_assign rfl rfl ?_
      refine k_nil ?_
      refine k_seq ?_
      obtain ⟨kj48, hK36, h⟩ := jn_out h
      have hE36 := Step.r0 K0 s34
      refine k_cutc (X := St × UInt8) [(0, S a0), (2, .pointer (some ⟨b1, 0, none⟩)), (3, .bool false), (4, .pointer (some ⟨b2, 0, none⟩)), (5, .int .i64 x2), (6, .int .i64 x30)] (fun (xL : St × UInt8) => match xL with | (sl, x49) => [(8, .int .u8 (x49.toNat : Int))]) (fun (xL : St × UInt8) (wL : World) => match xL with | (sl, x49) => sl.w = wL ∧ Step K0 s34 sl ∧ kj48 x49 = some r) ?_ ?_
      ·
       refine k_block ?_
       refine k_seq ?_
       refine k_region ?_
       refine k_move rfl rfl ?_
       refine k_geq rfl rfl rfl ?_
       refine k_move rfl rfl ?_
       have hE37 := Step.r0 K0 s34
       refine k_cutl (X := St) 3 [(0, S a0), (2, .pointer (some ⟨b1, 0, none⟩)), (3, .bool false), (4, .pointer (some ⟨b2, 0, none⟩)), (5, .int .i64 x2), (6, .int .i64 x30), (7, .int .u8 (x47.toNat : Int)), (8, .int .u8 0), (65, .int .u8 (x47.toNat : Int)), (66, .bool (decide (48 ≤ (x47.toNat : Int))))] (fun _ => [(70, .bool (decide ((48 ≤ (x47.toNat : Int)) ∧ ((x47.toNat : Int) ≤ 57))))]) (fun sl wL => sl.w = wL ∧ Step K0 s34 sl) ?_ ?_
       ·
        refine k_again 67 rfl ?_
        refine k_split (fun c38 => ?_) (fun c38 => ?_)
        ·
         refine k_yes rfl rfl ?_
         refine k_move rfl rfl ?_
         refine k_yes rfl rfl ?_
         refine k_leq rfl rfl rfl ?_
         refine k_pickT rfl rfl rfl rfl ?_
         exact k_met ⟨s34, ⟨(congrArg (fun b => some (Value.bool b)) (by first | exact decide_eq_decide.2 ⟨fun h => ⟨c38, h⟩, fun h => h.2⟩ | exact (decide_eq_false (fun h => c38 h.1)).symm | (simp [c38]; done) | exact dec_andT c38 | exact dec_andF c38 | exact dec_orF c38 | exact dec_orT c38 | (simp [c38, i64] <;> omega))), trivial⟩, ⟨rfl, rfl, rfl, rfl, rfl, rfl, rfl, rfl, rfl, rfl, trivial⟩, rfl, hE37⟩
        ·
         refine k_no rfl rfl rfl rfl ?_
         refine k_no rfl rfl rfl rfl ?_
         refine k_pickF rfl rfl rfl rfl ?_
         exact k_met ⟨s34, ⟨(congrArg (fun b => some (Value.bool b)) (by first | exact decide_eq_decide.2 ⟨fun h => ⟨c38, h⟩, fun h => h.2⟩ | exact (decide_eq_false (fun h => c38 h.1)).symm | (simp [c38]; done) | exact dec_andT c38 | exact dec_andF c38 | exact dec_orF c38 | exact dec_orT c38 | (simp [c38, i64] <;> omega))), trivial⟩, ⟨rfl, rfl, rfl, rfl, rfl, rfl, rfl, rfl, rfl, rfl, trivial⟩, rfl, hE37⟩
       ·
        rintro s39 wL ⟨rfl, hE37⟩
        have szs39 := hE37.size
        have hS := hS.trans0 hE37
        have hE32 := hE32.trans0 hE37
        have hE33 := hE33.trans0 hE37
        have hE36 := hE36.trans0 hE37
        replace h1 := h1.up2 hE37
        refine k_assign rfl rfl ?_
        refine k_nil ?_
        refine k_keep [(0, _), (2, _), (3, _), (4, _), (5, _), (6, _), (7, _), (8, _), (64, _)] ⟨rfl, rfl, rfl, rfl, rfl, rfl, rfl, rfl, rfl, trivial⟩ ?_
        refine k_cond_dec rfl (fun c40 => ?_) (fun c40 => ?_)
        ·
         have h := itT h c40
         refine k_region ?_
         refine k_move rfl rfl ?_
         refine k_sub_ rfl rfl rfl ?_
         refine k_as (congrArg (Value.int .u8) (w8 _)) ?_
         refine k_assign rfl rfl ?_
         refine k_nil ?_
         refine k_blk ?_
         exact k_stop ⟨(s39, ofI8 ((x47.toNat : Int) - 48)), ⟨(by first | rfl | (simp <;> rfl)), trivial⟩, ⟨rfl, rfl, rfl, rfl, rfl, rfl, trivial⟩, ⟨rfl, hE36, h⟩⟩
        ·
         have h := itF h c40
         refine k_seq ?_
         refine k_region ?_
         refine k_move rfl rfl ?_
         refine k_geq rfl rfl rfl ?_
         refine k_move rfl rfl ?_
         have hE41 := Step.r0 K0 s39
         refine k_cutl (X := St) 3 [(0, S a0), (2, .pointer (some ⟨b1, 0, none⟩)), (3, .bool false), (4, .pointer (some ⟨b2, 0, none⟩)), (5, .int .i64 x2), (6, .int .i64 x30), (7, .int .u8 (x47.toNat : Int)), (8, .int .u8 0), (64, .bool (decide ((48 ≤ (x47.toNat : Int)) ∧ ((x47.toNat : Int) ≤ 57)))), (74, .int .u8 (x47.toNat : Int)), (75, .bool (decide (97 ≤ (x47.toNat : Int))))] (fun _ => [(79, .bool (decide ((97 ≤ (x47.toNat : Int)) ∧ ((x47.toNat : Int) ≤ 102))))]) (fun sl wL => sl.w = wL ∧ Step K0 s39 sl) ?_ ?_
         ·
          refine k_again 76 rfl ?_
          refine k_split (fun c42 => ?_) (fun c42 => ?_)
          ·
           refine k_yes rfl rfl ?_
           refine k_move rfl rfl ?_
           refine k_yes rfl rfl ?_
           refine k_leq rfl rfl rfl ?_
           refine k_pickT rfl rfl rfl rfl ?_
           exact k_met ⟨s39, ⟨(congrArg (fun b => some (Value.bool b)) (by first | exact decide_eq_decide.2 ⟨fun h => ⟨c42, h⟩, fun h => h.2⟩ | exact (decide_eq_false (fun h => c42 h.1)).symm | (simp [c42]; done) | exact dec_andT c42 | exact dec_andF c42 | exact dec_orF c42 | exact dec_orT c42 | (simp [c42, i64] <;> omega))), trivial⟩, ⟨rfl, rfl, rfl, rfl, rfl, rfl, rfl, rfl, rfl, rfl, rfl, trivial⟩, rfl, hE41⟩
          ·
           refine k_no rfl rfl rfl rfl ?_
           refine k_no rfl rfl rfl rfl ?_
           refine k_pickF rfl rfl rfl rfl ?_
           exact k_met ⟨s39, ⟨(congrArg (fun b => some (Value.bool b)) (by first | exact decide_eq_decide.2 ⟨fun h => ⟨c42, h⟩, fun h => h.2⟩ | exact (decide_eq_false (fun h => c42 h.1)).symm | (simp [c42]; done) | exact dec_andT c42 | exact dec_andF c42 | exact dec_orF c42 | exact dec_orT c42 | (simp [c42, i64] <;> omega))), trivial⟩, ⟨rfl, rfl, rfl, rfl, rfl, rfl, rfl, rfl, rfl, rfl, rfl, trivial⟩, rfl, hE41⟩
         ·
          rintro s43 wL ⟨rfl, hE41⟩
          have szs43 := hE41.size
          have hS := hS.trans0 hE41
          have hE32 := hE32.trans0 hE41
          have hE33 := hE33.trans0 hE41
          have hE36 := hE36.trans0 hE41
          replace h1 := h1.up2 hE41
          refine k_assign rfl rfl ?_
          refine k_nil ?_
          refine k_keep [(0, _), (2, _), (3, _), (4, _), (5, _), (6, _), (7, _), (8, _), (73, _)] ⟨rfl, rfl, rfl, rfl, rfl, rfl, rfl, rfl, rfl, trivial⟩ ?_
          refine k_cond_dec rfl (fun c44 => ?_) (fun c44 => ?_)
          ·
           have h := itT h c44
           refine k_region ?_
           refine k_move rfl rfl ?_
           refine k_sub_ rfl rfl rfl ?_
           refine k_as (congrArg (Value.int .u8) (w8 _)) ?_
           refine k_add rfl rfl rfl ?_
           refine k_as (congrArg (Value.int .u8) (w8 _)) ?_
           refine k_assign rfl rfl ?_
           refine k_nil ?_
           refine k_blk ?_
           exact k_stop ⟨(s43, ofI8 (((ofI8 ((x47.toNat : Int) - 97)).toNat : Int) + 10)), ⟨(by first | rfl | (simp <;> rfl)), trivial⟩, ⟨rfl, rfl, rfl, rfl, rfl, rfl, trivial⟩, ⟨rfl, hE36, h⟩⟩
          ·
           have h := itF h c44
           refine k_seq ?_
           refine k_region ?_
           refine k_build plc29 zero29 rfl Parts.nil (by rfl) rfl ?_
           refine k_as (v := .agg #[.int .u64 0, .int .u8 0, .int .u8 0, .int .u8 0, .int .u8 0, .int .u8 0, .int .u8 0, .int .u8 0, .int .u8 0, .int .u8 0, .int .u8 0, .int .u8 0, .int .u8 0, .int .u8 0, .int .u8 0, .int .u8 0, .int .u8 0]) rfl ?_
           refine k_store_c (cs' := [.int .u64 0, .int .u8 0, .int .u8 0, .int .u8 0, .int .u8 0, .int .u8 0, .int .u8 0, .int .u8 0, .int .u8 0, .int .u8 0, .int .u8 0, .int .u8 0, .int .u8 0, .int .u8 0, .int .u8 0, .int .u8 0, .int .u8 0]) size29 rfl rfl h1 (by first | (simp; done) | omega | (dsimp only; omega)) (CellsOf.lit rfl rfl) rfl (by first | rfl | (simp; done) | (simp; omega)) rfl ?_
           intro s45 st45 h1
           have szs45 := st45.size
           have hS := hS.c0 st45
           refine k_assign rfl rfl ?_
           refine k_nil ?_
           refine k_keep [(0, _), (2, _), (3, _), (4, _), (5, _), (6, _), (8, _)] ⟨rfl, rfl, rfl, rfl, rfl, rfl, rfl, trivial⟩ ?_
           refine k_ret ?_
           obtain rfl := Option.some.inj h
           refine ⟨[.agg [.int .u64 0, .int .u8 0, .int .u8 0, .int .u8 0, .int .u8 0, .int .u8 0, .int .u8 0, .int .u8 0, .int .u8 0, .int .u8 0, .int .u8 0, .int .u8 0, .int .u8 0, .int .u8 0, .int .u8 0, .int .u8 0, .int .u8 0].toArray, .bool false], ⟨res_blk (cs := [.int .u64 0, .int .u8 0, .int .u8 0, .int .u8 0, .int .u8 0, .int .u8 0, .int .u8 0, .int .u8 0, .int .u8 0, .int .u8 0, .int .u8 0, .int .u8 0, .int .u8 0, .int .u8 0, .int .u8 0, .int .u8 0, .int .u8 0]) rfl agg29 h1, rfl, trivial⟩, Ret.mk hS ?_⟩
           exact ⟨_, rfl, (clsApiRev (⟨(0 : UInt64), (⟨(0 : UInt8), (0 : UInt8), (0 : UInt8), (0 : UInt8), (0 : UInt8), (0 : UInt8), (0 : UInt8), (0 : UInt8), (0 : UInt8), (0 : UInt8), (0 : UInt8), (0 : UInt8), (0 : UInt8), (0 : UInt8), (0 : UInt8), (0 : UInt8)⟩ : St27)⟩ : ApiRev))⟩
      ·
       rintro ⟨s46, x49⟩ wL ⟨rfl, hE36, h⟩
       rw [hK36] at h
       have szs46 := hE36.size
       have hS := hS.trans0 hE36
       have hE32 := hE32.trans0 hE36
       have hE33 := hE33.trans0 hE36
       replace h2 := h2.up2 hE36
       refine k_region ?_
       refine k_move rfl rfl ?_
       refine k_quo rfl rfl (by decide) rfl ?_
       refine k_move rfl rfl ?_
       refine k_quo rfl rfl (by decide) rfl ?_
       refine k_field_addr fld29_1 rfl rfl ?_
       obtain ⟨x50, hx50, h⟩ := ob h
       refine k_ixarr (m := 1) (xs := ([x31, x32, x33, x34, x35, x36, x37, x38, x39, x40, x41, x42, x43, x44, x45, x46] : List UInt8)) arr27 rfl rfl rfl hx50 rfl ?_
       obtain ⟨x51, hx51, h⟩ := ob h
       refine k_load_el2 cB (pre := [.int .u64 (x3.toNat : Int)]) (post := []) (xs := ([x31, x32, x33, x34, x35, x36, x37, x38, x39, x40, x41, x42, x43, x44, x45, x46] : List UInt8)) one5 rfl h2 rfl hx51 rfl ?_
       refine k_shl rfl rfl (by decide) rfl ?_
       refine k_as (congrArg (Value.int .u8) (w8 _)) ?_
       refine k_move rfl rfl ?_
       refine k_bits (p := ((ofI8 ((x51.toNat : Int) * 2 ^ (min (4 : Int).toNat 8))).toNat : Int)) (q := (x49.toNat : Int)) (.inr (.inl ⟨rfl, rfl⟩)) rfl rfl rfl ?_
       refine k_as (congrArg (Value.int .u8) (or8 _ _)) ?_
       refine k_field_addr fld29_1 rfl rfl ?_
       obtain ⟨x52, hx52, h⟩ := ob h
       refine k_ixarr (m := 1) (xs := ([x31, x32, x33, x34, x35, x36, x37, x38, x39, x40, x41, x42, x43, x44, x45, x46] : List UInt8)) arr27 rfl rfl rfl hx52 rfl ?_
       obtain ⟨x53, hx53, h⟩ := ob h
       refine k_store_el2 cB (fun _ => rfl) (v := (ofI8 ((x51.toNat : Int) * 2 ^ (min (4 : Int).toNat 8))) ||| x49) (pre := [.int .u64 (x3.toNat : Int)]) (post := []) (xs := ([x31, x32, x33, x34, x35, x36, x37, x38, x39, x40, x41, x42, x43, x44, x45, x46] : List UInt8)) size5 rfl rfl h2 (by first | (simp; done) | omega | (dsimp only; omega)) rfl hx53 ?_
       intro s47 st47 h2
       replace h2 := h2.litE (lit16 (show x53.length = 16 by rw [(seti_out hx53).2.2.2]; rfl) (0 : UInt8))
       have szs47 := st47.size
       have hS := hS.c0 st47
       have hE32 := hE32.c0 st47
       have hE33 := hE33.c0 st47
       refine k_nil ?_
       refine k_blk ?_
       refine k_region ?_
       refine k_move rfl rfl ?_
       refine k_add rfl rfl rfl ?_
       refine k_assign rfl rfl ?_
       refine k_nil ?_
       exact k_stop ⟨(s47, i64 (x30 + 1), (x53.getD 0 0), (x53.getD 1 0), (x53.getD 2 0), (x53.getD 3 0), (x53.getD 4 0), (x53.getD 5 0), (x53.getD 6 0), (x53.getD 7 0), (x53.getD 8 0), (x53.getD 9 0), (x53.getD 10 0), (x53.getD 11 0), (x53.getD 12 0), (x53.getD 13 0), (x53.getD 14 0), (x53.getD 15 0), j), ⟨(by first | rfl | (simp <;> rfl)), trivial⟩, ⟨rfl, rfl, rfl, rfl, rfl, trivial⟩, ⟨rfl, hE33, h2, h⟩, (by simp)⟩
     ·
      have h := itF h c35
      refine k_exit rfl ?_
      exact k_stop ⟨(s34, x31, x32, x33, x34, x35, x36, x37, x38, x39, x40, x41, x42, x43, x44, x45, x46), trivial, ⟨rfl, rfl, rfl, rfl, trivial⟩, ⟨rfl, hE32, h2, h⟩⟩
    ·
     rintro ⟨s48, x14, x15, x16, x17, x18, x19, x20, x21, x22, x23, x24, x25, x26, x27, x28, x29⟩ wL ⟨rfl, hE32, h2, h⟩
     rw [hK32] at h
     have szs48 := hE32.size
     have hS := hS.c0 hE32
     replace h1 := h1.up2 hE32
     refine k_seq ?_
     refine k_seq ?_
     refine k_region ?_
     refine k_load_blka (cs := [.int .u64 (x3.toNat : Int), .int .u8 (x14.toNat : Int), .int .u8 (x15.toNat : Int), .int .u8 (x16.toNat : Int), .int .u8 (x17.toNat : Int), .int .u8 (x18.toNat : Int), .int .u8 (x19.toNat : Int), .int .u8 (x20.toNat : Int), .int .u8 (x21.toNat : Int), .int .u8 (x22.toNat : Int), .int .u8 (x23.toNat : Int), .int .u8 (x24.toNat : Int), .int .u8 (x25.toNat : Int), .int .u8 (x26.toNat : Int), .int .u8 (x27.toNat : Int), .int .u8 (x28.toNat : Int), .int .u8 (x29.toNat : Int)]) agg29 rfl h2 rfl ?_
     obtain ⟨x54, hx54, h⟩ := ob h
     refine k_call cal15 rfl (ref06_May_w  (clsApiRev (⟨x3, (⟨x14, x15, x16, x17, x18, x19, x20, x21, x22, x23, x24, x25, x26, x27, x28, x29⟩ : St27)⟩ : ApiRev)) hx54) rfl ?_
     rintro s49 vr49 st49 rfl
     have szs49 := st49.size
     have hS := hS.trans0 st49
     replace h1 := h1.up2 st49
     replace h2 := h2.up2 st49
     refine k_not rfl rfl ?_
     refine k_move rfl rfl ?_
     obtain ⟨x55, hx55, h⟩ := ob h
     have hE50 := Step.r0 K0 s49
     refine k_cutl (X := St) 5 [(0, S a0), (2, .pointer (some ⟨b1, 0, none⟩)), (3, .bool false), (4, .pointer (some ⟨b2, 0, none⟩)), (95, .agg #[.int .u64 (x3.toNat : Int), .int .u8 (x14.toNat : Int), .int .u8 (x15.toNat : Int), .int .u8 (x16.toNat : Int), .int .u8 (x17.toNat : Int), .int .u8 (x18.toNat : Int), .int .u8 (x19.toNat : Int), .int .u8 (x20.toNat : Int), .int .u8 (x21.toNat : Int), .int .u8 (x22.toNat : Int), .int .u8 (x23.toNat : Int), .int .u8 (x24.toNat : Int), .int .u8 (x25.toNat : Int), .int .u8 (x26.toNat : Int), .int .u8 (x27.toNat : Int), .int .u8 (x28.toNat : Int), .int .u8 (x29.toNat : Int)]), (96, .bool x54), (97, .bool (!x54))] (fun _ => [(103, .bool x55)]) (fun sl wL => sl.w = wL ∧ Step K0 s49 sl) ?_ ?_
     ·
      refine k_again 98 rfl ?_
      refine k_splitb (fun c51 => ?_) (fun c51 => ?_)
      ·
       have hx55 := ibT hx55 c51
       refine k_no rfl rfl rfl rfl ?_
       refine k_no rfl rfl rfl rfl ?_
       refine k_no rfl rfl rfl rfl ?_
       refine k_no rfl rfl rfl rfl ?_
       refine k_pickT rfl rfl rfl rfl ?_
       exact k_met ⟨s49, ⟨(congrArg (fun b => some (Value.bool b)) (Option.some.inj hx55)), trivial⟩, ⟨rfl, rfl, rfl, rfl, rfl, rfl, rfl, trivial⟩, rfl, hE50⟩
      ·
       have hx55 := ibF hx55 c51
       refine k_yes rfl rfl ?_
       refine k_load_blka (cs := [.int .u64 (x3.toNat : Int), .int .u8 (x14.toNat : Int), .int .u8 (x15.toNat : Int), .int .u8 (x16.toNat : Int), .int .u8 (x17.toNat : Int), .int .u8 (x18.toNat : Int), .int .u8 (x19.toNat : Int), .int .u8 (x20.toNat : Int), .int .u8 (x21.toNat : Int), .int .u8 (x22.toNat : Int), .int .u8 (x23.toNat : Int), .int .u8 (x24.toNat : Int), .int .u8 (x25.toNat : Int), .int .u8 (x26.toNat : Int), .int .u8 (x27.toNat : Int), .int .u8 (x28.toNat : Int), .int .u8 (x29.toNat : Int)]) agg29 rfl h2 rfl ?_
       refine k_yes rfl rfl ?_
       obtain ⟨x56, hx56, hx55⟩ := ob hx55
       refine k_call cal16 rfl (ref06_Print_w  (clsApiRev (⟨x3, (⟨x14, x15, x16, x17, x18, x19, x20, x21, x22, x23, x24, x25, x26, x27, x28, x29⟩ : St27)⟩ : ApiRev)) hx56) rfl ?_
       rintro s52 vr52 st52 rfl
       have szs52 := st52.size
       have hS := hS.trans0 st52
       have hE50 := hE50.trans0 st52
       refine k_yes rfl rfl ?_
       refine k_move rfl rfl ?_
       refine k_yes rfl rfl ?_
       refine k_neq_str rfl rfl rfl ?_
       refine k_pickF rfl rfl rfl rfl ?_
       exact k_met ⟨s52, ⟨(congrArg (fun b => some (Value.bool b)) (Option.some.inj hx55)), trivial⟩, ⟨rfl, rfl, rfl, rfl, rfl, rfl, rfl, trivial⟩, rfl, hE50⟩
     ·
      rintro s53 wL ⟨rfl, hE50⟩
      have szs53 := hE50.size
      have hS := hS.trans0 hE50
      replace h1 := h1.up2 hE50
      replace h2 := h2.up2 hE50
      refine k_nil ?_
      refine k_keep [(2, _), (3, _), (4, _), (103, _)] ⟨rfl, rfl, rfl, rfl, trivial⟩ ?_
      refine k_cond rfl (fun c54 => ?_) (fun c54 => ?_)
      ·
       have h := ibT h c54
       refine k_seq ?_
       refine k_region ?_
       refine k_build plc29 zero29 rfl Parts.nil (by rfl) rfl ?_
       refine k_as (v := .agg #[.int .u64 0, .int .u8 0, .int .u8 0, .int .u8 0, .int .u8 0, .int .u8 0, .int .u8 0, .int .u8 0, .int .u8 0, .int .u8 0, .int .u8 0, .int .u8 0, .int .u8 0, .int .u8 0, .int .u8 0, .int .u8 0, .int .u8 0]) rfl ?_
       refine k_store_c (cs' := [.int .u64 0, .int .u8 0, .int .u8 0, .int .u8 0, .int .u8 0, .int .u8 0, .int .u8 0, .int .u8 0, .int .u8 0, .int .u8 0, .int .u8 0, .int .u8 0, .int .u8 0, .int .u8 0, .int .u8 0, .int .u8 0, .int .u8 0]) size29 rfl rfl h1 (by first | (simp; done) | omega | (dsimp only; omega)) (CellsOf.lit rfl rfl) rfl (by first | rfl | (simp; done) | (simp; omega)) rfl ?_
       intro s55 st55 h1
       have szs55 := st55.size
       have hS := hS.c0 st55
       refine k_assign rfl rfl ?_
       refine k_nil ?_
       refine k_keep [(2, _), (3, _), (4, _)] ⟨rfl, rfl, rfl, trivial⟩ ?_
       refine k_ret ?_
       obtain rfl := Option.some.inj h
       refine ⟨[.agg [.int .u64 0, .int .u8 0, .int .u8 0, .int .u8 0, .int .u8 0, .int .u8 0, .int .u8 0, .int .u8 0, .int .u8 0, .int .u8 0, .int .u8 0, .int .u8 0, .int .u8 0, .int .u8 0, .int .u8 0, .int .u8 0, .int .u8 0].toArray, .bool false], ⟨res_blk (cs := [.int .u64 0, .int .u8 0, .int .u8 0, .int .u8 0, .int .u8 0, .int .u8 0, .int .u8 0, .int .u8 0, .int .u8 0, .int .u8 0, .int .u8 0, .int .u8 0, .int .u8 0, .int .u8 0, .int .u8 0, .int .u8 0, .int .u8 0]) rfl agg29 h1, rfl, trivial⟩, Ret.mk hS ?_⟩
       exact ⟨_, rfl, (clsApiRev (⟨(0 : UInt64), (⟨(0 : UInt8), (0 : UInt8), (0 : UInt8), (0 : UInt8), (0 : UInt8), (0 : UInt8), (0 : UInt8), (0 : UInt8), (0 : UInt8), (0 : UInt8), (0 : UInt8), (0 : UInt8), (0 : UInt8), (0 : UInt8), (0 : UInt8), (0 : UInt8)⟩ : St27)⟩ : ApiRev))⟩
      ·
       have h := ibF h c54
       refine k_skip ?_
       refine k_seq ?_
       refine k_region ?_
       refine k_load_blka (cs := [.int .u64 (x3.toNat : Int), .int .u8 (x14.toNat : Int), .int .u8 (x15.toNat : Int), .int .u8 (x16.toNat : Int), .int .u8 (x17.toNat : Int), .int .u8 (x18.toNat : Int), .int .u8 (x19.toNat : Int), .int .u8 (x20.toNat : Int), .int .u8 (x21.toNat : Int), .int .u8 (x22.toNat : Int), .int .u8 (x23.toNat : Int), .int .u8 (x24.toNat : Int), .int .u8 (x25.toNat : Int), .int .u8 (x26.toNat : Int), .int .u8 (x27.toNat : Int), .int .u8 (x28.toNat : Int), .int .u8 (x29.toNat : Int)]) agg29 rfl h2 rfl ?_
       refine k_store_c (cs' := [.int .u64 (x3.toNat : Int), .int .u8 (x14.toNat : Int), .int .u8 (x15.toNat : Int), .int .u8 (x16.toNat : Int), .int .u8 (x17.toNat : Int), .int .u8 (x18.toNat : Int), .int .u8 (x19.toNat : Int), .int .u8 (x20.toNat : Int), .int .u8 (x21.toNat : Int), .int .u8 (x22.toNat : Int), .int .u8 (x23.toNat : Int), .int .u8 (x24.toNat : Int), .int .u8 (x25.toNat : Int), .int .u8 (x26.toNat : Int), .int .u8 (x27.toNat : Int), .int .u8 (x28.toNat : Int), .int .u8 (x29.toNat : Int)]) size29 rfl rfl h1 (by first | (simp; done) | omega | (dsimp only; omega)) (CellsOf.lit rfl rfl) rfl (by first | rfl | (simp; done) | (simp; omega)) rfl ?_
       intro s56 st56 h1
       have szs56 := st56.size
       have hS := hS.c0 st56
       refine k_assign rfl rfl ?_
       refine k_nil ?_
       refine k_keep [(2, _), (3, _)] ⟨rfl, rfl, trivial⟩ ?_
       refine k_ret ?_
       obtain rfl := Option.some.inj h
       refine ⟨[.agg [.int .u64 (x3.toNat : Int), .int .u8 (x14.toNat : Int), .int .u8 (x15.toNat : Int), .int .u8 (x16.toNat : Int), .int .u8 (x17.toNat : Int), .int .u8 (x18.toNat : Int), .int .u8 (x19.toNat : Int), .int .u8 (x20.toNat : Int), .int .u8 (x21.toNat : Int), .int .u8 (x22.toNat : Int), .int .u8 (x23.toNat : Int), .int .u8 (x24.toNat : Int), .int .u8 (x25.toNat : Int), .int .u8 (x26.toNat : Int), .int .u8 (x27.toNat : Int), .int .u8 (x28.toNat : Int), .int .u8 (x29.toNat : Int)].toArray, .bool true], ⟨res_blk (cs := [.int .u64 (x3.toNat : Int), .int .u8 (x14.toNat : Int), .int .u8 (x15.toNat : Int), .int .u8 (x16.toNat : Int), .int .u8 (x17.toNat : Int), .int .u8 (x18.toNat : Int), .int .u8 (x19.toNat : Int), .int .u8 (x20.toNat : Int), .int .u8 (x21.toNat : Int), .int .u8 (x22.toNat : Int), .int .u8 (x23.toNat : Int), .int .u8 (x24.toNat : Int), .int .u8 (x25.toNat : Int), .int .u8 (x26.toNat : Int), .int .u8 (x27.toNat : Int), .int .u8 (x28.toNat : Int), .int .u8 (x29.toNat : Int)]) rfl agg29 h1, rfl, trivial⟩, Ret.mk hS ?_⟩
       exact ⟨_, rfl, (clsApiRev (⟨x3, (⟨x14, x15, x16, x17, x18, x19, x20, x21, x22, x23, x24, x25, x26, x27, x28, x29⟩ : St27)⟩ : ApiRev))⟩

set_option maxHeartbeats 20000000 in
set_option maxRecDepth 100000 in
theorem law06_RevText_w {s : St} {cs0 : List Value} {a0 : ApiRev} {a1 : (List UInt8)} {r : Bool} (hp0 : RC s cs0 (dApiRev a0)) (tb2 : Tab2 s) (tb0 : Tab0 s) (tb1 : Tab1 s) (h : law06_RevText a0 a1 = some r) : Calls Tryd.prog 5 #[.agg cs0.toArray, S a1] s.w (Ret s K0 (fun s1 v => v = .bool r)) := by
 unfold law06_RevText at h
 obtain rfl := opnApiRev hp0
 have hS := Step.r0 K0 s
 refine k_fn (rs := [4]) (args := [.agg #[.int .u64 (a0.Gen.toNat : Int), .int .u8 (a0.Sum.e0.toNat : Int), .int .u8 (a0.Sum.e1.toNat : Int), .int .u8 (a0.Sum.e2.toNat : Int), .int .u8 (a0.Sum.e3.toNat : Int), .int .u8 (a0.Sum.e4.toNat : Int), .int .u8 (a0.Sum.e5.toNat : Int), .int .u8 (a0.Sum.e6.toNat : Int), .int .u8 (a0.Sum.e7.toNat : Int), .int .u8 (a0.Sum.e8.toNat : Int), .int .u8 (a0.Sum.e9.toNat : Int), .int .u8 (a0.Sum.e10.toNat : Int), .int .u8 (a0.Sum.e11.toNat : Int), .int .u8 (a0.Sum.e12.toNat : Int), .int .u8 (a0.Sum.e13.toNat : Int), .int .u8 (a0.Sum.e14.toNat : Int), .int .u8 (a0.Sum.e15.toNat : Int)], S a1]) Tryd.func5 rfl rfl rfl rfl ?_
 refine k_seq ?_
 refine k_region ?_
 refine k_box rfl rfl ?_
 intro s1 b1 st1 h1 ge1
 have szs1 := st1.size
 have hS := hS.trans0 st1
 replace tb2 := tb2.up2 st1
 replace tb0 := tb0.up2 st1
 replace tb1 := tb1.up2 st1
 have lt1 := h1.lt
 refine k_assign rfl rfl ?_
 refine k_nil ?_
 refine k_keep [(1, _), (2, _), (4, _)] ⟨rfl, rfl, rfl, trivial⟩ ?_
 refine k_seq ?_
 refine k_seq ?_
 refine k_region ?_
 refine k_move rfl rfl ?_
 refine k_len_str Tryd.underlying9 rfl rfl ?_
 refine k_gtr rfl rfl rfl ?_
 refine k_nil ?_
 refine k_keep [(1, _), (2, _), (4, _), (13, _)] ⟨rfl, rfl, rfl, rfl, trivial⟩ ?_
 refine k_cond_dec rfl (fun c2 => ?_) (fun c2 => ?_)
 ·
  have h := itT h c2
  refine k_seq ?_
  refine k_region ?_
  obtain ⟨x1, hx1, h⟩ := ob h
  refine k_call cal7 rfl (law06_awake_w  tb2 tb0 tb1 hx1) rfl ?_
  rintro s3 vr3 st3 rfl
  have szs3 := st3.size
  have hS := hS.trans0 st3
  refine k_assign rfl rfl ?_
  refine k_nil ?_
  refine k_keep [(1, _), (2, _), (4, _)] ⟨rfl, rfl, rfl, trivial⟩ ?_
  refine k_ret ?_
  obtain rfl := Option.some.inj h
  refine ⟨_, rfl, Ret.mk hS ?_⟩
  exact rfl
 ·
  have h := itF h c2
  refine k_skip ?_
  refine k_seq ?_
  refine k_region ?_
  refine k_load_blka (cs := [.int .u64 (a0.Gen.toNat : Int), .int .u8 (a0.Sum.e0.toNat : Int), .int .u8 (a0.Sum.e1.toNat : Int), .int .u8 (a0.Sum.e2.toNat : Int), .int .u8 (a0.Sum.e3.toNat : Int), .int .u8 (a0.Sum.e4.toNat : Int), .int .u8 (a0.Sum.e5.toNat : Int), .int .u8 (a0.Sum.e6.toNat : Int), .int .u8 (a0.Sum.e7.toNat : Int), .int .u8 (a0.Sum.e8.toNat : Int), .int .u8 (a0.Sum.e9.toNat : Int), .int .u8 (a0.Sum.e10.toNat : Int), .int .u8 (a0.Sum.e11.toNat : Int), .int .u8 (a0.Sum.e12.toNat : Int), .int .u8 (a0.Sum.e13.toNat : Int), .int .u8 (a0.Sum.e14.toNat : Int), .int .u8 (a0.Sum.e15.toNat : Int)]) agg29 rfl h1 rfl ?_
  obtain ⟨x2, hx2, h⟩ := ob h
  refine k_call cal14 rfl (rev_Print_w  (clsApiRev a0) tb2 hx2) rfl ?_
  rintro s4 vr4 st4 rfl
  have szs4 := st4.size
  have hS := hS.trans0 st4
  replace h1 := h1.up2 st4
  replace tb2 := tb2.up2 st4
  replace tb0 := tb0.up2 st4
  replace tb1 := tb1.up2 st4
  refine k_move rfl rfl ?_
  refine k_extract rfl rfl rfl ?_
  refine k_extract rfl rfl rfl ?_
  refine k_assign rfl rfl ?_
  refine k_assign rfl rfl ?_
  refine k_nil ?_
  refine k_keep [(1, _), (2, _), (4, _), (5, _), (6, _)] ⟨rfl, rfl, rfl, rfl, rfl, trivial⟩ ?_
  refine k_seq ?_
  refine k_seq ?_
  refine k_region ?_
  refine k_load_blka (cs := [.int .u64 (a0.Gen.toNat : Int), .int .u8 (a0.Sum.e0.toNat : Int), .int .u8 (a0.Sum.e1.toNat : Int), .int .u8 (a0.Sum.e2.toNat : Int), .int .u8 (a0.Sum.e3.toNat : Int), .int .u8 (a0.Sum.e4.toNat : Int), .int .u8 (a0.Sum.e5.toNat : Int), .int .u8 (a0.Sum.e6.toNat : Int), .int .u8 (a0.Sum.e7.toNat : Int), .int .u8 (a0.Sum.e8.toNat : Int), .int .u8 (a0.Sum.e9.toNat : Int), .int .u8 (a0.Sum.e10.toNat : Int), .int .u8 (a0.Sum.e11.toNat : Int), .int .u8 (a0.Sum.e12.toNat : Int), .int .u8 (a0.Sum.e13.toNat : Int), .int .u8 (a0.Sum.e14.toNat : Int), .int .u8 (a0.Sum.e15.toNat : Int)]) agg29 rfl h1 rfl ?_
  obtain ⟨x3, hx3, h⟩ := ob h
  refine k_call cal15 rfl (ref06_May_w  (clsApiRev a0) hx3) rfl ?_
  rintro s5 vr5 st5 rfl
  have szs5 := st5.size
  have hS := hS.trans0 st5
  replace h1 := h1.up2 st5
  replace tb2 := tb2.up2 st5
  replace tb0 := tb0.up2 st5
  replace tb1 := tb1.up2 st5
  refine k_move rfl rfl ?_
  obtain ⟨x4, hx4, h⟩ := ob h
  have hE6 := Step.r0 K0 s5
  refine k_cutl (X := St) 9 [(1, S a1), (2, .pointer (some ⟨b1, 0, none⟩)), (4, .bool false), (5, S x2.1), (6, .int .i64 x2.2), (20, .agg #[.int .u64 (a0.Gen.toNat : Int), .int .u8 (a0.Sum.e0.toNat : Int), .int .u8 (a0.Sum.e1.toNat : Int), .int .u8 (a0.Sum.e2.toNat : Int), .int .u8 (a0.Sum.e3.toNat : Int), .int .u8 (a0.Sum.e4.toNat : Int), .int .u8 (a0.Sum.e5.toNat : Int), .int .u8 (a0.Sum.e6.toNat : Int), .int .u8 (a0.Sum.e7.toNat : Int), .int .u8 (a0.Sum.e8.toNat : Int), .int .u8 (a0.Sum.e9.toNat : Int), .int .u8 (a0.Sum.e10.toNat : Int), .int .u8 (a0.Sum.e11.toNat : Int), .int .u8 (a0.Sum.e12.toNat : Int), .int .u8 (a0.Sum.e13.toNat : Int), .int .u8 (a0.Sum.e14.toNat : Int), .int .u8 (a0.Sum.e15.toNat : Int)]), (21, .bool x3)] (fun _ => [(31, .bool x4)]) (fun sl wL => sl.w = wL ∧ Step K0 s5 sl) ?_ ?_
  ·
   refine k_again 22 rfl ?_
   refine k_splitb (fun c7 => ?_) (fun c7 => ?_)
   ·
    have hx4 := ibT hx4 c7
    refine k_yes rfl rfl ?_
    refine k_move rfl rfl ?_
    refine k_yes rfl rfl ?_
    refine k_neq rfl rfl rfl ?_
    refine k_yes rfl rfl ?_
    refine k_move rfl rfl ?_
    obtain ⟨x5, hx5, hx4⟩ := ob hx4
    have hE8 := Step.r0 K0 s5
    refine k_cutl (X := St) 5 [(1, S a1), (2, .pointer (some ⟨b1, 0, none⟩)), (4, .bool false), (5, S x2.1), (6, .int .i64 x2.2), (20, .agg #[.int .u64 (a0.Gen.toNat : Int), .int .u8 (a0.Sum.e0.toNat : Int), .int .u8 (a0.Sum.e1.toNat : Int), .int .u8 (a0.Sum.e2.toNat : Int), .int .u8 (a0.Sum.e3.toNat : Int), .int .u8 (a0.Sum.e4.toNat : Int), .int .u8 (a0.Sum.e5.toNat : Int), .int .u8 (a0.Sum.e6.toNat : Int), .int .u8 (a0.Sum.e7.toNat : Int), .int .u8 (a0.Sum.e8.toNat : Int), .int .u8 (a0.Sum.e9.toNat : Int), .int .u8 (a0.Sum.e10.toNat : Int), .int .u8 (a0.Sum.e11.toNat : Int), .int .u8 (a0.Sum.e12.toNat : Int), .int .u8 (a0.Sum.e13.toNat : Int), .int .u8 (a0.Sum.e14.toNat : Int), .int .u8 (a0.Sum.e15.toNat : Int)]), (21, .bool x3), (22, .bool true), (23, .int .i64 x2.2), (24, .bool (decide (x2.2 ≠ 0)))] (fun _ => [(30, .bool x5)]) (fun sl wL => sl.w = wL ∧ Step K0 s5 sl) ?_ ?_
    ·
     refine k_again 25 rfl ?_
     refine k_split (fun c9 => ?_) (fun c9 => ?_)
     ·
      have hx5 := itT hx5 c9
      refine k_no rfl rfl rfl rfl ?_
      refine k_no rfl rfl rfl rfl ?_
      refine k_no rfl rfl rfl rfl ?_
      refine k_no rfl rfl rfl rfl ?_
      refine k_yes rfl rfl ?_
      refine k_pickT rfl rfl rfl rfl ?_
      exact k_met ⟨s5, ⟨(congrArg (fun b => some (Value.bool b)) (Option.some.inj hx5)), trivial⟩, ⟨rfl, rfl, rfl, rfl, rfl, rfl, rfl, rfl, rfl, rfl, trivial⟩, rfl, hE8⟩
     ·
      have hx5 := itF hx5 c9
      refine k_yes rfl rfl ?_
      refine k_move rfl rfl ?_
      refine k_yes rfl rfl ?_
      refine k_load_blka (cs := [.int .u64 (a0.Gen.toNat : Int), .int .u8 (a0.Sum.e0.toNat : Int), .int .u8 (a0.Sum.e1.toNat : Int), .int .u8 (a0.Sum.e2.toNat : Int), .int .u8 (a0.Sum.e3.toNat : Int), .int .u8 (a0.Sum.e4.toNat : Int), .int .u8 (a0.Sum.e5.toNat : Int), .int .u8 (a0.Sum.e6.toNat : Int), .int .u8 (a0.Sum.e7.toNat : Int), .int .u8 (a0.Sum.e8.toNat : Int), .int .u8 (a0.Sum.e9.toNat : Int), .int .u8 (a0.Sum.e10.toNat : Int), .int .u8 (a0.Sum.e11.toNat : Int), .int .u8 (a0.Sum.e12.toNat : Int), .int .u8 (a0.Sum.e13.toNat : Int), .int .u8 (a0.Sum.e14.toNat : Int), .int .u8 (a0.Sum.e15.toNat : Int)]) agg29 rfl h1 rfl ?_
      refine k_yes rfl rfl ?_
      obtain ⟨x6, hx6, hx5⟩ := ob hx5
      refine k_call cal16 rfl (ref06_Print_w  (clsApiRev a0) hx6) rfl ?_
      rintro s10 vr10 st10 rfl
      have szs10 := st10.size
      have hS := hS.trans0 st10
      have hE6 := hE6.trans0 st10
      have hE8 := hE8.trans0 st10
      refine k_yes rfl rfl ?_
      refine k_neq_str rfl rfl rfl ?_
      refine k_yes rfl rfl ?_
      refine k_pickF rfl rfl rfl rfl ?_
      exact k_met ⟨s10, ⟨(congrArg (fun b => some (Value.bool b)) (Option.some.inj hx5)), trivial⟩, ⟨rfl, rfl, rfl, rfl, rfl, rfl, rfl, rfl, rfl, rfl, trivial⟩, rfl, hE8⟩
    ·
     rintro s11 wL ⟨rfl, hE8⟩
     have szs11 := hE8.size
     have hS := hS.trans0 hE8
     have hE6 := hE6.trans0 hE8
     refine k_pickT rfl rfl rfl rfl ?_
     exact k_met ⟨s11, ⟨(congrArg (fun b => some (Value.bool b)) (Option.some.inj hx4)), trivial⟩, ⟨rfl, rfl, rfl, rfl, rfl, rfl, rfl, trivial⟩, rfl, hE6⟩
   ·
    have hx4 := ibF hx4 c7
    refine k_no rfl rfl rfl rfl ?_
    refine k_no rfl rfl rfl rfl ?_
    refine k_no rfl rfl rfl rfl ?_
    refine k_nou rfl rfl rfl rfl ?_
    refine k_nou rfl rfl rfl rfl ?_
    refine k_nou rfl rfl rfl rfl ?_
    refine k_nou rfl rfl rfl rfl ?_
    refine k_no rfl rfl rfl rfl ?_
    refine k_pickF rfl rfl rfl rfl ?_
    exact k_met ⟨s5, ⟨(congrArg (fun b => some (Value.bool b)) (Option.some.inj hx4)), trivial⟩, ⟨rfl, rfl, rfl, rfl, rfl, rfl, rfl, trivial⟩, rfl, hE6⟩
  ·
   rintro s12 wL ⟨rfl, hE6⟩
   have szs12 := hE6.size
   have hS := hS.trans0 hE6
   replace h1 := h1.up2 hE6
   replace tb2 := tb2.up2 hE6
   replace tb0 := tb0.up2 hE6
   replace tb1 := tb1.up2 hE6
   refine k_move rfl rfl ?_
   obtain ⟨x7, hx7, h⟩ := ob h
   have hE13 := Step.r0 K0 s12
   refine k_cutl (X := St) 12 [(1, S a1), (2, .pointer (some ⟨b1, 0, none⟩)), (4, .bool false), (5, S x2.1), (6, .int .i64 x2.2), (20, .agg #[.int .u64 (a0.Gen.toNat : Int), .int .u8 (a0.Sum.e0.toNat : Int), .int .u8 (a0.Sum.e1.toNat : Int), .int .u8 (a0.Sum.e2.toNat : Int), .int .u8 (a0.Sum.e3.toNat : Int), .int .u8 (a0.Sum.e4.toNat : Int), .int .u8 (a0.Sum.e5.toNat : Int), .int .u8 (a0.Sum.e6.toNat : Int), .int .u8 (a0.Sum.e7.toNat : Int), .int .u8 (a0.Sum.e8.toNat : Int), .int .u8 (a0.Sum.e9.toNat : Int), .int .u8 (a0.Sum.e10.toNat : Int), .int .u8 (a0.Sum.e11.toNat : Int), .int .u8 (a0.Sum.e12.toNat : Int), .int .u8 (a0.Sum.e13.toNat : Int), .int .u8 (a0.Sum.e14.toNat : Int), .int .u8 (a0.Sum.e15.toNat : Int)]), (21, .bool x3), (31, .bool x4)] (fun _ => [(44, .bool x7)]) (fun sl wL => sl.w = wL ∧ Step K0 s12 sl) ?_ ?_
   ·
    refine k_again 32 rfl ?_
    refine k_splitb (fun c14 => ?_) (fun c14 => ?_)
    ·
     have hx7 := ibT hx7 c14
     refine k_no rfl rfl rfl rfl ?_
     refine k_no rfl rfl rfl rfl ?_
     refine k_no rfl rfl rfl rfl ?_
     refine k_no rfl rfl rfl rfl ?_
     refine k_nou rfl rfl rfl rfl ?_
     refine k_nou rfl rfl rfl rfl ?_
     refine k_nou rfl rfl rfl rfl ?_
     refine k_nou rfl rfl rfl rfl ?_
     refine k_nou rfl rfl rfl rfl ?_
     refine k_nou rfl rfl rfl rfl ?_
     refine k_no rfl rfl rfl rfl ?_
     refine k_pickT rfl rfl rfl rfl ?_
     exact k_met ⟨s12, ⟨(congrArg (fun b => some (Value.bool b)) (Option.some.inj hx7)), trivial⟩, ⟨rfl, rfl, rfl, rfl, rfl, rfl, rfl, rfl, trivial⟩, rfl, hE13⟩
    ·
     have hx7 := ibF hx7 c14
     refine k_yes rfl rfl ?_
     refine k_load_blka (cs := [.int .u64 (a0.Gen.toNat : Int), .int .u8 (a0.Sum.e0.toNat : Int), .int .u8 (a0.Sum.e1.toNat : Int), .int .u8 (a0.Sum.e2.toNat : Int), .int .u8 (a0.Sum.e3.toNat : Int), .int .u8 (a0.Sum.e4.toNat : Int), .int .u8 (a0.Sum.e5.toNat : Int), .int .u8 (a0.Sum.e6.toNat : Int), .int .u8 (a0.Sum.e7.toNat : Int), .int .u8 (a0.Sum.e8.toNat : Int), .int .u8 (a0.Sum.e9.toNat : Int), .int .u8 (a0.Sum.e10.toNat : Int), .int .u8 (a0.Sum.e11.toNat : Int), .int .u8 (a0.Sum.e12.toNat : Int), .int .u8 (a0.Sum.e13.toNat : Int), .int .u8 (a0.Sum.e14.toNat : Int), .int .u8 (a0.Sum.e15.toNat : Int)]) agg29 rfl h1 rfl ?_
     refine k_yes rfl rfl ?_
     obtain ⟨x8, hx8, hx7⟩ := ob hx7
     refine k_call cal15 rfl (ref06_May_w  (clsApiRev a0) hx8) rfl ?_
     rintro s15 vr15 st15 rfl
     have szs15 := st15.size
     have hS := hS.trans0 st15
     have hE13 := hE13.trans0 st15
     refine k_yes rfl rfl ?_
     refine k_not rfl rfl ?_
     refine k_yes rfl rfl ?_
     refine k_move rfl rfl ?_
     have hE16 := Step.r0 K0 s15
     refine k_cutl (X := St) 7 [(1, S a1), (2, .pointer (some ⟨b1, 0, none⟩)), (4, .bool false), (5, S x2.1), (6, .int .i64 x2.2), (20, .agg #[.int .u64 (a0.Gen.toNat : Int), .int .u8 (a0.Sum.e0.toNat : Int), .int .u8 (a0.Sum.e1.toNat : Int), .int .u8 (a0.Sum.e2.toNat : Int), .int .u8 (a0.Sum.e3.toNat : Int), .int .u8 (a0.Sum.e4.toNat : Int), .int .u8 (a0.Sum.e5.toNat : Int), .int .u8 (a0.Sum.e6.toNat : Int), .int .u8 (a0.Sum.e7.toNat : Int), .int .u8 (a0.Sum.e8.toNat : Int), .int .u8 (a0.Sum.e9.toNat : Int), .int .u8 (a0.Sum.e10.toNat : Int), .int .u8 (a0.Sum.e11.toNat : Int), .int .u8 (a0.Sum.e12.toNat : Int), .int .u8 (a0.Sum.e13.toNat : Int), .int .u8 (a0.Sum.e14.toNat : Int), .int .u8 (a0.Sum.e15.toNat : Int)]), (21, .bool x3), (31, .bool x4), (32, .bool false), (33, .agg #[.int .u64 (a0.Gen.toNat : Int), .int .u8 (a0.Sum.e0.toNat : Int), .int .u8 (a0.Sum.e1.toNat : Int), .int .u8 (a0.Sum.e2.toNat : Int), .int .u8 (a0.Sum.e3.toNat : Int), .int .u8 (a0.Sum.e4.toNat : Int), .int .u8 (a0.Sum.e5.toNat : Int), .int .u8 (a0.Sum.e6.toNat : Int), .int .u8 (a0.Sum.e7.toNat : Int), .int .u8 (a0.Sum.e8.toNat : Int), .int .u8 (a0.Sum.e9.toNat : Int), .int .u8 (a0.Sum.e10.toNat : Int), .int .u8 (a0.Sum.e11.toNat : Int), .int .u8 (a0.Sum.e12.toNat : Int), .int .u8 (a0.Sum.e13.toNat : Int), .int .u8 (a0.Sum.e14.toNat : Int), .int .u8 (a0.Sum.e15.toNat : Int)]), (34, .bool x8), (35, .bool (!x8))] (fun _ => [(43, .bool (decide (((!x8) = true) ∧ ((x2.2 ≠ 1) ∨ (x2.1 ≠ ([] : List UInt8))))))]) (fun sl wL => sl.w = wL ∧ Step K0 s15 sl) ?_ ?_
     ·
      refine k_again 36 rfl ?_
      refine k_splitb (fun c17 => ?_) (fun c17 => ?_)
      ·
       refine k_yes rfl rfl ?_
       refine k_move rfl rfl ?_
       refine k_yes rfl rfl ?_
       refine k_neq rfl rfl rfl ?_
       refine k_yes rfl rfl ?_
       refine k_move rfl rfl ?_
       have hE18 := Step.r0 K0 s15
       refine k_cutl (X := St) 3 [(1, S a1), (2, .pointer (some ⟨b1, 0, none⟩)), (4, .bool false), (5, S x2.1), (6, .int .i64 x2.2), (20, .agg #[.int .u64 (a0.Gen.toNat : Int), .int .u8 (a0.Sum.e0.toNat : Int), .int .u8 (a0.Sum.e1.toNat : Int), .int .u8 (a0.Sum.e2.toNat : Int), .int .u8 (a0.Sum.e3.toNat : Int), .int .u8 (a0.Sum.e4.toNat : Int), .int .u8 (a0.Sum.e5.toNat : Int), .int .u8 (a0.Sum.e6.toNat : Int), .int .u8 (a0.Sum.e7.toNat : Int), .int .u8 (a0.Sum.e8.toNat : Int), .int .u8 (a0.Sum.e9.toNat : Int), .int .u8 (a0.Sum.e10.toNat : Int), .int .u8 (a0.Sum.e11.toNat : Int), .int .u8 (a0.Sum.e12.toNat : Int), .int .u8 (a0.Sum.e13.toNat : Int), .int .u8 (a0.Sum.e14.toNat : Int), .int .u8 (a0.Sum.e15.toNat : Int)]), (21, .bool x3), (31, .bool x4), (32, .bool false), (33, .agg #[.int .u64 (a0.Gen.toNat : Int), .int .u8 (a0.Sum.e0.toNat : Int), .int .u8 (a0.Sum.e1.toNat : Int), .int .u8 (a0.Sum.e2.toNat : Int), .int .u8 (a0.Sum.e3.toNat : Int), .int .u8 (a0.Sum.e4.toNat : Int), .int .u8 (a0.Sum.e5.toNat : Int), .int .u8 (a0.Sum.e6.toNat : Int), .int .u8 (a0.Sum.e7.toNat : Int), .int .u8 (a0.Sum.e8.toNat : Int), .int .u8 (a0.Sum.e9.toNat : Int), .int .u8 (a0.Sum.e10.toNat : Int), .int .u8 (a0.Sum.e11.toNat : Int), .int .u8 (a0.Sum.e12.toNat : Int), .int .u8 (a0.Sum.e13.toNat : Int), .int .u8 (a0.Sum.e14.toNat : Int), .int .u8 (a0.Sum.e15.toNat : Int)]), (34, .bool x8), (35, .bool (!x8)), (36, .bool true), (37, .int .i64 x2.2), (38, .bool (decide (x2.2 ≠ 1)))] (fun _ => [(42, .bool (decide ((x2.2 ≠ 1) ∨ (x2.1 ≠ ([] : List UInt8)))))]) (fun sl wL => sl.w = wL ∧ Step K0 s15 sl) ?_ ?_
       ·
        refine k_again 39 rfl ?_
        refine k_split (fun c19 => ?_) (fun c19 => ?_)
        ·
         refine k_no rfl rfl rfl rfl ?_
         refine k_no rfl rfl rfl rfl ?_
         refine k_yes rfl rfl ?_
         refine k_pickT rfl rfl rfl rfl ?_
         exact k_met ⟨s15, ⟨(congrArg (fun b => some (Value.bool b)) (by first | exact decide_eq_decide.2 ⟨Or.inr, fun h => h.resolve_left c19⟩ | exact (decide_eq_true (Or.inl c19)).symm | (simp [c19]; done) | exact dec_andT c19 | exact dec_andF c19 | exact dec_orF c19 | exact dec_orT c19 | (simp [c19, i64] <;> omega))), trivial⟩, ⟨rfl, rfl, rfl, rfl, rfl, rfl, rfl, rfl, rfl, rfl, rfl, rfl, rfl, rfl, rfl, trivial⟩, rfl, hE18⟩
        ·
         refine k_yes rfl rfl ?_
         refine k_move rfl rfl ?_
         refine k_yes rfl rfl ?_
         refine k_neq_str rfl rfl rfl ?_
         refine k_yes rfl rfl ?_
         refine k_pickF rfl rfl rfl rfl ?_
         exact k_met ⟨s15, ⟨(congrArg (fun b => some (Value.bool b)) (by first | exact decide_eq_decide.2 ⟨Or.inr, fun h => h.resolve_left c19⟩ | exact (decide_eq_true (Or.inl c19)).symm | (simp [c19]; done) | exact dec_andT c19 | exact dec_andF c19 | exact dec_orF c19 | exact dec_orT c19 | (simp [c19, i64] <;> omega))), trivial⟩, ⟨rfl, rfl, rfl, rfl, rfl, rfl, rfl, rfl, rfl, rfl, rfl, rfl, rfl, rfl, rfl, trivial⟩, rfl, hE18⟩
       ·
        rintro s20 wL ⟨rfl, hE18⟩
        have szs20 := hE18.size
        have hS := hS.trans0 hE18
        have hE13 := hE13.trans0 hE18
        have hE16 := hE16.trans0 hE18
        refine k_yes rfl rfl ?_
        refine k_pickT rfl rfl rfl rfl ?_
        exact k_met ⟨s20, ⟨(congrArg (fun b => some (Value.bool b)) (by first | exact decide_eq_decide.2 ⟨fun h => ⟨c17, h⟩, fun h => h.2⟩ | exact (decide_eq_false (fun h => c17 h.1)).symm | (simp [c17]; done) | exact dec_andT c17 | exact dec_andF c17 | exact dec_orF c17 | exact dec_orT c17 | (simp [c17, i64] <;> omega))), trivial⟩, ⟨rfl, rfl, rfl, rfl, rfl, rfl, rfl, rfl, rfl, rfl, rfl, rfl, trivial⟩, rfl, hE16⟩
      ·
       refine k_no rfl rfl rfl rfl ?_
       refine k_no rfl rfl rfl rfl ?_
       refine k_no rfl rfl rfl rfl ?_
       refine k_nou rfl rfl rfl rfl ?_
       refine k_nou rfl rfl rfl rfl ?_
       refine k_no rfl rfl rfl rfl ?_
       refine k_yes rfl rfl ?_
       refine k_pickF rfl rfl rfl rfl ?_
       exact k_met ⟨s15, ⟨(congrArg (fun b => some (Value.bool b)) (by first | exact decide_eq_decide.2 ⟨fun h => ⟨c17, h⟩, fun h => h.2⟩ | exact (decide_eq_false (fun h => c17 h.1)).symm | (simp [c17]; done) | exact dec_andT c17 | exact dec_andF c17 | exact dec_orF c17 | exact dec_orT c17 | (simp [c17, i64] <;> omega))), trivial⟩, ⟨rfl, rfl, rfl, rfl, rfl, rfl, rfl, rfl, rfl, rfl, rfl, rfl, trivial⟩, rfl, hE16⟩
     ·
      rintro s21 wL ⟨rfl, hE16⟩
      have szs21 := hE16.size
      have hS := hS.trans0 hE16
      have hE13 := hE13.trans0 hE16
      refine k_pickF rfl rfl rfl rfl ?_
      exact k_met ⟨s21, ⟨(congrArg (fun b => some (Value.bool b)) (Option.some.inj hx7)), trivial⟩, ⟨rfl, rfl, rfl, rfl, rfl, rfl, rfl, rfl, trivial⟩, rfl, hE13⟩
   ·
    rintro s22 wL ⟨rfl, hE13⟩
    have szs22 := hE13.size
    have hS := hS.trans0 hE13
    replace tb2 := tb2.up2 hE13
    replace tb0 := tb0.up2 hE13
    replace tb1 := tb1.up2 hE13
    refine k_nil ?_
    refine k_keep [(1, _), (4, _), (44, _)] ⟨rfl, rfl, rfl, trivial⟩ ?_
    refine k_cond rfl (fun c23 => ?_) (fun c23 => ?_)
    ·
     have h := ibT h c23
     refine k_seq ?_
     refine k_region ?_
     refine k_assign rfl rfl ?_
     refine k_nil ?_
     refine k_keep [(1, _), (4, _)] ⟨rfl, rfl, trivial⟩ ?_
     refine k_ret ?_
     obtain rfl := Option.some.inj h
     refine ⟨_, rfl, Ret.mk hS ?_⟩
     exact rfl
    ·
     have h := ibF h c23
     refine k_skip ?_
     refine k_seq ?_
     refine k_region ?_
     refine k_move rfl rfl ?_
     obtain ⟨x9, hx9, h⟩ := ob h
     refine k_call cal17 rfl (rev_Parse_w  tb0 tb1 tb2 hx9) rfl ?_
     rintro s24 vr24 st24 ⟨cs24_0, rfl, h24_0⟩
     have szs24 := st24.size
     have hS := hS.trans0 st24
     replace tb2 := tb2.up2 st24
     replace tb0 := tb0.up2 st24
     replace tb1 := tb1.up2 st24
     obtain rfl := opnApiRev h24_0
     refine k_move rfl rfl ?_
     refine k_extract rfl rfl rfl ?_
     refine k_extract rfl rfl rfl ?_
     refine k_alloc zero29 rfl ?_
     intro s25 b25 st25 h25 ge25
     have szs25 := st25.size
     have hS := hS.trans0 st25
     replace tb2 := tb2.up2 st25
     replace tb0 := tb0.up2 st25
     replace tb1 := tb1.up2 st25
     have lt25 := h25.lt
     refine k_store_c (cs' := [.int .u64 (x9.1.Gen.toNat : Int), .int .u8 (x9.1.Sum.e0.toNat : Int), .int .u8 (x9.1.Sum.e1.toNat : Int), .int .u8 (x9.1.Sum.e2.toNat : Int), .int .u8 (x9.1.Sum.e3.toNat : Int), .int .u8 (x9.1.Sum.e4.toNat : Int), .int .u8 (x9.1.Sum.e5.toNat : Int), .int .u8 (x9.1.Sum.e6.toNat : Int), .int .u8 (x9.1.Sum.e7.toNat : Int), .int .u8 (x9.1.Sum.e8.toNat : Int), .int .u8 (x9.1.Sum.e9.toNat : Int), .int .u8 (x9.1.Sum.e10.toNat : Int), .int .u8 (x9.1.Sum.e11.toNat : Int), .int .u8 (x9.1.Sum.e12.toNat : Int), .int .u8 (x9.1.Sum.e13.toNat : Int), .int .u8 (x9.1.Sum.e14.toNat : Int), .int .u8 (x9.1.Sum.e15.toNat : Int)]) size29 rfl rfl h25 (by first | (simp; done) | omega | (dsimp only; omega)) (CellsOf.lit rfl rfl) rfl (by first | rfl | (simp; done) | (simp; omega)) rfl ?_
     intro s26 st26 h25
     have szs26 := st26.size
     have hS := hS.c0 st26
     replace tb2 := tb2.up2 st26
     replace tb0 := tb0.up2 st26
     replace tb1 := tb1.up2 st26
     refine k_assign rfl rfl ?_
     refine k_nil ?_
     refine k_keep [(1, _), (4, _), (7, _), (8, _)] ⟨rfl, rfl, rfl, rfl, trivial⟩ ?_
     refine k_seq ?_
     refine k_region ?_
     refine k_move rfl rfl ?_
     obtain ⟨x10, hx10, h⟩ := ob h
     refine k_call cal18 rfl (ref06_Parse_w   hx10) rfl ?_
     rintro s27 vr27 st27 ⟨cs27_0, rfl, h27_0⟩
     have szs27 := st27.size
     have hS := hS.trans0 st27
     replace h25 := h25.up2 st27
     replace tb2 := tb2.up2 st27
     replace tb0 := tb0.up2 st27
     replace tb1 := tb1.up2 st27
     obtain rfl := opnApiRev h27_0
     refine k_move rfl rfl ?_
     refine k_extract rfl rfl rfl ?_
     refine k_extract rfl rfl rfl ?_
     refine k_alloc zero29 rfl ?_
     intro s28 b28 st28 h28 ge28
     have szs28 := st28.size
     have hS := hS.trans0 st28
     replace h25 := h25.up2 st28
     replace tb2 := tb2.up2 st28
     replace tb0 := tb0.up2 st28
     replace tb1 := tb1.up2 st28
     have lt28 := h28.lt
     refine k_store_c (cs' := [.int .u64 (x10.1.Gen.toNat : Int), .int .u8 (x10.1.Sum.e0.toNat : Int), .int .u8 (x10.1.Sum.e1.toNat : Int), .int .u8 (x10.1.Sum.e2.toNat : Int), .int .u8 (x10.1.Sum.e3.toNat : Int), .int .u8 (x10.1.Sum.e4.toNat : Int), .int .u8 (x10.1.Sum.e5.toNat : Int), .int .u8 (x10.1.Sum.e6.toNat : Int), .int .u8 (x10.1.Sum.e7.toNat : Int), .int .u8 (x10.1.Sum.e8.toNat : Int), .int .u8 (x10.1.Sum.e9.toNat : Int), .int .u8 (x10.1.Sum.e10.toNat : Int), .int .u8 (x10.1.Sum.e11.toNat : Int), .int .u8 (x10.1.Sum.e12.toNat : Int), .int .u8 (x10.1.Sum.e13.toNat : Int), .int .u8 (x10.1.Sum.e14.toNat : Int), .int .u8 (x10.1.Sum.e15.toNat : Int)]) size29 rfl rfl h28 (by first | (simp; done) | omega | (dsimp only; omega)) (CellsOf.lit rfl rfl) rfl (by first | rfl | (simp; done) | (simp; omega)) rfl ?_
     intro s29 st29 h28
     have szs29 := st29.size
     have hS := hS.c0 st29
     replace h25 := h25.up2 st29
     replace tb2 := tb2.up2 st29
     replace tb0 := tb0.up2 st29
     replace tb1 := tb1.up2 st29
     refine k_assign rfl rfl ?_
     refine k_nil ?_
     refine k_keep [(4, _), (7, _), (8, _), (9, _), (10, _)] ⟨rfl, rfl, rfl, rfl, rfl, trivial⟩ ?_
     refine k_seq ?_
     refine k_region ?_
     refine k_load_blka (cs := [.int .u64 (x9.1.Gen.toNat : Int), .int .u8 (x9.1.Sum.e0.toNat : Int), .int .u8 (x9.1.Sum.e1.toNat : Int), .int .u8 (x9.1.Sum.e2.toNat : Int), .int .u8 (x9.1.Sum.e3.toNat : Int), .int .u8 (x9.1.Sum.e4.toNat : Int), .int .u8 (x9.1.Sum.e5.toNat : Int), .int .u8 (x9.1.Sum.e6.toNat : Int), .int .u8 (x9.1.Sum.e7.toNat : Int), .int .u8 (x9.1.Sum.e8.toNat : Int), .int .u8 (x9.1.Sum.e9.toNat : Int), .int .u8 (x9.1.Sum.e10.toNat : Int), .int .u8 (x9.1.Sum.e11.toNat : Int), .int .u8 (x9.1.Sum.e12.toNat : Int), .int .u8 (x9.1.Sum.e13.toNat : Int), .int .u8 (x9.1.Sum.e14.toNat : Int), .int .u8 (x9.1.Sum.e15.toNat : Int)]) agg29 rfl h25 rfl ?_
     refine k_load_blka (cs := [.int .u64 (x10.1.Gen.toNat : Int), .int .u8 (x10.1.Sum.e0.toNat : Int), .int .u8 (x10.1.Sum.e1.toNat : Int), .int .u8 (x10.1.Sum.e2.toNat : Int), .int .u8 (x10.1.Sum.e3.toNat : Int), .int .u8 (x10.1.Sum.e4.toNat : Int), .int .u8 (x10.1.Sum.e5.toNat : Int), .int .u8 (x10.1.Sum.e6.toNat : Int), .int .u8 (x10.1.Sum.e7.toNat : Int), .int .u8 (x10.1.Sum.e8.toNat : Int), .int .u8 (x10.1.Sum.e9.toNat : Int), .int .u8 (x10.1.Sum.e10.toNat : Int), .int .u8 (x10.1.Sum.e11.toNat : Int), .int .u8 (x10.1.Sum.e12.toNat : Int), .int .u8 (x10.1.Sum.e13.toNat : Int), .int .u8 (x10.1.Sum.e14.toNat : Int), .int .u8 (x10.1.Sum.e15.toNat : Int)]) agg29 rfl h28 rfl ?_
     refine k_eql_fb (a := (x9.1.Gen.toNat : Int)) (b := (x10.1.Gen.toNat : Int)) (xs := ([x9.1.Sum.e0, x9.1.Sum.e1, x9.1.Sum.e2, x9.1.Sum.e3, x9.1.Sum.e4, x9.1.Sum.e5, x9.1.Sum.e6, x9.1.Sum.e7, x9.1.Sum.e8, x9.1.Sum.e9, x9.1.Sum.e10, x9.1.Sum.e11, x9.1.Sum.e12, x9.1.Sum.e13, x9.1.Sum.e14, x9.1.Sum.e15] : List UInt8)) (ys := ([x10.1.Sum.e0, x10.1.Sum.e1, x10.1.Sum.e2, x10.1.Sum.e3, x10.1.Sum.e4, x10.1.Sum.e5, x10.1.Sum.e6, x10.1.Sum.e7, x10.1.Sum.e8, x10.1.Sum.e9, x10.1.Sum.e10, x10.1.Sum.e11, x10.1.Sum.e12, x10.1.Sum.e13, x10.1.Sum.e14, x10.1.Sum.e15] : List UInt8)) flatB29 rfl rfl rfl rfl rfl ?_
     refine k_move rfl rfl ?_
     have hE30 := Step.r0 K0 s29
     refine k_cutl (X := St) 5 [(4, .bool false), (7, .pointer (some ⟨b25, 0, none⟩)), (8, .int .i64 x9.2), (9, .pointer (some ⟨b28, 0, none⟩)), (10, .bool x10.2), (55, .agg #[.int .u64 (x9.1.Gen.toNat : Int), .int .u8 (x9.1.Sum.e0.toNat : Int), .int .u8 (x9.1.Sum.e1.toNat : Int), .int .u8 (x9.1.Sum.e2.toNat : Int), .int .u8 (x9.1.Sum.e3.toNat : Int), .int .u8 (x9.1.Sum.e4.toNat : Int), .int .u8 (x9.1.Sum.e5.toNat : Int), .int .u8 (x9.1.Sum.e6.toNat : Int), .int .u8 (x9.1.Sum.e7.toNat : Int), .int .u8 (x9.1.Sum.e8.toNat : Int), .int .u8 (x9.1.Sum.e9.toNat : Int), .int .u8 (x9.1.Sum.e10.toNat : Int), .int .u8 (x9.1.Sum.e11.toNat : Int), .int .u8 (x9.1.Sum.e12.toNat : Int), .int .u8 (x9.1.Sum.e13.toNat : Int), .int .u8 (x9.1.Sum.e14.toNat : Int), .int .u8 (x9.1.Sum.e15.toNat : Int)]), (56, .agg #[.int .u64 (x10.1.Gen.toNat : Int), .int .u8 (x10.1.Sum.e0.toNat : Int), .int .u8 (x10.1.Sum.e1.toNat : Int), .int .u8 (x10.1.Sum.e2.toNat : Int), .int .u8 (x10.1.Sum.e3.toNat : Int), .int .u8 (x10.1.Sum.e4.toNat : Int), .int .u8 (x10.1.Sum.e5.toNat : Int), .int .u8 (x10.1.Sum.e6.toNat : Int), .int .u8 (x10.1.Sum.e7.toNat : Int), .int .u8 (x10.1.Sum.e8.toNat : Int), .int .u8 (x10.1.Sum.e9.toNat : Int), .int .u8 (x10.1.Sum.e10.toNat : Int), .int .u8 (x10.1.Sum.e11.toNat : Int), .int .u8 (x10.1.Sum.e12.toNat : Int), .int .u8 (x10.1.Sum.e13.toNat : Int), .int .u8 (x10.1.Sum.e14.toNat : Int), .int .u8 (x10.1.Sum.e15.toNat : Int)]), (57, .bool (decide ((x9.1.Gen.toNat : Int) = (x10.1.Gen.toNat : Int) ∧ ([x9.1.Sum.e0, x9.1.Sum.e1, x9.1.Sum.e2, x9.1.Sum.e3, x9.1.Sum.e4, x9.1.Sum.e5, x9.1.Sum.e6, x9.1.Sum.e7, x9.1.Sum.e8, x9.1.Sum.e9, x9.1.Sum.e10, x9.1.Sum.e11, x9.1.Sum.e12, x9.1.Sum.e13, x9.1.Sum.e14, x9.1.Sum.e15] : List UInt8) = ([x10.1.Sum.e0, x10.1.Sum.e1, x10.1.Sum.e2, x10.1.Sum.e3, x10.1.Sum.e4, x10.1.Sum.e5, x10.1.Sum.e6, x10.1.Sum.e7, x10.1.Sum.e8, x10.1.Sum.e9, x10.1.Sum.e10, x10.1.Sum.e11, x10.1.Sum.e12, x10.1.Sum.e13, x10.1.Sum.e14, x10.1.Sum.e15] : List UInt8))))] (fun _ => [(63, .bool (decide (((x9.1.Gen.toNat : Int) = (x10.1.Gen.toNat : Int) ∧ ([x9.1.Sum.e0, x9.1.Sum.e1, x9.1.Sum.e2, x9.1.Sum.e3, x9.1.Sum.e4, x9.1.Sum.e5, x9.1.Sum.e6, x9.1.Sum.e7, x9.1.Sum.e8, x9.1.Sum.e9, x9.1.Sum.e10, x9.1.Sum.e11, x9.1.Sum.e12, x9.1.Sum.e13, x9.1.Sum.e14, x9.1.Sum.e15] : List UInt8) = ([x10.1.Sum.e0, x10.1.Sum.e1, x10.1.Sum.e2, x10.1.Sum.e3, x10.1.Sum.e4, x10.1.Sum.e5, x10.1.Sum.e6, x10.1.Sum.e7, x10.1.Sum.e8, x10.1.Sum.e9, x10.1.Sum.e10, x10.1.Sum.e11, x10.1.Sum.e12, x10.1.Sum.e13, x10.1.Sum.e14, x10.1.Sum.e15] : List UInt8)) ∧ ((decide (x9.2 = 0) == x10.2) = true))))]) (fun sl wL => sl.w = wL ∧ Step K0 s29 sl) ?_ ?_
     ·
      refine k_again 58 rfl ?_
      refine k_split (fun c31 => ?_) (fun c31 => ?_)
      ·
       refine k_yes rfl rfl ?_
       refine k_move rfl rfl ?_
       refine k_yes rfl rfl ?_
       refine k_eql rfl rfl rfl ?_
       refine k_yes rfl rfl ?_
       refine k_move rfl rfl ?_
       refine k_yes rfl rfl ?_
       refine k_eqlb Tryd.underlying4 rfl rfl rfl ?_
       refine k_pickT rfl rfl rfl rfl ?_
       exact k_met ⟨s29, ⟨(congrArg (fun b => some (Value.bool b)) (by first | exact decide_eq_decide.2 ⟨fun h => ⟨c31, h⟩, fun h => h.2⟩ | exact (decide_eq_false (fun h => c31 h.1)).symm | (simp [c31]; done) | exact dec_andT c31 | exact dec_andF c31 | exact dec_orF c31 | exact dec_orT c31 | (simp [c31, i64] <;> omega))), trivial⟩, ⟨rfl, rfl, rfl, rfl, rfl, rfl, rfl, rfl, trivial⟩, rfl, hE30⟩
      ·
       refine k_no rfl rfl rfl rfl ?_
       refine k_no rfl rfl rfl rfl ?_
       refine k_no rfl rfl rfl rfl ?_
       refine k_no rfl rfl rfl rfl ?_
       refine k_pickF rfl rfl rfl rfl ?_
       exact k_met ⟨s29, ⟨(congrArg (fun b => some (Value.bool b)) (by first | exact decide_eq_decide.2 ⟨fun h => ⟨c31, h⟩, fun h => h.2⟩ | exact (decide_eq_false (fun h => c31 h.1)).symm | (simp [c31]; done) | exact dec_andT c31 | exact dec_andF c31 | exact dec_orF c31 | exact dec_orT c31 | (simp [c31, i64] <;> omega))), trivial⟩, ⟨rfl, rfl, rfl, rfl, rfl, rfl, rfl, rfl, trivial⟩, rfl, hE30⟩
     ·
      rintro s32 wL ⟨rfl, hE30⟩
      have szs32 := hE30.size
      have hS := hS.trans0 hE30
      replace tb2 := tb2.up2 hE30
      replace tb0 := tb0.up2 hE30
      replace tb1 := tb1.up2 hE30
      refine k_move rfl rfl ?_
      have hE33 := Step.r0 K0 s32
      refine k_cutl (X := St) 6 [(4, .bool false), (7, .pointer (some ⟨b25, 0, none⟩)), (8, .int .i64 x9.2), (9, .pointer (some ⟨b28, 0, none⟩)), (10, .bool x10.2), (55, .agg #[.int .u64 (x9.1.Gen.toNat : Int), .int .u8 (x9.1.Sum.e0.toNat : Int), .int .u8 (x9.1.Sum.e1.toNat : Int), .int .u8 (x9.1.Sum.e2.toNat : Int), .int .u8 (x9.1.Sum.e3.toNat : Int), .int .u8 (x9.1.Sum.e4.toNat : Int), .int .u8 (x9.1.Sum.e5.toNat : Int), .int .u8 (x9.1.Sum.e6.toNat : Int), .int .u8 (x9.1.Sum.e7.toNat : Int), .int .u8 (x9.1.Sum.e8.toNat : Int), .int .u8 (x9.1.Sum.e9.toNat : Int), .int .u8 (x9.1.Sum.e10.toNat : Int), .int .u8 (x9.1.Sum.e11.toNat : Int), .int .u8 (x9.1.Sum.e12.toNat : Int), .int .u8 (x9.1.Sum.e13.toNat : Int), .int .u8 (x9.1.Sum.e14.toNat : Int), .int .u8 (x9.1.Sum.e15.toNat : Int)]), (56, .agg #[.int .u64 (x10.1.Gen.toNat : Int), .int .u8 (x10.1.Sum.e0.toNat : Int), .int .u8 (x10.1.Sum.e1.toNat : Int), .int .u8 (x10.1.Sum.e2.toNat : Int), .int .u8 (x10.1.Sum.e3.toNat : Int), .int .u8 (x10.1.Sum.e4.toNat : Int), .int .u8 (x10.1.Sum.e5.toNat : Int), .int .u8 (x10.1.Sum.e6.toNat : Int), .int .u8 (x10.1.Sum.e7.toNat : Int), .int .u8 (x10.1.Sum.e8.toNat : Int), .int .u8 (x10.1.Sum.e9.toNat : Int), .int .u8 (x10.1.Sum.e10.toNat : Int), .int .u8 (x10.1.Sum.e11.toNat : Int), .int .u8 (x10.1.Sum.e12.toNat : Int), .int .u8 (x10.1.Sum.e13.toNat : Int), .int .u8 (x10.1.Sum.e14.toNat : Int), .int .u8 (x10.1.Sum.e15.toNat : Int)]), (57, .bool (decide ((x9.1.Gen.toNat : Int) = (x10.1.Gen.toNat : Int) ∧ ([x9.1.Sum.e0, x9.1.Sum.e1, x9.1.Sum.e2, x9.1.Sum.e3, x9.1.Sum.e4, x9.1.Sum.e5, x9.1.Sum.e6, x9.1.Sum.e7, x9.1.Sum.e8, x9.1.Sum.e9, x9.1.Sum.e10, x9.1.Sum.e11, x9.1.Sum.e12, x9.1.Sum.e13, x9.1.Sum.e14, x9.1.Sum.e15] : List UInt8) = ([x10.1.Sum.e0, x10.1.Sum.e1, x10.1.Sum.e2, x10.1.Sum.e3, x10.1.Sum.e4, x10.1.Sum.e5, x10.1.Sum.e6, x10.1.Sum.e7, x10.1.Sum.e8, x10.1.Sum.e9, x10.1.Sum.e10, x10.1.Sum.e11, x10.1.Sum.e12, x10.1.Sum.e13, x10.1.Sum.e14, x10.1.Sum.e15] : List UInt8)))), (63, .bool (decide (((x9.1.Gen.toNat : Int) = (x10.1.Gen.toNat : Int) ∧ ([x9.1.Sum.e0, x9.1.Sum.e1, x9.1.Sum.e2, x9.1.Sum.e3, x9.1.Sum.e4, x9.1.Sum.e5, x9.1.Sum.e6, x9.1.Sum.e7, x9.1.Sum.e8, x9.1.Sum.e9, x9.1.Sum.e10, x9.1.Sum.e11, x9.1.Sum.e12, x9.1.Sum.e13, x9.1.Sum.e14, x9.1.Sum.e15] : List UInt8) = ([x10.1.Sum.e0, x10.1.Sum.e1, x10.1.Sum.e2, x10.1.Sum.e3, x10.1.Sum.e4, x10.1.Sum.e5, x10.1.Sum.e6, x10.1.Sum.e7, x10.1.Sum.e8, x10.1.Sum.e9, x10.1.Sum.e10, x10.1.Sum.e11, x10.1.Sum.e12, x10.1.Sum.e13, x10.1.Sum.e14, x10.1.Sum.e15] : List UInt8)) ∧ ((decide (x9.2 = 0) == x10.2) = true))))] (fun _ => [(70, .bool (decide ((((x9.1.Gen.toNat : Int) = (x10.1.Gen.toNat : Int) ∧ ([x9.1.Sum.e0, x9.1.Sum.e1, x9.1.Sum.e2, x9.1.Sum.e3, x9.1.Sum.e4, x9.1.Sum.e5, x9.1.Sum.e6, x9.1.Sum.e7, x9.1.Sum.e8, x9.1.Sum.e9, x9.1.Sum.e10, x9.1.Sum.e11, x9.1.Sum.e12, x9.1.Sum.e13, x9.1.Sum.e14, x9.1.Sum.e15] : List UInt8) = ([x10.1.Sum.e0, x10.1.Sum.e1, x10.1.Sum.e2, x10.1.Sum.e3, x10.1.Sum.e4, x10.1.Sum.e5, x10.1.Sum.e6, x10.1.Sum.e7, x10.1.Sum.e8, x10.1.Sum.e9, x10.1.Sum.e10, x10.1.Sum.e11, x10.1.Sum.e12, x10.1.Sum.e13, x10.1.Sum.e14, x10.1.Sum.e15] : List UInt8)) ∧ ((decide (x9.2 = 0) == x10.2) = true)) ∧ ((x10.2 = true) ∨ (x9.2 = 2)))))]) (fun sl wL => sl.w = wL ∧ Step K0 s32 sl) ?_ ?_
      ·
       refine k_again 64 rfl ?_
       refine k_split (fun c34 => ?_) (fun c34 => ?_)
       ·
        refine k_yes rfl rfl ?_
        refine k_move rfl rfl ?_
        refine k_yes rfl rfl ?_
        refine k_move rfl rfl ?_
        have hE35 := Step.r0 K0 s32
        refine k_cutl (X := St) 3 [(4, .bool false), (7, .pointer (some ⟨b25, 0, none⟩)), (8, .int .i64 x9.2), (9, .pointer (some ⟨b28, 0, none⟩)), (10, .bool x10.2), (55, .agg #[.int .u64 (x9.1.Gen.toNat : Int), .int .u8 (x9.1.Sum.e0.toNat : Int), .int .u8 (x9.1.Sum.e1.toNat : Int), .int .u8 (x9.1.Sum.e2.toNat : Int), .int .u8 (x9.1.Sum.e3.toNat : Int), .int .u8 (x9.1.Sum.e4.toNat : Int), .int .u8 (x9.1.Sum.e5.toNat : Int), .int .u8 (x9.1.Sum.e6.toNat : Int), .int .u8 (x9.1.Sum.e7.toNat : Int), .int .u8 (x9.1.Sum.e8.toNat : Int), .int .u8 (x9.1.Sum.e9.toNat : Int), .int .u8 (x9.1.Sum.e10.toNat : Int), .int .u8 (x9.1.Sum.e11.toNat : Int), .int .u8 (x9.1.Sum.e12.toNat : Int), .int .u8 (x9.1.Sum.e13.toNat : Int), .int .u8 (x9.1.Sum.e14.toNat : Int), .int .u8 (x9.1.Sum.e15.toNat : Int)]), (56, .agg #[.int .u64 (x10.1.Gen.toNat : Int), .int .u8 (x10.1.Sum.e0.toNat : Int), .int .u8 (x10.1.Sum.e1.toNat : Int), .int .u8 (x10.1.Sum.e2.toNat : Int), .int .u8 (x10.1.Sum.e3.toNat : Int), .int .u8 (x10.1.Sum.e4.toNat : Int), .int .u8 (x10.1.Sum.e5.toNat : Int), .int .u8 (x10.1.Sum.e6.toNat : Int), .int .u8 (x10.1.Sum.e7.toNat : Int), .int .u8 (x10.1.Sum.e8.toNat : Int), .int .u8 (x10.1.Sum.e9.toNat : Int), .int .u8 (x10.1.Sum.e10.toNat : Int), .int .u8 (x10.1.Sum.e11.toNat : Int), .int .u8 (x10.1.Sum.e12.toNat : Int), .int .u8 (x10.1.Sum.e13.toNat : Int), .int .u8 (x10.1.Sum.e14.toNat : Int), .int .u8 (x10.1.Sum.e15.toNat : Int)]), (57, .bool (decide ((x9.1.Gen.toNat : Int) = (x10.1.Gen.toNat : Int) ∧ ([x9.1.Sum.e0, x9.1.Sum.e1, x9.1.Sum.e2, x9.1.Sum.e3, x9.1.Sum.e4, x9.1.Sum.e5, x9.1.Sum.e6, x9.1.Sum.e7, x9.1.Sum.e8, x9.1.Sum.e9, x9.1.Sum.e10, x9.1.Sum.e11, x9.1.Sum.e12, x9.1.Sum.e13, x9.1.Sum.e14, x9.1.Sum.e15] : List UInt8) = ([x10.1.Sum.e0, x10.1.Sum.e1, x10.1.Sum.e2, x10.1.Sum.e3, x10.1.Sum.e4, x10.1.Sum.e5, x10.1.Sum.e6, x10.1.Sum.e7, x10.1.Sum.e8, x10.1.Sum.e9, x10.1.Sum.e10, x10.1.Sum.e11, x10.1.Sum.e12, x10.1.Sum.e13, x10.1.Sum.e14, x10.1.Sum.e15] : List UInt8)))), (63, .bool (decide (((x9.1.Gen.toNat : Int) = (x10.1.Gen.toNat : Int) ∧ ([x9.1.Sum.e0, x9.1.Sum.e1, x9.1.Sum.e2, x9.1.Sum.e3, x9.1.Sum.e4, x9.1.Sum.e5, x9.1.Sum.e6, x9.1.Sum.e7, x9.1.Sum.e8, x9.1.Sum.e9, x9.1.Sum.e10, x9.1.Sum.e11, x9.1.Sum.e12, x9.1.Sum.e13, x9.1.Sum.e14, x9.1.Sum.e15] : List UInt8) = ([x10.1.Sum.e0, x10.1.Sum.e1, x10.1.Sum.e2, x10.1.Sum.e3, x10.1.Sum.e4, x10.1.Sum.e5, x10.1.Sum.e6, x10.1.Sum.e7, x10.1.Sum.e8, x10.1.Sum.e9, x10.1.Sum.e10, x10.1.Sum.e11, x10.1.Sum.e12, x10.1.Sum.e13, x10.1.Sum.e14, x10.1.Sum.e15] : List UInt8)) ∧ ((decide (x9.2 = 0) == x10.2) = true)))), (64, .bool true), (65, .bool x10.2)] (fun _ => [(69, .bool (decide ((x10.2 = true) ∨ (x9.2 = 2))))]) (fun sl wL => sl.w = wL ∧ Step K0 s32 sl) ?_ ?_
        ·
         refine k_again 66 rfl ?_
         refine k_splitb (fun c36 => ?_) (fun c36 => ?_)
         ·
          refine k_no rfl rfl rfl rfl ?_
          refine k_no rfl rfl rfl rfl ?_
          refine k_yes rfl rfl ?_
          refine k_pickT rfl rfl rfl rfl ?_
          exact k_met ⟨s32, ⟨(congrArg (fun b => some (Value.bool b)) (by first | exact decide_eq_decide.2 ⟨Or.inr, fun h => h.resolve_left c36⟩ | exact (decide_eq_true (Or.inl c36)).symm | (simp [c36]; done) | exact dec_andT c36 | exact dec_andF c36 | exact dec_orF c36 | exact dec_orT c36 | (simp [c36, i64] <;> omega))), trivial⟩, ⟨rfl, rfl, rfl, rfl, rfl, rfl, rfl, rfl, rfl, rfl, rfl, trivial⟩, rfl, hE35⟩
         ·
          refine k_yes rfl rfl ?_
          refine k_move rfl rfl ?_
          refine k_yes rfl rfl ?_
          refine k_eql rfl rfl rfl ?_
          refine k_yes rfl rfl ?_
          refine k_pickF rfl rfl rfl rfl ?_
          exact k_met ⟨s32, ⟨(congrArg (fun b => some (Value.bool b)) (by first | exact decide_eq_decide.2 ⟨Or.inr, fun h => h.resolve_left c36⟩ | exact (decide_eq_true (Or.inl c36)).symm | (simp [c36]; done) | exact dec_andT c36 | exact dec_andF c36 | exact dec_orF c36 | exact dec_orT c36 | (simp [c36, i64] <;> omega))), trivial⟩, ⟨rfl, rfl, rfl, rfl, rfl, rfl, rfl, rfl, rfl, rfl, rfl, trivial⟩, rfl, hE35⟩
        ·
         rintro s37 wL ⟨rfl, hE35⟩
         have szs37 := hE35.size
         have hS := hS.trans0 hE35
         have hE33 := hE33.trans0 hE35
         refine k_pickT rfl rfl rfl rfl ?_
         exact k_met ⟨s37, ⟨(congrArg (fun b => some (Value.bool b)) (by first | exact decide_eq_decide.2 ⟨fun h => ⟨c34, h⟩, fun h => h.2⟩ | exact (decide_eq_false (fun h => c34 h.1)).symm | (simp [c34]; done) | exact dec_andT c34 | exact dec_andF c34 | exact dec_orF c34 | exact dec_orT c34 | (simp [c34, i64] <;> omega))), trivial⟩, ⟨rfl, rfl, rfl, rfl, rfl, rfl, rfl, rfl, rfl, trivial⟩, rfl, hE33⟩
       ·
        refine k_no rfl rfl rfl rfl ?_
        refine k_no rfl rfl rfl rfl ?_
        refine k_nou rfl rfl rfl rfl ?_
        refine k_nou rfl rfl rfl rfl ?_
        refine k_no rfl rfl rfl rfl ?_
        refine k_pickF rfl rfl rfl rfl ?_
        exact k_met ⟨s32, ⟨(congrArg (fun b => some (Value.bool b)) (by first | exact decide_eq_decide.2 ⟨fun h => ⟨c34, h⟩, fun h => h.2⟩ | exact (decide_eq_false (fun h => c34 h.1)).symm | (simp [c34]; done) | exact dec_andT c34 | exact dec_andF c34 | exact dec_orF c34 | exact dec_orT c34 | (simp [c34, i64] <;> omega))), trivial⟩, ⟨rfl, rfl, rfl, rfl, rfl, rfl, rfl, rfl, rfl, trivial⟩, rfl, hE33⟩
      ·
       rintro s38 wL ⟨rfl, hE33⟩
       have szs38 := hE33.size
       have hS := hS.trans0 hE33
       replace tb2 := tb2.up2 hE33
       replace tb0 := tb0.up2 hE33
       replace tb1 := tb1.up2 hE33
       refine k_move rfl rfl ?_
       obtain ⟨x11, hx11, h⟩ := ob h
       have hE39 := Step.r0 K0 s38
       refine k_cutl (X := St) 2 [(4, .bool false), (7, .pointer (some ⟨b25, 0, none⟩)), (8, .int .i64 x9.2), (9, .pointer (some ⟨b28, 0, none⟩)), (10, .bool x10.2), (55, .agg #[.int .u64 (x9.1.Gen.toNat : Int), .int .u8 (x9.1.Sum.e0.toNat : Int), .int .u8 (x9.1.Sum.e1.toNat : Int), .int .u8 (x9.1.Sum.e2.toNat : Int), .int .u8 (x9.1.Sum.e3.toNat : Int), .int .u8 (x9.1.Sum.e4.toNat : Int), .int .u8 (x9.1.Sum.e5.toNat : Int), .int .u8 (x9.1.Sum.e6.toNat : Int), .int .u8 (x9.1.Sum.e7.toNat : Int), .int .u8 (x9.1.Sum.e8.toNat : Int), .int .u8 (x9.1.Sum.e9.toNat : Int), .int .u8 (x9.1.Sum.e10.toNat : Int), .int .u8 (x9.1.Sum.e11.toNat : Int), .int .u8 (x9.1.Sum.e12.toNat : Int), .int .u8 (x9.1.Sum.e13.toNat : Int), .int .u8 (x9.1.Sum.e14.toNat : Int), .int .u8 (x9.1.Sum.e15.toNat : Int)]), (56, .agg #[.int .u64 (x10.1.Gen.toNat : Int), .int .u8 (x10.1.Sum.e0.toNat : Int), .int .u8 (x10.1.Sum.e1.toNat : Int), .int .u8 (x10.1.Sum.e2.toNat : Int), .int .u8 (x10.1.Sum.e3.toNat : Int), .int .u8 (x10.1.Sum.e4.toNat : Int), .int .u8 (x10.1.Sum.e5.toNat : Int), .int .u8 (x10.1.Sum.e6.toNat : Int), .int .u8 (x10.1.Sum.e7.toNat : Int), .int .u8 (x10.1.Sum.e8.toNat : Int), .int .u8 (x10.1.Sum.e9.toNat : Int), .int .u8 (x10.1.Sum.e10.toNat : Int), .int .u8 (x10.1.Sum.e11.toNat : Int), .int .u8 (x10.1.Sum.e12.toNat : Int), .int .u8 (x10.1.Sum.e13.toNat : Int), .int .u8 (x10.1.Sum.e14.toNat : Int), .int .u8 (x10.1.Sum.e15.toNat : Int)]), (57, .bool (decide ((x9.1.Gen.toNat : Int) = (x10.1.Gen.toNat : Int) ∧ ([x9.1.Sum.e0, x9.1.Sum.e1, x9.1.Sum.e2, x9.1.Sum.e3, x9.1.Sum.e4, x9.1.Sum.e5, x9.1.Sum.e6, x9.1.Sum.e7, x9.1.Sum.e8, x9.1.Sum.e9, x9.1.Sum.e10, x9.1.Sum.e11, x9.1.Sum.e12, x9.1.Sum.e13, x9.1.Sum.e14, x9.1.Sum.e15] : List UInt8) = ([x10.1.Sum.e0, x10.1.Sum.e1, x10.1.Sum.e2, x10.1.Sum.e3, x10.1.Sum.e4, x10.1.Sum.e5, x10.1.Sum.e6, x10.1.Sum.e7, x10.1.Sum.e8, x10.1.Sum.e9, x10.1.Sum.e10, x10.1.Sum.e11, x10.1.Sum.e12, x10.1.Sum.e13, x10.1.Sum.e14, x10.1.Sum.e15] : List UInt8)))), (63, .bool (decide (((x9.1.Gen.toNat : Int) = (x10.1.Gen.toNat : Int) ∧ ([x9.1.Sum.e0, x9.1.Sum.e1, x9.1.Sum.e2, x9.1.Sum.e3, x9.1.Sum.e4, x9.1.Sum.e5, x9.1.Sum.e6, x9.1.Sum.e7, x9.1.Sum.e8, x9.1.Sum.e9, x9.1.Sum.e10, x9.1.Sum.e11, x9.1.Sum.e12, x9.1.Sum.e13, x9.1.Sum.e14, x9.1.Sum.e15] : List UInt8) = ([x10.1.Sum.e0, x10.1.Sum.e1, x10.1.Sum.e2, x10.1.Sum.e3, x10.1.Sum.e4, x10.1.Sum.e5, x10.1.Sum.e6, x10.1.Sum.e7, x10.1.Sum.e8, x10.1.Sum.e9, x10.1.Sum.e10, x10.1.Sum.e11, x10.1.Sum.e12, x10.1.Sum.e13, x10.1.Sum.e14, x10.1.Sum.e15] : List UInt8)) ∧ ((decide (x9.2 = 0) == x10.2) = true)))), (70, .bool (decide ((((x9.1.Gen.toNat : Int) = (x10.1.Gen.toNat : Int) ∧ ([x9.1.Sum.e0, x9.1.Sum.e1, x9.1.Sum.e2, x9.1.Sum.e3, x9.1.Sum.e4, x9.1.Sum.e5, x9.1.Sum.e6, x9.1.Sum.e7, x9.1.Sum.e8, x9.1.Sum.e9, x9.1.Sum.e10, x9.1.Sum.e11, x9.1.Sum.e12, x9.1.Sum.e13, x9.1.Sum.e14, x9.1.Sum.e15] : List UInt8) = ([x10.1.Sum.e0, x10.1.Sum.e1, x10.1.Sum.e2, x10.1.Sum.e3, x10.1.Sum.e4, x10.1.Sum.e5, x10.1.Sum.e6, x10.1.Sum.e7, x10.1.Sum.e8, x10.1.Sum.e9, x10.1.Sum.e10, x10.1.Sum.e11, x10.1.Sum.e12, x10.1.Sum.e13, x10.1.Sum.e14, x10.1.Sum.e15] : List UInt8)) ∧ ((decide (x9.2 = 0) == x10.2) = true)) ∧ ((x10.2 = true) ∨ (x9.2 = 2)))))] (fun _ => [(73, .bool x11)]) (fun sl wL => sl.w = wL ∧ Step K0 s38 sl) ?_ ?_
       ·
        refine k_again 71 rfl ?_
        refine k_split (fun c40 => ?_) (fun c40 => ?_)
        ·
         have hx11 := itT hx11 c40
         refine k_yes rfl rfl ?_
         obtain ⟨x12, hx12, hx11⟩ := ob hx11
         refine k_call cal7 rfl (law06_awake_w  tb2 tb0 tb1 hx12) rfl ?_
         rintro s41 vr41 st41 rfl
         have szs41 := st41.size
         have hS := hS.trans0 st41
         have hE39 := hE39.trans0 st41
         refine k_pickT rfl rfl rfl rfl ?_
         exact k_met ⟨s41, ⟨(congrArg (fun b => some (Value.bool b)) (Option.some.inj hx11)), trivial⟩, ⟨rfl, rfl, rfl, rfl, rfl, rfl, rfl, rfl, rfl, rfl, trivial⟩, rfl, hE39⟩
        ·
         have hx11 := itF hx11 c40
         refine k_no rfl rfl rfl rfl ?_
         refine k_pickF rfl rfl rfl rfl ?_
         exact k_met ⟨s38, ⟨(congrArg (fun b => some (Value.bool b)) (Option.some.inj hx11)), trivial⟩, ⟨rfl, rfl, rfl, rfl, rfl, rfl, rfl, rfl, rfl, rfl, trivial⟩, rfl, hE39⟩
       ·
        rintro s42 wL ⟨rfl, hE39⟩
        have szs42 := hE39.size
        have hS := hS.trans0 hE39
        refine k_assign rfl rfl ?_
        refine k_nil ?_
        refine k_keep [(4, _)] ⟨rfl, trivial⟩ ?_
        refine k_ret ?_
        obtain rfl := Option.some.inj h
        refine ⟨_, rfl, Ret.mk hS ?_⟩
        exact rfl
end Go.Proofs
