import Derived.Test.YtdofbkomeadjgaaDoorW06DRevChain2
set_option linter.unusedSimpArgs false
set_option linter.unusedVariables false
namespace Go.Proofs
open Go.Fw
set_option maxHeartbeats 20000000 in
set_option maxRecDepth 100000 in
theorem law06_awake_w {s : St}  {r : Bool} (tb2 : Tab2 s) (tb0 : Tab0 s) (tb1 : Tab1 s) (h : law06_awake = some r) : Calls Tryd.prog 7 #[] s.w (Ret s K0 (fun s1 v => v = .bool r)) := by
 unfold law06_awake at h
 have hS := Step.r0 K0 s
 refine k_fn (rs := [0]) (args := []) Tryd.func7 rfl rfl rfl rfl ?_
 refine k_seq ?_
 refine k_region ?_
 refine k_assign rfl rfl ?_
 refine k_nil ?_
 refine k_seq ?_
 refine k_region ?_
 refine k_build plc29 zero29 rfl Parts.nil (by rfl) rfl ?_
 refine k_as (v := .agg #[.int .u64 0, .int .u8 0, .int .u8 0, .int .u8 0, .int .u8 0, .int .u8 0, .int .u8 0, .int .u8 0, .int .u8 0, .int .u8 0, .int .u8 0, .int .u8 0, .int .u8 0, .int .u8 0, .int .u8 0, .int .u8 0, .int .u8 0]) rfl ?_
 refine k_build plc34 zero34 rfl Parts.nil (by rfl) rfl ?_
 refine k_as (v := .agg #[.int .i64 0, .int .i64 0, S ([] : List UInt8), .slice none 0 0, .slice none 0 0]) rfl ?_
 obtain ⟨x1, hx1, h⟩ := ob h
 refine k_call cal11 rfl (rev_Make_w  (clsApiRev (⟨(0 : UInt64), (⟨(0 : UInt8), (0 : UInt8), (0 : UInt8), (0 : UInt8), (0 : UInt8), (0 : UInt8), (0 : UInt8), (0 : UInt8), (0 : UInt8), (0 : UInt8), (0 : UInt8), (0 : UInt8), (0 : UInt8), (0 : UInt8), (0 : UInt8), (0 : UInt8)⟩ : St27)⟩ : ApiRev)) (clsApiValue (⟨0, 0, ([] : List UInt8), [], []⟩ : ApiValue) (R.of_SL (.inl ⟨rfl, none, 0, rfl, fun _ => rfl⟩)) (R.of_SL (.inl ⟨rfl, none, 0, rfl, fun _ => rfl⟩))) tb2 hx1) rfl ?_
 rintro s1 vr1 st1 ⟨cs1_0, rfl, h1_0⟩
 have szs1 := st1.size
 have hS := hS.trans0 st1
 replace tb2 := tb2.up2 st1
 replace tb0 := tb0.up2 st1
 replace tb1 := tb1.up2 st1
 obtain rfl := opnApiRev h1_0
 refine k_move rfl rfl ?_
 refine k_extract rfl rfl rfl ?_
 refine k_extract rfl rfl rfl ?_
 refine k_alloc zero29 rfl ?_
 intro s2 b2 st2 h2 ge2
 have szs2 := st2.size
 have hS := hS.trans0 st2
 replace tb2 := tb2.up2 st2
 replace tb0 := tb0.up2 st2
 replace tb1 := tb1.up2 st2
 have lt2 := h2.lt
 refine k_store_c (cs' := [.int .u64 (x1.1.Gen.toNat : Int), .int .u8 (x1.1.Sum.e0.toNat : Int), .int .u8 (x1.1.Sum.e1.toNat : Int), .int .u8 (x1.1.Sum.e2.toNat : Int), .int .u8 (x1.1.Sum.e3.toNat : Int), .int .u8 (x1.1.Sum.e4.toNat : Int), .int .u8 (x1.1.Sum.e5.toNat : Int), .int .u8 (x1.1.Sum.e6.toNat : Int), .int .u8 (x1.1.Sum.e7.toNat : Int), .int .u8 (x1.1.Sum.e8.toNat : Int), .int .u8 (x1.1.Sum.e9.toNat : Int), .int .u8 (x1.1.Sum.e10.toNat : Int), .int .u8 (x1.1.Sum.e11.toNat : Int), .int .u8 (x1.1.Sum.e12.toNat : Int), .int .u8 (x1.1.Sum.e13.toNat : Int), .int .u8 (x1.1.Sum.e14.toNat : Int), .int .u8 (x1.1.Sum.e15.toNat : Int)]) size29 rfl rfl h2 (by first | (simp; done) | omega | (dsimp only; omega)) (CellsOf.lit rfl rfl) rfl (by first | rfl | (simp; done) | (simp; omega)) rfl ?_
 intro s3 st3 h2
 have szs3 := st3.size
 have hS := hS.c0 st3
 replace tb2 := tb2.up2 st3
 replace tb0 := tb0.up2 st3
 replace tb1 := tb1.up2 st3
 refine k_assign rfl rfl ?_
 refine k_nil ?_
 refine k_keep [(0, _), (1, _), (2, _)] ⟨rfl, rfl, rfl, trivial⟩ ?_
 refine k_seq ?_
 refine k_region ?_
 refine k_load_blka (cs := [.int .u64 (x1.1.Gen.toNat : Int), .int .u8 (x1.1.Sum.e0.toNat : Int), .int .u8 (x1.1.Sum.e1.toNat : Int), .int .u8 (x1.1.Sum.e2.toNat : Int), .int .u8 (x1.1.Sum.e3.toNat : Int), .int .u8 (x1.1.Sum.e4.toNat : Int), .int .u8 (x1.1.Sum.e5.toNat : Int), .int .u8 (x1.1.Sum.e6.toNat : Int), .int .u8 (x1.1.Sum.e7.toNat : Int), .int .u8 (x1.1.Sum.e8.toNat : Int), .int .u8 (x1.1.Sum.e9.toNat : Int), .int .u8 (x1.1.Sum.e10.toNat : Int), .int .u8 (x1.1.Sum.e11.toNat : Int), .int .u8 (x1.1.Sum.e12.toNat : Int), .int .u8 (x1.1.Sum.e13.toNat : Int), .int .u8 (x1.1.Sum.e14.toNat : Int), .int .u8 (x1.1.Sum.e15.toNat : Int)]) agg29 rfl h2 rfl ?_
 refine k_build plc34 zero34 rfl Parts.nil (by rfl) rfl ?_
 refine k_as (v := .agg #[.int .i64 0, .int .i64 0, S ([] : List UInt8), .slice none 0 0, .slice none 0 0]) rfl ?_
 obtain ⟨x2, hx2, h⟩ := ob h
 refine k_call cal11 rfl (rev_Make_w  (clsApiRev x1.1) (clsApiValue (⟨0, 0, ([] : List UInt8), [], []⟩ : ApiValue) (R.of_SL (.inl ⟨rfl, none, 0, rfl, fun _ => rfl⟩)) (R.of_SL (.inl ⟨rfl, none, 0, rfl, fun _ => rfl⟩))) tb2 hx2) rfl ?_
 rintro s4 vr4 st4 ⟨cs4_0, rfl, h4_0⟩
 have szs4 := st4.size
 have hS := hS.trans0 st4
 replace h2 := h2.up2 st4
 replace tb2 := tb2.up2 st4
 replace tb0 := tb0.up2 st4
 replace tb1 := tb1.up2 st4
 obtain rfl := opnApiRev h4_0
 refine k_move rfl rfl ?_
 refine k_extract rfl rfl rfl ?_
 refine k_extract rfl rfl rfl ?_
 refine k_alloc zero29 rfl ?_
 intro s5 b5 st5 h5 ge5
 have szs5 := st5.size
 have hS := hS.trans0 st5
 replace h2 := h2.up2 st5
 replace tb2 := tb2.up2 st5
 replace tb0 := tb0.up2 st5
 replace tb1 := tb1.up2 st5
 have lt5 := h5.lt
 refine k_store_c (cs' := [.int .u64 (x2.1.Gen.toNat : Int), .int .u8 (x2.1.Sum.e0.toNat : Int), .int .u8 (x2.1.Sum.e1.toNat : Int), .int .u8 (x2.1.Sum.e2.toNat : Int), .int .u8 (x2.1.Sum.e3.toNat : Int), .int .u8 (x2.1.Sum.e4.toNat : Int), .int .u8 (x2.1.Sum.e5.toNat : Int), .int .u8 (x2.1.Sum.e6.toNat : Int), .int .u8 (x2.1.Sum.e7.toNat : Int), .int .u8 (x2.1.Sum.e8.toNat : Int), .int .u8 (x2.1.Sum.e9.toNat : Int), .int .u8 (x2.1.Sum.e10.toNat : Int), .int .u8 (x2.1.Sum.e11.toNat : Int), .int .u8 (x2.1.Sum.e12.toNat : Int), .int .u8 (x2.1.Sum.e13.toNat : Int), .int .u8 (x2.1.Sum.e14.toNat : Int), .int .u8 (x2.1.Sum.e15.toNat : Int)]) size29 rfl rfl h5 (by first | (simp; done) | omega | (dsimp only; omega)) (CellsOf.lit rfl rfl) rfl (by first | rfl | (simp; done) | (simp; omega)) rfl ?_
 intro s6 st6 h5
 have szs6 := st6.size
 have hS := hS.c0 st6
 replace h2 := h2.up2 st6
 replace tb2 := tb2.up2 st6
 replace tb0 := tb0.up2 st6
 replace tb1 := tb1.up2 st6
 refine k_assign rfl rfl ?_
 refine k_nil ?_
 refine k_keep [(0, _), (1, _), (2, _), (3, _), (4, _)] ⟨rfl, rfl, rfl, rfl, rfl, trivial⟩ ?_
 refine k_seq ?_
 refine k_region ?_
 obtain ⟨x3, hx3, h⟩ := ob h
 refine k_call cal17 rfl (rev_Parse_w  tb0 tb1 tb2 hx3) rfl ?_
 rintro s7 vr7 st7 ⟨cs7_0, rfl, h7_0⟩
 have szs7 := st7.size
 have hS := hS.trans0 st7
 replace h2 := h2.up2 st7
 replace h5 := h5.up2 st7
 replace tb2 := tb2.up2 st7
 replace tb0 := tb0.up2 st7
 replace tb1 := tb1.up2 st7
 obtain rfl := opnApiRev h7_0
 refine k_move rfl rfl ?_
 refine k_extract rfl rfl rfl ?_
 refine k_extract rfl rfl rfl ?_
 refine k_alloc zero29 rfl ?_
 intro s8 b8 st8 h8 ge8
 have szs8 := st8.size
 have hS := hS.trans0 st8
 replace h2 := h2.up2 st8
 replace h5 := h5.up2 st8
 replace tb2 := tb2.up2 st8
 replace tb0 := tb0.up2 st8
 replace tb1 := tb1.up2 st8
 have lt8 := h8.lt
 refine k_store_c (cs' := [.int .u64 (x3.1.Gen.toNat : Int), .int .u8 (x3.1.Sum.e0.toNat : Int), .int .u8 (x3.1.Sum.e1.toNat : Int), .int .u8 (x3.1.Sum.e2.toNat : Int), .int .u8 (x3.1.Sum.e3.toNat : Int), .int .u8 (x3.1.Sum.e4.toNat : Int), .int .u8 (x3.1.Sum.e5.toNat : Int), .int .u8 (x3.1.Sum.e6.toNat : Int), .int .u8 (x3.1.Sum.e7.toNat : Int), .int .u8 (x3.1.Sum.e8.toNat : Int), .int .u8 (x3.1.Sum.e9.toNat : Int), .int .u8 (x3.1.Sum.e10.toNat : Int), .int .u8 (x3.1.Sum.e11.toNat : Int), .int .u8 (x3.1.Sum.e12.toNat : Int), .int .u8 (x3.1.Sum.e13.toNat : Int), .int .u8 (x3.1.Sum.e14.toNat : Int), .int .u8 (x3.1.Sum.e15.toNat : Int)]) size29 rfl rfl h8 (by first | (simp; done) | omega | (dsimp only; omega)) (CellsOf.lit rfl rfl) rfl (by first | rfl | (simp; done) | (simp; omega)) rfl ?_
 intro s9 st9 h8
 have szs9 := st9.size
 have hS := hS.c0 st9
 replace h2 := h2.up2 st9
 replace h5 := h5.up2 st9
 replace tb2 := tb2.up2 st9
 replace tb0 := tb0.up2 st9
 replace tb1 := tb1.up2 st9
 refine k_assign rfl rfl ?_
 refine k_nil ?_
 refine k_keep [(0, _), (1, _), (2, _), (3, _), (4, _), (5, _), (6, _)] ⟨rfl, rfl, rfl, rfl, rfl, rfl, rfl, trivial⟩ ?_
 refine k_seq ?_
 refine k_region ?_
 obtain ⟨x4, hx4, h⟩ := ob h
 refine k_call cal17 rfl (rev_Parse_w  tb0 tb1 tb2 hx4) rfl ?_
 rintro s10 vr10 st10 ⟨cs10_0, rfl, h10_0⟩
 have szs10 := st10.size
 have hS := hS.trans0 st10
 replace h2 := h2.up2 st10
 replace h5 := h5.up2 st10
 replace h8 := h8.up2 st10
 obtain rfl := opnApiRev h10_0
 refine k_move rfl rfl ?_
 refine k_extract rfl rfl rfl ?_
 refine k_extract rfl rfl rfl ?_
 refine k_alloc zero29 rfl ?_
 intro s11 b11 st11 h11 ge11
 have szs11 := st11.size
 have hS := hS.trans0 st11
 replace h2 := h2.up2 st11
 replace h5 := h5.up2 st11
 replace h8 := h8.up2 st11
 have lt11 := h11.lt
 refine k_store_c (cs' := [.int .u64 (x4.1.Gen.toNat : Int), .int .u8 (x4.1.Sum.e0.toNat : Int), .int .u8 (x4.1.Sum.e1.toNat : Int), .int .u8 (x4.1.Sum.e2.toNat : Int), .int .u8 (x4.1.Sum.e3.toNat : Int), .int .u8 (x4.1.Sum.e4.toNat : Int), .int .u8 (x4.1.Sum.e5.toNat : Int), .int .u8 (x4.1.Sum.e6.toNat : Int), .int .u8 (x4.1.Sum.e7.toNat : Int), .int .u8 (x4.1.Sum.e8.toNat : Int), .int .u8 (x4.1.Sum.e9.toNat : Int), .int .u8 (x4.1.Sum.e10.toNat : Int), .int .u8 (x4.1.Sum.e11.toNat : Int), .int .u8 (x4.1.Sum.e12.toNat : Int), .int .u8 (x4.1.Sum.e13.toNat : Int), .int .u8 (x4.1.Sum.e14.toNat : Int), .int .u8 (x4.1.Sum.e15.toNat : Int)]) size29 rfl rfl h11 (by first | (simp; done) | omega | (dsimp only; omega)) (CellsOf.lit rfl rfl) rfl (by first | rfl | (simp; done) | (simp; omega)) rfl ?_
 intro s12 st12 h11
 have szs12 := st12.size
 have hS := hS.c0 st12
 replace h2 := h2.up2 st12
 replace h5 := h5.up2 st12
 replace h8 := h8.up2 st12
 refine k_assign rfl rfl ?_
 refine k_nil ?_
 refine k_keep [(0, _), (1, _), (2, _), (3, _), (4, _), (5, _), (6, _), (8, _)] ⟨rfl, rfl, rfl, rfl, rfl, rfl, rfl, rfl, trivial⟩ ?_
 refine k_seq ?_
 refine k_region ?_
 refine k_move rfl rfl ?_
 refine k_eql rfl rfl rfl ?_
 refine k_move rfl rfl ?_
 have hE13 := Step.r0 K0 s12
 refine k_cutl (X := St) 3 [(0, .bool false), (1, .pointer (some ⟨b2, 0, none⟩)), (2, .int .i64 x1.2), (3, .pointer (some ⟨b5, 0, none⟩)), (4, .int .i64 x2.2), (5, .pointer (some ⟨b8, 0, none⟩)), (6, .int .i64 x3.2), (8, .int .i64 x4.2), (29, .int .i64 x1.2), (30, .bool (decide (x1.2 = 0)))] (fun _ => [(34, .bool (decide ((x1.2 = 0) ∧ (x2.2 = 0))))]) (fun sl wL => sl.w = wL ∧ Step K0 s12 sl) ?_ ?_
 ·
  refine k_again 31 rfl ?_
  refine k_split (fun c14 => ?_) (fun c14 => ?_)
  ·
   refine k_yes rfl rfl ?_
   refine k_move rfl rfl ?_
   refine k_yes rfl rfl ?_
   refine k_eql rfl rfl rfl ?_
   refine k_pickT rfl rfl rfl rfl ?_
   exact k_met ⟨s12, ⟨(congrArg (fun b => some (Value.bool b)) (by first | exact decide_eq_decide.2 ⟨fun h => ⟨c14, h⟩, fun h => h.2⟩ | exact (decide_eq_false (fun h => c14 h.1)).symm | (simp [c14]; done) | exact dec_andT c14 | exact dec_andF c14 | exact dec_orF c14 | exact dec_orT c14 | (simp [c14, i64] <;> omega))), trivial⟩, ⟨rfl, rfl, rfl, rfl, rfl, rfl, rfl, rfl, rfl, rfl, trivial⟩, rfl, hE13⟩
  ·
   refine k_no rfl rfl rfl rfl ?_
   refine k_no rfl rfl rfl rfl ?_
   refine k_pickF rfl rfl rfl rfl ?_
   exact k_met ⟨s12, ⟨(congrArg (fun b => some (Value.bool b)) (by first | exact decide_eq_decide.2 ⟨fun h => ⟨c14, h⟩, fun h => h.2⟩ | exact (decide_eq_false (fun h => c14 h.1)).symm | (simp [c14]; done) | exact dec_andT c14 | exact dec_andF c14 | exact dec_orF c14 | exact dec_orT c14 | (simp [c14, i64] <;> omega))), trivial⟩, ⟨rfl, rfl, rfl, rfl, rfl, rfl, rfl, rfl, rfl, rfl, trivial⟩, rfl, hE13⟩
 ·
  rintro s15 wL ⟨rfl, hE13⟩
  have szs15 := hE13.size
  have hS := hS.trans0 hE13
  replace h2 := h2.up2 hE13
  replace h5 := h5.up2 hE13
  replace h8 := h8.up2 hE13
  refine k_move rfl rfl ?_
  have hE16 := Step.r0 K0 s15
  refine k_cutl (X := St) 4 [(0, .bool false), (1, .pointer (some ⟨b2, 0, none⟩)), (2, .int .i64 x1.2), (3, .pointer (some ⟨b5, 0, none⟩)), (4, .int .i64 x2.2), (5, .pointer (some ⟨b8, 0, none⟩)), (6, .int .i64 x3.2), (8, .int .i64 x4.2), (29, .int .i64 x1.2), (30, .bool (decide (x1.2 = 0))), (34, .bool (decide ((x1.2 = 0) ∧ (x2.2 = 0))))] (fun _ => [(39, .bool (decide (((x1.2 = 0) ∧ (x2.2 = 0)) ∧ ((x1.1.Gen.toNat : Int) = 1))))]) (fun sl wL => sl.w = wL ∧ Step K0 s15 sl) ?_ ?_
  ·
   refine k_again 35 rfl ?_
   refine k_split (fun c17 => ?_) (fun c17 => ?_)
   ·
    refine k_yes rfl rfl ?_
    refine k_field_addr fld29_0 rfl rfl ?_
    refine k_yes rfl rfl ?_
    refine k_load_blk one26 rfl h2 rfl rfl ?_
    refine k_yes rfl rfl ?_
    refine k_eql rfl rfl rfl ?_
    refine k_pickT rfl rfl rfl rfl ?_
    exact k_met ⟨s15, ⟨(congrArg (fun b => some (Value.bool b)) (by first | exact decide_eq_decide.2 ⟨fun h => ⟨c17, h⟩, fun h => h.2⟩ | exact (decide_eq_false (fun h => c17 h.1)).symm | (simp [c17]; done) | exact dec_andT c17 | exact dec_andF c17 | exact dec_orF c17 | exact dec_orT c17 | (simp [c17, i64] <;> omega))), trivial⟩, ⟨rfl, rfl, rfl, rfl, rfl, rfl, rfl, rfl, rfl, rfl, rfl, trivial⟩, rfl, hE16⟩
   ·
    refine k_no rfl rfl rfl rfl ?_
    refine k_no rfl rfl rfl rfl ?_
    refine k_no rfl rfl rfl rfl ?_
    refine k_pickF rfl rfl rfl rfl ?_
    exact k_met ⟨s15, ⟨(congrArg (fun b => some (Value.bool b)) (by first | exact decide_eq_decide.2 ⟨fun h => ⟨c17, h⟩, fun h => h.2⟩ | exact (decide_eq_false (fun h => c17 h.1)).symm | (simp [c17]; done) | exact dec_andT c17 | exact dec_andF c17 | exact dec_orF c17 | exact dec_orT c17 | (simp [c17, i64] <;> omega))), trivial⟩, ⟨rfl, rfl, rfl, rfl, rfl, rfl, rfl, rfl, rfl, rfl, rfl, trivial⟩, rfl, hE16⟩
  ·
   rintro s18 wL ⟨rfl, hE16⟩
   have szs18 := hE16.size
   have hS := hS.trans0 hE16
   replace h2 := h2.up2 hE16
   replace h5 := h5.up2 hE16
   replace h8 := h8.up2 hE16
   refine k_move rfl rfl ?_
   have hE19 := Step.r0 K0 s18
   refine k_cutl (X := St) 4 [(0, .bool false), (1, .pointer (some ⟨b2, 0, none⟩)), (2, .int .i64 x1.2), (3, .pointer (some ⟨b5, 0, none⟩)), (4, .int .i64 x2.2), (5, .pointer (some ⟨b8, 0, none⟩)), (6, .int .i64 x3.2), (8, .int .i64 x4.2), (29, .int .i64 x1.2), (30, .bool (decide (x1.2 = 0))), (34, .bool (decide ((x1.2 = 0) ∧ (x2.2 = 0)))), (39, .bool (decide (((x1.2 = 0) ∧ (x2.2 = 0)) ∧ ((x1.1.Gen.toNat : Int) = 1))))] (fun _ => [(44, .bool (decide ((((x1.2 = 0) ∧ (x2.2 = 0)) ∧ ((x1.1.Gen.toNat : Int) = 1)) ∧ ((x2.1.Gen.toNat : Int) = 2))))]) (fun sl wL => sl.w = wL ∧ Step K0 s18 sl) ?_ ?_
   ·
    refine k_again 40 rfl ?_
    refine k_split (fun c20 => ?_) (fun c20 => ?_)
    ·
     refine k_yes rfl rfl ?_
     refine k_field_addr fld29_0 rfl rfl ?_
     refine k_yes rfl rfl ?_
     refine k_load_blk one26 rfl h5 rfl rfl ?_
     refine k_yes rfl rfl ?_
     refine k_eql rfl rfl rfl ?_
     refine k_pickT rfl rfl rfl rfl ?_
     exact k_met ⟨s18, ⟨(congrArg (fun b => some (Value.bool b)) (by first | exact decide_eq_decide.2 ⟨fun h => ⟨c20, h⟩, fun h => h.2⟩ | exact (decide_eq_false (fun h => c20 h.1)).symm | (simp [c20]; done) | exact dec_andT c20 | exact dec_andF c20 | exact dec_orF c20 | exact dec_orT c20 | (simp [c20, i64] <;> omega))), trivial⟩, ⟨rfl, rfl, rfl, rfl, rfl, rfl, rfl, rfl, rfl, rfl, rfl, rfl, trivial⟩, rfl, hE19⟩
    ·
     refine k_no rfl rfl rfl rfl ?_
     refine k_no rfl rfl rfl rfl ?_
     refine k_no rfl rfl rfl rfl ?_
     refine k_pickF rfl rfl rfl rfl ?_
     exact k_met ⟨s18, ⟨(congrArg (fun b => some (Value.bool b)) (by first | exact decide_eq_decide.2 ⟨fun h => ⟨c20, h⟩, fun h => h.2⟩ | exact (decide_eq_false (fun h => c20 h.1)).symm | (simp [c20]; done) | exact dec_andT c20 | exact dec_andF c20 | exact dec_orF c20 | exact dec_orT c20 | (simp [c20, i64] <;> omega))), trivial⟩, ⟨rfl, rfl, rfl, rfl, rfl, rfl, rfl, rfl, rfl, rfl, rfl, rfl, trivial⟩, rfl, hE19⟩
   ·
    rintro s21 wL ⟨rfl, hE19⟩
    have szs21 := hE19.size
    have hS := hS.trans0 hE19
    replace h2 := h2.up2 hE19
    replace h5 := h5.up2 hE19
    replace h8 := h8.up2 hE19
    refine k_move rfl rfl ?_
    have hE22 := Step.r0 K0 s21
    refine k_cutl (X := St) 3 [(0, .bool false), (1, .pointer (some ⟨b2, 0, none⟩)), (2, .int .i64 x1.2), (3, .pointer (some ⟨b5, 0, none⟩)), (4, .int .i64 x2.2), (5, .pointer (some ⟨b8, 0, none⟩)), (6, .int .i64 x3.2), (8, .int .i64 x4.2), (29, .int .i64 x1.2), (30, .bool (decide (x1.2 = 0))), (34, .bool (decide ((x1.2 = 0) ∧ (x2.2 = 0)))), (39, .bool (decide (((x1.2 = 0) ∧ (x2.2 = 0)) ∧ ((x1.1.Gen.toNat : Int) = 1)))), (44, .bool (decide ((((x1.2 = 0) ∧ (x2.2 = 0)) ∧ ((x1.1.Gen.toNat : Int) = 1)) ∧ ((x2.1.Gen.toNat : Int) = 2))))] (fun _ => [(48, .bool (decide (((((x1.2 = 0) ∧ (x2.2 = 0)) ∧ ((x1.1.Gen.toNat : Int) = 1)) ∧ ((x2.1.Gen.toNat : Int) = 2)) ∧ (x3.2 = 0))))]) (fun sl wL => sl.w = wL ∧ Step K0 s21 sl) ?_ ?_
    ·
     refine k_again 45 rfl ?_
     refine k_split (fun c23 => ?_) (fun c23 => ?_)
     ·
      refine k_yes rfl rfl ?_
      refine k_move rfl rfl ?_
      refine k_yes rfl rfl ?_
      refine k_eql rfl rfl rfl ?_
      refine k_pickT rfl rfl rfl rfl ?_
      exact k_met ⟨s21, ⟨(congrArg (fun b => some (Value.bool b)) (by first | exact decide_eq_decide.2 ⟨fun h => ⟨c23, h⟩, fun h => h.2⟩ | exact (decide_eq_false (fun h => c23 h.1)).symm | (simp [c23]; done) | exact dec_andT c23 | exact dec_andF c23 | exact dec_orF c23 | exact dec_orT c23 | (simp [c23, i64] <;> omega))), trivial⟩, ⟨rfl, rfl, rfl, rfl, rfl, rfl, rfl, rfl, rfl, rfl, rfl, rfl, rfl, trivial⟩, rfl, hE22⟩
     ·
      refine k_no rfl rfl rfl rfl ?_
      refine k_no rfl rfl rfl rfl ?_
      refine k_pickF rfl rfl rfl rfl ?_
      exact k_met ⟨s21, ⟨(congrArg (fun b => some (Value.bool b)) (by first | exact decide_eq_decide.2 ⟨fun h => ⟨c23, h⟩, fun h => h.2⟩ | exact (decide_eq_false (fun h => c23 h.1)).symm | (simp [c23]; done) | exact dec_andT c23 | exact dec_andF c23 | exact dec_orF c23 | exact dec_orT c23 | (simp [c23, i64] <;> omega))), trivial⟩, ⟨rfl, rfl, rfl, rfl, rfl, rfl, rfl, rfl, rfl, rfl, rfl, rfl, rfl, trivial⟩, rfl, hE22⟩
    ·
     rintro s24 wL ⟨rfl, hE22⟩
     have szs24 := hE22.size
     have hS := hS.trans0 hE22
     replace h2 := h2.up2 hE22
     replace h5 := h5.up2 hE22
     replace h8 := h8.up2 hE22
     refine k_move rfl rfl ?_
     have hE25 := Step.r0 K0 s24
     refine k_cutl (X := St) 4 [(0, .bool false), (1, .pointer (some ⟨b2, 0, none⟩)), (2, .int .i64 x1.2), (3, .pointer (some ⟨b5, 0, none⟩)), (4, .int .i64 x2.2), (5, .pointer (some ⟨b8, 0, none⟩)), (6, .int .i64 x3.2), (8, .int .i64 x4.2), (29, .int .i64 x1.2), (30, .bool (decide (x1.2 = 0))), (34, .bool (decide ((x1.2 = 0) ∧ (x2.2 = 0)))), (39, .bool (decide (((x1.2 = 0) ∧ (x2.2 = 0)) ∧ ((x1.1.Gen.toNat : Int) = 1)))), (44, .bool (decide ((((x1.2 = 0) ∧ (x2.2 = 0)) ∧ ((x1.1.Gen.toNat : Int) = 1)) ∧ ((x2.1.Gen.toNat : Int) = 2)))), (48, .bool (decide (((((x1.2 = 0) ∧ (x2.2 = 0)) ∧ ((x1.1.Gen.toNat : Int) = 1)) ∧ ((x2.1.Gen.toNat : Int) = 2)) ∧ (x3.2 = 0))))] (fun _ => [(53, .bool (decide ((((((x1.2 = 0) ∧ (x2.2 = 0)) ∧ ((x1.1.Gen.toNat : Int) = 1)) ∧ ((x2.1.Gen.toNat : Int) = 2)) ∧ (x3.2 = 0)) ∧ ((x3.1.Gen.toNat : Int) = 2 ∧ ([x3.1.Sum.e0, x3.1.Sum.e1, x3.1.Sum.e2, x3.1.Sum.e3, x3.1.Sum.e4, x3.1.Sum.e5, x3.1.Sum.e6, x3.1.Sum.e7, x3.1.Sum.e8, x3.1.Sum.e9, x3.1.Sum.e10, x3.1.Sum.e11, x3.1.Sum.e12, x3.1.Sum.e13, x3.1.Sum.e14, x3.1.Sum.e15] : List UInt8) = ([(0 : UInt8), (0 : UInt8), (0 : UInt8), (0 : UInt8), (0 : UInt8), (0 : UInt8), (0 : UInt8), (0 : UInt8), (0 : UInt8), (0 : UInt8), (0 : UInt8), (0 : UInt8), (0 : UInt8), (0 : UInt8), (0 : UInt8), (0 : UInt8)] : List UInt8)))))]) (fun sl wL => sl.w = wL ∧ Step K0 s24 sl) ?_ ?_
     ·
      refine k_again 49 rfl ?_
      refine k_split (fun c26 => ?_) (fun c26 => ?_)
      ·
       refine k_yes rfl rfl ?_
       refine k_load_blka (cs := [.int .u64 (x3.1.Gen.toNat : Int), .int .u8 (x3.1.Sum.e0.toNat : Int), .int .u8 (x3.1.Sum.e1.toNat : Int), .int .u8 (x3.1.Sum.e2.toNat : Int), .int .u8 (x3.1.Sum.e3.toNat : Int), .int .u8 (x3.1.Sum.e4.toNat : Int), .int .u8 (x3.1.Sum.e5.toNat : Int), .int .u8 (x3.1.Sum.e6.toNat : Int), .int .u8 (x3.1.Sum.e7.toNat : Int), .int .u8 (x3.1.Sum.e8.toNat : Int), .int .u8 (x3.1.Sum.e9.toNat : Int), .int .u8 (x3.1.Sum.e10.toNat : Int), .int .u8 (x3.1.Sum.e11.toNat : Int), .int .u8 (x3.1.Sum.e12.toNat : Int), .int .u8 (x3.1.Sum.e13.toNat : Int), .int .u8 (x3.1.Sum.e14.toNat : Int), .int .u8 (x3.1.Sum.e15.toNat : Int)]) agg29 rfl h8 rfl ?_
       refine k_yes rfl rfl ?_
       refine k_build plc29 zero29 rfl (Parts.cons (CellsOf.lit rfl rfl).1 Parts.nil) (by rfl) rfl ?_
       refine k_as (v := .agg #[.int .u64 2, .int .u8 0, .int .u8 0, .int .u8 0, .int .u8 0, .int .u8 0, .int .u8 0, .int .u8 0, .int .u8 0, .int .u8 0, .int .u8 0, .int .u8 0, .int .u8 0, .int .u8 0, .int .u8 0, .int .u8 0, .int .u8 0]) rfl ?_
       refine k_yes rfl rfl ?_
       refine k_eql_fb (a := (x3.1.Gen.toNat : Int)) (b := 2) (xs := ([x3.1.Sum.e0, x3.1.Sum.e1, x3.1.Sum.e2, x3.1.Sum.e3, x3.1.Sum.e4, x3.1.Sum.e5, x3.1.Sum.e6, x3.1.Sum.e7, x3.1.Sum.e8, x3.1.Sum.e9, x3.1.Sum.e10, x3.1.Sum.e11, x3.1.Sum.e12, x3.1.Sum.e13, x3.1.Sum.e14, x3.1.Sum.e15] : List UInt8)) (ys := ([(0 : UInt8), (0 : UInt8), (0 : UInt8), (0 : UInt8), (0 : UInt8), (0 : UInt8), (0 : UInt8), (0 : UInt8), (0 : UInt8), (0 : UInt8), (0 : UInt8), (0 : UInt8), (0 : UInt8), (0 : UInt8), (0 : UInt8), (0 : UInt8)] : List UInt8)) flatB29 rfl rfl rfl rfl rfl ?_
       refine k_pickT rfl rfl rfl rfl ?_
       exact k_met ⟨s24, ⟨(congrArg (fun b => some (Value.bool b)) (by first | exact decide_eq_decide.2 ⟨fun h => ⟨c26, h⟩, fun h => h.2⟩ | exact (decide_eq_false (fun h => c26 h.1)).symm | (simp [c26]; done) | exact dec_andT c26 | exact dec_andF c26 | exact dec_orF c26 | exact dec_orT c26 | (simp [c26, i64] <;> omega))), trivial⟩, ⟨rfl, rfl, rfl, rfl, rfl, rfl, rfl, rfl, rfl, rfl, rfl, rfl, rfl, rfl, trivial⟩, rfl, hE25⟩
      ·
       refine k_no rfl rfl rfl rfl ?_
       refine k_no rfl rfl rfl rfl ?_
       refine k_no rfl rfl rfl rfl ?_
       refine k_pickF rfl rfl rfl rfl ?_
       exact k_met ⟨s24, ⟨(congrArg (fun b => some (Value.bool b)) (by first | exact decide_eq_decide.2 ⟨fun h => ⟨c26, h⟩, fun h => h.2⟩ | exact (decide_eq_false (fun h => c26 h.1)).symm | (simp [c26]; done) | exact dec_andT c26 | exact dec_andF c26 | exact dec_orF c26 | exact dec_orT c26 | (simp [c26, i64] <;> omega))), trivial⟩, ⟨rfl, rfl, rfl, rfl, rfl, rfl, rfl, rfl, rfl, rfl, rfl, rfl, rfl, rfl, trivial⟩, rfl, hE25⟩
     ·
      rintro s27 wL ⟨rfl, hE25⟩
      have szs27 := hE25.size
      have hS := hS.trans0 hE25
      replace h2 := h2.up2 hE25
      replace h5 := h5.up2 hE25
      refine k_move rfl rfl ?_
      have hE28 := Step.r0 K0 s27
      refine k_cutl (X := St) 3 [(0, .bool false), (1, .pointer (some ⟨b2, 0, none⟩)), (2, .int .i64 x1.2), (3, .pointer (some ⟨b5, 0, none⟩)), (4, .int .i64 x2.2), (5, .pointer (some ⟨b8, 0, none⟩)), (6, .int .i64 x3.2), (8, .int .i64 x4.2), (29, .int .i64 x1.2), (30, .bool (decide (x1.2 = 0))), (34, .bool (decide ((x1.2 = 0) ∧ (x2.2 = 0)))), (39, .bool (decide (((x1.2 = 0) ∧ (x2.2 = 0)) ∧ ((x1.1.Gen.toNat : Int) = 1)))), (44, .bool (decide ((((x1.2 = 0) ∧ (x2.2 = 0)) ∧ ((x1.1.Gen.toNat : Int) = 1)) ∧ ((x2.1.Gen.toNat : Int) = 2)))), (48, .bool (decide (((((x1.2 = 0) ∧ (x2.2 = 0)) ∧ ((x1.1.Gen.toNat : Int) = 1)) ∧ ((x2.1.Gen.toNat : Int) = 2)) ∧ (x3.2 = 0)))), (53, .bool (decide ((((((x1.2 = 0) ∧ (x2.2 = 0)) ∧ ((x1.1.Gen.toNat : Int) = 1)) ∧ ((x2.1.Gen.toNat : Int) = 2)) ∧ (x3.2 = 0)) ∧ ((x3.1.Gen.toNat : Int) = 2 ∧ ([x3.1.Sum.e0, x3.1.Sum.e1, x3.1.Sum.e2, x3.1.Sum.e3, x3.1.Sum.e4, x3.1.Sum.e5, x3.1.Sum.e6, x3.1.Sum.e7, x3.1.Sum.e8, x3.1.Sum.e9, x3.1.Sum.e10, x3.1.Sum.e11, x3.1.Sum.e12, x3.1.Sum.e13, x3.1.Sum.e14, x3.1.Sum.e15] : List UInt8) = ([(0 : UInt8), (0 : UInt8), (0 : UInt8), (0 : UInt8), (0 : UInt8), (0 : UInt8), (0 : UInt8), (0 : UInt8), (0 : UInt8), (0 : UInt8), (0 : UInt8), (0 : UInt8), (0 : UInt8), (0 : UInt8), (0 : UInt8), (0 : UInt8)] : List UInt8)))))] (fun _ => [(57, .bool (decide (((((((x1.2 = 0) ∧ (x2.2 = 0)) ∧ ((x1.1.Gen.toNat : Int) = 1)) ∧ ((x2.1.Gen.toNat : Int) = 2)) ∧ (x3.2 = 0)) ∧ ((x3.1.Gen.toNat : Int) = 2 ∧ ([x3.1.Sum.e0, x3.1.Sum.e1, x3.1.Sum.e2, x3.1.Sum.e3, x3.1.Sum.e4, x3.1.Sum.e5, x3.1.Sum.e6, x3.1.Sum.e7, x3.1.Sum.e8, x3.1.Sum.e9, x3.1.Sum.e10, x3.1.Sum.e11, x3.1.Sum.e12, x3.1.Sum.e13, x3.1.Sum.e14, x3.1.Sum.e15] : List UInt8) = ([(0 : UInt8), (0 : UInt8), (0 : UInt8), (0 : UInt8), (0 : UInt8), (0 : UInt8), (0 : UInt8), (0 : UInt8), (0 : UInt8), (0 : UInt8), (0 : UInt8), (0 : UInt8), (0 : UInt8), (0 : UInt8), (0 : UInt8), (0 : UInt8)] : List UInt8))) ∧ (x4.2 = 2))))]) (fun sl wL => sl.w = wL ∧ Step K0 s27 sl) ?_ ?_
      ·
       refine k_again 54 rfl ?_
       refine k_split (fun c29 => ?_) (fun c29 => ?_)
       ·
        refine k_yes rfl rfl ?_
        refine k_move rfl rfl ?_
        refine k_yes rfl rfl ?_
        refine k_eql rfl rfl rfl ?_
        refine k_pickT rfl rfl rfl rfl ?_
        exact k_met ⟨s27, ⟨(congrArg (fun b => some (Value.bool b)) (by first | exact decide_eq_decide.2 ⟨fun h => ⟨c29, h⟩, fun h => h.2⟩ | exact (decide_eq_false (fun h => c29 h.1)).symm | (simp [c29]; done) | exact dec_andT c29 | exact dec_andF c29 | exact dec_orF c29 | exact dec_orT c29 | (simp [c29, i64] <;> omega))), trivial⟩, ⟨rfl, rfl, rfl, rfl, rfl, rfl, rfl, rfl, rfl, rfl, rfl, rfl, rfl, rfl, rfl, trivial⟩, rfl, hE28⟩
       ·
        refine k_no rfl rfl rfl rfl ?_
        refine k_no rfl rfl rfl rfl ?_
        refine k_pickF rfl rfl rfl rfl ?_
        exact k_met ⟨s27, ⟨(congrArg (fun b => some (Value.bool b)) (by first | exact decide_eq_decide.2 ⟨fun h => ⟨c29, h⟩, fun h => h.2⟩ | exact (decide_eq_false (fun h => c29 h.1)).symm | (simp [c29]; done) | exact dec_andT c29 | exact dec_andF c29 | exact dec_orF c29 | exact dec_orT c29 | (simp [c29, i64] <;> omega))), trivial⟩, ⟨rfl, rfl, rfl, rfl, rfl, rfl, rfl, rfl, rfl, rfl, rfl, rfl, rfl, rfl, rfl, trivial⟩, rfl, hE28⟩
      ·
       rintro s30 wL ⟨rfl, hE28⟩
       have szs30 := hE28.size
       have hS := hS.trans0 hE28
       replace h2 := h2.up2 hE28
       replace h5 := h5.up2 hE28
       refine k_move rfl rfl ?_
       obtain ⟨x5, hx5, h⟩ := ob h
       have hE31 := Step.r0 K0 s30
       refine k_cutl (X := St) 5 [(0, .bool false), (1, .pointer (some ⟨b2, 0, none⟩)), (2, .int .i64 x1.2), (3, .pointer (some ⟨b5, 0, none⟩)), (4, .int .i64 x2.2), (5, .pointer (some ⟨b8, 0, none⟩)), (6, .int .i64 x3.2), (8, .int .i64 x4.2), (29, .int .i64 x1.2), (30, .bool (decide (x1.2 = 0))), (34, .bool (decide ((x1.2 = 0) ∧ (x2.2 = 0)))), (39, .bool (decide (((x1.2 = 0) ∧ (x2.2 = 0)) ∧ ((x1.1.Gen.toNat : Int) = 1)))), (44, .bool (decide ((((x1.2 = 0) ∧ (x2.2 = 0)) ∧ ((x1.1.Gen.toNat : Int) = 1)) ∧ ((x2.1.Gen.toNat : Int) = 2)))), (48, .bool (decide (((((x1.2 = 0) ∧ (x2.2 = 0)) ∧ ((x1.1.Gen.toNat : Int) = 1)) ∧ ((x2.1.Gen.toNat : Int) = 2)) ∧ (x3.2 = 0)))), (53, .bool (decide ((((((x1.2 = 0) ∧ (x2.2 = 0)) ∧ ((x1.1.Gen.toNat : Int) = 1)) ∧ ((x2.1.Gen.toNat : Int) = 2)) ∧ (x3.2 = 0)) ∧ ((x3.1.Gen.toNat : Int) = 2 ∧ ([x3.1.Sum.e0, x3.1.Sum.e1, x3.1.Sum.e2, x3.1.Sum.e3, x3.1.Sum.e4, x3.1.Sum.e5, x3.1.Sum.e6, x3.1.Sum.e7, x3.1.Sum.e8, x3.1.Sum.e9, x3.1.Sum.e10, x3.1.Sum.e11, x3.1.Sum.e12, x3.1.Sum.e13, x3.1.Sum.e14, x3.1.Sum.e15] : List UInt8) = ([(0 : UInt8), (0 : UInt8), (0 : UInt8), (0 : UInt8), (0 : UInt8), (0 : UInt8), (0 : UInt8), (0 : UInt8), (0 : UInt8), (0 : UInt8), (0 : UInt8), (0 : UInt8), (0 : UInt8), (0 : UInt8), (0 : UInt8), (0 : UInt8)] : List UInt8))))), (57, .bool (decide (((((((x1.2 = 0) ∧ (x2.2 = 0)) ∧ ((x1.1.Gen.toNat : Int) = 1)) ∧ ((x2.1.Gen.toNat : Int) = 2)) ∧ (x3.2 = 0)) ∧ ((x3.1.Gen.toNat : Int) = 2 ∧ ([x3.1.Sum.e0, x3.1.Sum.e1, x3.1.Sum.e2, x3.1.Sum.e3, x3.1.Sum.e4, x3.1.Sum.e5, x3.1.Sum.e6, x3.1.Sum.e7, x3.1.Sum.e8, x3.1.Sum.e9, x3.1.Sum.e10, x3.1.Sum.e11, x3.1.Sum.e12, x3.1.Sum.e13, x3.1.Sum.e14, x3.1.Sum.e15] : List UInt8) = ([(0 : UInt8), (0 : UInt8), (0 : UInt8), (0 : UInt8), (0 : UInt8), (0 : UInt8), (0 : UInt8), (0 : UInt8), (0 : UInt8), (0 : UInt8), (0 : UInt8), (0 : UInt8), (0 : UInt8), (0 : UInt8), (0 : UInt8), (0 : UInt8)] : List UInt8))) ∧ (x4.2 = 2))))] (fun _ => [(63, .bool x5)]) (fun sl wL => sl.w = wL ∧ Step K0 s30 sl) ?_ ?_
       ·
        refine k_again 58 rfl ?_
        refine k_split (fun c32 => ?_) (fun c32 => ?_)
        ·
         have hx5 := itT hx5 c32
         refine k_yes rfl rfl ?_
         refine k_load_blka (cs := [.int .u64 (x1.1.Gen.toNat : Int), .int .u8 (x1.1.Sum.e0.toNat : Int), .int .u8 (x1.1.Sum.e1.toNat : Int), .int .u8 (x1.1.Sum.e2.toNat : Int), .int .u8 (x1.1.Sum.e3.toNat : Int), .int .u8 (x1.1.Sum.e4.toNat : Int), .int .u8 (x1.1.Sum.e5.toNat : Int), .int .u8 (x1.1.Sum.e6.toNat : Int), .int .u8 (x1.1.Sum.e7.toNat : Int), .int .u8 (x1.1.Sum.e8.toNat : Int), .int .u8 (x1.1.Sum.e9.toNat : Int), .int .u8 (x1.1.Sum.e10.toNat : Int), .int .u8 (x1.1.Sum.e11.toNat : Int), .int .u8 (x1.1.Sum.e12.toNat : Int), .int .u8 (x1.1.Sum.e13.toNat : Int), .int .u8 (x1.1.Sum.e14.toNat : Int), .int .u8 (x1.1.Sum.e15.toNat : Int)]) agg29 rfl h2 rfl ?_
         refine k_yes rfl rfl ?_
         refine k_load_blka (cs := [.int .u64 (x2.1.Gen.toNat : Int), .int .u8 (x2.1.Sum.e0.toNat : Int), .int .u8 (x2.1.Sum.e1.toNat : Int), .int .u8 (x2.1.Sum.e2.toNat : Int), .int .u8 (x2.1.Sum.e3.toNat : Int), .int .u8 (x2.1.Sum.e4.toNat : Int), .int .u8 (x2.1.Sum.e5.toNat : Int), .int .u8 (x2.1.Sum.e6.toNat : Int), .int .u8 (x2.1.Sum.e7.toNat : Int), .int .u8 (x2.1.Sum.e8.toNat : Int), .int .u8 (x2.1.Sum.e9.toNat : Int), .int .u8 (x2.1.Sum.e10.toNat : Int), .int .u8 (x2.1.Sum.e11.toNat : Int), .int .u8 (x2.1.Sum.e12.toNat : Int), .int .u8 (x2.1.Sum.e13.toNat : Int), .int .u8 (x2.1.Sum.e14.toNat : Int), .int .u8 (x2.1.Sum.e15.toNat : Int)]) agg29 rfl h5 rfl ?_
         refine k_yes rfl rfl ?_
         obtain ⟨x6, hx6, hx5⟩ := ob hx5
         refine k_call cal12 rfl (rev_Cmp_w  (clsApiRev x1.1) (clsApiRev x2.1) hx6) rfl ?_
         rintro s33 vr33 st33 rfl
         have szs33 := st33.size
         have hS := hS.trans0 st33
         have hE31 := hE31.trans0 st33
         refine k_yes rfl rfl ?_
         refine k_lss rfl rfl rfl ?_
         refine k_pickT rfl rfl rfl rfl ?_
         exact k_met ⟨s33, ⟨(congrArg (fun b => some (Value.bool b)) (Option.some.inj hx5)), trivial⟩, ⟨rfl, rfl, rfl, rfl, rfl, rfl, rfl, rfl, rfl, rfl, rfl, rfl, rfl, rfl, rfl, rfl, trivial⟩, rfl, hE31⟩
        ·
         have hx5 := itF hx5 c32
         refine k_no rfl rfl rfl rfl ?_
         refine k_no rfl rfl rfl rfl ?_
         refine k_no rfl rfl rfl rfl ?_
         refine k_no rfl rfl rfl rfl ?_
         refine k_pickF rfl rfl rfl rfl ?_
         exact k_met ⟨s30, ⟨(congrArg (fun b => some (Value.bool b)) (Option.some.inj hx5)), trivial⟩, ⟨rfl, rfl, rfl, rfl, rfl, rfl, rfl, rfl, rfl, rfl, rfl, rfl, rfl, rfl, rfl, rfl, trivial⟩, rfl, hE31⟩
       ·
        rintro s34 wL ⟨rfl, hE31⟩
        have szs34 := hE31.size
        have hS := hS.trans0 hE31
        replace h2 := h2.up2 hE31
        replace h5 := h5.up2 hE31
        refine k_move rfl rfl ?_
        obtain ⟨x7, hx7, h⟩ := ob h
        have hE35 := Step.r0 K0 s34
        refine k_cutl (X := St) 5 [(0, .bool false), (1, .pointer (some ⟨b2, 0, none⟩)), (2, .int .i64 x1.2), (3, .pointer (some ⟨b5, 0, none⟩)), (4, .int .i64 x2.2), (5, .pointer (some ⟨b8, 0, none⟩)), (6, .int .i64 x3.2), (8, .int .i64 x4.2), (29, .int .i64 x1.2), (30, .bool (decide (x1.2 = 0))), (34, .bool (decide ((x1.2 = 0) ∧ (x2.2 = 0)))), (39, .bool (decide (((x1.2 = 0) ∧ (x2.2 = 0)) ∧ ((x1.1.Gen.toNat : Int) = 1)))), (44, .bool (decide ((((x1.2 = 0) ∧ (x2.2 = 0)) ∧ ((x1.1.Gen.toNat : Int) = 1)) ∧ ((x2.1.Gen.toNat : Int) = 2)))), (48, .bool (decide (((((x1.2 = 0) ∧ (x2.2 = 0)) ∧ ((x1.1.Gen.toNat : Int) = 1)) ∧ ((x2.1.Gen.toNat : Int) = 2)) ∧ (x3.2 = 0)))), (53, .bool (decide ((((((x1.2 = 0) ∧ (x2.2 = 0)) ∧ ((x1.1.Gen.toNat : Int) = 1)) ∧ ((x2.1.Gen.toNat : Int) = 2)) ∧ (x3.2 = 0)) ∧ ((x3.1.Gen.toNat : Int) = 2 ∧ ([x3.1.Sum.e0, x3.1.Sum.e1, x3.1.Sum.e2, x3.1.Sum.e3, x3.1.Sum.e4, x3.1.Sum.e5, x3.1.Sum.e6, x3.1.Sum.e7, x3.1.Sum.e8, x3.1.Sum.e9, x3.1.Sum.e10, x3.1.Sum.e11, x3.1.Sum.e12, x3.1.Sum.e13, x3.1.Sum.e14, x3.1.Sum.e15] : List UInt8) = ([(0 : UInt8), (0 : UInt8), (0 : UInt8), (0 : UInt8), (0 : UInt8), (0 : UInt8), (0 : UInt8), (0 : UInt8), (0 : UInt8), (0 : UInt8), (0 : UInt8), (0 : UInt8), (0 : UInt8), (0 : UInt8), (0 : UInt8), (0 : UInt8)] : List UInt8))))), (57, .bool (decide (((((((x1.2 = 0) ∧ (x2.2 = 0)) ∧ ((x1.1.Gen.toNat : Int) = 1)) ∧ ((x2.1.Gen.toNat : Int) = 2)) ∧ (x3.2 = 0)) ∧ ((x3.1.Gen.toNat : Int) = 2 ∧ ([x3.1.Sum.e0, x3.1.Sum.e1, x3.1.Sum.e2, x3.1.Sum.e3, x3.1.Sum.e4, x3.1.Sum.e5, x3.1.Sum.e6, x3.1.Sum.e7, x3.1.Sum.e8, x3.1.Sum.e9, x3.1.Sum.e10, x3.1.Sum.e11, x3.1.Sum.e12, x3.1.Sum.e13, x3.1.Sum.e14, x3.1.Sum.e15] : List UInt8) = ([(0 : UInt8), (0 : UInt8), (0 : UInt8), (0 : UInt8), (0 : UInt8), (0 : UInt8), (0 : UInt8), (0 : UInt8), (0 : UInt8), (0 : UInt8), (0 : UInt8), (0 : UInt8), (0 : UInt8), (0 : UInt8), (0 : UInt8), (0 : UInt8)] : List UInt8))) ∧ (x4.2 = 2)))), (63, .bool x5)] (fun _ => [(69, .bool x7)]) (fun sl wL => sl.w = wL ∧ Step K0 s34 sl) ?_ ?_
        ·
         refine k_again 64 rfl ?_
         refine k_splitb (fun c36 => ?_) (fun c36 => ?_)
         ·
          have hx7 := ibT hx7 c36
          refine k_yes rfl rfl ?_
          refine k_load_blka (cs := [.int .u64 (x2.1.Gen.toNat : Int), .int .u8 (x2.1.Sum.e0.toNat : Int), .int .u8 (x2.1.Sum.e1.toNat : Int), .int .u8 (x2.1.Sum.e2.toNat : Int), .int .u8 (x2.1.Sum.e3.toNat : Int), .int .u8 (x2.1.Sum.e4.toNat : Int), .int .u8 (x2.1.Sum.e5.toNat : Int), .int .u8 (x2.1.Sum.e6.toNat : Int), .int .u8 (x2.1.Sum.e7.toNat : Int), .int .u8 (x2.1.Sum.e8.toNat : Int), .int .u8 (x2.1.Sum.e9.toNat : Int), .int .u8 (x2.1.Sum.e10.toNat : Int), .int .u8 (x2.1.Sum.e11.toNat : Int), .int .u8 (x2.1.Sum.e12.toNat : Int), .int .u8 (x2.1.Sum.e13.toNat : Int), .int .u8 (x2.1.Sum.e14.toNat : Int), .int .u8 (x2.1.Sum.e15.toNat : Int)]) agg29 rfl h5 rfl ?_
          refine k_yes rfl rfl ?_
          refine k_load_blka (cs := [.int .u64 (x1.1.Gen.toNat : Int), .int .u8 (x1.1.Sum.e0.toNat : Int), .int .u8 (x1.1.Sum.e1.toNat : Int), .int .u8 (x1.1.Sum.e2.toNat : Int), .int .u8 (x1.1.Sum.e3.toNat : Int), .int .u8 (x1.1.Sum.e4.toNat : Int), .int .u8 (x1.1.Sum.e5.toNat : Int), .int .u8 (x1.1.Sum.e6.toNat : Int), .int .u8 (x1.1.Sum.e7.toNat : Int), .int .u8 (x1.1.Sum.e8.toNat : Int), .int .u8 (x1.1.Sum.e9.toNat : Int), .int .u8 (x1.1.Sum.e10.toNat : Int), .int .u8 (x1.1.Sum.e11.toNat : Int), .int .u8 (x1.1.Sum.e12.toNat : Int), .int .u8 (x1.1.Sum.e13.toNat : Int), .int .u8 (x1.1.Sum.e14.toNat : Int), .int .u8 (x1.1.Sum.e15.toNat : Int)]) agg29 rfl h2 rfl ?_
          refine k_yes rfl rfl ?_
          refine k_bslice2 (ds := ([x2.1, x1.1] : List ApiRev).map dApiRev) slc22 rfl (RVs.cons ⟨_, rfl, (clsApiRev x2.1)⟩ (RVs.cons ⟨_, rfl, (clsApiRev x1.1)⟩ RVs.nil)) (by rfl) (by rfl) rfl rfl ?_
          intro s37 v37 b37 st37 ge37 bl37 h37
          have szs37 := st37.size
          have hS := hS.trans0 st37
          have hE35 := hE35.trans0 st37
          have lt37 := Own.le1 h37
          refine k_yes rfl rfl ?_
          obtain ⟨x8, hx8, hx7⟩ := ob hx7
          refine k_call cal8 rfl (rev_Chain_w  (h37.sl) hx8) rfl ?_
          rintro s38 vr38 st38 rfl
          have szs38 := st38.size
          have hS := hS.trans0 st38
          have hE35 := hE35.trans0 st38
          refine k_pickT rfl rfl rfl rfl ?_
          exact k_met ⟨s38, ⟨(congrArg (fun b => some (Value.bool b)) (Option.some.inj hx7)), trivial⟩, ⟨rfl, rfl, rfl, rfl, rfl, rfl, rfl, rfl, rfl, rfl, rfl, rfl, rfl, rfl, rfl, rfl, rfl, trivial⟩, rfl, hE35⟩
         ·
          have hx7 := ibF hx7 c36
          refine k_no rfl rfl rfl rfl ?_
          refine k_no rfl rfl rfl rfl ?_
          refine k_no rfl rfl rfl rfl ?_
          refine k_no rfl rfl rfl rfl ?_
          refine k_pickF rfl rfl rfl rfl ?_
          exact k_met ⟨s34, ⟨(congrArg (fun b => some (Value.bool b)) (Option.some.inj hx7)), trivial⟩, ⟨rfl, rfl, rfl, rfl, rfl, rfl, rfl, rfl, rfl, rfl, rfl, rfl, rfl, rfl, rfl, rfl, rfl, trivial⟩, rfl, hE35⟩
        ·
         rintro s39 wL ⟨rfl, hE35⟩
         have szs39 := hE35.size
         have hS := hS.trans0 hE35
         refine k_assign rfl rfl ?_
         refine k_nil ?_
         refine k_keep [(0, _)] ⟨rfl, trivial⟩ ?_
         refine k_ret ?_
         obtain rfl := Option.some.inj h
         refine ⟨_, rfl, Ret.mk hS ?_⟩
         exact rfl

set_option maxHeartbeats 20000000 in
set_option maxRecDepth 100000 in
theorem ref06_May_w {s : St} {cs0 : List Value} {a0 : ApiRev} {r : Bool} (hp0 : RC s cs0 (dApiRev a0)) (h : ref06_May a0 = some r) : Calls Tryd.prog 15 #[.agg cs0.toArray] s.w (Ret s K0 (fun s1 v => v = .bool r)) := by
 unfold ref06_May at h
 obtain rfl := opnApiRev hp0
 have hS := Step.r0 K0 s
 refine k_fn (rs := [2]) (args := [.agg #[.int .u64 (a0.Gen.toNat : Int), .int .u8 (a0.Sum.e0.toNat : Int), .int .u8 (a0.Sum.e1.toNat : Int), .int .u8 (a0.Sum.e2.toNat : Int), .int .u8 (a0.Sum.e3.toNat : Int), .int .u8 (a0.Sum.e4.toNat : Int), .int .u8 (a0.Sum.e5.toNat : Int), .int .u8 (a0.Sum.e6.toNat : Int), .int .u8 (a0.Sum.e7.toNat : Int), .int .u8 (a0.Sum.e8.toNat : Int), .int .u8 (a0.Sum.e9.toNat : Int), .int .u8 (a0.Sum.e10.toNat : Int), .int .u8 (a0.Sum.e11.toNat : Int), .int .u8 (a0.Sum.e12.toNat : Int), .int .u8 (a0.Sum.e13.toNat : Int), .int .u8 (a0.Sum.e14.toNat : Int), .int .u8 (a0.Sum.e15.toNat : Int)]]) Tryd.func15 rfl rfl rfl rfl ?_
 refine k_seq ?_
 refine k_region ?_
 refine k_box rfl rfl ?_
 intro s1 b1 st1 h1 ge1
 have szs1 := st1.size
 have hS := hS.trans0 st1
 have lt1 := h1.lt
 refine k_assign rfl rfl ?_
 refine k_nil ?_
 refine k_keep [(1, _), (2, _)] ⟨rfl, rfl, trivial⟩ ?_
 refine k_seq ?_
 refine k_region ?_
 refine k_field_addr fld29_0 rfl rfl ?_
 refine k_load_blk one26 rfl h1 rfl rfl ?_
 refine k_gtr rfl rfl rfl ?_
 refine k_move rfl rfl ?_
 have hE2 := Step.r0 K0 s1
 refine k_cutl (X := St) 4 [(1, .pointer (some ⟨b1, 0, none⟩)), (2, .bool false), (3, .pointer (some ⟨b1, 0, none⟩)), (4, .int .u64 (a0.Gen.toNat : Int)), (5, .bool (decide (0 < (a0.Gen.toNat : Int))))] (fun _ => [(10, .bool (decide ((0 < (a0.Gen.toNat : Int)) ∧ ((a0.Gen.toNat : Int) < 4611686018427387904))))]) (fun sl wL => sl.w = wL ∧ Step K0 s1 sl) ?_ ?_
 ·
  refine k_again 6 rfl ?_
  refine k_split (fun c3 => ?_) (fun c3 => ?_)
  ·
   refine k_yes rfl rfl ?_
   refine k_field_addr fld29_0 rfl rfl ?_
   refine k_yes rfl rfl ?_
   refine k_load_blk one26 rfl h1 rfl rfl ?_
   refine k_yes rfl rfl ?_
   refine k_lss rfl rfl rfl ?_
   refine k_pickT rfl rfl rfl rfl ?_
   exact k_met ⟨s1, ⟨(congrArg (fun b => some (Value.bool b)) (by first | exact decide_eq_decide.2 ⟨fun h => ⟨c3, h⟩, fun h => h.2⟩ | exact (decide_eq_false (fun h => c3 h.1)).symm | (simp [c3]; done) | exact dec_andT c3 | exact dec_andF c3 | exact dec_orF c3 | exact dec_orT c3 | (simp [c3, i64] <;> omega))), trivial⟩, ⟨rfl, rfl, rfl, rfl, rfl, trivial⟩, rfl, hE2⟩
  ·
   refine k_no rfl rfl rfl rfl ?_
   refine k_no rfl rfl rfl rfl ?_
   refine k_no rfl rfl rfl rfl ?_
   refine k_pickF rfl rfl rfl rfl ?_
   exact k_met ⟨s1, ⟨(congrArg (fun b => some (Value.bool b)) (by first | exact decide_eq_decide.2 ⟨fun h => ⟨c3, h⟩, fun h => h.2⟩ | exact (decide_eq_false (fun h => c3 h.1)).symm | (simp [c3]; done) | exact dec_andT c3 | exact dec_andF c3 | exact dec_orF c3 | exact dec_orT c3 | (simp [c3, i64] <;> omega))), trivial⟩, ⟨rfl, rfl, rfl, rfl, rfl, trivial⟩, rfl, hE2⟩
 ·
  rintro s4 wL ⟨rfl, hE2⟩
  have szs4 := hE2.size
  have hS := hS.trans0 hE2
  refine k_assign rfl rfl ?_
  refine k_nil ?_
  refine k_keep [(2, _)] ⟨rfl, trivial⟩ ?_
  refine k_ret ?_
  obtain rfl := Option.some.inj h
  refine ⟨_, rfl, Ret.mk hS ?_⟩
  exact rfl

set_option maxHeartbeats 20000000 in
set_option maxRecDepth 100000 in
theorem ref06_Chain_w {s : St} {l0 : Lab} {v0 : Value} {a0 : (List ApiRev)} {r : Bool} (hp0 : SL s l0 v0 17 (a0.map dApiRev)) (h : ref06_Chain a0 = some r) : Calls Tryd.prog 9 #[v0] s.w (Ret s K0 (fun s1 v => v = .bool r)) := by
 unfold ref06_Chain at h
 obtain ⟨lf0, lf0le, lf0ne, hp0⟩ := hp0.fix
 have hS := Step.r0 K0 s
 refine k_fn (rs := [2]) (args := [v0]) Tryd.func9 rfl rfl rfl rfl ?_
 refine k_seq ?_
 refine k_region ?_
 refine k_assign rfl rfl ?_
 refine k_nil ?_
 refine k_seq ?_
 obtain ⟨kj1, hK1, h⟩ := jn_out h
 have hE1 := Step.r0 K0 s
 refine k_cutc (X := St) [(0, v0), (2, .bool false)] (fun (xL : St) => match xL with | sl => []) (fun (xL : St) (wL : World) => match xL with | sl => sl.w = wL ∧ Step K0 s sl ∧ kj1 () = some r) ?_ ?_
 ·
  refine k_seq ?_
  refine k_region ?_
  refine k_assign rfl rfl ?_
  refine k_nil ?_
  refine k_block ?_
  refine k_loopc (X := St × Int × Nat) [(0, _), (2, _)] (fun (xL : St × Int × Nat) => match xL with | (sl, x2, j) => [(3, .int .i64 x2)]) (fun (xL : St × Int × Nat) (wL : World) => match xL with | (sl, x2, j) => sl.w = wL ∧ Step K0 s sl ∧ ref06_Chain_l1 a0 kj1 j x2 = some r) (fun (xL : St × Int × Nat) => match xL with | (sl, x2, j) => j) (s, 0, FU) ⟨rfl, rfl, trivial⟩ ⟨(by first | rfl | (simp <;> rfl)), trivial⟩ ⟨rfl, (Step.refl _).of0 (by first | exact fun _ h => h | (intro c h; simp [KC, KO, KU, KN, KB] at h <;> omega)), h⟩ ?_
  rintro ⟨s3, x2, j⟩ wL ⟨rfl, hE2, h⟩
  cases j with
  | zero => rw [ref06_Chain_l1] at h; exact (noneNe h).elim
  | succ j =>
  rw [ref06_Chain_l1] at h
  have szs3 := hE2.size
  have hS := hS.trans0 hE2
  have hE1 := hE1.trans0 hE2
  replace hp0 := hp0.up2 hE2
  refine k_seq ?_
  refine k_seq ?_
  refine k_region ?_
  refine k_move rfl rfl ?_
  refine k_move rfl rfl ?_
  refine k_len Tryd.underlying22 rfl hp0.hasLen rfl ?_
  refine k_as (v := .int .i64 (a0.length : Int)) (by simp only [List.length_map]) ?_
  refine k_lss rfl rfl rfl ?_
  refine k_nil ?_
  refine k_keep [(0, _), (2, _), (3, _), (7, _)] ⟨rfl, rfl, rfl, rfl, trivial⟩ ?_
  refine k_cond_dec rfl (fun c4 => ?_) (fun c4 => ?_)
  ·
   have h := itT h c4
   refine k_skip ?_
   refine k_seq ?_
   refine k_block ?_
   refine k_seq ?_
   refine k_keep [(0, _), (2, _), (3, _)] ⟨rfl, rfl, rfl, trivial⟩ ?_
   refine k_drawT (KN s3.n) 25 (.read 0 (.read 1 (.read 2 (.read 3 (.alt 4 (.read 5 (.read 6 (.read 7 (.read 8 (.read 9 (.read 10 (.read 11 (.read 12 (.read 13 (.read 14 (.read 15 (.read 16 (.read 17 (.read 18 (.read 19 (.read 20 (.read 21 (.read 22 (.read 23 (.read 24 .fin)))))))))))))))))))) .no))))) mixed (by intro c h; (try simp only [KC, KO, KU, KN, KB] at h) <;> omega) rfl rfl rfl ?_
   intro s5 st5
   have szs5 := st5.size
   have hS := hS.trans0 st5
   have hE1 := hE1.trans0 st5
   have hE2 := hE2.trans0 st5
   replace hp0 := hp0.up2 st5
   refine rt_read (v0) rfl rfl (fun s6 st6 => ?_) ?_
   ·refine k_move rfl rfl ?_
    exact fq_end
   refine rt_read (.int .i64 x2) rfl rfl (fun s7 st7 => ?_) ?_
   ·refine k_move rfl rfl ?_
    exact fq_end
   obtain ⟨x3, hx3, h⟩ := ob h
   refine rt_ix rfl (wanted_none rfl) Tryd.underlying22 size29 rfl rfl hp0 (geti_out hx3).1 (geti_map hx3) rfl ?_
   intro q8 hq8
   refine rt_read (.agg #[.int .u64 (x3.Gen.toNat : Int), .int .u8 (x3.Sum.e0.toNat : Int), .int .u8 (x3.Sum.e1.toNat : Int), .int .u8 (x3.Sum.e2.toNat : Int), .int .u8 (x3.Sum.e3.toNat : Int), .int .u8 (x3.Sum.e4.toNat : Int), .int .u8 (x3.Sum.e5.toNat : Int), .int .u8 (x3.Sum.e6.toNat : Int), .int .u8 (x3.Sum.e7.toNat : Int), .int .u8 (x3.Sum.e8.toNat : Int), .int .u8 (x3.Sum.e9.toNat : Int), .int .u8 (x3.Sum.e10.toNat : Int), .int .u8 (x3.Sum.e11.toNat : Int), .int .u8 (x3.Sum.e12.toNat : Int), .int .u8 (x3.Sum.e13.toNat : Int), .int .u8 (x3.Sum.e14.toNat : Int), .int .u8 (x3.Sum.e15.toNat : Int)]) rfl rfl (fun s9 st9 => ?_) ?_
   ·try replace hq8 := hq8.up2 st9
    refine k_load_agg (by exact agg29) rfl hq8 rfl ?_
    intro cs10 h10
    obtain rfl := opnApiRev h10
    exact fq_end
   refine rt_act rfl rfl ?_
   have hA11 := Step.r0 (KN s3.n) s5
   obtain ⟨x4, hx4, h⟩ := ob h
   refine k_call cal15 rfl (ref06_May_w  (clsApiRev x3) hx4) rfl ?_
   rintro s12 vr12 st12 rfl
   have szs12 := st12.size
   have hS := hS.trans0 st12
   have hE1 := hE1.trans0 st12
   have hE2 := hE2.trans0 st12
   have hA11 := hA11.trans0 st12
   replace hp0 := hp0.up2 st12
   refine rt_cont hA11 ?_
   refine rt_read (.bool (!x4)) rfl rfl (fun s13 st13 => ?_) ?_
   ·refine k_not rfl rfl ?_
    exact fq_end
   refine rt_read (.bool (!x4)) rfl rfl (fun s14 st14 => ?_) ?_
   ·refine k_move rfl rfl ?_
    exact fq_end
   refine rt_splitb (fun c15 => ?_) (fun c15 => ?_)
   ·
    have h := ibT h c15
    refine rt_read undef rfl rfl (fun s16 st16 => ?_) ?_
    ·refine k_no rfl rfl rfl rfl ?_
     exact fq_end
    refine rt_read undef rfl rfl (fun s17 st17 => ?_) ?_
    ·refine k_no rfl rfl rfl rfl ?_
     exact fq_end
    refine rt_read undef rfl rfl (fun s18 st18 => ?_) ?_
    ·refine k_no rfl rfl rfl rfl ?_
     exact fq_end
    refine rt_read undef rfl rfl (fun s19 st19 => ?_) ?_
    ·refine k_nou rfl rfl rfl rfl ?_
     exact fq_end
    refine rt_read undef rfl rfl (fun s20 st20 => ?_) ?_
    ·refine k_nou rfl rfl rfl rfl ?_
     exact fq_end
    refine rt_read undef rfl rfl (fun s21 st21 => ?_) ?_
    ·refine k_nou rfl rfl rfl rfl ?_
     exact fq_end
    refine rt_read undef rfl rfl (fun s22 st22 => ?_) ?_
    ·refine k_nou rfl rfl rfl rfl ?_
     exact fq_end
    refine rt_read undef rfl rfl (fun s23 st23 => ?_) ?_
    ·refine k_nou rfl rfl rfl rfl ?_
     exact fq_end
    refine rt_read undef rfl rfl (fun s24 st24 => ?_) ?_
    ·refine k_nou rfl rfl rfl rfl ?_
     exact fq_end
    refine rt_read undef rfl rfl (fun s25 st25 => ?_) ?_
    ·refine k_nou rfl rfl rfl rfl ?_
     exact fq_end
    refine rt_read undef rfl rfl (fun s26 st26 => ?_) ?_
    ·refine k_nou rfl rfl rfl rfl ?_
     exact fq_end
    refine rt_read undef rfl rfl (fun s27 st27 => ?_) ?_
    ·refine k_nou rfl rfl rfl rfl ?_
     exact fq_end
    refine rt_read undef rfl rfl (fun s28 st28 => ?_) ?_
    ·refine k_nou rfl rfl rfl rfl ?_
     exact fq_end
    refine rt_read undef rfl rfl (fun s29 st29 => ?_) ?_
    ·refine k_nou rfl rfl rfl rfl ?_
     exact fq_end
    refine rt_read undef rfl rfl (fun s30 st30 => ?_) ?_
    ·refine k_nou rfl rfl rfl rfl ?_
     exact fq_end
    refine rt_read undef rfl rfl (fun s31 st31 => ?_) ?_
    ·refine k_nou rfl rfl rfl rfl ?_
     exact fq_end
    refine rt_read undef rfl rfl (fun s32 st32 => ?_) ?_
    ·refine k_no rfl rfl rfl rfl ?_
     exact fq_end
    refine rt_read (.bool true) rfl rfl (fun s33 st33 => ?_) ?_
    ·refine k_pickT rfl rfl rfl rfl ?_
     exact fq_end
    refine rt_fin ?_
    refine k_nil ?_
    refine k_keep [(0, _), (2, _), (3, _), (34, _)] ⟨rfl, rfl, rfl, rfl, trivial⟩ ?_
    refine k_cond_true rfl ?_
    refine k_seq ?_
    refine k_region ?_
    refine k_assign rfl rfl ?_
    refine k_nil ?_
    refine k_keep [(0, _), (2, _), (3, _)] ⟨rfl, rfl, rfl, trivial⟩ ?_
    refine k_ret ?_
    obtain rfl := Option.some.inj h
    refine ⟨_, rfl, Ret.mk hS ?_⟩
    exact rfl
   ·
    have h := ibF h c15
    refine rt_read (.int .i64 x2) rfl rfl (fun s34 st34 => ?_) ?_
    ·refine k_yes rfl rfl ?_
     refine k_move rfl rfl ?_
     exact fq_end
    refine rt_read (.bool (decide (0 < x2))) rfl rfl (fun s35 st35 => ?_) ?_
    ·refine k_yes rfl rfl ?_
     refine k_gtr rfl rfl rfl ?_
     exact fq_end
    refine rt_read (.bool (decide (0 < x2))) rfl rfl (fun s36 st36 => ?_) ?_
    ·refine k_yes rfl rfl ?_
     refine k_move rfl rfl ?_
     exact fq_end
    refine rt_split (fun c37 => ?_) (fun c37 => ?_)
    ·
     have h := itT h c37
     refine rt_read (v0) rfl rfl (fun s38 st38 => ?_) ?_
     ·refine k_yes rfl rfl ?_
      refine k_move rfl rfl ?_
      exact fq_end
     refine rt_read (.int .i64 x2) rfl rfl (fun s39 st39 => ?_) ?_
     ·refine k_yes rfl rfl ?_
      refine k_move rfl rfl ?_
      exact fq_end
     refine rt_read (.int .i64 (i64 (x2 - 1))) rfl rfl (fun s40 st40 => ?_) ?_
     ·refine k_yes rfl rfl ?_
      refine k_sub_ rfl rfl rfl ?_
      exact fq_end
     obtain ⟨x5, hx5, h⟩ := ob h
     refine rt_ix rfl (wanted_yes rfl rfl rfl) Tryd.underlying22 size29 rfl rfl hp0 (geti_out hx5).1 (geti_map hx5) rfl ?_
     intro q41 hq41
     refine rt_fa rfl (wanted_yes rfl rfl rfl) rfl hq41 (by rfl) fld29_0 rfl ?_
     intro q42 h42
     refine rt_read (.int .u64 (x5.Gen.toNat : Int)) rfl rfl (fun s43 st43 => ?_) ?_
     ·try replace h42 := h42.up2 st43
      refine k_yes rfl rfl ?_
      refine k_load_val one26 rfl h42 rfl ?_
      exact fq_end
     refine rt_read (v0) rfl rfl (fun s44 st44 => ?_) ?_
     ·refine k_yes rfl rfl ?_
      refine k_move rfl rfl ?_
      exact fq_end
     refine rt_read (.int .i64 x2) rfl rfl (fun s45 st45 => ?_) ?_
     ·refine k_yes rfl rfl ?_
      refine k_move rfl rfl ?_
      exact fq_end
     obtain ⟨x6, hx6, h⟩ := ob h
     refine rt_ix rfl (wanted_yes rfl rfl rfl) Tryd.underlying22 size29 rfl rfl hp0 (geti_out hx6).1 (geti_map hx6) rfl ?_
     intro q46 hq46
     refine rt_fa rfl (wanted_yes rfl rfl rfl) rfl hq46 (by rfl) fld29_0 rfl ?_
     intro q47 h47
     refine rt_read (.int .u64 (x6.Gen.toNat : Int)) rfl rfl (fun s48 st48 => ?_) ?_
     ·try replace h47 := h47.up2 st48
      refine k_yes rfl rfl ?_
      refine k_load_val one26 rfl h47 rfl ?_
      exact fq_end
     refine rt_read (.int .u64 ((ofI64 ((x6.Gen.toNat : Int) + 1)).toNat : Int)) rfl rfl (fun s49 st49 => ?_) ?_
     ·refine k_yes rfl rfl ?_
      refine k_add rfl rfl rfl ?_
      refine k_as (congrArg (Value.int .u64) (w64 _)) ?_
      exact fq_end
     refine rt_read (.bool (decide ((x5.Gen.toNat : Int) ≠ ((ofI64 ((x6.Gen.toNat : Int) + 1)).toNat : Int)))) rfl rfl (fun s50 st50 => ?_) ?_
     ·refine k_yes rfl rfl ?_
      refine k_neq rfl rfl rfl ?_
      exact fq_end
     refine rt_read (.bool (decide ((x5.Gen.toNat : Int) ≠ ((ofI64 ((x6.Gen.toNat : Int) + 1)).toNat : Int)))) rfl rfl (fun s51 st51 => ?_) ?_
     ·refine k_yes rfl rfl ?_
      refine k_pickT rfl rfl rfl rfl ?_
      exact fq_end
     refine rt_read (.bool (decide ((x5.Gen.toNat : Int) ≠ ((ofI64 ((x6.Gen.toNat : Int) + 1)).toNat : Int)))) rfl rfl (fun s52 st52 => ?_) ?_
     ·refine k_pickF rfl rfl rfl rfl ?_
      exact fq_end
     refine rt_fin ?_
     refine k_nil ?_
     refine k_keep [(0, _), (2, _), (3, _), (34, _)] ⟨rfl, rfl, rfl, rfl, trivial⟩ ?_
     refine k_cond_dec rfl (fun c53 => ?_) (fun c53 => ?_)
     ·
      have h := itT h c53
      refine k_seq ?_
      refine k_region ?_
      refine k_assign rfl rfl ?_
      refine k_nil ?_
      refine k_keep [(0, _), (2, _), (3, _)] ⟨rfl, rfl, rfl, trivial⟩ ?_
      refine k_ret ?_
      obtain rfl := Option.some.inj h
      refine ⟨_, rfl, Ret.mk hS ?_⟩
      exact rfl
     ·
      have h := itF h c53
      refine k_skip ?_
      refine k_blk ?_
      refine k_region ?_
      refine k_move rfl rfl ?_
      refine k_add rfl rfl rfl ?_
      refine k_assign rfl rfl ?_
      refine k_nil ?_
      exact k_stop ⟨(s12, i64 (x2 + 1), j), ⟨(by first | rfl | (simp <;> rfl)), trivial⟩, ⟨rfl, rfl, trivial⟩, ⟨rfl, hE2, h⟩, (by simp)⟩
    ·
     have h := itF h c37
     refine rt_read undef rfl rfl (fun s54 st54 => ?_) ?_
     ·refine k_no rfl rfl rfl rfl ?_
      exact fq_end
     refine rt_read undef rfl rfl (fun s55 st55 => ?_) ?_
     ·refine k_no rfl rfl rfl rfl ?_
      exact fq_end
     refine rt_read undef rfl rfl (fun s56 st56 => ?_) ?_
     ·refine k_no rfl rfl rfl rfl ?_
      exact fq_end
     refine rt_read undef rfl rfl (fun s57 st57 => ?_) ?_
     ·refine k_no rfl rfl rfl rfl ?_
      exact fq_end
     refine rt_read undef rfl rfl (fun s58 st58 => ?_) ?_
     ·refine k_no rfl rfl rfl rfl ?_
      exact fq_end
     refine rt_read undef rfl rfl (fun s59 st59 => ?_) ?_
     ·refine k_no rfl rfl rfl rfl ?_
      exact fq_end
     refine rt_read undef rfl rfl (fun s60 st60 => ?_) ?_
     ·refine k_no rfl rfl rfl rfl ?_
      exact fq_end
     refine rt_read undef rfl rfl (fun s61 st61 => ?_) ?_
     ·refine k_no rfl rfl rfl rfl ?_
      exact fq_end
     refine rt_read undef rfl rfl (fun s62 st62 => ?_) ?_
     ·refine k_no rfl rfl rfl rfl ?_
      exact fq_end
     refine rt_read undef rfl rfl (fun s63 st63 => ?_) ?_
     ·refine k_no rfl rfl rfl rfl ?_
      exact fq_end
     refine rt_read undef rfl rfl (fun s64 st64 => ?_) ?_
     ·refine k_no rfl rfl rfl rfl ?_
      exact fq_end
     refine rt_read undef rfl rfl (fun s65 st65 => ?_) ?_
     ·refine k_no rfl rfl rfl rfl ?_
      exact fq_end
     refine rt_read undef rfl rfl (fun s66 st66 => ?_) ?_
     ·refine k_no rfl rfl rfl rfl ?_
      exact fq_end
     refine rt_read (.bool false) rfl rfl (fun s67 st67 => ?_) ?_
     ·refine k_yes rfl rfl ?_
      refine k_pickF rfl rfl rfl rfl ?_
      exact fq_end
     refine rt_read (.bool false) rfl rfl (fun s68 st68 => ?_) ?_
     ·refine k_pickF rfl rfl rfl rfl ?_
      exact fq_end
     refine rt_fin ?_
     refine k_nil ?_
     refine k_keep [(0, _), (2, _), (3, _), (34, _)] ⟨rfl, rfl, rfl, rfl, trivial⟩ ?_
     refine k_cond_false rfl ?_
     refine k_skip ?_
     refine k_blk ?_
     refine k_region ?_
     refine k_move rfl rfl ?_
     refine k_add rfl rfl rfl ?_
     refine k_assign rfl rfl ?_
     refine k_nil ?_
     exact k_stop ⟨(s12, i64 (x2 + 1), j), ⟨(by first | rfl | (simp <;> rfl)), trivial⟩, ⟨rfl, rfl, trivial⟩, ⟨rfl, hE2, h⟩, (by simp)⟩
  ·
   have h := itF h c4
   refine k_exit rfl ?_
   exact k_stop ⟨s3, trivial, ⟨rfl, rfl, trivial⟩, ⟨rfl, hE1, h⟩⟩
 ·
  rintro s69 wL ⟨rfl, hE1, h⟩
  rw [hK1] at h
  have szs69 := hE1.size
  have hS := hS.trans0 hE1
  replace hp0 := hp0.up2 hE1
  refine k_seq ?_
  refine k_region ?_
  refine k_move rfl rfl ?_
  refine k_len Tryd.underlying22 rfl hp0.hasLen rfl ?_
  refine k_as (v := .int .i64 (a0.length : Int)) (by simp only [List.length_map]) ?_
  refine k_gtr rfl rfl rfl ?_
  refine k_move rfl rfl ?_
  have hE70 := Step.r0 K0 s69
  refine k_cutl (X := St) 4 [(0, v0), (2, .bool false), (35, v0), (36, .int .i64 (a0.length : Int)), (37, .bool (decide (0 < (a0.length : Int))))] (fun _ => [(42, .bool (decide ((0 < (a0.length : Int)) ∧ ((a0.length : Int) < 17))))]) (fun sl wL => sl.w = wL ∧ Step K0 s69 sl) ?_ ?_
  ·
   refine k_again 38 rfl ?_
   refine k_split (fun c71 => ?_) (fun c71 => ?_)
   ·
    refine k_yes rfl rfl ?_
    refine k_move rfl rfl ?_
    refine k_yes rfl rfl ?_
    refine k_len Tryd.underlying22 rfl hp0.hasLen rfl ?_
    refine k_as (v := .int .i64 (a0.length : Int)) (by simp only [List.length_map]) ?_
    refine k_yes rfl rfl ?_
    refine k_lss rfl rfl rfl ?_
    refine k_pickT rfl rfl rfl rfl ?_
    exact k_met ⟨s69, ⟨(congrArg (fun b => some (Value.bool b)) (by first | exact decide_eq_decide.2 ⟨fun h => ⟨c71, h⟩, fun h => h.2⟩ | exact (decide_eq_false (fun h => c71 h.1)).symm | (simp [c71]; done) | exact dec_andT c71 | exact dec_andF c71 | exact dec_orF c71 | exact dec_orT c71 | (simp [c71, i64] <;> omega))), trivial⟩, ⟨rfl, rfl, rfl, rfl, rfl, trivial⟩, rfl, hE70⟩
   ·
    refine k_no rfl rfl rfl rfl ?_
    refine k_no rfl rfl rfl rfl ?_
    refine k_no rfl rfl rfl rfl ?_
    refine k_pickF rfl rfl rfl rfl ?_
    exact k_met ⟨s69, ⟨(congrArg (fun b => some (Value.bool b)) (by first | exact decide_eq_decide.2 ⟨fun h => ⟨c71, h⟩, fun h => h.2⟩ | exact (decide_eq_false (fun h => c71 h.1)).symm | (simp [c71]; done) | exact dec_andT c71 | exact dec_andF c71 | exact dec_orF c71 | exact dec_orT c71 | (simp [c71, i64] <;> omega))), trivial⟩, ⟨rfl, rfl, rfl, rfl, rfl, trivial⟩, rfl, hE70⟩
  ·
   rintro s72 wL ⟨rfl, hE70⟩
   have szs72 := hE70.size
   have hS := hS.trans0 hE70
   refine k_assign rfl rfl ?_
   refine k_nil ?_
   refine k_keep [(2, _)] ⟨rfl, trivial⟩ ?_
   refine k_ret ?_
   obtain rfl := Option.some.inj h
   refine ⟨_, rfl, Ret.mk hS ?_⟩
   exact rfl

set_option maxHeartbeats 20000000 in
set_option maxRecDepth 100000 in
theorem law06_RevChain_w {s : St} {l0 : Lab} {v0 : Value} {a0 : (List ApiRev)} {r : Bool} (hp0 : SL s l0 v0 17 (a0.map dApiRev)) (tb2 : Tab2 s) (tb0 : Tab0 s) (tb1 : Tab1 s) (h : law06_RevChain a0 = some r) : Calls Tryd.prog 3 #[v0] s.w (Ret s K0 (fun s1 v => v = .bool r)) := by
 unfold law06_RevChain at h
 obtain ⟨lf0, lf0le, lf0ne, hp0⟩ := hp0.fix
 have hS := Step.r0 K0 s
 refine k_fn (rs := [2]) (args := [v0]) Tryd.func3 rfl rfl rfl rfl ?_
 refine k_seq ?_
 refine k_region ?_
 refine k_assign rfl rfl ?_
 refine k_nil ?_
 refine k_seq ?_
 refine k_seq ?_
 refine k_region ?_
 refine k_move rfl rfl ?_
 refine k_len Tryd.underlying22 rfl hp0.hasLen rfl ?_
 refine k_as (v := .int .i64 (a0.length : Int)) (by simp only [List.length_map]) ?_
 refine k_gtr rfl rfl rfl ?_
 refine k_nil ?_
 refine k_keep [(0, _), (2, _), (5, _)] ⟨rfl, rfl, rfl, trivial⟩ ?_
 refine k_cond_dec rfl (fun c1 => ?_) (fun c1 => ?_)
 ·
  have h := itT h c1
  refine k_seq ?_
  refine k_region ?_
  obtain ⟨x1, hx1, h⟩ := ob h
  refine k_call cal7 rfl (law06_awake_w  tb2 tb0 tb1 hx1) rfl ?_
  rintro s2 vr2 st2 rfl
  have szs2 := st2.size
  have hS := hS.trans0 st2
  refine k_assign rfl rfl ?_
  refine k_nil ?_
  refine k_keep [(0, _), (2, _)] ⟨rfl, rfl, trivial⟩ ?_
  refine k_ret ?_
  obtain rfl := Option.some.inj h
  refine ⟨_, rfl, Ret.mk hS ?_⟩
  exact rfl
 ·
  have h := itF h c1
  refine k_skip ?_
  refine k_seq ?_
  refine k_region ?_
  refine k_bslice2 (ds := ([] : List ApiRev).map dApiRev) slc22 rfl RVs.nil (by rfl) (by rfl) rfl rfl ?_
  intro s3 v3 b3 st3 ge3 bl3 h3
  have szs3 := st3.size
  have hS := hS.trans0 st3
  replace hp0 := hp0.up2 st3
  replace tb2 := tb2.up2 st3
  replace tb0 := tb0.up2 st3
  replace tb1 := tb1.up2 st3
  have lt3 := Own.le1 h3
  refine k_move rfl rfl ?_
  obtain ⟨x2, hx2, h⟩ := ob h
  refine k_append (es := a0.map dApiRev) elem22 rfl rfl h3 hp0 (by have := (app_out hx2).1; simp only [List.length_map] at *; omega) (by have := (app_out hx2).1; simp only [List.length_map] at *; omega) rfl ?_
  intro s4 v4 st4 h4
  rw [← List.map_append, ← (app_out hx2).2] at h4
  have szs4 := st4.size
  have hS := hS.c0 st4
  replace hp0 := hp0.up2 st4
  replace tb2 := tb2.up2 st4
  replace tb0 := tb0.up2 st4
  replace tb1 := tb1.up2 st4
  obtain ⟨x3, hx3, h⟩ := ob h
  refine k_call cal8 rfl (rev_Chain_w  (h4.sl) hx3) rfl ?_
  rintro s5 vr5 st5 rfl
  have szs5 := st5.size
  have hS := hS.trans0 st5
  replace hp0 := hp0.up2 st5
  replace tb2 := tb2.up2 st5
  replace tb0 := tb0.up2 st5
  replace tb1 := tb1.up2 st5
  refine k_move rfl rfl ?_
  obtain ⟨x4, hx4, h⟩ := ob h
  refine k_call cal9 rfl (ref06_Chain_w  hp0 hx4) rfl ?_
  rintro s6 vr6 st6 rfl
  have szs6 := st6.size
  have hS := hS.trans0 st6
  replace tb2 := tb2.up2 st6
  replace tb0 := tb0.up2 st6
  replace tb1 := tb1.up2 st6
  refine k_eqlb Tryd.underlying4 rfl rfl rfl ?_
  refine k_move rfl rfl ?_
  obtain ⟨x5, hx5, h⟩ := ob h
  have hE7 := Step.r0 K0 s6
  refine k_cutl (X := St) 2 [(0, v0), (2, .bool false), (5, .bool (decide (60 < (a0.length : Int)))), (8, v0), (9, v4), (10, .bool x3), (11, v0), (12, .bool x4), (13, .bool (x3 == x4))] (fun _ => [(16, .bool x5)]) (fun sl wL => sl.w = wL ∧ Step K0 s6 sl) ?_ ?_
  ·
   refine k_again 14 rfl ?_
   refine k_splitb (fun c8 => ?_) (fun c8 => ?_)
   ·
    have hx5 := ibT hx5 c8
    refine k_yes rfl rfl ?_
    obtain ⟨x6, hx6, hx5⟩ := ob hx5
    refine k_call cal7 rfl (law06_awake_w  tb2 tb0 tb1 hx6) rfl ?_
    rintro s9 vr9 st9 rfl
    have szs9 := st9.size
    have hS := hS.trans0 st9
    have hE7 := hE7.trans0 st9
    refine k_pickT rfl rfl rfl rfl ?_
    exact k_met ⟨s9, ⟨(congrArg (fun b => some (Value.bool b)) (Option.some.inj hx5)), trivial⟩, ⟨rfl, rfl, rfl, rfl, rfl, rfl, rfl, rfl, rfl, trivial⟩, rfl, hE7⟩
   ·
    have hx5 := ibF hx5 c8
    refine k_no rfl rfl rfl rfl ?_
    refine k_pickF rfl rfl rfl rfl ?_
    exact k_met ⟨s6, ⟨(congrArg (fun b => some (Value.bool b)) (Option.some.inj hx5)), trivial⟩, ⟨rfl, rfl, rfl, rfl, rfl, rfl, rfl, rfl, rfl, trivial⟩, rfl, hE7⟩
  ·
   rintro s10 wL ⟨rfl, hE7⟩
   have szs10 := hE7.size
   have hS := hS.trans0 hE7
   refine k_assign rfl rfl ?_
   refine k_nil ?_
   refine k_keep [(2, _)] ⟨rfl, trivial⟩ ?_
   refine k_ret ?_
   obtain rfl := Option.some.inj h
   refine ⟨_, rfl, Ret.mk hS ?_⟩
   exact rfl
end Go.Proofs
