import Derived.Test.YtdofbkomeadjgaaDoorW06DRevBack2
set_option linter.unusedSimpArgs false
set_option linter.unusedVariables false
namespace Go.Proofs
open Go.Fw
set_option maxHeartbeats 20000000 in
set_option maxRecDepth 100000 in
theorem law06_awake_w {s : St}  {r : Bool} (tb2 : Tab2 s) (tb0 : Tab0 s) (tb1 : Tab1 s) (h : law06_awake = some r) : Calls Tryd.prog 7 #[] s.w (Ret s K0 (fun s1 v => v = .bool r)) := by
 unfold law06_awake at h
 have hS := Step.r0 K0 s
 refine k_fn (rs := [0]) (args := []) Tryd.func7 rfl rfl rfl rfl ?_
 refine k_seq ?_
 refine k_region ?_
 refine k_assign rfl rfl ?_
 refine k_nil ?_
 refine k_seq ?_
 refine k_region ?_
 refine k_build plc29 zero29 rfl Parts.nil (by rfl) rfl ?_
 refine k_as (v := .agg #[.int .u64 0, .int .u8 0, .int .u8 0, .int .u8 0, .int .u8 0, .int .u8 0, .int .u8 0, .int .u8 0, .int .u8 0, .int .u8 0, .int .u8 0, .int .u8 0, .int .u8 0, .int .u8 0, .int .u8 0, .int .u8 0, .int .u8 0]) rfl ?_
 refine k_build plc34 zero34 rfl Parts.nil (by rfl) rfl ?_
 refine k_as (v := .agg #[.int .i64 0, .int .i64 0, S ([] : List UInt8), .slice none 0 0, .slice none 0 0]) rfl ?_
 obtain ⟨x1, hx1, h⟩ := ob h
 refine k_call cal11 rfl (rev_Make_w  (clsApiRev (⟨(0 : UInt64), (⟨(0 : UInt8), (0 : UInt8), (0 : UInt8), (0 : UInt8), (0 : UInt8), (0 : UInt8), (0 : UInt8), (0 : UInt8), (0 : UInt8), (0 : UInt8), (0 : UInt8), (0 : UInt8), (0 : UInt8), (0 : UInt8), (0 : UInt8), (0 : UInt8)⟩ : St27)⟩ : ApiRev)) (clsApiValue (⟨0, 0, ([] : List UInt8), [], []⟩ : ApiValue) (R.of_SL (.inl ⟨rfl, none, 0, rfl, fun _ => rfl⟩)) (R.of_SL (.inl ⟨rfl, none, 0, rfl, fun _ => rfl⟩))) tb2 hx1) rfl ?_
 rintro s1 vr1 st1 ⟨cs1_0, rfl, h1_0⟩
 have szs1 := st1.size
 have hS := hS.trans0 st1
 replace tb2 := tb2.up2 st1
 replace tb0 := tb0.up2 st1
 replace tb1 := tb1.up2 st1
 obtain rfl := opnApiRev h1_0
 refine k_move rfl rfl ?_
 refine k_extract rfl rfl rfl ?_
 refine k_extract rfl rfl rfl ?_
 refine k_alloc zero29 rfl ?_
 intro s2 b2 st2 h2 ge2
 have szs2 := st2.size
 have hS := hS.trans0 st2
 replace tb2 := tb2.up2 st2
 replace tb0 := tb0.up2 st2
 replace tb1 := tb1.up2 st2
 have lt2 := h2.lt
 refine k_store_c (cs' := [.int .u64 (x1.1.Gen.toNat : Int), .int .u8 (x1.1.Sum.e0.toNat : Int), .int .u8 (x1.1.Sum.e1.toNat : Int), .int .u8 (x1.1.Sum.e2.toNat : Int), .int .u8 (x1.1.Sum.e3.toNat : Int), .int .u8 (x1.1.Sum.e4.toNat : Int), .int .u8 (x1.1.Sum.e5.toNat : Int), .int .u8 (x1.1.Sum.e6.toNat : Int), .int .u8 (x1.1.Sum.e7.toNat : Int), .int .u8 (x1.1.Sum.e8.toNat : Int), .int .u8 (x1.1.Sum.e9.toNat : Int), .int .u8 (x1.1.Sum.e10.toNat : Int), .int .u8 (x1.1.Sum.e11.toNat : Int), .int .u8 (x1.1.Sum.e12.toNat : Int), .int .u8 (x1.1.Sum.e13.toNat : Int), .int .u8 (x1.1.Sum.e14.toNat : Int), .int .u8 (x1.1.Sum.e15.toNat : Int)]) size29 rfl rfl h2 (by first | (simp; done) | omega | (dsimp only; omega)) (CellsOf.lit rfl rfl) rfl (by first | rfl | (simp; done) | (simp; omega)) rfl ?_
 intro s3 st3 h2
 have szs3 := st3.size
 have hS := hS.c0 st3
 replace tb2 := tb2.up2 st3
 replace tb0 := tb0.up2 st3
 replace tb1 := tb1.up2 st3
 refine k_assign rfl rfl ?_
 refine k_nil ?_
 refine k_keep [(0, _), (1, _), (2, _)] ⟨rfl, rfl, rfl, trivial⟩ ?_
 refine k_seq ?_
 refine k_region ?_
 refine k_load_blka (cs := [.int .u64 (x1.1.Gen.toNat : Int), .int .u8 (x1.1.Sum.e0.toNat : Int), .int .u8 (x1.1.Sum.e1.toNat : Int), .int .u8 (x1.1.Sum.e2.toNat : Int), .int .u8 (x1.1.Sum.e3.toNat : Int), .int .u8 (x1.1.Sum.e4.toNat : Int), .int .u8 (x1.1.Sum.e5.toNat : Int), .int .u8 (x1.1.Sum.e6.toNat : Int), .int .u8 (x1.1.Sum.e7.toNat : Int), .int .u8 (x1.1.Sum.e8.toNat : Int), .int .u8 (x1.1.Sum.e9.toNat : Int), .int .u8 (x1.1.Sum.e10.toNat : Int), .int .u8 (x1.1.Sum.e11.toNat : Int), .int .u8 (x1.1.Sum.e12.toNat : Int), .int .u8 (x1.1.Sum.e13.toNat : Int), .int .u8 (x1.1.Sum.e14.toNat : Int), .int .u8 (x1.1.Sum.e15.toNat : Int)]) agg29 rfl h2 rfl ?_
 refine k_build plc34 zero34 rfl Parts.nil (by rfl) rfl ?_
 refine k_as (v := .agg #[.int .i64 0, .int .i64 0, S ([] : List UInt8), .slice none 0 0, .slice none 0 0]) rfl ?_
 obtain ⟨x2, hx2, h⟩ := ob h
 refine k_call cal11 rfl (rev_Make_w  (clsApiRev x1.1) (clsApiValue (⟨0, 0, ([] : List UInt8), [], []⟩ : ApiValue) (R.of_SL (.inl ⟨rfl, none, 0, rfl, fun _ => rfl⟩)) (R.of_SL (.inl ⟨rfl, none, 0, rfl, fun _ => rfl⟩))) tb2 hx2) rfl ?_
 rintro s4 vr4 st4 ⟨cs4_0, rfl, h4_0⟩
 have szs4 := st4.size
 have hS := hS.trans0 st4
 replace h2 := h2.up2 st4
 replace tb2 := tb2.up2 st4
 replace tb0 := tb0.up2 st4
 replace tb1 := tb1.up2 st4
 obtain rfl := opnApiRev h4_0
 refine k_move rfl rfl ?_
 refine k_extract rfl rfl rfl ?_
 refine k_extract rfl rfl rfl ?_
 refine k_alloc zero29 rfl ?_
 intro s5 b5 st5 h5 ge5
 have szs5 := st5.size
 have hS := hS.trans0 st5
 replace h2 := h2.up2 st5
 replace tb2 := tb2.up2 st5
 replace tb0 := tb0.up2 st5
 replace tb1 := tb1.up2 st5
 have lt5 := h5.lt
 refine k_store_c (cs' := [.int .u64 (x2.1.Gen.toNat : Int), .int .u8 (x2.1.Sum.e0.toNat : Int), .int .u8 (x2.1.Sum.e1.toNat : Int), .int .u8 (x2.1.Sum.e2.toNat : Int), .int .u8 (x2.1.Sum.e3.toNat : Int), .int .u8 (x2.1.Sum.e4.toNat : Int), .int .u8 (x2.1.Sum.e5.toNat : Int), .int .u8 (x2.1.Sum.e6.toNat : Int), .int .u8 (x2.1.Sum.e7.toNat : Int), .int .u8 (x2.1.Sum.e8.toNat : Int), .int .u8 (x2.1.Sum.e9.toNat : Int), .int .u8 (x2.1.Sum.e10.toNat : Int), .int .u8 (x2.1.Sum.e11.toNat : Int), .int .u8 (x2.1.Sum.e12.toNat : Int), .int .u8 (x2.1.Sum.e13.toNat : Int), .int .u8 (x2.1.Sum.e14.toNat : Int), .int .u8 (x2.1.Sum.e15.toNat : Int)]) size29 rfl rfl h5 (by first | (simp; done) | omega | (dsimp only; omega)) (CellsOf.lit rfl rfl) rfl (by first | rfl | (simp; done) | (simp; omega)) rfl ?_
 intro s6 st6 h5
 have szs6 := st6.size
 have hS := hS.c0 st6
 replace h2 := h2.up2 st6
 replace tb2 := tb2.up2 st6
 replace tb0 := tb0.up2 st6
 replace tb1 := tb1.up2 st6
 refine k_assign rfl rfl ?_
 refine k_nil ?_
 refine k_keep [(0, _), (1, _), (2, _), (3, _), (4, _)] ⟨rfl, rfl, rfl, rfl, rfl, trivial⟩ ?_
 refine k_seq ?_
 refine k_region ?_
 obtain ⟨x3, hx3, h⟩ := ob h
 refine k_call cal17 rfl (rev_Parse_w  tb0 tb1 tb2 hx3) rfl ?_
 rintro s7 vr7 st7 ⟨cs7_0, rfl, h7_0⟩
 have szs7 := st7.size
 have hS := hS.trans0 st7
 replace h2 := h2.up2 st7
 replace h5 := h5.up2 st7
 replace tb2 := tb2.up2 st7
 replace tb0 := tb0.up2 st7
 replace tb1 := tb1.up2 st7
 obtain rfl := opnApiRev h7_0
 refine k_move rfl rfl ?_
 refine k_extract rfl rfl rfl ?_
 refine k_extract rfl rfl rfl ?_
 refine k_alloc zero29 rfl ?_
 intro s8 b8 st8 h8 ge8
 have szs8 := st8.size
 have hS := hS.trans0 st8
 replace h2 := h2.up2 st8
 replace h5 := h5.up2 st8
 replace tb2 := tb2.up2 st8
 replace tb0 := tb0.up2 st8
 replace tb1 := tb1.up2 st8
 have lt8 := h8.lt
 refine k_store_c (cs' := [.int .u64 (x3.1.Gen.toNat : Int), .int .u8 (x3.1.Sum.e0.toNat : Int), .int .u8 (x3.1.Sum.e1.toNat : Int), .int .u8 (x3.1.Sum.e2.toNat : Int), .int .u8 (x3.1.Sum.e3.toNat : Int), .int .u8 (x3.1.Sum.e4.toNat : Int), .int .u8 (x3.1.Sum.e5.toNat : Int), .int .u8 (x3.1.Sum.e6.toNat : Int), .int .u8 (x3.1.Sum.e7.toNat : Int), .int .u8 (x3.1.Sum.e8.toNat : Int), .int .u8 (x3.1.Sum.e9.toNat : Int), .int .u8 (x3.1.Sum.e10.toNat : Int), .int .u8 (x3.1.Sum.e11.toNat : Int), .int .u8 (x3.1.Sum.e12.toNat : Int), .int .u8 (x3.1.Sum.e13.toNat : Int), .int .u8 (x3.1.Sum.e14.toNat : Int), .int .u8 (x3.1.Sum.e15.toNat : Int)]) size29 rfl rfl h8 (by first | (simp; done) | omega | (dsimp only; omega)) (CellsOf.lit rfl rfl) rfl (by first | rfl | (simp; done) | (simp; omega)) rfl ?_
 intro s9 st9 h8
 have szs9 := st9.size
 have hS := hS.c0 st9
 replace h2 := h2.up2 st9
 replace h5 := h5.up2 st9
 replace tb2 := tb2.up2 st9
 replace tb0 := tb0.up2 st9
 replace tb1 := tb1.up2 st9
 refine k_assign rfl rfl ?_
 refine k_nil ?_
 refine k_keep [(0, _), (1, _), (2, _), (3, _), (4, _), (5, _), (6, _)] ⟨rfl, rfl, rfl, rfl, rfl, rfl, rfl, trivial⟩ ?_
 refine k_seq ?_
 refine k_region ?_
 obtain ⟨x4, hx4, h⟩ := ob h
 refine k_call cal17 rfl (rev_Parse_w  tb0 tb1 tb2 hx4) rfl ?_
 rintro s10 vr10 st10 ⟨cs10_0, rfl, h10_0⟩
 have szs10 := st10.size
 have hS := hS.trans0 st10
 replace h2 := h2.up2 st10
 replace h5 := h5.up2 st10
 replace h8 := h8.up2 st10
 obtain rfl := opnApiRev h10_0
 refine k_move rfl rfl ?_
 refine k_extract rfl rfl rfl ?_
 refine k_extract rfl rfl rfl ?_
 refine k_alloc zero29 rfl ?_
 intro s11 b11 st11 h11 ge11
 have szs11 := st11.size
 have hS := hS.trans0 st11
 replace h2 := h2.up2 st11
 replace h5 := h5.up2 st11
 replace h8 := h8.up2 st11
 have lt11 := h11.lt
 refine k_store_c (cs' := [.int .u64 (x4.1.Gen.toNat : Int), .int .u8 (x4.1.Sum.e0.toNat : Int), .int .u8 (x4.1.Sum.e1.toNat : Int), .int .u8 (x4.1.Sum.e2.toNat : Int), .int .u8 (x4.1.Sum.e3.toNat : Int), .int .u8 (x4.1.Sum.e4.toNat : Int), .int .u8 (x4.1.Sum.e5.toNat : Int), .int .u8 (x4.1.Sum.e6.toNat : Int), .int .u8 (x4.1.Sum.e7.toNat : Int), .int .u8 (x4.1.Sum.e8.toNat : Int), .int .u8 (x4.1.Sum.e9.toNat : Int), .int .u8 (x4.1.Sum.e10.toNat : Int), .int .u8 (x4.1.Sum.e11.toNat : Int), .int .u8 (x4.1.Sum.e12.toNat : Int), .int .u8 (x4.1.Sum.e13.toNat : Int), .int .u8 (x4.1.Sum.e14.toNat : Int), .int .u8 (x4.1.Sum.e15.toNat : Int)]) size29 rfl rfl h11 (by first | (simp; done) | omega | (dsimp only; omega)) (CellsOf.lit rfl rfl) rfl (by first | rfl | (simp; done) | (simp; omega)) rfl ?_
 intro s12 st12 h11
 have szs12 := st12.size
 have hS := hS.c0 st12
 replace h2 := h2.up2 st12
 replace h5 := h5.up2 st12
 replace h8 := h8.up2 st12
 refine k_assign rfl rfl ?_
 refine k_nil ?_
 refine k_keep [(0, _), (1, _), (2, _), (3, _), (4, _), (5, _), (6, _), (8, _)] ⟨rfl, rfl, rfl, rfl, rfl, rfl, rfl, rfl, trivial⟩ ?_
 refine k_seq ?_
 refine k_region ?_
 refine k_move rfl rfl ?_
 refine k_eql rfl rfl rfl ?_
 refine k_move rfl rfl ?_
 have hE13 := Step.r0 K0 s12
 refine k_cutl (X := St) 3 [(0, .bool false), (1, .pointer (some ⟨b2, 0, none⟩)), (2, .int .i64 x1.2), (3, .pointer (some ⟨b5, 0, none⟩)), (4, .int .i64 x2.2), (5, .pointer (some ⟨b8, 0, none⟩)), (6, .int .i64 x3.2), (8, .int .i64 x4.2), (29, .int .i64 x1.2), (30, .bool (decide (x1.2 = 0)))] (fun _ => [(34, .bool (decide ((x1.2 = 0) ∧ (x2.2 = 0))))]) (fun sl wL => sl.w = wL ∧ Step K0 s12 sl) ?_ ?_
 ·
  refine k_again 31 rfl ?_
  refine k_split (fun c14 => ?_) (fun c14 => ?_)
  ·
   refine k_yes rfl rfl ?_
   refine k_move rfl rfl ?_
   refine k_yes rfl rfl ?_
   refine k_eql rfl rfl rfl ?_
   refine k_pickT rfl rfl rfl rfl ?_
   exact k_met ⟨s12, ⟨(congrArg (fun b => some (Value.bool b)) (by first | exact decide_eq_decide.2 ⟨fun h => ⟨c14, h⟩, fun h => h.2⟩ | exact (decide_eq_false (fun h => c14 h.1)).symm | (simp [c14]; done) | exact dec_andT c14 | exact dec_andF c14 | exact dec_orF c14 | exact dec_orT c14 | (simp [c14, i64] <;> omega))), trivial⟩, ⟨rfl, rfl, rfl, rfl, rfl, rfl, rfl, rfl, rfl, rfl, trivial⟩, rfl, hE13⟩
  ·
   refine k_no rfl rfl rfl rfl ?_
   refine k_no rfl rfl rfl rfl ?_
   refine k_pickF rfl rfl rfl rfl ?_
   exact k_met ⟨s12, ⟨(congrArg (fun b => some (Value.bool b)) (by first | exact decide_eq_decide.2 ⟨fun h => ⟨c14, h⟩, fun h => h.2⟩ | exact (decide_eq_false (fun h => c14 h.1)).symm | (simp [c14]; done) | exact dec_andT c14 | exact dec_andF c14 | exact dec_orF c14 | exact dec_orT c14 | (simp [c14, i64] <;> omega))), trivial⟩, ⟨rfl, rfl, rfl, rfl, rfl, rfl, rfl, rfl, rfl, rfl, trivial⟩, rfl, hE13⟩
 ·
  rintro s15 wL ⟨rfl, hE13⟩
  have szs15 := hE13.size
  have hS := hS.trans0 hE13
  replace h2 := h2.up2 hE13
  replace h5 := h5.up2 hE13
  replace h8 := h8.up2 hE13
  refine k_move rfl rfl ?_
  have hE16 := Step.r0 K0 s15
  refine k_cutl (X := St) 4 [(0, .bool false), (1, .pointer (some ⟨b2, 0, none⟩)), (2, .int .i64 x1.2), (3, .pointer (some ⟨b5, 0, none⟩)), (4, .int .i64 x2.2), (5, .pointer (some ⟨b8, 0, none⟩)), (6, .int .i64 x3.2), (8, .int .i64 x4.2), (29, .int .i64 x1.2), (30, .bool (decide (x1.2 = 0))), (34, .bool (decide ((x1.2 = 0) ∧ (x2.2 = 0))))] (fun _ => [(39, .bool (decide (((x1.2 = 0) ∧ (x2.2 = 0)) ∧ ((x1.1.Gen.toNat : Int) = 1))))]) (fun sl wL => sl.w = wL ∧ Step K0 s15 sl) ?_ ?_
  ·
   refine k_again 35 rfl ?_
   refine k_split (fun c17 => ?_) (fun c17 => ?_)
   ·
    refine k_yes rfl rfl ?_
    refine k_field_addr fld29_0 rfl rfl ?_
    refine k_yes rfl rfl ?_
    refine k_load_blk one26 rfl h2 rfl rfl ?_
    refine k_yes rfl rfl ?_
    refine k_eql rfl rfl rfl ?_
    refine k_pickT rfl rfl rfl rfl ?_
    exact k_met ⟨s15, ⟨(congrArg (fun b => some (Value.bool b)) (by first | exact decide_eq_decide.2 ⟨fun h => ⟨c17, h⟩, fun h => h.2⟩ | exact (decide_eq_false (fun h => c17 h.1)).symm | (simp [c17]; done) | exact dec_andT c17 | exact dec_andF c17 | exact dec_orF c17 | exact dec_orT c17 | (simp [c17, i64] <;> omega))), trivial⟩, ⟨rfl, rfl, rfl, rfl, rfl, rfl, rfl, rfl, rfl, rfl, rfl, trivial⟩, rfl, hE16⟩
   ·
    refine k_no rfl rfl rfl rfl ?_
    refine k_no rfl rfl rfl rfl ?_
    refine k_no rfl rfl rfl rfl ?_
    refine k_pickF rfl rfl rfl rfl ?_
    exact k_met ⟨s15, ⟨(congrArg (fun b => some (Value.bool b)) (by first | exact decide_eq_decide.2 ⟨fun h => ⟨c17, h⟩, fun h => h.2⟩ | exact (decide_eq_false (fun h => c17 h.1)).symm | (simp [c17]; done) | exact dec_andT c17 | exact dec_andF c17 | exact dec_orF c17 | exact dec_orT c17 | (simp [c17, i64] <;> omega))), trivial⟩, ⟨rfl, rfl, rfl, rfl, rfl, rfl, rfl, rfl, rfl, rfl, rfl, trivial⟩, rfl, hE16⟩
  ·
   rintro s18 wL ⟨rfl, hE16⟩
   have szs18 := hE16.size
   have hS := hS.trans0 hE16
   replace h2 := h2.up2 hE16
   replace h5 := h5.up2 hE16
   replace h8 := h8.up2 hE16
   refine k_move rfl rfl ?_
   have hE19 := Step.r0 K0 s18
   refine k_cutl (X := St) 4 [(0, .bool false), (1, .pointer (some ⟨b2, 0, none⟩)), (2, .int .i64 x1.2), (3, .pointer (some ⟨b5, 0, none⟩)), (4, .int .i64 x2.2), (5, .pointer (some ⟨b8, 0, none⟩)), (6, .int .i64 x3.2), (8, .int .i64 x4.2), (29, .int .i64 x1.2), (30, .bool (decide (x1.2 = 0))), (34, .bool (decide ((x1.2 = 0) ∧ (x2.2 = 0)))), (39, .bool (decide (((x1.2 = 0) ∧ (x2.2 = 0)) ∧ ((x1.1.Gen.toNat : Int) = 1))))] (fun _ => [(44, .bool (decide ((((x1.2 = 0) ∧ (x2.2 = 0)) ∧ ((x1.1.Gen.toNat : Int) = 1)) ∧ ((x2.1.Gen.toNat : Int) = 2))))]) (fun sl wL => sl.w = wL ∧ Step K0 s18 sl) ?_ ?_
   ·
    refine k_again 40 rfl ?_
    refine k_split (fun c20 => ?_) (fun c20 => ?_)
    ·
     refine k_yes rfl rfl ?_
     refine k_field_addr fld29_0 rfl rfl ?_
     refine k_yes rfl rfl ?_
     refine k_load_blk one26 rfl h5 rfl rfl ?_
     refine k_yes rfl rfl ?_
     refine k_eql rfl rfl rfl ?_
     refine k_pickT rfl rfl rfl rfl ?_
     exact k_met ⟨s18, ⟨(congrArg (fun b => some (Value.bool b)) (by first | exact decide_eq_decide.2 ⟨fun h => ⟨c20, h⟩, fun h => h.2⟩ | exact (decide_eq_false (fun h => c20 h.1)).symm | (simp [c20]; done) | exact dec_andT c20 | exact dec_andF c20 | exact dec_orF c20 | exact dec_orT c20 | (simp [c20, i64] <;> omega))), trivial⟩, ⟨rfl, rfl, rfl, rfl, rfl, rfl, rfl, rfl, rfl, rfl, rfl, rfl, trivial⟩, rfl, hE19⟩
    ·
     refine k_no rfl rfl rfl rfl ?_
     refine k_no rfl rfl rfl rfl ?_
     refine k_no rfl rfl rfl rfl ?_
     refine k_pickF rfl rfl rfl rfl ?_
     exact k_met ⟨s18, ⟨(congrArg (fun b => some (Value.bool b)) (by first | exact decide_eq_decide.2 ⟨fun h => ⟨c20, h⟩, fun h => h.2⟩ | exact (decide_eq_false (fun h => c20 h.1)).symm | (simp [c20]; done) | exact dec_andT c20 | exact dec_andF c20 | exact dec_orF c20 | exact dec_orT c20 | (simp [c20, i64] <;> omega))), trivial⟩, ⟨rfl, rfl, rfl, rfl, rfl, rfl, rfl, rfl, rfl, rfl, rfl, rfl, trivial⟩, rfl, hE19⟩
   ·
    rintro s21 wL ⟨rfl, hE19⟩
    have szs21 := hE19.size
    have hS := hS.trans0 hE19
    replace h2 := h2.up2 hE19
    replace h5 := h5.up2 hE19
    replace h8 := h8.up2 hE19
    refine k_move rfl rfl ?_
    have hE22 := Step.r0 K0 s21
    refine k_cutl (X := St) 3 [(0, .bool false), (1, .pointer (some ⟨b2, 0, none⟩)), (2, .int .i64 x1.2), (3, .pointer (some ⟨b5, 0, none⟩)), (4, .int .i64 x2.2), (5, .pointer (some ⟨b8, 0, none⟩)), (6, .int .i64 x3.2), (8, .int .i64 x4.2), (29, .int .i64 x1.2), (30, .bool (decide (x1.2 = 0))), (34, .bool (decide ((x1.2 = 0) ∧ (x2.2 = 0)))), (39, .bool (decide (((x1.2 = 0) ∧ (x2.2 = 0)) ∧ ((x1.1.Gen.toNat : Int) = 1)))), (44, .bool (decide ((((x1.2 = 0) ∧ (x2.2 = 0)) ∧ ((x1.1.Gen.toNat : Int) = 1)) ∧ ((x2.1.Gen.toNat : Int) = 2))))] (fun _ => [(48, .bool (decide (((((x1.2 = 0) ∧ (x2.2 = 0)) ∧ ((x1.1.Gen.toNat : Int) = 1)) ∧ ((x2.1.Gen.toNat : Int) = 2)) ∧ (x3.2 = 0))))]) (fun sl wL => sl.w = wL ∧ Step K0 s21 sl) ?_ ?_
    ·
     refine k_again 45 rfl ?_
     refine k_split (fun c23 => ?_) (fun c23 => ?_)
     ·
      refine k_yes rfl rfl ?_
      refine k_move rfl rfl ?_
      refine k_yes rfl rfl ?_
      refine k_eql rfl rfl rfl ?_
      refine k_pickT rfl rfl rfl rfl ?_
      exact k_met ⟨s21, ⟨(congrArg (fun b => some (Value.bool b)) (by first | exact decide_eq_decide.2 ⟨fun h => ⟨c23, h⟩, fun h => h.2⟩ | exact (decide_eq_false (fun h => c23 h.1)).symm | (simp [c23]; done) | exact dec_andT c23 | exact dec_andF c23 | exact dec_orF c23 | exact dec_orT c23 | (simp [c23, i64] <;> omega))), trivial⟩, ⟨rfl, rfl, rfl, rfl, rfl, rfl, rfl, rfl, rfl, rfl, rfl, rfl, rfl, trivial⟩, rfl, hE22⟩
     ·
      refine k_no rfl rfl rfl rfl ?_
      refine k_no rfl rfl rfl rfl ?_
      refine k_pickF rfl rfl rfl rfl ?_
      exact k_met ⟨s21, ⟨(congrArg (fun b => some (Value.bool b)) (by first | exact decide_eq_decide.2 ⟨fun h => ⟨c23, h⟩, fun h => h.2⟩ | exact (decide_eq_false (fun h => c23 h.1)).symm | (simp [c23]; done) | exact dec_andT c23 | exact dec_andF c23 | exact dec_orF c23 | exact dec_orT c23 | (simp [c23, i64] <;> omega))), trivial⟩, ⟨rfl, rfl, rfl, rfl, rfl, rfl, rfl, rfl, rfl, rfl, rfl, rfl, rfl, trivial⟩, rfl, hE22⟩
    ·
     rintro s24 wL ⟨rfl, hE22⟩
     have szs24 := hE22.size
     have hS := hS.trans0 hE22
     replace h2 := h2.up2 hE22
     replace h5 := h5.up2 hE22
     replace h8 := h8.up2 hE22
     refine k_move rfl rfl ?_
     have hE25 := Step.r0 K0 s24
     refine k_cutl (X := St) 4 [(0, .bool false), (1, .pointer (some ⟨b2, 0, none⟩)), (2, .int .i64 x1.2), (3, .pointer (some ⟨b5, 0, none⟩)), (4, .int .i64 x2.2), (5, .pointer (some ⟨b8, 0, none⟩)), (6, .int .i64 x3.2), (8, .int .i64 x4.2), (29, .int .i64 x1.2), (30, .bool (decide (x1.2 = 0))), (34, .bool (decide ((x1.2 = 0) ∧ (x2.2 = 0)))), (39, .bool (decide (((x1.2 = 0) ∧ (x2.2 = 0)) ∧ ((x1.1.Gen.toNat : Int) = 1)))), (44, .bool (decide ((((x1.2 = 0) ∧ (x2.2 = 0)) ∧ ((x1.1.Gen.toNat : Int) = 1)) ∧ ((x2.1.Gen.toNat : Int) = 2)))), (48, .bool (decide (((((x1.2 = 0) ∧ (x2.2 = 0)) ∧ ((x1.1.Gen.toNat : Int) = 1)) ∧ ((x2.1.Gen.toNat : Int) = 2)) ∧ (x3.2 = 0))))] (fun _ => [(53, .bool (decide ((((((x1.2 = 0) ∧ (x2.2 = 0)) ∧ ((x1.1.Gen.toNat : Int) = 1)) ∧ ((x2.1.Gen.toNat : Int) = 2)) ∧ (x3.2 = 0)) ∧ ((x3.1.Gen.toNat : Int) = 2 ∧ ([x3.1.Sum.e0, x3.1.Sum.e1, x3.1.Sum.e2, x3.1.Sum.e3, x3.1.Sum.e4, x3.1.Sum.e5, x3.1.Sum.e6, x3.1.Sum.e7, x3.1.Sum.e8, x3.1.Sum.e9, x3.1.Sum.e10, x3.1.Sum.e11, x3.1.Sum.e12, x3.1.Sum.e13, x3.1.Sum.e14, x3.1.Sum.e15] : List UInt8) = ([(0 : UInt8), (0 : UInt8), (0 : UInt8), (0 : UInt8), (0 : UInt8), (0 : UInt8), (0 : UInt8), (0 : UInt8), (0 : UInt8), (0 : UInt8), (0 : UInt8), (0 : UInt8), (0 : UInt8), (0 : UInt8), (0 : UInt8), (0 : UInt8)] : List UInt8)))))]) (fun sl wL => sl.w = wL ∧ Step K0 s24 sl) ?_ ?_
     ·
      refine k_again 49 rfl ?_
      refine k_split (fun c26 => ?_) (fun c26 => ?_)
      ·
       refine k_yes rfl rfl ?_
       refine k_load_blka (cs := [.int .u64 (x3.1.Gen.toNat : Int), .int .u8 (x3.1.Sum.e0.toNat : Int), .int .u8 (x3.1.Sum.e1.toNat : Int), .int .u8 (x3.1.Sum.e2.toNat : Int), .int .u8 (x3.1.Sum.e3.toNat : Int), .int .u8 (x3.1.Sum.e4.toNat : Int), .int .u8 (x3.1.Sum.e5.toNat : Int), .int .u8 (x3.1.Sum.e6.toNat : Int), .int .u8 (x3.1.Sum.e7.toNat : Int), .int .u8 (x3.1.Sum.e8.toNat : Int), .int .u8 (x3.1.Sum.e9.toNat : Int), .int .u8 (x3.1.Sum.e10.toNat : Int), .int .u8 (x3.1.Sum.e11.toNat : Int), .int .u8 (x3.1.Sum.e12.toNat : Int), .int .u8 (x3.1.Sum.e13.toNat : Int), .int .u8 (x3.1.Sum.e14.toNat : Int), .int .u8 (x3.1.Sum.e15.toNat : Int)]) agg29 rfl h8 rfl ?_
       refine k_yes rfl rfl ?_
       refine k_build plc29 zero29 rfl (Parts.cons (CellsOf.lit rfl rfl).1 Parts.nil) (by rfl) rfl ?_
       refine k_as (v := .agg #[.int .u64 2, .int .u8 0, .int .u8 0, .int .u8 0, .int .u8 0, .int .u8 0, .int .u8 0, .int .u8 0, .int .u8 0, .int .u8 0, .int .u8 0, .int .u8 0, .int .u8 0, .int .u8 0, .int .u8 0, .int .u8 0, .int .u8 0]) rfl ?_
       refine k_yes rfl rfl ?_
       refine k_eql_fb (a := (x3.1.Gen.toNat : Int)) (b := 2) (xs := ([x3.1.Sum.e0, x3.1.Sum.e1, x3.1.Sum.e2, x3.1.Sum.e3, x3.1.Sum.e4, x3.1.Sum.e5, x3.1.Sum.e6, x3.1.Sum.e7, x3.1.Sum.e8, x3.1.Sum.e9, x3.1.Sum.e10, x3.1.Sum.e11, x3.1.Sum.e12, x3.1.Sum.e13, x3.1.Sum.e14, x3.1.Sum.e15] : List UInt8)) (ys := ([(0 : UInt8), (0 : UInt8), (0 : UInt8), (0 : UInt8), (0 : UInt8), (0 : UInt8), (0 : UInt8), (0 : UInt8), (0 : UInt8), (0 : UInt8), (0 : UInt8), (0 : UInt8), (0 : UInt8), (0 : UInt8), (0 : UInt8), (0 : UInt8)] : List UInt8)) flatB29 rfl rfl rfl rfl rfl ?_
       refine k_pickT rfl rfl rfl rfl ?_
       exact k_met ⟨s24, ⟨(congrArg (fun b => some (Value.bool b)) (by first | exact decide_eq_decide.2 ⟨fun h => ⟨c26, h⟩, fun h => h.2⟩ | exact (decide_eq_false (fun h => c26 h.1)).symm | (simp [c26]; done) | exact dec_andT c26 | exact dec_andF c26 | exact dec_orF c26 | exact dec_orT c26 | (simp [c26, i64] <;> omega))), trivial⟩, ⟨rfl, rfl, rfl, rfl, rfl, rfl, rfl, rfl, rfl, rfl, rfl, rfl, rfl, rfl, trivial⟩, rfl, hE25⟩
      ·
       refine k_no rfl rfl rfl rfl ?_
       refine k_no rfl rfl rfl rfl ?_
       refine k_no rfl rfl rfl rfl ?_
       refine k_pickF rfl rfl rfl rfl ?_
       exact k_met ⟨s24, ⟨(congrArg (fun b => some (Value.bool b)) (by first | exact decide_eq_decide.2 ⟨fun h => ⟨c26, h⟩, fun h => h.2⟩ | exact (decide_eq_false (fun h => c26 h.1)).symm | (simp [c26]; done) | exact dec_andT c26 | exact dec_andF c26 | exact dec_orF c26 | exact dec_orT c26 | (simp [c26, i64] <;> omega))), trivial⟩, ⟨rfl, rfl, rfl, rfl, rfl, rfl, rfl, rfl, rfl, rfl, rfl, rfl, rfl, rfl, trivial⟩, rfl, hE25⟩
     ·
      rintro s27 wL ⟨rfl, hE25⟩
      have szs27 := hE25.size
      have hS := hS.trans0 hE25
      replace h2 := h2.up2 hE25
      replace h5 := h5.up2 hE25
      refine k_move rfl rfl ?_
      have hE28 := Step.r0 K0 s27
      refine k_cutl (X := St) 3 [(0, .bool false), (1, .pointer (some ⟨b2, 0, none⟩)), (2, .int .i64 x1.2), (3, .pointer (some ⟨b5, 0, none⟩)), (4, .int .i64 x2.2), (5, .pointer (some ⟨b8, 0, none⟩)), (6, .int .i64 x3.2), (8, .int .i64 x4.2), (29, .int .i64 x1.2), (30, .bool (decide (x1.2 = 0))), (34, .bool (decide ((x1.2 = 0) ∧ (x2.2 = 0)))), (39, .bool (decide (((x1.2 = 0) ∧ (x2.2 = 0)) ∧ ((x1.1.Gen.toNat : Int) = 1)))), (44, .bool (decide ((((x1.2 = 0) ∧ (x2.2 = 0)) ∧ ((x1.1.Gen.toNat : Int) = 1)) ∧ ((x2.1.Gen.toNat : Int) = 2)))), (48, .bool (decide (((((x1.2 = 0) ∧ (x2.2 = 0)) ∧ ((x1.1.Gen.toNat : Int) = 1)) ∧ ((x2.1.Gen.toNat : Int) = 2)) ∧ (x3.2 = 0)))), (53, .bool (decide ((((((x1.2 = 0) ∧ (x2.2 = 0)) ∧ ((x1.1.Gen.toNat : Int) = 1)) ∧ ((x2.1.Gen.toNat : Int) = 2)) ∧ (x3.2 = 0)) ∧ ((x3.1.Gen.toNat : Int) = 2 ∧ ([x3.1.Sum.e0, x3.1.Sum.e1, x3.1.Sum.e2, x3.1.Sum.e3, x3.1.Sum.e4, x3.1.Sum.e5, x3.1.Sum.e6, x3.1.Sum.e7, x3.1.Sum.e8, x3.1.Sum.e9, x3.1.Sum.e10, x3.1.Sum.e11, x3.1.Sum.e12, x3.1.Sum.e13, x3.1.Sum.e14, x3.1.Sum.e15] : List UInt8) = ([(0 : UInt8), (0 : UInt8), (0 : UInt8), (0 : UInt8), (0 : UInt8), (0 : UInt8), (0 : UInt8), (0 : UInt8), (0 : UInt8), (0 : UInt8), (0 : UInt8), (0 : UInt8), (0 : UInt8), (0 : UInt8), (0 : UInt8), (0 : UInt8)] : List UInt8)))))] (fun _ => [(57, .bool (decide (((((((x1.2 = 0) ∧ (x2.2 = 0)) ∧ ((x1.1.Gen.toNat : Int) = 1)) ∧ ((x2.1.Gen.toNat : Int) = 2)) ∧ (x3.2 = 0)) ∧ ((x3.1.Gen.toNat : Int) = 2 ∧ ([x3.1.Sum.e0, x3.1.Sum.e1, x3.1.Sum.e2, x3.1.Sum.e3, x3.1.Sum.e4, x3.1.Sum.e5, x3.1.Sum.e6, x3.1.Sum.e7, x3.1.Sum.e8, x3.1.Sum.e9, x3.1.Sum.e10, x3.1.Sum.e11, x3.1.Sum.e12, x3.1.Sum.e13, x3.1.Sum.e14, x3.1.Sum.e15] : List UInt8) = ([(0 : UInt8), (0 : UInt8), (0 : UInt8), (0 : UInt8), (0 : UInt8), (0 : UInt8), (0 : UInt8), (0 : UInt8), (0 : UInt8), (0 : UInt8), (0 : UInt8), (0 : UInt8), (0 : UInt8), (0 : UInt8), (0 : UInt8), (0 : UInt8)] : List UInt8))) ∧ (x4.2 = 2))))]) (fun sl wL => sl.w = wL ∧ Step K0 s27 sl) ?_ ?_
      ·
       refine k_again 54 rfl ?_
       refine k_split (fun c29 => ?_) (fun c29 => ?_)
       ·
        refine k_yes rfl rfl ?_
        refine k_move rfl rfl ?_
        refine k_yes rfl rfl ?_
        refine k_eql rfl rfl rfl ?_
        refine k_pickT rfl rfl rfl rfl ?_
        exact k_met ⟨s27, ⟨(congrArg (fun b => some (Value.bool b)) (by first | exact decide_eq_decide.2 ⟨fun h => ⟨c29, h⟩, fun h => h.2⟩ | exact (decide_eq_false (fun h => c29 h.1)).symm | (simp [c29]; done) | exact dec_andT c29 | exact dec_andF c29 | exact dec_orF c29 | exact dec_orT c29 | (simp [c29, i64] <;> omega))), trivial⟩, ⟨rfl, rfl, rfl, rfl, rfl, rfl, rfl, rfl, rfl, rfl, rfl, rfl, rfl, rfl, rfl, trivial⟩, rfl, hE28⟩
       ·
        refine k_no rfl rfl rfl rfl ?_
        refine k_no rfl rfl rfl rfl ?_
        refine k_pickF rfl rfl rfl rfl ?_
        exact k_met ⟨s27, ⟨(congrArg (fun b => some (Value.bool b)) (by first | exact decide_eq_decide.2 ⟨fun h => ⟨c29, h⟩, fun h => h.2⟩ | exact (decide_eq_false (fun h => c29 h.1)).symm | (simp [c29]; done) | exact dec_andT c29 | exact dec_andF c29 | exact dec_orF c29 | exact dec_orT c29 | (simp [c29, i64] <;> omega))), trivial⟩, ⟨rfl, rfl, rfl, rfl, rfl, rfl, rfl, rfl, rfl, rfl, rfl, rfl, rfl, rfl, rfl, trivial⟩, rfl, hE28⟩
      ·
       rintro s30 wL ⟨rfl, hE28⟩
       have szs30 := hE28.size
       have hS := hS.trans0 hE28
       replace h2 := h2.up2 hE28
       replace h5 := h5.up2 hE28
       refine k_move rfl rfl ?_
       obtain ⟨x5, hx5, h⟩ := ob h
       have hE31 := Step.r0 K0 s30
       refine k_cutl (X := St) 5 [(0, .bool false), (1, .pointer (some ⟨b2, 0, none⟩)), (2, .int .i64 x1.2), (3, .pointer (some ⟨b5, 0, none⟩)), (4, .int .i64 x2.2), (5, .pointer (some ⟨b8, 0, none⟩)), (6, .int .i64 x3.2), (8, .int .i64 x4.2), (29, .int .i64 x1.2), (30, .bool (decide (x1.2 = 0))), (34, .bool (decide ((x1.2 = 0) ∧ (x2.2 = 0)))), (39, .bool (decide (((x1.2 = 0) ∧ (x2.2 = 0)) ∧ ((x1.1.Gen.toNat : Int) = 1)))), (44, .bool (decide ((((x1.2 = 0) ∧ (x2.2 = 0)) ∧ ((x1.1.Gen.toNat : Int) = 1)) ∧ ((x2.1.Gen.toNat : Int) = 2)))), (48, .bool (decide (((((x1.2 = 0) ∧ (x2.2 = 0)) ∧ ((x1.1.Gen.toNat : Int) = 1)) ∧ ((x2.1.Gen.toNat : Int) = 2)) ∧ (x3.2 = 0)))), (53, .bool (decide ((((((x1.2 = 0) ∧ (x2.2 = 0)) ∧ ((x1.1.Gen.toNat : Int) = 1)) ∧ ((x2.1.Gen.toNat : Int) = 2)) ∧ (x3.2 = 0)) ∧ ((x3.1.Gen.toNat : Int) = 2 ∧ ([x3.1.Sum.e0, x3.1.Sum.e1, x3.1.Sum.e2, x3.1.Sum.e3, x3.1.Sum.e4, x3.1.Sum.e5, x3.1.Sum.e6, x3.1.Sum.e7, x3.1.Sum.e8, x3.1.Sum.e9, x3.1.Sum.e10, x3.1.Sum.e11, x3.1.Sum.e12, x3.1.Sum.e13, x3.1.Sum.e14, x3.1.Sum.e15] : List UInt8) = ([(0 : UInt8), (0 : UInt8), (0 : UInt8), (0 : UInt8), (0 : UInt8), (0 : UInt8), (0 : UInt8), (0 : UInt8), (0 : UInt8), (0 : UInt8), (0 : UInt8), (0 : UInt8), (0 : UInt8), (0 : UInt8), (0 : UInt8), (0 : UInt8)] : List UInt8))))), (57, .bool (decide (((((((x1.2 = 0) ∧ (x2.2 = 0)) ∧ ((x1.1.Gen.toNat : Int) = 1)) ∧ ((x2.1.Gen.toNat : Int) = 2)) ∧ (x3.2 = 0)) ∧ ((x3.1.Gen.toNat : Int) = 2 ∧ ([x3.1.Sum.e0, x3.1.Sum.e1, x3.1.Sum.e2, x3.1.Sum.e3, x3.1.Sum.e4, x3.1.Sum.e5, x3.1.Sum.e6, x3.1.Sum.e7, x3.1.Sum.e8, x3.1.Sum.e9, x3.1.Sum.e10, x3.1.Sum.e11, x3.1.Sum.e12, x3.1.Sum.e13, x3.1.Sum.e14, x3.1.Sum.e15] : List UInt8) = ([(0 : UInt8), (0 : UInt8), (0 : UInt8), (0 : UInt8), (0 : UInt8), (0 : UInt8), (0 : UInt8), (0 : UInt8), (0 : UInt8), (0 : UInt8), (0 : UInt8), (0 : UInt8), (0 : UInt8), (0 : UInt8), (0 : UInt8), (0 : UInt8)] : List UInt8))) ∧ (x4.2 = 2))))] (fun _ => [(63, .bool x5)]) (fun sl wL => sl.w = wL ∧ Step K0 s30 sl) ?_ ?_
       ·
        refine k_again 58 rfl ?_
        refine k_split (fun c32 => ?_) (fun c32 => ?_)
        ·
         have hx5 := itT hx5 c32
         refine k_yes rfl rfl ?_
         refine k_load_blka (cs := [.int .u64 (x1.1.Gen.toNat : Int), .int .u8 (x1.1.Sum.e0.toNat : Int), .int .u8 (x1.1.Sum.e1.toNat : Int), .int .u8 (x1.1.Sum.e2.toNat : Int), .int .u8 (x1.1.Sum.e3.toNat : Int), .int .u8 (x1.1.Sum.e4.toNat : Int), .int .u8 (x1.1.Sum.e5.toNat : Int), .int .u8 (x1.1.Sum.e6.toNat : Int), .int .u8 (x1.1.Sum.e7.toNat : Int), .int .u8 (x1.1.Sum.e8.toNat : Int), .int .u8 (x1.1.Sum.e9.toNat : Int), .int .u8 (x1.1.Sum.e10.toNat : Int), .int .u8 (x1.1.Sum.e11.toNat : Int), .int .u8 (x1.1.Sum.e12.toNat : Int), .int .u8 (x1.1.Sum.e13.toNat : Int), .int .u8 (x1.1.Sum.e14.toNat : Int), .int .u8 (x1.1.Sum.e15.toNat : Int)]) agg29 rfl h2 rfl ?_
         refine k_yes rfl rfl ?_
         refine k_load_blka (cs := [.int .u64 (x2.1.Gen.toNat : Int), .int .u8 (x2.1.Sum.e0.toNat : Int), .int .u8 (x2.1.Sum.e1.toNat : Int), .int .u8 (x2.1.Sum.e2.toNat : Int), .int .u8 (x2.1.Sum.e3.toNat : Int), .int .u8 (x2.1.Sum.e4.toNat : Int), .int .u8 (x2.1.Sum.e5.toNat : Int), .int .u8 (x2.1.Sum.e6.toNat : Int), .int .u8 (x2.1.Sum.e7.toNat : Int), .int .u8 (x2.1.Sum.e8.toNat : Int), .int .u8 (x2.1.Sum.e9.toNat : Int), .int .u8 (x2.1.Sum.e10.toNat : Int), .int .u8 (x2.1.Sum.e11.toNat : Int), .int .u8 (x2.1.Sum.e12.toNat : Int), .int .u8 (x2.1.Sum.e13.toNat : Int), .int .u8 (x2.1.Sum.e14.toNat : Int), .int .u8 (x2.1.Sum.e15.toNat : Int)]) agg29 rfl h5 rfl ?_
         refine k_yes rfl rfl ?_
         obtain ⟨x6, hx6, hx5⟩ := ob hx5
         refine k_call cal12 rfl (rev_Cmp_w  (clsApiRev x1.1) (clsApiRev x2.1) hx6) rfl ?_
         rintro s33 vr33 st33 rfl
         have szs33 := st33.size
         have hS := hS.trans0 st33
         have hE31 := hE31.trans0 st33
         refine k_yes rfl rfl ?_
         refine k_lss rfl rfl rfl ?_
         refine k_pickT rfl rfl rfl rfl ?_
         exact k_met ⟨s33, ⟨(congrArg (fun b => some (Value.bool b)) (Option.some.inj hx5)), trivial⟩, ⟨rfl, rfl, rfl, rfl, rfl, rfl, rfl, rfl, rfl, rfl, rfl, rfl, rfl, rfl, rfl, rfl, trivial⟩, rfl, hE31⟩
        ·
         have hx5 := itF hx5 c32
         refine k_no rfl rfl rfl rfl ?_
         refine k_no rfl rfl rfl rfl ?_
         refine k_no rfl rfl rfl rfl ?_
         refine k_no rfl rfl rfl rfl ?_
         refine k_pickF rfl rfl rfl rfl ?_
         exact k_met ⟨s30, ⟨(congrArg (fun b => some (Value.bool b)) (Option.some.inj hx5)), trivial⟩, ⟨rfl, rfl, rfl, rfl, rfl, rfl, rfl, rfl, rfl, rfl, rfl, rfl, rfl, rfl, rfl, rfl, trivial⟩, rfl, hE31⟩
       ·
        rintro s34 wL ⟨rfl, hE31⟩
        have szs34 := hE31.size
        have hS := hS.trans0 hE31
        replace h2 := h2.up2 hE31
        replace h5 := h5.up2 hE31
        refine k_move rfl rfl ?_
        obtain ⟨x7, hx7, h⟩ := ob h
        have hE35 := Step.r0 K0 s34
        refine k_cutl (X := St) 5 [(0, .bool false), (1, .pointer (some ⟨b2, 0, none⟩)), (2, .int .i64 x1.2), (3, .pointer (some ⟨b5, 0, none⟩)), (4, .int .i64 x2.2), (5, .pointer (some ⟨b8, 0, none⟩)), (6, .int .i64 x3.2), (8, .int .i64 x4.2), (29, .int .i64 x1.2), (30, .bool (decide (x1.2 = 0))), (34, .bool (decide ((x1.2 = 0) ∧ (x2.2 = 0)))), (39, .bool (decide (((x1.2 = 0) ∧ (x2.2 = 0)) ∧ ((x1.1.Gen.toNat : Int) = 1)))), (44, .bool (decide ((((x1.2 = 0) ∧ (x2.2 = 0)) ∧ ((x1.1.Gen.toNat : Int) = 1)) ∧ ((x2.1.Gen.toNat : Int) = 2)))), (48, .bool (decide (((((x1.2 = 0) ∧ (x2.2 = 0)) ∧ ((x1.1.Gen.toNat : Int) = 1)) ∧ ((x2.1.Gen.toNat : Int) = 2)) ∧ (x3.2 = 0)))), (53, .bool (decide ((((((x1.2 = 0) ∧ (x2.2 = 0)) ∧ ((x1.1.Gen.toNat : Int) = 1)) ∧ ((x2.1.Gen.toNat : Int) = 2)) ∧ (x3.2 = 0)) ∧ ((x3.1.Gen.toNat : Int) = 2 ∧ ([x3.1.Sum.e0, x3.1.Sum.e1, x3.1.Sum.e2, x3.1.Sum.e3, x3.1.Sum.e4, x3.1.Sum.e5, x3.1.Sum.e6, x3.1.Sum.e7, x3.1.Sum.e8, x3.1.Sum.e9, x3.1.Sum.e10, x3.1.Sum.e11, x3.1.Sum.e12, x3.1.Sum.e13, x3.1.Sum.e14, x3.1.Sum.e15] : List UInt8) = ([(0 : UInt8), (0 : UInt8), (0 : UInt8), (0 : UInt8), (0 : UInt8), (0 : UInt8), (0 : UInt8), (0 : UInt8), (0 : UInt8), (0 : UInt8), (0 : UInt8), (0 : UInt8), (0 : UInt8), (0 : UInt8), (0 : UInt8), (0 : UInt8)] : List UInt8))))), (57, .bool (decide (((((((x1.2 = 0) ∧ (x2.2 = 0)) ∧ ((x1.1.Gen.toNat : Int) = 1)) ∧ ((x2.1.Gen.toNat : Int) = 2)) ∧ (x3.2 = 0)) ∧ ((x3.1.Gen.toNat : Int) = 2 ∧ ([x3.1.Sum.e0, x3.1.Sum.e1, x3.1.Sum.e2, x3.1.Sum.e3, x3.1.Sum.e4, x3.1.Sum.e5, x3.1.Sum.e6, x3.1.Sum.e7, x3.1.Sum.e8, x3.1.Sum.e9, x3.1.Sum.e10, x3.1.Sum.e11, x3.1.Sum.e12, x3.1.Sum.e13, x3.1.Sum.e14, x3.1.Sum.e15] : List UInt8) = ([(0 : UInt8), (0 : UInt8), (0 : UInt8), (0 : UInt8), (0 : UInt8), (0 : UInt8), (0 : UInt8), (0 : UInt8), (0 : UInt8), (0 : UInt8), (0 : UInt8), (0 : UInt8), (0 : UInt8), (0 : UInt8), (0 : UInt8), (0 : UInt8)] : List UInt8))) ∧ (x4.2 = 2)))), (63, .bool x5)] (fun _ => [(69, .bool x7)]) (fun sl wL => sl.w = wL ∧ Step K0 s34 sl) ?_ ?_
        ·
         refine k_again 64 rfl ?_
         refine k_splitb (fun c36 => ?_) (fun c36 => ?_)
         ·
          have hx7 := ibT hx7 c36
          refine k_yes rfl rfl ?_
          refine k_load_blka (cs := [.int .u64 (x2.1.Gen.toNat : Int), .int .u8 (x2.1.Sum.e0.toNat : Int), .int .u8 (x2.1.Sum.e1.toNat : Int), .int .u8 (x2.1.Sum.e2.toNat : Int), .int .u8 (x2.1.Sum.e3.toNat : Int), .int .u8 (x2.1.Sum.e4.toNat : Int), .int .u8 (x2.1.Sum.e5.toNat : Int), .int .u8 (x2.1.Sum.e6.toNat : Int), .int .u8 (x2.1.Sum.e7.toNat : Int), .int .u8 (x2.1.Sum.e8.toNat : Int), .int .u8 (x2.1.Sum.e9.toNat : Int), .int .u8 (x2.1.Sum.e10.toNat : Int), .int .u8 (x2.1.Sum.e11.toNat : Int), .int .u8 (x2.1.Sum.e12.toNat : Int), .int .u8 (x2.1.Sum.e13.toNat : Int), .int .u8 (x2.1.Sum.e14.toNat : Int), .int .u8 (x2.1.Sum.e15.toNat : Int)]) agg29 rfl h5 rfl ?_
          refine k_yes rfl rfl ?_
          refine k_load_blka (cs := [.int .u64 (x1.1.Gen.toNat : Int), .int .u8 (x1.1.Sum.e0.toNat : Int), .int .u8 (x1.1.Sum.e1.toNat : Int), .int .u8 (x1.1.Sum.e2.toNat : Int), .int .u8 (x1.1.Sum.e3.toNat : Int), .int .u8 (x1.1.Sum.e4.toNat : Int), .int .u8 (x1.1.Sum.e5.toNat : Int), .int .u8 (x1.1.Sum.e6.toNat : Int), .int .u8 (x1.1.Sum.e7.toNat : Int), .int .u8 (x1.1.Sum.e8.toNat : Int), .int .u8 (x1.1.Sum.e9.toNat : Int), .int .u8 (x1.1.Sum.e10.toNat : Int), .int .u8 (x1.1.Sum.e11.toNat : Int), .int .u8 (x1.1.Sum.e12.toNat : Int), .int .u8 (x1.1.Sum.e13.toNat : Int), .int .u8 (x1.1.Sum.e14.toNat : Int), .int .u8 (x1.1.Sum.e15.toNat : Int)]) agg29 rfl h2 rfl ?_
          refine k_yes rfl rfl ?_
          refine k_bslice2 (ds := ([x2.1, x1.1] : List ApiRev).map dApiRev) slc22 rfl (RVs.cons ⟨_, rfl, (clsApiRev x2.1)⟩ (RVs.cons ⟨_, rfl, (clsApiRev x1.1)⟩ RVs.nil)) (by rfl) (by rfl) rfl rfl ?_
          intro s37 v37 b37 st37 ge37 bl37 h37
          have szs37 := st37.size
          have hS := hS.trans0 st37
          have hE35 := hE35.trans0 st37
          have lt37 := Own.le1 h37
          refine k_yes rfl rfl ?_
          obtain ⟨x8, hx8, hx7⟩ := ob hx7
          refine k_call cal8 rfl (rev_Chain_w  (h37.sl) hx8) rfl ?_
          rintro s38 vr38 st38 rfl
          have szs38 := st38.size
          have hS := hS.trans0 st38
          have hE35 := hE35.trans0 st38
          refine k_pickT rfl rfl rfl rfl ?_
          exact k_met ⟨s38, ⟨(congrArg (fun b => some (Value.bool b)) (Option.some.inj hx7)), trivial⟩, ⟨rfl, rfl, rfl, rfl, rfl, rfl, rfl, rfl, rfl, rfl, rfl, rfl, rfl, rfl, rfl, rfl, rfl, trivial⟩, rfl, hE35⟩
         ·
          have hx7 := ibF hx7 c36
          refine k_no rfl rfl rfl rfl ?_
          refine k_no rfl rfl rfl rfl ?_
          refine k_no rfl rfl rfl rfl ?_
          refine k_no rfl rfl rfl rfl ?_
          refine k_pickF rfl rfl rfl rfl ?_
          exact k_met ⟨s34, ⟨(congrArg (fun b => some (Value.bool b)) (Option.some.inj hx7)), trivial⟩, ⟨rfl, rfl, rfl, rfl, rfl, rfl, rfl, rfl, rfl, rfl, rfl, rfl, rfl, rfl, rfl, rfl, rfl, trivial⟩, rfl, hE35⟩
        ·
         rintro s39 wL ⟨rfl, hE35⟩
         have szs39 := hE35.size
         have hS := hS.trans0 hE35
         refine k_assign rfl rfl ?_
         refine k_nil ?_
         refine k_keep [(0, _)] ⟨rfl, trivial⟩ ?_
         refine k_ret ?_
         obtain rfl := Option.some.inj h
         refine ⟨_, rfl, Ret.mk hS ?_⟩
         exact rfl

set_option maxHeartbeats 20000000 in
set_option maxRecDepth 100000 in
theorem strconv_AppendUint_nl_own_w {s : St} {a1 : UInt64} {a2 : Int} {r : (List UInt8)} (tb2 : Tab2 s) (h : strconv_AppendUint_nl a1 a2 = some r) : Calls Tryd.prog 36 #[.slice none 0 0, .int .u64 (a1.toNat : Int), .int .i64 a2] s.w (Ret s K0 (fun s1 v => ∃ (u0 : Value), ∃ (lu0 : Lab), v = u0 ∧ (s.n < lu0.o ∧ lu0.c = 0) ∧ Own s1 lu0 5 1 u0 (r.map bD))) := by
 unfold strconv_AppendUint_nl at h
 have hS := Step.r0 K0 s
 refine k_fn (rs := [6]) (args := [.slice none 0 0, .int .u64 (a1.toNat : Int), .int .i64 a2]) Tryd.func36 rfl rfl rfl rfl ?_
 refine k_seq ?_
 refine k_region ?_
 refine k_assign rfl rfl ?_
 refine k_nil ?_
 refine k_seq ?_
 refine k_seq ?_
 refine k_region ?_
 refine k_move rfl rfl ?_
 refine k_eql rfl rfl rfl ?_
 refine k_nil ?_
 refine k_keep [(0, _), (1, _), (2, _), (6, _), (10, _)] ⟨rfl, rfl, rfl, rfl, rfl, trivial⟩ ?_
 refine k_cond_dec rfl (fun c1 => ?_) (fun c1 => ?_)
 ·
  have h := itT h c1
  refine k_seq ?_
  refine k_seq ?_
  refine k_region ?_
  refine k_move rfl rfl ?_
  refine k_lss rfl rfl rfl ?_
  refine k_nil ?_
  refine k_keep [(0, _), (1, _), (2, _), (6, _), (12, _)] ⟨rfl, rfl, rfl, rfl, rfl, trivial⟩ ?_
  refine k_cond_dec rfl (fun c2 => ?_) (fun c2 => ?_)
  ·
   have h := itT h c2
   refine k_seq ?_
   refine k_region ?_
   refine k_move rfl rfl ?_
   refine k_move rfl rfl ?_
   refine k_conv (p := (a1.toNat : Int)) Tryd.underlying26 Tryd.underlying3 rfl rfl ?_
   by_cases c3 : 0 ≤ i64 (a1.toNat : Int) ∧ i64 (a1.toNat : Int) < 100
   case neg => exact (noneNe (itF h c3)).elim
   replace h := itT h c3
   refine k_call cal48 rfl (small_w (a0 := (i64 (a1.toNat : Int))) c3) rfl ?_
   rintro s4 _ st4 rfl
   have szs4 := st4.size
   have hS := hS.trans0 st4
   obtain ⟨x1, hx1, h⟩ := ob h
   refine k_append_str_nil 1017 elem51 rfl rfl Tryd.underlying9 rfl rfl (by have := (app_out hx1).1; omega) rfl ?_
   intro s5 v5 st5 h5
   rw [← List.nil_append (decF 30 (i64 (a1.toNat : Int)).toNat), ← (app_out hx1).2] at h5
   have szs5 := st5.size
   have hS := hS.trans0 st5
   refine k_assign rfl rfl ?_
   refine k_nil ?_
   refine k_keep [(0, _), (1, _), (2, _), (6, _)] ⟨rfl, rfl, rfl, rfl, trivial⟩ ?_
   refine k_ret ?_
   obtain ⟨s6, e6, st6, h5⟩ := h5.zero
   rw [← e6]
   have szs6 := st6.size
   have hS := hS.c0 st6
   obtain rfl := Option.some.inj h
   refine ⟨_, rfl, Ret.mk hS ?_⟩
   exact ⟨_, ⟨s4.n + 1, 0⟩, rfl, ⟨by (try dsimp only); omega, rfl⟩, h5⟩
  ·
   have h := itF h c2
   refine k_skip ?_
   refine k_seq ?_
   refine k_region ?_
   refine k_alloc zero87 rfl ?_
   intro s7 b7 st7 h7 ge7
   have szs7 := st7.size
   have hS := hS.trans0 st7
   replace tb2 := tb2.up2 st7
   have lt7 := h7.lt
   refine k_nil ?_
   refine k_keep [(0, _), (1, _), (2, _), (6, _), (7, _)] ⟨rfl, rfl, rfl, rfl, rfl, trivial⟩ ?_
   refine k_seq ?_
   refine k_region ?_
   refine k_move rfl rfl ?_
   by_cases c8 : 1 ≤ a1.toNat
   case neg => exact (noneNe (itF h c8)).elim
   replace h := itT h c8
   refine k_call cal49 rfl (numDigits_w (a0 := a1) tb2 c8) rfl ?_
   rintro s9 _ st9 rfl
   have szs9 := st9.size
   have hS := hS.trans0 st9
   replace h7 := h7.up2 st9
   refine k_assign rfl rfl ?_
   refine k_nil ?_
   refine k_keep [(0, _), (1, _), (2, _), (6, _), (7, _), (8, _)] ⟨rfl, rfl, rfl, rfl, rfl, rfl, trivial⟩ ?_
   refine k_seq ?_
   refine k_region ?_
   refine k_move rfl rfl ?_
   by_cases c11 : 0 ≤ ((decF 30 a1.toNat).length : Int) ∧ ((decF 30 a1.toNat).length : Int) ≤ 24
   case neg => exact (noneNe (itF h c11)).elim
   replace h := itT h c11
   have hj10 : (((decF 30 a1.toNat).length : Int) : Int).toNat ≤ (List.replicate 24 (0 : UInt8)).length := by have hq : (List.replicate 24 (0 : UInt8)).length = 24 := (List.length_replicate); omega
   refine k_cut_rowx (g := bD) (xs := (List.replicate 24 (0 : UInt8))) (j := (((decF 30 a1.toNat).length : Int) : Int).toNat) cB (fun _ => rfl) (fun _ => rfl) arr87 rfl h7 (List.length_replicate) (CutAt.int rfl c11.1) (by omega) rfl ?_
   intro h12
   refine k_move rfl rfl ?_
   by_cases c14 : (decF 30 a1.toNat).length = (((decF 30 a1.toNat).length : Int) : Int).toNat ∧ (((decF 30 a1.toNat).length : Int) : Int).toNat < 1000
   case neg => exact (noneNe (itF h c14)).elim
   replace h := itT h c14
   refine k_call cal50 rfl (fmt10_w (xs := (List.replicate 24 (0 : UInt8))) (a1 := a1) h7 (by first | (simp; done) | omega | (dsimp only; omega)) hj10 c14) rfl ?_
   rintro s13 _ st13 ⟨rfl, h7⟩
   have hl13 : (decF 30 a1.toNat ++ (List.replicate 24 (0 : UInt8)).drop (((decF 30 a1.toNat).length : Int) : Int).toNat).length = 24 := by have hq := hj10; have hq2 : (List.replicate 24 (0 : UInt8)).length = 24 := (List.length_replicate); rw [List.length_append, List.length_drop, c14.1]; omega
   have szs13 := st13.size
   have hS := hS.c0 st13
   refine k_nil ?_
   refine k_keep [(0, _), (1, _), (2, _), (6, _), (7, _), (8, _)] ⟨rfl, rfl, rfl, rfl, rfl, rfl, trivial⟩ ?_
   refine k_seq ?_
   refine k_region ?_
   refine k_move rfl rfl ?_
   refine k_move rfl rfl ?_
   by_cases c16 : 0 ≤ ((decF 30 a1.toNat).length : Int) ∧ ((decF 30 a1.toNat).length : Int) ≤ 24
   case neg => exact (noneNe (itF h c16)).elim
   replace h := itT h c16
   have hj15 : (((decF 30 a1.toNat).length : Int) : Int).toNat ≤ (decF 30 a1.toNat ++ (List.replicate 24 (0 : UInt8)).drop (((decF 30 a1.toNat).length : Int) : Int).toNat).length := by have hq : (decF 30 a1.toNat ++ (List.replicate 24 (0 : UInt8)).drop (((decF 30 a1.toNat).length : Int) : Int).toNat).length = 24 := hl13; omega
   refine k_cut_rowx (g := bD) (xs := (decF 30 a1.toNat ++ (List.replicate 24 (0 : UInt8)).drop (((decF 30 a1.toNat).length : Int) : Int).toNat)) (j := (((decF 30 a1.toNat).length : Int) : Int).toNat) cB (fun _ => rfl) (fun _ => rfl) arr87 rfl h7 hl13 (CutAt.int rfl c16.1) (by omega) rfl ?_
   intro h17
   obtain ⟨x2, hx2, h⟩ := ob h
   refine k_append_nil (es := ((decF 30 a1.toNat ++ (List.replicate 24 (0 : UInt8)).drop (((decF 30 a1.toNat).length : Int) : Int).toNat).take (((decF 30 a1.toNat).length : Int) : Int).toNat).map bD) 1027 elem51 rfl rfl h17 (by have := (app_out hx2).1; simp only [List.length_map, List.length_nil] at *; omega) (by have := (app_out hx2).1; simp only [List.length_map, List.length_nil] at *; omega) rfl ?_
   intro s18 v18 st18 h18
   rw [← List.nil_append (((decF 30 a1.toNat ++ (List.replicate 24 (0 : UInt8)).drop (((decF 30 a1.toNat).length : Int) : Int).toNat).take (((decF 30 a1.toNat).length : Int) : Int).toNat)), ← (app_out hx2).2] at h18
   have szs18 := st18.size
   have hS := hS.trans0 st18
   refine k_assign rfl rfl ?_
   refine k_nil ?_
   refine k_keep [(0, _), (1, _), (2, _), (6, _)] ⟨rfl, rfl, rfl, rfl, trivial⟩ ?_
   refine k_ret ?_
   obtain ⟨s19, e19, st19, h18⟩ := h18.zero
   rw [← e19]
   have szs19 := st19.size
   have hS := hS.c0 st19
   obtain rfl := Option.some.inj h
   refine ⟨_, rfl, Ret.mk hS ?_⟩
   exact ⟨_, ⟨s13.n + 1, 0⟩, rfl, ⟨by (try dsimp only); omega, rfl⟩, h18⟩
 ·
  have h := itF h c1
  refine k_skip ?_
  refine k_seq ?_
  refine k_region ?_
  refine k_move rfl rfl ?_
  refine k_move rfl rfl ?_
  refine k_move rfl rfl ?_
  by_cases c20 : (0 : Nat) = 1
  case neg => exact (noneNe (itF h c20)).elim
  replace h := itT h c20
  refine k_call cal51 rfl (show Calls Tryd.prog 51 #[.slice none 0 0, .int .u64 (a1.toNat : Int), .int .i64 a2, .bool false, .bool true] s.w (Ret s K0 (fun _ v => v = .tuple #[.slice none 0 0, S ([] : List UInt8)])) from absurd c20 (by decide)) rfl ?_
  rintro s21 _ st21 rfl
  have szs21 := st21.size
  have hS := hS.trans0 st21
  refine k_move rfl rfl ?_
  refine k_extract rfl rfl rfl ?_
  refine k_extract rfl rfl rfl ?_
  refine k_assign rfl rfl ?_
  refine k_nil ?_
  refine k_keep [(0, _), (6, _)] ⟨rfl, rfl, trivial⟩ ?_
  refine k_seq ?_
  refine k_region ?_
  refine k_move rfl rfl ?_
  refine k_assign rfl rfl ?_
  refine k_nil ?_
  refine k_keep [(6, _)] ⟨rfl, trivial⟩ ?_
  refine k_ret ?_
  obtain rfl := Option.some.inj h
  refine ⟨_, rfl, Ret.mk hS ?_⟩
  exact ⟨_, ⟨s21.n + 1, 0⟩, rfl, ⟨by show s.n < s21.n + 1; omega, rfl⟩, Own.nil (by simp) (Nat.le_refl _)⟩

set_option maxHeartbeats 20000000 in
set_option maxRecDepth 100000 in
theorem strconv_AppendUint_nl_o_own_w {s : St} {a1 : UInt64} {a2 : Int} {r : (List UInt8)} (tb2 : Tab2 s) (h : strconv_AppendUint_nl_o a1 a2 = some r) : Calls Tryd.prog 25 #[.slice none 0 0, .int .u64 (a1.toNat : Int), .int .i64 a2] s.w (Ret s K0 (fun s1 v => ∃ (u0 : Value), ∃ (lu0 : Lab), v = u0 ∧ (s.n < lu0.o ∧ lu0.c = 0) ∧ Own s1 lu0 5 1 u0 (r.map bD))) := by
 unfold strconv_AppendUint_nl_o at h
 have hS := Step.r0 K0 s
 refine k_fn (rs := [6]) (args := [.slice none 0 0, .int .u64 (a1.toNat : Int), .int .i64 a2]) Tryd.func25 rfl rfl rfl rfl ?_
 refine k_seq ?_
 refine k_region ?_
 refine k_assign rfl rfl ?_
 refine k_nil ?_
 refine k_seq ?_
 refine k_region ?_
 refine k_move rfl rfl ?_
 refine k_move rfl rfl ?_
 refine k_move rfl rfl ?_
 obtain ⟨x1, hx1, h⟩ := ob h
 refine k_call cal36 rfl (strconv_AppendUint_nl_own_w  tb2 hx1) rfl ?_
 rintro s1 v1_0 st1 ⟨_, l1_0, rfl, hl1_0, h1_0⟩
 have szs1 := st1.size
 have hS := hS.trans0 st1
 obtain ⟨l1_0, hl1_0, h1_0⟩ := Own.anew 2010 h1_0 hl1_0 szs1
 have lt1_0 := Own.le1 h1_0
 refine k_assign rfl rfl ?_
 refine k_nil ?_
 refine k_keep [(6, _)] ⟨rfl, trivial⟩ ?_
 refine k_ret ?_
 obtain ⟨s2, e2, st2, h1_0⟩ := h1_0.zero
 rw [← e2]
 have szs2 := st2.size
 have hS := hS.c0 st2
 obtain rfl := Option.some.inj h
 refine ⟨_, rfl, Ret.mk hS ?_⟩
 exact ⟨_, ⟨l1_0.o, 0⟩, rfl, ⟨by (try dsimp only); omega, rfl⟩, h1_0⟩

set_option maxHeartbeats 20000000 in
set_option maxRecDepth 100000 in
theorem rev_Print_w {s : St} {cs0 : List Value} {a0 : ApiRev} {r : ((List UInt8) × Int)} (hp0 : RC s cs0 (dApiRev a0)) (tb2 : Tab2 s) (h : rev_Print a0 = some r) : Calls Tryd.prog 14 #[.agg cs0.toArray] s.w (Ret s K0 (fun s1 v => v = .tuple #[S r.1, .int .i64 r.2])) := by
 unfold rev_Print at h
 obtain rfl := opnApiRev hp0
 have hS := Step.r0 K0 s
 refine k_fn (rs := [2, 3]) (args := [.agg #[.int .u64 (a0.Gen.toNat : Int), .int .u8 (a0.Sum.e0.toNat : Int), .int .u8 (a0.Sum.e1.toNat : Int), .int .u8 (a0.Sum.e2.toNat : Int), .int .u8 (a0.Sum.e3.toNat : Int), .int .u8 (a0.Sum.e4.toNat : Int), .int .u8 (a0.Sum.e5.toNat : Int), .int .u8 (a0.Sum.e6.toNat : Int), .int .u8 (a0.Sum.e7.toNat : Int), .int .u8 (a0.Sum.e8.toNat : Int), .int .u8 (a0.Sum.e9.toNat : Int), .int .u8 (a0.Sum.e10.toNat : Int), .int .u8 (a0.Sum.e11.toNat : Int), .int .u8 (a0.Sum.e12.toNat : Int), .int .u8 (a0.Sum.e13.toNat : Int), .int .u8 (a0.Sum.e14.toNat : Int), .int .u8 (a0.Sum.e15.toNat : Int)]]) Tryd.func14 rfl rfl rfl rfl ?_
 refine k_seq ?_
 refine k_region ?_
 refine k_box rfl rfl ?_
 intro s1 b1 st1 h1 ge1
 have szs1 := st1.size
 have hS := hS.trans0 st1
 replace tb2 := tb2.up2 st1
 have lt1 := h1.lt
 refine k_assign rfl rfl ?_
 refine k_assign rfl rfl ?_
 refine k_nil ?_
 refine k_keep [(1, _), (2, _), (3, _)] ⟨rfl, rfl, rfl, trivial⟩ ?_
 refine k_seq ?_
 refine k_seq ?_
 refine k_region ?_
 refine k_load_blka (cs := [.int .u64 (a0.Gen.toNat : Int), .int .u8 (a0.Sum.e0.toNat : Int), .int .u8 (a0.Sum.e1.toNat : Int), .int .u8 (a0.Sum.e2.toNat : Int), .int .u8 (a0.Sum.e3.toNat : Int), .int .u8 (a0.Sum.e4.toNat : Int), .int .u8 (a0.Sum.e5.toNat : Int), .int .u8 (a0.Sum.e6.toNat : Int), .int .u8 (a0.Sum.e7.toNat : Int), .int .u8 (a0.Sum.e8.toNat : Int), .int .u8 (a0.Sum.e9.toNat : Int), .int .u8 (a0.Sum.e10.toNat : Int), .int .u8 (a0.Sum.e11.toNat : Int), .int .u8 (a0.Sum.e12.toNat : Int), .int .u8 (a0.Sum.e13.toNat : Int), .int .u8 (a0.Sum.e14.toNat : Int), .int .u8 (a0.Sum.e15.toNat : Int)]) agg29 rfl h1 rfl ?_
 obtain ⟨x1, hx1, h⟩ := ob h
 refine k_call cal13 rfl (rev_May_w  (clsApiRev a0) hx1) rfl ?_
 rintro s2 vr2 st2 rfl
 have szs2 := st2.size
 have hS := hS.trans0 st2
 replace h1 := h1.up2 st2
 replace tb2 := tb2.up2 st2
 refine k_not rfl rfl ?_
 refine k_nil ?_
 refine k_keep [(1, _), (2, _), (3, _), (9, _)] ⟨rfl, rfl, rfl, rfl, trivial⟩ ?_
 refine k_cond rfl (fun c3 => ?_) (fun c3 => ?_)
 ·
  have h := ibT h c3
  refine k_seq ?_
  refine k_region ?_
  refine k_assign rfl rfl ?_
  refine k_assign rfl rfl ?_
  refine k_nil ?_
  refine k_keep [(1, _), (2, _), (3, _)] ⟨rfl, rfl, rfl, trivial⟩ ?_
  refine k_ret ?_
  obtain rfl := Option.some.inj h
  refine ⟨_, rfl, Ret.mk hS ?_⟩
  exact rfl
 ·
  have h := ibF h c3
  refine k_skip ?_
  refine k_seq ?_
  refine k_region ?_
  refine k_field_addr fld29_0 rfl rfl ?_
  refine k_load_blk one26 rfl h1 rfl rfl ?_
  obtain ⟨x2, hx2, h⟩ := ob h
  refine k_call cal25 rfl (strconv_AppendUint_nl_o_own_w  tb2 hx2) rfl ?_
  rintro s4 v4_0 st4 ⟨_, l4_0, rfl, hl4_0, h4_0⟩
  have szs4 := st4.size
  have hS := hS.trans0 st4
  replace h1 := h1.up2 st4
  obtain ⟨l4_0, hl4_0, h4_0⟩ := Own.anew 2040 h4_0 hl4_0 szs4
  have lt4_0 := Own.le1 h4_0
  refine k_bslice2 (ds := ([(45 : UInt8)] : List UInt8).map bD) slc51 rfl (RVs.cons (R.val rfl) RVs.nil) (by rfl) (by rfl) rfl rfl ?_
  intro s5 v5 b5 st5 ge5 bl5 h5
  have szs5 := st5.size
  have hS := hS.trans0 st5
  replace h1 := h1.up2 st5
  replace h4_0 := h4_0.up2 st5
  have lt5 := Own.le1 h5
  obtain ⟨x3, hx3, h⟩ := ob h
  refine k_append (es := ([(45 : UInt8)] : List UInt8).map bD) elem51 rfl rfl h4_0 (h5.sl) (by have := (app_out hx3).1; simp only [List.length_map] at *; omega) (by have := (app_out hx3).1; simp only [List.length_map] at *; omega) rfl ?_
  intro s6 v6 st6 h6
  rw [← List.map_append, ← (app_out hx3).2] at h6
  have szs6 := st6.size
  have hS := hS.c0 st6
  replace h1 := h1.up2 st6
  refine k_assign rfl rfl ?_
  refine k_nil ?_
  refine k_keep [(1, _), (2, _), (3, _), (4, _)] ⟨rfl, rfl, rfl, rfl, trivial⟩ ?_
  refine k_seq ?_
  obtain ⟨kj4, hK7, h⟩ := jn_out h
  have hE7 := Step.r0 (KC l4_0.o l4_0.c) s6
  refine k_cutc (X := St × (List UInt8) × Value) [(2, S ([] : List UInt8)), (3, .int .i64 0)] (fun (xL : St × (List UInt8) × Value) => match xL with | (sl, x5, v8) => [(4, v8)]) (fun (xL : St × (List UInt8) × Value) (wL : World) => match xL with | (sl, x5, v8) => sl.w = wL ∧ Step (KC l4_0.o l4_0.c) s6 sl ∧ (Own sl ⟨l4_0.o, l4_0.c⟩ 5 1 v8 (x5.map bD)) ∧ kj4 x5 = some r) ?_ ?_
  ·
   refine k_seq ?_
   refine k_region ?_
   refine k_field_addr fld29_1 rfl rfl ?_
   refine k_load_sub (cs' := [.int .u8 (a0.Sum.e0.toNat : Int), .int .u8 (a0.Sum.e1.toNat : Int), .int .u8 (a0.Sum.e2.toNat : Int), .int .u8 (a0.Sum.e3.toNat : Int), .int .u8 (a0.Sum.e4.toNat : Int), .int .u8 (a0.Sum.e5.toNat : Int), .int .u8 (a0.Sum.e6.toNat : Int), .int .u8 (a0.Sum.e7.toNat : Int), .int .u8 (a0.Sum.e8.toNat : Int), .int .u8 (a0.Sum.e9.toNat : Int), .int .u8 (a0.Sum.e10.toNat : Int), .int .u8 (a0.Sum.e11.toNat : Int), .int .u8 (a0.Sum.e12.toNat : Int), .int .u8 (a0.Sum.e13.toNat : Int), .int .u8 (a0.Sum.e14.toNat : Int), .int .u8 (a0.Sum.e15.toNat : Int)]) agg27 rfl h1 rfl rfl rfl ?_
   refine k_move rfl rfl ?_
   refine k_nil ?_
   refine k_keep [(2, _), (3, _), (4, _), (16, _), (17, _)] ⟨rfl, rfl, rfl, rfl, rfl, trivial⟩ ?_
   refine k_block ?_
   refine k_loopc (X := St × (List UInt8) × Value × Int × Nat) [(2, _), (3, _), (16, _)] (fun (xL : St × (List UInt8) × Value × Int × Nat) => match xL with | (sl, x6, v10, x7, j) => [(4, v10), (17, .int .i64 x7)]) (fun (xL : St × (List UInt8) × Value × Int × Nat) (wL : World) => match xL with | (sl, x6, v10, x7, j) => sl.w = wL ∧ Step (KC l4_0.o l4_0.c) s6 sl ∧ (Own sl ⟨l4_0.o, l4_0.c⟩ 5 1 v10 (x6.map bD)) ∧ rev_Print_l1 a0 kj4 j x6 x7 = some r) (fun (xL : St × (List UInt8) × Value × Int × Nat) => match xL with | (sl, x6, v10, x7, j) => j) (s6, x3, v6, 0, FU) ⟨rfl, rfl, rfl, trivial⟩ ⟨(by first | rfl | (simp <;> rfl)), (by first | rfl | (simp <;> rfl)), trivial⟩ ⟨rfl, (Step.refl _).of0 (by first | exact fun _ h => h | (intro c h; simp [KC, KO, KU, KN, KB] at h <;> omega)), h6, h⟩ ?_
   rintro ⟨s11, x6, v10, x7, j⟩ wL ⟨rfl, hE9, h10, h⟩
   cases j with
   | zero => rw [rev_Print_l1] at h; exact (noneNe h).elim
   | succ j =>
   rw [rev_Print_l1] at h
   have szs11 := hE9.size
   have hS := hS.c0 hE9
   have hE7 := hE7.c0 hE9
   refine k_seq ?_
   refine k_region ?_
   refine k_lss rfl rfl rfl ?_
   refine k_nil ?_
   refine k_seq ?_
   refine k_cond_dec rfl (fun c12 => ?_) (fun c12 => ?_)
   ·
    have h := itT h c12
    refine k_skip ?_
    refine k_seq ?_
    refine k_block ?_
    refine k_seq ?_
    refine k_region ?_
    obtain ⟨x8, hx8, h⟩ := ob h
    refine k_index_row cB (xs := ([a0.Sum.e0, a0.Sum.e1, a0.Sum.e2, a0.Sum.e3, a0.Sum.e4, a0.Sum.e5, a0.Sum.e6, a0.Sum.e7, a0.Sum.e8, a0.Sum.e9, a0.Sum.e10, a0.Sum.e11, a0.Sum.e12, a0.Sum.e13, a0.Sum.e14, a0.Sum.e15] : List UInt8)) arr27 one5 rfl rfl rfl hx8 rfl ?_
    refine k_assign rfl rfl ?_
    refine k_nil ?_
    refine k_keep [(2, _), (3, _), (4, _), (6, _), (16, _), (17, _)] ⟨rfl, rfl, rfl, rfl, rfl, rfl, trivial⟩ ?_
    have h10_d := h10
    refine k_drawT (KN s11.n) 8 (.read 0 (.read 1 (.read 2 (.read 3 (.read 4 (.read 5 (.read 6 (.alt 7 .fin .no)))))))) mixed (by intro c h; (try simp only [KC, KO, KU, KN, KB] at h) <;> omega) rfl rfl rfl ?_
    intro s13 st13
    have szs13 := st13.size
    have hS := hS.trans0 st13
    have hE7 := hE7.trans0 st13
    have hE9 := hE9.trans0 st13
    replace h10 := h10.up2 st13
    refine rt_read (v10) rfl rfl (fun s14 st14 => ?_) ?_
    ·refine k_move rfl rfl ?_
     exact fq_end
    refine rt_read (.int .u8 (x8.toNat : Int)) rfl rfl (fun s15 st15 => ?_) ?_
    ·refine k_move rfl rfl ?_
     exact fq_end
    refine rt_read (.int .u8 ((shr8 x8 4).toNat : Int)) rfl rfl (fun s16 st16 => ?_) ?_
    ·refine k_shr (p := (x8.toNat : Int)) rfl rfl (by decide) rfl ?_
     refine k_as (congrArg (Value.int .u8) (shr8_eq _ _)) ?_
     exact fq_end
    obtain ⟨x9, hx9, h⟩ := ob h
    refine rt_read (.int .u8 (x9.toNat : Int)) rfl rfl (fun s17 st17 => ?_) ?_
    ·refine k_index_str Tryd.underlying9 rfl rfl (geti_out hx9).1 (geti_out hx9).2.1 rfl ?_
     refine k_as (congrArg (fun c : UInt8 => Value.int .u8 (c.toNat : Int)) (geti_getD hx9)) ?_
     exact fq_end
    refine rt_read (.int .u8 (x8.toNat : Int)) rfl rfl (fun s18 st18 => ?_) ?_
    ·refine k_move rfl rfl ?_
     exact fq_end
    refine rt_read (.int .u8 ((x8 &&& (15 : UInt8)).toNat : Int)) rfl rfl (fun s19 st19 => ?_) ?_
    ·refine k_bits (p := (x8.toNat : Int)) (q := ((15 : UInt8).toNat : Int)) (.inl ⟨rfl, rfl⟩) rfl rfl rfl ?_
     refine k_as (congrArg (Value.int .u8) (and8 _ _)) ?_
     exact fq_end
    obtain ⟨x10, hx10, h⟩ := ob h
    refine rt_read (.int .u8 (x10.toNat : Int)) rfl rfl (fun s20 st20 => ?_) ?_
    ·refine k_index_str Tryd.underlying9 rfl rfl (geti_out hx10).1 (geti_out hx10).2.1 rfl ?_
     refine k_as (congrArg (fun c : UInt8 => Value.int .u8 (c.toNat : Int)) (geti_getD hx10)) ?_
     exact fq_end
    refine rt_act rfl rfl ?_
    have hA21 := Step.r0 (KN s11.n) s13
    refine k_bslice2 (ds := ([x9, x10] : List UInt8).map bD) slc51 rfl (RVs.cons (R.val rfl) (RVs.cons (R.val rfl) RVs.nil)) (by rfl) (by rfl) rfl rfl ?_
    intro s22 v22 b22 st22 ge22 bl22 h22
    have szs22 := st22.size
    have hS := hS.trans0 st22
    have hE7 := hE7.trans0 st22
    have hE9 := hE9.trans0 st22
    have hA21 := hA21.trans0 st22
    replace h10 := h10.up2 st22
    have lt22 := Own.le1 h22
    refine rt_cont hA21 ?_
    refine rt_fin ?_
    obtain ⟨x11, hx11, h⟩ := ob h
    refine k_append (es := ([x9, x10] : List UInt8).map bD) elem51 rfl rfl h10 (h22.sl) (by have := (app_out hx11).1; simp only [List.length_map] at *; omega) (by have := (app_out hx11).1; simp only [List.length_map] at *; omega) rfl ?_
    intro s23 v23 st23 h23
    rw [← List.map_append, ← (app_out hx11).2] at h23
    have szs23 := st23.size
    have hS := hS.c0 st23
    have hE7 := hE7.c0 st23
    have hE9 := hE9.c0 st23
    refine k_assign rfl rfl ?_
    refine k_nil ?_
    refine k_blk ?_
    refine k_region ?_
    refine k_add rfl rfl rfl ?_
    refine k_move rfl rfl ?_
    refine k_nil ?_
    exact k_stop ⟨(s23, x11, v23, i64 (x7 + 1), j), ⟨(by first | rfl | (simp <;> rfl)), (by first | rfl | (simp <;> rfl)), trivial⟩, ⟨rfl, rfl, rfl, trivial⟩, ⟨rfl, hE9, h23, h⟩, (by simp)⟩
   ·
    have h := itF h c12
    refine k_exit rfl ?_
    exact k_stop ⟨(s11, x6, v10), ⟨(by first | rfl | (simp <;> rfl)), trivial⟩, ⟨rfl, rfl, trivial⟩, ⟨rfl, hE7, h10, h⟩⟩
  ·
   rintro ⟨s24, x5, v8⟩ wL ⟨rfl, hE7, h8, h⟩
   rw [hK7] at h
   have szs24 := hE7.size
   have hS := hS.c0 hE7
   refine k_seq ?_
   refine k_region ?_
   refine k_move rfl rfl ?_
   refine k_bts (m := x5) Tryd.underlying51 Tryd.underlying5 Tryd.underlying9 rfl (h8.sl) rfl ?_
   refine k_assign rfl rfl ?_
   refine k_assign rfl rfl ?_
   refine k_nil ?_
   refine k_keep [(2, _), (3, _)] ⟨rfl, rfl, trivial⟩ ?_
   refine k_ret ?_
   obtain rfl := Option.some.inj h
   refine ⟨_, rfl, Ret.mk hS ?_⟩
   exact rfl

set_option maxHeartbeats 20000000 in
set_option maxRecDepth 100000 in
theorem law06_RevBack_w {s : St} {cs0 : List Value} {a0 : ApiRev} {cs1 : List Value} {a1 : ApiRev} {a2 : (List UInt8)} {r : Bool} (hp0 : RC s cs0 (dApiRev a0)) (hp1 : RC s cs1 (dApiRev a1)) (tb2 : Tab2 s) (tb0 : Tab0 s) (tb1 : Tab1 s) (h : law06_RevBack a0 a1 a2 = some r) : Calls Tryd.prog 6 #[.agg cs0.toArray, .agg cs1.toArray, S a2] s.w (Ret s K0 (fun s1 v => v = .bool r)) := by
 unfold law06_RevBack at h
 obtain rfl := opnApiRev hp0
 obtain rfl := opnApiRev hp1
 have hS := Step.r0 K0 s
 refine k_fn (rs := [6]) (args := [.agg #[.int .u64 (a0.Gen.toNat : Int), .int .u8 (a0.Sum.e0.toNat : Int), .int .u8 (a0.Sum.e1.toNat : Int), .int .u8 (a0.Sum.e2.toNat : Int), .int .u8 (a0.Sum.e3.toNat : Int), .int .u8 (a0.Sum.e4.toNat : Int), .int .u8 (a0.Sum.e5.toNat : Int), .int .u8 (a0.Sum.e6.toNat : Int), .int .u8 (a0.Sum.e7.toNat : Int), .int .u8 (a0.Sum.e8.toNat : Int), .int .u8 (a0.Sum.e9.toNat : Int), .int .u8 (a0.Sum.e10.toNat : Int), .int .u8 (a0.Sum.e11.toNat : Int), .int .u8 (a0.Sum.e12.toNat : Int), .int .u8 (a0.Sum.e13.toNat : Int), .int .u8 (a0.Sum.e14.toNat : Int), .int .u8 (a0.Sum.e15.toNat : Int)], .agg #[.int .u64 (a1.Gen.toNat : Int), .int .u8 (a1.Sum.e0.toNat : Int), .int .u8 (a1.Sum.e1.toNat : Int), .int .u8 (a1.Sum.e2.toNat : Int), .int .u8 (a1.Sum.e3.toNat : Int), .int .u8 (a1.Sum.e4.toNat : Int), .int .u8 (a1.Sum.e5.toNat : Int), .int .u8 (a1.Sum.e6.toNat : Int), .int .u8 (a1.Sum.e7.toNat : Int), .int .u8 (a1.Sum.e8.toNat : Int), .int .u8 (a1.Sum.e9.toNat : Int), .int .u8 (a1.Sum.e10.toNat : Int), .int .u8 (a1.Sum.e11.toNat : Int), .int .u8 (a1.Sum.e12.toNat : Int), .int .u8 (a1.Sum.e13.toNat : Int), .int .u8 (a1.Sum.e14.toNat : Int), .int .u8 (a1.Sum.e15.toNat : Int)], S a2]) Tryd.func6 rfl rfl rfl rfl ?_
 refine k_seq ?_
 refine k_region ?_
 refine k_box rfl rfl ?_
 intro s1 b1 st1 h1 ge1
 have szs1 := st1.size
 have hS := hS.trans0 st1
 replace tb2 := tb2.up2 st1
 replace tb0 := tb0.up2 st1
 replace tb1 := tb1.up2 st1
 have lt1 := h1.lt
 refine k_box rfl rfl ?_
 intro s2 b2 st2 h2 ge2
 have szs2 := st2.size
 have hS := hS.trans0 st2
 replace h1 := h1.up2 st2
 replace tb2 := tb2.up2 st2
 replace tb0 := tb0.up2 st2
 replace tb1 := tb1.up2 st2
 have lt2 := h2.lt
 refine k_assign rfl rfl ?_
 refine k_nil ?_
 refine k_keep [(2, _), (3, _), (4, _), (6, _)] ⟨rfl, rfl, rfl, rfl, trivial⟩ ?_
 refine k_seq ?_
 refine k_seq ?_
 refine k_region ?_
 refine k_move rfl rfl ?_
 refine k_len_str Tryd.underlying9 rfl rfl ?_
 refine k_gtr rfl rfl rfl ?_
 refine k_nil ?_
 refine k_keep [(2, _), (3, _), (4, _), (6, _), (19, _)] ⟨rfl, rfl, rfl, rfl, rfl, trivial⟩ ?_
 refine k_cond_dec rfl (fun c3 => ?_) (fun c3 => ?_)
 ·
  have h := itT h c3
  refine k_seq ?_
  refine k_region ?_
  obtain ⟨x1, hx1, h⟩ := ob h
  refine k_call cal7 rfl (law06_awake_w  tb2 tb0 tb1 hx1) rfl ?_
  rintro s4 vr4 st4 rfl
  have szs4 := st4.size
  have hS := hS.trans0 st4
  refine k_assign rfl rfl ?_
  refine k_nil ?_
  refine k_keep [(2, _), (3, _), (4, _), (6, _)] ⟨rfl, rfl, rfl, rfl, trivial⟩ ?_
  refine k_ret ?_
  obtain rfl := Option.some.inj h
  refine ⟨_, rfl, Ret.mk hS ?_⟩
  exact rfl
 ·
  have h := itF h c3
  refine k_skip ?_
  refine k_seq ?_
  refine k_region ?_
  refine k_load_blka (cs := [.int .u64 (a0.Gen.toNat : Int), .int .u8 (a0.Sum.e0.toNat : Int), .int .u8 (a0.Sum.e1.toNat : Int), .int .u8 (a0.Sum.e2.toNat : Int), .int .u8 (a0.Sum.e3.toNat : Int), .int .u8 (a0.Sum.e4.toNat : Int), .int .u8 (a0.Sum.e5.toNat : Int), .int .u8 (a0.Sum.e6.toNat : Int), .int .u8 (a0.Sum.e7.toNat : Int), .int .u8 (a0.Sum.e8.toNat : Int), .int .u8 (a0.Sum.e9.toNat : Int), .int .u8 (a0.Sum.e10.toNat : Int), .int .u8 (a0.Sum.e11.toNat : Int), .int .u8 (a0.Sum.e12.toNat : Int), .int .u8 (a0.Sum.e13.toNat : Int), .int .u8 (a0.Sum.e14.toNat : Int), .int .u8 (a0.Sum.e15.toNat : Int)]) agg29 rfl h1 rfl ?_
  obtain ⟨x2, hx2, h⟩ := ob h
  refine k_call cal14 rfl (rev_Print_w  (clsApiRev a0) tb2 hx2) rfl ?_
  rintro s5 vr5 st5 rfl
  have szs5 := st5.size
  have hS := hS.trans0 st5
  replace h1 := h1.up2 st5
  replace h2 := h2.up2 st5
  replace tb2 := tb2.up2 st5
  replace tb0 := tb0.up2 st5
  replace tb1 := tb1.up2 st5
  refine k_move rfl rfl ?_
  refine k_extract rfl rfl rfl ?_
  refine k_extract rfl rfl rfl ?_
  refine k_assign rfl rfl ?_
  refine k_assign rfl rfl ?_
  refine k_nil ?_
  refine k_keep [(2, _), (3, _), (4, _), (6, _), (7, _), (8, _)] ⟨rfl, rfl, rfl, rfl, rfl, rfl, trivial⟩ ?_
  refine k_seq ?_
  refine k_region ?_
  refine k_load_blka (cs := [.int .u64 (a1.Gen.toNat : Int), .int .u8 (a1.Sum.e0.toNat : Int), .int .u8 (a1.Sum.e1.toNat : Int), .int .u8 (a1.Sum.e2.toNat : Int), .int .u8 (a1.Sum.e3.toNat : Int), .int .u8 (a1.Sum.e4.toNat : Int), .int .u8 (a1.Sum.e5.toNat : Int), .int .u8 (a1.Sum.e6.toNat : Int), .int .u8 (a1.Sum.e7.toNat : Int), .int .u8 (a1.Sum.e8.toNat : Int), .int .u8 (a1.Sum.e9.toNat : Int), .int .u8 (a1.Sum.e10.toNat : Int), .int .u8 (a1.Sum.e11.toNat : Int), .int .u8 (a1.Sum.e12.toNat : Int), .int .u8 (a1.Sum.e13.toNat : Int), .int .u8 (a1.Sum.e14.toNat : Int), .int .u8 (a1.Sum.e15.toNat : Int)]) agg29 rfl h2 rfl ?_
  obtain ⟨x3, hx3, h⟩ := ob h
  refine k_call cal14 rfl (rev_Print_w  (clsApiRev a1) tb2 hx3) rfl ?_
  rintro s6 vr6 st6 rfl
  have szs6 := st6.size
  have hS := hS.trans0 st6
  replace h1 := h1.up2 st6
  replace h2 := h2.up2 st6
  replace tb2 := tb2.up2 st6
  replace tb0 := tb0.up2 st6
  replace tb1 := tb1.up2 st6
  refine k_move rfl rfl ?_
  refine k_extract rfl rfl rfl ?_
  refine k_extract rfl rfl rfl ?_
  refine k_assign rfl rfl ?_
  refine k_assign rfl rfl ?_
  refine k_nil ?_
  refine k_keep [(2, _), (3, _), (4, _), (6, _), (7, _), (8, _), (9, _), (10, _)] ⟨rfl, rfl, rfl, rfl, rfl, rfl, rfl, rfl, trivial⟩ ?_
  refine k_seq ?_
  obtain ⟨kj4, hK7, h⟩ := jn_out h
  have hE7 := Step.r0 K0 s6
  refine k_cutc (X := St) [(2, S a2), (6, .bool false)] (fun (xL : St) => match xL with | sl => []) (fun (xL : St) (wL : World) => match xL with | sl => sl.w = wL ∧ Step K0 s6 sl ∧ kj4 () = some r) ?_ ?_
  ·
   refine k_seq ?_
   refine k_region ?_
   refine k_move rfl rfl ?_
   refine k_eql rfl rfl rfl ?_
   refine k_nil ?_
   refine k_keep [(2, _), (3, _), (4, _), (6, _), (7, _), (9, _), (10, _), (32, _)] ⟨rfl, rfl, rfl, rfl, rfl, rfl, rfl, rfl, trivial⟩ ?_
   refine k_cond_dec rfl (fun c8 => ?_) (fun c8 => ?_)
   ·
    have h := itT h c8
    refine k_seq ?_
    refine k_region ?_
    refine k_move rfl rfl ?_
    obtain ⟨x5, hx5, h⟩ := ob h
    refine k_call cal17 rfl (rev_Parse_w  tb0 tb1 tb2 hx5) rfl ?_
    rintro s9 vr9 st9 ⟨cs9_0, rfl, h9_0⟩
    have szs9 := st9.size
    have hS := hS.trans0 st9
    have hE7 := hE7.trans0 st9
    replace h1 := h1.up2 st9
    replace h2 := h2.up2 st9
    obtain rfl := opnApiRev h9_0
    refine k_move rfl rfl ?_
    refine k_extract rfl rfl rfl ?_
    refine k_extract rfl rfl rfl ?_
    refine k_alloc zero29 rfl ?_
    intro s10 b10 st10 h10 ge10
    have szs10 := st10.size
    have hS := hS.trans0 st10
    have hE7 := hE7.trans0 st10
    replace h1 := h1.up2 st10
    replace h2 := h2.up2 st10
    have lt10 := h10.lt
    refine k_store_c (cs' := [.int .u64 (x5.1.Gen.toNat : Int), .int .u8 (x5.1.Sum.e0.toNat : Int), .int .u8 (x5.1.Sum.e1.toNat : Int), .int .u8 (x5.1.Sum.e2.toNat : Int), .int .u8 (x5.1.Sum.e3.toNat : Int), .int .u8 (x5.1.Sum.e4.toNat : Int), .int .u8 (x5.1.Sum.e5.toNat : Int), .int .u8 (x5.1.Sum.e6.toNat : Int), .int .u8 (x5.1.Sum.e7.toNat : Int), .int .u8 (x5.1.Sum.e8.toNat : Int), .int .u8 (x5.1.Sum.e9.toNat : Int), .int .u8 (x5.1.Sum.e10.toNat : Int), .int .u8 (x5.1.Sum.e11.toNat : Int), .int .u8 (x5.1.Sum.e12.toNat : Int), .int .u8 (x5.1.Sum.e13.toNat : Int), .int .u8 (x5.1.Sum.e14.toNat : Int), .int .u8 (x5.1.Sum.e15.toNat : Int)]) size29 rfl rfl h10 (by first | (simp; done) | omega | (dsimp only; omega)) (CellsOf.lit rfl rfl) rfl (by first | rfl | (simp; done) | (simp; omega)) rfl ?_
    intro s11 st11 h10
    have szs11 := st11.size
    have hS := hS.c0 st11
    have hE7 := hE7.c0 st11
    replace h1 := h1.up2 st11
    replace h2 := h2.up2 st11
    refine k_assign rfl rfl ?_
    refine k_nil ?_
    refine k_keep [(2, _), (3, _), (4, _), (6, _), (7, _), (9, _), (10, _), (11, _), (12, _)] ⟨rfl, rfl, rfl, rfl, rfl, rfl, rfl, rfl, rfl, trivial⟩ ?_
    refine k_seq ?_
    refine k_region ?_
    refine k_move rfl rfl ?_
    refine k_neq rfl rfl rfl ?_
    refine k_move rfl rfl ?_
    have hE12 := Step.r0 K0 s11
    refine k_cutl (X := St) 4 [(2, S a2), (3, .pointer (some ⟨b1, 0, none⟩)), (4, .pointer (some ⟨b2, 0, none⟩)), (6, .bool false), (7, S x2.1), (9, S x3.1), (10, .int .i64 x3.2), (11, .pointer (some ⟨b10, 0, none⟩)), (12, .int .i64 x5.2), (38, .int .i64 x5.2), (39, .bool (decide (x5.2 ≠ 0)))] (fun _ => [(44, .bool (decide ((x5.2 ≠ 0) ∨ (¬ ((x5.1.Gen.toNat : Int) = (a0.Gen.toNat : Int) ∧ ([x5.1.Sum.e0, x5.1.Sum.e1, x5.1.Sum.e2, x5.1.Sum.e3, x5.1.Sum.e4, x5.1.Sum.e5, x5.1.Sum.e6, x5.1.Sum.e7, x5.1.Sum.e8, x5.1.Sum.e9, x5.1.Sum.e10, x5.1.Sum.e11, x5.1.Sum.e12, x5.1.Sum.e13, x5.1.Sum.e14, x5.1.Sum.e15] : List UInt8) = ([a0.Sum.e0, a0.Sum.e1, a0.Sum.e2, a0.Sum.e3, a0.Sum.e4, a0.Sum.e5, a0.Sum.e6, a0.Sum.e7, a0.Sum.e8, a0.Sum.e9, a0.Sum.e10, a0.Sum.e11, a0.Sum.e12, a0.Sum.e13, a0.Sum.e14, a0.Sum.e15] : List UInt8))))))]) (fun sl wL => sl.w = wL ∧ Step K0 s11 sl) ?_ ?_
    ·
     refine k_again 40 rfl ?_
     refine k_split (fun c13 => ?_) (fun c13 => ?_)
     ·
      refine k_no rfl rfl rfl rfl ?_
      refine k_no rfl rfl rfl rfl ?_
      refine k_no rfl rfl rfl rfl ?_
      refine k_pickT rfl rfl rfl rfl ?_
      exact k_met ⟨s11, ⟨(congrArg (fun b => some (Value.bool b)) (by first | exact decide_eq_decide.2 ⟨Or.inr, fun h => h.resolve_left c13⟩ | exact (decide_eq_true (Or.inl c13)).symm | (simp [c13]; done) | exact dec_andT c13 | exact dec_andF c13 | exact dec_orF c13 | exact dec_orT c13 | (simp [c13, i64] <;> omega))), trivial⟩, ⟨rfl, rfl, rfl, rfl, rfl, rfl, rfl, rfl, rfl, rfl, rfl, trivial⟩, rfl, hE12⟩
     ·
      refine k_yes rfl rfl ?_
      refine k_load_blka (cs := [.int .u64 (x5.1.Gen.toNat : Int), .int .u8 (x5.1.Sum.e0.toNat : Int), .int .u8 (x5.1.Sum.e1.toNat : Int), .int .u8 (x5.1.Sum.e2.toNat : Int), .int .u8 (x5.1.Sum.e3.toNat : Int), .int .u8 (x5.1.Sum.e4.toNat : Int), .int .u8 (x5.1.Sum.e5.toNat : Int), .int .u8 (x5.1.Sum.e6.toNat : Int), .int .u8 (x5.1.Sum.e7.toNat : Int), .int .u8 (x5.1.Sum.e8.toNat : Int), .int .u8 (x5.1.Sum.e9.toNat : Int), .int .u8 (x5.1.Sum.e10.toNat : Int), .int .u8 (x5.1.Sum.e11.toNat : Int), .int .u8 (x5.1.Sum.e12.toNat : Int), .int .u8 (x5.1.Sum.e13.toNat : Int), .int .u8 (x5.1.Sum.e14.toNat : Int), .int .u8 (x5.1.Sum.e15.toNat : Int)]) agg29 rfl h10 rfl ?_
      refine k_yes rfl rfl ?_
      refine k_load_blka (cs := [.int .u64 (a0.Gen.toNat : Int), .int .u8 (a0.Sum.e0.toNat : Int), .int .u8 (a0.Sum.e1.toNat : Int), .int .u8 (a0.Sum.e2.toNat : Int), .int .u8 (a0.Sum.e3.toNat : Int), .int .u8 (a0.Sum.e4.toNat : Int), .int .u8 (a0.Sum.e5.toNat : Int), .int .u8 (a0.Sum.e6.toNat : Int), .int .u8 (a0.Sum.e7.toNat : Int), .int .u8 (a0.Sum.e8.toNat : Int), .int .u8 (a0.Sum.e9.toNat : Int), .int .u8 (a0.Sum.e10.toNat : Int), .int .u8 (a0.Sum.e11.toNat : Int), .int .u8 (a0.Sum.e12.toNat : Int), .int .u8 (a0.Sum.e13.toNat : Int), .int .u8 (a0.Sum.e14.toNat : Int), .int .u8 (a0.Sum.e15.toNat : Int)]) agg29 rfl h1 rfl ?_
      refine k_yes rfl rfl ?_
      refine k_neq_fb (a := (x5.1.Gen.toNat : Int)) (b := (a0.Gen.toNat : Int)) (xs := ([x5.1.Sum.e0, x5.1.Sum.e1, x5.1.Sum.e2, x5.1.Sum.e3, x5.1.Sum.e4, x5.1.Sum.e5, x5.1.Sum.e6, x5.1.Sum.e7, x5.1.Sum.e8, x5.1.Sum.e9, x5.1.Sum.e10, x5.1.Sum.e11, x5.1.Sum.e12, x5.1.Sum.e13, x5.1.Sum.e14, x5.1.Sum.e15] : List UInt8)) (ys := ([a0.Sum.e0, a0.Sum.e1, a0.Sum.e2, a0.Sum.e3, a0.Sum.e4, a0.Sum.e5, a0.Sum.e6, a0.Sum.e7, a0.Sum.e8, a0.Sum.e9, a0.Sum.e10, a0.Sum.e11, a0.Sum.e12, a0.Sum.e13, a0.Sum.e14, a0.Sum.e15] : List UInt8)) flatB29 rfl rfl rfl rfl rfl ?_
      refine k_pickF rfl rfl rfl rfl ?_
      exact k_met ⟨s11, ⟨(congrArg (fun b => some (Value.bool b)) (by first | exact decide_eq_decide.2 ⟨Or.inr, fun h => h.resolve_left c13⟩ | exact (decide_eq_true (Or.inl c13)).symm | (simp [c13]; done) | exact dec_andT c13 | exact dec_andF c13 | exact dec_orF c13 | exact dec_orT c13 | (simp [c13, i64] <;> omega))), trivial⟩, ⟨rfl, rfl, rfl, rfl, rfl, rfl, rfl, rfl, rfl, rfl, rfl, trivial⟩, rfl, hE12⟩
    ·
     rintro s14 wL ⟨rfl, hE12⟩
     have szs14 := hE12.size
     have hS := hS.trans0 hE12
     have hE7 := hE7.trans0 hE12
     replace h1 := h1.up2 hE12
     replace h2 := h2.up2 hE12
     refine k_move rfl rfl ?_
     have hE15 := Step.r0 K0 s14
     refine k_cutl (X := St) 12 [(2, S a2), (3, .pointer (some ⟨b1, 0, none⟩)), (4, .pointer (some ⟨b2, 0, none⟩)), (6, .bool false), (7, S x2.1), (9, S x3.1), (10, .int .i64 x3.2), (11, .pointer (some ⟨b10, 0, none⟩)), (12, .int .i64 x5.2), (38, .int .i64 x5.2), (39, .bool (decide (x5.2 ≠ 0))), (44, .bool (decide ((x5.2 ≠ 0) ∨ (¬ ((x5.1.Gen.toNat : Int) = (a0.Gen.toNat : Int) ∧ ([x5.1.Sum.e0, x5.1.Sum.e1, x5.1.Sum.e2, x5.1.Sum.e3, x5.1.Sum.e4, x5.1.Sum.e5, x5.1.Sum.e6, x5.1.Sum.e7, x5.1.Sum.e8, x5.1.Sum.e9, x5.1.Sum.e10, x5.1.Sum.e11, x5.1.Sum.e12, x5.1.Sum.e13, x5.1.Sum.e14, x5.1.Sum.e15] : List UInt8) = ([a0.Sum.e0, a0.Sum.e1, a0.Sum.e2, a0.Sum.e3, a0.Sum.e4, a0.Sum.e5, a0.Sum.e6, a0.Sum.e7, a0.Sum.e8, a0.Sum.e9, a0.Sum.e10, a0.Sum.e11, a0.Sum.e12, a0.Sum.e13, a0.Sum.e14, a0.Sum.e15] : List UInt8))))))] (fun _ => [(57, .bool (decide (((x5.2 ≠ 0) ∨ (¬ ((x5.1.Gen.toNat : Int) = (a0.Gen.toNat : Int) ∧ ([x5.1.Sum.e0, x5.1.Sum.e1, x5.1.Sum.e2, x5.1.Sum.e3, x5.1.Sum.e4, x5.1.Sum.e5, x5.1.Sum.e6, x5.1.Sum.e7, x5.1.Sum.e8, x5.1.Sum.e9, x5.1.Sum.e10, x5.1.Sum.e11, x5.1.Sum.e12, x5.1.Sum.e13, x5.1.Sum.e14, x5.1.Sum.e15] : List UInt8) = ([a0.Sum.e0, a0.Sum.e1, a0.Sum.e2, a0.Sum.e3, a0.Sum.e4, a0.Sum.e5, a0.Sum.e6, a0.Sum.e7, a0.Sum.e8, a0.Sum.e9, a0.Sum.e10, a0.Sum.e11, a0.Sum.e12, a0.Sum.e13, a0.Sum.e14, a0.Sum.e15] : List UInt8)))) ∨ ((x3.2 = 0) ∧ ((!(decide (x2.1 = x3.1) == decide ((a0.Gen.toNat : Int) = (a1.Gen.toNat : Int) ∧ ([a0.Sum.e0, a0.Sum.e1, a0.Sum.e2, a0.Sum.e3, a0.Sum.e4, a0.Sum.e5, a0.Sum.e6, a0.Sum.e7, a0.Sum.e8, a0.Sum.e9, a0.Sum.e10, a0.Sum.e11, a0.Sum.e12, a0.Sum.e13, a0.Sum.e14, a0.Sum.e15] : List UInt8) = ([a1.Sum.e0, a1.Sum.e1, a1.Sum.e2, a1.Sum.e3, a1.Sum.e4, a1.Sum.e5, a1.Sum.e6, a1.Sum.e7, a1.Sum.e8, a1.Sum.e9, a1.Sum.e10, a1.Sum.e11, a1.Sum.e12, a1.Sum.e13, a1.Sum.e14, a1.Sum.e15] : List UInt8)))) = true)))))]) (fun sl wL => sl.w = wL ∧ Step K0 s14 sl) ?_ ?_
     ·
      refine k_again 45 rfl ?_
      refine k_split (fun c16 => ?_) (fun c16 => ?_)
      ·
       refine k_no rfl rfl rfl rfl ?_
       refine k_no rfl rfl rfl rfl ?_
       refine k_no rfl rfl rfl rfl ?_
       refine k_nou rfl rfl rfl rfl ?_
       refine k_nou rfl rfl rfl rfl ?_
       refine k_nou rfl rfl rfl rfl ?_
       refine k_nou rfl rfl rfl rfl ?_
       refine k_nou rfl rfl rfl rfl ?_
       refine k_nou rfl rfl rfl rfl ?_
       refine k_nou rfl rfl rfl rfl ?_
       refine k_no rfl rfl rfl rfl ?_
       refine k_pickT rfl rfl rfl rfl ?_
       exact k_met ⟨s14, ⟨(congrArg (fun b => some (Value.bool b)) (by first | exact decide_eq_decide.2 ⟨Or.inr, fun h => h.resolve_left c16⟩ | exact (decide_eq_true (Or.inl c16)).symm | (simp [c16]; done) | exact dec_andT c16 | exact dec_andF c16 | exact dec_orF c16 | exact dec_orT c16 | (simp [c16, i64] <;> omega))), trivial⟩, ⟨rfl, rfl, rfl, rfl, rfl, rfl, rfl, rfl, rfl, rfl, rfl, rfl, trivial⟩, rfl, hE15⟩
      ·
       refine k_yes rfl rfl ?_
       refine k_move rfl rfl ?_
       refine k_yes rfl rfl ?_
       refine k_eql rfl rfl rfl ?_
       refine k_yes rfl rfl ?_
       refine k_move rfl rfl ?_
       have hE17 := Step.r0 K0 s14
       refine k_cutl (X := St) 8 [(2, S a2), (3, .pointer (some ⟨b1, 0, none⟩)), (4, .pointer (some ⟨b2, 0, none⟩)), (6, .bool false), (7, S x2.1), (9, S x3.1), (10, .int .i64 x3.2), (11, .pointer (some ⟨b10, 0, none⟩)), (12, .int .i64 x5.2), (38, .int .i64 x5.2), (39, .bool (decide (x5.2 ≠ 0))), (44, .bool (decide ((x5.2 ≠ 0) ∨ (¬ ((x5.1.Gen.toNat : Int) = (a0.Gen.toNat : Int) ∧ ([x5.1.Sum.e0, x5.1.Sum.e1, x5.1.Sum.e2, x5.1.Sum.e3, x5.1.Sum.e4, x5.1.Sum.e5, x5.1.Sum.e6, x5.1.Sum.e7, x5.1.Sum.e8, x5.1.Sum.e9, x5.1.Sum.e10, x5.1.Sum.e11, x5.1.Sum.e12, x5.1.Sum.e13, x5.1.Sum.e14, x5.1.Sum.e15] : List UInt8) = ([a0.Sum.e0, a0.Sum.e1, a0.Sum.e2, a0.Sum.e3, a0.Sum.e4, a0.Sum.e5, a0.Sum.e6, a0.Sum.e7, a0.Sum.e8, a0.Sum.e9, a0.Sum.e10, a0.Sum.e11, a0.Sum.e12, a0.Sum.e13, a0.Sum.e14, a0.Sum.e15] : List UInt8)))))), (45, .bool false), (46, .int .i64 x3.2), (47, .bool (decide (x3.2 = 0)))] (fun _ => [(56, .bool (decide ((x3.2 = 0) ∧ ((!(decide (x2.1 = x3.1) == decide ((a0.Gen.toNat : Int) = (a1.Gen.toNat : Int) ∧ ([a0.Sum.e0, a0.Sum.e1, a0.Sum.e2, a0.Sum.e3, a0.Sum.e4, a0.Sum.e5, a0.Sum.e6, a0.Sum.e7, a0.Sum.e8, a0.Sum.e9, a0.Sum.e10, a0.Sum.e11, a0.Sum.e12, a0.Sum.e13, a0.Sum.e14, a0.Sum.e15] : List UInt8) = ([a1.Sum.e0, a1.Sum.e1, a1.Sum.e2, a1.Sum.e3, a1.Sum.e4, a1.Sum.e5, a1.Sum.e6, a1.Sum.e7, a1.Sum.e8, a1.Sum.e9, a1.Sum.e10, a1.Sum.e11, a1.Sum.e12, a1.Sum.e13, a1.Sum.e14, a1.Sum.e15] : List UInt8)))) = true))))]) (fun sl wL => sl.w = wL ∧ Step K0 s14 sl) ?_ ?_
       ·
        refine k_again 48 rfl ?_
        refine k_split (fun c18 => ?_) (fun c18 => ?_)
        ·
         refine k_yes rfl rfl ?_
         refine k_move rfl rfl ?_
         refine k_yes rfl rfl ?_
         refine k_move rfl rfl ?_
         refine k_yes rfl rfl ?_
         refine k_eql_str rfl rfl rfl ?_
         refine k_yes rfl rfl ?_
         refine k_load_blka (cs := [.int .u64 (a0.Gen.toNat : Int), .int .u8 (a0.Sum.e0.toNat : Int), .int .u8 (a0.Sum.e1.toNat : Int), .int .u8 (a0.Sum.e2.toNat : Int), .int .u8 (a0.Sum.e3.toNat : Int), .int .u8 (a0.Sum.e4.toNat : Int), .int .u8 (a0.Sum.e5.toNat : Int), .int .u8 (a0.Sum.e6.toNat : Int), .int .u8 (a0.Sum.e7.toNat : Int), .int .u8 (a0.Sum.e8.toNat : Int), .int .u8 (a0.Sum.e9.toNat : Int), .int .u8 (a0.Sum.e10.toNat : Int), .int .u8 (a0.Sum.e11.toNat : Int), .int .u8 (a0.Sum.e12.toNat : Int), .int .u8 (a0.Sum.e13.toNat : Int), .int .u8 (a0.Sum.e14.toNat : Int), .int .u8 (a0.Sum.e15.toNat : Int)]) agg29 rfl h1 rfl ?_
         refine k_yes rfl rfl ?_
         refine k_load_blka (cs := [.int .u64 (a1.Gen.toNat : Int), .int .u8 (a1.Sum.e0.toNat : Int), .int .u8 (a1.Sum.e1.toNat : Int), .int .u8 (a1.Sum.e2.toNat : Int), .int .u8 (a1.Sum.e3.toNat : Int), .int .u8 (a1.Sum.e4.toNat : Int), .int .u8 (a1.Sum.e5.toNat : Int), .int .u8 (a1.Sum.e6.toNat : Int), .int .u8 (a1.Sum.e7.toNat : Int), .int .u8 (a1.Sum.e8.toNat : Int), .int .u8 (a1.Sum.e9.toNat : Int), .int .u8 (a1.Sum.e10.toNat : Int), .int .u8 (a1.Sum.e11.toNat : Int), .int .u8 (a1.Sum.e12.toNat : Int), .int .u8 (a1.Sum.e13.toNat : Int), .int .u8 (a1.Sum.e14.toNat : Int), .int .u8 (a1.Sum.e15.toNat : Int)]) agg29 rfl h2 rfl ?_
         refine k_yes rfl rfl ?_
         refine k_eql_fb (a := (a0.Gen.toNat : Int)) (b := (a1.Gen.toNat : Int)) (xs := ([a0.Sum.e0, a0.Sum.e1, a0.Sum.e2, a0.Sum.e3, a0.Sum.e4, a0.Sum.e5, a0.Sum.e6, a0.Sum.e7, a0.Sum.e8, a0.Sum.e9, a0.Sum.e10, a0.Sum.e11, a0.Sum.e12, a0.Sum.e13, a0.Sum.e14, a0.Sum.e15] : List UInt8)) (ys := ([a1.Sum.e0, a1.Sum.e1, a1.Sum.e2, a1.Sum.e3, a1.Sum.e4, a1.Sum.e5, a1.Sum.e6, a1.Sum.e7, a1.Sum.e8, a1.Sum.e9, a1.Sum.e10, a1.Sum.e11, a1.Sum.e12, a1.Sum.e13, a1.Sum.e14, a1.Sum.e15] : List UInt8)) flatB29 rfl rfl rfl rfl rfl ?_
         refine k_yes rfl rfl ?_
         refine k_neqb Tryd.underlying4 rfl rfl rfl ?_
         refine k_yes rfl rfl ?_
         refine k_pickT rfl rfl rfl rfl ?_
         exact k_met ⟨s14, ⟨(congrArg (fun b => some (Value.bool b)) (by first | exact decide_eq_decide.2 ⟨fun h => ⟨c18, h⟩, fun h => h.2⟩ | exact (decide_eq_false (fun h => c18 h.1)).symm | (simp [c18]; done) | exact dec_andT c18 | exact dec_andF c18 | exact dec_orF c18 | exact dec_orT c18 | (simp [c18, i64] <;> omega))), trivial⟩, ⟨rfl, rfl, rfl, rfl, rfl, rfl, rfl, rfl, rfl, rfl, rfl, rfl, rfl, rfl, rfl, trivial⟩, rfl, hE17⟩
        ·
         refine k_no rfl rfl rfl rfl ?_
         refine k_no rfl rfl rfl rfl ?_
         refine k_no rfl rfl rfl rfl ?_
         refine k_no rfl rfl rfl rfl ?_
         refine k_no rfl rfl rfl rfl ?_
         refine k_no rfl rfl rfl rfl ?_
         refine k_no rfl rfl rfl rfl ?_
         refine k_yes rfl rfl ?_
         refine k_pickF rfl rfl rfl rfl ?_
         exact k_met ⟨s14, ⟨(congrArg (fun b => some (Value.bool b)) (by first | exact decide_eq_decide.2 ⟨fun h => ⟨c18, h⟩, fun h => h.2⟩ | exact (decide_eq_false (fun h => c18 h.1)).symm | (simp [c18]; done) | exact dec_andT c18 | exact dec_andF c18 | exact dec_orF c18 | exact dec_orT c18 | (simp [c18, i64] <;> omega))), trivial⟩, ⟨rfl, rfl, rfl, rfl, rfl, rfl, rfl, rfl, rfl, rfl, rfl, rfl, rfl, rfl, rfl, trivial⟩, rfl, hE17⟩
       ·
        rintro s19 wL ⟨rfl, hE17⟩
        have szs19 := hE17.size
        have hS := hS.trans0 hE17
        have hE7 := hE7.trans0 hE17
        have hE15 := hE15.trans0 hE17
        refine k_pickF rfl rfl rfl rfl ?_
        exact k_met ⟨s19, ⟨(congrArg (fun b => some (Value.bool b)) (by first | exact decide_eq_decide.2 ⟨Or.inr, fun h => h.resolve_left c16⟩ | exact (decide_eq_true (Or.inl c16)).symm | (simp [c16]; done) | exact dec_andT c16 | exact dec_andF c16 | exact dec_orF c16 | exact dec_orT c16 | (simp [c16, i64] <;> omega))), trivial⟩, ⟨rfl, rfl, rfl, rfl, rfl, rfl, rfl, rfl, rfl, rfl, rfl, rfl, trivial⟩, rfl, hE15⟩
     ·
      rintro s20 wL ⟨rfl, hE15⟩
      have szs20 := hE15.size
      have hS := hS.trans0 hE15
      have hE7 := hE7.trans0 hE15
      refine k_nil ?_
      refine k_keep [(2, _), (6, _), (57, _)] ⟨rfl, rfl, rfl, trivial⟩ ?_
      refine k_cond_dec rfl (fun c21 => ?_) (fun c21 => ?_)
      ·
       have h := itT h c21
       refine k_seq ?_
       refine k_region ?_
       refine k_assign rfl rfl ?_
       refine k_nil ?_
       refine k_keep [(2, _), (6, _)] ⟨rfl, rfl, trivial⟩ ?_
       refine k_ret ?_
       obtain rfl := Option.some.inj h
       refine ⟨_, rfl, Ret.mk hS ?_⟩
       exact rfl
      ·
       have h := itF h c21
       refine k_skip ?_
       exact k_stop ⟨s20, trivial, ⟨rfl, rfl, trivial⟩, ⟨rfl, hE7, h⟩⟩
   ·
    have h := itF h c8
    refine k_skip ?_
    exact k_stop ⟨s6, trivial, ⟨rfl, rfl, trivial⟩, ⟨rfl, hE7, h⟩⟩
  ·
   rintro s22 wL ⟨rfl, hE7, h⟩
   rw [hK7] at h
   have szs22 := hE7.size
   have hS := hS.trans0 hE7
   replace tb2 := tb2.up2 hE7
   replace tb0 := tb0.up2 hE7
   replace tb1 := tb1.up2 hE7
   refine k_seq ?_
   refine k_region ?_
   refine k_move rfl rfl ?_
   obtain ⟨x6, hx6, h⟩ := ob h
   refine k_call cal17 rfl (rev_Parse_w  tb0 tb1 tb2 hx6) rfl ?_
   rintro s23 vr23 st23 ⟨cs23_0, rfl, h23_0⟩
   have szs23 := st23.size
   have hS := hS.trans0 st23
   replace tb2 := tb2.up2 st23
   replace tb0 := tb0.up2 st23
   replace tb1 := tb1.up2 st23
   obtain rfl := opnApiRev h23_0
   refine k_move rfl rfl ?_
   refine k_extract rfl rfl rfl ?_
   refine k_extract rfl rfl rfl ?_
   refine k_alloc zero29 rfl ?_
   intro s24 b24 st24 h24 ge24
   have szs24 := st24.size
   have hS := hS.trans0 st24
   replace tb2 := tb2.up2 st24
   replace tb0 := tb0.up2 st24
   replace tb1 := tb1.up2 st24
   have lt24 := h24.lt
   refine k_store_c (cs' := [.int .u64 (x6.1.Gen.toNat : Int), .int .u8 (x6.1.Sum.e0.toNat : Int), .int .u8 (x6.1.Sum.e1.toNat : Int), .int .u8 (x6.1.Sum.e2.toNat : Int), .int .u8 (x6.1.Sum.e3.toNat : Int), .int .u8 (x6.1.Sum.e4.toNat : Int), .int .u8 (x6.1.Sum.e5.toNat : Int), .int .u8 (x6.1.Sum.e6.toNat : Int), .int .u8 (x6.1.Sum.e7.toNat : Int), .int .u8 (x6.1.Sum.e8.toNat : Int), .int .u8 (x6.1.Sum.e9.toNat : Int), .int .u8 (x6.1.Sum.e10.toNat : Int), .int .u8 (x6.1.Sum.e11.toNat : Int), .int .u8 (x6.1.Sum.e12.toNat : Int), .int .u8 (x6.1.Sum.e13.toNat : Int), .int .u8 (x6.1.Sum.e14.toNat : Int), .int .u8 (x6.1.Sum.e15.toNat : Int)]) size29 rfl rfl h24 (by first | (simp; done) | omega | (dsimp only; omega)) (CellsOf.lit rfl rfl) rfl (by first | rfl | (simp; done) | (simp; omega)) rfl ?_
   intro s25 st25 h24
   have szs25 := st25.size
   have hS := hS.c0 st25
   replace tb2 := tb2.up2 st25
   replace tb0 := tb0.up2 st25
   replace tb1 := tb1.up2 st25
   refine k_assign rfl rfl ?_
   refine k_nil ?_
   refine k_keep [(2, _), (6, _), (13, _), (14, _)] ⟨rfl, rfl, rfl, rfl, trivial⟩ ?_
   refine k_seq ?_
   refine k_seq ?_
   refine k_region ?_
   refine k_move rfl rfl ?_
   refine k_neq rfl rfl rfl ?_
   refine k_nil ?_
   refine k_keep [(2, _), (6, _), (13, _), (64, _)] ⟨rfl, rfl, rfl, rfl, trivial⟩ ?_
   refine k_cond_dec rfl (fun c26 => ?_) (fun c26 => ?_)
   ·
    have h := itT h c26
    refine k_seq ?_
    refine k_region ?_
    obtain ⟨x7, hx7, h⟩ := ob h
    refine k_call cal7 rfl (law06_awake_w  tb2 tb0 tb1 hx7) rfl ?_
    rintro s27 vr27 st27 rfl
    have szs27 := st27.size
    have hS := hS.trans0 st27
    refine k_assign rfl rfl ?_
    refine k_nil ?_
    refine k_keep [(2, _), (6, _), (13, _)] ⟨rfl, rfl, rfl, trivial⟩ ?_
    refine k_ret ?_
    obtain rfl := Option.some.inj h
    refine ⟨_, rfl, Ret.mk hS ?_⟩
    exact rfl
   ·
    have h := itF h c26
    refine k_skip ?_
    refine k_seq ?_
    refine k_region ?_
    refine k_load_blka (cs := [.int .u64 (x6.1.Gen.toNat : Int), .int .u8 (x6.1.Sum.e0.toNat : Int), .int .u8 (x6.1.Sum.e1.toNat : Int), .int .u8 (x6.1.Sum.e2.toNat : Int), .int .u8 (x6.1.Sum.e3.toNat : Int), .int .u8 (x6.1.Sum.e4.toNat : Int), .int .u8 (x6.1.Sum.e5.toNat : Int), .int .u8 (x6.1.Sum.e6.toNat : Int), .int .u8 (x6.1.Sum.e7.toNat : Int), .int .u8 (x6.1.Sum.e8.toNat : Int), .int .u8 (x6.1.Sum.e9.toNat : Int), .int .u8 (x6.1.Sum.e10.toNat : Int), .int .u8 (x6.1.Sum.e11.toNat : Int), .int .u8 (x6.1.Sum.e12.toNat : Int), .int .u8 (x6.1.Sum.e13.toNat : Int), .int .u8 (x6.1.Sum.e14.toNat : Int), .int .u8 (x6.1.Sum.e15.toNat : Int)]) agg29 rfl h24 rfl ?_
    obtain ⟨x8, hx8, h⟩ := ob h
    refine k_call cal14 rfl (rev_Print_w  (clsApiRev x6.1) tb2 hx8) rfl ?_
    rintro s28 vr28 st28 rfl
    have szs28 := st28.size
    have hS := hS.trans0 st28
    replace h24 := h24.up2 st28
    replace tb2 := tb2.up2 st28
    replace tb0 := tb0.up2 st28
    replace tb1 := tb1.up2 st28
    refine k_move rfl rfl ?_
    refine k_extract rfl rfl rfl ?_
    refine k_extract rfl rfl rfl ?_
    refine k_assign rfl rfl ?_
    refine k_assign rfl rfl ?_
    refine k_nil ?_
    refine k_keep [(2, _), (6, _), (13, _), (15, _), (16, _)] ⟨rfl, rfl, rfl, rfl, rfl, trivial⟩ ?_
    refine k_seq ?_
    refine k_region ?_
    refine k_move rfl rfl ?_
    refine k_eql rfl rfl rfl ?_
    refine k_move rfl rfl ?_
    have hE29 := Step.r0 K0 s28
    refine k_cutl (X := St) 4 [(2, S a2), (6, .bool false), (13, .pointer (some ⟨b24, 0, none⟩)), (15, S x8.1), (16, .int .i64 x8.2), (71, .int .i64 x8.2), (72, .bool (decide (x8.2 = 0)))] (fun _ => [(77, .bool (decide ((x8.2 = 0) ∧ (x8.1 = a2))))]) (fun sl wL => sl.w = wL ∧ Step K0 s28 sl) ?_ ?_
    ·
     refine k_again 73 rfl ?_
     refine k_split (fun c30 => ?_) (fun c30 => ?_)
     ·
      refine k_yes rfl rfl ?_
      refine k_move rfl rfl ?_
      refine k_yes rfl rfl ?_
      refine k_move rfl rfl ?_
      refine k_yes rfl rfl ?_
      refine k_eql_str rfl rfl rfl ?_
      refine k_pickT rfl rfl rfl rfl ?_
      exact k_met ⟨s28, ⟨(congrArg (fun b => some (Value.bool b)) (by first | exact decide_eq_decide.2 ⟨fun h => ⟨c30, h⟩, fun h => h.2⟩ | exact (decide_eq_false (fun h => c30 h.1)).symm | (simp [c30]; done) | exact dec_andT c30 | exact dec_andF c30 | exact dec_orF c30 | exact dec_orT c30 | (simp [c30, i64] <;> omega))), trivial⟩, ⟨rfl, rfl, rfl, rfl, rfl, rfl, rfl, trivial⟩, rfl, hE29⟩
     ·
      refine k_no rfl rfl rfl rfl ?_
      refine k_no rfl rfl rfl rfl ?_
      refine k_no rfl rfl rfl rfl ?_
      refine k_pickF rfl rfl rfl rfl ?_
      exact k_met ⟨s28, ⟨(congrArg (fun b => some (Value.bool b)) (by first | exact decide_eq_decide.2 ⟨fun h => ⟨c30, h⟩, fun h => h.2⟩ | exact (decide_eq_false (fun h => c30 h.1)).symm | (simp [c30]; done) | exact dec_andT c30 | exact dec_andF c30 | exact dec_orF c30 | exact dec_orT c30 | (simp [c30, i64] <;> omega))), trivial⟩, ⟨rfl, rfl, rfl, rfl, rfl, rfl, rfl, trivial⟩, rfl, hE29⟩
    ·
     rintro s31 wL ⟨rfl, hE29⟩
     have szs31 := hE29.size
     have hS := hS.trans0 hE29
     replace h24 := h24.up2 hE29
     replace tb2 := tb2.up2 hE29
     replace tb0 := tb0.up2 hE29
     replace tb1 := tb1.up2 hE29
     refine k_move rfl rfl ?_
     obtain ⟨x9, hx9, h⟩ := ob h
     have hE32 := Step.r0 K0 s31
     refine k_cutl (X := St) 3 [(2, S a2), (6, .bool false), (13, .pointer (some ⟨b24, 0, none⟩)), (15, S x8.1), (16, .int .i64 x8.2), (71, .int .i64 x8.2), (72, .bool (decide (x8.2 = 0))), (77, .bool (decide ((x8.2 = 0) ∧ (x8.1 = a2))))] (fun _ => [(81, .bool x9)]) (fun sl wL => sl.w = wL ∧ Step K0 s31 sl) ?_ ?_
     ·
      refine k_again 78 rfl ?_
      refine k_split (fun c33 => ?_) (fun c33 => ?_)
      ·
       have hx9 := itT hx9 c33
       refine k_yes rfl rfl ?_
       refine k_load_blka (cs := [.int .u64 (x6.1.Gen.toNat : Int), .int .u8 (x6.1.Sum.e0.toNat : Int), .int .u8 (x6.1.Sum.e1.toNat : Int), .int .u8 (x6.1.Sum.e2.toNat : Int), .int .u8 (x6.1.Sum.e3.toNat : Int), .int .u8 (x6.1.Sum.e4.toNat : Int), .int .u8 (x6.1.Sum.e5.toNat : Int), .int .u8 (x6.1.Sum.e6.toNat : Int), .int .u8 (x6.1.Sum.e7.toNat : Int), .int .u8 (x6.1.Sum.e8.toNat : Int), .int .u8 (x6.1.Sum.e9.toNat : Int), .int .u8 (x6.1.Sum.e10.toNat : Int), .int .u8 (x6.1.Sum.e11.toNat : Int), .int .u8 (x6.1.Sum.e12.toNat : Int), .int .u8 (x6.1.Sum.e13.toNat : Int), .int .u8 (x6.1.Sum.e14.toNat : Int), .int .u8 (x6.1.Sum.e15.toNat : Int)]) agg29 rfl h24 rfl ?_
       refine k_yes rfl rfl ?_
       obtain ⟨x10, hx10, hx9⟩ := ob hx9
       refine k_call cal13 rfl (rev_May_w  (clsApiRev x6.1) hx10) rfl ?_
       rintro s34 vr34 st34 rfl
       have szs34 := st34.size
       have hS := hS.trans0 st34
       have hE32 := hE32.trans0 st34
       refine k_pickT rfl rfl rfl rfl ?_
       exact k_met ⟨s34, ⟨(congrArg (fun b => some (Value.bool b)) (Option.some.inj hx9)), trivial⟩, ⟨rfl, rfl, rfl, rfl, rfl, rfl, rfl, rfl, trivial⟩, rfl, hE32⟩
      ·
       have hx9 := itF hx9 c33
       refine k_no rfl rfl rfl rfl ?_
       refine k_no rfl rfl rfl rfl ?_
       refine k_pickF rfl rfl rfl rfl ?_
       exact k_met ⟨s31, ⟨(congrArg (fun b => some (Value.bool b)) (Option.some.inj hx9)), trivial⟩, ⟨rfl, rfl, rfl, rfl, rfl, rfl, rfl, rfl, trivial⟩, rfl, hE32⟩
     ·
      rintro s35 wL ⟨rfl, hE32⟩
      have szs35 := hE32.size
      have hS := hS.trans0 hE32
      replace tb2 := tb2.up2 hE32
      replace tb0 := tb0.up2 hE32
      replace tb1 := tb1.up2 hE32
      refine k_move rfl rfl ?_
      obtain ⟨x11, hx11, h⟩ := ob h
      have hE36 := Step.r0 K0 s35
      refine k_cutl (X := St) 2 [(2, S a2), (6, .bool false), (13, .pointer (some ⟨b24, 0, none⟩)), (15, S x8.1), (16, .int .i64 x8.2), (71, .int .i64 x8.2), (72, .bool (decide (x8.2 = 0))), (77, .bool (decide ((x8.2 = 0) ∧ (x8.1 = a2)))), (81, .bool x9)] (fun _ => [(84, .bool x11)]) (fun sl wL => sl.w = wL ∧ Step K0 s35 sl) ?_ ?_
      ·
       refine k_again 82 rfl ?_
       refine k_splitb (fun c37 => ?_) (fun c37 => ?_)
       ·
        have hx11 := ibT hx11 c37
        refine k_yes rfl rfl ?_
        obtain ⟨x12, hx12, hx11⟩ := ob hx11
        refine k_call cal7 rfl (law06_awake_w  tb2 tb0 tb1 hx12) rfl ?_
        rintro s38 vr38 st38 rfl
        have szs38 := st38.size
        have hS := hS.trans0 st38
        have hE36 := hE36.trans0 st38
        refine k_pickT rfl rfl rfl rfl ?_
        exact k_met ⟨s38, ⟨(congrArg (fun b => some (Value.bool b)) (Option.some.inj hx11)), trivial⟩, ⟨rfl, rfl, rfl, rfl, rfl, rfl, rfl, rfl, rfl, trivial⟩, rfl, hE36⟩
       ·
        have hx11 := ibF hx11 c37
        refine k_no rfl rfl rfl rfl ?_
        refine k_pickF rfl rfl rfl rfl ?_
        exact k_met ⟨s35, ⟨(congrArg (fun b => some (Value.bool b)) (Option.some.inj hx11)), trivial⟩, ⟨rfl, rfl, rfl, rfl, rfl, rfl, rfl, rfl, rfl, trivial⟩, rfl, hE36⟩
      ·
       rintro s39 wL ⟨rfl, hE36⟩
       have szs39 := hE36.size
       have hS := hS.trans0 hE36
       refine k_assign rfl rfl ?_
       refine k_nil ?_
       refine k_keep [(6, _)] ⟨rfl, trivial⟩ ?_
       refine k_ret ?_
       obtain rfl := Option.some.inj h
       refine ⟨_, rfl, Ret.mk hS ?_⟩
       exact rfl
end Go.Proofs
