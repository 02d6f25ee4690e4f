import Derived.Test.YtdofbkomeadjgaaDoorW06DRevOne2
set_option linter.unusedSimpArgs false
set_option linter.unusedVariables false
namespace Go.Proofs
open Go.Fw
set_option maxHeartbeats 20000000 in
set_option maxRecDepth 100000 in
theorem law06_awake_w {s : St}  {r : Bool} (tb2 : Tab2 s) (tb0 : Tab0 s) (tb1 : Tab1 s) (h : law06_awake = some r) : Calls Tryd.prog 7 #[] s.w (Ret s K0 (fun s1 v => v = .bool r)) := by
 unfold law06_awake at h
 have hS := Step.r0 K0 s
 refine k_fn (rs := [0]) (args := []) Tryd.func7 rfl rfl rfl rfl ?_
 refine k_seq ?_
 refine k_region ?_
 refine k_assign rfl rfl ?_
 refine k_nil ?_
 refine k_seq ?_
 refine k_region ?_
 refine k_build plc29 zero29 rfl Parts.nil (by rfl) rfl ?_
 refine k_as (v := .agg #[.int .u64 0, .int .u8 0, .int .u8 0, .int .u8 0, .int .u8 0, .int .u8 0, .int .u8 0, .int .u8 0, .int .u8 0, .int .u8 0, .int .u8 0, .int .u8 0, .int .u8 0, .int .u8 0, .int .u8 0, .int .u8 0, .int .u8 0]) rfl ?_
 refine k_build plc34 zero34 rfl Parts.nil (by rfl) rfl ?_
 refine k_as (v := .agg #[.int .i64 0, .int .i64 0, S ([] : List UInt8), .slice none 0 0, .slice none 0 0]) rfl ?_
 obtain ⟨x1, hx1, h⟩ := ob h
 refine k_call cal11 rfl (rev_Make_w  (clsApiRev (⟨(0 : UInt64), (⟨(0 : UInt8), (0 : UInt8), (0 : UInt8), (0 : UInt8), (0 : UInt8), (0 : UInt8), (0 : UInt8), (0 : UInt8), (0 : UInt8), (0 : UInt8), (0 : UInt8), (0 : UInt8), (0 : UInt8), (0 : UInt8), (0 : UInt8), (0 : UInt8)⟩ : St27)⟩ : ApiRev)) (clsApiValue (⟨0, 0, ([] : List UInt8), [], []⟩ : ApiValue) (R.of_SL (.inl ⟨rfl, none, 0, rfl, fun _ => rfl⟩)) (R.of_SL (.inl ⟨rfl, none, 0, rfl, fun _ => rfl⟩))) tb2 hx1) rfl ?_
 rintro s1 vr1 st1 ⟨cs1_0, rfl, h1_0⟩
 have szs1 := st1.size
 have hS := hS.trans0 st1
 replace tb2 := tb2.up2 st1
 replace tb0 := tb0.up2 st1
 replace tb1 := tb1.up2 st1
 obtain rfl := opnApiRev h1_0
 refine k_move rfl rfl ?_
 refine k_extract rfl rfl rfl ?_
 refine k_extract rfl rfl rfl ?_
 refine k_alloc zero29 rfl ?_
 intro s2 b2 st2 h2 ge2
 have szs2 := st2.size
 have hS := hS.trans0 st2
 replace tb2 := tb2.up2 st2
 replace tb0 := tb0.up2 st2
 replace tb1 := tb1.up2 st2
 have lt2 := h2.lt
 refine k_store_c (cs' := [.int .u64 (x1.1.Gen.toNat : Int), .int .u8 (x1.1.Sum.e0.toNat : Int), .int .u8 (x1.1.Sum.e1.toNat : Int), .int .u8 (x1.1.Sum.e2.toNat : Int), .int .u8 (x1.1.Sum.e3.toNat : Int), .int .u8 (x1.1.Sum.e4.toNat : Int), .int .u8 (x1.1.Sum.e5.toNat : Int), .int .u8 (x1.1.Sum.e6.toNat : Int), .int .u8 (x1.1.Sum.e7.toNat : Int), .int .u8 (x1.1.Sum.e8.toNat : Int), .int .u8 (x1.1.Sum.e9.toNat : Int), .int .u8 (x1.1.Sum.e10.toNat : Int), .int .u8 (x1.1.Sum.e11.toNat : Int), .int .u8 (x1.1.Sum.e12.toNat : Int), .int .u8 (x1.1.Sum.e13.toNat : Int), .int .u8 (x1.1.Sum.e14.toNat : Int), .int .u8 (x1.1.Sum.e15.toNat : Int)]) size29 rfl rfl h2 (by first | (simp; done) | omega | (dsimp only; omega)) (CellsOf.lit rfl rfl) rfl (by first | rfl | (simp; done) | (simp; omega)) rfl ?_
 intro s3 st3 h2
 have szs3 := st3.size
 have hS := hS.c0 st3
 replace tb2 := tb2.up2 st3
 replace tb0 := tb0.up2 st3
 replace tb1 := tb1.up2 st3
 refine k_assign rfl rfl ?_
 refine k_nil ?_
 refine k_keep [(0, _), (1, _), (2, _)] ⟨rfl, rfl, rfl, trivial⟩ ?_
 refine k_seq ?_
 refine k_region ?_
 refine k_load_blka (cs := [.int .u64 (x1.1.Gen.toNat : Int), .int .u8 (x1.1.Sum.e0.toNat : Int), .int .u8 (x1.1.Sum.e1.toNat : Int), .int .u8 (x1.1.Sum.e2.toNat : Int), .int .u8 (x1.1.Sum.e3.toNat : Int), .int .u8 (x1.1.Sum.e4.toNat : Int), .int .u8 (x1.1.Sum.e5.toNat : Int), .int .u8 (x1.1.Sum.e6.toNat : Int), .int .u8 (x1.1.Sum.e7.toNat : Int), .int .u8 (x1.1.Sum.e8.toNat : Int), .int .u8 (x1.1.Sum.e9.toNat : Int), .int .u8 (x1.1.Sum.e10.toNat : Int), .int .u8 (x1.1.Sum.e11.toNat : Int), .int .u8 (x1.1.Sum.e12.toNat : Int), .int .u8 (x1.1.Sum.e13.toNat : Int), .int .u8 (x1.1.Sum.e14.toNat : Int), .int .u8 (x1.1.Sum.e15.toNat : Int)]) agg29 rfl h2 rfl ?_
 refine k_build plc34 zero34 rfl Parts.nil (by rfl) rfl ?_
 refine k_as (v := .agg #[.int .i64 0, .int .i64 0, S ([] : List UInt8), .slice none 0 0, .slice none 0 0]) rfl ?_
 obtain ⟨x2, hx2, h⟩ := ob h
 refine k_call cal11 rfl (rev_Make_w  (clsApiRev x1.1) (clsApiValue (⟨0, 0, ([] : List UInt8), [], []⟩ : ApiValue) (R.of_SL (.inl ⟨rfl, none, 0, rfl, fun _ => rfl⟩)) (R.of_SL (.inl ⟨rfl, none, 0, rfl, fun _ => rfl⟩))) tb2 hx2) rfl ?_
 rintro s4 vr4 st4 ⟨cs4_0, rfl, h4_0⟩
 have szs4 := st4.size
 have hS := hS.trans0 st4
 replace h2 := h2.up2 st4
 replace tb2 := tb2.up2 st4
 replace tb0 := tb0.up2 st4
 replace tb1 := tb1.up2 st4
 obtain rfl := opnApiRev h4_0
 refine k_move rfl rfl ?_
 refine k_extract rfl rfl rfl ?_
 refine k_extract rfl rfl rfl ?_
 refine k_alloc zero29 rfl ?_
 intro s5 b5 st5 h5 ge5
 have szs5 := st5.size
 have hS := hS.trans0 st5
 replace h2 := h2.up2 st5
 replace tb2 := tb2.up2 st5
 replace tb0 := tb0.up2 st5
 replace tb1 := tb1.up2 st5
 have lt5 := h5.lt
 refine k_store_c (cs' := [.int .u64 (x2.1.Gen.toNat : Int), .int .u8 (x2.1.Sum.e0.toNat : Int), .int .u8 (x2.1.Sum.e1.toNat : Int), .int .u8 (x2.1.Sum.e2.toNat : Int), .int .u8 (x2.1.Sum.e3.toNat : Int), .int .u8 (x2.1.Sum.e4.toNat : Int), .int .u8 (x2.1.Sum.e5.toNat : Int), .int .u8 (x2.1.Sum.e6.toNat : Int), .int .u8 (x2.1.Sum.e7.toNat : Int), .int .u8 (x2.1.Sum.e8.toNat : Int), .int .u8 (x2.1.Sum.e9.toNat : Int), .int .u8 (x2.1.Sum.e10.toNat : Int), .int .u8 (x2.1.Sum.e11.toNat : Int), .int .u8 (x2.1.Sum.e12.toNat : Int), .int .u8 (x2.1.Sum.e13.toNat : Int), .int .u8 (x2.1.Sum.e14.toNat : Int), .int .u8 (x2.1.Sum.e15.toNat : Int)]) size29 rfl rfl h5 (by first | (simp; done) | omega | (dsimp only; omega)) (CellsOf.lit rfl rfl) rfl (by first | rfl | (simp; done) | (simp; omega)) rfl ?_
 intro s6 st6 h5
 have szs6 := st6.size
 have hS := hS.c0 st6
 replace h2 := h2.up2 st6
 replace tb2 := tb2.up2 st6
 replace tb0 := tb0.up2 st6
 replace tb1 := tb1.up2 st6
 refine k_assign rfl rfl ?_
 refine k_nil ?_
 refine k_keep [(0, _), (1, _), (2, _), (3, _), (4, _)] ⟨rfl, rfl, rfl, rfl, rfl, trivial⟩ ?_
 refine k_seq ?_
 refine k_region ?_
 obtain ⟨x3, hx3, h⟩ := ob h
 refine k_call cal17 rfl (rev_Parse_w  tb0 tb1 tb2 hx3) rfl ?_
 rintro s7 vr7 st7 ⟨cs7_0, rfl, h7_0⟩
 have szs7 := st7.size
 have hS := hS.trans0 st7
 replace h2 := h2.up2 st7
 replace h5 := h5.up2 st7
 replace tb2 := tb2.up2 st7
 replace tb0 := tb0.up2 st7
 replace tb1 := tb1.up2 st7
 obtain rfl := opnApiRev h7_0
 refine k_move rfl rfl ?_
 refine k_extract rfl rfl rfl ?_
 refine k_extract rfl rfl rfl ?_
 refine k_alloc zero29 rfl ?_
 intro s8 b8 st8 h8 ge8
 have szs8 := st8.size
 have hS := hS.trans0 st8
 replace h2 := h2.up2 st8
 replace h5 := h5.up2 st8
 replace tb2 := tb2.up2 st8
 replace tb0 := tb0.up2 st8
 replace tb1 := tb1.up2 st8
 have lt8 := h8.lt
 refine k_store_c (cs' := [.int .u64 (x3.1.Gen.toNat : Int), .int .u8 (x3.1.Sum.e0.toNat : Int), .int .u8 (x3.1.Sum.e1.toNat : Int), .int .u8 (x3.1.Sum.e2.toNat : Int), .int .u8 (x3.1.Sum.e3.toNat : Int), .int .u8 (x3.1.Sum.e4.toNat : Int), .int .u8 (x3.1.Sum.e5.toNat : Int), .int .u8 (x3.1.Sum.e6.toNat : Int), .int .u8 (x3.1.Sum.e7.toNat : Int), .int .u8 (x3.1.Sum.e8.toNat : Int), .int .u8 (x3.1.Sum.e9.toNat : Int), .int .u8 (x3.1.Sum.e10.toNat : Int), .int .u8 (x3.1.Sum.e11.toNat : Int), .int .u8 (x3.1.Sum.e12.toNat : Int), .int .u8 (x3.1.Sum.e13.toNat : Int), .int .u8 (x3.1.Sum.e14.toNat : Int), .int .u8 (x3.1.Sum.e15.toNat : Int)]) size29 rfl rfl h8 (by first | (simp; done) | omega | (dsimp only; omega)) (CellsOf.lit rfl rfl) rfl (by first | rfl | (simp; done) | (simp; omega)) rfl ?_
 intro s9 st9 h8
 have szs9 := st9.size
 have hS := hS.c0 st9
 replace h2 := h2.up2 st9
 replace h5 := h5.up2 st9
 replace tb2 := tb2.up2 st9
 replace tb0 := tb0.up2 st9
 replace tb1 := tb1.up2 st9
 refine k_assign rfl rfl ?_
 refine k_nil ?_
 refine k_keep [(0, _), (1, _), (2, _), (3, _), (4, _), (5, _), (6, _)] ⟨rfl, rfl, rfl, rfl, rfl, rfl, rfl, trivial⟩ ?_
 refine k_seq ?_
 refine k_region ?_
 obtain ⟨x4, hx4, h⟩ := ob h
 refine k_call cal17 rfl (rev_Parse_w  tb0 tb1 tb2 hx4) rfl ?_
 rintro s10 vr10 st10 ⟨cs10_0, rfl, h10_0⟩
 have szs10 := st10.size
 have hS := hS.trans0 st10
 replace h2 := h2.up2 st10
 replace h5 := h5.up2 st10
 replace h8 := h8.up2 st10
 obtain rfl := opnApiRev h10_0
 refine k_move rfl rfl ?_
 refine k_extract rfl rfl rfl ?_
 refine k_extract rfl rfl rfl ?_
 refine k_alloc zero29 rfl ?_
 intro s11 b11 st11 h11 ge11
 have szs11 := st11.size
 have hS := hS.trans0 st11
 replace h2 := h2.up2 st11
 replace h5 := h5.up2 st11
 replace h8 := h8.up2 st11
 have lt11 := h11.lt
 refine k_store_c (cs' := [.int .u64 (x4.1.Gen.toNat : Int), .int .u8 (x4.1.Sum.e0.toNat : Int), .int .u8 (x4.1.Sum.e1.toNat : Int), .int .u8 (x4.1.Sum.e2.toNat : Int), .int .u8 (x4.1.Sum.e3.toNat : Int), .int .u8 (x4.1.Sum.e4.toNat : Int), .int .u8 (x4.1.Sum.e5.toNat : Int), .int .u8 (x4.1.Sum.e6.toNat : Int), .int .u8 (x4.1.Sum.e7.toNat : Int), .int .u8 (x4.1.Sum.e8.toNat : Int), .int .u8 (x4.1.Sum.e9.toNat : Int), .int .u8 (x4.1.Sum.e10.toNat : Int), .int .u8 (x4.1.Sum.e11.toNat : Int), .int .u8 (x4.1.Sum.e12.toNat : Int), .int .u8 (x4.1.Sum.e13.toNat : Int), .int .u8 (x4.1.Sum.e14.toNat : Int), .int .u8 (x4.1.Sum.e15.toNat : Int)]) size29 rfl rfl h11 (by first | (simp; done) | omega | (dsimp only; omega)) (CellsOf.lit rfl rfl) rfl (by first | rfl | (simp; done) | (simp; omega)) rfl ?_
 intro s12 st12 h11
 have szs12 := st12.size
 have hS := hS.c0 st12
 replace h2 := h2.up2 st12
 replace h5 := h5.up2 st12
 replace h8 := h8.up2 st12
 refine k_assign rfl rfl ?_
 refine k_nil ?_
 refine k_keep [(0, _), (1, _), (2, _), (3, _), (4, _), (5, _), (6, _), (8, _)] ⟨rfl, rfl, rfl, rfl, rfl, rfl, rfl, rfl, trivial⟩ ?_
 refine k_seq ?_
 refine k_region ?_
 refine k_move rfl rfl ?_
 refine k_eql rfl rfl rfl ?_
 refine k_move rfl rfl ?_
 have hE13 := Step.r0 K0 s12
 refine k_cutl (X := St) 3 [(0, .bool false), (1, .pointer (some ⟨b2, 0, none⟩)), (2, .int .i64 x1.2), (3, .pointer (some ⟨b5, 0, none⟩)), (4, .int .i64 x2.2), (5, .pointer (some ⟨b8, 0, none⟩)), (6, .int .i64 x3.2), (8, .int .i64 x4.2), (29, .int .i64 x1.2), (30, .bool (decide (x1.2 = 0)))] (fun _ => [(34, .bool (decide ((x1.2 = 0) ∧ (x2.2 = 0))))]) (fun sl wL => sl.w = wL ∧ Step K0 s12 sl) ?_ ?_
 ·
  refine k_again 31 rfl ?_
  refine k_split (fun c14 => ?_) (fun c14 => ?_)
  ·
   refine k_yes rfl rfl ?_
   refine k_move rfl rfl ?_
   refine k_yes rfl rfl ?_
   refine k_eql rfl rfl rfl ?_
   refine k_pickT rfl rfl rfl rfl ?_
   exact k_met ⟨s12, ⟨(congrArg (fun b => some (Value.bool b)) (by first | exact decide_eq_decide.2 ⟨fun h => ⟨c14, h⟩, fun h => h.2⟩ | exact (decide_eq_false (fun h => c14 h.1)).symm | (simp [c14]; done) | exact dec_andT c14 | exact dec_andF c14 | exact dec_orF c14 | exact dec_orT c14 | (simp [c14, i64] <;> omega))), trivial⟩, ⟨rfl, rfl, rfl, rfl, rfl, rfl, rfl, rfl, rfl, rfl, trivial⟩, rfl, hE13⟩
  ·
   refine k_no rfl rfl rfl rfl ?_
   refine k_no rfl rfl rfl rfl ?_
   refine k_pickF rfl rfl rfl rfl ?_
   exact k_met ⟨s12, ⟨(congrArg (fun b => some (Value.bool b)) (by first | exact decide_eq_decide.2 ⟨fun h => ⟨c14, h⟩, fun h => h.2⟩ | exact (decide_eq_false (fun h => c14 h.1)).symm | (simp [c14]; done) | exact dec_andT c14 | exact dec_andF c14 | exact dec_orF c14 | exact dec_orT c14 | (simp [c14, i64] <;> omega))), trivial⟩, ⟨rfl, rfl, rfl, rfl, rfl, rfl, rfl, rfl, rfl, rfl, trivial⟩, rfl, hE13⟩
 ·
  rintro s15 wL ⟨rfl, hE13⟩
  have szs15 := hE13.size
  have hS := hS.trans0 hE13
  replace h2 := h2.up2 hE13
  replace h5 := h5.up2 hE13
  replace h8 := h8.up2 hE13
  refine k_move rfl rfl ?_
  have hE16 := Step.r0 K0 s15
  refine k_cutl (X := St) 4 [(0, .bool false), (1, .pointer (some ⟨b2, 0, none⟩)), (2, .int .i64 x1.2), (3, .pointer (some ⟨b5, 0, none⟩)), (4, .int .i64 x2.2), (5, .pointer (some ⟨b8, 0, none⟩)), (6, .int .i64 x3.2), (8, .int .i64 x4.2), (29, .int .i64 x1.2), (30, .bool (decide (x1.2 = 0))), (34, .bool (decide ((x1.2 = 0) ∧ (x2.2 = 0))))] (fun _ => [(39, .bool (decide (((x1.2 = 0) ∧ (x2.2 = 0)) ∧ ((x1.1.Gen.toNat : Int) = 1))))]) (fun sl wL => sl.w = wL ∧ Step K0 s15 sl) ?_ ?_
  ·
   refine k_again 35 rfl ?_
   refine k_split (fun c17 => ?_) (fun c17 => ?_)
   ·
    refine k_yes rfl rfl ?_
    refine k_field_addr fld29_0 rfl rfl ?_
    refine k_yes rfl rfl ?_
    refine k_load_blk one26 rfl h2 rfl rfl ?_
    refine k_yes rfl rfl ?_
    refine k_eql rfl rfl rfl ?_
    refine k_pickT rfl rfl rfl rfl ?_
    exact k_met ⟨s15, ⟨(congrArg (fun b => some (Value.bool b)) (by first | exact decide_eq_decide.2 ⟨fun h => ⟨c17, h⟩, fun h => h.2⟩ | exact (decide_eq_false (fun h => c17 h.1)).symm | (simp [c17]; done) | exact dec_andT c17 | exact dec_andF c17 | exact dec_orF c17 | exact dec_orT c17 | (simp [c17, i64] <;> omega))), trivial⟩, ⟨rfl, rfl, rfl, rfl, rfl, rfl, rfl, rfl, rfl, rfl, rfl, trivial⟩, rfl, hE16⟩
   ·
    refine k_no rfl rfl rfl rfl ?_
    refine k_no rfl rfl rfl rfl ?_
    refine k_no rfl rfl rfl rfl ?_
    refine k_pickF rfl rfl rfl rfl ?_
    exact k_met ⟨s15, ⟨(congrArg (fun b => some (Value.bool b)) (by first | exact decide_eq_decide.2 ⟨fun h => ⟨c17, h⟩, fun h => h.2⟩ | exact (decide_eq_false (fun h => c17 h.1)).symm | (simp [c17]; done) | exact dec_andT c17 | exact dec_andF c17 | exact dec_orF c17 | exact dec_orT c17 | (simp [c17, i64] <;> omega))), trivial⟩, ⟨rfl, rfl, rfl, rfl, rfl, rfl, rfl, rfl, rfl, rfl, rfl, trivial⟩, rfl, hE16⟩
  ·
   rintro s18 wL ⟨rfl, hE16⟩
   have szs18 := hE16.size
   have hS := hS.trans0 hE16
   replace h2 := h2.up2 hE16
   replace h5 := h5.up2 hE16
   replace h8 := h8.up2 hE16
   refine k_move rfl rfl ?_
   have hE19 := Step.r0 K0 s18
   refine k_cutl (X := St) 4 [(0, .bool false), (1, .pointer (some ⟨b2, 0, none⟩)), (2, .int .i64 x1.2), (3, .pointer (some ⟨b5, 0, none⟩)), (4, .int .i64 x2.2), (5, .pointer (some ⟨b8, 0, none⟩)), (6, .int .i64 x3.2), (8, .int .i64 x4.2), (29, .int .i64 x1.2), (30, .bool (decide (x1.2 = 0))), (34, .bool (decide ((x1.2 = 0) ∧ (x2.2 = 0)))), (39, .bool (decide (((x1.2 = 0) ∧ (x2.2 = 0)) ∧ ((x1.1.Gen.toNat : Int) = 1))))] (fun _ => [(44, .bool (decide ((((x1.2 = 0) ∧ (x2.2 = 0)) ∧ ((x1.1.Gen.toNat : Int) = 1)) ∧ ((x2.1.Gen.toNat : Int) = 2))))]) (fun sl wL => sl.w = wL ∧ Step K0 s18 sl) ?_ ?_
   ·
    refine k_again 40 rfl ?_
    refine k_split (fun c20 => ?_) (fun c20 => ?_)
    ·
     refine k_yes rfl rfl ?_
     refine k_field_addr fld29_0 rfl rfl ?_
     refine k_yes rfl rfl ?_
     refine k_load_blk one26 rfl h5 rfl rfl ?_
     refine k_yes rfl rfl ?_
     refine k_eql rfl rfl rfl ?_
     refine k_pickT rfl rfl rfl rfl ?_
     exact k_met ⟨s18, ⟨(congrArg (fun b => some (Value.bool b)) (by first | exact decide_eq_decide.2 ⟨fun h => ⟨c20, h⟩, fun h => h.2⟩ | exact (decide_eq_false (fun h => c20 h.1)).symm | (simp [c20]; done) | exact dec_andT c20 | exact dec_andF c20 | exact dec_orF c20 | exact dec_orT c20 | (simp [c20, i64] <;> omega))), trivial⟩, ⟨rfl, rfl, rfl, rfl, rfl, rfl, rfl, rfl, rfl, rfl, rfl, rfl, trivial⟩, rfl, hE19⟩
    ·
     refine k_no rfl rfl rfl rfl ?_
     refine k_no rfl rfl rfl rfl ?_
     refine k_no rfl rfl rfl rfl ?_
     refine k_pickF rfl rfl rfl rfl ?_
     exact k_met ⟨s18, ⟨(congrArg (fun b => some (Value.bool b)) (by first | exact decide_eq_decide.2 ⟨fun h => ⟨c20, h⟩, fun h => h.2⟩ | exact (decide_eq_false (fun h => c20 h.1)).symm | (simp [c20]; done) | exact dec_andT c20 | exact dec_andF c20 | exact dec_orF c20 | exact dec_orT c20 | (simp [c20, i64] <;> omega))), trivial⟩, ⟨rfl, rfl, rfl, rfl, rfl, rfl, rfl, rfl, rfl, rfl, rfl, rfl, trivial⟩, rfl, hE19⟩
   ·
    rintro s21 wL ⟨rfl, hE19⟩
    have szs21 := hE19.size
    have hS := hS.trans0 hE19
    replace h2 := h2.up2 hE19
    replace h5 := h5.up2 hE19
    replace h8 := h8.up2 hE19
    refine k_move rfl rfl ?_
    have hE22 := Step.r0 K0 s21
    refine k_cutl (X := St) 3 [(0, .bool false), (1, .pointer (some ⟨b2, 0, none⟩)), (2, .int .i64 x1.2), (3, .pointer (some ⟨b5, 0, none⟩)), (4, .int .i64 x2.2), (5, .pointer (some ⟨b8, 0, none⟩)), (6, .int .i64 x3.2), (8, .int .i64 x4.2), (29, .int .i64 x1.2), (30, .bool (decide (x1.2 = 0))), (34, .bool (decide ((x1.2 = 0) ∧ (x2.2 = 0)))), (39, .bool (decide (((x1.2 = 0) ∧ (x2.2 = 0)) ∧ ((x1.1.Gen.toNat : Int) = 1)))), (44, .bool (decide ((((x1.2 = 0) ∧ (x2.2 = 0)) ∧ ((x1.1.Gen.toNat : Int) = 1)) ∧ ((x2.1.Gen.toNat : Int) = 2))))] (fun _ => [(48, .bool (decide (((((x1.2 = 0) ∧ (x2.2 = 0)) ∧ ((x1.1.Gen.toNat : Int) = 1)) ∧ ((x2.1.Gen.toNat : Int) = 2)) ∧ (x3.2 = 0))))]) (fun sl wL => sl.w = wL ∧ Step K0 s21 sl) ?_ ?_
    ·
     refine k_again 45 rfl ?_
     refine k_split (fun c23 => ?_) (fun c23 => ?_)
     ·
      refine k_yes rfl rfl ?_
      refine k_move rfl rfl ?_
      refine k_yes rfl rfl ?_
      refine k_eql rfl rfl rfl ?_
      refine k_pickT rfl rfl rfl rfl ?_
      exact k_met ⟨s21, ⟨(congrArg (fun b => some (Value.bool b)) (by first | exact decide_eq_decide.2 ⟨fun h => ⟨c23, h⟩, fun h => h.2⟩ | exact (decide_eq_false (fun h => c23 h.1)).symm | (simp [c23]; done) | exact dec_andT c23 | exact dec_andF c23 | exact dec_orF c23 | exact dec_orT c23 | (simp [c23, i64] <;> omega))), trivial⟩, ⟨rfl, rfl, rfl, rfl, rfl, rfl, rfl, rfl, rfl, rfl, rfl, rfl, rfl, trivial⟩, rfl, hE22⟩
     ·
      refine k_no rfl rfl rfl rfl ?_
      refine k_no rfl rfl rfl rfl ?_
      refine k_pickF rfl rfl rfl rfl ?_
      exact k_met ⟨s21, ⟨(congrArg (fun b => some (Value.bool b)) (by first | exact decide_eq_decide.2 ⟨fun h => ⟨c23, h⟩, fun h => h.2⟩ | exact (decide_eq_false (fun h => c23 h.1)).symm | (simp [c23]; done) | exact dec_andT c23 | exact dec_andF c23 | exact dec_orF c23 | exact dec_orT c23 | (simp [c23, i64] <;> omega))), trivial⟩, ⟨rfl, rfl, rfl, rfl, rfl, rfl, rfl, rfl, rfl, rfl, rfl, rfl, rfl, trivial⟩, rfl, hE22⟩
    ·
     rintro s24 wL ⟨rfl, hE22⟩
     have szs24 := hE22.size
     have hS := hS.trans0 hE22
     replace h2 := h2.up2 hE22
     replace h5 := h5.up2 hE22
     replace h8 := h8.up2 hE22
     refine k_move rfl rfl ?_
     have hE25 := Step.r0 K0 s24
     refine k_cutl (X := St) 4 [(0, .bool false), (1, .pointer (some ⟨b2, 0, none⟩)), (2, .int .i64 x1.2), (3, .pointer (some ⟨b5, 0, none⟩)), (4, .int .i64 x2.2), (5, .pointer (some ⟨b8, 0, none⟩)), (6, .int .i64 x3.2), (8, .int .i64 x4.2), (29, .int .i64 x1.2), (30, .bool (decide (x1.2 = 0))), (34, .bool (decide ((x1.2 = 0) ∧ (x2.2 = 0)))), (39, .bool (decide (((x1.2 = 0) ∧ (x2.2 = 0)) ∧ ((x1.1.Gen.toNat : Int) = 1)))), (44, .bool (decide ((((x1.2 = 0) ∧ (x2.2 = 0)) ∧ ((x1.1.Gen.toNat : Int) = 1)) ∧ ((x2.1.Gen.toNat : Int) = 2)))), (48, .bool (decide (((((x1.2 = 0) ∧ (x2.2 = 0)) ∧ ((x1.1.Gen.toNat : Int) = 1)) ∧ ((x2.1.Gen.toNat : Int) = 2)) ∧ (x3.2 = 0))))] (fun _ => [(53, .bool (decide ((((((x1.2 = 0) ∧ (x2.2 = 0)) ∧ ((x1.1.Gen.toNat : Int) = 1)) ∧ ((x2.1.Gen.toNat : Int) = 2)) ∧ (x3.2 = 0)) ∧ ((x3.1.Gen.toNat : Int) = 2 ∧ ([x3.1.Sum.e0, x3.1.Sum.e1, x3.1.Sum.e2, x3.1.Sum.e3, x3.1.Sum.e4, x3.1.Sum.e5, x3.1.Sum.e6, x3.1.Sum.e7, x3.1.Sum.e8, x3.1.Sum.e9, x3.1.Sum.e10, x3.1.Sum.e11, x3.1.Sum.e12, x3.1.Sum.e13, x3.1.Sum.e14, x3.1.Sum.e15] : List UInt8) = ([(0 : UInt8), (0 : UInt8), (0 : UInt8), (0 : UInt8), (0 : UInt8), (0 : UInt8), (0 : UInt8), (0 : UInt8), (0 : UInt8), (0 : UInt8), (0 : UInt8), (0 : UInt8), (0 : UInt8), (0 : UInt8), (0 : UInt8), (0 : UInt8)] : List UInt8)))))]) (fun sl wL => sl.w = wL ∧ Step K0 s24 sl) ?_ ?_
     ·
      refine k_again 49 rfl ?_
      refine k_split (fun c26 => ?_) (fun c26 => ?_)
      ·
       refine k_yes rfl rfl ?_
       refine k_load_blka (cs := [.int .u64 (x3.1.Gen.toNat : Int), .int .u8 (x3.1.Sum.e0.toNat : Int), .int .u8 (x3.1.Sum.e1.toNat : Int), .int .u8 (x3.1.Sum.e2.toNat : Int), .int .u8 (x3.1.Sum.e3.toNat : Int), .int .u8 (x3.1.Sum.e4.toNat : Int), .int .u8 (x3.1.Sum.e5.toNat : Int), .int .u8 (x3.1.Sum.e6.toNat : Int), .int .u8 (x3.1.Sum.e7.toNat : Int), .int .u8 (x3.1.Sum.e8.toNat : Int), .int .u8 (x3.1.Sum.e9.toNat : Int), .int .u8 (x3.1.Sum.e10.toNat : Int), .int .u8 (x3.1.Sum.e11.toNat : Int), .int .u8 (x3.1.Sum.e12.toNat : Int), .int .u8 (x3.1.Sum.e13.toNat : Int), .int .u8 (x3.1.Sum.e14.toNat : Int), .int .u8 (x3.1.Sum.e15.toNat : Int)]) agg29 rfl h8 rfl ?_
       refine k_yes rfl rfl ?_
       refine k_build plc29 zero29 rfl (Parts.cons (CellsOf.lit rfl rfl).1 Parts.nil) (by rfl) rfl ?_
       refine k_as (v := .agg #[.int .u64 2, .int .u8 0, .int .u8 0, .int .u8 0, .int .u8 0, .int .u8 0, .int .u8 0, .int .u8 0, .int .u8 0, .int .u8 0, .int .u8 0, .int .u8 0, .int .u8 0, .int .u8 0, .int .u8 0, .int .u8 0, .int .u8 0]) rfl ?_
       refine k_yes rfl rfl ?_
       refine k_eql_fb (a := (x3.1.Gen.toNat : Int)) (b := 2) (xs := ([x3.1.Sum.e0, x3.1.Sum.e1, x3.1.Sum.e2, x3.1.Sum.e3, x3.1.Sum.e4, x3.1.Sum.e5, x3.1.Sum.e6, x3.1.Sum.e7, x3.1.Sum.e8, x3.1.Sum.e9, x3.1.Sum.e10, x3.1.Sum.e11, x3.1.Sum.e12, x3.1.Sum.e13, x3.1.Sum.e14, x3.1.Sum.e15] : List UInt8)) (ys := ([(0 : UInt8), (0 : UInt8), (0 : UInt8), (0 : UInt8), (0 : UInt8), (0 : UInt8), (0 : UInt8), (0 : UInt8), (0 : UInt8), (0 : UInt8), (0 : UInt8), (0 : UInt8), (0 : UInt8), (0 : UInt8), (0 : UInt8), (0 : UInt8)] : List UInt8)) flatB29 rfl rfl rfl rfl rfl ?_
       refine k_pickT rfl rfl rfl rfl ?_
       exact k_met ⟨s24, ⟨(congrArg (fun b => some (Value.bool b)) (by first | exact decide_eq_decide.2 ⟨fun h => ⟨c26, h⟩, fun h => h.2⟩ | exact (decide_eq_false (fun h => c26 h.1)).symm | (simp [c26]; done) | exact dec_andT c26 | exact dec_andF c26 | exact dec_orF c26 | exact dec_orT c26 | (simp [c26, i64] <;> omega))), trivial⟩, ⟨rfl, rfl, rfl, rfl, rfl, rfl, rfl, rfl, rfl, rfl, rfl, rfl, rfl, rfl, trivial⟩, rfl, hE25⟩
      ·
       refine k_no rfl rfl rfl rfl ?_
       refine k_no rfl rfl rfl rfl ?_
       refine k_no rfl rfl rfl rfl ?_
       refine k_pickF rfl rfl rfl rfl ?_
       exact k_met ⟨s24, ⟨(congrArg (fun b => some (Value.bool b)) (by first | exact decide_eq_decide.2 ⟨fun h => ⟨c26, h⟩, fun h => h.2⟩ | exact (decide_eq_false (fun h => c26 h.1)).symm | (simp [c26]; done) | exact dec_andT c26 | exact dec_andF c26 | exact dec_orF c26 | exact dec_orT c26 | (simp [c26, i64] <;> omega))), trivial⟩, ⟨rfl, rfl, rfl, rfl, rfl, rfl, rfl, rfl, rfl, rfl, rfl, rfl, rfl, rfl, trivial⟩, rfl, hE25⟩
     ·
      rintro s27 wL ⟨rfl, hE25⟩
      have szs27 := hE25.size
      have hS := hS.trans0 hE25
      replace h2 := h2.up2 hE25
      replace h5 := h5.up2 hE25
      refine k_move rfl rfl ?_
      have hE28 := Step.r0 K0 s27
      refine k_cutl (X := St) 3 [(0, .bool false), (1, .pointer (some ⟨b2, 0, none⟩)), (2, .int .i64 x1.2), (3, .pointer (some ⟨b5, 0, none⟩)), (4, .int .i64 x2.2), (5, .pointer (some ⟨b8, 0, none⟩)), (6, .int .i64 x3.2), (8, .int .i64 x4.2), (29, .int .i64 x1.2), (30, .bool (decide (x1.2 = 0))), (34, .bool (decide ((x1.2 = 0) ∧ (x2.2 = 0)))), (39, .bool (decide (((x1.2 = 0) ∧ (x2.2 = 0)) ∧ ((x1.1.Gen.toNat : Int) = 1)))), (44, .bool (decide ((((x1.2 = 0) ∧ (x2.2 = 0)) ∧ ((x1.1.Gen.toNat : Int) = 1)) ∧ ((x2.1.Gen.toNat : Int) = 2)))), (48, .bool (decide (((((x1.2 = 0) ∧ (x2.2 = 0)) ∧ ((x1.1.Gen.toNat : Int) = 1)) ∧ ((x2.1.Gen.toNat : Int) = 2)) ∧ (x3.2 = 0)))), (53, .bool (decide ((((((x1.2 = 0) ∧ (x2.2 = 0)) ∧ ((x1.1.Gen.toNat : Int) = 1)) ∧ ((x2.1.Gen.toNat : Int) = 2)) ∧ (x3.2 = 0)) ∧ ((x3.1.Gen.toNat : Int) = 2 ∧ ([x3.1.Sum.e0, x3.1.Sum.e1, x3.1.Sum.e2, x3.1.Sum.e3, x3.1.Sum.e4, x3.1.Sum.e5, x3.1.Sum.e6, x3.1.Sum.e7, x3.1.Sum.e8, x3.1.Sum.e9, x3.1.Sum.e10, x3.1.Sum.e11, x3.1.Sum.e12, x3.1.Sum.e13, x3.1.Sum.e14, x3.1.Sum.e15] : List UInt8) = ([(0 : UInt8), (0 : UInt8), (0 : UInt8), (0 : UInt8), (0 : UInt8), (0 : UInt8), (0 : UInt8), (0 : UInt8), (0 : UInt8), (0 : UInt8), (0 : UInt8), (0 : UInt8), (0 : UInt8), (0 : UInt8), (0 : UInt8), (0 : UInt8)] : List UInt8)))))] (fun _ => [(57, .bool (decide (((((((x1.2 = 0) ∧ (x2.2 = 0)) ∧ ((x1.1.Gen.toNat : Int) = 1)) ∧ ((x2.1.Gen.toNat : Int) = 2)) ∧ (x3.2 = 0)) ∧ ((x3.1.Gen.toNat : Int) = 2 ∧ ([x3.1.Sum.e0, x3.1.Sum.e1, x3.1.Sum.e2, x3.1.Sum.e3, x3.1.Sum.e4, x3.1.Sum.e5, x3.1.Sum.e6, x3.1.Sum.e7, x3.1.Sum.e8, x3.1.Sum.e9, x3.1.Sum.e10, x3.1.Sum.e11, x3.1.Sum.e12, x3.1.Sum.e13, x3.1.Sum.e14, x3.1.Sum.e15] : List UInt8) = ([(0 : UInt8), (0 : UInt8), (0 : UInt8), (0 : UInt8), (0 : UInt8), (0 : UInt8), (0 : UInt8), (0 : UInt8), (0 : UInt8), (0 : UInt8), (0 : UInt8), (0 : UInt8), (0 : UInt8), (0 : UInt8), (0 : UInt8), (0 : UInt8)] : List UInt8))) ∧ (x4.2 = 2))))]) (fun sl wL => sl.w = wL ∧ Step K0 s27 sl) ?_ ?_
      ·
       refine k_again 54 rfl ?_
       refine k_split (fun c29 => ?_) (fun c29 => ?_)
       ·
        refine k_yes rfl rfl ?_
        refine k_move rfl rfl ?_
        refine k_yes rfl rfl ?_
        refine k_eql rfl rfl rfl ?_
        refine k_pickT rfl rfl rfl rfl ?_
        exact k_met ⟨s27, ⟨(congrArg (fun b => some (Value.bool b)) (by first | exact decide_eq_decide.2 ⟨fun h => ⟨c29, h⟩, fun h => h.2⟩ | exact (decide_eq_false (fun h => c29 h.1)).symm | (simp [c29]; done) | exact dec_andT c29 | exact dec_andF c29 | exact dec_orF c29 | exact dec_orT c29 | (simp [c29, i64] <;> omega))), trivial⟩, ⟨rfl, rfl, rfl, rfl, rfl, rfl, rfl, rfl, rfl, rfl, rfl, rfl, rfl, rfl, rfl, trivial⟩, rfl, hE28⟩
       ·
        refine k_no rfl rfl rfl rfl ?_
        refine k_no rfl rfl rfl rfl ?_
        refine k_pickF rfl rfl rfl rfl ?_
        exact k_met ⟨s27, ⟨(congrArg (fun b => some (Value.bool b)) (by first | exact decide_eq_decide.2 ⟨fun h => ⟨c29, h⟩, fun h => h.2⟩ | exact (decide_eq_false (fun h => c29 h.1)).symm | (simp [c29]; done) | exact dec_andT c29 | exact dec_andF c29 | exact dec_orF c29 | exact dec_orT c29 | (simp [c29, i64] <;> omega))), trivial⟩, ⟨rfl, rfl, rfl, rfl, rfl, rfl, rfl, rfl, rfl, rfl, rfl, rfl, rfl, rfl, rfl, trivial⟩, rfl, hE28⟩
      ·
       rintro s30 wL ⟨rfl, hE28⟩
       have szs30 := hE28.size
       have hS := hS.trans0 hE28
       replace h2 := h2.up2 hE28
       replace h5 := h5.up2 hE28
       refine k_move rfl rfl ?_
       obtain ⟨x5, hx5, h⟩ := ob h
       have hE31 := Step.r0 K0 s30
       refine k_cutl (X := St) 5 [(0, .bool false), (1, .pointer (some ⟨b2, 0, none⟩)), (2, .int .i64 x1.2), (3, .pointer (some ⟨b5, 0, none⟩)), (4, .int .i64 x2.2), (5, .pointer (some ⟨b8, 0, none⟩)), (6, .int .i64 x3.2), (8, .int .i64 x4.2), (29, .int .i64 x1.2), (30, .bool (decide (x1.2 = 0))), (34, .bool (decide ((x1.2 = 0) ∧ (x2.2 = 0)))), (39, .bool (decide (((x1.2 = 0) ∧ (x2.2 = 0)) ∧ ((x1.1.Gen.toNat : Int) = 1)))), (44, .bool (decide ((((x1.2 = 0) ∧ (x2.2 = 0)) ∧ ((x1.1.Gen.toNat : Int) = 1)) ∧ ((x2.1.Gen.toNat : Int) = 2)))), (48, .bool (decide (((((x1.2 = 0) ∧ (x2.2 = 0)) ∧ ((x1.1.Gen.toNat : Int) = 1)) ∧ ((x2.1.Gen.toNat : Int) = 2)) ∧ (x3.2 = 0)))), (53, .bool (decide ((((((x1.2 = 0) ∧ (x2.2 = 0)) ∧ ((x1.1.Gen.toNat : Int) = 1)) ∧ ((x2.1.Gen.toNat : Int) = 2)) ∧ (x3.2 = 0)) ∧ ((x3.1.Gen.toNat : Int) = 2 ∧ ([x3.1.Sum.e0, x3.1.Sum.e1, x3.1.Sum.e2, x3.1.Sum.e3, x3.1.Sum.e4, x3.1.Sum.e5, x3.1.Sum.e6, x3.1.Sum.e7, x3.1.Sum.e8, x3.1.Sum.e9, x3.1.Sum.e10, x3.1.Sum.e11, x3.1.Sum.e12, x3.1.Sum.e13, x3.1.Sum.e14, x3.1.Sum.e15] : List UInt8) = ([(0 : UInt8), (0 : UInt8), (0 : UInt8), (0 : UInt8), (0 : UInt8), (0 : UInt8), (0 : UInt8), (0 : UInt8), (0 : UInt8), (0 : UInt8), (0 : UInt8), (0 : UInt8), (0 : UInt8), (0 : UInt8), (0 : UInt8), (0 : UInt8)] : List UInt8))))), (57, .bool (decide (((((((x1.2 = 0) ∧ (x2.2 = 0)) ∧ ((x1.1.Gen.toNat : Int) = 1)) ∧ ((x2.1.Gen.toNat : Int) = 2)) ∧ (x3.2 = 0)) ∧ ((x3.1.Gen.toNat : Int) = 2 ∧ ([x3.1.Sum.e0, x3.1.Sum.e1, x3.1.Sum.e2, x3.1.Sum.e3, x3.1.Sum.e4, x3.1.Sum.e5, x3.1.Sum.e6, x3.1.Sum.e7, x3.1.Sum.e8, x3.1.Sum.e9, x3.1.Sum.e10, x3.1.Sum.e11, x3.1.Sum.e12, x3.1.Sum.e13, x3.1.Sum.e14, x3.1.Sum.e15] : List UInt8) = ([(0 : UInt8), (0 : UInt8), (0 : UInt8), (0 : UInt8), (0 : UInt8), (0 : UInt8), (0 : UInt8), (0 : UInt8), (0 : UInt8), (0 : UInt8), (0 : UInt8), (0 : UInt8), (0 : UInt8), (0 : UInt8), (0 : UInt8), (0 : UInt8)] : List UInt8))) ∧ (x4.2 = 2))))] (fun _ => [(63, .bool x5)]) (fun sl wL => sl.w = wL ∧ Step K0 s30 sl) ?_ ?_
       ·
        refine k_again 58 rfl ?_
        refine k_split (fun c32 => ?_) (fun c32 => ?_)
        ·
         have hx5 := itT hx5 c32
         refine k_yes rfl rfl ?_
         refine k_load_blka (cs := [.int .u64 (x1.1.Gen.toNat : Int), .int .u8 (x1.1.Sum.e0.toNat : Int), .int .u8 (x1.1.Sum.e1.toNat : Int), .int .u8 (x1.1.Sum.e2.toNat : Int), .int .u8 (x1.1.Sum.e3.toNat : Int), .int .u8 (x1.1.Sum.e4.toNat : Int), .int .u8 (x1.1.Sum.e5.toNat : Int), .int .u8 (x1.1.Sum.e6.toNat : Int), .int .u8 (x1.1.Sum.e7.toNat : Int), .int .u8 (x1.1.Sum.e8.toNat : Int), .int .u8 (x1.1.Sum.e9.toNat : Int), .int .u8 (x1.1.Sum.e10.toNat : Int), .int .u8 (x1.1.Sum.e11.toNat : Int), .int .u8 (x1.1.Sum.e12.toNat : Int), .int .u8 (x1.1.Sum.e13.toNat : Int), .int .u8 (x1.1.Sum.e14.toNat : Int), .int .u8 (x1.1.Sum.e15.toNat : Int)]) agg29 rfl h2 rfl ?_
         refine k_yes rfl rfl ?_
         refine k_load_blka (cs := [.int .u64 (x2.1.Gen.toNat : Int), .int .u8 (x2.1.Sum.e0.toNat : Int), .int .u8 (x2.1.Sum.e1.toNat : Int), .int .u8 (x2.1.Sum.e2.toNat : Int), .int .u8 (x2.1.Sum.e3.toNat : Int), .int .u8 (x2.1.Sum.e4.toNat : Int), .int .u8 (x2.1.Sum.e5.toNat : Int), .int .u8 (x2.1.Sum.e6.toNat : Int), .int .u8 (x2.1.Sum.e7.toNat : Int), .int .u8 (x2.1.Sum.e8.toNat : Int), .int .u8 (x2.1.Sum.e9.toNat : Int), .int .u8 (x2.1.Sum.e10.toNat : Int), .int .u8 (x2.1.Sum.e11.toNat : Int), .int .u8 (x2.1.Sum.e12.toNat : Int), .int .u8 (x2.1.Sum.e13.toNat : Int), .int .u8 (x2.1.Sum.e14.toNat : Int), .int .u8 (x2.1.Sum.e15.toNat : Int)]) agg29 rfl h5 rfl ?_
         refine k_yes rfl rfl ?_
         obtain ⟨x6, hx6, hx5⟩ := ob hx5
         refine k_call cal12 rfl (rev_Cmp_w  (clsApiRev x1.1) (clsApiRev x2.1) hx6) rfl ?_
         rintro s33 vr33 st33 rfl
         have szs33 := st33.size
         have hS := hS.trans0 st33
         have hE31 := hE31.trans0 st33
         refine k_yes rfl rfl ?_
         refine k_lss rfl rfl rfl ?_
         refine k_pickT rfl rfl rfl rfl ?_
         exact k_met ⟨s33, ⟨(congrArg (fun b => some (Value.bool b)) (Option.some.inj hx5)), trivial⟩, ⟨rfl, rfl, rfl, rfl, rfl, rfl, rfl, rfl, rfl, rfl, rfl, rfl, rfl, rfl, rfl, rfl, trivial⟩, rfl, hE31⟩
        ·
         have hx5 := itF hx5 c32
         refine k_no rfl rfl rfl rfl ?_
         refine k_no rfl rfl rfl rfl ?_
         refine k_no rfl rfl rfl rfl ?_
         refine k_no rfl rfl rfl rfl ?_
         refine k_pickF rfl rfl rfl rfl ?_
         exact k_met ⟨s30, ⟨(congrArg (fun b => some (Value.bool b)) (Option.some.inj hx5)), trivial⟩, ⟨rfl, rfl, rfl, rfl, rfl, rfl, rfl, rfl, rfl, rfl, rfl, rfl, rfl, rfl, rfl, rfl, trivial⟩, rfl, hE31⟩
       ·
        rintro s34 wL ⟨rfl, hE31⟩
        have szs34 := hE31.size
        have hS := hS.trans0 hE31
        replace h2 := h2.up2 hE31
        replace h5 := h5.up2 hE31
        refine k_move rfl rfl ?_
        obtain ⟨x7, hx7, h⟩ := ob h
        have hE35 := Step.r0 K0 s34
        refine k_cutl (X := St) 5 [(0, .bool false), (1, .pointer (some ⟨b2, 0, none⟩)), (2, .int .i64 x1.2), (3, .pointer (some ⟨b5, 0, none⟩)), (4, .int .i64 x2.2), (5, .pointer (some ⟨b8, 0, none⟩)), (6, .int .i64 x3.2), (8, .int .i64 x4.2), (29, .int .i64 x1.2), (30, .bool (decide (x1.2 = 0))), (34, .bool (decide ((x1.2 = 0) ∧ (x2.2 = 0)))), (39, .bool (decide (((x1.2 = 0) ∧ (x2.2 = 0)) ∧ ((x1.1.Gen.toNat : Int) = 1)))), (44, .bool (decide ((((x1.2 = 0) ∧ (x2.2 = 0)) ∧ ((x1.1.Gen.toNat : Int) = 1)) ∧ ((x2.1.Gen.toNat : Int) = 2)))), (48, .bool (decide (((((x1.2 = 0) ∧ (x2.2 = 0)) ∧ ((x1.1.Gen.toNat : Int) = 1)) ∧ ((x2.1.Gen.toNat : Int) = 2)) ∧ (x3.2 = 0)))), (53, .bool (decide ((((((x1.2 = 0) ∧ (x2.2 = 0)) ∧ ((x1.1.Gen.toNat : Int) = 1)) ∧ ((x2.1.Gen.toNat : Int) = 2)) ∧ (x3.2 = 0)) ∧ ((x3.1.Gen.toNat : Int) = 2 ∧ ([x3.1.Sum.e0, x3.1.Sum.e1, x3.1.Sum.e2, x3.1.Sum.e3, x3.1.Sum.e4, x3.1.Sum.e5, x3.1.Sum.e6, x3.1.Sum.e7, x3.1.Sum.e8, x3.1.Sum.e9, x3.1.Sum.e10, x3.1.Sum.e11, x3.1.Sum.e12, x3.1.Sum.e13, x3.1.Sum.e14, x3.1.Sum.e15] : List UInt8) = ([(0 : UInt8), (0 : UInt8), (0 : UInt8), (0 : UInt8), (0 : UInt8), (0 : UInt8), (0 : UInt8), (0 : UInt8), (0 : UInt8), (0 : UInt8), (0 : UInt8), (0 : UInt8), (0 : UInt8), (0 : UInt8), (0 : UInt8), (0 : UInt8)] : List UInt8))))), (57, .bool (decide (((((((x1.2 = 0) ∧ (x2.2 = 0)) ∧ ((x1.1.Gen.toNat : Int) = 1)) ∧ ((x2.1.Gen.toNat : Int) = 2)) ∧ (x3.2 = 0)) ∧ ((x3.1.Gen.toNat : Int) = 2 ∧ ([x3.1.Sum.e0, x3.1.Sum.e1, x3.1.Sum.e2, x3.1.Sum.e3, x3.1.Sum.e4, x3.1.Sum.e5, x3.1.Sum.e6, x3.1.Sum.e7, x3.1.Sum.e8, x3.1.Sum.e9, x3.1.Sum.e10, x3.1.Sum.e11, x3.1.Sum.e12, x3.1.Sum.e13, x3.1.Sum.e14, x3.1.Sum.e15] : List UInt8) = ([(0 : UInt8), (0 : UInt8), (0 : UInt8), (0 : UInt8), (0 : UInt8), (0 : UInt8), (0 : UInt8), (0 : UInt8), (0 : UInt8), (0 : UInt8), (0 : UInt8), (0 : UInt8), (0 : UInt8), (0 : UInt8), (0 : UInt8), (0 : UInt8)] : List UInt8))) ∧ (x4.2 = 2)))), (63, .bool x5)] (fun _ => [(69, .bool x7)]) (fun sl wL => sl.w = wL ∧ Step K0 s34 sl) ?_ ?_
        ·
         refine k_again 64 rfl ?_
         refine k_splitb (fun c36 => ?_) (fun c36 => ?_)
         ·
          have hx7 := ibT hx7 c36
          refine k_yes rfl rfl ?_
          refine k_load_blka (cs := [.int .u64 (x2.1.Gen.toNat : Int), .int .u8 (x2.1.Sum.e0.toNat : Int), .int .u8 (x2.1.Sum.e1.toNat : Int), .int .u8 (x2.1.Sum.e2.toNat : Int), .int .u8 (x2.1.Sum.e3.toNat : Int), .int .u8 (x2.1.Sum.e4.toNat : Int), .int .u8 (x2.1.Sum.e5.toNat : Int), .int .u8 (x2.1.Sum.e6.toNat : Int), .int .u8 (x2.1.Sum.e7.toNat : Int), .int .u8 (x2.1.Sum.e8.toNat : Int), .int .u8 (x2.1.Sum.e9.toNat : Int), .int .u8 (x2.1.Sum.e10.toNat : Int), .int .u8 (x2.1.Sum.e11.toNat : Int), .int .u8 (x2.1.Sum.e12.toNat : Int), .int .u8 (x2.1.Sum.e13.toNat : Int), .int .u8 (x2.1.Sum.e14.toNat : Int), .int .u8 (x2.1.Sum.e15.toNat : Int)]) agg29 rfl h5 rfl ?_
          refine k_yes rfl rfl ?_
          refine k_load_blka (cs := [.int .u64 (x1.1.Gen.toNat : Int), .int .u8 (x1.1.Sum.e0.toNat : Int), .int .u8 (x1.1.Sum.e1.toNat : Int), .int .u8 (x1.1.Sum.e2.toNat : Int), .int .u8 (x1.1.Sum.e3.toNat : Int), .int .u8 (x1.1.Sum.e4.toNat : Int), .int .u8 (x1.1.Sum.e5.toNat : Int), .int .u8 (x1.1.Sum.e6.toNat : Int), .int .u8 (x1.1.Sum.e7.toNat : Int), .int .u8 (x1.1.Sum.e8.toNat : Int), .int .u8 (x1.1.Sum.e9.toNat : Int), .int .u8 (x1.1.Sum.e10.toNat : Int), .int .u8 (x1.1.Sum.e11.toNat : Int), .int .u8 (x1.1.Sum.e12.toNat : Int), .int .u8 (x1.1.Sum.e13.toNat : Int), .int .u8 (x1.1.Sum.e14.toNat : Int), .int .u8 (x1.1.Sum.e15.toNat : Int)]) agg29 rfl h2 rfl ?_
          refine k_yes rfl rfl ?_
          refine k_bslice2 (ds := ([x2.1, x1.1] : List ApiRev).map dApiRev) slc22 rfl (RVs.cons ⟨_, rfl, (clsApiRev x2.1)⟩ (RVs.cons ⟨_, rfl, (clsApiRev x1.1)⟩ RVs.nil)) (by rfl) (by rfl) rfl rfl ?_
          intro s37 v37 b37 st37 ge37 bl37 h37
          have szs37 := st37.size
          have hS := hS.trans0 st37
          have hE35 := hE35.trans0 st37
          have lt37 := Own.le1 h37
          refine k_yes rfl rfl ?_
          obtain ⟨x8, hx8, hx7⟩ := ob hx7
          refine k_call cal8 rfl (rev_Chain_w  (h37.sl) hx8) rfl ?_
          rintro s38 vr38 st38 rfl
          have szs38 := st38.size
          have hS := hS.trans0 st38
          have hE35 := hE35.trans0 st38
          refine k_pickT rfl rfl rfl rfl ?_
          exact k_met ⟨s38, ⟨(congrArg (fun b => some (Value.bool b)) (Option.some.inj hx7)), trivial⟩, ⟨rfl, rfl, rfl, rfl, rfl, rfl, rfl, rfl, rfl, rfl, rfl, rfl, rfl, rfl, rfl, rfl, rfl, trivial⟩, rfl, hE35⟩
         ·
          have hx7 := ibF hx7 c36
          refine k_no rfl rfl rfl rfl ?_
          refine k_no rfl rfl rfl rfl ?_
          refine k_no rfl rfl rfl rfl ?_
          refine k_no rfl rfl rfl rfl ?_
          refine k_pickF rfl rfl rfl rfl ?_
          exact k_met ⟨s34, ⟨(congrArg (fun b => some (Value.bool b)) (Option.some.inj hx7)), trivial⟩, ⟨rfl, rfl, rfl, rfl, rfl, rfl, rfl, rfl, rfl, rfl, rfl, rfl, rfl, rfl, rfl, rfl, rfl, trivial⟩, rfl, hE35⟩
        ·
         rintro s39 wL ⟨rfl, hE35⟩
         have szs39 := hE35.size
         have hS := hS.trans0 hE35
         refine k_assign rfl rfl ?_
         refine k_nil ?_
         refine k_keep [(0, _)] ⟨rfl, trivial⟩ ?_
         refine k_ret ?_
         obtain rfl := Option.some.inj h
         refine ⟨_, rfl, Ret.mk hS ?_⟩
         exact rfl

set_option maxHeartbeats 20000000 in
set_option maxRecDepth 100000 in
theorem law01_parts_s_w {s : St} {cs0 : List Value} {a0 : ApiValue} {a1 : Int} {a70 : (ApiValue → Int → Option Int)} {r : Int} (hp0 : RC s cs0 (dApiValue a0)) (ih70 : ∀ {s : St} {cs0 : List Value} {a0 : ApiValue} {a1 : Int} {r : Int} (hp0 : RC s cs0 (dApiValue a0)) (h : a70 a0 a1 = some r), Calls Tryd.prog 19 #[.agg cs0.toArray, .int .i64 a1] s.w (Ret s K0 (fun s1 v => v = .int .i64 r))) (h : law01_parts_s a70 a0 a1 = some r) : Calls Tryd.prog 19 #[.agg cs0.toArray, .int .i64 a1] s.w (Ret s K0 (fun s1 v => v = .int .i64 r)) := by
 unfold law01_parts_s at h
 obtain ⟨q0_0, q0_1, rfl, hq0_0, hq0_1⟩ := opnApiValue hp0
 have hS := Step.r0 K0 s
 refine k_fn (rs := [4]) (args := [.agg #[.int .i64 a0.Kind, .int .i64 a0.Num, S a0.Text, q0_0, q0_1], .int .i64 a1]) Tryd.func19 rfl rfl rfl rfl ?_
 refine k_seq ?_
 refine k_region ?_
 refine k_box rfl rfl ?_
 intro s1 b1 st1 h1 ge1
 have szs1 := st1.size
 have hS := hS.trans0 st1
 replace hq0_0 := hq0_0.up2 st1
 replace hq0_1 := hq0_1.up2 st1
 have lt1 := h1.lt
 refine k_assign rfl rfl ?_
 refine k_nil ?_
 refine k_keep [(1, _), (2, _), (4, _)] ⟨rfl, rfl, rfl, trivial⟩ ?_
 refine k_seq ?_
 refine k_seq ?_
 refine k_region ?_
 refine k_move rfl rfl ?_
 refine k_lss rfl rfl rfl ?_
 refine k_move rfl rfl ?_
 have hE2 := Step.r0 K0 s1
 refine k_cutl (X := St) 5 [(1, .int .i64 a1), (2, .pointer (some ⟨b1, 0, none⟩)), (4, .int .i64 0), (8, .int .i64 a1), (9, .bool (decide (a1 < 1)))] (fun _ => [(15, .bool (decide ((a1 < 1) ∨ (3000 < (a0.List_.length : Int)))))]) (fun sl wL => sl.w = wL ∧ Step K0 s1 sl) ?_ ?_
 ·
  refine k_again 10 rfl ?_
  refine k_split (fun c3 => ?_) (fun c3 => ?_)
  ·
   refine k_no rfl rfl rfl rfl ?_
   refine k_no rfl rfl rfl rfl ?_
   refine k_no rfl rfl rfl rfl ?_
   refine k_no rfl rfl rfl rfl ?_
   refine k_pickT rfl rfl rfl rfl ?_
   exact k_met ⟨s1, ⟨(congrArg (fun b => some (Value.bool b)) (by first | exact decide_eq_decide.2 ⟨Or.inr, fun h => h.resolve_left c3⟩ | exact (decide_eq_true (Or.inl c3)).symm | (simp [c3]; done) | exact dec_andT c3 | exact dec_andF c3 | exact dec_orF c3 | exact dec_orT c3 | (simp [c3, i64] <;> omega))), trivial⟩, ⟨rfl, rfl, rfl, rfl, rfl, trivial⟩, rfl, hE2⟩
  ·
   refine k_yes rfl rfl ?_
   refine k_field_addr fld34_3 rfl rfl ?_
   refine k_yes rfl rfl ?_
   refine k_load_blk one30 rfl h1 rfl rfl ?_
   refine k_yes rfl rfl ?_
   refine k_len Tryd.underlying30 rfl (SL.of_R hq0_0).hasLen rfl ?_
   refine k_as (v := .int .i64 (a0.List_.length : Int)) (by simp only [List.length_map]) ?_
   refine k_yes rfl rfl ?_
   refine k_gtr rfl rfl rfl ?_
   refine k_pickF rfl rfl rfl rfl ?_
   exact k_met ⟨s1, ⟨(congrArg (fun b => some (Value.bool b)) (by first | exact decide_eq_decide.2 ⟨Or.inr, fun h => h.resolve_left c3⟩ | exact (decide_eq_true (Or.inl c3)).symm | (simp [c3]; done) | exact dec_andT c3 | exact dec_andF c3 | exact dec_orF c3 | exact dec_orT c3 | (simp [c3, i64] <;> omega))), trivial⟩, ⟨rfl, rfl, rfl, rfl, rfl, trivial⟩, rfl, hE2⟩
 ·
  rintro s4 wL ⟨rfl, hE2⟩
  have szs4 := hE2.size
  have hS := hS.trans0 hE2
  replace hq0_0 := hq0_0.up2 hE2
  replace hq0_1 := hq0_1.up2 hE2
  replace h1 := h1.up2 hE2
  refine k_move rfl rfl ?_
  have hE5 := Step.r0 K0 s4
  refine k_cutl (X := St) 5 [(1, .int .i64 a1), (2, .pointer (some ⟨b1, 0, none⟩)), (4, .int .i64 0), (8, .int .i64 a1), (9, .bool (decide (a1 < 1))), (15, .bool (decide ((a1 < 1) ∨ (3000 < (a0.List_.length : Int)))))] (fun _ => [(21, .bool (decide (((a1 < 1) ∨ (3000 < (a0.List_.length : Int))) ∨ (3000 < (a0.Keys.length : Int)))))]) (fun sl wL => sl.w = wL ∧ Step K0 s4 sl) ?_ ?_
  ·
   refine k_again 16 rfl ?_
   refine k_split (fun c6 => ?_) (fun c6 => ?_)
   ·
    refine k_no rfl rfl rfl rfl ?_
    refine k_no rfl rfl rfl rfl ?_
    refine k_no rfl rfl rfl rfl ?_
    refine k_no rfl rfl rfl rfl ?_
    refine k_pickT rfl rfl rfl rfl ?_
    exact k_met ⟨s4, ⟨(congrArg (fun b => some (Value.bool b)) (by first | exact decide_eq_decide.2 ⟨Or.inr, fun h => h.resolve_left c6⟩ | exact (decide_eq_true (Or.inl c6)).symm | (simp [c6]; done) | exact dec_andT c6 | exact dec_andF c6 | exact dec_orF c6 | exact dec_orT c6 | (simp [c6, i64] <;> omega))), trivial⟩, ⟨rfl, rfl, rfl, rfl, rfl, rfl, trivial⟩, rfl, hE5⟩
   ·
    refine k_yes rfl rfl ?_
    refine k_field_addr fld34_4 rfl rfl ?_
    refine k_yes rfl rfl ?_
    refine k_load_blk one32 rfl h1 rfl rfl ?_
    refine k_yes rfl rfl ?_
    refine k_len Tryd.underlying32 rfl (SL.of_R hq0_1).hasLen rfl ?_
    refine k_as (v := .int .i64 (a0.Keys.length : Int)) (by simp only [List.length_map]) ?_
    refine k_yes rfl rfl ?_
    refine k_gtr rfl rfl rfl ?_
    refine k_pickF rfl rfl rfl rfl ?_
    exact k_met ⟨s4, ⟨(congrArg (fun b => some (Value.bool b)) (by first | exact decide_eq_decide.2 ⟨Or.inr, fun h => h.resolve_left c6⟩ | exact (decide_eq_true (Or.inl c6)).symm | (simp [c6]; done) | exact dec_andT c6 | exact dec_andF c6 | exact dec_orF c6 | exact dec_orT c6 | (simp [c6, i64] <;> omega))), trivial⟩, ⟨rfl, rfl, rfl, rfl, rfl, rfl, trivial⟩, rfl, hE5⟩
  ·
   rintro s7 wL ⟨rfl, hE5⟩
   have szs7 := hE5.size
   have hS := hS.trans0 hE5
   replace hq0_0 := hq0_0.up2 hE5
   replace hq0_1 := hq0_1.up2 hE5
   replace h1 := h1.up2 hE5
   refine k_move rfl rfl ?_
   have hE8 := Step.r0 K0 s7
   refine k_cutl (X := St) 5 [(1, .int .i64 a1), (2, .pointer (some ⟨b1, 0, none⟩)), (4, .int .i64 0), (8, .int .i64 a1), (9, .bool (decide (a1 < 1))), (15, .bool (decide ((a1 < 1) ∨ (3000 < (a0.List_.length : Int))))), (21, .bool (decide (((a1 < 1) ∨ (3000 < (a0.List_.length : Int))) ∨ (3000 < (a0.Keys.length : Int)))))] (fun _ => [(27, .bool (decide ((((a1 < 1) ∨ (3000 < (a0.List_.length : Int))) ∨ (3000 < (a0.Keys.length : Int))) ∨ (4000 < (a0.Text.length : Int)))))]) (fun sl wL => sl.w = wL ∧ Step K0 s7 sl) ?_ ?_
   ·
    refine k_again 22 rfl ?_
    refine k_split (fun c9 => ?_) (fun c9 => ?_)
    ·
     refine k_no rfl rfl rfl rfl ?_
     refine k_no rfl rfl rfl rfl ?_
     refine k_no rfl rfl rfl rfl ?_
     refine k_no rfl rfl rfl rfl ?_
     refine k_pickT rfl rfl rfl rfl ?_
     exact k_met ⟨s7, ⟨(congrArg (fun b => some (Value.bool b)) (by first | exact decide_eq_decide.2 ⟨Or.inr, fun h => h.resolve_left c9⟩ | exact (decide_eq_true (Or.inl c9)).symm | (simp [c9]; done) | exact dec_andT c9 | exact dec_andF c9 | exact dec_orF c9 | exact dec_orT c9 | (simp [c9, i64] <;> omega))), trivial⟩, ⟨rfl, rfl, rfl, rfl, rfl, rfl, rfl, trivial⟩, rfl, hE8⟩
    ·
     refine k_yes rfl rfl ?_
     refine k_field_addr fld34_2 rfl rfl ?_
     refine k_yes rfl rfl ?_
     refine k_load_blk one9 rfl h1 rfl rfl ?_
     refine k_yes rfl rfl ?_
     refine k_len_str Tryd.underlying9 rfl rfl ?_
     refine k_yes rfl rfl ?_
     refine k_gtr rfl rfl rfl ?_
     refine k_pickF rfl rfl rfl rfl ?_
     exact k_met ⟨s7, ⟨(congrArg (fun b => some (Value.bool b)) (by first | exact decide_eq_decide.2 ⟨Or.inr, fun h => h.resolve_left c9⟩ | exact (decide_eq_true (Or.inl c9)).symm | (simp [c9]; done) | exact dec_andT c9 | exact dec_andF c9 | exact dec_orF c9 | exact dec_orT c9 | (simp [c9, i64] <;> omega))), trivial⟩, ⟨rfl, rfl, rfl, rfl, rfl, rfl, rfl, trivial⟩, rfl, hE8⟩
   ·
    rintro s10 wL ⟨rfl, hE8⟩
    have szs10 := hE8.size
    have hS := hS.trans0 hE8
    replace hq0_0 := hq0_0.up2 hE8
    replace hq0_1 := hq0_1.up2 hE8
    replace h1 := h1.up2 hE8
    refine k_nil ?_
    refine k_keep [(1, _), (2, _), (4, _), (27, _)] ⟨rfl, rfl, rfl, rfl, trivial⟩ ?_
    refine k_cond_dec rfl (fun c11 => ?_) (fun c11 => ?_)
    ·
     have h := itT h c11
     refine k_seq ?_
     refine k_region ?_
     refine k_assign rfl rfl ?_
     refine k_nil ?_
     refine k_keep [(1, _), (2, _), (4, _)] ⟨rfl, rfl, rfl, trivial⟩ ?_
     refine k_ret ?_
     obtain rfl := Option.some.inj h
     refine ⟨_, rfl, Ret.mk hS ?_⟩
     exact rfl
    ·
     have h := itF h c11
     refine k_skip ?_
     refine k_seq ?_
     refine k_region ?_
     refine k_field_addr fld34_2 rfl rfl ?_
     refine k_load_blk one9 rfl h1 rfl rfl ?_
     refine k_len_str Tryd.underlying9 rfl rfl ?_
     refine k_quo rfl rfl (by decide) rfl ?_
     refine k_add rfl rfl rfl ?_
     refine k_assign rfl rfl ?_
     refine k_nil ?_
     refine k_keep [(1, _), (2, _), (4, _), (5, _)] ⟨rfl, rfl, rfl, rfl, trivial⟩ ?_
     refine k_seq ?_
     obtain ⟨kj1, hK12, h⟩ := jn_out h
     have hE12 := Step.r0 K0 s10
     refine k_cutc (X := St × Int) [(1, .int .i64 a1), (2, .pointer (some ⟨b1, 0, none⟩)), (4, .int .i64 0)] (fun (xL : St × Int) => match xL with | (sl, x2) => [(5, .int .i64 x2)]) (fun (xL : St × Int) (wL : World) => match xL with | (sl, x2) => sl.w = wL ∧ Step K0 s10 sl ∧ kj1 x2 = some r) ?_ ?_
     ·
      refine k_seq ?_
      refine k_region ?_
      refine k_assign rfl rfl ?_
      refine k_nil ?_
      refine k_block ?_
      refine k_loopc (X := St × Int × Int × Nat) [(1, _), (2, _), (4, _)] (fun (xL : St × Int × Int × Nat) => match xL with | (sl, x3, x4, j) => [(5, .int .i64 x3), (6, .int .i64 x4)]) (fun (xL : St × Int × Int × Nat) (wL : World) => match xL with | (sl, x3, x4, j) => sl.w = wL ∧ Step K0 s10 sl ∧ law01_parts_s_l1 a0 kj1 j x3 x4 = some r) (fun (xL : St × Int × Int × Nat) => match xL with | (sl, x3, x4, j) => j) (s10, i64 (1 + (i64 ((a0.Text.length : Int).tdiv 100))), 0, FU) ⟨rfl, rfl, rfl, trivial⟩ ⟨(by first | rfl | (simp <;> rfl)), (by first | rfl | (simp <;> rfl)), trivial⟩ ⟨rfl, (Step.refl _).of0 (by first | exact fun _ h => h | (intro c h; simp [KC, KO, KU, KN, KB] at h <;> omega)), h⟩ ?_
      rintro ⟨s14, x3, x4, j⟩ wL ⟨rfl, hE13, h⟩
      cases j with
      | zero => rw [law01_parts_s_l1] at h; exact (noneNe h).elim
      | succ j =>
      rw [law01_parts_s_l1] at h
      have szs14 := hE13.size
      have hS := hS.trans0 hE13
      have hE12 := hE12.trans0 hE13
      replace hq0_1 := hq0_1.up2 hE13
      replace h1 := h1.up2 hE13
      refine k_seq ?_
      refine k_seq ?_
      refine k_region ?_
      refine k_move rfl rfl ?_
      refine k_field_addr fld34_4 rfl rfl ?_
      refine k_load_blk one32 rfl h1 rfl rfl ?_
      refine k_len Tryd.underlying32 rfl (SL.of_R hq0_1).hasLen rfl ?_
      refine k_as (v := .int .i64 (a0.Keys.length : Int)) (by simp only [List.length_map]) ?_
      refine k_lss rfl rfl rfl ?_
      refine k_nil ?_
      refine k_keep [(1, _), (2, _), (4, _), (5, _), (6, _), (37, _)] ⟨rfl, rfl, rfl, rfl, rfl, rfl, trivial⟩ ?_
      refine k_cond_dec rfl (fun c15 => ?_) (fun c15 => ?_)
      ·
       have h := itT h c15
       refine k_skip ?_
       refine k_seq ?_
       refine k_block ?_
       refine k_region ?_
       refine k_move rfl rfl ?_
       refine k_add rfl rfl rfl ?_
       refine k_field_addr fld34_4 rfl rfl ?_
       refine k_load_blk one32 rfl h1 rfl rfl ?_
       refine k_move rfl rfl ?_
       obtain ⟨x5, hx5, h⟩ := ob h
       refine k_ixaddr Tryd.underlying32 size9 rfl rfl (SL.of_R hq0_1) (geti_out hx5).1 (geti_map hx5) rfl ?_
       intro qx5 hqx5
       refine k_load_val one9 rfl hqx5 rfl ?_
       refine k_len_str Tryd.underlying9 rfl rfl ?_
       refine k_quo rfl rfl (by decide) rfl ?_
       refine k_add rfl rfl rfl ?_
       refine k_assign rfl rfl ?_
       refine k_nil ?_
       refine k_blk ?_
       refine k_region ?_
       refine k_move rfl rfl ?_
       refine k_add rfl rfl rfl ?_
       refine k_assign rfl rfl ?_
       refine k_nil ?_
       exact k_stop ⟨(s14, i64 ((i64 (x3 + 1)) + (i64 ((x5.length : Int).tdiv 100))), i64 (x4 + 1), j), ⟨(by first | rfl | (simp <;> rfl)), (by first | rfl | (simp <;> rfl)), trivial⟩, ⟨rfl, rfl, rfl, trivial⟩, ⟨rfl, hE13, h⟩, (by simp)⟩
      ·
       have h := itF h c15
       refine k_exit rfl ?_
       exact k_stop ⟨(s14, x3), ⟨(by first | rfl | (simp <;> rfl)), trivial⟩, ⟨rfl, rfl, rfl, trivial⟩, ⟨rfl, hE12, h⟩⟩
     ·
      rintro ⟨s16, x2⟩ wL ⟨rfl, hE12, h⟩
      rw [hK12] at h
      have szs16 := hE12.size
      have hS := hS.trans0 hE12
      replace hq0_0 := hq0_0.up2 hE12
      replace h1 := h1.up2 hE12
      refine k_seq ?_
      obtain ⟨kj6, hK17, h⟩ := jn_out h
      have hE17 := Step.r0 K0 s16
      refine k_cutc (X := St × Int) [(4, .int .i64 0)] (fun (xL : St × Int) => match xL with | (sl, x7) => [(5, .int .i64 x7)]) (fun (xL : St × Int) (wL : World) => match xL with | (sl, x7) => sl.w = wL ∧ Step K0 s16 sl ∧ kj6 x7 = some r) ?_ ?_
      ·
       refine k_seq ?_
       refine k_region ?_
       refine k_assign rfl rfl ?_
       refine k_nil ?_
       refine k_block ?_
       refine k_loopc (X := St × Int × Int × Nat) [(1, _), (2, _), (4, _)] (fun (xL : St × Int × Int × Nat) => match xL with | (sl, x8, x9, j) => [(5, .int .i64 x8), (7, .int .i64 x9)]) (fun (xL : St × Int × Int × Nat) (wL : World) => match xL with | (sl, x8, x9, j) => sl.w = wL ∧ Step K0 s16 sl ∧ law01_parts_s_l2 a0 a70 a1 kj6 j x8 x9 = some r) (fun (xL : St × Int × Int × Nat) => match xL with | (sl, x8, x9, j) => j) (s16, x2, 0, FU) ⟨rfl, rfl, rfl, trivial⟩ ⟨(by first | rfl | (simp <;> rfl)), (by first | rfl | (simp <;> rfl)), trivial⟩ ⟨rfl, (Step.refl _).of0 (by first | exact fun _ h => h | (intro c h; simp [KC, KO, KU, KN, KB] at h <;> omega)), h⟩ ?_
       rintro ⟨s19, x8, x9, j⟩ wL ⟨rfl, hE18, h⟩
       cases j with
       | zero => rw [law01_parts_s_l2] at h; exact (noneNe h).elim
       | succ j =>
       rw [law01_parts_s_l2] at h
       have szs19 := hE18.size
       have hS := hS.trans0 hE18
       have hE17 := hE17.trans0 hE18
       replace hq0_0 := hq0_0.up2 hE18
       replace h1 := h1.up2 hE18
       refine k_seq ?_
       refine k_seq ?_
       refine k_region ?_
       refine k_move rfl rfl ?_
       refine k_field_addr fld34_3 rfl rfl ?_
       refine k_load_blk one30 rfl h1 rfl rfl ?_
       refine k_len Tryd.underlying30 rfl (SL.of_R hq0_0).hasLen rfl ?_
       refine k_as (v := .int .i64 (a0.List_.length : Int)) (by simp only [List.length_map]) ?_
       refine k_lss rfl rfl rfl ?_
       refine k_move rfl rfl ?_
       have hE20 := Step.r0 K0 s19
       refine k_cutl (X := St) 3 [(1, .int .i64 a1), (2, .pointer (some ⟨b1, 0, none⟩)), (4, .int .i64 0), (5, .int .i64 x8), (7, .int .i64 x9), (50, .int .i64 x9), (51, .pointer (some ⟨b1, 3, none⟩)), (52, q0_0), (53, .int .i64 (a0.List_.length : Int)), (54, .bool (decide (x9 < (a0.List_.length : Int))))] (fun _ => [(58, .bool (decide ((x9 < (a0.List_.length : Int)) ∧ (x8 < 100000))))]) (fun sl wL => sl.w = wL ∧ Step K0 s19 sl) ?_ ?_
       ·
        refine k_again 55 rfl ?_
        refine k_split (fun c21 => ?_) (fun c21 => ?_)
        ·
         refine k_yes rfl rfl ?_
         refine k_move rfl rfl ?_
         refine k_yes rfl rfl ?_
         refine k_lss rfl rfl rfl ?_
         refine k_pickT rfl rfl rfl rfl ?_
         exact k_met ⟨s19, ⟨(congrArg (fun b => some (Value.bool b)) (by first | exact decide_eq_decide.2 ⟨fun h => ⟨c21, h⟩, fun h => h.2⟩ | exact (decide_eq_false (fun h => c21 h.1)).symm | (simp [c21]; done) | exact dec_andT c21 | exact dec_andF c21 | exact dec_orF c21 | exact dec_orT c21 | (simp [c21, i64] <;> omega))), trivial⟩, ⟨rfl, rfl, rfl, rfl, rfl, rfl, rfl, rfl, rfl, rfl, trivial⟩, rfl, hE20⟩
        ·
         refine k_no rfl rfl rfl rfl ?_
         refine k_no rfl rfl rfl rfl ?_
         refine k_pickF rfl rfl rfl rfl ?_
         exact k_met ⟨s19, ⟨(congrArg (fun b => some (Value.bool b)) (by first | exact decide_eq_decide.2 ⟨fun h => ⟨c21, h⟩, fun h => h.2⟩ | exact (decide_eq_false (fun h => c21 h.1)).symm | (simp [c21]; done) | exact dec_andT c21 | exact dec_andF c21 | exact dec_orF c21 | exact dec_orT c21 | (simp [c21, i64] <;> omega))), trivial⟩, ⟨rfl, rfl, rfl, rfl, rfl, rfl, rfl, rfl, rfl, rfl, trivial⟩, rfl, hE20⟩
       ·
        rintro s22 wL ⟨rfl, hE20⟩
        have szs22 := hE20.size
        have hS := hS.trans0 hE20
        have hE17 := hE17.trans0 hE20
        have hE18 := hE18.trans0 hE20
        replace hq0_0 := hq0_0.up2 hE20
        replace h1 := h1.up2 hE20
        refine k_nil ?_
        refine k_keep [(1, _), (2, _), (4, _), (5, _), (7, _), (58, _)] ⟨rfl, rfl, rfl, rfl, rfl, rfl, trivial⟩ ?_
        refine k_cond_dec rfl (fun c23 => ?_) (fun c23 => ?_)
        ·
         have h := itT h c23
         refine k_skip ?_
         refine k_seq ?_
         refine k_block ?_
         refine k_region ?_
         refine k_move rfl rfl ?_
         refine k_field_addr fld34_3 rfl rfl ?_
         refine k_load_blk one30 rfl h1 rfl rfl ?_
         refine k_move rfl rfl ?_
         obtain ⟨x10, hx10, h⟩ := ob h
         refine k_ixaddr Tryd.underlying30 size34 rfl rfl (SL.of_R hq0_0) (geti_out hx10).1 (geti_map hx10) rfl ?_
         intro qx10 hqx10
         refine k_load_agg (by exact agg34) rfl hqx10 rfl ?_
         intro cs24 h24
         obtain ⟨q24_0, q24_1, rfl, hq24_0, hq24_1⟩ := opnApiValue h24
         refine k_move rfl rfl ?_
         refine k_sub_ rfl rfl rfl ?_
         obtain ⟨x11, hx11, h⟩ := ob h
         refine k_call cal19 rfl (ih70  (clsApiValue x10 hq24_0 hq24_1) hx11) rfl ?_
         rintro s25 vr25 st25 rfl
         have szs25 := st25.size
         have hS := hS.trans0 st25
         have hE17 := hE17.trans0 st25
         have hE18 := hE18.trans0 st25
         refine k_add rfl rfl rfl ?_
         refine k_assign rfl rfl ?_
         refine k_nil ?_
         refine k_blk ?_
         refine k_region ?_
         refine k_move rfl rfl ?_
         refine k_add rfl rfl rfl ?_
         refine k_assign rfl rfl ?_
         refine k_nil ?_
         exact k_stop ⟨(s25, i64 (x8 + x11), i64 (x9 + 1), j), ⟨(by first | rfl | (simp <;> rfl)), (by first | rfl | (simp <;> rfl)), trivial⟩, ⟨rfl, rfl, rfl, trivial⟩, ⟨rfl, hE18, h⟩, (by simp)⟩
        ·
         have h := itF h c23
         refine k_exit rfl ?_
         exact k_stop ⟨(s22, x8), ⟨(by first | rfl | (simp <;> rfl)), trivial⟩, ⟨rfl, trivial⟩, ⟨rfl, hE17, h⟩⟩
      ·
       rintro ⟨s26, x7⟩ wL ⟨rfl, hE17, h⟩
       rw [hK17] at h
       have szs26 := hE17.size
       have hS := hS.trans0 hE17
       refine k_seq ?_
       refine k_region ?_
       refine k_move rfl rfl ?_
       refine k_assign rfl rfl ?_
       refine k_nil ?_
       refine k_keep [(4, _)] ⟨rfl, trivial⟩ ?_
       refine k_ret ?_
       obtain rfl := Option.some.inj h
       refine ⟨_, rfl, Ret.mk hS ?_⟩
       exact rfl
theorem law01_parts_rw (j : Nat) : ∀ {s : St} {cs0 : List Value} {a0 : ApiValue} {a1 : Int} {r : Int} (hp0 : RC s cs0 (dApiValue a0)) (h : law01_parts_r j a0 a1 = some r), Calls Tryd.prog 19 #[.agg cs0.toArray, .int .i64 a1] s.w (Ret s K0 (fun s1 v => v = .int .i64 r)) := by
 induction j with
 | zero => intro s cs0 a0 a1 r hp0 h; rw [law01_parts_r] at h; exact (noneNe h).elim
 | succ j ih => intro s cs0 a0 a1 r hp0 h; rw [law01_parts_r] at h; exact law01_parts_s_w hp0 ih h
theorem law01_parts_w {s : St} {cs0 : List Value} {a0 : ApiValue} {a1 : Int} {r : Int} (hp0 : RC s cs0 (dApiValue a0)) (h : law01_parts a0 a1 = some r) : Calls Tryd.prog 19 #[.agg cs0.toArray, .int .i64 a1] s.w (Ret s K0 (fun s1 v => v = .int .i64 r)) := law01_parts_rw (FU + (dpApiValue a0)) hp0 h

set_option maxHeartbeats 20000000 in
set_option maxRecDepth 100000 in
theorem law01_Long_w {s : St} {cs0 : List Value} {a0 : ApiValue} {r : Bool} (hp0 : RC s cs0 (dApiValue a0)) (h : law01_Long a0 = some r) : Calls Tryd.prog 10 #[.agg cs0.toArray] s.w (Ret s K0 (fun s1 v => v = .bool r)) := by
 unfold law01_Long at h
 obtain ⟨q0_0, q0_1, rfl, hq0_0, hq0_1⟩ := opnApiValue hp0
 have hS := Step.r0 K0 s
 refine k_fn (rs := [2]) (args := [.agg #[.int .i64 a0.Kind, .int .i64 a0.Num, S a0.Text, q0_0, q0_1]]) Tryd.func10 rfl rfl rfl rfl ?_
 refine k_seq ?_
 refine k_region ?_
 refine k_box rfl rfl ?_
 intro s1 b1 st1 h1 ge1
 have szs1 := st1.size
 have hS := hS.trans0 st1
 replace hq0_0 := hq0_0.up2 st1
 replace hq0_1 := hq0_1.up2 st1
 have lt1 := h1.lt
 refine k_assign rfl rfl ?_
 refine k_nil ?_
 refine k_keep [(1, _), (2, _)] ⟨rfl, rfl, trivial⟩ ?_
 refine k_seq ?_
 refine k_region ?_
 refine k_load_blka (cs := [.int .i64 a0.Kind, .int .i64 a0.Num, S a0.Text, q0_0, q0_1]) agg34 rfl h1 rfl ?_
 obtain ⟨x1, hx1, h⟩ := ob h
 refine k_call cal19 rfl (law01_parts_w  (clsApiValue a0 hq0_0 hq0_1) hx1) rfl ?_
 rintro s2 vr2 st2 rfl
 have szs2 := st2.size
 have hS := hS.trans0 st2
 refine k_gtr rfl rfl rfl ?_
 refine k_assign rfl rfl ?_
 refine k_nil ?_
 refine k_keep [(2, _)] ⟨rfl, trivial⟩ ?_
 refine k_ret ?_
 obtain rfl := Option.some.inj h
 refine ⟨_, rfl, Ret.mk hS ?_⟩
 exact rfl

set_option maxHeartbeats 20000000 in
set_option maxRecDepth 100000 in
theorem law06_RevOne_w {s : St} {cs0 : List Value} {a0 : ApiRev} {v1 : Value} {a1 : (List ApiValue)} {a2 : Int} {r : Bool} (hp0 : RC s cs0 (dApiRev a0)) (hp1 : R s v1 (.sl 5 (a1.map dApiValue))) (tb2 : Tab2 s) (tb0 : Tab0 s) (tb1 : Tab1 s) (h : law06_RevOne a0 a1 a2 = some r) : Calls Tryd.prog 4 #[.agg cs0.toArray, v1, .int .i64 a2] s.w (Ret s K0 (fun s1 v => v = .bool r)) := by
 unfold law06_RevOne at h
 obtain rfl := opnApiRev hp0
 have hS := Step.r0 K0 s
 refine k_fn (rs := [6]) (args := [.agg #[.int .u64 (a0.Gen.toNat : Int), .int .u8 (a0.Sum.e0.toNat : Int), .int .u8 (a0.Sum.e1.toNat : Int), .int .u8 (a0.Sum.e2.toNat : Int), .int .u8 (a0.Sum.e3.toNat : Int), .int .u8 (a0.Sum.e4.toNat : Int), .int .u8 (a0.Sum.e5.toNat : Int), .int .u8 (a0.Sum.e6.toNat : Int), .int .u8 (a0.Sum.e7.toNat : Int), .int .u8 (a0.Sum.e8.toNat : Int), .int .u8 (a0.Sum.e9.toNat : Int), .int .u8 (a0.Sum.e10.toNat : Int), .int .u8 (a0.Sum.e11.toNat : Int), .int .u8 (a0.Sum.e12.toNat : Int), .int .u8 (a0.Sum.e13.toNat : Int), .int .u8 (a0.Sum.e14.toNat : Int), .int .u8 (a0.Sum.e15.toNat : Int)], v1, .int .i64 a2]) Tryd.func4 rfl rfl rfl rfl ?_
 refine k_seq ?_
 refine k_region ?_
 refine k_box rfl rfl ?_
 intro s1 b1 st1 h1 ge1
 have szs1 := st1.size
 have hS := hS.trans0 st1
 replace hp1 := hp1.up2 st1
 replace tb2 := tb2.up2 st1
 replace tb0 := tb0.up2 st1
 replace tb1 := tb1.up2 st1
 have lt1 := h1.lt
 refine k_assign rfl rfl ?_
 refine k_nil ?_
 refine k_keep [(1, _), (2, _), (3, _), (6, _)] ⟨rfl, rfl, rfl, rfl, trivial⟩ ?_
 refine k_seq ?_
 refine k_seq ?_
 refine k_region ?_
 refine k_move rfl rfl ?_
 refine k_len Tryd.underlying30 rfl (SL.of_R hp1).hasLen rfl ?_
 refine k_as (v := .int .i64 (a1.length : Int)) (by simp only [List.length_map]) ?_
 refine k_gtr rfl rfl rfl ?_
 refine k_nil ?_
 refine k_keep [(1, _), (2, _), (3, _), (6, _), (17, _)] ⟨rfl, rfl, rfl, rfl, rfl, trivial⟩ ?_
 refine k_cond_dec rfl (fun c2 => ?_) (fun c2 => ?_)
 ·
  have h := itT h c2
  refine k_seq ?_
  refine k_region ?_
  obtain ⟨x1, hx1, h⟩ := ob h
  refine k_call cal7 rfl (law06_awake_w  tb2 tb0 tb1 hx1) rfl ?_
  rintro s3 vr3 st3 rfl
  have szs3 := st3.size
  have hS := hS.trans0 st3
  refine k_assign rfl rfl ?_
  refine k_nil ?_
  refine k_keep [(1, _), (2, _), (3, _), (6, _)] ⟨rfl, rfl, rfl, rfl, trivial⟩ ?_
  refine k_ret ?_
  obtain rfl := Option.some.inj h
  refine ⟨_, rfl, Ret.mk hS ?_⟩
  exact rfl
 ·
  have h := itF h c2
  refine k_skip ?_
  refine k_seq ?_
  refine k_region ?_
  refine k_load_blka (cs := [.int .u64 (a0.Gen.toNat : Int), .int .u8 (a0.Sum.e0.toNat : Int), .int .u8 (a0.Sum.e1.toNat : Int), .int .u8 (a0.Sum.e2.toNat : Int), .int .u8 (a0.Sum.e3.toNat : Int), .int .u8 (a0.Sum.e4.toNat : Int), .int .u8 (a0.Sum.e5.toNat : Int), .int .u8 (a0.Sum.e6.toNat : Int), .int .u8 (a0.Sum.e7.toNat : Int), .int .u8 (a0.Sum.e8.toNat : Int), .int .u8 (a0.Sum.e9.toNat : Int), .int .u8 (a0.Sum.e10.toNat : Int), .int .u8 (a0.Sum.e11.toNat : Int), .int .u8 (a0.Sum.e12.toNat : Int), .int .u8 (a0.Sum.e13.toNat : Int), .int .u8 (a0.Sum.e14.toNat : Int), .int .u8 (a0.Sum.e15.toNat : Int)]) agg29 rfl h1 rfl ?_
  refine k_alloc zero29 rfl ?_
  intro s4 b4 st4 h4 ge4
  have szs4 := st4.size
  have hS := hS.trans0 st4
  replace hp1 := hp1.up2 st4
  replace tb2 := tb2.up2 st4
  replace tb0 := tb0.up2 st4
  replace tb1 := tb1.up2 st4
  have lt4 := h4.lt
  refine k_store_c (cs' := [.int .u64 (a0.Gen.toNat : Int), .int .u8 (a0.Sum.e0.toNat : Int), .int .u8 (a0.Sum.e1.toNat : Int), .int .u8 (a0.Sum.e2.toNat : Int), .int .u8 (a0.Sum.e3.toNat : Int), .int .u8 (a0.Sum.e4.toNat : Int), .int .u8 (a0.Sum.e5.toNat : Int), .int .u8 (a0.Sum.e6.toNat : Int), .int .u8 (a0.Sum.e7.toNat : Int), .int .u8 (a0.Sum.e8.toNat : Int), .int .u8 (a0.Sum.e9.toNat : Int), .int .u8 (a0.Sum.e10.toNat : Int), .int .u8 (a0.Sum.e11.toNat : Int), .int .u8 (a0.Sum.e12.toNat : Int), .int .u8 (a0.Sum.e13.toNat : Int), .int .u8 (a0.Sum.e14.toNat : Int), .int .u8 (a0.Sum.e15.toNat : Int)]) size29 rfl rfl h4 (by first | (simp; done) | omega | (dsimp only; omega)) (CellsOf.lit rfl rfl) rfl (by first | rfl | (simp; done) | (simp; omega)) rfl ?_
  intro s5 st5 h4
  have szs5 := st5.size
  have hS := hS.c0 st5
  replace hp1 := hp1.up2 st5
  replace tb2 := tb2.up2 st5
  replace tb0 := tb0.up2 st5
  replace tb1 := tb1.up2 st5
  refine k_nil ?_
  refine k_keep [(1, _), (2, _), (6, _), (7, _)] ⟨rfl, rfl, rfl, rfl, trivial⟩ ?_
  refine k_seq ?_
  refine k_region ?_
  refine k_assign rfl rfl ?_
  refine k_nil ?_
  refine k_seq ?_
  obtain ⟨kj2, hK6, h⟩ := jn_out h
  have hE6 := Step.r0 (KC (b4 + 1) 0) s5
  refine k_cutc (X := St × (List ApiRev) × Value × UInt64 × UInt8 × UInt8 × UInt8 × UInt8 × UInt8 × UInt8 × UInt8 × UInt8 × UInt8 × UInt8 × UInt8 × UInt8 × UInt8 × UInt8 × UInt8 × UInt8) [(6, .bool false)] (fun (xL : St × (List ApiRev) × Value × UInt64 × UInt8 × UInt8 × UInt8 × UInt8 × UInt8 × UInt8 × UInt8 × UInt8 × UInt8 × UInt8 × UInt8 × UInt8 × UInt8 × UInt8 × UInt8 × UInt8) => match xL with | (sl, x3, v7, x4, x5, x6, x7, x8, x9, x10, x11, x12, x13, x14, x15, x16, x17, x18, x19, x20) => [(8, v7)]) (fun (xL : St × (List ApiRev) × Value × UInt64 × UInt8 × UInt8 × UInt8 × UInt8 × UInt8 × UInt8 × UInt8 × UInt8 × UInt8 × UInt8 × UInt8 × UInt8 × UInt8 × UInt8 × UInt8 × UInt8) (wL : World) => match xL with | (sl, x3, v7, x4, x5, x6, x7, x8, x9, x10, x11, x12, x13, x14, x15, x16, x17, x18, x19, x20) => sl.w = wL ∧ Step (KC (b4 + 1) 0) s5 sl ∧ (Own sl ⟨s5.n + 1, 3008⟩ 29 17 v7 (x3.map dApiRev)) ∧ (Blk sl b4 ⟨b4 + 1, 0⟩ [.int .u64 (x4.toNat : Int), .int .u8 (x5.toNat : Int), .int .u8 (x6.toNat : Int), .int .u8 (x7.toNat : Int), .int .u8 (x8.toNat : Int), .int .u8 (x9.toNat : Int), .int .u8 (x10.toNat : Int), .int .u8 (x11.toNat : Int), .int .u8 (x12.toNat : Int), .int .u8 (x13.toNat : Int), .int .u8 (x14.toNat : Int), .int .u8 (x15.toNat : Int), .int .u8 (x16.toNat : Int), .int .u8 (x17.toNat : Int), .int .u8 (x18.toNat : Int), .int .u8 (x19.toNat : Int), .int .u8 (x20.toNat : Int)] 29) ∧ kj2 x3 x4 x5 x6 x7 x8 x9 x10 x11 x12 x13 x14 x15 x16 x17 x18 x19 x20 = some r) ?_ ?_
  ·
   refine k_seq ?_
   refine k_region ?_
   refine k_assign rfl rfl ?_
   refine k_nil ?_
   refine k_block ?_
   have h8 : Own s5 ⟨s5.n + 1, 3008⟩ 29 17 (.slice none 0 0) (([] : List ApiRev).map dApiRev) := Own.nil (by first | (simp; done) | omega | (dsimp only; omega)) (by first | (simp; done) | omega | (dsimp only; omega))
   refine k_loopc (X := St × (List ApiRev) × Value × Int × UInt64 × UInt8 × UInt8 × UInt8 × UInt8 × UInt8 × UInt8 × UInt8 × UInt8 × UInt8 × UInt8 × UInt8 × UInt8 × UInt8 × UInt8 × UInt8 × UInt8 × Nat) [(1, _), (2, _), (6, _), (7, _)] (fun (xL : St × (List ApiRev) × Value × Int × UInt64 × UInt8 × UInt8 × UInt8 × UInt8 × UInt8 × UInt8 × UInt8 × UInt8 × UInt8 × UInt8 × UInt8 × UInt8 × UInt8 × UInt8 × UInt8 × UInt8 × Nat) => match xL with | (sl, x21, v10, x22, x23, x24, x25, x26, x27, x28, x29, x30, x31, x32, x33, x34, x35, x36, x37, x38, x39, j) => [(8, v10), (9, .int .i64 x22)]) (fun (xL : St × (List ApiRev) × Value × Int × UInt64 × UInt8 × UInt8 × UInt8 × UInt8 × UInt8 × UInt8 × UInt8 × UInt8 × UInt8 × UInt8 × UInt8 × UInt8 × UInt8 × UInt8 × UInt8 × UInt8 × Nat) (wL : World) => match xL with | (sl, x21, v10, x22, x23, x24, x25, x26, x27, x28, x29, x30, x31, x32, x33, x34, x35, x36, x37, x38, x39, j) => sl.w = wL ∧ Step (KC (b4 + 1) 0) s5 sl ∧ (Own sl ⟨s5.n + 1, 3008⟩ 29 17 v10 (x21.map dApiRev)) ∧ (Blk sl b4 ⟨b4 + 1, 0⟩ [.int .u64 (x23.toNat : Int), .int .u8 (x24.toNat : Int), .int .u8 (x25.toNat : Int), .int .u8 (x26.toNat : Int), .int .u8 (x27.toNat : Int), .int .u8 (x28.toNat : Int), .int .u8 (x29.toNat : Int), .int .u8 (x30.toNat : Int), .int .u8 (x31.toNat : Int), .int .u8 (x32.toNat : Int), .int .u8 (x33.toNat : Int), .int .u8 (x34.toNat : Int), .int .u8 (x35.toNat : Int), .int .u8 (x36.toNat : Int), .int .u8 (x37.toNat : Int), .int .u8 (x38.toNat : Int), .int .u8 (x39.toNat : Int)] 29) ∧ law06_RevOne_l1 a1 a2 kj2 j x21 x22 x23 x24 x25 x26 x27 x28 x29 x30 x31 x32 x33 x34 x35 x36 x37 x38 x39 = some r) (fun (xL : St × (List ApiRev) × Value × Int × UInt64 × UInt8 × UInt8 × UInt8 × UInt8 × UInt8 × UInt8 × UInt8 × UInt8 × UInt8 × UInt8 × UInt8 × UInt8 × UInt8 × UInt8 × UInt8 × UInt8 × Nat) => match xL with | (sl, x21, v10, x22, x23, x24, x25, x26, x27, x28, x29, x30, x31, x32, x33, x34, x35, x36, x37, x38, x39, j) => j) (s5, [], (.slice none 0 0), 0, a0.Gen, a0.Sum.e0, a0.Sum.e1, a0.Sum.e2, a0.Sum.e3, a0.Sum.e4, a0.Sum.e5, a0.Sum.e6, a0.Sum.e7, a0.Sum.e8, a0.Sum.e9, a0.Sum.e10, a0.Sum.e11, a0.Sum.e12, a0.Sum.e13, a0.Sum.e14, a0.Sum.e15, FU) ⟨rfl, rfl, rfl, rfl, trivial⟩ ⟨(by first | rfl | (simp <;> rfl)), (by first | rfl | (simp <;> rfl)), trivial⟩ ⟨rfl, (Step.refl _).of0 (by first | exact fun _ h => h | (intro c h; simp [KC, KO, KU, KN, KB] at h <;> omega)), h8, h4, h⟩ ?_
   rintro ⟨s11, x21, v10, x22, x23, x24, x25, x26, x27, x28, x29, x30, x31, x32, x33, x34, x35, x36, x37, x38, x39, j⟩ wL ⟨rfl, hE9, h10, h4, h⟩
   cases j with
   | zero => rw [law06_RevOne_l1] at h; exact (noneNe h).elim
   | succ j =>
   rw [law06_RevOne_l1] at h
   have szs11 := hE9.size
   have hS := hS.c0 hE9
   have hE6 := hE6.c0 hE9
   replace hp1 := hp1.up2 hE9
   replace tb2 := tb2.up2 hE9
   replace tb0 := tb0.up2 hE9
   replace tb1 := tb1.up2 hE9
   refine k_seq ?_
   refine k_seq ?_
   refine k_region ?_
   refine k_move rfl rfl ?_
   refine k_move rfl rfl ?_
   refine k_len Tryd.underlying30 rfl (SL.of_R hp1).hasLen rfl ?_
   refine k_as (v := .int .i64 (a1.length : Int)) (by simp only [List.length_map]) ?_
   refine k_lss rfl rfl rfl ?_
   refine k_nil ?_
   refine k_keep [(1, _), (2, _), (6, _), (7, _), (8, _), (9, _), (23, _)] ⟨rfl, rfl, rfl, rfl, rfl, rfl, rfl, trivial⟩ ?_
   refine k_cond_dec rfl (fun c12 => ?_) (fun c12 => ?_)
   ·
    have h := itT h c12
    refine k_skip ?_
    refine k_seq ?_
    refine k_block ?_
    refine k_seq ?_
    refine k_seq ?_
    refine k_region ?_
    refine k_move rfl rfl ?_
    refine k_move rfl rfl ?_
    obtain ⟨x40, hx40, h⟩ := ob h
    refine k_ixaddr Tryd.underlying30 size34 rfl rfl (SL.of_R hp1) (geti_out hx40).1 (geti_map hx40) rfl ?_
    intro qx40 hqx40
    refine k_load_agg (by exact agg34) rfl hqx40 rfl ?_
    intro cs13 h13
    obtain ⟨q13_0, q13_1, rfl, hq13_0, hq13_1⟩ := opnApiValue h13
    obtain ⟨x41, hx41, h⟩ := ob h
    refine k_call cal10 rfl (law01_Long_w  (clsApiValue x40 hq13_0 hq13_1) hx41) rfl ?_
    rintro s14 vr14 st14 rfl
    have szs14 := st14.size
    have hS := hS.trans0 st14
    have hE6 := hE6.trans0 st14
    have hE9 := hE9.trans0 st14
    replace hp1 := hp1.up2 st14
    replace h4 := h4.up2 st14
    replace h10 := h10.up2 st14
    replace tb2 := tb2.up2 st14
    replace tb0 := tb0.up2 st14
    replace tb1 := tb1.up2 st14
    refine k_nil ?_
    refine k_keep [(1, _), (2, _), (6, _), (7, _), (8, _), (9, _), (30, _)] ⟨rfl, rfl, rfl, rfl, rfl, rfl, rfl, trivial⟩ ?_
    refine k_cond rfl (fun c15 => ?_) (fun c15 => ?_)
    ·
     have h := ibT h c15
     refine k_seq ?_
     refine k_region ?_
     obtain ⟨x42, hx42, h⟩ := ob h
     refine k_call cal7 rfl (law06_awake_w  tb2 tb0 tb1 hx42) rfl ?_
     rintro s16 vr16 st16 rfl
     have szs16 := st16.size
     have hS := hS.trans0 st16
     have hE6 := hE6.trans0 st16
     have hE9 := hE9.trans0 st16
     refine k_assign rfl rfl ?_
     refine k_nil ?_
     refine k_keep [(1, _), (2, _), (6, _), (7, _), (8, _), (9, _)] ⟨rfl, rfl, rfl, rfl, rfl, rfl, trivial⟩ ?_
     refine k_ret ?_
     obtain rfl := Option.some.inj h
     refine ⟨_, rfl, Ret.mk hS ?_⟩
     exact rfl
    ·
     have h := ibF h c15
     refine k_skip ?_
     refine k_seq ?_
     refine k_region ?_
     refine k_move rfl rfl ?_
     refine k_move rfl rfl ?_
     by_cases c17 : 0 ≤ x22
     case neg => exact (noneNe (itF h c17)).elim
     replace h := itT h c17
     refine k_shr (p := a2) rfl rfl c17 rfl ?_
     refine k_bits (p := a2.fdiv (2 ^ (min (x22).toNat 64))) (q := 1) (.inl ⟨rfl, rfl⟩) rfl rfl rfl ?_
     refine k_as (v := .int .i64 (andI (a2.fdiv (2 ^ (min (x22).toNat 64))) 1)) rfl ?_
     refine k_assign rfl rfl ?_
     refine k_nil ?_
     refine k_keep [(1, _), (2, _), (6, _), (7, _), (8, _), (9, _), (10, _)] ⟨rfl, rfl, rfl, rfl, rfl, rfl, rfl, trivial⟩ ?_
     refine k_seq ?_
     obtain ⟨kj43, hK18, h⟩ := jn_out h
     have hE18 := Step.r0 K0 s14
     refine k_cutc (X := St × Nat × UInt64 × UInt8 × UInt8 × UInt8 × UInt8 × UInt8 × UInt8 × UInt8 × UInt8 × UInt8 × UInt8 × UInt8 × UInt8 × UInt8 × UInt8 × UInt8 × UInt8 × Int) [(1, v1), (2, .int .i64 a2), (6, .bool false), (7, .pointer (some ⟨b4, 0, none⟩)), (8, v10), (9, .int .i64 x22), (10, .int .i64 (andI (a2.fdiv (2 ^ (min (x22).toNat 64))) 1))] (fun (xL : St × Nat × UInt64 × UInt8 × UInt8 × UInt8 × UInt8 × UInt8 × UInt8 × UInt8 × UInt8 × UInt8 × UInt8 × UInt8 × UInt8 × UInt8 × UInt8 × UInt8 × UInt8 × Int) => match xL with | (sl, bv19, x44, x45, x46, x47, x48, x49, x50, x51, x52, x53, x54, x55, x56, x57, x58, x59, x60, x61) => [(11, .pointer (some ⟨bv19, 0, none⟩)), (12, .int .i64 x61)]) (fun (xL : St × Nat × UInt64 × UInt8 × UInt8 × UInt8 × UInt8 × UInt8 × UInt8 × UInt8 × UInt8 × UInt8 × UInt8 × UInt8 × UInt8 × UInt8 × UInt8 × UInt8 × UInt8 × Int) (wL : World) => match xL with | (sl, bv19, x44, x45, x46, x47, x48, x49, x50, x51, x52, x53, x54, x55, x56, x57, x58, x59, x60, x61) => sl.w = wL ∧ Step K0 s14 sl ∧ (Blk sl bv19 ⟨bv19 + 1, 0⟩ [.int .u64 (x44.toNat : Int), .int .u8 (x45.toNat : Int), .int .u8 (x46.toNat : Int), .int .u8 (x47.toNat : Int), .int .u8 (x48.toNat : Int), .int .u8 (x49.toNat : Int), .int .u8 (x50.toNat : Int), .int .u8 (x51.toNat : Int), .int .u8 (x52.toNat : Int), .int .u8 (x53.toNat : Int), .int .u8 (x54.toNat : Int), .int .u8 (x55.toNat : Int), .int .u8 (x56.toNat : Int), .int .u8 (x57.toNat : Int), .int .u8 (x58.toNat : Int), .int .u8 (x59.toNat : Int), .int .u8 (x60.toNat : Int)] 29) ∧ (s14.n ≤ bv19) ∧ kj43 x44 x45 x46 x47 x48 x49 x50 x51 x52 x53 x54 x55 x56 x57 x58 x59 x60 x61 = some r) ?_ ?_
     ·
      obtain ⟨x62, hx62, h⟩ := ob h
      obtain ⟨x63, hx63, h⟩ := ob h
      refine k_drawT (KN s14.n) 12 (.read 0 (.read 1 (.read 2 (.read 3 (.read 4 (.read 5 (.alt 6 (.read 7 (.read 8 (.read 9 (.alt 10 (.alt 11 .fin .no) .no)))) (.alt 10 (.alt 6 (.read 7 (.read 8 (.read 9 (.alt 11 .fin .no)))) .no) .no)))))))) mixed (by intro c h; (try simp only [KC, KO, KU, KN, KB] at h) <;> omega) rfl rfl rfl ?_
      intro s20 st20
      have szs20 := st20.size
      have hS := hS.trans0 st20
      have hE6 := hE6.trans0 st20
      have hE9 := hE9.trans0 st20
      have hE18 := hE18.trans0 st20
      replace hp1 := hp1.up2 st20
      replace h4 := h4.up2 st20
      replace tb2 := tb2.up2 st20
      refine rt_read (.agg #[.int .u64 (x23.toNat : Int), .int .u8 (x24.toNat : Int), .int .u8 (x25.toNat : Int), .int .u8 (x26.toNat : Int), .int .u8 (x27.toNat : Int), .int .u8 (x28.toNat : Int), .int .u8 (x29.toNat : Int), .int .u8 (x30.toNat : Int), .int .u8 (x31.toNat : Int), .int .u8 (x32.toNat : Int), .int .u8 (x33.toNat : Int), .int .u8 (x34.toNat : Int), .int .u8 (x35.toNat : Int), .int .u8 (x36.toNat : Int), .int .u8 (x37.toNat : Int), .int .u8 (x38.toNat : Int), .int .u8 (x39.toNat : Int)]) rfl rfl (fun s21 st21 => ?_) ?_
      ·try replace h4 := h4.up2 st21
       refine k_load_blka (cs := [.int .u64 (x23.toNat : Int), .int .u8 (x24.toNat : Int), .int .u8 (x25.toNat : Int), .int .u8 (x26.toNat : Int), .int .u8 (x27.toNat : Int), .int .u8 (x28.toNat : Int), .int .u8 (x29.toNat : Int), .int .u8 (x30.toNat : Int), .int .u8 (x31.toNat : Int), .int .u8 (x32.toNat : Int), .int .u8 (x33.toNat : Int), .int .u8 (x34.toNat : Int), .int .u8 (x35.toNat : Int), .int .u8 (x36.toNat : Int), .int .u8 (x37.toNat : Int), .int .u8 (x38.toNat : Int), .int .u8 (x39.toNat : Int)]) agg29 rfl h4 rfl ?_
       exact fq_end
      refine rt_read (.int .i64 (andI (a2.fdiv (2 ^ (min (x22).toNat 64))) 1)) rfl rfl (fun s22 st22 => ?_) ?_
      ·refine k_move rfl rfl ?_
       exact fq_end
      refine rt_read (v1) rfl rfl (fun s23 st23 => ?_) ?_
      ·refine k_move rfl rfl ?_
       exact fq_end
      refine rt_read (.int .i64 x22) rfl rfl (fun s24 st24 => ?_) ?_
      ·refine k_move rfl rfl ?_
       exact fq_end
      refine rt_ix rfl (wanted_none rfl) Tryd.underlying30 size34 rfl rfl (SL.of_R hp1) (geti_out hx62).1 (geti_map hx62) rfl ?_
      intro q25 hq25
      refine rt_ldagg rfl (wanted_none rfl) (by exact agg34) rfl hq25 (by first | exact id | (simp only [KC, KO, KU, KN, KB] <;> omega)) rfl ?_
      intro cs26 h26
      obtain ⟨q26_0, q26_1, rfl, hq26_0, hq26_1⟩ := opnApiValue h26
      refine rt_alt rfl rfl ?_ ?_
      ·
       have hA27 := Step.r0 (KN s14.n) s20
       refine k_call cal11 rfl (rev_Make_w  (clsApiRev (⟨x23, (⟨x24, x25, x26, x27, x28, x29, x30, x31, x32, x33, x34, x35, x36, x37, x38, x39⟩ : St27)⟩ : ApiRev)) (clsApiValue x62 hq26_0 hq26_1) tb2 hx63) rfl ?_
       rintro s28 vr28 st28 ⟨cs28_0, rfl, h28_0⟩
       have szs28 := st28.size
       have hS := hS.trans0 st28
       have hE6 := hE6.trans0 st28
       have hE9 := hE9.trans0 st28
       have hE18 := hE18.trans0 st28
       have hA27 := hA27.trans0 st28
       obtain rfl := opnApiRev h28_0
       refine rt_cont hA27 ?_
       refine rt_read (.tuple #[.agg #[.int .u64 (x63.1.Gen.toNat : Int), .int .u8 (x63.1.Sum.e0.toNat : Int), .int .u8 (x63.1.Sum.e1.toNat : Int), .int .u8 (x63.1.Sum.e2.toNat : Int), .int .u8 (x63.1.Sum.e3.toNat : Int), .int .u8 (x63.1.Sum.e4.toNat : Int), .int .u8 (x63.1.Sum.e5.toNat : Int), .int .u8 (x63.1.Sum.e6.toNat : Int), .int .u8 (x63.1.Sum.e7.toNat : Int), .int .u8 (x63.1.Sum.e8.toNat : Int), .int .u8 (x63.1.Sum.e9.toNat : Int), .int .u8 (x63.1.Sum.e10.toNat : Int), .int .u8 (x63.1.Sum.e11.toNat : Int), .int .u8 (x63.1.Sum.e12.toNat : Int), .int .u8 (x63.1.Sum.e13.toNat : Int), .int .u8 (x63.1.Sum.e14.toNat : Int), .int .u8 (x63.1.Sum.e15.toNat : Int)], .int .i64 x63.2]) rfl rfl (fun s29 st29 => ?_) ?_
       ·refine k_move rfl rfl ?_
        exact fq_end
       refine rt_read (.agg #[.int .u64 (x63.1.Gen.toNat : Int), .int .u8 (x63.1.Sum.e0.toNat : Int), .int .u8 (x63.1.Sum.e1.toNat : Int), .int .u8 (x63.1.Sum.e2.toNat : Int), .int .u8 (x63.1.Sum.e3.toNat : Int), .int .u8 (x63.1.Sum.e4.toNat : Int), .int .u8 (x63.1.Sum.e5.toNat : Int), .int .u8 (x63.1.Sum.e6.toNat : Int), .int .u8 (x63.1.Sum.e7.toNat : Int), .int .u8 (x63.1.Sum.e8.toNat : Int), .int .u8 (x63.1.Sum.e9.toNat : Int), .int .u8 (x63.1.Sum.e10.toNat : Int), .int .u8 (x63.1.Sum.e11.toNat : Int), .int .u8 (x63.1.Sum.e12.toNat : Int), .int .u8 (x63.1.Sum.e13.toNat : Int), .int .u8 (x63.1.Sum.e14.toNat : Int), .int .u8 (x63.1.Sum.e15.toNat : Int)]) rfl rfl (fun s30 st30 => ?_) ?_
       ·refine k_extract rfl rfl rfl ?_
        exact fq_end
       refine rt_read (.int .i64 x63.2) rfl rfl (fun s31 st31 => ?_) ?_
       ·refine k_extract rfl rfl rfl ?_
        exact fq_end
       refine rt_act rfl rfl ?_
       have hA32 := Step.r0 (KN s14.n) s28
       refine k_alloc zero29 rfl ?_
       intro s33 b33 st33 h33 ge33
       have szs33 := st33.size
       have hS := hS.trans0 st33
       have hE6 := hE6.trans0 st33
       have hE9 := hE9.trans0 st33
       have hE18 := hE18.trans0 st33
       have hA32 := hA32.trans0 st33
       have lt33 := h33.lt
       refine rt_cont hA32 ?_
       refine rt_act0 rfl rfl ?_
       have hA34 := Step.r0 (KN s14.n) s33
       refine k_store_c (cs' := [.int .u64 (x63.1.Gen.toNat : Int), .int .u8 (x63.1.Sum.e0.toNat : Int), .int .u8 (x63.1.Sum.e1.toNat : Int), .int .u8 (x63.1.Sum.e2.toNat : Int), .int .u8 (x63.1.Sum.e3.toNat : Int), .int .u8 (x63.1.Sum.e4.toNat : Int), .int .u8 (x63.1.Sum.e5.toNat : Int), .int .u8 (x63.1.Sum.e6.toNat : Int), .int .u8 (x63.1.Sum.e7.toNat : Int), .int .u8 (x63.1.Sum.e8.toNat : Int), .int .u8 (x63.1.Sum.e9.toNat : Int), .int .u8 (x63.1.Sum.e10.toNat : Int), .int .u8 (x63.1.Sum.e11.toNat : Int), .int .u8 (x63.1.Sum.e12.toNat : Int), .int .u8 (x63.1.Sum.e13.toNat : Int), .int .u8 (x63.1.Sum.e14.toNat : Int), .int .u8 (x63.1.Sum.e15.toNat : Int)]) size29 rfl rfl h33 (by first | (simp; done) | omega | (dsimp only; omega)) (CellsOf.lit rfl rfl) rfl (by first | rfl | (simp; done) | (simp; omega)) rfl ?_
       intro s35 st35 h33
       have szs35 := st35.size
       have hS := hS.c0 st35
       have hE6 := hE6.c0 st35
       have hE9 := hE9.c0 st35
       have hE18 := hE18.c0 st35
       have hA34 := hA34.c0 st35
       refine rt_cont0 hA34 ?_
       refine rt_fin ?_
       refine k_assign rfl rfl ?_
       refine k_nil ?_
       exact k_stop ⟨(s35, b33, x63.1.Gen, x63.1.Sum.e0, x63.1.Sum.e1, x63.1.Sum.e2, x63.1.Sum.e3, x63.1.Sum.e4, x63.1.Sum.e5, x63.1.Sum.e6, x63.1.Sum.e7, x63.1.Sum.e8, x63.1.Sum.e9, x63.1.Sum.e10, x63.1.Sum.e11, x63.1.Sum.e12, x63.1.Sum.e13, x63.1.Sum.e14, x63.1.Sum.e15, x63.2), ⟨(by first | rfl | (simp <;> rfl)), (by first | rfl | (simp <;> rfl)), trivial⟩, ⟨rfl, rfl, rfl, rfl, rfl, rfl, rfl, trivial⟩, ⟨rfl, hE18, h33, (by first | omega | (simp <;> omega)), h⟩⟩
      ·
       refine rt_act rfl rfl ?_
       have hA36 := Step.r0 (KN s14.n) s20
       refine k_alloc zero29 rfl ?_
       intro s37 b37 st37 h37 ge37
       have szs37 := st37.size
       have hS := hS.trans0 st37
       have hE6 := hE6.trans0 st37
       have hE9 := hE9.trans0 st37
       have hE18 := hE18.trans0 st37
       have hA36 := hA36.trans0 st37
       replace hq26_0 := hq26_0.up2 st37
       replace hq26_1 := hq26_1.up2 st37
       replace tb2 := tb2.up2 st37
       have lt37 := h37.lt
       refine rt_cont hA36 ?_
       refine rt_act rfl rfl ?_
       have hA38 := Step.r0 (KN s14.n) s37
       refine k_call cal11 rfl (rev_Make_w  (clsApiRev (⟨x23, (⟨x24, x25, x26, x27, x28, x29, x30, x31, x32, x33, x34, x35, x36, x37, x38, x39⟩ : St27)⟩ : ApiRev)) (clsApiValue x62 hq26_0 hq26_1) tb2 hx63) rfl ?_
       rintro s39 vr39 st39 ⟨cs39_0, rfl, h39_0⟩
       have szs39 := st39.size
       have hS := hS.trans0 st39
       have hE6 := hE6.trans0 st39
       have hE9 := hE9.trans0 st39
       have hE18 := hE18.trans0 st39
       have hA38 := hA38.trans0 st39
       replace h37 := h37.up2 st39
       obtain rfl := opnApiRev h39_0
       refine rt_cont hA38 ?_
       refine rt_read (.tuple #[.agg #[.int .u64 (x63.1.Gen.toNat : Int), .int .u8 (x63.1.Sum.e0.toNat : Int), .int .u8 (x63.1.Sum.e1.toNat : Int), .int .u8 (x63.1.Sum.e2.toNat : Int), .int .u8 (x63.1.Sum.e3.toNat : Int), .int .u8 (x63.1.Sum.e4.toNat : Int), .int .u8 (x63.1.Sum.e5.toNat : Int), .int .u8 (x63.1.Sum.e6.toNat : Int), .int .u8 (x63.1.Sum.e7.toNat : Int), .int .u8 (x63.1.Sum.e8.toNat : Int), .int .u8 (x63.1.Sum.e9.toNat : Int), .int .u8 (x63.1.Sum.e10.toNat : Int), .int .u8 (x63.1.Sum.e11.toNat : Int), .int .u8 (x63.1.Sum.e12.toNat : Int), .int .u8 (x63.1.Sum.e13.toNat : Int), .int .u8 (x63.1.Sum.e14.toNat : Int), .int .u8 (x63.1.Sum.e15.toNat : Int)], .int .i64 x63.2]) rfl rfl (fun s40 st40 => ?_) ?_
       ·refine k_move rfl rfl ?_
        exact fq_end
       refine rt_read (.agg #[.int .u64 (x63.1.Gen.toNat : Int), .int .u8 (x63.1.Sum.e0.toNat : Int), .int .u8 (x63.1.Sum.e1.toNat : Int), .int .u8 (x63.1.Sum.e2.toNat : Int), .int .u8 (x63.1.Sum.e3.toNat : Int), .int .u8 (x63.1.Sum.e4.toNat : Int), .int .u8 (x63.1.Sum.e5.toNat : Int), .int .u8 (x63.1.Sum.e6.toNat : Int), .int .u8 (x63.1.Sum.e7.toNat : Int), .int .u8 (x63.1.Sum.e8.toNat : Int), .int .u8 (x63.1.Sum.e9.toNat : Int), .int .u8 (x63.1.Sum.e10.toNat : Int), .int .u8 (x63.1.Sum.e11.toNat : Int), .int .u8 (x63.1.Sum.e12.toNat : Int), .int .u8 (x63.1.Sum.e13.toNat : Int), .int .u8 (x63.1.Sum.e14.toNat : Int), .int .u8 (x63.1.Sum.e15.toNat : Int)]) rfl rfl (fun s41 st41 => ?_) ?_
       ·refine k_extract rfl rfl rfl ?_
        exact fq_end
       refine rt_read (.int .i64 x63.2) rfl rfl (fun s42 st42 => ?_) ?_
       ·refine k_extract rfl rfl rfl ?_
        exact fq_end
       refine rt_act0 rfl rfl ?_
       have hA43 := Step.r0 (KN s14.n) s39
       refine k_store_c (cs' := [.int .u64 (x63.1.Gen.toNat : Int), .int .u8 (x63.1.Sum.e0.toNat : Int), .int .u8 (x63.1.Sum.e1.toNat : Int), .int .u8 (x63.1.Sum.e2.toNat : Int), .int .u8 (x63.1.Sum.e3.toNat : Int), .int .u8 (x63.1.Sum.e4.toNat : Int), .int .u8 (x63.1.Sum.e5.toNat : Int), .int .u8 (x63.1.Sum.e6.toNat : Int), .int .u8 (x63.1.Sum.e7.toNat : Int), .int .u8 (x63.1.Sum.e8.toNat : Int), .int .u8 (x63.1.Sum.e9.toNat : Int), .int .u8 (x63.1.Sum.e10.toNat : Int), .int .u8 (x63.1.Sum.e11.toNat : Int), .int .u8 (x63.1.Sum.e12.toNat : Int), .int .u8 (x63.1.Sum.e13.toNat : Int), .int .u8 (x63.1.Sum.e14.toNat : Int), .int .u8 (x63.1.Sum.e15.toNat : Int)]) size29 rfl rfl h37 (by first | (simp; done) | omega | (dsimp only; omega)) (CellsOf.lit rfl rfl) rfl (by first | rfl | (simp; done) | (simp; omega)) rfl ?_
       intro s44 st44 h37
       have szs44 := st44.size
       have hS := hS.c0 st44
       have hE6 := hE6.c0 st44
       have hE9 := hE9.c0 st44
       have hE18 := hE18.c0 st44
       have hA43 := hA43.c0 st44
       refine rt_cont0 hA43 ?_
       refine rt_fin ?_
       refine k_assign rfl rfl ?_
       refine k_nil ?_
       exact k_stop ⟨(s44, b37, x63.1.Gen, x63.1.Sum.e0, x63.1.Sum.e1, x63.1.Sum.e2, x63.1.Sum.e3, x63.1.Sum.e4, x63.1.Sum.e5, x63.1.Sum.e6, x63.1.Sum.e7, x63.1.Sum.e8, x63.1.Sum.e9, x63.1.Sum.e10, x63.1.Sum.e11, x63.1.Sum.e12, x63.1.Sum.e13, x63.1.Sum.e14, x63.1.Sum.e15, x63.2), ⟨(by first | rfl | (simp <;> rfl)), (by first | rfl | (simp <;> rfl)), trivial⟩, ⟨rfl, rfl, rfl, rfl, rfl, rfl, rfl, trivial⟩, ⟨rfl, hE18, h37, (by first | omega | (simp <;> omega)), h⟩⟩
     ·
      rintro ⟨s45, bv19, x44, x45, x46, x47, x48, x49, x50, x51, x52, x53, x54, x55, x56, x57, x58, x59, x60, x61⟩ wL ⟨rfl, hE18, h19, hd19, h⟩
      have lth19 := h19.lt
      rw [hK18] at h
      have szs45 := hE18.size
      have hS := hS.trans0 hE18
      have hE6 := hE6.trans0 hE18
      have hE9 := hE9.trans0 hE18
      replace hp1 := hp1.up2 hE18
      replace h4 := h4.up2 hE18
      replace h10 := h10.up2 hE18
      replace tb2 := tb2.up2 hE18
      replace tb0 := tb0.up2 hE18
      replace tb1 := tb1.up2 hE18
      refine k_seq ?_
      obtain ⟨kj64, hK46, h⟩ := jn_out h
      have hE46 := Step.r0 K0 s45
      refine k_cutc (X := St × Nat × UInt64 × UInt8 × UInt8 × UInt8 × UInt8 × UInt8 × UInt8 × UInt8 × UInt8 × UInt8 × UInt8 × UInt8 × UInt8 × UInt8 × UInt8 × UInt8 × UInt8 × Int) [(1, v1), (2, .int .i64 a2), (6, .bool false), (7, .pointer (some ⟨b4, 0, none⟩)), (8, v10), (9, .int .i64 x22), (11, .pointer (some ⟨bv19, 0, none⟩)), (12, .int .i64 x61)] (fun (xL : St × Nat × UInt64 × UInt8 × UInt8 × UInt8 × UInt8 × UInt8 × UInt8 × UInt8 × UInt8 × UInt8 × UInt8 × UInt8 × UInt8 × UInt8 × UInt8 × UInt8 × UInt8 × Int) => match xL with | (sl, bv47, x65, x66, x67, x68, x69, x70, x71, x72, x73, x74, x75, x76, x77, x78, x79, x80, x81, x82) => [(13, .pointer (some ⟨bv47, 0, none⟩)), (14, .int .i64 x82)]) (fun (xL : St × Nat × UInt64 × UInt8 × UInt8 × UInt8 × UInt8 × UInt8 × UInt8 × UInt8 × UInt8 × UInt8 × UInt8 × UInt8 × UInt8 × UInt8 × UInt8 × UInt8 × UInt8 × Int) (wL : World) => match xL with | (sl, bv47, x65, x66, x67, x68, x69, x70, x71, x72, x73, x74, x75, x76, x77, x78, x79, x80, x81, x82) => sl.w = wL ∧ Step K0 s45 sl ∧ (Blk sl bv47 ⟨bv47 + 1, 0⟩ [.int .u64 (x65.toNat : Int), .int .u8 (x66.toNat : Int), .int .u8 (x67.toNat : Int), .int .u8 (x68.toNat : Int), .int .u8 (x69.toNat : Int), .int .u8 (x70.toNat : Int), .int .u8 (x71.toNat : Int), .int .u8 (x72.toNat : Int), .int .u8 (x73.toNat : Int), .int .u8 (x74.toNat : Int), .int .u8 (x75.toNat : Int), .int .u8 (x76.toNat : Int), .int .u8 (x77.toNat : Int), .int .u8 (x78.toNat : Int), .int .u8 (x79.toNat : Int), .int .u8 (x80.toNat : Int), .int .u8 (x81.toNat : Int)] 29) ∧ (s45.n ≤ bv47) ∧ kj64 x65 x66 x67 x68 x69 x70 x71 x72 x73 x74 x75 x76 x77 x78 x79 x80 x81 x82 = some r) ?_ ?_
      ·
       obtain ⟨x83, hx83, h⟩ := ob h
       obtain ⟨x84, hx84, h⟩ := ob h
       refine k_drawT (KN s45.n) 12 (.read 0 (.read 1 (.read 2 (.read 3 (.read 4 (.read 5 (.alt 6 (.read 7 (.read 8 (.read 9 (.alt 10 (.alt 11 .fin .no) .no)))) (.alt 10 (.alt 6 (.read 7 (.read 8 (.read 9 (.alt 11 .fin .no)))) .no) .no)))))))) mixed (by intro c h; (try simp only [KC, KO, KU, KN, KB] at h) <;> omega) rfl rfl rfl ?_
       intro s48 st48
       have szs48 := st48.size
       have hS := hS.trans0 st48
       have hE6 := hE6.trans0 st48
       have hE9 := hE9.trans0 st48
       have hE46 := hE46.trans0 st48
       replace hp1 := hp1.up2 st48
       replace h4 := h4.up2 st48
       replace tb2 := tb2.up2 st48
       refine rt_read (.agg #[.int .u64 (x23.toNat : Int), .int .u8 (x24.toNat : Int), .int .u8 (x25.toNat : Int), .int .u8 (x26.toNat : Int), .int .u8 (x27.toNat : Int), .int .u8 (x28.toNat : Int), .int .u8 (x29.toNat : Int), .int .u8 (x30.toNat : Int), .int .u8 (x31.toNat : Int), .int .u8 (x32.toNat : Int), .int .u8 (x33.toNat : Int), .int .u8 (x34.toNat : Int), .int .u8 (x35.toNat : Int), .int .u8 (x36.toNat : Int), .int .u8 (x37.toNat : Int), .int .u8 (x38.toNat : Int), .int .u8 (x39.toNat : Int)]) rfl rfl (fun s49 st49 => ?_) ?_
       ·try replace h4 := h4.up2 st49
        refine k_load_blka (cs := [.int .u64 (x23.toNat : Int), .int .u8 (x24.toNat : Int), .int .u8 (x25.toNat : Int), .int .u8 (x26.toNat : Int), .int .u8 (x27.toNat : Int), .int .u8 (x28.toNat : Int), .int .u8 (x29.toNat : Int), .int .u8 (x30.toNat : Int), .int .u8 (x31.toNat : Int), .int .u8 (x32.toNat : Int), .int .u8 (x33.toNat : Int), .int .u8 (x34.toNat : Int), .int .u8 (x35.toNat : Int), .int .u8 (x36.toNat : Int), .int .u8 (x37.toNat : Int), .int .u8 (x38.toNat : Int), .int .u8 (x39.toNat : Int)]) agg29 rfl h4 rfl ?_
        exact fq_end
       refine rt_read (.int .i64 (andI (a2.fdiv (2 ^ (min (x22).toNat 64))) 1)) rfl rfl (fun s50 st50 => ?_) ?_
       ·refine k_move rfl rfl ?_
        exact fq_end
       refine rt_read (v1) rfl rfl (fun s51 st51 => ?_) ?_
       ·refine k_move rfl rfl ?_
        exact fq_end
       refine rt_read (.int .i64 x22) rfl rfl (fun s52 st52 => ?_) ?_
       ·refine k_move rfl rfl ?_
        exact fq_end
       refine rt_ix rfl (wanted_none rfl) Tryd.underlying30 size34 rfl rfl (SL.of_R hp1) (geti_out hx83).1 (geti_map hx83) rfl ?_
       intro q53 hq53
       refine rt_ldagg rfl (wanted_none rfl) (by exact agg34) rfl hq53 (by first | exact id | (simp only [KC, KO, KU, KN, KB] <;> omega)) rfl ?_
       intro cs54 h54
       obtain ⟨q54_0, q54_1, rfl, hq54_0, hq54_1⟩ := opnApiValue h54
       refine rt_alt rfl rfl ?_ ?_
       ·
        have hA55 := Step.r0 (KN s45.n) s48
        refine k_call cal11 rfl (rev_Make_w  (clsApiRev (⟨x23, (⟨x24, x25, x26, x27, x28, x29, x30, x31, x32, x33, x34, x35, x36, x37, x38, x39⟩ : St27)⟩ : ApiRev)) (clsApiValue x83 hq54_0 hq54_1) tb2 hx84) rfl ?_
        rintro s56 vr56 st56 ⟨cs56_0, rfl, h56_0⟩
        have szs56 := st56.size
        have hS := hS.trans0 st56
        have hE6 := hE6.trans0 st56
        have hE9 := hE9.trans0 st56
        have hE46 := hE46.trans0 st56
        have hA55 := hA55.trans0 st56
        obtain rfl := opnApiRev h56_0
        refine rt_cont hA55 ?_
        refine rt_read (.tuple #[.agg #[.int .u64 (x84.1.Gen.toNat : Int), .int .u8 (x84.1.Sum.e0.toNat : Int), .int .u8 (x84.1.Sum.e1.toNat : Int), .int .u8 (x84.1.Sum.e2.toNat : Int), .int .u8 (x84.1.Sum.e3.toNat : Int), .int .u8 (x84.1.Sum.e4.toNat : Int), .int .u8 (x84.1.Sum.e5.toNat : Int), .int .u8 (x84.1.Sum.e6.toNat : Int), .int .u8 (x84.1.Sum.e7.toNat : Int), .int .u8 (x84.1.Sum.e8.toNat : Int), .int .u8 (x84.1.Sum.e9.toNat : Int), .int .u8 (x84.1.Sum.e10.toNat : Int), .int .u8 (x84.1.Sum.e11.toNat : Int), .int .u8 (x84.1.Sum.e12.toNat : Int), .int .u8 (x84.1.Sum.e13.toNat : Int), .int .u8 (x84.1.Sum.e14.toNat : Int), .int .u8 (x84.1.Sum.e15.toNat : Int)], .int .i64 x84.2]) rfl rfl (fun s57 st57 => ?_) ?_
        ·refine k_move rfl rfl ?_
         exact fq_end
        refine rt_read (.agg #[.int .u64 (x84.1.Gen.toNat : Int), .int .u8 (x84.1.Sum.e0.toNat : Int), .int .u8 (x84.1.Sum.e1.toNat : Int), .int .u8 (x84.1.Sum.e2.toNat : Int), .int .u8 (x84.1.Sum.e3.toNat : Int), .int .u8 (x84.1.Sum.e4.toNat : Int), .int .u8 (x84.1.Sum.e5.toNat : Int), .int .u8 (x84.1.Sum.e6.toNat : Int), .int .u8 (x84.1.Sum.e7.toNat : Int), .int .u8 (x84.1.Sum.e8.toNat : Int), .int .u8 (x84.1.Sum.e9.toNat : Int), .int .u8 (x84.1.Sum.e10.toNat : Int), .int .u8 (x84.1.Sum.e11.toNat : Int), .int .u8 (x84.1.Sum.e12.toNat : Int), .int .u8 (x84.1.Sum.e13.toNat : Int), .int .u8 (x84.1.Sum.e14.toNat : Int), .int .u8 (x84.1.Sum.e15.toNat : Int)]) rfl rfl (fun s58 st58 => ?_) ?_
        ·refine k_extract rfl rfl rfl ?_
         exact fq_end
        refine rt_read (.int .i64 x84.2) rfl rfl (fun s59 st59 => ?_) ?_
        ·refine k_extract rfl rfl rfl ?_
         exact fq_end
        refine rt_act rfl rfl ?_
        have hA60 := Step.r0 (KN s45.n) s56
        refine k_alloc zero29 rfl ?_
        intro s61 b61 st61 h61 ge61
        have szs61 := st61.size
        have hS := hS.trans0 st61
        have hE6 := hE6.trans0 st61
        have hE9 := hE9.trans0 st61
        have hE46 := hE46.trans0 st61
        have hA60 := hA60.trans0 st61
        have lt61 := h61.lt
        refine rt_cont hA60 ?_
        refine rt_act0 rfl rfl ?_
        have hA62 := Step.r0 (KN s45.n) s61
        refine k_store_c (cs' := [.int .u64 (x84.1.Gen.toNat : Int), .int .u8 (x84.1.Sum.e0.toNat : Int), .int .u8 (x84.1.Sum.e1.toNat : Int), .int .u8 (x84.1.Sum.e2.toNat : Int), .int .u8 (x84.1.Sum.e3.toNat : Int), .int .u8 (x84.1.Sum.e4.toNat : Int), .int .u8 (x84.1.Sum.e5.toNat : Int), .int .u8 (x84.1.Sum.e6.toNat : Int), .int .u8 (x84.1.Sum.e7.toNat : Int), .int .u8 (x84.1.Sum.e8.toNat : Int), .int .u8 (x84.1.Sum.e9.toNat : Int), .int .u8 (x84.1.Sum.e10.toNat : Int), .int .u8 (x84.1.Sum.e11.toNat : Int), .int .u8 (x84.1.Sum.e12.toNat : Int), .int .u8 (x84.1.Sum.e13.toNat : Int), .int .u8 (x84.1.Sum.e14.toNat : Int), .int .u8 (x84.1.Sum.e15.toNat : Int)]) size29 rfl rfl h61 (by first | (simp; done) | omega | (dsimp only; omega)) (CellsOf.lit rfl rfl) rfl (by first | rfl | (simp; done) | (simp; omega)) rfl ?_
        intro s63 st63 h61
        have szs63 := st63.size
        have hS := hS.c0 st63
        have hE6 := hE6.c0 st63
        have hE9 := hE9.c0 st63
        have hE46 := hE46.c0 st63
        have hA62 := hA62.c0 st63
        refine rt_cont0 hA62 ?_
        refine rt_fin ?_
        refine k_assign rfl rfl ?_
        refine k_nil ?_
        exact k_stop ⟨(s63, b61, x84.1.Gen, x84.1.Sum.e0, x84.1.Sum.e1, x84.1.Sum.e2, x84.1.Sum.e3, x84.1.Sum.e4, x84.1.Sum.e5, x84.1.Sum.e6, x84.1.Sum.e7, x84.1.Sum.e8, x84.1.Sum.e9, x84.1.Sum.e10, x84.1.Sum.e11, x84.1.Sum.e12, x84.1.Sum.e13, x84.1.Sum.e14, x84.1.Sum.e15, x84.2), ⟨(by first | rfl | (simp <;> rfl)), (by first | rfl | (simp <;> rfl)), trivial⟩, ⟨rfl, rfl, rfl, rfl, rfl, rfl, rfl, rfl, trivial⟩, ⟨rfl, hE46, h61, (by first | omega | (simp <;> omega)), h⟩⟩
       ·
        refine rt_act rfl rfl ?_
        have hA64 := Step.r0 (KN s45.n) s48
        refine k_alloc zero29 rfl ?_
        intro s65 b65 st65 h65 ge65
        have szs65 := st65.size
        have hS := hS.trans0 st65
        have hE6 := hE6.trans0 st65
        have hE9 := hE9.trans0 st65
        have hE46 := hE46.trans0 st65
        have hA64 := hA64.trans0 st65
        replace hq54_0 := hq54_0.up2 st65
        replace hq54_1 := hq54_1.up2 st65
        replace tb2 := tb2.up2 st65
        have lt65 := h65.lt
        refine rt_cont hA64 ?_
        refine rt_act rfl rfl ?_
        have hA66 := Step.r0 (KN s45.n) s65
        refine k_call cal11 rfl (rev_Make_w  (clsApiRev (⟨x23, (⟨x24, x25, x26, x27, x28, x29, x30, x31, x32, x33, x34, x35, x36, x37, x38, x39⟩ : St27)⟩ : ApiRev)) (clsApiValue x83 hq54_0 hq54_1) tb2 hx84) rfl ?_
        rintro s67 vr67 st67 ⟨cs67_0, rfl, h67_0⟩
        have szs67 := st67.size
        have hS := hS.trans0 st67
        have hE6 := hE6.trans0 st67
        have hE9 := hE9.trans0 st67
        have hE46 := hE46.trans0 st67
        have hA66 := hA66.trans0 st67
        replace h65 := h65.up2 st67
        obtain rfl := opnApiRev h67_0
        refine rt_cont hA66 ?_
        refine rt_read (.tuple #[.agg #[.int .u64 (x84.1.Gen.toNat : Int), .int .u8 (x84.1.Sum.e0.toNat : Int), .int .u8 (x84.1.Sum.e1.toNat : Int), .int .u8 (x84.1.Sum.e2.toNat : Int), .int .u8 (x84.1.Sum.e3.toNat : Int), .int .u8 (x84.1.Sum.e4.toNat : Int), .int .u8 (x84.1.Sum.e5.toNat : Int), .int .u8 (x84.1.Sum.e6.toNat : Int), .int .u8 (x84.1.Sum.e7.toNat : Int), .int .u8 (x84.1.Sum.e8.toNat : Int), .int .u8 (x84.1.Sum.e9.toNat : Int), .int .u8 (x84.1.Sum.e10.toNat : Int), .int .u8 (x84.1.Sum.e11.toNat : Int), .int .u8 (x84.1.Sum.e12.toNat : Int), .int .u8 (x84.1.Sum.e13.toNat : Int), .int .u8 (x84.1.Sum.e14.toNat : Int), .int .u8 (x84.1.Sum.e15.toNat : Int)], .int .i64 x84.2]) rfl rfl (fun s68 st68 => ?_) ?_
        ·refine k_move rfl rfl ?_
         exact fq_end
        refine rt_read (.agg #[.int .u64 (x84.1.Gen.toNat : Int), .int .u8 (x84.1.Sum.e0.toNat : Int), .int .u8 (x84.1.Sum.e1.toNat : Int), .int .u8 (x84.1.Sum.e2.toNat : Int), .int .u8 (x84.1.Sum.e3.toNat : Int), .int .u8 (x84.1.Sum.e4.toNat : Int), .int .u8 (x84.1.Sum.e5.toNat : Int), .int .u8 (x84.1.Sum.e6.toNat : Int), .int .u8 (x84.1.Sum.e7.toNat : Int), .int .u8 (x84.1.Sum.e8.toNat : Int), .int .u8 (x84.1.Sum.e9.toNat : Int), .int .u8 (x84.1.Sum.e10.toNat : Int), .int .u8 (x84.1.Sum.e11.toNat : Int), .int .u8 (x84.1.Sum.e12.toNat : Int), .int .u8 (x84.1.Sum.e13.toNat : Int), .int .u8 (x84.1.Sum.e14.toNat : Int), .int .u8 (x84.1.Sum.e15.toNat : Int)]) rfl rfl (fun s69 st69 => ?_) ?_
        ·refine k_extract rfl rfl rfl ?_
         exact fq_end
        refine rt_read (.int .i64 x84.2) rfl rfl (fun s70 st70 => ?_) ?_
        ·refine k_extract rfl rfl rfl ?_
         exact fq_end
        refine rt_act0 rfl rfl ?_
        have hA71 := Step.r0 (KN s45.n) s67
        refine k_store_c (cs' := [.int .u64 (x84.1.Gen.toNat : Int), .int .u8 (x84.1.Sum.e0.toNat : Int), .int .u8 (x84.1.Sum.e1.toNat : Int), .int .u8 (x84.1.Sum.e2.toNat : Int), .int .u8 (x84.1.Sum.e3.toNat : Int), .int .u8 (x84.1.Sum.e4.toNat : Int), .int .u8 (x84.1.Sum.e5.toNat : Int), .int .u8 (x84.1.Sum.e6.toNat : Int), .int .u8 (x84.1.Sum.e7.toNat : Int), .int .u8 (x84.1.Sum.e8.toNat : Int), .int .u8 (x84.1.Sum.e9.toNat : Int), .int .u8 (x84.1.Sum.e10.toNat : Int), .int .u8 (x84.1.Sum.e11.toNat : Int), .int .u8 (x84.1.Sum.e12.toNat : Int), .int .u8 (x84.1.Sum.e13.toNat : Int), .int .u8 (x84.1.Sum.e14.toNat : Int), .int .u8 (x84.1.Sum.e15.toNat : Int)]) size29 rfl rfl h65 (by first | (simp; done) | omega | (dsimp only; omega)) (CellsOf.lit rfl rfl) rfl (by first | rfl | (simp; done) | (simp; omega)) rfl ?_
        intro s72 st72 h65
        have szs72 := st72.size
        have hS := hS.c0 st72
        have hE6 := hE6.c0 st72
        have hE9 := hE9.c0 st72
        have hE46 := hE46.c0 st72
        have hA71 := hA71.c0 st72
        refine rt_cont0 hA71 ?_
        refine rt_fin ?_
        refine k_assign rfl rfl ?_
        refine k_nil ?_
        exact k_stop ⟨(s72, b65, x84.1.Gen, x84.1.Sum.e0, x84.1.Sum.e1, x84.1.Sum.e2, x84.1.Sum.e3, x84.1.Sum.e4, x84.1.Sum.e5, x84.1.Sum.e6, x84.1.Sum.e7, x84.1.Sum.e8, x84.1.Sum.e9, x84.1.Sum.e10, x84.1.Sum.e11, x84.1.Sum.e12, x84.1.Sum.e13, x84.1.Sum.e14, x84.1.Sum.e15, x84.2), ⟨(by first | rfl | (simp <;> rfl)), (by first | rfl | (simp <;> rfl)), trivial⟩, ⟨rfl, rfl, rfl, rfl, rfl, rfl, rfl, rfl, trivial⟩, ⟨rfl, hE46, h65, (by first | omega | (simp <;> omega)), h⟩⟩
      ·
       rintro ⟨s73, bv47, x65, x66, x67, x68, x69, x70, x71, x72, x73, x74, x75, x76, x77, x78, x79, x80, x81, x82⟩ wL ⟨rfl, hE46, h47, hd47, h⟩
       have lth47 := h47.lt
       rw [hK46] at h
       have szs73 := hE46.size
       have hS := hS.trans0 hE46
       have hE6 := hE6.trans0 hE46
       have hE9 := hE9.trans0 hE46
       replace h4 := h4.up2 hE46
       replace h10 := h10.up2 hE46
       replace h19 := h19.up2 hE46
       replace tb2 := tb2.up2 hE46
       replace tb0 := tb0.up2 hE46
       replace tb1 := tb1.up2 hE46
       refine k_seq ?_
       refine k_seq ?_
       refine k_region ?_
       refine k_load_blka (cs := [.int .u64 (x44.toNat : Int), .int .u8 (x45.toNat : Int), .int .u8 (x46.toNat : Int), .int .u8 (x47.toNat : Int), .int .u8 (x48.toNat : Int), .int .u8 (x49.toNat : Int), .int .u8 (x50.toNat : Int), .int .u8 (x51.toNat : Int), .int .u8 (x52.toNat : Int), .int .u8 (x53.toNat : Int), .int .u8 (x54.toNat : Int), .int .u8 (x55.toNat : Int), .int .u8 (x56.toNat : Int), .int .u8 (x57.toNat : Int), .int .u8 (x58.toNat : Int), .int .u8 (x59.toNat : Int), .int .u8 (x60.toNat : Int)]) agg29 rfl h19 rfl ?_
       refine k_load_blka (cs := [.int .u64 (x65.toNat : Int), .int .u8 (x66.toNat : Int), .int .u8 (x67.toNat : Int), .int .u8 (x68.toNat : Int), .int .u8 (x69.toNat : Int), .int .u8 (x70.toNat : Int), .int .u8 (x71.toNat : Int), .int .u8 (x72.toNat : Int), .int .u8 (x73.toNat : Int), .int .u8 (x74.toNat : Int), .int .u8 (x75.toNat : Int), .int .u8 (x76.toNat : Int), .int .u8 (x77.toNat : Int), .int .u8 (x78.toNat : Int), .int .u8 (x79.toNat : Int), .int .u8 (x80.toNat : Int), .int .u8 (x81.toNat : Int)]) agg29 rfl h47 rfl ?_
       refine k_neq_fb (a := (x44.toNat : Int)) (b := (x65.toNat : Int)) (xs := ([x45, x46, x47, x48, x49, x50, x51, x52, x53, x54, x55, x56, x57, x58, x59, x60] : List UInt8)) (ys := ([x66, x67, x68, x69, x70, x71, x72, x73, x74, x75, x76, x77, x78, x79, x80, x81] : List UInt8)) flatB29 rfl rfl rfl rfl rfl ?_
       refine k_move rfl rfl ?_
       have hE74 := Step.r0 K0 s73
       refine k_cutl (X := St) 4 [(1, v1), (2, .int .i64 a2), (6, .bool false), (7, .pointer (some ⟨b4, 0, none⟩)), (8, v10), (9, .int .i64 x22), (11, .pointer (some ⟨bv19, 0, none⟩)), (12, .int .i64 x61), (13, .pointer (some ⟨bv47, 0, none⟩)), (14, .int .i64 x82), (56, .agg #[.int .u64 (x44.toNat : Int), .int .u8 (x45.toNat : Int), .int .u8 (x46.toNat : Int), .int .u8 (x47.toNat : Int), .int .u8 (x48.toNat : Int), .int .u8 (x49.toNat : Int), .int .u8 (x50.toNat : Int), .int .u8 (x51.toNat : Int), .int .u8 (x52.toNat : Int), .int .u8 (x53.toNat : Int), .int .u8 (x54.toNat : Int), .int .u8 (x55.toNat : Int), .int .u8 (x56.toNat : Int), .int .u8 (x57.toNat : Int), .int .u8 (x58.toNat : Int), .int .u8 (x59.toNat : Int), .int .u8 (x60.toNat : Int)]), (57, .agg #[.int .u64 (x65.toNat : Int), .int .u8 (x66.toNat : Int), .int .u8 (x67.toNat : Int), .int .u8 (x68.toNat : Int), .int .u8 (x69.toNat : Int), .int .u8 (x70.toNat : Int), .int .u8 (x71.toNat : Int), .int .u8 (x72.toNat : Int), .int .u8 (x73.toNat : Int), .int .u8 (x74.toNat : Int), .int .u8 (x75.toNat : Int), .int .u8 (x76.toNat : Int), .int .u8 (x77.toNat : Int), .int .u8 (x78.toNat : Int), .int .u8 (x79.toNat : Int), .int .u8 (x80.toNat : Int), .int .u8 (x81.toNat : Int)]), (58, .bool (decide (¬ ((x44.toNat : Int) = (x65.toNat : Int) ∧ ([x45, x46, x47, x48, x49, x50, x51, x52, x53, x54, x55, x56, x57, x58, x59, x60] : List UInt8) = ([x66, x67, x68, x69, x70, x71, x72, x73, x74, x75, x76, x77, x78, x79, x80, x81] : List UInt8)))))] (fun _ => [(63, .bool (decide ((¬ ((x44.toNat : Int) = (x65.toNat : Int) ∧ ([x45, x46, x47, x48, x49, x50, x51, x52, x53, x54, x55, x56, x57, x58, x59, x60] : List UInt8) = ([x66, x67, x68, x69, x70, x71, x72, x73, x74, x75, x76, x77, x78, x79, x80, x81] : List UInt8))) ∨ (x61 ≠ x82))))]) (fun sl wL => sl.w = wL ∧ Step K0 s73 sl) ?_ ?_
       ·
        refine k_again 59 rfl ?_
        refine k_split (fun c75 => ?_) (fun c75 => ?_)
        ·
         refine k_no rfl rfl rfl rfl ?_
         refine k_no rfl rfl rfl rfl ?_
         refine k_no rfl rfl rfl rfl ?_
         refine k_pickT rfl rfl rfl rfl ?_
         exact k_met ⟨s73, ⟨(congrArg (fun b => some (Value.bool b)) (by first | exact decide_eq_decide.2 ⟨Or.inr, fun h => h.resolve_left c75⟩ | exact (decide_eq_true (Or.inl c75)).symm | (simp [c75]; done) | exact dec_andT c75 | exact dec_andF c75 | exact dec_orF c75 | exact dec_orT c75 | (simp [c75, i64] <;> omega))), trivial⟩, ⟨rfl, rfl, rfl, rfl, rfl, rfl, rfl, rfl, rfl, rfl, rfl, rfl, rfl, trivial⟩, rfl, hE74⟩
        ·
         refine k_yes rfl rfl ?_
         refine k_move rfl rfl ?_
         refine k_yes rfl rfl ?_
         refine k_move rfl rfl ?_
         refine k_yes rfl rfl ?_
         refine k_neq rfl rfl rfl ?_
         refine k_pickF rfl rfl rfl rfl ?_
         exact k_met ⟨s73, ⟨(congrArg (fun b => some (Value.bool b)) (by first | exact decide_eq_decide.2 ⟨Or.inr, fun h => h.resolve_left c75⟩ | exact (decide_eq_true (Or.inl c75)).symm | (simp [c75]; done) | exact dec_andT c75 | exact dec_andF c75 | exact dec_orF c75 | exact dec_orT c75 | (simp [c75, i64] <;> omega))), trivial⟩, ⟨rfl, rfl, rfl, rfl, rfl, rfl, rfl, rfl, rfl, rfl, rfl, rfl, rfl, trivial⟩, rfl, hE74⟩
       ·
        rintro s76 wL ⟨rfl, hE74⟩
        have szs76 := hE74.size
        have hS := hS.trans0 hE74
        have hE6 := hE6.trans0 hE74
        have hE9 := hE9.trans0 hE74
        replace h4 := h4.up2 hE74
        replace h10 := h10.up2 hE74
        replace h19 := h19.up2 hE74
        replace tb2 := tb2.up2 hE74
        replace tb0 := tb0.up2 hE74
        replace tb1 := tb1.up2 hE74
        refine k_nil ?_
        refine k_keep [(1, _), (2, _), (6, _), (7, _), (8, _), (9, _), (11, _), (12, _), (63, _)] ⟨rfl, rfl, rfl, rfl, rfl, rfl, rfl, rfl, rfl, trivial⟩ ?_
        refine k_cond_dec rfl (fun c77 => ?_) (fun c77 => ?_)
        ·
         have h := itT h c77
         refine k_seq ?_
         refine k_region ?_
         refine k_assign rfl rfl ?_
         refine k_nil ?_
         refine k_keep [(1, _), (2, _), (6, _), (7, _), (8, _), (9, _), (11, _), (12, _)] ⟨rfl, rfl, rfl, rfl, rfl, rfl, rfl, rfl, trivial⟩ ?_
         refine k_ret ?_
         obtain rfl := Option.some.inj h
         refine ⟨_, rfl, Ret.mk hS ?_⟩
         exact rfl
        ·
         have h := itF h c77
         refine k_skip ?_
         refine k_seq ?_
         refine k_seq ?_
         refine k_region ?_
         refine k_move rfl rfl ?_
         refine k_neq rfl rfl rfl ?_
         refine k_nil ?_
         refine k_keep [(1, _), (2, _), (6, _), (7, _), (8, _), (9, _), (11, _), (65, _)] ⟨rfl, rfl, rfl, rfl, rfl, rfl, rfl, rfl, trivial⟩ ?_
         refine k_cond_dec rfl (fun c78 => ?_) (fun c78 => ?_)
         ·
          have h := itT h c78
          refine k_seq ?_
          refine k_region ?_
          refine k_load_blka (cs := [.int .u64 (x44.toNat : Int), .int .u8 (x45.toNat : Int), .int .u8 (x46.toNat : Int), .int .u8 (x47.toNat : Int), .int .u8 (x48.toNat : Int), .int .u8 (x49.toNat : Int), .int .u8 (x50.toNat : Int), .int .u8 (x51.toNat : Int), .int .u8 (x52.toNat : Int), .int .u8 (x53.toNat : Int), .int .u8 (x54.toNat : Int), .int .u8 (x55.toNat : Int), .int .u8 (x56.toNat : Int), .int .u8 (x57.toNat : Int), .int .u8 (x58.toNat : Int), .int .u8 (x59.toNat : Int), .int .u8 (x60.toNat : Int)]) agg29 rfl h19 rfl ?_
          refine k_build plc29 zero29 rfl Parts.nil (by rfl) rfl ?_
          refine k_as (v := .agg #[.int .u64 0, .int .u8 0, .int .u8 0, .int .u8 0, .int .u8 0, .int .u8 0, .int .u8 0, .int .u8 0, .int .u8 0, .int .u8 0, .int .u8 0, .int .u8 0, .int .u8 0, .int .u8 0, .int .u8 0, .int .u8 0, .int .u8 0]) rfl ?_
          refine k_eql_fb (a := (x44.toNat : Int)) (b := 0) (xs := ([x45, x46, x47, x48, x49, x50, x51, x52, x53, x54, x55, x56, x57, x58, x59, x60] : List UInt8)) (ys := ([(0 : UInt8), (0 : UInt8), (0 : UInt8), (0 : UInt8), (0 : UInt8), (0 : UInt8), (0 : UInt8), (0 : UInt8), (0 : UInt8), (0 : UInt8), (0 : UInt8), (0 : UInt8), (0 : UInt8), (0 : UInt8), (0 : UInt8), (0 : UInt8)] : List UInt8)) flatB29 rfl rfl rfl rfl rfl ?_
          refine k_move rfl rfl ?_
          obtain ⟨x85, hx85, h⟩ := ob h
          have hE79 := Step.r0 K0 s76
          refine k_cutl (X := St) 2 [(1, v1), (2, .int .i64 a2), (6, .bool false), (7, .pointer (some ⟨b4, 0, none⟩)), (8, v10), (9, .int .i64 x22), (11, .pointer (some ⟨bv19, 0, none⟩)), (65, .bool (decide (x61 ≠ 0))), (66, .agg #[.int .u64 (x44.toNat : Int), .int .u8 (x45.toNat : Int), .int .u8 (x46.toNat : Int), .int .u8 (x47.toNat : Int), .int .u8 (x48.toNat : Int), .int .u8 (x49.toNat : Int), .int .u8 (x50.toNat : Int), .int .u8 (x51.toNat : Int), .int .u8 (x52.toNat : Int), .int .u8 (x53.toNat : Int), .int .u8 (x54.toNat : Int), .int .u8 (x55.toNat : Int), .int .u8 (x56.toNat : Int), .int .u8 (x57.toNat : Int), .int .u8 (x58.toNat : Int), .int .u8 (x59.toNat : Int), .int .u8 (x60.toNat : Int)]), (67, .agg #[.int .u64 0, .int .u8 0, .int .u8 0, .int .u8 0, .int .u8 0, .int .u8 0, .int .u8 0, .int .u8 0, .int .u8 0, .int .u8 0, .int .u8 0, .int .u8 0, .int .u8 0, .int .u8 0, .int .u8 0, .int .u8 0, .int .u8 0]), (68, .bool (decide ((x44.toNat : Int) = 0 ∧ ([x45, x46, x47, x48, x49, x50, x51, x52, x53, x54, x55, x56, x57, x58, x59, x60] : List UInt8) = ([(0 : UInt8), (0 : UInt8), (0 : UInt8), (0 : UInt8), (0 : UInt8), (0 : UInt8), (0 : UInt8), (0 : UInt8), (0 : UInt8), (0 : UInt8), (0 : UInt8), (0 : UInt8), (0 : UInt8), (0 : UInt8), (0 : UInt8), (0 : UInt8)] : List UInt8))))] (fun _ => [(71, .bool x85)]) (fun sl wL => sl.w = wL ∧ Step K0 s76 sl) ?_ ?_
          ·
           refine k_again 69 rfl ?_
           refine k_split (fun c80 => ?_) (fun c80 => ?_)
           ·
            have hx85 := itT hx85 c80
            refine k_yes rfl rfl ?_
            obtain ⟨x86, hx86, hx85⟩ := ob hx85
            refine k_call cal7 rfl (law06_awake_w  tb2 tb0 tb1 hx86) rfl ?_
            rintro s81 vr81 st81 rfl
            have szs81 := st81.size
            have hS := hS.trans0 st81
            have hE6 := hE6.trans0 st81
            have hE9 := hE9.trans0 st81
            have hE79 := hE79.trans0 st81
            refine k_pickT rfl rfl rfl rfl ?_
            exact k_met ⟨s81, ⟨(congrArg (fun b => some (Value.bool b)) (Option.some.inj hx85)), trivial⟩, ⟨rfl, rfl, rfl, rfl, rfl, rfl, rfl, rfl, rfl, rfl, rfl, trivial⟩, rfl, hE79⟩
           ·
            have hx85 := itF hx85 c80
            refine k_no rfl rfl rfl rfl ?_
            refine k_pickF rfl rfl rfl rfl ?_
            exact k_met ⟨s76, ⟨(congrArg (fun b => some (Value.bool b)) (Option.some.inj hx85)), trivial⟩, ⟨rfl, rfl, rfl, rfl, rfl, rfl, rfl, rfl, rfl, rfl, rfl, trivial⟩, rfl, hE79⟩
          ·
           rintro s82 wL ⟨rfl, hE79⟩
           have szs82 := hE79.size
           have hS := hS.trans0 hE79
           have hE6 := hE6.trans0 hE79
           have hE9 := hE9.trans0 hE79
           refine k_assign rfl rfl ?_
           refine k_nil ?_
           refine k_keep [(1, _), (2, _), (6, _), (7, _), (8, _), (9, _), (11, _)] ⟨rfl, rfl, rfl, rfl, rfl, rfl, rfl, trivial⟩ ?_
           refine k_ret ?_
           obtain rfl := Option.some.inj h
           refine ⟨_, rfl, Ret.mk hS ?_⟩
           exact rfl
         ·
          have h := itF h c78
          refine k_skip ?_
          refine k_seq ?_
          refine k_seq ?_
          refine k_region ?_
          refine k_field_addr fld29_0 rfl rfl ?_
          refine k_load_blk one26 rfl h19 rfl rfl ?_
          refine k_field_addr fld29_0 rfl rfl ?_
          refine k_load_blk one26 rfl h4 rfl rfl ?_
          refine k_add rfl rfl rfl ?_
          refine k_as (congrArg (Value.int .u64) (w64 _)) ?_
          refine k_neq rfl rfl rfl ?_
          refine k_move rfl rfl ?_
          obtain ⟨x87, hx87, h⟩ := ob h
          have hE83 := Step.r0 K0 s76
          refine k_cutl (X := St) 5 [(1, v1), (2, .int .i64 a2), (6, .bool false), (7, .pointer (some ⟨b4, 0, none⟩)), (8, v10), (9, .int .i64 x22), (11, .pointer (some ⟨bv19, 0, none⟩)), (65, .bool (decide (x61 ≠ 0))), (72, .pointer (some ⟨bv19, 0, none⟩)), (73, .int .u64 (x44.toNat : Int)), (74, .pointer (some ⟨b4, 0, none⟩)), (75, .int .u64 (x23.toNat : Int)), (76, .int .u64 ((ofI64 ((x23.toNat : Int) + 1)).toNat : Int)), (77, .bool (decide ((x44.toNat : Int) ≠ ((ofI64 ((x23.toNat : Int) + 1)).toNat : Int))))] (fun _ => [(83, .bool x87)]) (fun sl wL => sl.w = wL ∧ Step K0 s76 sl) ?_ ?_
          ·
           refine k_again 78 rfl ?_
           refine k_split (fun c84 => ?_) (fun c84 => ?_)
           ·
            have hx87 := itT hx87 c84
            refine k_no rfl rfl rfl rfl ?_
            refine k_no rfl rfl rfl rfl ?_
            refine k_no rfl rfl rfl rfl ?_
            refine k_no rfl rfl rfl rfl ?_
            refine k_pickT rfl rfl rfl rfl ?_
            exact k_met ⟨s76, ⟨(congrArg (fun b => some (Value.bool b)) (Option.some.inj hx87)), trivial⟩, ⟨rfl, rfl, rfl, rfl, rfl, rfl, rfl, rfl, rfl, rfl, rfl, rfl, rfl, rfl, trivial⟩, rfl, hE83⟩
           ·
            have hx87 := itF hx87 c84
            refine k_yes rfl rfl ?_
            refine k_load_blka (cs := [.int .u64 (x23.toNat : Int), .int .u8 (x24.toNat : Int), .int .u8 (x25.toNat : Int), .int .u8 (x26.toNat : Int), .int .u8 (x27.toNat : Int), .int .u8 (x28.toNat : Int), .int .u8 (x29.toNat : Int), .int .u8 (x30.toNat : Int), .int .u8 (x31.toNat : Int), .int .u8 (x32.toNat : Int), .int .u8 (x33.toNat : Int), .int .u8 (x34.toNat : Int), .int .u8 (x35.toNat : Int), .int .u8 (x36.toNat : Int), .int .u8 (x37.toNat : Int), .int .u8 (x38.toNat : Int), .int .u8 (x39.toNat : Int)]) agg29 rfl h4 rfl ?_
            refine k_yes rfl rfl ?_
            refine k_load_blka (cs := [.int .u64 (x44.toNat : Int), .int .u8 (x45.toNat : Int), .int .u8 (x46.toNat : Int), .int .u8 (x47.toNat : Int), .int .u8 (x48.toNat : Int), .int .u8 (x49.toNat : Int), .int .u8 (x50.toNat : Int), .int .u8 (x51.toNat : Int), .int .u8 (x52.toNat : Int), .int .u8 (x53.toNat : Int), .int .u8 (x54.toNat : Int), .int .u8 (x55.toNat : Int), .int .u8 (x56.toNat : Int), .int .u8 (x57.toNat : Int), .int .u8 (x58.toNat : Int), .int .u8 (x59.toNat : Int), .int .u8 (x60.toNat : Int)]) agg29 rfl h19 rfl ?_
            refine k_yes rfl rfl ?_
            obtain ⟨x88, hx88, hx87⟩ := ob hx87
            refine k_call cal12 rfl (rev_Cmp_w  (clsApiRev (⟨x23, (⟨x24, x25, x26, x27, x28, x29, x30, x31, x32, x33, x34, x35, x36, x37, x38, x39⟩ : St27)⟩ : ApiRev)) (clsApiRev (⟨x44, (⟨x45, x46, x47, x48, x49, x50, x51, x52, x53, x54, x55, x56, x57, x58, x59, x60⟩ : St27)⟩ : ApiRev)) hx88) rfl ?_
            rintro s85 vr85 st85 rfl
            have szs85 := st85.size
            have hS := hS.trans0 st85
            have hE6 := hE6.trans0 st85
            have hE9 := hE9.trans0 st85
            have hE83 := hE83.trans0 st85
            refine k_yes rfl rfl ?_
            refine k_geq rfl rfl rfl ?_
            refine k_pickF rfl rfl rfl rfl ?_
            exact k_met ⟨s85, ⟨(congrArg (fun b => some (Value.bool b)) (Option.some.inj hx87)), trivial⟩, ⟨rfl, rfl, rfl, rfl, rfl, rfl, rfl, rfl, rfl, rfl, rfl, rfl, rfl, rfl, trivial⟩, rfl, hE83⟩
          ·
           rintro s86 wL ⟨rfl, hE83⟩
           have szs86 := hE83.size
           have hS := hS.trans0 hE83
           have hE6 := hE6.trans0 hE83
           have hE9 := hE9.trans0 hE83
           replace h4 := h4.up2 hE83
           replace h10 := h10.up2 hE83
           replace h19 := h19.up2 hE83
           refine k_move rfl rfl ?_
           obtain ⟨x89, hx89, h⟩ := ob h
           have hE87 := Step.r0 K0 s86
           refine k_cutl (X := St) 4 [(1, v1), (2, .int .i64 a2), (6, .bool false), (7, .pointer (some ⟨b4, 0, none⟩)), (8, v10), (9, .int .i64 x22), (11, .pointer (some ⟨bv19, 0, none⟩)), (65, .bool (decide (x61 ≠ 0))), (72, .pointer (some ⟨bv19, 0, none⟩)), (73, .int .u64 (x44.toNat : Int)), (74, .pointer (some ⟨b4, 0, none⟩)), (75, .int .u64 (x23.toNat : Int)), (76, .int .u64 ((ofI64 ((x23.toNat : Int) + 1)).toNat : Int)), (77, .bool (decide ((x44.toNat : Int) ≠ ((ofI64 ((x23.toNat : Int) + 1)).toNat : Int)))), (83, .bool x87)] (fun _ => [(88, .bool x89)]) (fun sl wL => sl.w = wL ∧ Step K0 s86 sl) ?_ ?_
           ·
            refine k_again 84 rfl ?_
            refine k_splitb (fun c88 => ?_) (fun c88 => ?_)
            ·
             have hx89 := ibT hx89 c88
             refine k_no rfl rfl rfl rfl ?_
             refine k_no rfl rfl rfl rfl ?_
             refine k_no rfl rfl rfl rfl ?_
             refine k_pickT rfl rfl rfl rfl ?_
             exact k_met ⟨s86, ⟨(congrArg (fun b => some (Value.bool b)) (Option.some.inj hx89)), trivial⟩, ⟨rfl, rfl, rfl, rfl, rfl, rfl, rfl, rfl, rfl, rfl, rfl, rfl, rfl, rfl, rfl, trivial⟩, rfl, hE87⟩
            ·
             have hx89 := ibF hx89 c88
             refine k_yes rfl rfl ?_
             refine k_load_blka (cs := [.int .u64 (x44.toNat : Int), .int .u8 (x45.toNat : Int), .int .u8 (x46.toNat : Int), .int .u8 (x47.toNat : Int), .int .u8 (x48.toNat : Int), .int .u8 (x49.toNat : Int), .int .u8 (x50.toNat : Int), .int .u8 (x51.toNat : Int), .int .u8 (x52.toNat : Int), .int .u8 (x53.toNat : Int), .int .u8 (x54.toNat : Int), .int .u8 (x55.toNat : Int), .int .u8 (x56.toNat : Int), .int .u8 (x57.toNat : Int), .int .u8 (x58.toNat : Int), .int .u8 (x59.toNat : Int), .int .u8 (x60.toNat : Int)]) agg29 rfl h19 rfl ?_
             refine k_yes rfl rfl ?_
             obtain ⟨x90, hx90, hx89⟩ := ob hx89
             refine k_call cal13 rfl (rev_May_w  (clsApiRev (⟨x44, (⟨x45, x46, x47, x48, x49, x50, x51, x52, x53, x54, x55, x56, x57, x58, x59, x60⟩ : St27)⟩ : ApiRev)) hx90) rfl ?_
             rintro s89 vr89 st89 rfl
             have szs89 := st89.size
             have hS := hS.trans0 st89
             have hE6 := hE6.trans0 st89
             have hE9 := hE9.trans0 st89
             have hE87 := hE87.trans0 st89
             refine k_yes rfl rfl ?_
             refine k_not rfl rfl ?_
             refine k_pickF rfl rfl rfl rfl ?_
             exact k_met ⟨s89, ⟨(congrArg (fun b => some (Value.bool b)) (Option.some.inj hx89)), trivial⟩, ⟨rfl, rfl, rfl, rfl, rfl, rfl, rfl, rfl, rfl, rfl, rfl, rfl, rfl, rfl, rfl, trivial⟩, rfl, hE87⟩
           ·
            rintro s90 wL ⟨rfl, hE87⟩
            have szs90 := hE87.size
            have hS := hS.trans0 hE87
            have hE6 := hE6.trans0 hE87
            have hE9 := hE9.trans0 hE87
            replace h4 := h4.up2 hE87
            replace h10 := h10.up2 hE87
            replace h19 := h19.up2 hE87
            refine k_nil ?_
            refine k_keep [(1, _), (2, _), (6, _), (7, _), (8, _), (9, _), (11, _), (88, _)] ⟨rfl, rfl, rfl, rfl, rfl, rfl, rfl, rfl, trivial⟩ ?_
            refine k_cond rfl (fun c91 => ?_) (fun c91 => ?_)
            ·
             have h := ibT h c91
             refine k_seq ?_
             refine k_region ?_
             refine k_assign rfl rfl ?_
             refine k_nil ?_
             refine k_keep [(1, _), (2, _), (6, _), (7, _), (8, _), (9, _), (11, _)] ⟨rfl, rfl, rfl, rfl, rfl, rfl, rfl, trivial⟩ ?_
             refine k_ret ?_
             obtain rfl := Option.some.inj h
             refine ⟨_, rfl, Ret.mk hS ?_⟩
             exact rfl
            ·
             have h := ibF h c91
             refine k_skip ?_
             refine k_seq ?_
             refine k_region ?_
             refine k_load_blka (cs := [.int .u64 (x44.toNat : Int), .int .u8 (x45.toNat : Int), .int .u8 (x46.toNat : Int), .int .u8 (x47.toNat : Int), .int .u8 (x48.toNat : Int), .int .u8 (x49.toNat : Int), .int .u8 (x50.toNat : Int), .int .u8 (x51.toNat : Int), .int .u8 (x52.toNat : Int), .int .u8 (x53.toNat : Int), .int .u8 (x54.toNat : Int), .int .u8 (x55.toNat : Int), .int .u8 (x56.toNat : Int), .int .u8 (x57.toNat : Int), .int .u8 (x58.toNat : Int), .int .u8 (x59.toNat : Int), .int .u8 (x60.toNat : Int)]) agg29 rfl h19 rfl ?_
             refine k_bslice2 (ds := ([(⟨x44, (⟨x45, x46, x47, x48, x49, x50, x51, x52, x53, x54, x55, x56, x57, x58, x59, x60⟩ : St27)⟩ : ApiRev)] : List ApiRev).map dApiRev) slc22 rfl (RVs.cons ⟨_, rfl, (clsApiRev (⟨x44, (⟨x45, x46, x47, x48, x49, x50, x51, x52, x53, x54, x55, x56, x57, x58, x59, x60⟩ : St27)⟩ : ApiRev))⟩ RVs.nil) (by rfl) (by rfl) rfl rfl ?_
             intro s92 v92 b92 st92 ge92 bl92 h92
             have szs92 := st92.size
             have hS := hS.trans0 st92
             have hE6 := hE6.trans0 st92
             have hE9 := hE9.trans0 st92
             replace h4 := h4.up2 st92
             replace h10 := h10.up2 st92
             replace h19 := h19.up2 st92
             have lt92 := Own.le1 h92
             refine k_move rfl rfl ?_
             obtain ⟨x91, hx91, h⟩ := ob h
             refine k_append (es := x21.map dApiRev) elem22 rfl rfl h92 (h10.sl) (by have := (app_out hx91).1; simp only [List.length_map] at *; omega) (by have := (app_out hx91).1; simp only [List.length_map] at *; omega) rfl ?_
             intro s93 v93 st93 h93
             rw [← List.map_append, ← (app_out hx91).2] at h93
             have szs93 := st93.size
             have hS := hS.c0 st93
             have hE6 := hE6.c0 st93
             have hE9 := hE9.c0 st93
             replace h4 := h4.up2 st93
             replace h19 := h19.up2 st93
             refine k_assign rfl rfl ?_
             refine k_nil ?_
             refine k_keep [(1, _), (2, _), (6, _), (7, _), (8, _), (9, _), (11, _)] ⟨rfl, rfl, rfl, rfl, rfl, rfl, rfl, trivial⟩ ?_
             refine k_region ?_
             refine k_load_blka (cs := [.int .u64 (x44.toNat : Int), .int .u8 (x45.toNat : Int), .int .u8 (x46.toNat : Int), .int .u8 (x47.toNat : Int), .int .u8 (x48.toNat : Int), .int .u8 (x49.toNat : Int), .int .u8 (x50.toNat : Int), .int .u8 (x51.toNat : Int), .int .u8 (x52.toNat : Int), .int .u8 (x53.toNat : Int), .int .u8 (x54.toNat : Int), .int .u8 (x55.toNat : Int), .int .u8 (x56.toNat : Int), .int .u8 (x57.toNat : Int), .int .u8 (x58.toNat : Int), .int .u8 (x59.toNat : Int), .int .u8 (x60.toNat : Int)]) agg29 rfl h19 rfl ?_
             refine k_store_c (cs' := [.int .u64 (x44.toNat : Int), .int .u8 (x45.toNat : Int), .int .u8 (x46.toNat : Int), .int .u8 (x47.toNat : Int), .int .u8 (x48.toNat : Int), .int .u8 (x49.toNat : Int), .int .u8 (x50.toNat : Int), .int .u8 (x51.toNat : Int), .int .u8 (x52.toNat : Int), .int .u8 (x53.toNat : Int), .int .u8 (x54.toNat : Int), .int .u8 (x55.toNat : Int), .int .u8 (x56.toNat : Int), .int .u8 (x57.toNat : Int), .int .u8 (x58.toNat : Int), .int .u8 (x59.toNat : Int), .int .u8 (x60.toNat : Int)]) size29 rfl rfl h4 (by first | (simp; done) | omega | (dsimp only; omega)) (CellsOf.lit rfl rfl) rfl (by first | rfl | (simp; done) | (simp; omega)) rfl ?_
             intro s94 st94 h4
             have szs94 := st94.size
             have hS := hS.c0 st94
             have hE6 := hE6.c0 st94
             have hE9 := hE9.c0 st94
             replace h93 := h93.up2 st94
             refine k_nil ?_
             refine k_blk ?_
             refine k_region ?_
             refine k_move rfl rfl ?_
             refine k_add rfl rfl rfl ?_
             refine k_assign rfl rfl ?_
             refine k_nil ?_
             obtain ⟨s95, e95, st95, h95⟩ := Own.relabel (s5.n) 3008 h93 (by first | omega | (dsimp only; omega)) (by omega)
             rw [← e95]
             have szs95 := st95.size
             have hS := hS.c0 st95
             have hE6 := hE6.c0 st95
             have hE9 := hE9.c0 st95
             replace h4 := h4.up2 st95
             exact k_stop ⟨(s95, x91, v93, i64 (x22 + 1), x44, x45, x46, x47, x48, x49, x50, x51, x52, x53, x54, x55, x56, x57, x58, x59, x60, j), ⟨(by first | rfl | (simp <;> rfl)), (by first | rfl | (simp <;> rfl)), trivial⟩, ⟨rfl, rfl, rfl, rfl, trivial⟩, ⟨rfl, hE9, h95, h4, h⟩, (by simp)⟩
   ·
    have h := itF h c12
    refine k_exit rfl ?_
    exact k_stop ⟨(s11, x21, v10, x23, x24, x25, x26, x27, x28, x29, x30, x31, x32, x33, x34, x35, x36, x37, x38, x39), ⟨(by first | rfl | (simp <;> rfl)), trivial⟩, ⟨rfl, trivial⟩, ⟨rfl, hE6, h10, h4, h⟩⟩
  ·
   rintro ⟨s96, x3, v7, x4, x5, x6, x7, x8, x9, x10, x11, x12, x13, x14, x15, x16, x17, x18, x19, x20⟩ wL ⟨rfl, hE6, h7, h4, h⟩
   rw [hK6] at h
   have szs96 := hE6.size
   have hS := hS.c0 hE6
   replace tb2 := tb2.up2 hE6
   replace tb0 := tb0.up2 hE6
   replace tb1 := tb1.up2 hE6
   refine k_seq ?_
   refine k_region ?_
   refine k_move rfl rfl ?_
   obtain ⟨x92, hx92, h⟩ := ob h
   refine k_call cal8 rfl (rev_Chain_w  (h7.sl) hx92) rfl ?_
   rintro s97 vr97 st97 rfl
   have szs97 := st97.size
   have hS := hS.trans0 st97
   replace h7 := h7.up2 st97
   replace tb2 := tb2.up2 st97
   replace tb0 := tb0.up2 st97
   replace tb1 := tb1.up2 st97
   refine k_move rfl rfl ?_
   refine k_len Tryd.underlying22 rfl (h7.sl).hasLen rfl ?_
   refine k_as (v := .int .i64 (x3.length : Int)) (by simp only [List.length_map]) ?_
   refine k_gtr rfl rfl rfl ?_
   refine k_move rfl rfl ?_
   have hE98 := Step.r0 K0 s97
   refine k_cutl (X := St) 4 [(6, .bool false), (8, v7), (94, v7), (95, .bool x92), (96, v7), (97, .int .i64 (x3.length : Int)), (98, .bool (decide (0 < (x3.length : Int))))] (fun _ => [(103, .bool (decide ((0 < (x3.length : Int)) ∧ ((x3.length : Int) ≤ 16))))]) (fun sl wL => sl.w = wL ∧ Step K0 s97 sl) ?_ ?_
   ·
    refine k_again 99 rfl ?_
    refine k_split (fun c99 => ?_) (fun c99 => ?_)
    ·
     refine k_yes rfl rfl ?_
     refine k_move rfl rfl ?_
     refine k_yes rfl rfl ?_
     refine k_len Tryd.underlying22 rfl (h7.sl).hasLen rfl ?_
     refine k_as (v := .int .i64 (x3.length : Int)) (by simp only [List.length_map]) ?_
     refine k_yes rfl rfl ?_
     refine k_leq rfl rfl rfl ?_
     refine k_pickT rfl rfl rfl rfl ?_
     exact k_met ⟨s97, ⟨(congrArg (fun b => some (Value.bool b)) (by first | exact decide_eq_decide.2 ⟨fun h => ⟨c99, h⟩, fun h => h.2⟩ | exact (decide_eq_false (fun h => c99 h.1)).symm | (simp [c99]; done) | exact dec_andT c99 | exact dec_andF c99 | exact dec_orF c99 | exact dec_orT c99 | (simp [c99, i64] <;> omega))), trivial⟩, ⟨rfl, rfl, rfl, rfl, rfl, rfl, rfl, trivial⟩, rfl, hE98⟩
    ·
     refine k_no rfl rfl rfl rfl ?_
     refine k_no rfl rfl rfl rfl ?_
     refine k_no rfl rfl rfl rfl ?_
     refine k_pickF rfl rfl rfl rfl ?_
     exact k_met ⟨s97, ⟨(congrArg (fun b => some (Value.bool b)) (by first | exact decide_eq_decide.2 ⟨fun h => ⟨c99, h⟩, fun h => h.2⟩ | exact (decide_eq_false (fun h => c99 h.1)).symm | (simp [c99]; done) | exact dec_andT c99 | exact dec_andF c99 | exact dec_orF c99 | exact dec_orT c99 | (simp [c99, i64] <;> omega))), trivial⟩, ⟨rfl, rfl, rfl, rfl, rfl, rfl, rfl, trivial⟩, rfl, hE98⟩
   ·
    rintro s100 wL ⟨rfl, hE98⟩
    have szs100 := hE98.size
    have hS := hS.trans0 hE98
    replace tb2 := tb2.up2 hE98
    replace tb0 := tb0.up2 hE98
    replace tb1 := tb1.up2 hE98
    refine k_eqlb Tryd.underlying4 rfl rfl rfl ?_
    refine k_move rfl rfl ?_
    obtain ⟨x93, hx93, h⟩ := ob h
    have hE101 := Step.r0 K0 s100
    refine k_cutl (X := St) 2 [(6, .bool false), (8, v7), (94, v7), (95, .bool x92), (96, v7), (97, .int .i64 (x3.length : Int)), (98, .bool (decide (0 < (x3.length : Int)))), (103, .bool (decide ((0 < (x3.length : Int)) ∧ ((x3.length : Int) ≤ 16)))), (104, .bool (x92 == decide ((0 < (x3.length : Int)) ∧ ((x3.length : Int) ≤ 16))))] (fun _ => [(107, .bool x93)]) (fun sl wL => sl.w = wL ∧ Step K0 s100 sl) ?_ ?_
    ·
     refine k_again 105 rfl ?_
     refine k_splitb (fun c102 => ?_) (fun c102 => ?_)
     ·
      have hx93 := ibT hx93 c102
      refine k_yes rfl rfl ?_
      obtain ⟨x94, hx94, hx93⟩ := ob hx93
      refine k_call cal7 rfl (law06_awake_w  tb2 tb0 tb1 hx94) rfl ?_
      rintro s103 vr103 st103 rfl
      have szs103 := st103.size
      have hS := hS.trans0 st103
      have hE101 := hE101.trans0 st103
      refine k_pickT rfl rfl rfl rfl ?_
      exact k_met ⟨s103, ⟨(congrArg (fun b => some (Value.bool b)) (Option.some.inj hx93)), trivial⟩, ⟨rfl, rfl, rfl, rfl, rfl, rfl, rfl, rfl, rfl, trivial⟩, rfl, hE101⟩
     ·
      have hx93 := ibF hx93 c102
      refine k_no rfl rfl rfl rfl ?_
      refine k_pickF rfl rfl rfl rfl ?_
      exact k_met ⟨s100, ⟨(congrArg (fun b => some (Value.bool b)) (Option.some.inj hx93)), trivial⟩, ⟨rfl, rfl, rfl, rfl, rfl, rfl, rfl, rfl, rfl, trivial⟩, rfl, hE101⟩
    ·
     rintro s104 wL ⟨rfl, hE101⟩
     have szs104 := hE101.size
     have hS := hS.trans0 hE101
     refine k_assign rfl rfl ?_
     refine k_nil ?_
     refine k_keep [(6, _)] ⟨rfl, trivial⟩ ?_
     refine k_ret ?_
     obtain rfl := Option.some.inj h
     refine ⟨_, rfl, Ret.mk hS ?_⟩
     exact rfl
end Go.Proofs
