import Derived.Test.YtdofbkomeadjgaaGreatDoorW06ZRevMake1
set_option linter.unusedSimpArgs false
set_option linter.unusedVariables false
set_option maxHeartbeats 20000000
set_option maxRecDepth 100000
namespace Go.Proofs
open Go.Fw hiding Own k_append k_append_nil k_append_str k_append_str_nil k_bslice2 k_cut_row0 Elt jBe jBn k_makeI2
open Go.FwT
theorem rev_Make_w {s : St} {cs0 : List Value} {a0 : ApiRev} {a1 : Int} {cs2 : List Value} {a2 : ApiValue} {r : (ApiRev × Int)} (hp0 : RC s cs0 (dApiRev a0)) (hp2 : RC s cs2 (dApiValue a2)) (tb2 : Tab2 s) (h : rev_Make a0 a1 a2 = some r) : Calls Tryz.prog 6 #[.agg cs0.toArray, .int .i64 a1, .agg cs2.toArray] s.w (Ret s K0 (fun s1 v => ∃ (u0 : List Value), v = .tuple #[.agg u0.toArray, .int .i64 r.2] ∧ RC s1 u0 (dApiRev r.1))) := by
 unfold rev_Make at h
 obtain rfl := opnApiRev hp0
 obtain ⟨q2_0, q2_1, rfl, hq2_0, hq2_1⟩ := opnApiValue hp2
 have hS := Step.r0 K0 s
 refine jCy (rs := [.cell 6 25, .tmp 7]) (args := [.agg (a17 a0.Gen a0.Sum).toArray, .int .i64 a1, .agg #[.int .i64 a2.Kind, .int .i64 a2.Num, S a2.Text, q2_0, q2_1]]) Tryz.func6 rfl rfl rfl rfl (jAg (jAa (jCp rfl rfl ?_)))
 intro s1 b1 st1 h1 ge1
 have := st1.size
 have hS := hS.trans0 st1
 replace hq2_0 := hq2_0.up2 st1
 replace hq2_1 := hq2_1.up2 st1
 replace tb2 := tb2.up2 st1
 have lt1 := h1.lt
 refine jCp rfl rfl ?_
 intro s2 b2 st2 h2 ge2
 have := st2.size
 have hS := hS.trans0 st2
 replace hq2_0 := hq2_0.up2 st2
 replace hq2_1 := hq2_1.up2 st2
 replace h1 := h1.up2 st2
 replace tb2 := tb2.up2 st2
 have lt2 := h2.lt
 refine jBj zero25 rfl ?_
 intro s3 b3 st3 h3 ge3
 have := st3.size
 have hS := hS.trans0 st3
 replace hq2_0 := hq2_0.up2 st3
 replace hq2_1 := hq2_1.up2 st3
 replace h1 := h1.up2 st3
 replace h2 := h2.up2 st3
 replace tb2 := tb2.up2 st3
 have lt3 := h3.lt
 refine jAd rfl rfl (jAi (jAh [(1, _), (3, _), (5, _), (6, _), (7, _)] ⟨rfl, rfl, rfl, rfl, rfl, trivial⟩ (jAg (jAa (jAs (cs := [.int .i64 a2.Kind, .int .i64 a2.Num, S a2.Text, q2_0, q2_1]) agg29 rfl h2 rfl ?_)))))
 obtain ⟨x1, hx1, h⟩ := ob h
 refine jAp cal15 rfl (value_Print_w  (clsApiValue a2 hq2_0 hq2_1) tb2 hx1) rfl ?_
 rintro s4 vr4 st4 rfl
 have := st4.size
 have hS := hS.trans0 st4
 replace h1 := h1.up2 st4
 replace h3 := h3.up2 st4
 refine jAc rfl rfl (jBd rfl rfl rfl (jBd rfl rfl rfl (jAd rfl rfl (jAd rfl rfl (jAi (jAh [(1, _), (3, _), (6, _), (7, _), (8, _), (9, _)] ⟨rfl, rfl, rfl, rfl, rfl, rfl, trivial⟩ (jAg (jAw (jAg (jAa (jAs (cs := (a17 a0.Gen a0.Sum)) agg25 rfl h1 rfl (jCa plc25 zero25 rfl Parts.nil (by rfl) rfl (k_as (v := .agg z17.toArray) rfl (k_neq_fb (a := (a0.Gen.toNat : Int)) (b := 0) (xs := (y16 a0.Sum)) (ys := z16) flatB25 rfl rfl rfl rfl rfl (jAc rfl rfl ?_)))))))))))))))
 obtain ⟨x2, hx2, h⟩ := ob h
 have hE5 := Step.r0 K0 s4
 refine jBm (X := St) 4 [(1, .int .i64 a1), (3, pZ b1), (6, pZ b3), (7, .int .i64 0), (8, S x1.1), (9, .int .i64 x1.2), (18, .agg (a17 a0.Gen a0.Sum).toArray), (19, .agg z17.toArray), (20, .bool (decide (¬ ((a0.Gen.toNat : Int) = 0 ∧ (y16 a0.Sum) = z16))))] (fun _ => [(25, .bool x2)]) (fun sl wL => sl.w = wL ∧ Step K0 s4 sl) ?_ ?_
 ·
  refine jBb 21 rfl (jBh (fun c6 => ?_) (fun c6 => ?_))
  ·
   have hx2 := itT hx2 c6
   refine jAn rfl rfl (jAs (cs := (a17 a0.Gen a0.Sum)) agg25 rfl h1 rfl (jAn rfl rfl ?_))
   obtain ⟨x3, hx3, hx2⟩ := ob hx2
   refine jAp cal8 rfl (rev_May_w  (clsApiRev a0) hx3) rfl ?_
   rintro s7 vr7 st7 rfl
   have := st7.size
   have hS := hS.trans0 st7
   have hE5 := hE5.trans0 st7
   exact jAn rfl rfl (jDd rfl rfl (jAz rfl rfl rfl rfl (jBc ⟨s7, ⟨(congrArg (fun b => some (Value.bool b)) (Option.some.inj hx2)), trivial⟩, ⟨rfl, rfl, rfl, rfl, rfl, rfl, rfl, rfl, rfl, trivial⟩, rfl, hE5⟩)))
  have hx2 := itF hx2 c6
  exact k_no rfl rfl rfl rfl (k_no rfl rfl rfl rfl (k_no rfl rfl rfl rfl (jAy rfl rfl rfl rfl (jBc ⟨s4, ⟨(congrArg (fun b => some (Value.bool b)) (Option.some.inj hx2)), trivial⟩, ⟨rfl, rfl, rfl, rfl, rfl, rfl, rfl, rfl, rfl, trivial⟩, rfl, hE5⟩))))
 rintro s8 wL ⟨rfl, hE5⟩
 have := hE5.size
 have hS := hS.trans0 hE5
 replace h1 := h1.up2 hE5
 replace h3 := h3.up2 hE5
 refine jAc rfl rfl ?_
 have hE9 := Step.r0 K0 s8
 refine jBm (X := St) 7 [(1, .int .i64 a1), (3, pZ b1), (6, pZ b3), (7, .int .i64 0), (8, S x1.1), (9, .int .i64 x1.2), (18, .agg (a17 a0.Gen a0.Sum).toArray), (19, .agg z17.toArray), (20, .bool (decide (¬ ((a0.Gen.toNat : Int) = 0 ∧ (y16 a0.Sum) = z16)))), (25, .bool x2)] (fun _ => [(33, .bool (decide ((x2 = true) ∨ ((a1 ≠ 0) ∧ (a1 ≠ 1)))))]) (fun sl wL => sl.w = wL ∧ Step K0 s8 sl) ?_ ?_
 ·
  refine jBb 26 rfl (jCn (fun c10 => ?_) (fun c10 => ?_))
  ·
   exact k_no rfl rfl rfl rfl (k_no rfl rfl rfl rfl (k_no rfl rfl rfl rfl (jCb rfl rfl rfl rfl (jCb rfl rfl rfl rfl (k_no rfl rfl rfl rfl (jAz rfl rfl rfl rfl (jBc ⟨s8, ⟨lb, trivial⟩, ⟨rfl, rfl, rfl, rfl, rfl, rfl, rfl, rfl, rfl, rfl, trivial⟩, rfl, hE9⟩)))))))
  refine jAn rfl rfl (jAc rfl rfl (jAn rfl rfl (jDe rfl rfl rfl (jAn rfl rfl (jAc rfl rfl ?_)))))
  have hE11 := Step.r0 K0 s8
  refine jBm (X := St) 3 [(1, .int .i64 a1), (3, pZ b1), (6, pZ b3), (7, .int .i64 0), (8, S x1.1), (9, .int .i64 x1.2), (18, .agg (a17 a0.Gen a0.Sum).toArray), (19, .agg z17.toArray), (20, .bool (decide (¬ ((a0.Gen.toNat : Int) = 0 ∧ (y16 a0.Sum) = z16)))), (25, .bool x2), (26, .bool false), (27, .int .i64 a1), (28, .bool (decide (a1 ≠ 0)))] (fun _ => [(32, .bool (decide ((a1 ≠ 0) ∧ (a1 ≠ 1))))]) (fun sl wL => sl.w = wL ∧ Step K0 s8 sl) ?_ ?_
  ·
   refine jBb 29 rfl (jBh (fun c12 => ?_) (fun c12 => ?_))
   ·
    exact jAn rfl rfl (jAc rfl rfl (jAn rfl rfl (jDe rfl rfl rfl (jAn rfl rfl (jAz rfl rfl rfl rfl (jBc ⟨s8, ⟨lb, trivial⟩, ⟨rfl, rfl, rfl, rfl, rfl, rfl, rfl, rfl, rfl, rfl, rfl, rfl, rfl, trivial⟩, rfl, hE11⟩))))))
   exact k_no rfl rfl rfl rfl (k_no rfl rfl rfl rfl (jAn rfl rfl (jAy rfl rfl rfl rfl (jBc ⟨s8, ⟨lb, trivial⟩, ⟨rfl, rfl, rfl, rfl, rfl, rfl, rfl, rfl, rfl, rfl, rfl, rfl, rfl, trivial⟩, rfl, hE11⟩))))
  rintro s13 wL ⟨rfl, hE11⟩
  have := hE11.size
  have hS := hS.trans0 hE11
  have hE9 := hE9.trans0 hE11
  exact jAy rfl rfl rfl rfl (jBc ⟨s13, ⟨lb, trivial⟩, ⟨rfl, rfl, rfl, rfl, rfl, rfl, rfl, rfl, rfl, rfl, trivial⟩, rfl, hE9⟩)
 rintro s14 wL ⟨rfl, hE9⟩
 have := hE9.size
 have hS := hS.trans0 hE9
 replace h1 := h1.up2 hE9
 replace h3 := h3.up2 hE9
 refine jAc rfl rfl ?_
 have hE15 := Step.r0 K0 s14
 refine jBm (X := St) 3 [(1, .int .i64 a1), (3, pZ b1), (6, pZ b3), (7, .int .i64 0), (8, S x1.1), (9, .int .i64 x1.2), (18, .agg (a17 a0.Gen a0.Sum).toArray), (19, .agg z17.toArray), (20, .bool (decide (¬ ((a0.Gen.toNat : Int) = 0 ∧ (y16 a0.Sum) = z16)))), (25, .bool x2), (33, .bool (decide ((x2 = true) ∨ ((a1 ≠ 0) ∧ (a1 ≠ 1)))))] (fun _ => [(37, .bool (decide (((x2 = true) ∨ ((a1 ≠ 0) ∧ (a1 ≠ 1))) ∨ (x1.2 ≠ 0))))]) (fun sl wL => sl.w = wL ∧ Step K0 s14 sl) ?_ ?_
 ·
  refine jBb 34 rfl (jBh (fun c16 => ?_) (fun c16 => ?_))
  ·
   exact k_no rfl rfl rfl rfl (k_no rfl rfl rfl rfl (jAz rfl rfl rfl rfl (jBc ⟨s14, ⟨lb, trivial⟩, ⟨rfl, rfl, rfl, rfl, rfl, rfl, rfl, rfl, rfl, rfl, rfl, trivial⟩, rfl, hE15⟩)))
  exact jAn rfl rfl (jAc rfl rfl (jAn rfl rfl (jDe rfl rfl rfl (jAy rfl rfl rfl rfl (jBc ⟨s14, ⟨lb, trivial⟩, ⟨rfl, rfl, rfl, rfl, rfl, rfl, rfl, rfl, rfl, rfl, rfl, trivial⟩, rfl, hE15⟩)))))
 rintro s17 wL ⟨rfl, hE15⟩
 have := hE15.size
 have hS := hS.trans0 hE15
 replace h1 := h1.up2 hE15
 replace h3 := h3.up2 hE15
 refine jAd rfl rfl (jAi (jAh [(1, _), (3, _), (6, _), (7, _), (8, _), (17, _)] ⟨rfl, rfl, rfl, rfl, rfl, rfl, trivial⟩ (jAl rfl (fun c18 => ?_) (fun c18 => ?_))))
 ·
  have h := itT h c18
  refine jAg (jAa (jCa plc25 zero25 rfl Parts.nil (by rfl) rfl (k_as (v := .agg z17.toArray) rfl (jAo (cs' := z17) size25 rfl rfl h3 lz (CellsOf.lit rfl rfl) rfl lq rfl ?_))))
  intro s19 st19 h3
  have := st19.size
  have hS := hS.c0 st19
  refine jAd rfl rfl (jAi (jAh [(1, _), (3, _), (6, _), (7, _), (8, _)] ⟨rfl, rfl, rfl, rfl, rfl, trivial⟩ (jAx ?_)))
  obtain rfl := Option.some.inj h
  refine ⟨[.agg z17.toArray, .int .i64 1], ⟨res_blk (cs := z17) rfl agg25 h3, rfl, trivial⟩, Ret.mk hS ?_⟩
  exact ⟨_, rfl, (clsApiRev (⟨(0 : UInt64), (⟨(0 : UInt8), (0 : UInt8), (0 : UInt8), (0 : UInt8), (0 : UInt8), (0 : UInt8), (0 : UInt8), (0 : UInt8), (0 : UInt8), (0 : UInt8), (0 : UInt8), (0 : UInt8), (0 : UInt8), (0 : UInt8), (0 : UInt8), (0 : UInt8)⟩ : St23)⟩ : ApiRev))⟩
 have h := itF h c18
 refine jAg (jAa (jAf fld25_0 rfl rfl (jAj one22 rfl h1 rfl rfl (jCc rfl rfl rfl (jAd rfl rfl (jAi (jAh [(1, _), (3, _), (6, _), (7, _), (8, _), (39, _)] ⟨rfl, rfl, rfl, rfl, rfl, rfl, trivial⟩ (jAl rfl (fun c20 => ?_) (fun c20 => ?_)))))))))
 ·
  have h := itT h c20
  refine jAg (jAa (jCa plc25 zero25 rfl Parts.nil (by rfl) rfl (k_as (v := .agg z17.toArray) rfl (jAo (cs' := z17) size25 rfl rfl h3 lz (CellsOf.lit rfl rfl) rfl lq rfl ?_))))
  intro s21 st21 h3
  have := st21.size
  have hS := hS.c0 st21
  refine jAd rfl rfl (jAi (jAh [(1, _), (3, _), (6, _), (7, _), (8, _)] ⟨rfl, rfl, rfl, rfl, rfl, trivial⟩ (jAx ?_)))
  obtain rfl := Option.some.inj h
  refine ⟨[.agg z17.toArray, .int .i64 11], ⟨res_blk (cs := z17) rfl agg25 h3, rfl, trivial⟩, Ret.mk hS ?_⟩
  exact ⟨_, rfl, (clsApiRev (⟨(0 : UInt64), (⟨(0 : UInt8), (0 : UInt8), (0 : UInt8), (0 : UInt8), (0 : UInt8), (0 : UInt8), (0 : UInt8), (0 : UInt8), (0 : UInt8), (0 : UInt8), (0 : UInt8), (0 : UInt8), (0 : UInt8), (0 : UInt8), (0 : UInt8), (0 : UInt8)⟩ : St23)⟩ : ApiRev))⟩
 have h := itF h c20
 refine jAv (jCe (jAg (jAa (jAc rfl rfl (jBz (p := a1) Tryz.underlying3 Tryz.underlying5 rfl rfl (k_as (congrArg (Value.int .u8) (w8 _)) (k_bslice2 (ds := ([ofI8 a1] : List UInt8).map bD) slc43 rfl (RVs.cons (R.val rfl) RVs.nil) (by rfl) (by rfl) rfl rfl ?_)))))))
 intro s22 v22 b22 st22 ge22 bl22 h22
 have := st22.size
 have hS := hS.trans0 st22
 replace h1 := h1.up2 st22
 replace h3 := h3.up2 st22
 have lt22 := Own.le1 h22
 refine jAd rfl rfl (jAi (jAh [(3, _), (6, _), (7, _), (8, _), (10, _)] ⟨rfl, rfl, rfl, rfl, rfl, trivial⟩ (jAg ?_)))
 obtain ⟨kj4, hK23, h⟩ := jn_out h
 have hE23 := Step.r0 (KC (b22 + 1) 0) s22
 refine jBp (X := St × (List UInt8) × Value) [(3, pZ b1), (6, pZ b3), (7, .int .i64 0), (8, S x1.1)] (fun (xL : St × (List UInt8) × Value) => match xL with | (sl, x5, v24) => [(10, v24)]) (fun (xL : St × (List UInt8) × Value) (wL : World) => match xL with | (sl, x5, v24) => sl.w = wL ∧ Step (KC (b22 + 1) 0) s22 sl ∧ (Own sl ⟨b22 + 1, 0⟩ 5 1 v24 (x5.map bD)) ∧ kj4 x5 = some r) ?_ ?_
 ·
  refine jAg (jAa (jAd rfl rfl (jAi (jAw (jBr (X := St × (List UInt8) × Value × Int × Nat) [(3, _), (6, _), (7, _), (8, _)] (fun (xL : St × (List UInt8) × Value × Int × Nat) => match xL with | (sl, x6, v26, x7, j) => [(10, v26), (11, .int .i64 x7)]) (fun (xL : St × (List UInt8) × Value × Int × Nat) (wL : World) => match xL with | (sl, x6, v26, x7, j) => sl.w = wL ∧ Step (KC (b22 + 1) 0) s22 sl ∧ (Own sl ⟨b22 + 1, 0⟩ 5 1 v26 (x6.map bD)) ∧ rev_Make_l1 a0 kj4 j x6 x7 = some r) (fun (xL : St × (List UInt8) × Value × Int × Nat) => match xL with | (sl, x6, v26, x7, j) => j) (s22, ([ofI8 a1] : List UInt8), v22, 7, FU) ⟨rfl, rfl, rfl, rfl, trivial⟩ ⟨lr, lr, trivial⟩ ⟨rfl, (Step.refl _).of0 li, h22, h⟩ ?_)))))
  rintro ⟨s27, x6, v26, x7, j⟩ wL ⟨rfl, hE25, h26, h⟩
  cases j with
  | zero => rw [rev_Make_l1] at h; exact (noneNe h).elim
  | succ j =>
  rw [rev_Make_l1] at h
  have := hE25.size
  have hS := hS.c0 hE25
  have hE23 := hE23.c0 hE25
  replace h1 := h1.up2 hE25
  refine jAg (jAg (jAa (jAc rfl rfl (k_geq rfl rfl rfl (jAi (jAh [(3, _), (6, _), (7, _), (8, _), (10, _), (11, _), (48, _)] ⟨rfl, rfl, rfl, rfl, rfl, rfl, rfl, trivial⟩ (jAl rfl (fun c28 => ?_) (fun c28 => ?_))))))))
  ·
   have h := itT h c28
   refine jAv (jAg (jAw (jAa (jAc rfl rfl (jAf fld25_0 rfl rfl (jAj one22 rfl h1 rfl rfl (jAc rfl rfl (jDi rfl rfl rfl ?_))))))))
   by_cases c29 : 0 ≤ i64 (8 * x7)
   case neg => exact (noneNe (itF h c29)).elim
   replace h := itT h c29
   refine k_shr (p := (a0.Gen.toNat : Int)) rfl rfl c29 rfl (k_as (congrArg (Value.int .u64) (shr64_eq _ _)) (jBz (p := ((shr64 a0.Gen (i64 (8 * x7))).toNat : Int)) Tryz.underlying22 Tryz.underlying5 rfl rfl (k_as (congrArg (Value.int .u8) (w8 _)) (k_bslice2 (ds := ([ofI8 ((shr64 a0.Gen (i64 (8 * x7))).toNat : Int)] : List UInt8).map bD) slc43 rfl (RVs.cons (R.val rfl) RVs.nil) (by rfl) (by rfl) rfl rfl ?_))))
   intro s30 v30 b30 st30 ge30 bl30 h30
   have := st30.size
   have hS := hS.trans0 st30
   have hE23 := hE23.trans0 st30
   have hE25 := hE25.trans0 st30
   replace h26 := h26.up2 st30
   have lt30 := Own.le1 h30
   obtain ⟨x8, hx8, h⟩ := ob h
   refine k_append (es := ([ofI8 ((shr64 a0.Gen (i64 (8 * x7))).toNat : Int)] : List UInt8).map bD) elem43 rfl rfl h26 (h30.sl) (by have := (jAm hx8).1; simp only [List.length_map] at *; omega) (by have := (jAm hx8).1; simp only [List.length_map] at *; omega) rfl ?_
   intro s31 v31 st31 h31
   rw [← List.map_append, ← (jAm hx8).2] at h31
   have := st31.size
   have hS := hS.c0 st31
   have hE23 := hE23.c0 st31
   have hE25 := hE25.c0 st31
   exact jAd rfl rfl (jAi (jCe (jAa (jAc rfl rfl (jDa rfl rfl rfl (jAd rfl rfl (jAi (jAu ⟨(s31, x8, v31, i64 (x7 - 1), j), ⟨lr, lr, trivial⟩, ⟨rfl, rfl, rfl, rfl, trivial⟩, ⟨rfl, hE25, h31, h⟩, (by simp)⟩))))))))
  have h := itF h c28
  exact jBq rfl (jAu ⟨(s27, x6, v26), ⟨lr, trivial⟩, ⟨rfl, rfl, rfl, rfl, trivial⟩, ⟨rfl, hE23, h26, h⟩⟩)
 rintro ⟨s32, x5, v24⟩ wL ⟨rfl, hE23, h24, h⟩
 rw [hK23] at h
 have := hE23.size
 have hS := hS.c0 hE23
 replace h1 := h1.up2 hE23
 replace h3 := h3.up2 hE23
 refine jAg ?_
 obtain ⟨x9, hx9, h⟩ := ob h
 refine jBl (KU (KN s32.n) (KU (KC (b22 + 1) 0) (KC (b1 + 1) 0))) 10 (.read 0 (.read 3 (.read 4 (.read 6 (.alt 1 (.read 2 (.alt 5 (.alt 7 (.alt 8 (.alt 9 .fin .no) .no) .no) (.alt 7 (.alt 5 (.alt 8 (.alt 9 .fin .no) .no) .no) .no))) (.alt 5 (.alt 1 (.read 2 (.alt 7 (.alt 8 (.alt 9 .fin .no) .no) .no)) (.alt 7 (.alt 1 (.read 2 (.alt 8 (.alt 9 .fin .no) .no)) (.alt 8 (.alt 1 (.read 2 (.alt 9 .fin .no)) (.alt 9 (.alt 1 (.read 2 .fin) .no) .no)) .no)) .no)) (.alt 7 (.alt 1 (.read 2 (.alt 5 (.alt 8 (.alt 9 .fin .no) .no) .no)) (.alt 5 (.alt 1 (.read 2 (.alt 8 (.alt 9 .fin .no) .no)) (.alt 8 (.alt 1 (.read 2 (.alt 9 .fin .no)) (.alt 9 (.alt 1 (.read 2 .fin) .no) .no)) .no)) .no)) .no))))))) mixed lw rfl rfl rfl ?_
 intro s33 st33
 have := st33.size
 have hS := hS.trans0 st33
 replace h1 := h1.up2 st33
 replace h3 := h3.up2 st33
 replace h24 := h24.up2 st33
 refine jAb (pZ b1) rfl rfl (fun s34 st34 => ?_) ?_
 ·exact jAf fld25_0 rfl rfl (jAe)
 refine jAb (v24) rfl rfl (fun s35 st35 => ?_) ?_
 ·exact jAc rfl rfl (jAe)
 refine jAb (.pointer (some ⟨b1, 1, none⟩)) rfl rfl (fun s36 st36 => ?_) ?_
 ·exact jAf fld25_1 rfl rfl (jAe)
 refine jAb (S x1.1) rfl rfl (fun s37 st37 => ?_) ?_
 ·exact jAc rfl rfl (jAe)
 refine jCl rfl rfl ?_ ?_
 ·
  have hA38 := Step.r0 (KU (KN s32.n) (KU (KC (b22 + 1) 0) (KC (b1 + 1) 0))) s33
  refine jAj one22 rfl h1 rfl rfl (jAt hA38 (jAb (cW (ofI64 ((a0.Gen.toNat : Int) + 1))) rfl rfl (fun s39 st39 => ?_) ?_))
  ·exact jBo rfl rfl rfl (k_as (congrArg (Value.int .u64) (w64 _)) (jAe))
  refine jCl rfl rfl ?_ ?_
  ·
   have hA40 := Step.r0 (KU (KN s32.n) (KU (KC (b22 + 1) 0) (KC (b1 + 1) 0))) s33
   refine jBt (g := bD) (i := 0) (j := 16) (pre := [cW a0.Gen]) (post := []) (xs := (y16 a0.Sum)) cB (fun _ => rfl) (fun _ => rfl) arr23 rfl h1 rfl rfl CutAt.none CutAt.none (by decide) (by decide) (by decide) rfl ?_
   intro h41
   replace h41 : SL s33 ⟨b1 + 1, 0⟩ (.slice (some ⟨b1, 1 + 0, none⟩) (16 - 0) (16 - 0)) 1 ((y16 a0.Sum).map bD) := h41
   refine jAt hA40 (jBa rfl rfl ?_)
   have hA42 := Step.r0 (KU (KN s32.n) (KU (KC (b22 + 1) 0) (KC (b1 + 1) 0))) s33
   refine k_stb Tryz.underlying9 Tryz.underlying43 Tryz.underlying5 rfl rfl ?_
   intro s43 v43 st43 h43
   have := st43.size
   have hS := hS.trans0 st43
   have hA42 := hA42.trans0 st43
   replace h1 := h1.up2 st43
   replace h3 := h3.up2 st43
   replace h24 := h24.up2 st43
   refine jAt hA42 (jBa rfl rfl ?_)
   have hA44 := Step.r0 (KU (KN s32.n) (KU (KC (b22 + 1) 0) (KC (b1 + 1) 0))) s43
   obtain ⟨s45, e45, st45, h45⟩ := h24.freeze
   rw [← e45]
   have := st45.size
   have hS := hS.c0 st45
   have hA44 := hA44.c0 st45
   replace h43 := h43.up2 st45
   replace h1 := h1.up2 st45
   replace h3 := h3.up2 st45
   obtain ⟨s46, e46, st46, h46⟩ := h1.freeze lz
   rw [← e46]
   have := st46.size
   have hS := hS.c0 st46
   have hA44 := hA44.c0 st46
   replace h45 := h45.up2 st46
   replace h43 := h43.up2 st46
   replace h3 := h3.up2 st46
   have h47 : R s46 (.slice (some ⟨b1, 1 + 0, none⟩) (16 - 0) (16 - 0)) (.sl 1 ((y16 a0.Sum).map bD)) := R.of_SL (Blk.cutSL (g := bD) (i := 0) (j := 16) (pre := [cW a0.Gen]) (post := []) (xs := (y16 a0.Sum)) cB (fun _ => rfl) (fun _ => rfl) h46 rfl rfl (by decide) (by decide))
   refine k_bslice2 (ds := ([x5, (y16 a0.Sum), x1.1] : List (List UInt8)).map (dL 1 bD)) slc62 rfl (RVs.cons h45 (RVs.cons h47 (RVs.cons h43 RVs.nil))) (by rfl) (by rfl) rfl rfl ?_
   intro s48 v48 b48 st48 ge48 bl48 h48
   have := st48.size
   have hS := hS.trans0 st48
   have hA44 := hA44.trans0 st48
   replace h3 := h3.up2 st48
   have lt48 := Own.le1 h48
   refine jAt hA44 (jBa rfl rfl ?_)
   have hA49 := Step.r0 (KU (KN s32.n) (KU (KC (b22 + 1) 0) (KC (b1 + 1) 0))) s48
   refine jAp cal16 rfl (digest_Short_w  (h48.sl) hx9) rfl ?_
   rintro s50 vr50 st50 ⟨cs50_0, rfl, h50_0⟩
   have := st50.size
   have hS := hS.trans0 st50
   have hA49 := hA49.trans0 st50
   replace h3 := h3.up2 st50
   obtain rfl := opnSt23 h50_0
   refine jAt hA49 (jBg (jCa plc25 zero25 rfl (Parts.cons (CellsOf.lit rfl rfl).1 (Parts.cons (CellsOf.lit rfl rfl).1 Parts.nil)) (by rfl) rfl (k_as (v := .agg (a17 (ofI64 ((a0.Gen.toNat : Int) + 1)) x9).toArray) rfl (jAo (cs' := (a17 (ofI64 ((a0.Gen.toNat : Int) + 1)) x9)) size25 rfl rfl h3 lz (CellsOf.lit rfl rfl) rfl lq rfl ?_))))
   intro s51 st51 h3
   have := st51.size
   have hS := hS.c0 st51
   refine jAd rfl rfl (jAi (jAh [(6, _), (7, _)] ⟨rfl, rfl, trivial⟩ (jAx ?_)))
   obtain rfl := Option.some.inj h
   refine ⟨[.agg (a17 (ofI64 ((a0.Gen.toNat : Int) + 1)) x9).toArray, .int .i64 0], ⟨res_blk (cs := (a17 (ofI64 ((a0.Gen.toNat : Int) + 1)) x9)) rfl agg25 h3, rfl, trivial⟩, Ret.mk hS ?_⟩
   exact ⟨_, rfl, (clsApiRev (⟨ofI64 ((a0.Gen.toNat : Int) + 1), x9⟩ : ApiRev))⟩
  refine jBa rfl rfl ?_
  have hA52 := Step.r0 (KU (KN s32.n) (KU (KC (b22 + 1) 0) (KC (b1 + 1) 0))) s33
  refine k_stb Tryz.underlying9 Tryz.underlying43 Tryz.underlying5 rfl rfl ?_
  intro s53 v53 st53 h53
  have := st53.size
  have hS := hS.trans0 st53
  have hA52 := hA52.trans0 st53
  replace h1 := h1.up2 st53
  replace h3 := h3.up2 st53
  replace h24 := h24.up2 st53
  refine jAt hA52 (jBa rfl rfl ?_)
  have hA54 := Step.r0 (KU (KN s32.n) (KU (KC (b22 + 1) 0) (KC (b1 + 1) 0))) s53
  refine jBt (g := bD) (i := 0) (j := 16) (pre := [cW a0.Gen]) (post := []) (xs := (y16 a0.Sum)) cB (fun _ => rfl) (fun _ => rfl) arr23 rfl h1 rfl rfl CutAt.none CutAt.none (by decide) (by decide) (by decide) rfl ?_
  intro h55
  replace h55 : SL s53 ⟨b1 + 1, 0⟩ (.slice (some ⟨b1, 1 + 0, none⟩) (16 - 0) (16 - 0)) 1 ((y16 a0.Sum).map bD) := h55
  refine jAt hA54 (jBa rfl rfl ?_)
  have hA56 := Step.r0 (KU (KN s32.n) (KU (KC (b22 + 1) 0) (KC (b1 + 1) 0))) s53
  obtain ⟨s57, e57, st57, h57⟩ := h24.freeze
  rw [← e57]
  have := st57.size
  have hS := hS.c0 st57
  have hA56 := hA56.c0 st57
  replace h53 := h53.up2 st57
  replace h1 := h1.up2 st57
  replace h3 := h3.up2 st57
  obtain ⟨s58, e58, st58, h58⟩ := h1.freeze lz
  rw [← e58]
  have := st58.size
  have hS := hS.c0 st58
  have hA56 := hA56.c0 st58
  replace h57 := h57.up2 st58
  replace h53 := h53.up2 st58
  replace h3 := h3.up2 st58
  have h59 : R s58 (.slice (some ⟨b1, 1 + 0, none⟩) (16 - 0) (16 - 0)) (.sl 1 ((y16 a0.Sum).map bD)) := R.of_SL (Blk.cutSL (g := bD) (i := 0) (j := 16) (pre := [cW a0.Gen]) (post := []) (xs := (y16 a0.Sum)) cB (fun _ => rfl) (fun _ => rfl) h58 rfl rfl (by decide) (by decide))
  refine k_bslice2 (ds := ([x5, (y16 a0.Sum), x1.1] : List (List UInt8)).map (dL 1 bD)) slc62 rfl (RVs.cons h57 (RVs.cons h59 (RVs.cons h53 RVs.nil))) (by rfl) (by rfl) rfl rfl ?_
  intro s60 v60 b60 st60 ge60 bl60 h60
  have := st60.size
  have hS := hS.trans0 st60
  have hA56 := hA56.trans0 st60
  replace h3 := h3.up2 st60
  have lt60 := Own.le1 h60
  refine jAt hA56 (jBa rfl rfl ?_)
  have hA61 := Step.r0 (KU (KN s32.n) (KU (KC (b22 + 1) 0) (KC (b1 + 1) 0))) s60
  refine jAp cal16 rfl (digest_Short_w  (h60.sl) hx9) rfl ?_
  rintro s62 vr62 st62 ⟨cs62_0, rfl, h62_0⟩
  have := st62.size
  have hS := hS.trans0 st62
  have hA61 := hA61.trans0 st62
  replace h3 := h3.up2 st62
  obtain rfl := opnSt23 h62_0
  refine jAt hA61 (jBg (jCa plc25 zero25 rfl (Parts.cons (CellsOf.lit rfl rfl).1 (Parts.cons (CellsOf.lit rfl rfl).1 Parts.nil)) (by rfl) rfl (k_as (v := .agg (a17 (ofI64 ((a0.Gen.toNat : Int) + 1)) x9).toArray) rfl (jAo (cs' := (a17 (ofI64 ((a0.Gen.toNat : Int) + 1)) x9)) size25 rfl rfl h3 lz (CellsOf.lit rfl rfl) rfl lq rfl ?_))))
  intro s63 st63 h3
  have := st63.size
  have hS := hS.c0 st63
  refine jAd rfl rfl (jAi (jAh [(6, _), (7, _)] ⟨rfl, rfl, trivial⟩ (jAx ?_)))
  obtain rfl := Option.some.inj h
  refine ⟨[.agg (a17 (ofI64 ((a0.Gen.toNat : Int) + 1)) x9).toArray, .int .i64 0], ⟨res_blk (cs := (a17 (ofI64 ((a0.Gen.toNat : Int) + 1)) x9)) rfl agg25 h3, rfl, trivial⟩, Ret.mk hS ?_⟩
  exact ⟨_, rfl, (clsApiRev (⟨ofI64 ((a0.Gen.toNat : Int) + 1), x9⟩ : ApiRev))⟩
 refine jCl rfl rfl ?_ ?_
 ·
  have hA64 := Step.r0 (KU (KN s32.n) (KU (KC (b22 + 1) 0) (KC (b1 + 1) 0))) s33
  refine jBt (g := bD) (i := 0) (j := 16) (pre := [cW a0.Gen]) (post := []) (xs := (y16 a0.Sum)) cB (fun _ => rfl) (fun _ => rfl) arr23 rfl h1 rfl rfl CutAt.none CutAt.none (by decide) (by decide) (by decide) rfl ?_
  intro h65
  replace h65 : SL s33 ⟨b1 + 1, 0⟩ (.slice (some ⟨b1, 1 + 0, none⟩) (16 - 0) (16 - 0)) 1 ((y16 a0.Sum).map bD) := h65
  refine jAt hA64 (jCl rfl rfl ?_ ?_)
  ·
   have hA66 := Step.r0 (KU (KN s32.n) (KU (KC (b22 + 1) 0) (KC (b1 + 1) 0))) s33
   refine jAj one22 rfl h1 rfl rfl (jAt hA66 (jAb (cW (ofI64 ((a0.Gen.toNat : Int) + 1))) rfl rfl (fun s67 st67 => ?_) ?_))
   ·exact jBo rfl rfl rfl (k_as (congrArg (Value.int .u64) (w64 _)) (jAe))
   refine jBa rfl rfl ?_
   have hA68 := Step.r0 (KU (KN s32.n) (KU (KC (b22 + 1) 0) (KC (b1 + 1) 0))) s33
   refine k_stb Tryz.underlying9 Tryz.underlying43 Tryz.underlying5 rfl rfl ?_
   intro s69 v69 st69 h69
   have := st69.size
   have hS := hS.trans0 st69
   have hA68 := hA68.trans0 st69
   replace h1 := h1.up2 st69
   replace h3 := h3.up2 st69
   replace h24 := h24.up2 st69
   refine jAt hA68 (jBa rfl rfl ?_)
   have hA70 := Step.r0 (KU (KN s32.n) (KU (KC (b22 + 1) 0) (KC (b1 + 1) 0))) s69
   obtain ⟨s71, e71, st71, h71⟩ := h24.freeze
   rw [← e71]
   have := st71.size
   have hS := hS.c0 st71
   have hA70 := hA70.c0 st71
   replace h69 := h69.up2 st71
   replace h1 := h1.up2 st71
   replace h3 := h3.up2 st71
   obtain ⟨s72, e72, st72, h72⟩ := h1.freeze lz
   rw [← e72]
   have := st72.size
   have hS := hS.c0 st72
   have hA70 := hA70.c0 st72
   replace h71 := h71.up2 st72
   replace h69 := h69.up2 st72
   replace h3 := h3.up2 st72
   have h73 : R s72 (.slice (some ⟨b1, 1 + 0, none⟩) (16 - 0) (16 - 0)) (.sl 1 ((y16 a0.Sum).map bD)) := R.of_SL (Blk.cutSL (g := bD) (i := 0) (j := 16) (pre := [cW a0.Gen]) (post := []) (xs := (y16 a0.Sum)) cB (fun _ => rfl) (fun _ => rfl) h72 rfl rfl (by decide) (by decide))
   refine k_bslice2 (ds := ([x5, (y16 a0.Sum), x1.1] : List (List UInt8)).map (dL 1 bD)) slc62 rfl (RVs.cons h71 (RVs.cons h73 (RVs.cons h69 RVs.nil))) (by rfl) (by rfl) rfl rfl ?_
   intro s74 v74 b74 st74 ge74 bl74 h74
   have := st74.size
   have hS := hS.trans0 st74
   have hA70 := hA70.trans0 st74
   replace h3 := h3.up2 st74
   have lt74 := Own.le1 h74
   refine jAt hA70 (jBa rfl rfl ?_)
   have hA75 := Step.r0 (KU (KN s32.n) (KU (KC (b22 + 1) 0) (KC (b1 + 1) 0))) s74
   refine jAp cal16 rfl (digest_Short_w  (h74.sl) hx9) rfl ?_
   rintro s76 vr76 st76 ⟨cs76_0, rfl, h76_0⟩
   have := st76.size
   have hS := hS.trans0 st76
   have hA75 := hA75.trans0 st76
   replace h3 := h3.up2 st76
   obtain rfl := opnSt23 h76_0
   refine jAt hA75 (jBg (jCa plc25 zero25 rfl (Parts.cons (CellsOf.lit rfl rfl).1 (Parts.cons (CellsOf.lit rfl rfl).1 Parts.nil)) (by rfl) rfl (k_as (v := .agg (a17 (ofI64 ((a0.Gen.toNat : Int) + 1)) x9).toArray) rfl (jAo (cs' := (a17 (ofI64 ((a0.Gen.toNat : Int) + 1)) x9)) size25 rfl rfl h3 lz (CellsOf.lit rfl rfl) rfl lq rfl ?_))))
   intro s77 st77 h3
   have := st77.size
   have hS := hS.c0 st77
   refine jAd rfl rfl (jAi (jAh [(6, _), (7, _)] ⟨rfl, rfl, trivial⟩ (jAx ?_)))
   obtain rfl := Option.some.inj h
   refine ⟨[.agg (a17 (ofI64 ((a0.Gen.toNat : Int) + 1)) x9).toArray, .int .i64 0], ⟨res_blk (cs := (a17 (ofI64 ((a0.Gen.toNat : Int) + 1)) x9)) rfl agg25 h3, rfl, trivial⟩, Ret.mk hS ?_⟩
   exact ⟨_, rfl, (clsApiRev (⟨ofI64 ((a0.Gen.toNat : Int) + 1), x9⟩ : ApiRev))⟩
  refine jBa rfl rfl ?_
  have hA78 := Step.r0 (KU (KN s32.n) (KU (KC (b22 + 1) 0) (KC (b1 + 1) 0))) s33
  refine k_stb Tryz.underlying9 Tryz.underlying43 Tryz.underlying5 rfl rfl ?_
  intro s79 v79 st79 h79
  have := st79.size
  have hS := hS.trans0 st79
  have hA78 := hA78.trans0 st79
  replace h1 := h1.up2 st79
  replace h3 := h3.up2 st79
  replace h24 := h24.up2 st79
  refine jAt hA78 (jCl rfl rfl ?_ ?_)
  ·
   have hA80 := Step.r0 (KU (KN s32.n) (KU (KC (b22 + 1) 0) (KC (b1 + 1) 0))) s79
   refine jAj one22 rfl h1 rfl rfl (jAt hA80 (jAb (cW (ofI64 ((a0.Gen.toNat : Int) + 1))) rfl rfl (fun s81 st81 => ?_) ?_))
   ·exact jBo rfl rfl rfl (k_as (congrArg (Value.int .u64) (w64 _)) (jAe))
   refine jBa rfl rfl ?_
   have hA82 := Step.r0 (KU (KN s32.n) (KU (KC (b22 + 1) 0) (KC (b1 + 1) 0))) s79
   obtain ⟨s83, e83, st83, h83⟩ := h24.freeze
   rw [← e83]
   have := st83.size
   have hS := hS.c0 st83
   have hA82 := hA82.c0 st83
   replace h79 := h79.up2 st83
   replace h1 := h1.up2 st83
   replace h3 := h3.up2 st83
   obtain ⟨s84, e84, st84, h84⟩ := h1.freeze lz
   rw [← e84]
   have := st84.size
   have hS := hS.c0 st84
   have hA82 := hA82.c0 st84
   replace h83 := h83.up2 st84
   replace h79 := h79.up2 st84
   replace h3 := h3.up2 st84
   have h85 : R s84 (.slice (some ⟨b1, 1 + 0, none⟩) (16 - 0) (16 - 0)) (.sl 1 ((y16 a0.Sum).map bD)) := R.of_SL (Blk.cutSL (g := bD) (i := 0) (j := 16) (pre := [cW a0.Gen]) (post := []) (xs := (y16 a0.Sum)) cB (fun _ => rfl) (fun _ => rfl) h84 rfl rfl (by decide) (by decide))
   refine k_bslice2 (ds := ([x5, (y16 a0.Sum), x1.1] : List (List UInt8)).map (dL 1 bD)) slc62 rfl (RVs.cons h83 (RVs.cons h85 (RVs.cons h79 RVs.nil))) (by rfl) (by rfl) rfl rfl ?_
   intro s86 v86 b86 st86 ge86 bl86 h86
   have := st86.size
   have hS := hS.trans0 st86
   have hA82 := hA82.trans0 st86
   replace h3 := h3.up2 st86
   have lt86 := Own.le1 h86
   refine jAt hA82 (jBa rfl rfl ?_)
   have hA87 := Step.r0 (KU (KN s32.n) (KU (KC (b22 + 1) 0) (KC (b1 + 1) 0))) s86
   refine jAp cal16 rfl (digest_Short_w  (h86.sl) hx9) rfl ?_
   rintro s88 vr88 st88 ⟨cs88_0, rfl, h88_0⟩
   have := st88.size
   have hS := hS.trans0 st88
   have hA87 := hA87.trans0 st88
   replace h3 := h3.up2 st88
   obtain rfl := opnSt23 h88_0
   refine jAt hA87 (jBg (jCa plc25 zero25 rfl (Parts.cons (CellsOf.lit rfl rfl).1 (Parts.cons (CellsOf.lit rfl rfl).1 Parts.nil)) (by rfl) rfl (k_as (v := .agg (a17 (ofI64 ((a0.Gen.toNat : Int) + 1)) x9).toArray) rfl (jAo (cs' := (a17 (ofI64 ((a0.Gen.toNat : Int) + 1)) x9)) size25 rfl rfl h3 lz (CellsOf.lit rfl rfl) rfl lq rfl ?_))))
   intro s89 st89 h3
   have := st89.size
   have hS := hS.c0 st89
   refine jAd rfl rfl (jAi (jAh [(6, _), (7, _)] ⟨rfl, rfl, trivial⟩ (jAx ?_)))
   obtain rfl := Option.some.inj h
   refine ⟨[.agg (a17 (ofI64 ((a0.Gen.toNat : Int) + 1)) x9).toArray, .int .i64 0], ⟨res_blk (cs := (a17 (ofI64 ((a0.Gen.toNat : Int) + 1)) x9)) rfl agg25 h3, rfl, trivial⟩, Ret.mk hS ?_⟩
   exact ⟨_, rfl, (clsApiRev (⟨ofI64 ((a0.Gen.toNat : Int) + 1), x9⟩ : ApiRev))⟩
  refine jBa rfl rfl ?_
  have hA90 := Step.r0 (KU (KN s32.n) (KU (KC (b22 + 1) 0) (KC (b1 + 1) 0))) s79
  obtain ⟨s91, e91, st91, h91⟩ := h24.freeze
  rw [← e91]
  have := st91.size
  have hS := hS.c0 st91
  have hA90 := hA90.c0 st91
  replace h79 := h79.up2 st91
  replace h1 := h1.up2 st91
  replace h3 := h3.up2 st91
  obtain ⟨s92, e92, st92, h92⟩ := h1.freeze lz
  rw [← e92]
  have := st92.size
  have hS := hS.c0 st92
  have hA90 := hA90.c0 st92
  replace h91 := h91.up2 st92
  replace h79 := h79.up2 st92
  replace h3 := h3.up2 st92
  have h93 : R s92 (.slice (some ⟨b1, 1 + 0, none⟩) (16 - 0) (16 - 0)) (.sl 1 ((y16 a0.Sum).map bD)) := R.of_SL (Blk.cutSL (g := bD) (i := 0) (j := 16) (pre := [cW a0.Gen]) (post := []) (xs := (y16 a0.Sum)) cB (fun _ => rfl) (fun _ => rfl) h92 rfl rfl (by decide) (by decide))
  refine k_bslice2 (ds := ([x5, (y16 a0.Sum), x1.1] : List (List UInt8)).map (dL 1 bD)) slc62 rfl (RVs.cons h91 (RVs.cons h93 (RVs.cons h79 RVs.nil))) (by rfl) (by rfl) rfl rfl ?_
  intro s94 v94 b94 st94 ge94 bl94 h94
  have := st94.size
  have hS := hS.trans0 st94
  have hA90 := hA90.trans0 st94
  replace h92 := h92.up2 st94
  replace h3 := h3.up2 st94
  have lt94 := Own.le1 h94
  refine jAt hA90 (jCl rfl rfl ?_ ?_)
  ·
   have hA95 := Step.r0 (KU (KN s32.n) (KU (KC (b22 + 1) 0) (KC (b1 + 1) 0))) s94
   refine jAj one22 rfl h92 rfl rfl (jAt hA95 (jAb (cW (ofI64 ((a0.Gen.toNat : Int) + 1))) rfl rfl (fun s96 st96 => ?_) ?_))
   ·exact jBo rfl rfl rfl (k_as (congrArg (Value.int .u64) (w64 _)) (jAe))
   refine jBa rfl rfl ?_
   have hA97 := Step.r0 (KU (KN s32.n) (KU (KC (b22 + 1) 0) (KC (b1 + 1) 0))) s94
   refine jAp cal16 rfl (digest_Short_w  (h94.sl) hx9) rfl ?_
   rintro s98 vr98 st98 ⟨cs98_0, rfl, h98_0⟩
   have := st98.size
   have hS := hS.trans0 st98
   have hA97 := hA97.trans0 st98
   replace h3 := h3.up2 st98
   obtain rfl := opnSt23 h98_0
   refine jAt hA97 (jBg (jCa plc25 zero25 rfl (Parts.cons (CellsOf.lit rfl rfl).1 (Parts.cons (CellsOf.lit rfl rfl).1 Parts.nil)) (by rfl) rfl (k_as (v := .agg (a17 (ofI64 ((a0.Gen.toNat : Int) + 1)) x9).toArray) rfl (jAo (cs' := (a17 (ofI64 ((a0.Gen.toNat : Int) + 1)) x9)) size25 rfl rfl h3 lz (CellsOf.lit rfl rfl) rfl lq rfl ?_))))
   intro s99 st99 h3
   have := st99.size
   have hS := hS.c0 st99
   refine jAd rfl rfl (jAi (jAh [(6, _), (7, _)] ⟨rfl, rfl, trivial⟩ (jAx ?_)))
   obtain rfl := Option.some.inj h
   refine ⟨[.agg (a17 (ofI64 ((a0.Gen.toNat : Int) + 1)) x9).toArray, .int .i64 0], ⟨res_blk (cs := (a17 (ofI64 ((a0.Gen.toNat : Int) + 1)) x9)) rfl agg25 h3, rfl, trivial⟩, Ret.mk hS ?_⟩
   exact ⟨_, rfl, (clsApiRev (⟨ofI64 ((a0.Gen.toNat : Int) + 1), x9⟩ : ApiRev))⟩
  refine jBa rfl rfl ?_
  have hA100 := Step.r0 (KU (KN s32.n) (KU (KC (b22 + 1) 0) (KC (b1 + 1) 0))) s94
  refine jAp cal16 rfl (digest_Short_w  (h94.sl) hx9) rfl ?_
  rintro s101 vr101 st101 ⟨cs101_0, rfl, h101_0⟩
  have := st101.size
  have hS := hS.trans0 st101
  have hA100 := hA100.trans0 st101
  replace h92 := h92.up2 st101
  replace h3 := h3.up2 st101
  obtain rfl := opnSt23 h101_0
  refine jAt hA100 (jBa rfl rfl ?_)
  have hA102 := Step.r0 (KU (KN s32.n) (KU (KC (b22 + 1) 0) (KC (b1 + 1) 0))) s101
  refine jAj one22 rfl h92 rfl rfl (jAt hA102 (jAb (cW (ofI64 ((a0.Gen.toNat : Int) + 1))) rfl rfl (fun s103 st103 => ?_) ?_))
  ·exact jBo rfl rfl rfl (k_as (congrArg (Value.int .u64) (w64 _)) (jAe))
  refine jBg (jCa plc25 zero25 rfl (Parts.cons (CellsOf.lit rfl rfl).1 (Parts.cons (CellsOf.lit rfl rfl).1 Parts.nil)) (by rfl) rfl (k_as (v := .agg (a17 (ofI64 ((a0.Gen.toNat : Int) + 1)) x9).toArray) rfl (jAo (cs' := (a17 (ofI64 ((a0.Gen.toNat : Int) + 1)) x9)) size25 rfl rfl h3 lz (CellsOf.lit rfl rfl) rfl lq rfl ?_)))
  intro s104 st104 h3
  have := st104.size
  have hS := hS.c0 st104
  refine jAd rfl rfl (jAi (jAh [(6, _), (7, _)] ⟨rfl, rfl, trivial⟩ (jAx ?_)))
  obtain rfl := Option.some.inj h
  refine ⟨[.agg (a17 (ofI64 ((a0.Gen.toNat : Int) + 1)) x9).toArray, .int .i64 0], ⟨res_blk (cs := (a17 (ofI64 ((a0.Gen.toNat : Int) + 1)) x9)) rfl agg25 h3, rfl, trivial⟩, Ret.mk hS ?_⟩
  exact ⟨_, rfl, (clsApiRev (⟨ofI64 ((a0.Gen.toNat : Int) + 1), x9⟩ : ApiRev))⟩
 refine jBa rfl rfl ?_
 have hA105 := Step.r0 (KU (KN s32.n) (KU (KC (b22 + 1) 0) (KC (b1 + 1) 0))) s33
 refine k_stb Tryz.underlying9 Tryz.underlying43 Tryz.underlying5 rfl rfl ?_
 intro s106 v106 st106 h106
 have := st106.size
 have hS := hS.trans0 st106
 have hA105 := hA105.trans0 st106
 replace h1 := h1.up2 st106
 replace h3 := h3.up2 st106
 replace h24 := h24.up2 st106
 refine jAt hA105 (jCl rfl rfl ?_ ?_)
 ·
  have hA107 := Step.r0 (KU (KN s32.n) (KU (KC (b22 + 1) 0) (KC (b1 + 1) 0))) s106
  refine jAj one22 rfl h1 rfl rfl (jAt hA107 (jAb (cW (ofI64 ((a0.Gen.toNat : Int) + 1))) rfl rfl (fun s108 st108 => ?_) ?_))
  ·exact jBo rfl rfl rfl (k_as (congrArg (Value.int .u64) (w64 _)) (jAe))
  refine jBa rfl rfl ?_
  have hA109 := Step.r0 (KU (KN s32.n) (KU (KC (b22 + 1) 0) (KC (b1 + 1) 0))) s106
  refine jBt (g := bD) (i := 0) (j := 16) (pre := [cW a0.Gen]) (post := []) (xs := (y16 a0.Sum)) cB (fun _ => rfl) (fun _ => rfl) arr23 rfl h1 rfl rfl CutAt.none CutAt.none (by decide) (by decide) (by decide) rfl ?_
  intro h110
  replace h110 : SL s106 ⟨b1 + 1, 0⟩ (.slice (some ⟨b1, 1 + 0, none⟩) (16 - 0) (16 - 0)) 1 ((y16 a0.Sum).map bD) := h110
  refine jAt hA109 (jBa rfl rfl ?_)
  have hA111 := Step.r0 (KU (KN s32.n) (KU (KC (b22 + 1) 0) (KC (b1 + 1) 0))) s106
  obtain ⟨s112, e112, st112, h112⟩ := h24.freeze
  rw [← e112]
  have := st112.size
  have hS := hS.c0 st112
  have hA111 := hA111.c0 st112
  replace h106 := h106.up2 st112
  replace h1 := h1.up2 st112
  replace h3 := h3.up2 st112
  obtain ⟨s113, e113, st113, h113⟩ := h1.freeze lz
  rw [← e113]
  have := st113.size
  have hS := hS.c0 st113
  have hA111 := hA111.c0 st113
  replace h112 := h112.up2 st113
  replace h106 := h106.up2 st113
  replace h3 := h3.up2 st113
  have h114 : R s113 (.slice (some ⟨b1, 1 + 0, none⟩) (16 - 0) (16 - 0)) (.sl 1 ((y16 a0.Sum).map bD)) := R.of_SL (Blk.cutSL (g := bD) (i := 0) (j := 16) (pre := [cW a0.Gen]) (post := []) (xs := (y16 a0.Sum)) cB (fun _ => rfl) (fun _ => rfl) h113 rfl rfl (by decide) (by decide))
  refine k_bslice2 (ds := ([x5, (y16 a0.Sum), x1.1] : List (List UInt8)).map (dL 1 bD)) slc62 rfl (RVs.cons h112 (RVs.cons h114 (RVs.cons h106 RVs.nil))) (by rfl) (by rfl) rfl rfl ?_
  intro s115 v115 b115 st115 ge115 bl115 h115
  have := st115.size
  have hS := hS.trans0 st115
  have hA111 := hA111.trans0 st115
  replace h3 := h3.up2 st115
  have lt115 := Own.le1 h115
  refine jAt hA111 (jBa rfl rfl ?_)
  have hA116 := Step.r0 (KU (KN s32.n) (KU (KC (b22 + 1) 0) (KC (b1 + 1) 0))) s115
  refine jAp cal16 rfl (digest_Short_w  (h115.sl) hx9) rfl ?_
  rintro s117 vr117 st117 ⟨cs117_0, rfl, h117_0⟩
  have := st117.size
  have hS := hS.trans0 st117
  have hA116 := hA116.trans0 st117
  replace h3 := h3.up2 st117
  obtain rfl := opnSt23 h117_0
  refine jAt hA116 (jBg (jCa plc25 zero25 rfl (Parts.cons (CellsOf.lit rfl rfl).1 (Parts.cons (CellsOf.lit rfl rfl).1 Parts.nil)) (by rfl) rfl (k_as (v := .agg (a17 (ofI64 ((a0.Gen.toNat : Int) + 1)) x9).toArray) rfl (jAo (cs' := (a17 (ofI64 ((a0.Gen.toNat : Int) + 1)) x9)) size25 rfl rfl h3 lz (CellsOf.lit rfl rfl) rfl lq rfl ?_))))
  intro s118 st118 h3
  have := st118.size
  have hS := hS.c0 st118
  refine jAd rfl rfl (jAi (jAh [(6, _), (7, _)] ⟨rfl, rfl, trivial⟩ (jAx ?_)))
  obtain rfl := Option.some.inj h
  refine ⟨[.agg (a17 (ofI64 ((a0.Gen.toNat : Int) + 1)) x9).toArray, .int .i64 0], ⟨res_blk (cs := (a17 (ofI64 ((a0.Gen.toNat : Int) + 1)) x9)) rfl agg25 h3, rfl, trivial⟩, Ret.mk hS ?_⟩
  exact ⟨_, rfl, (clsApiRev (⟨ofI64 ((a0.Gen.toNat : Int) + 1), x9⟩ : ApiRev))⟩
 refine jBa rfl rfl ?_
 have hA119 := Step.r0 (KU (KN s32.n) (KU (KC (b22 + 1) 0) (KC (b1 + 1) 0))) s106
 refine jBt (g := bD) (i := 0) (j := 16) (pre := [cW a0.Gen]) (post := []) (xs := (y16 a0.Sum)) cB (fun _ => rfl) (fun _ => rfl) arr23 rfl h1 rfl rfl CutAt.none CutAt.none (by decide) (by decide) (by decide) rfl ?_
 intro h120
 replace h120 : SL s106 ⟨b1 + 1, 0⟩ (.slice (some ⟨b1, 1 + 0, none⟩) (16 - 0) (16 - 0)) 1 ((y16 a0.Sum).map bD) := h120
 refine jAt hA119 (jCl rfl rfl ?_ ?_)
 ·
  have hA121 := Step.r0 (KU (KN s32.n) (KU (KC (b22 + 1) 0) (KC (b1 + 1) 0))) s106
  refine jAj one22 rfl h1 rfl rfl (jAt hA121 (jAb (cW (ofI64 ((a0.Gen.toNat : Int) + 1))) rfl rfl (fun s122 st122 => ?_) ?_))
  ·exact jBo rfl rfl rfl (k_as (congrArg (Value.int .u64) (w64 _)) (jAe))
  refine jBa rfl rfl ?_
  have hA123 := Step.r0 (KU (KN s32.n) (KU (KC (b22 + 1) 0) (KC (b1 + 1) 0))) s106
  obtain ⟨s124, e124, st124, h124⟩ := h24.freeze
  rw [← e124]
  have := st124.size
  have hS := hS.c0 st124
  have hA123 := hA123.c0 st124
  replace h106 := h106.up2 st124
  replace h1 := h1.up2 st124
  replace h3 := h3.up2 st124
  obtain ⟨s125, e125, st125, h125⟩ := h1.freeze lz
  rw [← e125]
  have := st125.size
  have hS := hS.c0 st125
  have hA123 := hA123.c0 st125
  replace h124 := h124.up2 st125
  replace h106 := h106.up2 st125
  replace h3 := h3.up2 st125
  have h126 : R s125 (.slice (some ⟨b1, 1 + 0, none⟩) (16 - 0) (16 - 0)) (.sl 1 ((y16 a0.Sum).map bD)) := R.of_SL (Blk.cutSL (g := bD) (i := 0) (j := 16) (pre := [cW a0.Gen]) (post := []) (xs := (y16 a0.Sum)) cB (fun _ => rfl) (fun _ => rfl) h125 rfl rfl (by decide) (by decide))
  refine k_bslice2 (ds := ([x5, (y16 a0.Sum), x1.1] : List (List UInt8)).map (dL 1 bD)) slc62 rfl (RVs.cons h124 (RVs.cons h126 (RVs.cons h106 RVs.nil))) (by rfl) (by rfl) rfl rfl ?_
  intro s127 v127 b127 st127 ge127 bl127 h127
  have := st127.size
  have hS := hS.trans0 st127
  have hA123 := hA123.trans0 st127
  replace h3 := h3.up2 st127
  have lt127 := Own.le1 h127
  refine jAt hA123 (jBa rfl rfl ?_)
  have hA128 := Step.r0 (KU (KN s32.n) (KU (KC (b22 + 1) 0) (KC (b1 + 1) 0))) s127
  refine jAp cal16 rfl (digest_Short_w  (h127.sl) hx9) rfl ?_
  rintro s129 vr129 st129 ⟨cs129_0, rfl, h129_0⟩
  have := st129.size
  have hS := hS.trans0 st129
  have hA128 := hA128.trans0 st129
  replace h3 := h3.up2 st129
  obtain rfl := opnSt23 h129_0
  refine jAt hA128 (jBg (jCa plc25 zero25 rfl (Parts.cons (CellsOf.lit rfl rfl).1 (Parts.cons (CellsOf.lit rfl rfl).1 Parts.nil)) (by rfl) rfl (k_as (v := .agg (a17 (ofI64 ((a0.Gen.toNat : Int) + 1)) x9).toArray) rfl (jAo (cs' := (a17 (ofI64 ((a0.Gen.toNat : Int) + 1)) x9)) size25 rfl rfl h3 lz (CellsOf.lit rfl rfl) rfl lq rfl ?_))))
  intro s130 st130 h3
  have := st130.size
  have hS := hS.c0 st130
  refine jAd rfl rfl (jAi (jAh [(6, _), (7, _)] ⟨rfl, rfl, trivial⟩ (jAx ?_)))
  obtain rfl := Option.some.inj h
  refine ⟨[.agg (a17 (ofI64 ((a0.Gen.toNat : Int) + 1)) x9).toArray, .int .i64 0], ⟨res_blk (cs := (a17 (ofI64 ((a0.Gen.toNat : Int) + 1)) x9)) rfl agg25 h3, rfl, trivial⟩, Ret.mk hS ?_⟩
  exact ⟨_, rfl, (clsApiRev (⟨ofI64 ((a0.Gen.toNat : Int) + 1), x9⟩ : ApiRev))⟩
 refine jBa rfl rfl ?_
 have hA131 := Step.r0 (KU (KN s32.n) (KU (KC (b22 + 1) 0) (KC (b1 + 1) 0))) s106
 obtain ⟨s132, e132, st132, h132⟩ := h24.freeze
 rw [← e132]
 have := st132.size
 have hS := hS.c0 st132
 have hA131 := hA131.c0 st132
 replace h106 := h106.up2 st132
 replace h1 := h1.up2 st132
 replace h3 := h3.up2 st132
 obtain ⟨s133, e133, st133, h133⟩ := h1.freeze lz
 rw [← e133]
 have := st133.size
 have hS := hS.c0 st133
 have hA131 := hA131.c0 st133
 replace h132 := h132.up2 st133
 replace h106 := h106.up2 st133
 replace h3 := h3.up2 st133
 have h134 : R s133 (.slice (some ⟨b1, 1 + 0, none⟩) (16 - 0) (16 - 0)) (.sl 1 ((y16 a0.Sum).map bD)) := R.of_SL (Blk.cutSL (g := bD) (i := 0) (j := 16) (pre := [cW a0.Gen]) (post := []) (xs := (y16 a0.Sum)) cB (fun _ => rfl) (fun _ => rfl) h133 rfl rfl (by decide) (by decide))
 refine k_bslice2 (ds := ([x5, (y16 a0.Sum), x1.1] : List (List UInt8)).map (dL 1 bD)) slc62 rfl (RVs.cons h132 (RVs.cons h134 (RVs.cons h106 RVs.nil))) (by rfl) (by rfl) rfl rfl ?_
 intro s135 v135 b135 st135 ge135 bl135 h135
 have := st135.size
 have hS := hS.trans0 st135
 have hA131 := hA131.trans0 st135
 replace h133 := h133.up2 st135
 replace h3 := h3.up2 st135
 have lt135 := Own.le1 h135
 refine jAt hA131 (jCl rfl rfl ?_ ?_)
 ·
  have hA136 := Step.r0 (KU (KN s32.n) (KU (KC (b22 + 1) 0) (KC (b1 + 1) 0))) s135
  refine jAj one22 rfl h133 rfl rfl (jAt hA136 (jAb (cW (ofI64 ((a0.Gen.toNat : Int) + 1))) rfl rfl (fun s137 st137 => ?_) ?_))
  ·exact jBo rfl rfl rfl (k_as (congrArg (Value.int .u64) (w64 _)) (jAe))
  refine jBa rfl rfl ?_
  have hA138 := Step.r0 (KU (KN s32.n) (KU (KC (b22 + 1) 0) (KC (b1 + 1) 0))) s135
  refine jAp cal16 rfl (digest_Short_w  (h135.sl) hx9) rfl ?_
  rintro s139 vr139 st139 ⟨cs139_0, rfl, h139_0⟩
  have := st139.size
  have hS := hS.trans0 st139
  have hA138 := hA138.trans0 st139
  replace h3 := h3.up2 st139
  obtain rfl := opnSt23 h139_0
  refine jAt hA138 (jBg (jCa plc25 zero25 rfl (Parts.cons (CellsOf.lit rfl rfl).1 (Parts.cons (CellsOf.lit rfl rfl).1 Parts.nil)) (by rfl) rfl (k_as (v := .agg (a17 (ofI64 ((a0.Gen.toNat : Int) + 1)) x9).toArray) rfl (jAo (cs' := (a17 (ofI64 ((a0.Gen.toNat : Int) + 1)) x9)) size25 rfl rfl h3 lz (CellsOf.lit rfl rfl) rfl lq rfl ?_))))
  intro s140 st140 h3
  have := st140.size
  have hS := hS.c0 st140
  refine jAd rfl rfl (jAi (jAh [(6, _), (7, _)] ⟨rfl, rfl, trivial⟩ (jAx ?_)))
  obtain rfl := Option.some.inj h
  refine ⟨[.agg (a17 (ofI64 ((a0.Gen.toNat : Int) + 1)) x9).toArray, .int .i64 0], ⟨res_blk (cs := (a17 (ofI64 ((a0.Gen.toNat : Int) + 1)) x9)) rfl agg25 h3, rfl, trivial⟩, Ret.mk hS ?_⟩
  exact ⟨_, rfl, (clsApiRev (⟨ofI64 ((a0.Gen.toNat : Int) + 1), x9⟩ : ApiRev))⟩
 refine jBa rfl rfl ?_
 have hA141 := Step.r0 (KU (KN s32.n) (KU (KC (b22 + 1) 0) (KC (b1 + 1) 0))) s135
 refine jAp cal16 rfl (digest_Short_w  (h135.sl) hx9) rfl ?_
 rintro s142 vr142 st142 ⟨cs142_0, rfl, h142_0⟩
 have := st142.size
 have hS := hS.trans0 st142
 have hA141 := hA141.trans0 st142
 replace h133 := h133.up2 st142
 replace h3 := h3.up2 st142
 obtain rfl := opnSt23 h142_0
 refine jAt hA141 (jBa rfl rfl ?_)
 have hA143 := Step.r0 (KU (KN s32.n) (KU (KC (b22 + 1) 0) (KC (b1 + 1) 0))) s142
 refine jAj one22 rfl h133 rfl rfl (jAt hA143 (jAb (cW (ofI64 ((a0.Gen.toNat : Int) + 1))) rfl rfl (fun s144 st144 => ?_) ?_))
 ·exact jBo rfl rfl rfl (k_as (congrArg (Value.int .u64) (w64 _)) (jAe))
 refine jBg (jCa plc25 zero25 rfl (Parts.cons (CellsOf.lit rfl rfl).1 (Parts.cons (CellsOf.lit rfl rfl).1 Parts.nil)) (by rfl) rfl (k_as (v := .agg (a17 (ofI64 ((a0.Gen.toNat : Int) + 1)) x9).toArray) rfl (jAo (cs' := (a17 (ofI64 ((a0.Gen.toNat : Int) + 1)) x9)) size25 rfl rfl h3 lz (CellsOf.lit rfl rfl) rfl lq rfl ?_)))
 intro s145 st145 h3
 have := st145.size
 have hS := hS.c0 st145
 refine jAd rfl rfl (jAi (jAh [(6, _), (7, _)] ⟨rfl, rfl, trivial⟩ (jAx ?_)))
 obtain rfl := Option.some.inj h
 refine ⟨[.agg (a17 (ofI64 ((a0.Gen.toNat : Int) + 1)) x9).toArray, .int .i64 0], ⟨res_blk (cs := (a17 (ofI64 ((a0.Gen.toNat : Int) + 1)) x9)) rfl agg25 h3, rfl, trivial⟩, Ret.mk hS ?_⟩
 exact ⟨_, rfl, (clsApiRev (⟨ofI64 ((a0.Gen.toNat : Int) + 1), x9⟩ : ApiRev))⟩
theorem stringslite_Cut_w {s : St} {a0 : (List UInt8)} {a1 : (List UInt8)} {r : ((List UInt8) × (List UInt8) × Bool)}  (h : stringslite_Cut a0 a1 = some r) : Calls Tryz.prog 38 #[S a0, S a1] s.w (Ret s K0 (fun s1 v => v = .tuple #[S r.1, S r.2.1, .bool r.2.2])) := by
 unfold stringslite_Cut at h
 have hS := Step.r0 K0 s
 refine k_fn (rs := [4, 5, 6]) (args := [S a0, S a1]) Tryz.func38 rfl rfl rfl rfl (jAg (jAa (jAd rfl rfl (jAd rfl rfl (jAd rfl rfl (jAi (jAg (jAg (jAa (jAc rfl rfl (jAc rfl rfl ?_)))))))))))
 by_cases c1 : a1.length = 1
 case neg => exact (noneNe (itF h c1)).elim
 replace h := itT h c1
 refine jAp cal54 rfl (slIndex_w (a0 := a0) (a1 := a1) c1) rfl ?_
 rintro s2 _ st2 rfl
 have := st2.size
 have hS := hS.trans0 st2
 refine jAd rfl rfl (jAi (jAh [(0, _), (1, _), (4, _), (5, _), (6, _), (7, _)] ⟨rfl, rfl, rfl, rfl, rfl, rfl, trivial⟩ (jAg (jAa (jAc rfl rfl (k_geq rfl rfl rfl (jAi (jAh [(0, _), (1, _), (4, _), (5, _), (6, _), (7, _), (12, _)] ⟨rfl, rfl, rfl, rfl, rfl, rfl, rfl, trivial⟩ (jAl rfl (fun c3 => ?_) (fun c3 => ?_))))))))))
 ·
  have h := itT h c3
  refine jAg (jAh [(0, _), (1, _), (5, _), (6, _), (7, _)] ⟨rfl, rfl, rfl, rfl, rfl, trivial⟩ (jBl (KN s2.n) 10 (.read 0 (.read 1 (.read 2 (.read 3 (.read 4 (.read 5 (.read 6 (.read 7 (.read 8 (.read 9 .fin)))))))))) mixed lw rfl rfl rfl ?_))
  intro s4 st4
  have := st4.size
  have hS := hS.trans0 st4
  refine jAb (S a0) rfl rfl (fun s5 st5 => ?_) ?_
  ·exact jAc rfl rfl (jAe)
  refine jAb (.int .i64 (Lib.indexByte a0 (a1.headD 0))) rfl rfl (fun s6 st6 => ?_) ?_
  ·exact jAc rfl rfl (jAe)
  obtain ⟨x1, hx1, h⟩ := ob h
  refine jAb (S x1) rfl rfl (fun s7 st7 => ?_) ?_
  ·exact k_cut_str (i := (0 : Int).toNat) (j := (Lib.indexByte a0 (a1.headD 0) : Int).toNat) Tryz.underlying9 rfl CutAt.none (CutAt.int rfl (Int.le_trans (subl_out hx1).1 (subl_out hx1).2.1)) (subl_ij hx1) (subl_j hx1) rfl (k_as (v := S x1) (congrArg S (subl_out hx1).2.2.2.symm) (jAe))
  refine jAb (S a0) rfl rfl (fun s8 st8 => ?_) ?_
  ·exact jAc rfl rfl (jAe)
  refine jAb (.int .i64 (Lib.indexByte a0 (a1.headD 0))) rfl rfl (fun s9 st9 => ?_) ?_
  ·exact jAc rfl rfl (jAe)
  refine jAb (S a1) rfl rfl (fun s10 st10 => ?_) ?_
  ·exact jAc rfl rfl (jAe)
  refine jAb (.int .i64 (a1.length : Int)) rfl rfl (fun s11 st11 => ?_) ?_
  ·exact jCf Tryz.underlying9 rfl rfl (jAe)
  refine jAb (.int .i64 (i64 ((Lib.indexByte a0 (a1.headD 0)) + (a1.length : Int)))) rfl rfl (fun s12 st12 => ?_) ?_
  ·exact jBo rfl rfl rfl (jAe)
  obtain ⟨x2, hx2, h⟩ := ob h
  refine jAb (S x2) rfl rfl (fun s13 st13 => ?_) ?_
  ·exact k_cut_str (i := (i64 ((Lib.indexByte a0 (a1.headD 0)) + (a1.length : Int)) : Int).toNat) (j := ((a0.length : Int) : Int).toNat) Tryz.underlying9 rfl (CutAt.int rfl (subl_out hx2).1) CutAt.none (subl_ij hx2) (subl_j hx2) rfl (k_as (v := S x2) (congrArg S (subl_out hx2).2.2.2.symm) (jAe))
  refine jAb (S x1) rfl rfl (fun s14 st14 => ?_) ?_
  ·exact jAd rfl rfl (jAe)
  refine jBg (jAd rfl rfl (jAd rfl rfl (jAi (jAh [(0, _), (4, _), (5, _), (6, _)] ⟨rfl, rfl, rfl, rfl, trivial⟩ (jAx ?_)))))
  obtain rfl := Option.some.inj h
  refine ⟨_, rfl, Ret.mk hS ?_⟩
  exact rfl
 have h := itF h c3
 refine jAv (jAg (jAa (jAc rfl rfl (jAd rfl rfl (jAd rfl rfl (jAd rfl rfl (jAi (jAh [(4, _), (5, _), (6, _)] ⟨rfl, rfl, rfl, trivial⟩ (jAx ?_)))))))))
 obtain rfl := Option.some.inj h
 refine ⟨_, rfl, Ret.mk hS ?_⟩
 exact rfl
theorem strings_Cut_w {s : St} {a0 : (List UInt8)} {a1 : (List UInt8)} {r : ((List UInt8) × (List UInt8) × Bool)}  (h : strings_Cut a0 a1 = some r) : Calls Tryz.prog 23 #[S a0, S a1] s.w (Ret s K0 (fun s1 v => v = .tuple #[S r.1, S r.2.1, .bool r.2.2])) := by
 unfold strings_Cut at h
 have hS := Step.r0 K0 s
 refine k_fn (rs := [4, 5, 6]) (args := [S a0, S a1]) Tryz.func23 rfl rfl rfl rfl (jAg (jAa (jAd rfl rfl (jAd rfl rfl (jAd rfl rfl (jAi (jAg (jAa (jAc rfl rfl (jAc rfl rfl ?_))))))))))
 obtain ⟨x1, hx1, h⟩ := ob h
 refine jAp cal38 rfl (stringslite_Cut_w   hx1) rfl ?_
 rintro s1 vr1 st1 rfl
 have := st1.size
 have hS := hS.trans0 st1
 refine jBd rfl rfl rfl (jBd rfl rfl rfl (jBd rfl rfl rfl (jAd rfl rfl (jAd rfl rfl (jAd rfl rfl (jAi (jAh [(4, _), (5, _), (6, _)] ⟨rfl, rfl, rfl, trivial⟩ (jAx ?_))))))))
 obtain rfl := Option.some.inj h
 refine ⟨_, rfl, Ret.mk hS ?_⟩
 exact rfl
theorem strconv_FormatUint_w {s : St} {a0 : UInt64} {a1 : Int} {r : (List UInt8)} (tb2 : Tab2 s) (h : strconv_FormatUint a0 a1 = some r) : Calls Tryz.prog 41 #[cW a0, .int .i64 a1] s.w (Ret s K0 (fun s1 v => v = S r)) := by
 unfold strconv_FormatUint at h
 have hS := Step.r0 K0 s
 refine k_fn (rs := [4]) (args := [cW a0, .int .i64 a1]) Tryz.func41 rfl rfl rfl rfl (jAg (jAa (jAd rfl rfl (jAi (jAg (jAg (jAa (jAc rfl rfl (jCc rfl rfl rfl (jAi (jAh [(0, _), (1, _), (4, _), (10, _)] ⟨rfl, rfl, rfl, rfl, trivial⟩ (jAl rfl (fun c1 => ?_) (fun c1 => ?_)))))))))))))
 ·
  have h := itT h c1
  refine jAg (jAg (jAa (jAc rfl rfl (jBw rfl rfl rfl (jAi (jAh [(0, _), (1, _), (4, _), (12, _)] ⟨rfl, rfl, rfl, rfl, trivial⟩ (jAl rfl (fun c2 => ?_) (fun c2 => ?_))))))))
  ·
   have h := itT h c2
   refine jAg (jAa (jAc rfl rfl (jBz (p := (a0.toNat : Int)) Tryz.underlying22 Tryz.underlying3 rfl rfl ?_)))
   by_cases c3 : 0 ≤ i64 (a0.toNat : Int) ∧ i64 (a0.toNat : Int) < 100
   case neg => exact (noneNe (itF h c3)).elim
   replace h := itT h c3
   refine jAp cal61 rfl (small_w (a0 := (i64 (a0.toNat : Int))) c3) rfl ?_
   rintro s4 _ st4 rfl
   have := st4.size
   have hS := hS.trans0 st4
   refine jAd rfl rfl (jAi (jAh [(0, _), (1, _), (4, _)] ⟨rfl, rfl, rfl, trivial⟩ (jAx ?_)))
   obtain rfl := Option.some.inj h
   refine ⟨_, rfl, Ret.mk hS ?_⟩
   exact rfl
  have h := itF h c2
  refine jAv (jAg (jAa (jBj zero92 rfl ?_)))
  intro s5 b5 st5 h5 ge5
  have := st5.size
  have hS := hS.trans0 st5
  replace tb2 := tb2.up2 st5
  have lt5 := h5.lt
  refine jAi (jAh [(0, _), (1, _), (4, _), (5, _)] ⟨rfl, rfl, rfl, rfl, trivial⟩ (jAg (jAa (jAc rfl rfl ?_))))
  by_cases c6 : 1 ≤ a0.toNat
  case neg => exact (noneNe (itF h c6)).elim
  replace h := itT h c6
  refine jAp cal62 rfl (numDigits_w (a0 := a0) tb2 c6) rfl ?_
  rintro s7 _ st7 rfl
  have := st7.size
  have hS := hS.trans0 st7
  replace h5 := h5.up2 st7
  refine jAd rfl rfl (jAi (jAh [(0, _), (1, _), (4, _), (5, _), (6, _)] ⟨rfl, rfl, rfl, rfl, rfl, trivial⟩ (jAg (jAa (jAc rfl rfl ?_)))))
  by_cases c9 : 0 ≤ ((decF 30 a0.toNat).length : Int) ∧ ((decF 30 a0.toNat).length : Int) ≤ 24
  case neg => exact (noneNe (itF h c9)).elim
  replace h := itT h c9
  have hj8 : (((decF 30 a0.toNat).length : Int) : Int).toNat ≤ (List.replicate 24 (0 : UInt8)).length := by have hq : (List.replicate 24 (0 : UInt8)).length = 24 := (List.length_replicate); omega
  refine jCs (g := bD) (xs := (List.replicate 24 (0 : UInt8))) (j := (((decF 30 a0.toNat).length : Int) : Int).toNat) cB (fun _ => rfl) (fun _ => rfl) arr92 rfl h5 (List.length_replicate) (CutAt.int rfl c9.1) (by omega) rfl ?_
  intro h10
  refine jAc rfl rfl ?_
  by_cases c12 : (decF 30 a0.toNat).length = (((decF 30 a0.toNat).length : Int) : Int).toNat ∧ (((decF 30 a0.toNat).length : Int) : Int).toNat < 1000
  case neg => exact (noneNe (itF h c12)).elim
  replace h := itT h c12
  refine jAp cal63 rfl (fmt10_w (xs := (List.replicate 24 (0 : UInt8))) (a1 := a0) h5 lz hj8 c12) rfl ?_
  rintro s11 _ st11 ⟨rfl, h5⟩
  have hl11 : (decF 30 a0.toNat ++ (List.replicate 24 (0 : UInt8)).drop (((decF 30 a0.toNat).length : Int) : Int).toNat).length = 24 := by have hq := hj8; have hq2 : (List.replicate 24 (0 : UInt8)).length = 24 := (List.length_replicate); rw [List.length_append, List.length_drop, c12.1]; omega
  have := st11.size
  have hS := hS.c0 st11
  refine jAi (jAh [(0, _), (1, _), (4, _), (5, _), (6, _)] ⟨rfl, rfl, rfl, rfl, rfl, trivial⟩ (jAg (jAa (jAc rfl rfl ?_))))
  by_cases c14 : 0 ≤ ((decF 30 a0.toNat).length : Int) ∧ ((decF 30 a0.toNat).length : Int) ≤ 24
  case neg => exact (noneNe (itF h c14)).elim
  replace h := itT h c14
  have hj13 : (((decF 30 a0.toNat).length : Int) : Int).toNat ≤ (decF 30 a0.toNat ++ (List.replicate 24 (0 : UInt8)).drop (((decF 30 a0.toNat).length : Int) : Int).toNat).length := by have hq : (decF 30 a0.toNat ++ (List.replicate 24 (0 : UInt8)).drop (((decF 30 a0.toNat).length : Int) : Int).toNat).length = 24 := hl11; omega
  refine jCs (g := bD) (xs := (decF 30 a0.toNat ++ (List.replicate 24 (0 : UInt8)).drop (((decF 30 a0.toNat).length : Int) : Int).toNat)) (j := (((decF 30 a0.toNat).length : Int) : Int).toNat) cB (fun _ => rfl) (fun _ => rfl) arr92 rfl h5 hl11 (CutAt.int rfl c14.1) (by omega) rfl ?_
  intro h15
  refine k_bts (m := ((decF 30 a0.toNat ++ (List.replicate 24 (0 : UInt8)).drop (((decF 30 a0.toNat).length : Int) : Int).toNat).take (((decF 30 a0.toNat).length : Int) : Int).toNat)) Tryz.underlying43 Tryz.underlying5 Tryz.underlying9 rfl h15 rfl (jAd rfl rfl (jAi (jAh [(0, _), (1, _), (4, _)] ⟨rfl, rfl, rfl, trivial⟩ (jAx ?_))))
  obtain rfl := Option.some.inj h
  refine ⟨_, rfl, Ret.mk hS ?_⟩
  exact rfl
 have h := itF h c1
 refine jAv (jAg (jAa (jAc rfl rfl (jAc rfl rfl ?_))))
 by_cases c16 : (0 : Nat) = 1
 case neg => exact (noneNe (itF h c16)).elim
 replace h := itT h c16
 refine jAp cal64 rfl (show Calls Tryz.prog 64 #[.slice none 0 0, cW a0, .int .i64 a1, .bool false, .bool false] s.w (Ret s K0 (fun _ v => v = .tuple #[.slice none 0 0, S ([] : List UInt8)])) from absurd c16 (by decide)) rfl ?_
 rintro s17 _ st17 rfl
 have := st17.size
 have hS := hS.trans0 st17
 refine jAc rfl rfl (jBd rfl rfl rfl (jBd rfl rfl rfl (jAd rfl rfl (jAd rfl rfl (jAi (jAh [(4, _), (8, _)] ⟨rfl, rfl, trivial⟩ (jAg (jAa (jAc rfl rfl (jAd rfl rfl (jAi (jAh [(4, _)] ⟨rfl, trivial⟩ (jAx ?_)))))))))))))
 obtain rfl := Option.some.inj h
 refine ⟨_, rfl, Ret.mk hS ?_⟩
 exact rfl
theorem strconv_FormatUint_p_w {s : St} {a0 : UInt64} {a1 : Int} {r : (List UInt8)} (tb2 : Tab2 s) (h : strconv_FormatUint_p a0 a1 = some r) : Calls Tryz.prog 25 #[cW a0, .int .i64 a1] s.w (Ret s K0 (fun s1 v => v = S r)) := by
 unfold strconv_FormatUint_p at h
 have hS := Step.r0 K0 s
 refine k_fn (rs := [4]) (args := [cW a0, .int .i64 a1]) Tryz.func25 rfl rfl rfl rfl (jAg (jAa (jAd rfl rfl (jAi (jAg (jAa (jAc rfl rfl (jAc rfl rfl ?_))))))))
 obtain ⟨x1, hx1, h⟩ := ob h
 refine jAp cal41 rfl (strconv_FormatUint_w  tb2 hx1) rfl ?_
 rintro s1 vr1 st1 rfl
 have := st1.size
 have hS := hS.trans0 st1
 refine jAd rfl rfl (jAi (jAh [(4, _)] ⟨rfl, trivial⟩ (jAx ?_)))
 obtain rfl := Option.some.inj h
 refine ⟨_, rfl, Ret.mk hS ?_⟩
 exact rfl
theorem rev_Parse_w {s : St} {a0 : (List UInt8)} {r : (ApiRev × Int)} (tb0 : Tab0 s) (tb1 : Tab1 s) (tb2 : Tab2 s) (h : rev_Parse a0 = some r) : Calls Tryz.prog 13 #[S a0] s.w (Ret s K0 (fun s1 v => ∃ (u0 : List Value), v = .tuple #[.agg u0.toArray, .int .i64 r.2] ∧ RC s1 u0 (dApiRev r.1))) := by
 unfold rev_Parse at h
 have hS := Step.r0 K0 s
 refine jCy (rs := [.cell 2 25, .tmp 3]) (args := [S a0]) Tryz.func13 rfl rfl rfl rfl (jAg (jAa (jBj zero25 rfl ?_)))
 intro s1 b1 st1 h1 ge1
 have := st1.size
 have hS := hS.trans0 st1
 replace tb0 := tb0.up2 st1
 replace tb1 := tb1.up2 st1
 replace tb2 := tb2.up2 st1
 have lt1 := h1.lt
 refine jAd rfl rfl (jAi (jAg (jAa (jAc rfl rfl ?_))))
 obtain ⟨x1, hx1, h⟩ := ob h
 refine jAp cal23 rfl (strings_Cut_w   hx1) rfl ?_
 rintro s2 vr2 st2 rfl
 have := st2.size
 have hS := hS.trans0 st2
 replace h1 := h1.up2 st2
 replace tb0 := tb0.up2 st2
 replace tb1 := tb1.up2 st2
 replace tb2 := tb2.up2 st2
 refine jAc rfl rfl (jBd rfl rfl rfl (jBd rfl rfl rfl (jBd rfl rfl rfl (jBj zero9 rfl ?_))))
 intro s3 b3 st3 h3 ge3
 have := st3.size
 have hS := hS.trans0 st3
 replace h1 := h1.up2 st3
 replace tb0 := tb0.up2 st3
 replace tb1 := tb1.up2 st3
 replace tb2 := tb2.up2 st3
 have lt3 := h3.lt
 refine jBj zero4 rfl ?_
 intro s4 b4 st4 h4 ge4
 have := st4.size
 have hS := hS.trans0 st4
 replace h1 := h1.up2 st4
 replace h3 := h3.up2 st4
 replace tb0 := tb0.up2 st4
 replace tb1 := tb1.up2 st4
 replace tb2 := tb2.up2 st4
 have lt4 := h4.lt
 refine jAd rfl rfl (jAo (cs' := [S x1.2.1]) size9 rfl rfl h3 lz (CellsOf.lit rfl rfl) rfl lq rfl ?_)
 intro s5 st5 h3
 have := st5.size
 have hS := hS.c0 st5
 replace h1 := h1.up2 st5
 replace h4 := h4.up2 st5
 replace tb0 := tb0.up2 st5
 replace tb1 := tb1.up2 st5
 replace tb2 := tb2.up2 st5
 refine jAo (cs' := [.bool x1.2.2]) size4 rfl rfl h4 lz (CellsOf.lit rfl rfl) rfl lq rfl ?_
 intro s6 st6 h4
 have := st6.size
 have hS := hS.c0 st6
 replace h1 := h1.up2 st6
 replace h3 := h3.up2 st6
 replace tb0 := tb0.up2 st6
 replace tb1 := tb1.up2 st6
 replace tb2 := tb2.up2 st6
 refine jAi (jAh [(2, _), (3, _), (4, _), (5, _), (6, _)] ⟨rfl, rfl, rfl, rfl, rfl, trivial⟩ (jAg (jAa (jAc rfl rfl ?_))))
 by_cases c7 : x1.1.length ≤ 1000000
 case neg => exact (noneNe (itF h c7)).elim
 replace h := itT h c7
 refine jAp cal24 rfl (parseUint_w (a0 := x1.1) tb0 tb1 c7) rfl ?_
 rintro s8 _ st8 ⟨ev8, rfl, he8⟩
 have := st8.size
 have hS := hS.trans0 st8
 replace h1 := h1.up2 st8
 replace h3 := h3.up2 st8
 replace h4 := h4.up2 st8
 replace tb2 := tb2.up2 st8
 refine jAc rfl rfl (jBd rfl rfl rfl (jBd rfl rfl rfl (jAd rfl rfl (jAd rfl rfl (jAi (jAh [(2, _), (3, _), (4, _), (5, _), (6, _), (7, _), (8, _)] ⟨rfl, rfl, rfl, rfl, rfl, rfl, rfl, trivial⟩ (jAg (jAa (jAc rfl rfl (jCa plc25 zero25 rfl (Parts.cons (CellsOf.lit rfl rfl).1 Parts.nil) (by rfl) rfl (k_as (v := .agg #[cW ((parseUintR x1.1).1), .int .u8 0, .int .u8 0, .int .u8 0, .int .u8 0, .int .u8 0, .int .u8 0, .int .u8 0, .int .u8 0, .int .u8 0, .int .u8 0, .int .u8 0, .int .u8 0, .int .u8 0, .int .u8 0, .int .u8 0, .int .u8 0]) rfl (jBj zero25 rfl ?_))))))))))))
 intro s9 b9 st9 h9 ge9
 have := st9.size
 have hS := hS.trans0 st9
 replace h1 := h1.up2 st9
 replace h3 := h3.up2 st9
 replace h4 := h4.up2 st9
 replace tb2 := tb2.up2 st9
 have lt9 := h9.lt
 refine jAo (cs' := [cW ((parseUintR x1.1).1), .int .u8 0, .int .u8 0, .int .u8 0, .int .u8 0, .int .u8 0, .int .u8 0, .int .u8 0, .int .u8 0, .int .u8 0, .int .u8 0, .int .u8 0, .int .u8 0, .int .u8 0, .int .u8 0, .int .u8 0, .int .u8 0]) size25 rfl rfl h9 lz (CellsOf.lit rfl rfl) rfl lq rfl ?_
 intro s10 st10 h9
 have := st10.size
 have hS := hS.c0 st10
 replace h1 := h1.up2 st10
 replace h3 := h3.up2 st10
 replace h4 := h4.up2 st10
 replace tb2 := tb2.up2 st10
 refine jAi (jAh [(2, _), (3, _), (4, _), (5, _), (6, _), (7, _), (8, _), (9, _)] ⟨rfl, rfl, rfl, rfl, rfl, rfl, rfl, rfl, trivial⟩ (jAg (jAa (jAj one4 rfl h4 rfl rfl (jAc rfl rfl ?_)))))
 have hE11 := Step.r0 K0 s10
 refine jBm (X := St) 3 [(2, pZ b1), (3, .int .i64 0), (4, S x1.1), (5, pZ b3), (6, pZ b4), (7, cW ((parseUintR x1.1).1)), (8, ev8), (9, pZ b9), (25, .bool x1.2.2)] (fun _ => [(29, .bool (decide ((x1.2.2 = true) ∧ ((!(parseUintR x1.1).2) = true))))]) (fun sl wL => sl.w = wL ∧ Step K0 s10 sl) ?_ ?_
 ·
  refine jBb 26 rfl (jCn (fun c12 => ?_) (fun c12 => ?_))
  ·
   exact jAn rfl rfl (jAc rfl rfl (jAn rfl rfl (k_eql_err ifcT54 he8 rfl rfl (jAz rfl rfl rfl rfl (jBc ⟨s10, ⟨(congrArg (fun b => some (Value.bool b)) (by first | exact decide_eq_decide.2 ⟨fun h => ⟨c12, h⟩, fun h => h.2⟩ | exact (decide_eq_false (fun h => c12 h.1)).symm | (simp [c12]; done) | exact dec_andT c12 | exact dec_andF c12 | exact dec_orF c12 | exact dec_orT c12 | (simp [c12, i64] <;> omega))), trivial⟩, ⟨rfl, rfl, rfl, rfl, rfl, rfl, rfl, rfl, rfl, trivial⟩, rfl, hE11⟩)))))
  exact k_no rfl rfl rfl rfl (k_no rfl rfl rfl rfl (jAy rfl rfl rfl rfl (jBc ⟨s10, ⟨(congrArg (fun b => some (Value.bool b)) (by first | exact decide_eq_decide.2 ⟨fun h => ⟨c12, h⟩, fun h => h.2⟩ | exact (decide_eq_false (fun h => c12 h.1)).symm | (simp [c12]; done) | exact dec_andT c12 | exact dec_andF c12 | exact dec_orF c12 | exact dec_orT c12 | (simp [c12, i64] <;> omega))), trivial⟩, ⟨rfl, rfl, rfl, rfl, rfl, rfl, rfl, rfl, rfl, trivial⟩, rfl, hE11⟩)))
 rintro s13 wL ⟨rfl, hE11⟩
 have := hE11.size
 have hS := hS.trans0 hE11
 replace h1 := h1.up2 hE11
 replace h3 := h3.up2 hE11
 replace h4 := h4.up2 hE11
 replace h9 := h9.up2 hE11
 replace tb2 := tb2.up2 hE11
 refine jAc rfl rfl ?_
 obtain ⟨x2, hx2, h⟩ := ob h
 have hE14 := Step.r0 K0 s13
 refine jBm (X := St) 5 [(2, pZ b1), (3, .int .i64 0), (4, S x1.1), (5, pZ b3), (6, pZ b4), (7, cW ((parseUintR x1.1).1)), (8, ev8), (9, pZ b9), (25, .bool x1.2.2), (29, .bool (decide ((x1.2.2 = true) ∧ ((!(parseUintR x1.1).2) = true))))] (fun _ => [(35, .bool x2)]) (fun sl wL => sl.w = wL ∧ Step K0 s13 sl) ?_ ?_
 ·
  refine jBb 30 rfl (jBh (fun c15 => ?_) (fun c15 => ?_))
  ·
   have hx2 := itT hx2 c15
   refine jAn rfl rfl (jAc rfl rfl (jAn rfl rfl ?_))
   obtain ⟨x3, hx3, hx2⟩ := ob hx2
   refine jAp cal25 rfl (strconv_FormatUint_p_w  tb2 hx3) rfl ?_
   rintro s16 vr16 st16 rfl
   have := st16.size
   have hS := hS.trans0 st16
   have hE14 := hE14.trans0 st16
   exact jAn rfl rfl (jAc rfl rfl (jAn rfl rfl (k_eql_str rfl rfl rfl (jAz rfl rfl rfl rfl (jBc ⟨s16, ⟨(congrArg (fun b => some (Value.bool b)) (Option.some.inj hx2)), trivial⟩, ⟨rfl, rfl, rfl, rfl, rfl, rfl, rfl, rfl, rfl, rfl, trivial⟩, rfl, hE14⟩)))))
  have hx2 := itF hx2 c15
  exact k_no rfl rfl rfl rfl (k_no rfl rfl rfl rfl (k_no rfl rfl rfl rfl (k_no rfl rfl rfl rfl (jAy rfl rfl rfl rfl (jBc ⟨s13, ⟨(congrArg (fun b => some (Value.bool b)) (Option.some.inj hx2)), trivial⟩, ⟨rfl, rfl, rfl, rfl, rfl, rfl, rfl, rfl, rfl, rfl, trivial⟩, rfl, hE14⟩)))))
 rintro s17 wL ⟨rfl, hE14⟩
 have := hE14.size
 have hS := hS.trans0 hE14
 replace h1 := h1.up2 hE14
 replace h3 := h3.up2 hE14
 replace h4 := h4.up2 hE14
 replace h9 := h9.up2 hE14
 refine jAc rfl rfl ?_
 have hE18 := Step.r0 K0 s17
 refine jBm (X := St) 4 [(2, pZ b1), (3, .int .i64 0), (4, S x1.1), (5, pZ b3), (6, pZ b4), (7, cW ((parseUintR x1.1).1)), (8, ev8), (9, pZ b9), (25, .bool x1.2.2), (29, .bool (decide ((x1.2.2 = true) ∧ ((!(parseUintR x1.1).2) = true)))), (35, .bool x2)] (fun _ => [(40, .bool (decide ((x2 = true) ∧ ((x1.2.1.length : Int) = 32))))]) (fun sl wL => sl.w = wL ∧ Step K0 s17 sl) ?_ ?_
 ·
  refine jBb 36 rfl (jCn (fun c19 => ?_) (fun c19 => ?_))
  ·
   exact jAn rfl rfl (jAj one9 rfl h3 rfl rfl (jAn rfl rfl (jCf Tryz.underlying9 rfl rfl (jAn rfl rfl (jCc rfl rfl rfl (jAz rfl rfl rfl rfl (jBc ⟨s17, ⟨(congrArg (fun b => some (Value.bool b)) (by first | exact decide_eq_decide.2 ⟨fun h => ⟨c19, h⟩, fun h => h.2⟩ | exact (decide_eq_false (fun h => c19 h.1)).symm | (simp [c19]; done) | exact dec_andT c19 | exact dec_andF c19 | exact dec_orF c19 | exact dec_orT c19 | (simp [c19, i64] <;> omega))), trivial⟩, ⟨rfl, rfl, rfl, rfl, rfl, rfl, rfl, rfl, rfl, rfl, rfl, trivial⟩, rfl, hE18⟩)))))))
  exact k_no rfl rfl rfl rfl (k_no rfl rfl rfl rfl (k_no rfl rfl rfl rfl (jAy rfl rfl rfl rfl (jBc ⟨s17, ⟨(congrArg (fun b => some (Value.bool b)) (by first | exact decide_eq_decide.2 ⟨fun h => ⟨c19, h⟩, fun h => h.2⟩ | exact (decide_eq_false (fun h => c19 h.1)).symm | (simp [c19]; done) | exact dec_andT c19 | exact dec_andF c19 | exact dec_orF c19 | exact dec_orT c19 | (simp [c19, i64] <;> omega))), trivial⟩, ⟨rfl, rfl, rfl, rfl, rfl, rfl, rfl, rfl, rfl, rfl, rfl, trivial⟩, rfl, hE18⟩))))
 rintro s20 wL ⟨rfl, hE18⟩
 have := hE18.size
 have hS := hS.trans0 hE18
 replace h1 := h1.up2 hE18
 replace h3 := h3.up2 hE18
 replace h4 := h4.up2 hE18
 replace h9 := h9.up2 hE18
 refine jAc rfl rfl ?_
 obtain ⟨x4, hx4, h⟩ := ob h
 have hE21 := Step.r0 K0 s20
 refine jBm (X := St) 3 [(2, pZ b1), (3, .int .i64 0), (4, S x1.1), (5, pZ b3), (6, pZ b4), (7, cW ((parseUintR x1.1).1)), (8, ev8), (9, pZ b9), (25, .bool x1.2.2), (29, .bool (decide ((x1.2.2 = true) ∧ ((!(parseUintR x1.1).2) = true)))), (35, .bool x2), (40, .bool (decide ((x2 = true) ∧ ((x1.2.1.length : Int) = 32))))] (fun _ => [(44, .bool x4)]) (fun sl wL => sl.w = wL ∧ Step K0 s20 sl) ?_ ?_
 ·
  refine jBb 41 rfl (jBh (fun c22 => ?_) (fun c22 => ?_))
  ·
   have hx4 := itT hx4 c22
   refine jAn rfl rfl (jAs (cs := [cW ((parseUintR x1.1).1), .int .u8 0, .int .u8 0, .int .u8 0, .int .u8 0, .int .u8 0, .int .u8 0, .int .u8 0, .int .u8 0, .int .u8 0, .int .u8 0, .int .u8 0, .int .u8 0, .int .u8 0, .int .u8 0, .int .u8 0, .int .u8 0]) agg25 rfl h9 rfl (jAn rfl rfl ?_))
   obtain ⟨x5, hx5, hx4⟩ := ob hx4
   refine jAp cal8 rfl (rev_May_w  (clsApiRev (⟨(parseUintR x1.1).1, (⟨(0 : UInt8), (0 : UInt8), (0 : UInt8), (0 : UInt8), (0 : UInt8), (0 : UInt8), (0 : UInt8), (0 : UInt8), (0 : UInt8), (0 : UInt8), (0 : UInt8), (0 : UInt8), (0 : UInt8), (0 : UInt8), (0 : UInt8), (0 : UInt8)⟩ : St23)⟩ : ApiRev)) hx5) rfl ?_
   rintro s23 vr23 st23 rfl
   have := st23.size
   have hS := hS.trans0 st23
   have hE21 := hE21.trans0 st23
   exact jAz rfl rfl rfl rfl (jBc ⟨s23, ⟨(congrArg (fun b => some (Value.bool b)) (Option.some.inj hx4)), trivial⟩, ⟨rfl, rfl, rfl, rfl, rfl, rfl, rfl, rfl, rfl, rfl, rfl, rfl, trivial⟩, rfl, hE21⟩)
  have hx4 := itF hx4 c22
  exact k_no rfl rfl rfl rfl (k_no rfl rfl rfl rfl (jAy rfl rfl rfl rfl (jBc ⟨s20, ⟨(congrArg (fun b => some (Value.bool b)) (Option.some.inj hx4)), trivial⟩, ⟨rfl, rfl, rfl, rfl, rfl, rfl, rfl, rfl, rfl, rfl, rfl, rfl, trivial⟩, rfl, hE21⟩)))
 rintro s24 wL ⟨rfl, hE21⟩
 have := hE21.size
 have hS := hS.trans0 hE21
 replace h1 := h1.up2 hE21
 replace h3 := h3.up2 hE21
 replace h4 := h4.up2 hE21
 replace h9 := h9.up2 hE21
 refine jAo (cs' := [.bool x4]) size4 rfl rfl h4 lz (CellsOf.lit rfl rfl) rfl lq rfl ?_
 intro s25 st25 h4
 have := st25.size
 have hS := hS.c0 st25
 replace h1 := h1.up2 st25
 replace h3 := h3.up2 st25
 replace h9 := h9.up2 st25
 refine jAi (jAh [(2, _), (3, _), (5, _), (6, _), (9, _)] ⟨rfl, rfl, rfl, rfl, rfl, trivial⟩ (jAg (jAa (jDg rfl rfl rfl (jAd rfl rfl (jAi (jAh [(2, _), (3, _), (6, _), (9, _), (10, _)] ⟨rfl, rfl, rfl, rfl, rfl, trivial⟩ (jAg ?_))))))))
 obtain ⟨kj6, hK26, h⟩ := jn_out h
 have hE26 := Step.r0 (KU (KC (b4 + 1) 0) (KC (b9 + 1) 0)) s25
 refine jBp (X := St × Bool × UInt8 × UInt8 × UInt8 × UInt8 × UInt8 × UInt8 × UInt8 × UInt8 × UInt8 × UInt8 × UInt8 × UInt8 × UInt8 × UInt8 × UInt8 × UInt8) [(2, pZ b1), (3, .int .i64 0), (6, pZ b4), (9, pZ b9)] (fun (xL : St × Bool × UInt8 × UInt8 × UInt8 × UInt8 × UInt8 × UInt8 × UInt8 × UInt8 × UInt8 × UInt8 × UInt8 × UInt8 × UInt8 × UInt8 × UInt8 × UInt8) => match xL with | (sl, x7, x8, x9, x10, x11, x12, x13, x14, x15, x16, x17, x18, x19, x20, x21, x22, x23) => []) (fun (xL : St × Bool × UInt8 × UInt8 × UInt8 × UInt8 × UInt8 × UInt8 × UInt8 × UInt8 × UInt8 × UInt8 × UInt8 × UInt8 × UInt8 × UInt8 × UInt8 × UInt8) (wL : World) => match xL with | (sl, x7, x8, x9, x10, x11, x12, x13, x14, x15, x16, x17, x18, x19, x20, x21, x22, x23) => sl.w = wL ∧ Step (KU (KC (b4 + 1) 0) (KC (b9 + 1) 0)) s25 sl ∧ (Blk sl b4 ⟨b4 + 1, 0⟩ [.bool x7] 4) ∧ (Blk sl b9 ⟨b9 + 1, 0⟩ [cW ((parseUintR x1.1).1), cB x8, cB x9, cB x10, cB x11, cB x12, cB x13, cB x14, cB x15, cB x16, cB x17, cB x18, cB x19, cB x20, cB x21, cB x22, cB x23] 25) ∧ kj6 x7 x8 x9 x10 x11 x12 x13 x14 x15 x16 x17 x18 x19 x20 x21 x22 x23 = some r) ?_ ?_
 ·
  refine jAg (jAa (jAd rfl rfl (jAi (jAw (jBr (X := St × Int × Bool × UInt8 × UInt8 × UInt8 × UInt8 × UInt8 × UInt8 × UInt8 × UInt8 × UInt8 × UInt8 × UInt8 × UInt8 × UInt8 × UInt8 × UInt8 × UInt8 × Nat) [(2, _), (3, _), (6, _), (9, _), (10, _)] (fun (xL : St × Int × Bool × UInt8 × UInt8 × UInt8 × UInt8 × UInt8 × UInt8 × UInt8 × UInt8 × UInt8 × UInt8 × UInt8 × UInt8 × UInt8 × UInt8 × UInt8 × UInt8 × Nat) => match xL with | (sl, x24, x25, x26, x27, x28, x29, x30, x31, x32, x33, x34, x35, x36, x37, x38, x39, x40, x41, j) => [(11, .int .i64 x24)]) (fun (xL : St × Int × Bool × UInt8 × UInt8 × UInt8 × UInt8 × UInt8 × UInt8 × UInt8 × UInt8 × UInt8 × UInt8 × UInt8 × UInt8 × UInt8 × UInt8 × UInt8 × UInt8 × Nat) (wL : World) => match xL with | (sl, x24, x25, x26, x27, x28, x29, x30, x31, x32, x33, x34, x35, x36, x37, x38, x39, x40, x41, j) => sl.w = wL ∧ Step (KU (KC (b4 + 1) 0) (KC (b9 + 1) 0)) s25 sl ∧ (Blk sl b4 ⟨b4 + 1, 0⟩ [.bool x25] 4) ∧ (Blk sl b9 ⟨b9 + 1, 0⟩ [cW ((parseUintR x1.1).1), cB x26, cB x27, cB x28, cB x29, cB x30, cB x31, cB x32, cB x33, cB x34, cB x35, cB x36, cB x37, cB x38, cB x39, cB x40, cB x41] 25) ∧ rev_Parse_l1 x1 kj6 j x24 x25 x26 x27 x28 x29 x30 x31 x32 x33 x34 x35 x36 x37 x38 x39 x40 x41 = some r) (fun (xL : St × Int × Bool × UInt8 × UInt8 × UInt8 × UInt8 × UInt8 × UInt8 × UInt8 × UInt8 × UInt8 × UInt8 × UInt8 × UInt8 × UInt8 × UInt8 × UInt8 × UInt8 × Nat) => match xL with | (sl, x24, x25, x26, x27, x28, x29, x30, x31, x32, x33, x34, x35, x36, x37, x38, x39, x40, x41, j) => j) (s25, 0, x4, (0 : UInt8), (0 : UInt8), (0 : UInt8), (0 : UInt8), (0 : UInt8), (0 : UInt8), (0 : UInt8), (0 : UInt8), (0 : UInt8), (0 : UInt8), (0 : UInt8), (0 : UInt8), (0 : UInt8), (0 : UInt8), (0 : UInt8), (0 : UInt8), FU) ⟨rfl, rfl, rfl, rfl, rfl, trivial⟩ ⟨lr, trivial⟩ ⟨rfl, (Step.refl _).of0 li, h4, h9, h⟩ ?_)))))
  rintro ⟨s28, x24, x25, x26, x27, x28, x29, x30, x31, x32, x33, x34, x35, x36, x37, x38, x39, x40, x41, j⟩ wL ⟨rfl, hE27, h4, h9, h⟩
  cases j with
  | zero => rw [rev_Parse_l1] at h; exact (noneNe h).elim
  | succ j =>
  rw [rev_Parse_l1] at h
  have := hE27.size
  have hS := hS.c0 hE27
  have hE26 := hE26.c0 hE27
  replace h3 := h3.up2 hE27
  refine jAg (jAg (jAa (jAj one4 rfl h4 rfl rfl (jAc rfl rfl ?_))))
  have hE29 := Step.r0 K0 s28
  refine jBm (X := St) 3 [(2, pZ b1), (3, .int .i64 0), (6, pZ b4), (9, pZ b9), (10, .func (.func 26) #[] #[pZ b3, pZ b4]), (11, .int .i64 x24), (46, .bool x25)] (fun _ => [(50, .bool (decide ((x25 = true) ∧ (x24 < 16))))]) (fun sl wL => sl.w = wL ∧ Step K0 s28 sl) ?_ ?_
  ·
   refine jBb 47 rfl (jCn (fun c30 => ?_) (fun c30 => ?_))
   ·
    exact jAn rfl rfl (jAc rfl rfl (jAn rfl rfl (jBw rfl rfl rfl (jAz rfl rfl rfl rfl (jBc ⟨s28, ⟨(congrArg (fun b => some (Value.bool b)) (by first | exact decide_eq_decide.2 ⟨fun h => ⟨c30, h⟩, fun h => h.2⟩ | exact (decide_eq_false (fun h => c30 h.1)).symm | (simp [c30]; done) | exact dec_andT c30 | exact dec_andF c30 | exact dec_orF c30 | exact dec_orT c30 | (simp [c30, i64] <;> omega))), trivial⟩, ⟨rfl, rfl, rfl, rfl, rfl, rfl, rfl, trivial⟩, rfl, hE29⟩)))))
   exact k_no rfl rfl rfl rfl (k_no rfl rfl rfl rfl (jAy rfl rfl rfl rfl (jBc ⟨s28, ⟨(congrArg (fun b => some (Value.bool b)) (by first | exact decide_eq_decide.2 ⟨fun h => ⟨c30, h⟩, fun h => h.2⟩ | exact (decide_eq_false (fun h => c30 h.1)).symm | (simp [c30]; done) | exact dec_andT c30 | exact dec_andF c30 | exact dec_orF c30 | exact dec_orT c30 | (simp [c30, i64] <;> omega))), trivial⟩, ⟨rfl, rfl, rfl, rfl, rfl, rfl, rfl, trivial⟩, rfl, hE29⟩)))
  rintro s31 wL ⟨rfl, hE29⟩
  have := hE29.size
  have hS := hS.trans0 hE29
  have hE26 := hE26.trans0 hE29
  have hE27 := hE27.trans0 hE29
  replace h3 := h3.up2 hE29
  replace h4 := h4.up2 hE29
  replace h9 := h9.up2 hE29
  refine jAi (jAh [(2, _), (3, _), (6, _), (9, _), (10, _), (11, _), (50, _)] ⟨rfl, rfl, rfl, rfl, rfl, rfl, rfl, trivial⟩ (jAl rfl (fun c32 => ?_) (fun c32 => ?_)))
  ·
   have h := itT h c32
   refine jAv (jAg (jAw (jAa (jAc rfl rfl (jAc rfl rfl (jAc rfl rfl (jDi rfl rfl rfl (jDh cal26 rfl rfl rfl (k_fn (rs := [4]) (args := [.int .i64 (i64 (2 * x24)), pZ b3, pZ b4]) Tryz.func26 rfl rfl rfl rfl (jAg (jAa (jAd rfl rfl (jAi (jAg (jAa (jAj one9 rfl h3 rfl rfl (jAc rfl rfl ?_)))))))))))))))))
   obtain ⟨x42, hx42, h⟩ := ob h
   refine jBi Tryz.underlying9 rfl rfl (jAk hx42).1 (jAk hx42).2.1 rfl (k_as (congrArg (fun c : UInt8 => cB c) (jBs hx42)) (jAp cal27 rfl (indexByte_w (a0 := ([48, 49, 50, 51, 52, 53, 54, 55, 56, 57, 97, 98, 99, 100, 101, 102] : List UInt8)) (a1 := x42)) rfl ?_))
   rintro s33 _ st33 rfl
   have := st33.size
   have hS := hS.trans0 st33
   have hE26 := hE26.trans0 st33
   have hE27 := hE27.trans0 st33
   replace h3 := h3.up2 st33
   replace h4 := h4.up2 st33
   replace h9 := h9.up2 st33
   refine jAd rfl rfl (jAi (jAh [(2, _), (4, _), (5, _)] ⟨rfl, rfl, rfl, trivial⟩ (jAg (jAa (jAj one4 rfl h4 rfl rfl (jAc rfl rfl ?_))))))
   have hE34 := Step.r0 K0 s33
   refine jBm (X := St) 3 [(2, pZ b4), (4, .int .u8 0), (5, .int .i64 (Lib.indexByte ([48, 49, 50, 51, 52, 53, 54, 55, 56, 57, 97, 98, 99, 100, 101, 102] : List UInt8) x42)), (10, .bool x25)] (fun _ => [(14, .bool (decide ((x25 = true) ∧ (0 ≤ Lib.indexByte ([48, 49, 50, 51, 52, 53, 54, 55, 56, 57, 97, 98, 99, 100, 101, 102] : List UInt8) x42))))]) (fun sl wL => sl.w = wL ∧ Step K0 s33 sl) ?_ ?_
   ·
    refine jBb 11 rfl (jCn (fun c35 => ?_) (fun c35 => ?_))
    ·
     exact jAn rfl rfl (jAc rfl rfl (jAn rfl rfl (k_geq rfl rfl rfl (jAz rfl rfl rfl rfl (jBc ⟨s33, ⟨(congrArg (fun b => some (Value.bool b)) (by first | exact decide_eq_decide.2 ⟨fun h => ⟨c35, h⟩, fun h => h.2⟩ | exact (decide_eq_false (fun h => c35 h.1)).symm | (simp [c35]; done) | exact dec_andT c35 | exact dec_andF c35 | exact dec_orF c35 | exact dec_orT c35 | (simp [c35, i64] <;> omega))), trivial⟩, ⟨rfl, rfl, rfl, rfl, trivial⟩, rfl, hE34⟩)))))
    exact k_no rfl rfl rfl rfl (k_no rfl rfl rfl rfl (jAy rfl rfl rfl rfl (jBc ⟨s33, ⟨(congrArg (fun b => some (Value.bool b)) (by first | exact decide_eq_decide.2 ⟨fun h => ⟨c35, h⟩, fun h => h.2⟩ | exact (decide_eq_false (fun h => c35 h.1)).symm | (simp [c35]; done) | exact dec_andT c35 | exact dec_andF c35 | exact dec_orF c35 | exact dec_orT c35 | (simp [c35, i64] <;> omega))), trivial⟩, ⟨rfl, rfl, rfl, rfl, trivial⟩, rfl, hE34⟩)))
   rintro s36 wL ⟨rfl, hE34⟩
   have := hE34.size
   have hS := hS.trans0 hE34
   have hE26 := hE26.trans0 hE34
   have hE27 := hE27.trans0 hE34
   replace h3 := h3.up2 hE34
   replace h4 := h4.up2 hE34
   replace h9 := h9.up2 hE34
   refine jAo (cs' := [.bool (decide ((x25 = true) ∧ (0 ≤ Lib.indexByte ([48, 49, 50, 51, 52, 53, 54, 55, 56, 57, 97, 98, 99, 100, 101, 102] : List UInt8) x42)))]) size4 rfl rfl h4 lz (CellsOf.lit rfl rfl) rfl lq rfl ?_
   intro s37 st37 h4
   have := st37.size
   have hS := hS.c0 st37
   have hE26 := hE26.c0 st37
   have hE27 := hE27.c0 st37
   replace h3 := h3.up2 st37
   replace h9 := h9.up2 st37
   refine jAi (jAh [(4, _), (5, _)] ⟨rfl, rfl, trivial⟩ (jAg (jAa (jAc rfl rfl (jBz (p := Lib.indexByte ([48, 49, 50, 51, 52, 53, 54, 55, 56, 57, 97, 98, 99, 100, 101, 102] : List UInt8) x42) Tryz.underlying3 Tryz.underlying5 rfl rfl (k_as (congrArg (Value.int .u8) (w8 _)) (jAd rfl rfl (jAi (jAh [(4, _)] ⟨rfl, trivial⟩ (jAx (⟨_, rfl, _, rfl, ?_⟩)))))))))))
   refine k_shl rfl rfl (by decide) rfl (k_as (congrArg (Value.int .u8) (w8 _)) (jAc rfl rfl (jAc rfl rfl (jDi rfl rfl rfl (jBo rfl rfl rfl (jDh cal26 rfl rfl rfl (k_fn (rs := [4]) (args := [.int .i64 (i64 ((i64 (2 * x24)) + 1)), pZ b3, pZ b4]) Tryz.func26 rfl rfl rfl rfl (jAg (jAa (jAd rfl rfl (jAi (jAg (jAa (jAj one9 rfl h3 rfl rfl (jAc rfl rfl ?_)))))))))))))))
   obtain ⟨x43, hx43, h⟩ := ob h
   refine jBi Tryz.underlying9 rfl rfl (jAk hx43).1 (jAk hx43).2.1 rfl (k_as (congrArg (fun c : UInt8 => cB c) (jBs hx43)) (jAp cal27 rfl (indexByte_w (a0 := ([48, 49, 50, 51, 52, 53, 54, 55, 56, 57, 97, 98, 99, 100, 101, 102] : List UInt8)) (a1 := x43)) rfl ?_))
   rintro s38 _ st38 rfl
   have := st38.size
   have hS := hS.trans0 st38
   have hE26 := hE26.trans0 st38
   have hE27 := hE27.trans0 st38
   replace h4 := h4.up2 st38
   replace h9 := h9.up2 st38
   refine jAd rfl rfl (jAi (jAh [(2, _), (4, _), (5, _)] ⟨rfl, rfl, rfl, trivial⟩ (jAg (jAa (jAj one4 rfl h4 rfl rfl (jAc rfl rfl ?_))))))
   have hE39 := Step.r0 K0 s38
   refine jBm (X := St) 3 [(2, pZ b4), (4, .int .u8 0), (5, .int .i64 (Lib.indexByte ([48, 49, 50, 51, 52, 53, 54, 55, 56, 57, 97, 98, 99, 100, 101, 102] : List UInt8) x43)), (10, .bool (decide ((x25 = true) ∧ (0 ≤ Lib.indexByte ([48, 49, 50, 51, 52, 53, 54, 55, 56, 57, 97, 98, 99, 100, 101, 102] : List UInt8) x42))))] (fun _ => [(14, .bool (decide (((x25 = true) ∧ (0 ≤ Lib.indexByte ([48, 49, 50, 51, 52, 53, 54, 55, 56, 57, 97, 98, 99, 100, 101, 102] : List UInt8) x42)) ∧ (0 ≤ Lib.indexByte ([48, 49, 50, 51, 52, 53, 54, 55, 56, 57, 97, 98, 99, 100, 101, 102] : List UInt8) x43))))]) (fun sl wL => sl.w = wL ∧ Step K0 s38 sl) ?_ ?_
   ·
    refine jBb 11 rfl (jBh (fun c40 => ?_) (fun c40 => ?_))
    ·
     exact jAn rfl rfl (jAc rfl rfl (jAn rfl rfl (k_geq rfl rfl rfl (jAz rfl rfl rfl rfl (jBc ⟨s38, ⟨(congrArg (fun b => some (Value.bool b)) (by first | exact decide_eq_decide.2 ⟨fun h => ⟨c40, h⟩, fun h => h.2⟩ | exact (decide_eq_false (fun h => c40 h.1)).symm | (simp [c40]; done) | exact dec_andT c40 | exact dec_andF c40 | exact dec_orF c40 | exact dec_orT c40 | (simp [c40, i64] <;> omega))), trivial⟩, ⟨rfl, rfl, rfl, rfl, trivial⟩, rfl, hE39⟩)))))
    exact k_no rfl rfl rfl rfl (k_no rfl rfl rfl rfl (jAy rfl rfl rfl rfl (jBc ⟨s38, ⟨(congrArg (fun b => some (Value.bool b)) (by first | exact decide_eq_decide.2 ⟨fun h => ⟨c40, h⟩, fun h => h.2⟩ | exact (decide_eq_false (fun h => c40 h.1)).symm | (simp [c40]; done) | exact dec_andT c40 | exact dec_andF c40 | exact dec_orF c40 | exact dec_orT c40 | (simp [c40, i64] <;> omega))), trivial⟩, ⟨rfl, rfl, rfl, rfl, trivial⟩, rfl, hE39⟩)))
   rintro s41 wL ⟨rfl, hE39⟩
   have := hE39.size
   have hS := hS.trans0 hE39
   have hE26 := hE26.trans0 hE39
   have hE27 := hE27.trans0 hE39
   replace h4 := h4.up2 hE39
   replace h9 := h9.up2 hE39
   refine jAo (cs' := [.bool (decide (((x25 = true) ∧ (0 ≤ Lib.indexByte ([48, 49, 50, 51, 52, 53, 54, 55, 56, 57, 97, 98, 99, 100, 101, 102] : List UInt8) x42)) ∧ (0 ≤ Lib.indexByte ([48, 49, 50, 51, 52, 53, 54, 55, 56, 57, 97, 98, 99, 100, 101, 102] : List UInt8) x43)))]) size4 rfl rfl h4 lz (CellsOf.lit rfl rfl) rfl lq rfl ?_
   intro s42 st42 h4
   have := st42.size
   have hS := hS.c0 st42
   have hE26 := hE26.c0 st42
   have hE27 := hE27.c0 st42
   replace h9 := h9.up2 st42
   refine jAi (jAh [(4, _), (5, _)] ⟨rfl, rfl, trivial⟩ (jAg (jAa (jAc rfl rfl (jBz (p := Lib.indexByte ([48, 49, 50, 51, 52, 53, 54, 55, 56, 57, 97, 98, 99, 100, 101, 102] : List UInt8) x43) Tryz.underlying3 Tryz.underlying5 rfl rfl (k_as (congrArg (Value.int .u8) (w8 _)) (jAd rfl rfl (jAi (jAh [(4, _)] ⟨rfl, trivial⟩ (jAx (⟨_, rfl, _, rfl, ?_⟩)))))))))))
   refine jCm (p := ((ofI8 (((ofI8 (Lib.indexByte ([48, 49, 50, 51, 52, 53, 54, 55, 56, 57, 97, 98, 99, 100, 101, 102] : List UInt8) x42)).toNat : Int) * 2 ^ (min (4 : Int).toNat 8))).toNat : Int)) (q := ((ofI8 (Lib.indexByte ([48, 49, 50, 51, 52, 53, 54, 55, 56, 57, 97, 98, 99, 100, 101, 102] : List UInt8) x43)).toNat : Int)) (.inr (.inl ⟨rfl, rfl⟩)) rfl rfl rfl (k_as (congrArg (Value.int .u8) (or8 _ _)) (jAf fld25_1 rfl rfl ?_))
   obtain ⟨x44, hx44, h⟩ := ob h
   refine jBx (m := 1) (xs := ([x26, x27, x28, x29, x30, x31, x32, x33, x34, x35, x36, x37, x38, x39, x40, x41] : List UInt8)) arr23 rfl rfl rfl hx44 rfl ?_
   obtain ⟨x45, hx45, h⟩ := ob h
   refine jDc cB (fun _ => rfl) (v := (ofI8 (((ofI8 (Lib.indexByte ([48, 49, 50, 51, 52, 53, 54, 55, 56, 57, 97, 98, 99, 100, 101, 102] : List UInt8) x42)).toNat : Int) * 2 ^ (min (4 : Int).toNat 8))) ||| (ofI8 (Lib.indexByte ([48, 49, 50, 51, 52, 53, 54, 55, 56, 57, 97, 98, 99, 100, 101, 102] : List UInt8) x43))) (pre := [cW ((parseUintR x1.1).1)]) (post := []) (xs := ([x26, x27, x28, x29, x30, x31, x32, x33, x34, x35, x36, x37, x38, x39, x40, x41] : List UInt8)) size5 rfl rfl h9 lz rfl hx45 ?_
   intro s43 st43 h9
   replace h9 := h9.litE (lit16 (show x45.length = 16 by rw [(seti_out hx45).2.2.2]; rfl) (0 : UInt8))
   have := st43.size
   have hS := hS.c0 st43
   have hE26 := hE26.c0 st43
   have hE27 := hE27.c0 st43
   replace h4 := h4.up2 st43
   exact jAi (jCe (jAa (jAc rfl rfl (jBo rfl rfl rfl (jAd rfl rfl (jAi (jAu ⟨(s43, i64 (x24 + 1), decide (((x25 = true) ∧ (0 ≤ Lib.indexByte ([48, 49, 50, 51, 52, 53, 54, 55, 56, 57, 97, 98, 99, 100, 101, 102] : List UInt8) x42)) ∧ (0 ≤ Lib.indexByte ([48, 49, 50, 51, 52, 53, 54, 55, 56, 57, 97, 98, 99, 100, 101, 102] : List UInt8) x43)), (x45.getD 0 0), (x45.getD 1 0), (x45.getD 2 0), (x45.getD 3 0), (x45.getD 4 0), (x45.getD 5 0), (x45.getD 6 0), (x45.getD 7 0), (x45.getD 8 0), (x45.getD 9 0), (x45.getD 10 0), (x45.getD 11 0), (x45.getD 12 0), (x45.getD 13 0), (x45.getD 14 0), (x45.getD 15 0), j), ⟨lr, trivial⟩, ⟨rfl, rfl, rfl, rfl, rfl, trivial⟩, ⟨rfl, hE27, h4, h9, h⟩, (by simp)⟩)))))))
  have h := itF h c32
  exact jBq rfl (jAu ⟨(s31, x25, x26, x27, x28, x29, x30, x31, x32, x33, x34, x35, x36, x37, x38, x39, x40, x41), trivial, ⟨rfl, rfl, rfl, rfl, trivial⟩, ⟨rfl, hE26, h4, h9, h⟩⟩)
 rintro ⟨s44, x7, x8, x9, x10, x11, x12, x13, x14, x15, x16, x17, x18, x19, x20, x21, x22, x23⟩ wL ⟨rfl, hE26, h4, h9, h⟩
 rw [hK26] at h
 have := hE26.size
 have hS := hS.c0 hE26
 replace h1 := h1.up2 hE26
 refine jAg (jAg (jAa (jAj one4 rfl h4 rfl rfl (jDd rfl rfl (jAi (jAh [(2, _), (3, _), (9, _), (68, _)] ⟨rfl, rfl, rfl, rfl, trivial⟩ (jCk rfl (fun c45 => ?_) (fun c45 => ?_))))))))
 ·
  have h := ibT h c45
  refine jAg (jAa (jCa plc25 zero25 rfl Parts.nil (by rfl) rfl (k_as (v := .agg z17.toArray) rfl (jAo (cs' := z17) size25 rfl rfl h1 lz (CellsOf.lit rfl rfl) rfl lq rfl ?_))))
  intro s46 st46 h1
  have := st46.size
  have hS := hS.c0 st46
  refine jAd rfl rfl (jAi (jAh [(2, _), (3, _), (9, _)] ⟨rfl, rfl, rfl, trivial⟩ (jAx ?_)))
  obtain rfl := Option.some.inj h
  refine ⟨[.agg z17.toArray, .int .i64 2], ⟨res_blk (cs := z17) rfl agg25 h1, rfl, trivial⟩, Ret.mk hS ?_⟩
  exact ⟨_, rfl, (clsApiRev (⟨(0 : UInt64), (⟨(0 : UInt8), (0 : UInt8), (0 : UInt8), (0 : UInt8), (0 : UInt8), (0 : UInt8), (0 : UInt8), (0 : UInt8), (0 : UInt8), (0 : UInt8), (0 : UInt8), (0 : UInt8), (0 : UInt8), (0 : UInt8), (0 : UInt8), (0 : UInt8)⟩ : St23)⟩ : ApiRev))⟩
 have h := ibF h c45
 refine jAv (jAg (jAa (jAs (cs := [cW ((parseUintR x1.1).1), cB x8, cB x9, cB x10, cB x11, cB x12, cB x13, cB x14, cB x15, cB x16, cB x17, cB x18, cB x19, cB x20, cB x21, cB x22, cB x23]) agg25 rfl h9 rfl (jAo (cs' := [cW ((parseUintR x1.1).1), cB x8, cB x9, cB x10, cB x11, cB x12, cB x13, cB x14, cB x15, cB x16, cB x17, cB x18, cB x19, cB x20, cB x21, cB x22, cB x23]) size25 rfl rfl h1 lz (CellsOf.lit rfl rfl) rfl lq rfl ?_))))
 intro s47 st47 h1
 have := st47.size
 have hS := hS.c0 st47
 refine jAd rfl rfl (jAi (jAh [(2, _), (3, _)] ⟨rfl, rfl, trivial⟩ (jAx ?_)))
 obtain rfl := Option.some.inj h
 refine ⟨[.agg [cW ((parseUintR x1.1).1), cB x8, cB x9, cB x10, cB x11, cB x12, cB x13, cB x14, cB x15, cB x16, cB x17, cB x18, cB x19, cB x20, cB x21, cB x22, cB x23].toArray, .int .i64 0], ⟨res_blk (cs := [cW ((parseUintR x1.1).1), cB x8, cB x9, cB x10, cB x11, cB x12, cB x13, cB x14, cB x15, cB x16, cB x17, cB x18, cB x19, cB x20, cB x21, cB x22, cB x23]) rfl agg25 h1, rfl, trivial⟩, Ret.mk hS ?_⟩
 exact ⟨_, rfl, (clsApiRev (⟨(parseUintR x1.1).1, (⟨x8, x9, x10, x11, x12, x13, x14, x15, x16, x17, x18, x19, x20, x21, x22, x23⟩ : St23)⟩ : ApiRev))⟩
theorem cmp_isNaN_uint64_w {s : St} {a0 : UInt64} {r : Bool}  (h : cmp_isNaN_uint64 a0 = some r) : Calls Tryz.prog 36 #[cW a0] s.w (Ret s K0 (fun s1 v => v = .bool r)) := by
 unfold cmp_isNaN_uint64 at h
 have hS := Step.r0 K0 s
 refine k_fn (rs := [2]) (args := [cW a0]) Tryz.func36 rfl rfl rfl rfl (jAg (jAa (jAd rfl rfl (jAi (jAg (jAa (jAc rfl rfl (jAc rfl rfl (jDe rfl rfl rfl (jAd rfl rfl (jAi (jAh [(2, _)] ⟨rfl, trivial⟩ (jAx ?_)))))))))))))
 obtain rfl := Option.some.inj h
 refine ⟨_, rfl, Ret.mk hS ?_⟩
 exact rfl
theorem cmp_Compare_uint64_w {s : St} {a0 : UInt64} {a1 : UInt64} {r : Int}  (h : cmp_Compare_uint64 a0 a1 = some r) : Calls Tryz.prog 21 #[cW a0, cW a1] s.w (Ret s K0 (fun s1 v => v = .int .i64 r)) := by
 unfold cmp_Compare_uint64 at h
 have hS := Step.r0 K0 s
 refine k_fn (rs := [4]) (args := [cW a0, cW a1]) Tryz.func21 rfl rfl rfl rfl (jAg (jAa (jAd rfl rfl (jAi (jAg (jAa (jAc rfl rfl ?_)))))))
 obtain ⟨x1, hx1, h⟩ := ob h
 refine jAp cal36 rfl (cmp_isNaN_uint64_w   hx1) rfl ?_
 rintro s1 vr1 st1 rfl
 have := st1.size
 have hS := hS.trans0 st1
 refine jAd rfl rfl (jAi (jAh [(0, _), (1, _), (4, _), (5, _)] ⟨rfl, rfl, rfl, rfl, trivial⟩ (jAg (jAa (jAc rfl rfl ?_)))))
 obtain ⟨x2, hx2, h⟩ := ob h
 refine jAp cal36 rfl (cmp_isNaN_uint64_w   hx2) rfl ?_
 rintro s2 vr2 st2 rfl
 have := st2.size
 have hS := hS.trans0 st2
 refine jAd rfl rfl (jAi (jAh [(0, _), (1, _), (4, _), (5, _), (6, _)] ⟨rfl, rfl, rfl, rfl, rfl, trivial⟩ (jAg (jAg (jAa (jAc rfl rfl (jAi (jAh [(0, _), (1, _), (4, _), (6, _), (11, _)] ⟨rfl, rfl, rfl, rfl, rfl, trivial⟩ (jCk rfl (fun c3 => ?_) (fun c3 => ?_))))))))))
 ·
  have h := ibT h c3
  refine jAg (jAg (jAa (jAc rfl rfl (jAi (jAh [(0, _), (1, _), (4, _), (6, _), (12, _)] ⟨rfl, rfl, rfl, rfl, rfl, trivial⟩ (jCk rfl (fun c4 => ?_) (fun c4 => ?_)))))))
  ·
   have h := ibT h c4
   refine jAg (jAa (jAd rfl rfl (jAi (jAh [(0, _), (1, _), (4, _), (6, _)] ⟨rfl, rfl, rfl, rfl, trivial⟩ (jAx ?_)))))
   obtain rfl := Option.some.inj h
   refine ⟨_, rfl, Ret.mk hS ?_⟩
   exact rfl
  have h := ibF h c4
  refine jAv (jAg (jAa (jAd rfl rfl (jAi (jAh [(0, _), (1, _), (4, _), (6, _)] ⟨rfl, rfl, rfl, rfl, trivial⟩ (jAx ?_))))))
  obtain rfl := Option.some.inj h
  refine ⟨_, rfl, Ret.mk hS ?_⟩
  exact rfl
 have h := ibF h c3
 refine jAv (jAg (jAg (jAa (jAc rfl rfl (jAi (jAh [(0, _), (1, _), (4, _), (13, _)] ⟨rfl, rfl, rfl, rfl, trivial⟩ (jCk rfl (fun c5 => ?_) (fun c5 => ?_))))))))
 ·
  have h := ibT h c5
  refine jAg (jAa (jAd rfl rfl (jAi (jAh [(0, _), (1, _), (4, _)] ⟨rfl, rfl, rfl, trivial⟩ (jAx ?_)))))
  obtain rfl := Option.some.inj h
  refine ⟨_, rfl, Ret.mk hS ?_⟩
  exact rfl
 have h := ibF h c5
 refine jAv (jAg (jAg (jAa (jAc rfl rfl (jAc rfl rfl (jBw rfl rfl rfl (jAi (jAh [(0, _), (1, _), (4, _), (16, _)] ⟨rfl, rfl, rfl, rfl, trivial⟩ (jAl rfl (fun c6 => ?_) (fun c6 => ?_))))))))))
 ·
  have h := itT h c6
  refine jAg (jAa (jAd rfl rfl (jAi (jAh [(0, _), (1, _), (4, _)] ⟨rfl, rfl, rfl, trivial⟩ (jAx ?_)))))
  obtain rfl := Option.some.inj h
  refine ⟨_, rfl, Ret.mk hS ?_⟩
  exact rfl
 have h := itF h c6
 refine jAv (jAg (jAg (jAa (jAc rfl rfl (jAc rfl rfl (jCu rfl rfl rfl (jAi (jAh [(4, _), (19, _)] ⟨rfl, rfl, trivial⟩ (jAl rfl (fun c7 => ?_) (fun c7 => ?_))))))))))
 ·
  have h := itT h c7
  refine jAg (jAa (jAd rfl rfl (jAi (jAh [(4, _)] ⟨rfl, trivial⟩ (jAx ?_)))))
  obtain rfl := Option.some.inj h
  refine ⟨_, rfl, Ret.mk hS ?_⟩
  exact rfl
 have h := itF h c7
 refine jAv (jAg (jAa (jAd rfl rfl (jAi (jAh [(4, _)] ⟨rfl, trivial⟩ (jAx ?_))))))
 obtain rfl := Option.some.inj h
 refine ⟨_, rfl, Ret.mk hS ?_⟩
 exact rfl
theorem cmp_Or_int_w {s : St} {l0 : Lab} {v0 : Value} {a0 : (List Int)} {r : Int} (hp0 : SL s l0 v0 1 (a0.map dI64)) (h : cmp_Or_int a0 = some r) : Calls Tryz.prog 20 #[v0] s.w (Ret s K0 (fun s1 v => v = .int .i64 r)) := by
 unfold cmp_Or_int at h
 obtain ⟨lf0, lf0le, lf0ne, hp0⟩ := hp0.fix
 have hS := Step.r0 K0 s
 refine k_fn (rs := [2]) (args := [v0]) Tryz.func20 rfl rfl rfl rfl (jAg (jAa (jAd rfl rfl (jAi (jAg (jAa (jAd rfl rfl (jAi (jAg ?_)))))))))
 obtain ⟨kj1, hK1, h⟩ := jn_out h
 have hE1 := Step.r0 K0 s
 refine jBp (X := St) [(2, .int .i64 0), (3, .int .i64 0)] (fun (xL : St) => match xL with | sl => []) (fun (xL : St) (wL : World) => match xL with | sl => sl.w = wL ∧ Step K0 s sl ∧ kj1 () = some r) ?_ ?_
 ·
  refine jAg (jAa (jAc rfl rfl (jCj Tryz.underlying68 rfl hp0.hasLen rfl (k_as (v := .int .i64 (a0.length : Int)) (by simp only [List.length_map]) (jAc rfl rfl (jAi (jAh [(2, _), (3, _), (6, _), (7, _), (8, _)] ⟨rfl, rfl, rfl, rfl, rfl, trivial⟩ (jAw (jBr (X := St × Int × Nat) [(2, _), (3, _), (6, _), (7, _)] (fun (xL : St × Int × Nat) => match xL with | (sl, x2, j) => [(8, .int .i64 x2)]) (fun (xL : St × Int × Nat) (wL : World) => match xL with | (sl, x2, j) => sl.w = wL ∧ Step K0 s sl ∧ cmp_Or_int_l1 a0 kj1 j x2 = some r) (fun (xL : St × Int × Nat) => match xL with | (sl, x2, j) => j) (s, 0, FU) ⟨rfl, rfl, rfl, rfl, trivial⟩ ⟨lr, trivial⟩ ⟨rfl, (Step.refl _).of0 li, h⟩ ?_)))))))))
  rintro ⟨s3, x2, j⟩ wL ⟨rfl, hE2, h⟩
  cases j with
  | zero => rw [cmp_Or_int_l1] at h; exact (noneNe h).elim
  | succ j =>
  rw [cmp_Or_int_l1] at h
  have := hE2.size
  have hS := hS.trans0 hE2
  have hE1 := hE1.trans0 hE2
  replace hp0 := hp0.up2 hE2
  refine jAg (jAa (jBw rfl rfl rfl (jAi (jAg (jAl rfl (fun c4 => ?_) (fun c4 => ?_))))))
  ·
   have h := itT h c4
   refine jAv (jAg (jAw (jAg (jAa ?_))))
   obtain ⟨x3, hx3, h⟩ := ob h
   refine jCd Tryz.underlying68 size3 rfl rfl hp0 (jAk hx3).1 (jAr hx3) rfl ?_
   intro qx3 hqx3
   refine jAq one3 rfl hqx3 rfl (jAd rfl rfl (jAi (jAh [(2, _), (3, _), (5, _), (6, _), (7, _), (8, _)] ⟨rfl, rfl, rfl, rfl, rfl, rfl, trivial⟩ (jAg (jAa (jAc rfl rfl (jAc rfl rfl (jDe rfl rfl rfl (jAi (jAh [(2, _), (3, _), (5, _), (6, _), (7, _), (8, _), (14, _)] ⟨rfl, rfl, rfl, rfl, rfl, rfl, rfl, trivial⟩ (jAl rfl (fun c5 => ?_) (fun c5 => ?_))))))))))))
   ·
    have h := itT h c5
    refine jAg (jAa (jAc rfl rfl (jAd rfl rfl (jAi (jAh [(2, _), (3, _), (6, _), (7, _), (8, _)] ⟨rfl, rfl, rfl, rfl, rfl, trivial⟩ (jAx ?_))))))
    obtain rfl := Option.some.inj h
    refine ⟨_, rfl, Ret.mk hS ?_⟩
    exact rfl
   have h := itF h c5
   exact jAv (jCe (jAa (jBo rfl rfl rfl (jAc rfl rfl (jAi (jAu ⟨(s3, i64 (x2 + 1), j), ⟨lr, trivial⟩, ⟨rfl, rfl, rfl, rfl, trivial⟩, ⟨rfl, hE2, h⟩, (by simp)⟩))))))
  have h := itF h c4
  exact jBq rfl (jAu ⟨s3, trivial, ⟨rfl, rfl, trivial⟩, ⟨rfl, hE1, h⟩⟩)
 rintro s6 wL ⟨rfl, hE1, h⟩
 rw [hK1] at h
 have := hE1.size
 have hS := hS.trans0 hE1
 refine jAg (jAa (jAc rfl rfl (jAd rfl rfl (jAi (jAh [(2, _)] ⟨rfl, trivial⟩ (jAx ?_))))))
 obtain rfl := Option.some.inj h
 refine ⟨_, rfl, Ret.mk hS ?_⟩
 exact rfl
theorem rev_Cmp_w {s : St} {cs0 : List Value} {a0 : ApiRev} {cs1 : List Value} {a1 : ApiRev} {r : Int} (hp0 : RC s cs0 (dApiRev a0)) (hp1 : RC s cs1 (dApiRev a1)) (h : rev_Cmp a0 a1 = some r) : Calls Tryz.prog 10 #[.agg cs0.toArray, .agg cs1.toArray] s.w (Ret s K0 (fun s1 v => v = .int .i64 r)) := by
 unfold rev_Cmp at h
 obtain rfl := opnApiRev hp0
 obtain rfl := opnApiRev hp1
 have hS := Step.r0 K0 s
 refine k_fn (rs := [4]) (args := [.agg (a17 a0.Gen a0.Sum).toArray, .agg (a17 a1.Gen a1.Sum).toArray]) Tryz.func10 rfl rfl rfl rfl (jAg (jAa (jCp rfl rfl ?_)))
 intro s1 b1 st1 h1 ge1
 have := st1.size
 have hS := hS.trans0 st1
 have lt1 := h1.lt
 refine jCp rfl rfl ?_
 intro s2 b2 st2 h2 ge2
 have := st2.size
 have hS := hS.trans0 st2
 replace h1 := h1.up2 st2
 have lt2 := h2.lt
 refine jAd rfl rfl (jAi (jAh [(2, _), (3, _), (4, _)] ⟨rfl, rfl, rfl, trivial⟩ (jAg ?_)))
 obtain ⟨x1, hx1, h⟩ := ob h
 refine jBl (KN s2.n) 9 (.read 0 (.read 1 (.read 2 (.read 3 (.read 5 (.read 7 (.alt 4 (.alt 6 (.alt 8 .fin .no) (.alt 8 (.alt 6 .fin .no) .no)) (.alt 6 (.alt 4 (.alt 8 .fin .no) (.alt 8 (.alt 4 .fin .no) .no)) (.alt 8 (.alt 4 (.alt 6 .fin .no) (.alt 6 (.alt 4 .fin .no) .no)) .no))))))))) mixed lw rfl rfl rfl ?_
 intro s3 st3
 have := st3.size
 have hS := hS.trans0 st3
 replace h1 := h1.up2 st3
 replace h2 := h2.up2 st3
 refine jAb (pZ b1) rfl rfl (fun s4 st4 => ?_) ?_
 ·exact jAf fld25_0 rfl rfl (jAe)
 refine jAb (cW a0.Gen) rfl rfl (fun s5 st5 => ?_) ?_
 ·try replace h1 := h1.up2 st5
  exact jAj one22 rfl h1 rfl rfl (jAe)
 refine jAb (pZ b2) rfl rfl (fun s6 st6 => ?_) ?_
 ·exact jAf fld25_0 rfl rfl (jAe)
 refine jAb (cW a1.Gen) rfl rfl (fun s7 st7 => ?_) ?_
 ·try replace h2 := h2.up2 st7
  exact jAj one22 rfl h2 rfl rfl (jAe)
 refine jAb (.pointer (some ⟨b1, 1, none⟩)) rfl rfl (fun s8 st8 => ?_) ?_
 ·exact jAf fld25_1 rfl rfl (jAe)
 refine jAb (.pointer (some ⟨b2, 1, none⟩)) rfl rfl (fun s9 st9 => ?_) ?_
 ·exact jAf fld25_1 rfl rfl (jAe)
 refine jCl rfl rfl ?_ ?_
 ·
  have hA10 := Step.r0 (KN s2.n) s3
  refine jAp cal21 rfl (cmp_Compare_uint64_w   hx1) rfl ?_
  rintro s11 vr11 st11 rfl
  have := st11.size
  have hS := hS.trans0 st11
  have hA10 := hA10.trans0 st11
  replace h1 := h1.up2 st11
  replace h2 := h2.up2 st11
  refine jAt hA10 (jCl rfl rfl ?_ ?_)
  ·
   have hA12 := Step.r0 (KN s2.n) s11
   refine jBt (g := bD) (i := 0) (j := 16) (pre := [cW a0.Gen]) (post := []) (xs := (y16 a0.Sum)) cB (fun _ => rfl) (fun _ => rfl) arr23 rfl h1 rfl rfl CutAt.none CutAt.none (by decide) (by decide) (by decide) rfl ?_
   intro h13
   replace h13 : SL s11 ⟨b1 + 1, 0⟩ (.slice (some ⟨b1, 1 + 0, none⟩) (16 - 0) (16 - 0)) 1 ((y16 a0.Sum).map bD) := h13
   refine jAt hA12 (jBa rfl rfl ?_)
   have hA14 := Step.r0 (KN s2.n) s11
   refine jBt (g := bD) (i := 0) (j := 16) (pre := [cW a1.Gen]) (post := []) (xs := (y16 a1.Sum)) cB (fun _ => rfl) (fun _ => rfl) arr23 rfl h2 rfl rfl CutAt.none CutAt.none (by decide) (by decide) (by decide) rfl ?_
   intro h15
   replace h15 : SL s11 ⟨b2 + 1, 0⟩ (.slice (some ⟨b2, 1 + 0, none⟩) (16 - 0) (16 - 0)) 1 ((y16 a1.Sum).map bD) := h15
   refine jAt hA14 (jBg (jAp cal22 rfl (bcompare_w (a0 := (y16 a0.Sum)) (a1 := (y16 a1.Sum)) h13 h15) rfl ?_))
   rintro s16 _ st16 rfl
   have := st16.size
   have hS := hS.trans0 st16
   refine k_bslice2 (ds := ([x1, Lib.compareBytes (y16 a0.Sum) (y16 a1.Sum)] : List Int).map dI64) slc68 rfl (RVs.cons (R.val rfl) (RVs.cons (R.val rfl) RVs.nil)) (by rfl) (by rfl) rfl rfl ?_
   intro s17 v17 b17 st17 ge17 bl17 h17
   have := st17.size
   have hS := hS.trans0 st17
   have lt17 := Own.le1 h17
   obtain ⟨x2, hx2, h⟩ := ob h
   refine jAp cal20 rfl (cmp_Or_int_w  (h17.sl) hx2) rfl ?_
   rintro s18 vr18 st18 rfl
   have := st18.size
   have hS := hS.trans0 st18
   refine jAd rfl rfl (jAi (jAh [(4, _)] ⟨rfl, trivial⟩ (jAx ?_)))
   obtain rfl := Option.some.inj h
   refine ⟨_, rfl, Ret.mk hS ?_⟩
   exact rfl
  refine jBa rfl rfl ?_
  have hA19 := Step.r0 (KN s2.n) s11
  refine jBt (g := bD) (i := 0) (j := 16) (pre := [cW a1.Gen]) (post := []) (xs := (y16 a1.Sum)) cB (fun _ => rfl) (fun _ => rfl) arr23 rfl h2 rfl rfl CutAt.none CutAt.none (by decide) (by decide) (by decide) rfl ?_
  intro h20
  replace h20 : SL s11 ⟨b2 + 1, 0⟩ (.slice (some ⟨b2, 1 + 0, none⟩) (16 - 0) (16 - 0)) 1 ((y16 a1.Sum).map bD) := h20
  refine jAt hA19 (jBa rfl rfl ?_)
  have hA21 := Step.r0 (KN s2.n) s11
  refine jBt (g := bD) (i := 0) (j := 16) (pre := [cW a0.Gen]) (post := []) (xs := (y16 a0.Sum)) cB (fun _ => rfl) (fun _ => rfl) arr23 rfl h1 rfl rfl CutAt.none CutAt.none (by decide) (by decide) (by decide) rfl ?_
  intro h22
  replace h22 : SL s11 ⟨b1 + 1, 0⟩ (.slice (some ⟨b1, 1 + 0, none⟩) (16 - 0) (16 - 0)) 1 ((y16 a0.Sum).map bD) := h22
  refine jAt hA21 (jBg (jAp cal22 rfl (bcompare_w (a0 := (y16 a0.Sum)) (a1 := (y16 a1.Sum)) h22 h20) rfl ?_))
  rintro s23 _ st23 rfl
  have := st23.size
  have hS := hS.trans0 st23
  refine k_bslice2 (ds := ([x1, Lib.compareBytes (y16 a0.Sum) (y16 a1.Sum)] : List Int).map dI64) slc68 rfl (RVs.cons (R.val rfl) (RVs.cons (R.val rfl) RVs.nil)) (by rfl) (by rfl) rfl rfl ?_
  intro s24 v24 b24 st24 ge24 bl24 h24
  have := st24.size
  have hS := hS.trans0 st24
  have lt24 := Own.le1 h24
  obtain ⟨x3, hx3, h⟩ := ob h
  refine jAp cal20 rfl (cmp_Or_int_w  (h24.sl) hx3) rfl ?_
  rintro s25 vr25 st25 rfl
  have := st25.size
  have hS := hS.trans0 st25
  refine jAd rfl rfl (jAi (jAh [(4, _)] ⟨rfl, trivial⟩ (jAx ?_)))
  obtain rfl := Option.some.inj h
  refine ⟨_, rfl, Ret.mk hS ?_⟩
  exact rfl
 refine jCl rfl rfl ?_ ?_
 ·
  have hA26 := Step.r0 (KN s2.n) s3
  refine jBt (g := bD) (i := 0) (j := 16) (pre := [cW a0.Gen]) (post := []) (xs := (y16 a0.Sum)) cB (fun _ => rfl) (fun _ => rfl) arr23 rfl h1 rfl rfl CutAt.none CutAt.none (by decide) (by decide) (by decide) rfl ?_
  intro h27
  replace h27 : SL s3 ⟨b1 + 1, 0⟩ (.slice (some ⟨b1, 1 + 0, none⟩) (16 - 0) (16 - 0)) 1 ((y16 a0.Sum).map bD) := h27
  refine jAt hA26 (jCl rfl rfl ?_ ?_)
  ·
   have hA28 := Step.r0 (KN s2.n) s3
   refine jAp cal21 rfl (cmp_Compare_uint64_w   hx1) rfl ?_
   rintro s29 vr29 st29 rfl
   have := st29.size
   have hS := hS.trans0 st29
   have hA28 := hA28.trans0 st29
   replace h27 := h27.up2 st29
   replace h2 := h2.up2 st29
   refine jAt hA28 (jBa rfl rfl ?_)
   have hA30 := Step.r0 (KN s2.n) s29
   refine jBt (g := bD) (i := 0) (j := 16) (pre := [cW a1.Gen]) (post := []) (xs := (y16 a1.Sum)) cB (fun _ => rfl) (fun _ => rfl) arr23 rfl h2 rfl rfl CutAt.none CutAt.none (by decide) (by decide) (by decide) rfl ?_
   intro h31
   replace h31 : SL s29 ⟨b2 + 1, 0⟩ (.slice (some ⟨b2, 1 + 0, none⟩) (16 - 0) (16 - 0)) 1 ((y16 a1.Sum).map bD) := h31
   refine jAt hA30 (jBg (jAp cal22 rfl (bcompare_w (a0 := (y16 a0.Sum)) (a1 := (y16 a1.Sum)) h27 h31) rfl ?_))
   rintro s32 _ st32 rfl
   have := st32.size
   have hS := hS.trans0 st32
   refine k_bslice2 (ds := ([x1, Lib.compareBytes (y16 a0.Sum) (y16 a1.Sum)] : List Int).map dI64) slc68 rfl (RVs.cons (R.val rfl) (RVs.cons (R.val rfl) RVs.nil)) (by rfl) (by rfl) rfl rfl ?_
   intro s33 v33 b33 st33 ge33 bl33 h33
   have := st33.size
   have hS := hS.trans0 st33
   have lt33 := Own.le1 h33
   obtain ⟨x4, hx4, h⟩ := ob h
   refine jAp cal20 rfl (cmp_Or_int_w  (h33.sl) hx4) rfl ?_
   rintro s34 vr34 st34 rfl
   have := st34.size
   have hS := hS.trans0 st34
   refine jAd rfl rfl (jAi (jAh [(4, _)] ⟨rfl, trivial⟩ (jAx ?_)))
   obtain rfl := Option.some.inj h
   refine ⟨_, rfl, Ret.mk hS ?_⟩
   exact rfl
  refine jBa rfl rfl ?_
  have hA35 := Step.r0 (KN s2.n) s3
  refine jBt (g := bD) (i := 0) (j := 16) (pre := [cW a1.Gen]) (post := []) (xs := (y16 a1.Sum)) cB (fun _ => rfl) (fun _ => rfl) arr23 rfl h2 rfl rfl CutAt.none CutAt.none (by decide) (by decide) (by decide) rfl ?_
  intro h36
  replace h36 : SL s3 ⟨b2 + 1, 0⟩ (.slice (some ⟨b2, 1 + 0, none⟩) (16 - 0) (16 - 0)) 1 ((y16 a1.Sum).map bD) := h36
  refine jAt hA35 (jBa rfl rfl ?_)
  have hA37 := Step.r0 (KN s2.n) s3
  refine jAp cal21 rfl (cmp_Compare_uint64_w   hx1) rfl ?_
  rintro s38 vr38 st38 rfl
  have := st38.size
  have hS := hS.trans0 st38
  have hA37 := hA37.trans0 st38
  replace h27 := h27.up2 st38
  replace h36 := h36.up2 st38
  refine jAt hA37 (jBg (jAp cal22 rfl (bcompare_w (a0 := (y16 a0.Sum)) (a1 := (y16 a1.Sum)) h27 h36) rfl ?_))
  rintro s39 _ st39 rfl
  have := st39.size
  have hS := hS.trans0 st39
  refine k_bslice2 (ds := ([x1, Lib.compareBytes (y16 a0.Sum) (y16 a1.Sum)] : List Int).map dI64) slc68 rfl (RVs.cons (R.val rfl) (RVs.cons (R.val rfl) RVs.nil)) (by rfl) (by rfl) rfl rfl ?_
  intro s40 v40 b40 st40 ge40 bl40 h40
  have := st40.size
  have hS := hS.trans0 st40
  have lt40 := Own.le1 h40
  obtain ⟨x5, hx5, h⟩ := ob h
  refine jAp cal20 rfl (cmp_Or_int_w  (h40.sl) hx5) rfl ?_
  rintro s41 vr41 st41 rfl
  have := st41.size
  have hS := hS.trans0 st41
  refine jAd rfl rfl (jAi (jAh [(4, _)] ⟨rfl, trivial⟩ (jAx ?_)))
  obtain rfl := Option.some.inj h
  refine ⟨_, rfl, Ret.mk hS ?_⟩
  exact rfl
 refine jBa rfl rfl ?_
 have hA42 := Step.r0 (KN s2.n) s3
 refine jBt (g := bD) (i := 0) (j := 16) (pre := [cW a1.Gen]) (post := []) (xs := (y16 a1.Sum)) cB (fun _ => rfl) (fun _ => rfl) arr23 rfl h2 rfl rfl CutAt.none CutAt.none (by decide) (by decide) (by decide) rfl ?_
 intro h43
 replace h43 : SL s3 ⟨b2 + 1, 0⟩ (.slice (some ⟨b2, 1 + 0, none⟩) (16 - 0) (16 - 0)) 1 ((y16 a1.Sum).map bD) := h43
 refine jAt hA42 (jCl rfl rfl ?_ ?_)
 ·
  have hA44 := Step.r0 (KN s2.n) s3
  refine jAp cal21 rfl (cmp_Compare_uint64_w   hx1) rfl ?_
  rintro s45 vr45 st45 rfl
  have := st45.size
  have hS := hS.trans0 st45
  have hA44 := hA44.trans0 st45
  replace h43 := h43.up2 st45
  replace h1 := h1.up2 st45
  refine jAt hA44 (jBa rfl rfl ?_)
  have hA46 := Step.r0 (KN s2.n) s45
  refine jBt (g := bD) (i := 0) (j := 16) (pre := [cW a0.Gen]) (post := []) (xs := (y16 a0.Sum)) cB (fun _ => rfl) (fun _ => rfl) arr23 rfl h1 rfl rfl CutAt.none CutAt.none (by decide) (by decide) (by decide) rfl ?_
  intro h47
  replace h47 : SL s45 ⟨b1 + 1, 0⟩ (.slice (some ⟨b1, 1 + 0, none⟩) (16 - 0) (16 - 0)) 1 ((y16 a0.Sum).map bD) := h47
  refine jAt hA46 (jBg (jAp cal22 rfl (bcompare_w (a0 := (y16 a0.Sum)) (a1 := (y16 a1.Sum)) h47 h43) rfl ?_))
  rintro s48 _ st48 rfl
  have := st48.size
  have hS := hS.trans0 st48
  refine k_bslice2 (ds := ([x1, Lib.compareBytes (y16 a0.Sum) (y16 a1.Sum)] : List Int).map dI64) slc68 rfl (RVs.cons (R.val rfl) (RVs.cons (R.val rfl) RVs.nil)) (by rfl) (by rfl) rfl rfl ?_
  intro s49 v49 b49 st49 ge49 bl49 h49
  have := st49.size
  have hS := hS.trans0 st49
  have lt49 := Own.le1 h49
  obtain ⟨x6, hx6, h⟩ := ob h
  refine jAp cal20 rfl (cmp_Or_int_w  (h49.sl) hx6) rfl ?_
  rintro s50 vr50 st50 rfl
  have := st50.size
  have hS := hS.trans0 st50
  refine jAd rfl rfl (jAi (jAh [(4, _)] ⟨rfl, trivial⟩ (jAx ?_)))
  obtain rfl := Option.some.inj h
  refine ⟨_, rfl, Ret.mk hS ?_⟩
  exact rfl
 refine jBa rfl rfl ?_
 have hA51 := Step.r0 (KN s2.n) s3
 refine jBt (g := bD) (i := 0) (j := 16) (pre := [cW a0.Gen]) (post := []) (xs := (y16 a0.Sum)) cB (fun _ => rfl) (fun _ => rfl) arr23 rfl h1 rfl rfl CutAt.none CutAt.none (by decide) (by decide) (by decide) rfl ?_
 intro h52
 replace h52 : SL s3 ⟨b1 + 1, 0⟩ (.slice (some ⟨b1, 1 + 0, none⟩) (16 - 0) (16 - 0)) 1 ((y16 a0.Sum).map bD) := h52
 refine jAt hA51 (jBa rfl rfl ?_)
 have hA53 := Step.r0 (KN s2.n) s3
 refine jAp cal21 rfl (cmp_Compare_uint64_w   hx1) rfl ?_
 rintro s54 vr54 st54 rfl
 have := st54.size
 have hS := hS.trans0 st54
 have hA53 := hA53.trans0 st54
 replace h43 := h43.up2 st54
 replace h52 := h52.up2 st54
 refine jAt hA53 (jBg (jAp cal22 rfl (bcompare_w (a0 := (y16 a0.Sum)) (a1 := (y16 a1.Sum)) h52 h43) rfl ?_))
 rintro s55 _ st55 rfl
 have := st55.size
 have hS := hS.trans0 st55
 refine k_bslice2 (ds := ([x1, Lib.compareBytes (y16 a0.Sum) (y16 a1.Sum)] : List Int).map dI64) slc68 rfl (RVs.cons (R.val rfl) (RVs.cons (R.val rfl) RVs.nil)) (by rfl) (by rfl) rfl rfl ?_
 intro s56 v56 b56 st56 ge56 bl56 h56
 have := st56.size
 have hS := hS.trans0 st56
 have lt56 := Own.le1 h56
 obtain ⟨x7, hx7, h⟩ := ob h
 refine jAp cal20 rfl (cmp_Or_int_w  (h56.sl) hx7) rfl ?_
 rintro s57 vr57 st57 rfl
 have := st57.size
 have hS := hS.trans0 st57
 refine jAd rfl rfl (jAi (jAh [(4, _)] ⟨rfl, trivial⟩ (jAx ?_)))
 obtain rfl := Option.some.inj h
 refine ⟨_, rfl, Ret.mk hS ?_⟩
 exact rfl
theorem rev_Chain_w {s : St} {l0 : Lab} {v0 : Value} {a0 : (List ApiRev)} {r : Bool} (hp0 : SL s l0 v0 17 (a0.map dApiRev)) (h : rev_Chain a0 = some r) : Calls Tryz.prog 14 #[v0] s.w (Ret s K0 (fun s1 v => v = .bool r)) := by
 unfold rev_Chain at h
 obtain ⟨lf0, lf0le, lf0ne, hp0⟩ := hp0.fix
 have hS := Step.r0 K0 s
 refine k_fn (rs := [2]) (args := [v0]) Tryz.func14 rfl rfl rfl rfl (jAg (jAa (jAd rfl rfl (jAi (jAg ?_)))))
 obtain ⟨kj1, hK1, h⟩ := jn_out h
 have hE1 := Step.r0 K0 s
 refine jBp (X := St) [(0, v0), (2, .bool false)] (fun (xL : St) => match xL with | sl => []) (fun (xL : St) (wL : World) => match xL with | sl => sl.w = wL ∧ Step K0 s sl ∧ kj1 () = some r) ?_ ?_
 ·
  refine jAg (jAa (jAc rfl rfl (jCj Tryz.underlying60 rfl hp0.hasLen rfl (k_as (v := .int .i64 (a0.length : Int)) (by simp only [List.length_map]) (jAc rfl rfl (jAi (jAw (jBr (X := St × Int × Nat) [(0, _), (2, _), (5, _), (6, _)] (fun (xL : St × Int × Nat) => match xL with | (sl, x2, j) => [(7, .int .i64 x2)]) (fun (xL : St × Int × Nat) (wL : World) => match xL with | (sl, x2, j) => sl.w = wL ∧ Step K0 s sl ∧ rev_Chain_l1 a0 kj1 j x2 = some r) (fun (xL : St × Int × Nat) => match xL with | (sl, x2, j) => j) (s, 0, FU) ⟨rfl, rfl, rfl, rfl, trivial⟩ ⟨lr, trivial⟩ ⟨rfl, (Step.refl _).of0 li, h⟩ ?_))))))))
  rintro ⟨s3, x2, j⟩ wL ⟨rfl, hE2, h⟩
  cases j with
  | zero => rw [rev_Chain_l1] at h; exact (noneNe h).elim
  | succ j =>
  rw [rev_Chain_l1] at h
  have := hE2.size
  have hS := hS.trans0 hE2
  have hE1 := hE1.trans0 hE2
  replace hp0 := hp0.up2 hE2
  refine jAg (jAa (jBw rfl rfl rfl (jAi (jAg (jAl rfl (fun c4 => ?_) (fun c4 => ?_))))))
  ·
   have h := itT h c4
   refine jAv (jAg (jAw (jAg (jAa (jAc rfl rfl ?_)))))
   obtain ⟨x3, hx3, h⟩ := ob h
   refine jCd Tryz.underlying60 size25 rfl rfl hp0 (jAk hx3).1 (jAr hx3) rfl ?_
   intro qx3 hqx3
   refine jCr (by exact agg25) rfl hqx3 rfl ?_
   intro cs5 h5
   obtain rfl := opnApiRev h5
   refine jBj zero25 rfl ?_
   intro s6 b6 st6 h6 ge6
   have := st6.size
   have hS := hS.trans0 st6
   have hE1 := hE1.trans0 st6
   have hE2 := hE2.trans0 st6
   replace hp0 := hp0.up2 st6
   have lt6 := h6.lt
   refine jAd rfl rfl (jAo (cs' := (a17 x3.Gen x3.Sum)) size25 rfl rfl h6 lz (CellsOf.lit rfl rfl) rfl lq rfl ?_)
   intro s7 st7 h6
   have := st7.size
   have hS := hS.c0 st7
   have hE1 := hE1.c0 st7
   have hE2 := hE2.c0 st7
   replace hp0 := hp0.up2 st7
   refine jAi (jAh [(0, _), (2, _), (3, _), (4, _), (5, _), (6, _), (7, _)] ⟨rfl, rfl, rfl, rfl, rfl, rfl, rfl, trivial⟩ (jAg (jBl (KN s7.n) 19 (.read 0 (.alt 1 (.read 2 (.read 3 (.read 4 (.read 5 (.read 6 (.read 7 (.read 8 (.read 9 (.read 10 (.read 11 (.read 12 (.read 13 (.read 14 (.read 15 (.read 16 (.read 17 (.read 18 .fin))))))))))))))))) .no)) mixed lw rfl rfl rfl ?_)))
   intro s8 st8
   have := st8.size
   have hS := hS.trans0 st8
   have hE1 := hE1.trans0 st8
   have hE2 := hE2.trans0 st8
   replace hp0 := hp0.up2 st8
   replace h6 := h6.up2 st8
   refine jAb (.agg (a17 x3.Gen x3.Sum).toArray) rfl rfl (fun s9 st9 => ?_) ?_
   ·try replace h6 := h6.up2 st9
    exact jAs (cs := (a17 x3.Gen x3.Sum)) agg25 rfl h6 rfl (jAe)
   refine jBa rfl rfl ?_
   have hA10 := Step.r0 (KN s7.n) s8
   obtain ⟨x4, hx4, h⟩ := ob h
   refine jAp cal8 rfl (rev_May_w  (clsApiRev x3) hx4) rfl ?_
   rintro s11 vr11 st11 rfl
   have := st11.size
   have hS := hS.trans0 st11
   have hE1 := hE1.trans0 st11
   have hE2 := hE2.trans0 st11
   have hA10 := hA10.trans0 st11
   replace hp0 := hp0.up2 st11
   replace h6 := h6.up2 st11
   refine jAt hA10 (jAb (.bool (!x4)) rfl rfl (fun s12 st12 => ?_) ?_)
   ·exact jDd rfl rfl (jAe)
   refine jAb (.bool (!x4)) rfl rfl (fun s13 st13 => ?_) ?_
   ·exact jAc rfl rfl (jAe)
   refine rt_splitb (fun c14 => ?_) (fun c14 => ?_)
   ·
    have h := ibT h c14
    refine jAb undef rfl rfl (fun s15 st15 => ?_) ?_
    ·exact k_no rfl rfl rfl rfl (jAe)
    refine jAb undef rfl rfl (fun s16 st16 => ?_) ?_
    ·exact k_no rfl rfl rfl rfl (jAe)
    refine jAb undef rfl rfl (fun s17 st17 => ?_) ?_
    ·exact k_no rfl rfl rfl rfl (jAe)
    refine jAb undef rfl rfl (fun s18 st18 => ?_) ?_
    ·exact jCb rfl rfl rfl rfl (jAe)
    refine jAb undef rfl rfl (fun s19 st19 => ?_) ?_
    ·exact jCb rfl rfl rfl rfl (jAe)
    refine jAb undef rfl rfl (fun s20 st20 => ?_) ?_
    ·exact jCb rfl rfl rfl rfl (jAe)
    refine jAb undef rfl rfl (fun s21 st21 => ?_) ?_
    ·exact jCb rfl rfl rfl rfl (jAe)
    refine jAb undef rfl rfl (fun s22 st22 => ?_) ?_
    ·exact jCb rfl rfl rfl rfl (jAe)
    refine jAb undef rfl rfl (fun s23 st23 => ?_) ?_
    ·exact jCb rfl rfl rfl rfl (jAe)
    refine jAb undef rfl rfl (fun s24 st24 => ?_) ?_
    ·exact jCb rfl rfl rfl rfl (jAe)
    refine jAb undef rfl rfl (fun s25 st25 => ?_) ?_
    ·exact jCb rfl rfl rfl rfl (jAe)
    refine jAb undef rfl rfl (fun s26 st26 => ?_) ?_
    ·exact jCb rfl rfl rfl rfl (jAe)
    refine jAb undef rfl rfl (fun s27 st27 => ?_) ?_
    ·exact jCb rfl rfl rfl rfl (jAe)
    refine jAb undef rfl rfl (fun s28 st28 => ?_) ?_
    ·exact k_no rfl rfl rfl rfl (jAe)
    refine jAb (.bool true) rfl rfl (fun s29 st29 => ?_) ?_
    ·exact jAz rfl rfl rfl rfl (jAe)
    refine jBg (jAi (jAh [(0, _), (2, _), (5, _), (6, _), (7, _), (30, _)] ⟨rfl, rfl, rfl, rfl, rfl, rfl, trivial⟩ (jCt rfl (jAg (jAa (jAd rfl rfl (jAi (jAh [(0, _), (2, _), (5, _), (6, _), (7, _)] ⟨rfl, rfl, rfl, rfl, rfl, trivial⟩ (jAx ?_)))))))))
    obtain rfl := Option.some.inj h
    refine ⟨_, rfl, Ret.mk hS ?_⟩
    exact rfl
   have h := ibF h c14
   refine jAb (.int .i64 x2) rfl rfl (fun s30 st30 => ?_) ?_
   ·exact jAn rfl rfl (jAc rfl rfl (jAe))
   refine jAb (.bool (decide (0 < x2))) rfl rfl (fun s31 st31 => ?_) ?_
   ·exact jAn rfl rfl (jCu rfl rfl rfl (jAe))
   refine jAb (.bool (decide (0 < x2))) rfl rfl (fun s32 st32 => ?_) ?_
   ·exact jAn rfl rfl (jAc rfl rfl (jAe))
   refine rt_split (fun c33 => ?_) (fun c33 => ?_)
   ·
    have h := itT h c33
    refine jAb (pZ b6) rfl rfl (fun s34 st34 => ?_) ?_
    ·exact jAn rfl rfl (jAf fld25_0 rfl rfl (jAe))
    refine jAb (cW x3.Gen) rfl rfl (fun s35 st35 => ?_) ?_
    ·try replace h6 := h6.up2 st35
     exact jAn rfl rfl (jAj one22 rfl h6 rfl rfl (jAe))
    refine jAb (cW (ofI64 ((x3.Gen.toNat : Int) + 1))) rfl rfl (fun s36 st36 => ?_) ?_
    ·exact jAn rfl rfl (jBo rfl rfl rfl (k_as (congrArg (Value.int .u64) (w64 _)) (jAe)))
    refine jAb (v0) rfl rfl (fun s37 st37 => ?_) ?_
    ·exact jAn rfl rfl (jAc rfl rfl (jAe))
    refine jAb (.int .i64 x2) rfl rfl (fun s38 st38 => ?_) ?_
    ·exact jAn rfl rfl (jAc rfl rfl (jAe))
    refine jAb (.int .i64 (i64 (x2 - 1))) rfl rfl (fun s39 st39 => ?_) ?_
    ·exact jAn rfl rfl (jDa rfl rfl rfl (jAe))
    obtain ⟨x5, hx5, h⟩ := ob h
    refine jBy rfl (wanted_yes rfl rfl rfl) Tryz.underlying60 size25 rfl rfl hp0 (jAk hx5).1 (jAr hx5) rfl ?_
    intro q40 hq40
    refine rt_fa rfl (wanted_yes rfl rfl rfl) rfl hq40 (by rfl) fld25_0 rfl ?_
    intro q41 h41
    refine jAb (cW x5.Gen) rfl rfl (fun s42 st42 => ?_) ?_
    ·try replace h41 := h41.up2 st42
     exact jAn rfl rfl (jAq one22 rfl h41 rfl (jAe))
    refine jAb (.bool (decide (((ofI64 ((x3.Gen.toNat : Int) + 1)).toNat : Int) ≠ (x5.Gen.toNat : Int)))) rfl rfl (fun s43 st43 => ?_) ?_
    ·exact jAn rfl rfl (jDe rfl rfl rfl (jAe))
    refine jAb (.bool (decide (((ofI64 ((x3.Gen.toNat : Int) + 1)).toNat : Int) ≠ (x5.Gen.toNat : Int)))) rfl rfl (fun s44 st44 => ?_) ?_
    ·exact jAn rfl rfl (jAz rfl rfl rfl rfl (jAe))
    refine jAb (.bool (decide (((ofI64 ((x3.Gen.toNat : Int) + 1)).toNat : Int) ≠ (x5.Gen.toNat : Int)))) rfl rfl (fun s45 st45 => ?_) ?_
    ·exact jAy rfl rfl rfl rfl (jAe)
    refine jBg (jAi (jAh [(0, _), (2, _), (5, _), (6, _), (7, _), (30, _)] ⟨rfl, rfl, rfl, rfl, rfl, rfl, trivial⟩ (jAl rfl (fun c46 => ?_) (fun c46 => ?_))))
    ·
     have h := itT h c46
     refine jAg (jAa (jAd rfl rfl (jAi (jAh [(0, _), (2, _), (5, _), (6, _), (7, _)] ⟨rfl, rfl, rfl, rfl, rfl, trivial⟩ (jAx ?_)))))
     obtain rfl := Option.some.inj h
     refine ⟨_, rfl, Ret.mk hS ?_⟩
     exact rfl
    have h := itF h c46
    exact jAv (jCe (jAa (jBo rfl rfl rfl (jAc rfl rfl (jAi (jAu ⟨(s11, i64 (x2 + 1), j), ⟨lr, trivial⟩, ⟨rfl, rfl, rfl, rfl, trivial⟩, ⟨rfl, hE2, h⟩, (by simp)⟩))))))
   have h := itF h c33
   refine jAb undef rfl rfl (fun s47 st47 => ?_) ?_
   ·exact k_no rfl rfl rfl rfl (jAe)
   refine jAb undef rfl rfl (fun s48 st48 => ?_) ?_
   ·exact k_no rfl rfl rfl rfl (jAe)
   refine jAb undef rfl rfl (fun s49 st49 => ?_) ?_
   ·exact k_no rfl rfl rfl rfl (jAe)
   refine jAb undef rfl rfl (fun s50 st50 => ?_) ?_
   ·exact k_no rfl rfl rfl rfl (jAe)
   refine jAb undef rfl rfl (fun s51 st51 => ?_) ?_
   ·exact k_no rfl rfl rfl rfl (jAe)
   refine jAb undef rfl rfl (fun s52 st52 => ?_) ?_
   ·exact k_no rfl rfl rfl rfl (jAe)
   refine jAb undef rfl rfl (fun s53 st53 => ?_) ?_
   ·exact k_no rfl rfl rfl rfl (jAe)
   refine jAb undef rfl rfl (fun s54 st54 => ?_) ?_
   ·exact k_no rfl rfl rfl rfl (jAe)
   refine jAb undef rfl rfl (fun s55 st55 => ?_) ?_
   ·exact k_no rfl rfl rfl rfl (jAe)
   refine jAb undef rfl rfl (fun s56 st56 => ?_) ?_
   ·exact k_no rfl rfl rfl rfl (jAe)
   refine jAb (.bool false) rfl rfl (fun s57 st57 => ?_) ?_
   ·exact jAn rfl rfl (jAy rfl rfl rfl rfl (jAe))
   refine jAb (.bool false) rfl rfl (fun s58 st58 => ?_) ?_
   ·exact jAy rfl rfl rfl rfl (jAe)
   exact jBg (jAi (jAh [(0, _), (2, _), (5, _), (6, _), (7, _), (30, _)] ⟨rfl, rfl, rfl, rfl, rfl, rfl, trivial⟩ (jCv rfl (jAv (jCe (jAa (jBo rfl rfl rfl (jAc rfl rfl (jAi (jAu ⟨(s11, i64 (x2 + 1), j), ⟨lr, trivial⟩, ⟨rfl, rfl, rfl, rfl, trivial⟩, ⟨rfl, hE2, h⟩, (by simp)⟩))))))))))
  have h := itF h c4
  exact jBq rfl (jAu ⟨s3, trivial, ⟨rfl, rfl, trivial⟩, ⟨rfl, hE1, h⟩⟩)
 rintro s59 wL ⟨rfl, hE1, h⟩
 rw [hK1] at h
 have := hE1.size
 have hS := hS.trans0 hE1
 replace hp0 := hp0.up2 hE1
 refine jAg (jAa (jAc rfl rfl (jCj Tryz.underlying60 rfl hp0.hasLen rfl (k_as (v := .int .i64 (a0.length : Int)) (by simp only [List.length_map]) (k_geq rfl rfl rfl (jAc rfl rfl ?_))))))
 have hE60 := Step.r0 K0 s59
 refine jBm (X := St) 4 [(0, v0), (2, .bool false), (32, v0), (33, .int .i64 (a0.length : Int)), (34, .bool (decide (1 ≤ (a0.length : Int))))] (fun _ => [(39, .bool (decide ((1 ≤ (a0.length : Int)) ∧ ((a0.length : Int) ≤ 16))))]) (fun sl wL => sl.w = wL ∧ Step K0 s59 sl) ?_ ?_
 ·
  refine jBb 35 rfl (jBh (fun c61 => ?_) (fun c61 => ?_))
  ·
   exact jAn rfl rfl (jAc rfl rfl (jAn rfl rfl (jCj Tryz.underlying60 rfl hp0.hasLen rfl (k_as (v := .int .i64 (a0.length : Int)) (by simp only [List.length_map]) (jAn rfl rfl (k_leq rfl rfl rfl (jAz rfl rfl rfl rfl (jBc ⟨s59, ⟨lb, trivial⟩, ⟨rfl, rfl, rfl, rfl, rfl, trivial⟩, rfl, hE60⟩))))))))
  exact k_no rfl rfl rfl rfl (k_no rfl rfl rfl rfl (k_no rfl rfl rfl rfl (jAy rfl rfl rfl rfl (jBc ⟨s59, ⟨lb, trivial⟩, ⟨rfl, rfl, rfl, rfl, rfl, trivial⟩, rfl, hE60⟩))))
 rintro s62 wL ⟨rfl, hE60⟩
 have := hE60.size
 have hS := hS.trans0 hE60
 refine jAd rfl rfl (jAi (jAh [(2, _)] ⟨rfl, trivial⟩ (jAx ?_)))
 obtain rfl := Option.some.inj h
 refine ⟨_, rfl, Ret.mk hS ?_⟩
 exact rfl
theorem law06_awake_w {s : St}  {r : Bool} (tb2 : Tab2 s) (tb0 : Tab0 s) (tb1 : Tab1 s) (h : law06_awake = some r) : Calls Tryz.prog 5 #[] s.w (Ret s K0 (fun s1 v => v = .bool r)) := by
 unfold law06_awake at h
 have hS := Step.r0 K0 s
 refine k_fn (rs := [0]) (args := []) Tryz.func5 rfl rfl rfl rfl (jAg (jAa (jAd rfl rfl (jAi (jAg (jAa (jCa plc25 zero25 rfl Parts.nil (by rfl) rfl (k_as (v := .agg z17.toArray) rfl (jCa plc29 zero29 rfl Parts.nil (by rfl) rfl (k_as (v := .agg #[.int .i64 0, .int .i64 0, S ([] : List UInt8), .slice none 0 0, .slice none 0 0]) rfl ?_))))))))))
 obtain ⟨x1, hx1, h⟩ := ob h
 refine jAp cal6 rfl (rev_Make_w  (clsApiRev (⟨(0 : UInt64), (⟨(0 : UInt8), (0 : UInt8), (0 : UInt8), (0 : UInt8), (0 : UInt8), (0 : UInt8), (0 : UInt8), (0 : UInt8), (0 : UInt8), (0 : UInt8), (0 : UInt8), (0 : UInt8), (0 : UInt8), (0 : UInt8), (0 : UInt8), (0 : UInt8)⟩ : St23)⟩ : ApiRev)) (clsApiValue (⟨0, 0, ([] : List UInt8), [], []⟩ : ApiValue) (R.of_SL (.inl ⟨rfl, none, 0, rfl, fun _ => rfl⟩)) (R.of_SL (.inl ⟨rfl, none, 0, rfl, fun _ => rfl⟩))) tb2 hx1) rfl ?_
 rintro s1 vr1 st1 ⟨cs1_0, rfl, h1_0⟩
 have := st1.size
 have hS := hS.trans0 st1
 replace tb2 := tb2.up2 st1
 replace tb0 := tb0.up2 st1
 replace tb1 := tb1.up2 st1
 obtain rfl := opnApiRev h1_0
 refine jAc rfl rfl (jBd rfl rfl rfl (jBd rfl rfl rfl (jBj zero25 rfl ?_)))
 intro s2 b2 st2 h2 ge2
 have := st2.size
 have hS := hS.trans0 st2
 replace tb2 := tb2.up2 st2
 replace tb0 := tb0.up2 st2
 replace tb1 := tb1.up2 st2
 have lt2 := h2.lt
 refine jAo (cs' := (a17 x1.1.Gen x1.1.Sum)) size25 rfl rfl h2 lz (CellsOf.lit rfl rfl) rfl lq rfl ?_
 intro s3 st3 h2
 have := st3.size
 have hS := hS.c0 st3
 replace tb2 := tb2.up2 st3
 replace tb0 := tb0.up2 st3
 replace tb1 := tb1.up2 st3
 refine jAd rfl rfl (jAi (jAh [(0, _), (1, _), (2, _)] ⟨rfl, rfl, rfl, trivial⟩ (jAg (jAa (jAs (cs := (a17 x1.1.Gen x1.1.Sum)) agg25 rfl h2 rfl (jCa plc29 zero29 rfl Parts.nil (by rfl) rfl (k_as (v := .agg #[.int .i64 0, .int .i64 0, S ([] : List UInt8), .slice none 0 0, .slice none 0 0]) rfl ?_)))))))
 obtain ⟨x2, hx2, h⟩ := ob h
 refine jAp cal6 rfl (rev_Make_w  (clsApiRev x1.1) (clsApiValue (⟨0, 0, ([] : List UInt8), [], []⟩ : ApiValue) (R.of_SL (.inl ⟨rfl, none, 0, rfl, fun _ => rfl⟩)) (R.of_SL (.inl ⟨rfl, none, 0, rfl, fun _ => rfl⟩))) tb2 hx2) rfl ?_
 rintro s4 vr4 st4 ⟨cs4_0, rfl, h4_0⟩
 have := st4.size
 have hS := hS.trans0 st4
 replace h2 := h2.up2 st4
 replace tb2 := tb2.up2 st4
 replace tb0 := tb0.up2 st4
 replace tb1 := tb1.up2 st4
 obtain rfl := opnApiRev h4_0
 refine jAc rfl rfl (jBd rfl rfl rfl (jBd rfl rfl rfl (jBj zero25 rfl ?_)))
 intro s5 b5 st5 h5 ge5
 have := st5.size
 have hS := hS.trans0 st5
 replace h2 := h2.up2 st5
 replace tb2 := tb2.up2 st5
 replace tb0 := tb0.up2 st5
 replace tb1 := tb1.up2 st5
 have lt5 := h5.lt
 refine jAo (cs' := (a17 x2.1.Gen x2.1.Sum)) size25 rfl rfl h5 lz (CellsOf.lit rfl rfl) rfl lq rfl ?_
 intro s6 st6 h5
 have := st6.size
 have hS := hS.c0 st6
 replace h2 := h2.up2 st6
 replace tb2 := tb2.up2 st6
 replace tb0 := tb0.up2 st6
 replace tb1 := tb1.up2 st6
 refine jAd rfl rfl (jAi (jAh [(0, _), (1, _), (2, _), (3, _), (4, _)] ⟨rfl, rfl, rfl, rfl, rfl, trivial⟩ (jAg (jAa ?_))))
 obtain ⟨x3, hx3, h⟩ := ob h
 refine jAp cal13 rfl (rev_Parse_w  tb0 tb1 tb2 hx3) rfl ?_
 rintro s7 vr7 st7 ⟨cs7_0, rfl, h7_0⟩
 have := st7.size
 have hS := hS.trans0 st7
 replace h2 := h2.up2 st7
 replace h5 := h5.up2 st7
 replace tb2 := tb2.up2 st7
 replace tb0 := tb0.up2 st7
 replace tb1 := tb1.up2 st7
 obtain rfl := opnApiRev h7_0
 refine jAc rfl rfl (jBd rfl rfl rfl (jBd rfl rfl rfl (jBj zero25 rfl ?_)))
 intro s8 b8 st8 h8 ge8
 have := st8.size
 have hS := hS.trans0 st8
 replace h2 := h2.up2 st8
 replace h5 := h5.up2 st8
 replace tb2 := tb2.up2 st8
 replace tb0 := tb0.up2 st8
 replace tb1 := tb1.up2 st8
 have lt8 := h8.lt
 refine jAo (cs' := (a17 x3.1.Gen x3.1.Sum)) size25 rfl rfl h8 lz (CellsOf.lit rfl rfl) rfl lq rfl ?_
 intro s9 st9 h8
 have := st9.size
 have hS := hS.c0 st9
 replace h2 := h2.up2 st9
 replace h5 := h5.up2 st9
 replace tb2 := tb2.up2 st9
 replace tb0 := tb0.up2 st9
 replace tb1 := tb1.up2 st9
 refine jAd rfl rfl (jAi (jAh [(0, _), (1, _), (2, _), (3, _), (4, _), (5, _), (6, _)] ⟨rfl, rfl, rfl, rfl, rfl, rfl, rfl, trivial⟩ (jAg (jAa ?_))))
 obtain ⟨x4, hx4, h⟩ := ob h
 refine jAp cal13 rfl (rev_Parse_w  tb0 tb1 tb2 hx4) rfl ?_
 rintro s10 vr10 st10 ⟨cs10_0, rfl, h10_0⟩
 have := st10.size
 have hS := hS.trans0 st10
 replace h2 := h2.up2 st10
 replace h5 := h5.up2 st10
 replace h8 := h8.up2 st10
 obtain rfl := opnApiRev h10_0
 refine jAc rfl rfl (jBd rfl rfl rfl (jBd rfl rfl rfl (jBj zero25 rfl ?_)))
 intro s11 b11 st11 h11 ge11
 have := st11.size
 have hS := hS.trans0 st11
 replace h2 := h2.up2 st11
 replace h5 := h5.up2 st11
 replace h8 := h8.up2 st11
 have lt11 := h11.lt
 refine jAo (cs' := (a17 x4.1.Gen x4.1.Sum)) size25 rfl rfl h11 lz (CellsOf.lit rfl rfl) rfl lq rfl ?_
 intro s12 st12 h11
 have := st12.size
 have hS := hS.c0 st12
 replace h2 := h2.up2 st12
 replace h5 := h5.up2 st12
 replace h8 := h8.up2 st12
 refine jAd rfl rfl (jAi (jAh [(0, _), (1, _), (2, _), (3, _), (4, _), (5, _), (6, _), (8, _)] ⟨rfl, rfl, rfl, rfl, rfl, rfl, rfl, rfl, trivial⟩ (jAg (jAa (jAc rfl rfl (jCc rfl rfl rfl (jAc rfl rfl ?_)))))))
 have hE13 := Step.r0 K0 s12
 refine jBm (X := St) 3 [(0, .bool false), (1, pZ b2), (2, .int .i64 x1.2), (3, pZ b5), (4, .int .i64 x2.2), (5, pZ b8), (6, .int .i64 x3.2), (8, .int .i64 x4.2), (29, .int .i64 x1.2), (30, .bool (decide (x1.2 = 0)))] (fun _ => [(34, .bool (decide ((x1.2 = 0) ∧ (x2.2 = 0))))]) (fun sl wL => sl.w = wL ∧ Step K0 s12 sl) ?_ ?_
 ·
  refine jBb 31 rfl (jBh (fun c14 => ?_) (fun c14 => ?_))
  ·
   exact jAn rfl rfl (jAc rfl rfl (jAn rfl rfl (jCc rfl rfl rfl (jAz rfl rfl rfl rfl (jBc ⟨s12, ⟨lb, trivial⟩, ⟨rfl, rfl, rfl, rfl, rfl, rfl, rfl, rfl, rfl, rfl, trivial⟩, rfl, hE13⟩)))))
  exact k_no rfl rfl rfl rfl (k_no rfl rfl rfl rfl (jAy rfl rfl rfl rfl (jBc ⟨s12, ⟨lb, trivial⟩, ⟨rfl, rfl, rfl, rfl, rfl, rfl, rfl, rfl, rfl, rfl, trivial⟩, rfl, hE13⟩)))
 rintro s15 wL ⟨rfl, hE13⟩
 have := hE13.size
 have hS := hS.trans0 hE13
 replace h2 := h2.up2 hE13
 replace h5 := h5.up2 hE13
 replace h8 := h8.up2 hE13
 refine jAc rfl rfl ?_
 have hE16 := Step.r0 K0 s15
 refine jBm (X := St) 4 [(0, .bool false), (1, pZ b2), (2, .int .i64 x1.2), (3, pZ b5), (4, .int .i64 x2.2), (5, pZ b8), (6, .int .i64 x3.2), (8, .int .i64 x4.2), (29, .int .i64 x1.2), (30, .bool (decide (x1.2 = 0))), (34, .bool (decide ((x1.2 = 0) ∧ (x2.2 = 0))))] (fun _ => [(39, .bool (decide (((x1.2 = 0) ∧ (x2.2 = 0)) ∧ ((x1.1.Gen.toNat : Int) = 1))))]) (fun sl wL => sl.w = wL ∧ Step K0 s15 sl) ?_ ?_
 ·
  refine jBb 35 rfl (jBh (fun c17 => ?_) (fun c17 => ?_))
  ·
   exact jAn rfl rfl (jAf fld25_0 rfl rfl (jAn rfl rfl (jAj one22 rfl h2 rfl rfl (jAn rfl rfl (jCc rfl rfl rfl (jAz rfl rfl rfl rfl (jBc ⟨s15, ⟨lb, trivial⟩, ⟨rfl, rfl, rfl, rfl, rfl, rfl, rfl, rfl, rfl, rfl, rfl, trivial⟩, rfl, hE16⟩)))))))
  exact k_no rfl rfl rfl rfl (k_no rfl rfl rfl rfl (k_no rfl rfl rfl rfl (jAy rfl rfl rfl rfl (jBc ⟨s15, ⟨lb, trivial⟩, ⟨rfl, rfl, rfl, rfl, rfl, rfl, rfl, rfl, rfl, rfl, rfl, trivial⟩, rfl, hE16⟩))))
 rintro s18 wL ⟨rfl, hE16⟩
 have := hE16.size
 have hS := hS.trans0 hE16
 replace h2 := h2.up2 hE16
 replace h5 := h5.up2 hE16
 replace h8 := h8.up2 hE16
 refine jAc rfl rfl ?_
 have hE19 := Step.r0 K0 s18
 refine jBm (X := St) 4 [(0, .bool false), (1, pZ b2), (2, .int .i64 x1.2), (3, pZ b5), (4, .int .i64 x2.2), (5, pZ b8), (6, .int .i64 x3.2), (8, .int .i64 x4.2), (29, .int .i64 x1.2), (30, .bool (decide (x1.2 = 0))), (34, .bool (decide ((x1.2 = 0) ∧ (x2.2 = 0)))), (39, .bool (decide (((x1.2 = 0) ∧ (x2.2 = 0)) ∧ ((x1.1.Gen.toNat : Int) = 1))))] (fun _ => [(44, .bool (decide ((((x1.2 = 0) ∧ (x2.2 = 0)) ∧ ((x1.1.Gen.toNat : Int) = 1)) ∧ ((x2.1.Gen.toNat : Int) = 2))))]) (fun sl wL => sl.w = wL ∧ Step K0 s18 sl) ?_ ?_
 ·
  refine jBb 40 rfl (jBh (fun c20 => ?_) (fun c20 => ?_))
  ·
   exact jAn rfl rfl (jAf fld25_0 rfl rfl (jAn rfl rfl (jAj one22 rfl h5 rfl rfl (jAn rfl rfl (jCc rfl rfl rfl (jAz rfl rfl rfl rfl (jBc ⟨s18, ⟨lb, trivial⟩, ⟨rfl, rfl, rfl, rfl, rfl, rfl, rfl, rfl, rfl, rfl, rfl, rfl, trivial⟩, rfl, hE19⟩)))))))
  exact k_no rfl rfl rfl rfl (k_no rfl rfl rfl rfl (k_no rfl rfl rfl rfl (jAy rfl rfl rfl rfl (jBc ⟨s18, ⟨lb, trivial⟩, ⟨rfl, rfl, rfl, rfl, rfl, rfl, rfl, rfl, rfl, rfl, rfl, rfl, trivial⟩, rfl, hE19⟩))))
 rintro s21 wL ⟨rfl, hE19⟩
 have := hE19.size
 have hS := hS.trans0 hE19
 replace h2 := h2.up2 hE19
 replace h5 := h5.up2 hE19
 replace h8 := h8.up2 hE19
 refine jAc rfl rfl ?_
 have hE22 := Step.r0 K0 s21
 refine jBm (X := St) 3 [(0, .bool false), (1, pZ b2), (2, .int .i64 x1.2), (3, pZ b5), (4, .int .i64 x2.2), (5, pZ b8), (6, .int .i64 x3.2), (8, .int .i64 x4.2), (29, .int .i64 x1.2), (30, .bool (decide (x1.2 = 0))), (34, .bool (decide ((x1.2 = 0) ∧ (x2.2 = 0)))), (39, .bool (decide (((x1.2 = 0) ∧ (x2.2 = 0)) ∧ ((x1.1.Gen.toNat : Int) = 1)))), (44, .bool (decide ((((x1.2 = 0) ∧ (x2.2 = 0)) ∧ ((x1.1.Gen.toNat : Int) = 1)) ∧ ((x2.1.Gen.toNat : Int) = 2))))] (fun _ => [(48, .bool (decide (((((x1.2 = 0) ∧ (x2.2 = 0)) ∧ ((x1.1.Gen.toNat : Int) = 1)) ∧ ((x2.1.Gen.toNat : Int) = 2)) ∧ (x3.2 = 0))))]) (fun sl wL => sl.w = wL ∧ Step K0 s21 sl) ?_ ?_
 ·
  refine jBb 45 rfl (jBh (fun c23 => ?_) (fun c23 => ?_))
  ·
   exact jAn rfl rfl (jAc rfl rfl (jAn rfl rfl (jCc rfl rfl rfl (jAz rfl rfl rfl rfl (jBc ⟨s21, ⟨lb, trivial⟩, ⟨rfl, rfl, rfl, rfl, rfl, rfl, rfl, rfl, rfl, rfl, rfl, rfl, rfl, trivial⟩, rfl, hE22⟩)))))
  exact k_no rfl rfl rfl rfl (k_no rfl rfl rfl rfl (jAy rfl rfl rfl rfl (jBc ⟨s21, ⟨lb, trivial⟩, ⟨rfl, rfl, rfl, rfl, rfl, rfl, rfl, rfl, rfl, rfl, rfl, rfl, rfl, trivial⟩, rfl, hE22⟩)))
 rintro s24 wL ⟨rfl, hE22⟩
 have := hE22.size
 have hS := hS.trans0 hE22
 replace h2 := h2.up2 hE22
 replace h5 := h5.up2 hE22
 replace h8 := h8.up2 hE22
 refine jAc rfl rfl ?_
 have hE25 := Step.r0 K0 s24
 refine jBm (X := St) 4 [(0, .bool false), (1, pZ b2), (2, .int .i64 x1.2), (3, pZ b5), (4, .int .i64 x2.2), (5, pZ b8), (6, .int .i64 x3.2), (8, .int .i64 x4.2), (29, .int .i64 x1.2), (30, .bool (decide (x1.2 = 0))), (34, .bool (decide ((x1.2 = 0) ∧ (x2.2 = 0)))), (39, .bool (decide (((x1.2 = 0) ∧ (x2.2 = 0)) ∧ ((x1.1.Gen.toNat : Int) = 1)))), (44, .bool (decide ((((x1.2 = 0) ∧ (x2.2 = 0)) ∧ ((x1.1.Gen.toNat : Int) = 1)) ∧ ((x2.1.Gen.toNat : Int) = 2)))), (48, .bool (decide (((((x1.2 = 0) ∧ (x2.2 = 0)) ∧ ((x1.1.Gen.toNat : Int) = 1)) ∧ ((x2.1.Gen.toNat : Int) = 2)) ∧ (x3.2 = 0))))] (fun _ => [(53, .bool (decide ((((((x1.2 = 0) ∧ (x2.2 = 0)) ∧ ((x1.1.Gen.toNat : Int) = 1)) ∧ ((x2.1.Gen.toNat : Int) = 2)) ∧ (x3.2 = 0)) ∧ ((x3.1.Gen.toNat : Int) = 2 ∧ (y16 x3.1.Sum) = z16))))]) (fun sl wL => sl.w = wL ∧ Step K0 s24 sl) ?_ ?_
 ·
  refine jBb 49 rfl (jBh (fun c26 => ?_) (fun c26 => ?_))
  ·
   exact jAn rfl rfl (jAs (cs := (a17 x3.1.Gen x3.1.Sum)) agg25 rfl h8 rfl (jAn rfl rfl (jCa plc25 zero25 rfl (Parts.cons (CellsOf.lit rfl rfl).1 Parts.nil) (by rfl) rfl (k_as (v := .agg #[.int .u64 2, .int .u8 0, .int .u8 0, .int .u8 0, .int .u8 0, .int .u8 0, .int .u8 0, .int .u8 0, .int .u8 0, .int .u8 0, .int .u8 0, .int .u8 0, .int .u8 0, .int .u8 0, .int .u8 0, .int .u8 0, .int .u8 0]) rfl (jAn rfl rfl (k_eql_fb (a := (x3.1.Gen.toNat : Int)) (b := 2) (xs := (y16 x3.1.Sum)) (ys := z16) flatB25 rfl rfl rfl rfl rfl (jAz rfl rfl rfl rfl (jBc ⟨s24, ⟨lb, trivial⟩, ⟨rfl, rfl, rfl, rfl, rfl, rfl, rfl, rfl, rfl, rfl, rfl, rfl, rfl, rfl, trivial⟩, rfl, hE25⟩))))))))
  exact k_no rfl rfl rfl rfl (k_no rfl rfl rfl rfl (k_no rfl rfl rfl rfl (jAy rfl rfl rfl rfl (jBc ⟨s24, ⟨lb, trivial⟩, ⟨rfl, rfl, rfl, rfl, rfl, rfl, rfl, rfl, rfl, rfl, rfl, rfl, rfl, rfl, trivial⟩, rfl, hE25⟩))))
 rintro s27 wL ⟨rfl, hE25⟩
 have := hE25.size
 have hS := hS.trans0 hE25
 replace h2 := h2.up2 hE25
 replace h5 := h5.up2 hE25
 refine jAc rfl rfl ?_
 have hE28 := Step.r0 K0 s27
 refine jBm (X := St) 3 [(0, .bool false), (1, pZ b2), (2, .int .i64 x1.2), (3, pZ b5), (4, .int .i64 x2.2), (5, pZ b8), (6, .int .i64 x3.2), (8, .int .i64 x4.2), (29, .int .i64 x1.2), (30, .bool (decide (x1.2 = 0))), (34, .bool (decide ((x1.2 = 0) ∧ (x2.2 = 0)))), (39, .bool (decide (((x1.2 = 0) ∧ (x2.2 = 0)) ∧ ((x1.1.Gen.toNat : Int) = 1)))), (44, .bool (decide ((((x1.2 = 0) ∧ (x2.2 = 0)) ∧ ((x1.1.Gen.toNat : Int) = 1)) ∧ ((x2.1.Gen.toNat : Int) = 2)))), (48, .bool (decide (((((x1.2 = 0) ∧ (x2.2 = 0)) ∧ ((x1.1.Gen.toNat : Int) = 1)) ∧ ((x2.1.Gen.toNat : Int) = 2)) ∧ (x3.2 = 0)))), (53, .bool (decide ((((((x1.2 = 0) ∧ (x2.2 = 0)) ∧ ((x1.1.Gen.toNat : Int) = 1)) ∧ ((x2.1.Gen.toNat : Int) = 2)) ∧ (x3.2 = 0)) ∧ ((x3.1.Gen.toNat : Int) = 2 ∧ (y16 x3.1.Sum) = z16))))] (fun _ => [(57, .bool (decide (((((((x1.2 = 0) ∧ (x2.2 = 0)) ∧ ((x1.1.Gen.toNat : Int) = 1)) ∧ ((x2.1.Gen.toNat : Int) = 2)) ∧ (x3.2 = 0)) ∧ ((x3.1.Gen.toNat : Int) = 2 ∧ (y16 x3.1.Sum) = z16)) ∧ (x4.2 = 2))))]) (fun sl wL => sl.w = wL ∧ Step K0 s27 sl) ?_ ?_
 ·
  refine jBb 54 rfl (jBh (fun c29 => ?_) (fun c29 => ?_))
  ·
   exact jAn rfl rfl (jAc rfl rfl (jAn rfl rfl (jCc rfl rfl rfl (jAz rfl rfl rfl rfl (jBc ⟨s27, ⟨lb, trivial⟩, ⟨rfl, rfl, rfl, rfl, rfl, rfl, rfl, rfl, rfl, rfl, rfl, rfl, rfl, rfl, rfl, trivial⟩, rfl, hE28⟩)))))
  exact k_no rfl rfl rfl rfl (k_no rfl rfl rfl rfl (jAy rfl rfl rfl rfl (jBc ⟨s27, ⟨lb, trivial⟩, ⟨rfl, rfl, rfl, rfl, rfl, rfl, rfl, rfl, rfl, rfl, rfl, rfl, rfl, rfl, rfl, trivial⟩, rfl, hE28⟩)))
 rintro s30 wL ⟨rfl, hE28⟩
 have := hE28.size
 have hS := hS.trans0 hE28
 replace h2 := h2.up2 hE28
 replace h5 := h5.up2 hE28
 refine jAc rfl rfl ?_
 obtain ⟨x5, hx5, h⟩ := ob h
 have hE31 := Step.r0 K0 s30
 refine jBm (X := St) 5 [(0, .bool false), (1, pZ b2), (2, .int .i64 x1.2), (3, pZ b5), (4, .int .i64 x2.2), (5, pZ b8), (6, .int .i64 x3.2), (8, .int .i64 x4.2), (29, .int .i64 x1.2), (30, .bool (decide (x1.2 = 0))), (34, .bool (decide ((x1.2 = 0) ∧ (x2.2 = 0)))), (39, .bool (decide (((x1.2 = 0) ∧ (x2.2 = 0)) ∧ ((x1.1.Gen.toNat : Int) = 1)))), (44, .bool (decide ((((x1.2 = 0) ∧ (x2.2 = 0)) ∧ ((x1.1.Gen.toNat : Int) = 1)) ∧ ((x2.1.Gen.toNat : Int) = 2)))), (48, .bool (decide (((((x1.2 = 0) ∧ (x2.2 = 0)) ∧ ((x1.1.Gen.toNat : Int) = 1)) ∧ ((x2.1.Gen.toNat : Int) = 2)) ∧ (x3.2 = 0)))), (53, .bool (decide ((((((x1.2 = 0) ∧ (x2.2 = 0)) ∧ ((x1.1.Gen.toNat : Int) = 1)) ∧ ((x2.1.Gen.toNat : Int) = 2)) ∧ (x3.2 = 0)) ∧ ((x3.1.Gen.toNat : Int) = 2 ∧ (y16 x3.1.Sum) = z16)))), (57, .bool (decide (((((((x1.2 = 0) ∧ (x2.2 = 0)) ∧ ((x1.1.Gen.toNat : Int) = 1)) ∧ ((x2.1.Gen.toNat : Int) = 2)) ∧ (x3.2 = 0)) ∧ ((x3.1.Gen.toNat : Int) = 2 ∧ (y16 x3.1.Sum) = z16)) ∧ (x4.2 = 2))))] (fun _ => [(63, .bool x5)]) (fun sl wL => sl.w = wL ∧ Step K0 s30 sl) ?_ ?_
 ·
  refine jBb 58 rfl (jBh (fun c32 => ?_) (fun c32 => ?_))
  ·
   have hx5 := itT hx5 c32
   refine jAn rfl rfl (jAs (cs := (a17 x1.1.Gen x1.1.Sum)) agg25 rfl h2 rfl (jAn rfl rfl (jAs (cs := (a17 x2.1.Gen x2.1.Sum)) agg25 rfl h5 rfl (jAn rfl rfl ?_))))
   obtain ⟨x6, hx6, hx5⟩ := ob hx5
   refine jAp cal10 rfl (rev_Cmp_w  (clsApiRev x1.1) (clsApiRev x2.1) hx6) rfl ?_
   rintro s33 vr33 st33 rfl
   have := st33.size
   have hS := hS.trans0 st33
   have hE31 := hE31.trans0 st33
   exact jAn rfl rfl (jBw rfl rfl rfl (jAz rfl rfl rfl rfl (jBc ⟨s33, ⟨(congrArg (fun b => some (Value.bool b)) (Option.some.inj hx5)), trivial⟩, ⟨rfl, rfl, rfl, rfl, rfl, rfl, rfl, rfl, rfl, rfl, rfl, rfl, rfl, rfl, rfl, rfl, trivial⟩, rfl, hE31⟩)))
  have hx5 := itF hx5 c32
  exact k_no rfl rfl rfl rfl (k_no rfl rfl rfl rfl (k_no rfl rfl rfl rfl (k_no rfl rfl rfl rfl (jAy rfl rfl rfl rfl (jBc ⟨s30, ⟨(congrArg (fun b => some (Value.bool b)) (Option.some.inj hx5)), trivial⟩, ⟨rfl, rfl, rfl, rfl, rfl, rfl, rfl, rfl, rfl, rfl, rfl, rfl, rfl, rfl, rfl, rfl, trivial⟩, rfl, hE31⟩)))))
 rintro s34 wL ⟨rfl, hE31⟩
 have := hE31.size
 have hS := hS.trans0 hE31
 replace h2 := h2.up2 hE31
 replace h5 := h5.up2 hE31
 refine jAc rfl rfl ?_
 obtain ⟨x7, hx7, h⟩ := ob h
 have hE35 := Step.r0 K0 s34
 refine jBm (X := St) 5 [(0, .bool false), (1, pZ b2), (2, .int .i64 x1.2), (3, pZ b5), (4, .int .i64 x2.2), (5, pZ b8), (6, .int .i64 x3.2), (8, .int .i64 x4.2), (29, .int .i64 x1.2), (30, .bool (decide (x1.2 = 0))), (34, .bool (decide ((x1.2 = 0) ∧ (x2.2 = 0)))), (39, .bool (decide (((x1.2 = 0) ∧ (x2.2 = 0)) ∧ ((x1.1.Gen.toNat : Int) = 1)))), (44, .bool (decide ((((x1.2 = 0) ∧ (x2.2 = 0)) ∧ ((x1.1.Gen.toNat : Int) = 1)) ∧ ((x2.1.Gen.toNat : Int) = 2)))), (48, .bool (decide (((((x1.2 = 0) ∧ (x2.2 = 0)) ∧ ((x1.1.Gen.toNat : Int) = 1)) ∧ ((x2.1.Gen.toNat : Int) = 2)) ∧ (x3.2 = 0)))), (53, .bool (decide ((((((x1.2 = 0) ∧ (x2.2 = 0)) ∧ ((x1.1.Gen.toNat : Int) = 1)) ∧ ((x2.1.Gen.toNat : Int) = 2)) ∧ (x3.2 = 0)) ∧ ((x3.1.Gen.toNat : Int) = 2 ∧ (y16 x3.1.Sum) = z16)))), (57, .bool (decide (((((((x1.2 = 0) ∧ (x2.2 = 0)) ∧ ((x1.1.Gen.toNat : Int) = 1)) ∧ ((x2.1.Gen.toNat : Int) = 2)) ∧ (x3.2 = 0)) ∧ ((x3.1.Gen.toNat : Int) = 2 ∧ (y16 x3.1.Sum) = z16)) ∧ (x4.2 = 2)))), (63, .bool x5)] (fun _ => [(69, .bool x7)]) (fun sl wL => sl.w = wL ∧ Step K0 s34 sl) ?_ ?_
 ·
  refine jBb 64 rfl (jCn (fun c36 => ?_) (fun c36 => ?_))
  ·
   have hx7 := ibT hx7 c36
   refine jAn rfl rfl (jAs (cs := (a17 x2.1.Gen x2.1.Sum)) agg25 rfl h5 rfl (jAn rfl rfl (jAs (cs := (a17 x1.1.Gen x1.1.Sum)) agg25 rfl h2 rfl (jAn rfl rfl (k_bslice2 (ds := ([x2.1, x1.1] : List ApiRev).map dApiRev) slc60 rfl (RVs.cons ⟨_, rfl, (clsApiRev x2.1)⟩ (RVs.cons ⟨_, rfl, (clsApiRev x1.1)⟩ RVs.nil)) (by rfl) (by rfl) rfl rfl ?_)))))
   intro s37 v37 b37 st37 ge37 bl37 h37
   have := st37.size
   have hS := hS.trans0 st37
   have hE35 := hE35.trans0 st37
   have lt37 := Own.le1 h37
   refine jAn rfl rfl ?_
   obtain ⟨x8, hx8, hx7⟩ := ob hx7
   refine jAp cal14 rfl (rev_Chain_w  (h37.sl) hx8) rfl ?_
   rintro s38 vr38 st38 rfl
   have := st38.size
   have hS := hS.trans0 st38
   have hE35 := hE35.trans0 st38
   exact jAz rfl rfl rfl rfl (jBc ⟨s38, ⟨(congrArg (fun b => some (Value.bool b)) (Option.some.inj hx7)), trivial⟩, ⟨rfl, rfl, rfl, rfl, rfl, rfl, rfl, rfl, rfl, rfl, rfl, rfl, rfl, rfl, rfl, rfl, rfl, trivial⟩, rfl, hE35⟩)
  have hx7 := ibF hx7 c36
  exact k_no rfl rfl rfl rfl (k_no rfl rfl rfl rfl (k_no rfl rfl rfl rfl (k_no rfl rfl rfl rfl (jAy rfl rfl rfl rfl (jBc ⟨s34, ⟨(congrArg (fun b => some (Value.bool b)) (Option.some.inj hx7)), trivial⟩, ⟨rfl, rfl, rfl, rfl, rfl, rfl, rfl, rfl, rfl, rfl, rfl, rfl, rfl, rfl, rfl, rfl, rfl, trivial⟩, rfl, hE35⟩)))))
 rintro s39 wL ⟨rfl, hE35⟩
 have := hE35.size
 have hS := hS.trans0 hE35
 refine jAd rfl rfl (jAi (jAh [(0, _)] ⟨rfl, trivial⟩ (jAx ?_)))
 obtain rfl := Option.some.inj h
 refine ⟨_, rfl, Ret.mk hS ?_⟩
 exact rfl
theorem ref06_May_w {s : St} {cs0 : List Value} {a0 : ApiRev} {r : Bool} (hp0 : RC s cs0 (dApiRev a0)) (h : ref06_May a0 = some r) : Calls Tryz.prog 9 #[.agg cs0.toArray] s.w (Ret s K0 (fun s1 v => v = .bool r)) := by
 unfold ref06_May at h
 obtain rfl := opnApiRev hp0
 have hS := Step.r0 K0 s
 refine k_fn (rs := [2]) (args := [.agg (a17 a0.Gen a0.Sum).toArray]) Tryz.func9 rfl rfl rfl rfl (jAg (jAa (jCp rfl rfl ?_)))
 intro s1 b1 st1 h1 ge1
 have := st1.size
 have hS := hS.trans0 st1
 have lt1 := h1.lt
 refine jAd rfl rfl (jAi (jAh [(1, _), (2, _)] ⟨rfl, rfl, trivial⟩ (jAg (jAa (jAf fld25_0 rfl rfl (jAj one22 rfl h1 rfl rfl (jCu rfl rfl rfl (jAc rfl rfl ?_))))))))
 have hE2 := Step.r0 K0 s1
 refine jBm (X := St) 4 [(1, pZ b1), (2, .bool false), (3, pZ b1), (4, cW a0.Gen), (5, .bool (decide (0 < (a0.Gen.toNat : Int))))] (fun _ => [(10, .bool (decide ((0 < (a0.Gen.toNat : Int)) ∧ ((a0.Gen.toNat : Int) < 4611686018427387904))))]) (fun sl wL => sl.w = wL ∧ Step K0 s1 sl) ?_ ?_
 ·
  refine jBb 6 rfl (jBh (fun c3 => ?_) (fun c3 => ?_))
  ·
   exact jAn rfl rfl (jAf fld25_0 rfl rfl (jAn rfl rfl (jAj one22 rfl h1 rfl rfl (jAn rfl rfl (jBw rfl rfl rfl (jAz rfl rfl rfl rfl (jBc ⟨s1, ⟨(congrArg (fun b => some (Value.bool b)) (by first | exact decide_eq_decide.2 ⟨fun h => ⟨c3, h⟩, fun h => h.2⟩ | exact (decide_eq_false (fun h => c3 h.1)).symm | (simp [c3]; done) | exact dec_andT c3 | exact dec_andF c3 | exact dec_orF c3 | exact dec_orT c3 | (simp [c3, i64] <;> omega))), trivial⟩, ⟨rfl, rfl, rfl, rfl, rfl, trivial⟩, rfl, hE2⟩)))))))
  exact k_no rfl rfl rfl rfl (k_no rfl rfl rfl rfl (k_no rfl rfl rfl rfl (jAy rfl rfl rfl rfl (jBc ⟨s1, ⟨(congrArg (fun b => some (Value.bool b)) (by first | exact decide_eq_decide.2 ⟨fun h => ⟨c3, h⟩, fun h => h.2⟩ | exact (decide_eq_false (fun h => c3 h.1)).symm | (simp [c3]; done) | exact dec_andT c3 | exact dec_andF c3 | exact dec_orF c3 | exact dec_orT c3 | (simp [c3, i64] <;> omega))), trivial⟩, ⟨rfl, rfl, rfl, rfl, rfl, trivial⟩, rfl, hE2⟩))))
 rintro s4 wL ⟨rfl, hE2⟩
 have := hE2.size
 have hS := hS.trans0 hE2
 refine jAd rfl rfl (jAi (jAh [(2, _)] ⟨rfl, trivial⟩ (jAx ?_)))
 obtain rfl := Option.some.inj h
 refine ⟨_, rfl, Ret.mk hS ?_⟩
 exact rfl
theorem ref01_Deep_s_w {s : St} {cs0 : List Value} {a0 : ApiValue} {a1 : Int} {a70 : (ApiValue → Int → Option Int)} {r : Int} (hp0 : RC s cs0 (dApiValue a0)) (ih70 : ∀ {s : St} {cs0 : List Value} {a0 : ApiValue} {a1 : Int} {r : Int} (hp0 : RC s cs0 (dApiValue a0)) (h : a70 a0 a1 = some r), Calls Tryz.prog 31 #[.agg cs0.toArray, .int .i64 a1] s.w (Ret s K0 (fun s1 v => v = .int .i64 r))) (h : ref01_Deep_s a70 a0 a1 = some r) : Calls Tryz.prog 31 #[.agg cs0.toArray, .int .i64 a1] s.w (Ret s K0 (fun s1 v => v = .int .i64 r)) := by
 unfold ref01_Deep_s at h
 obtain ⟨q0_0, q0_1, rfl, hq0_0, hq0_1⟩ := opnApiValue hp0
 have hS := Step.r0 K0 s
 refine k_fn (rs := [4]) (args := [.agg #[.int .i64 a0.Kind, .int .i64 a0.Num, S a0.Text, q0_0, q0_1], .int .i64 a1]) Tryz.func31 rfl rfl rfl rfl (jAg (jAa (jCp rfl rfl ?_)))
 intro s1 b1 st1 h1 ge1
 have := st1.size
 have hS := hS.trans0 st1
 replace hq0_0 := hq0_0.up2 st1
 have lt1 := h1.lt
 refine jAd rfl rfl (jAi (jAh [(1, _), (2, _), (4, _)] ⟨rfl, rfl, rfl, trivial⟩ (jAg (jAa (jAd rfl rfl (jAi (jAg (jAg (jAa (jAc rfl rfl (jBw rfl rfl rfl (jAi (jAh [(1, _), (2, _), (4, _), (5, _), (8, _)] ⟨rfl, rfl, rfl, rfl, rfl, trivial⟩ (jAl rfl (fun c2 => ?_) (fun c2 => ?_)))))))))))))))
 ·
  have h := itT h c2
  refine jAg (jAa (jAd rfl rfl (jAi (jAh [(1, _), (2, _), (4, _), (5, _)] ⟨rfl, rfl, rfl, rfl, trivial⟩ (jAx ?_)))))
  obtain rfl := Option.some.inj h
  refine ⟨_, rfl, Ret.mk hS ?_⟩
  exact rfl
 have h := itF h c2
 refine jAv (jAg (jAh [(1, _), (2, _), (4, _), (5, _)] ⟨rfl, rfl, rfl, rfl, trivial⟩ ?_))
 obtain ⟨kj1, hK3, h⟩ := jn_out h
 have hE3 := Step.r0 K0 s1
 refine jBp (X := St × Int) [(4, .int .i64 0)] (fun (xL : St × Int) => match xL with | (sl, x2) => [(5, .int .i64 x2)]) (fun (xL : St × Int) (wL : World) => match xL with | (sl, x2) => sl.w = wL ∧ Step K0 s1 sl ∧ kj1 x2 = some r) ?_ ?_
 ·
  refine jAg (jAa (jAd rfl rfl (jAi (jAw (jBr (X := St × Int × Int × Nat) [(1, _), (2, _), (4, _)] (fun (xL : St × Int × Int × Nat) => match xL with | (sl, x3, x4, j) => [(5, .int .i64 x3), (6, .int .i64 x4)]) (fun (xL : St × Int × Int × Nat) (wL : World) => match xL with | (sl, x3, x4, j) => sl.w = wL ∧ Step K0 s1 sl ∧ ref01_Deep_s_l1 a0 a70 a1 kj1 j x3 x4 = some r) (fun (xL : St × Int × Int × Nat) => match xL with | (sl, x3, x4, j) => j) (s1, 0, 0, FU) ⟨rfl, rfl, rfl, trivial⟩ ⟨lr, lr, trivial⟩ ⟨rfl, (Step.refl _).of0 li, h⟩ ?_)))))
  rintro ⟨s5, x3, x4, j⟩ wL ⟨rfl, hE4, h⟩
  cases j with
  | zero => rw [ref01_Deep_s_l1] at h; exact (noneNe h).elim
  | succ j =>
  rw [ref01_Deep_s_l1] at h
  have := hE4.size
  have hS := hS.trans0 hE4
  have hE3 := hE3.trans0 hE4
  replace hq0_0 := hq0_0.up2 hE4
  replace h1 := h1.up2 hE4
  refine jAg (jAg (jAa (jAc rfl rfl (jAf fld29_3 rfl rfl (jAj one26 rfl h1 rfl rfl (jCj Tryz.underlying26 rfl (SL.of_R hq0_0).hasLen rfl (k_as (v := .int .i64 (a0.List_.length : Int)) (by simp only [List.length_map]) (jBw rfl rfl rfl (jAi (jAh [(1, _), (2, _), (4, _), (5, _), (6, _), (13, _)] ⟨rfl, rfl, rfl, rfl, rfl, rfl, trivial⟩ (jAl rfl (fun c6 => ?_) (fun c6 => ?_))))))))))))
  ·
   have h := itT h c6
   refine jAv (jAg (jAw (jAa (jAc rfl rfl (jAf fld29_3 rfl rfl (jAj one26 rfl h1 rfl rfl (jAc rfl rfl ?_)))))))
   obtain ⟨x5, hx5, h⟩ := ob h
   refine jCd Tryz.underlying26 size29 rfl rfl (SL.of_R hq0_0) (jAk hx5).1 (jAr hx5) rfl ?_
   intro qx5 hqx5
   refine jCr (by exact agg29) rfl hqx5 rfl ?_
   intro cs7 h7
   obtain ⟨q7_0, q7_1, rfl, hq7_0, hq7_1⟩ := opnApiValue h7
   refine jAc rfl rfl (jDa rfl rfl rfl ?_)
   obtain ⟨x6, hx6, h⟩ := ob h
   refine jAp cal31 rfl (ih70  (clsApiValue x5 hq7_0 hq7_1) hx6) rfl ?_
   rintro s8 vr8 st8 rfl
   have := st8.size
   have hS := hS.trans0 st8
   have hE3 := hE3.trans0 st8
   have hE4 := hE4.trans0 st8
   exact k_max2 rfl rfl rfl (jAd rfl rfl (jAi (jCe (jAa (jAc rfl rfl (jBo rfl rfl rfl (jAd rfl rfl (jAi (jAu ⟨(s8, max x3 x6, i64 (x4 + 1), j), ⟨lr, lr, trivial⟩, ⟨rfl, rfl, rfl, trivial⟩, ⟨rfl, hE4, h⟩, (by simp)⟩)))))))))
  have h := itF h c6
  exact jBq rfl (jAu ⟨(s5, x3), ⟨lr, trivial⟩, ⟨rfl, trivial⟩, ⟨rfl, hE3, h⟩⟩)
 rintro ⟨s9, x2⟩ wL ⟨rfl, hE3, h⟩
 rw [hK3] at h
 have := hE3.size
 have hS := hS.trans0 hE3
 refine jAg (jAa (jAc rfl rfl (jBo rfl rfl rfl (jAd rfl rfl (jAi (jAh [(4, _)] ⟨rfl, trivial⟩ (jAx ?_)))))))
 obtain rfl := Option.some.inj h
 refine ⟨_, rfl, Ret.mk hS ?_⟩
 exact rfl
theorem ref01_Deep_rw (j : Nat) : ∀ {s : St} {cs0 : List Value} {a0 : ApiValue} {a1 : Int} {r : Int} (hp0 : RC s cs0 (dApiValue a0)) (h : ref01_Deep_r j a0 a1 = some r), Calls Tryz.prog 31 #[.agg cs0.toArray, .int .i64 a1] s.w (Ret s K0 (fun s1 v => v = .int .i64 r)) := by
 induction j with
 | zero => intro s cs0 a0 a1 r hp0 h; rw [ref01_Deep_r] at h; exact (noneNe h).elim
 | succ j ih => intro s cs0 a0 a1 r hp0 h; rw [ref01_Deep_r] at h; exact ref01_Deep_s_w hp0 ih h
theorem ref01_Deep_w {s : St} {cs0 : List Value} {a0 : ApiValue} {a1 : Int} {r : Int} (hp0 : RC s cs0 (dApiValue a0)) (h : ref01_Deep a0 a1 = some r) : Calls Tryz.prog 31 #[.agg cs0.toArray, .int .i64 a1] s.w (Ret s K0 (fun s1 v => v = .int .i64 r)) := ref01_Deep_rw (FU + (dpApiValue a0)) hp0 h
theorem ref01_plain_w {s : St} {a0 : (List UInt8)} {r : Bool}  (h : ref01_plain a0 = some r) : Calls Tryz.prog 49 #[S a0] s.w (Ret s K0 (fun s1 v => v = .bool r)) := by
 unfold ref01_plain at h
 have hS := Step.r0 K0 s
 refine k_fn (rs := [2]) (args := [S a0]) Tryz.func49 rfl rfl rfl rfl (jAg (jAa (jAd rfl rfl (jAi (jAg ?_)))))
 obtain ⟨kj1, hK1, h⟩ := jn_out h
 have hE1 := Step.r0 K0 s
 refine jBp (X := St) [(2, .bool false)] (fun (xL : St) => match xL with | sl => []) (fun (xL : St) (wL : World) => match xL with | sl => sl.w = wL ∧ Step K0 s sl ∧ kj1 () = some r) ?_ ?_
 ·
  refine jAg (jAa (jAd rfl rfl (jAi (jAw (jBr (X := St × Int × Nat) [(0, _), (2, _)] (fun (xL : St × Int × Nat) => match xL with | (sl, x2, j) => [(3, .int .i64 x2)]) (fun (xL : St × Int × Nat) (wL : World) => match xL with | (sl, x2, j) => sl.w = wL ∧ Step K0 s sl ∧ ref01_plain_l1 a0 kj1 j x2 = some r) (fun (xL : St × Int × Nat) => match xL with | (sl, x2, j) => j) (s, 0, FU) ⟨rfl, rfl, trivial⟩ ⟨lr, trivial⟩ ⟨rfl, (Step.refl _).of0 li, h⟩ ?_)))))
  rintro ⟨s3, x2, j⟩ wL ⟨rfl, hE2, h⟩
  cases j with
  | zero => rw [ref01_plain_l1] at h; exact (noneNe h).elim
  | succ j =>
  rw [ref01_plain_l1] at h
  have := hE2.size
  have hS := hS.trans0 hE2
  have hE1 := hE1.trans0 hE2
  refine jAg (jAg (jAa (jAc rfl rfl (jAc rfl rfl (jCf Tryz.underlying9 rfl rfl (jBw rfl rfl rfl (jAi (jAh [(0, _), (2, _), (3, _), (7, _)] ⟨rfl, rfl, rfl, rfl, trivial⟩ (jAl rfl (fun c4 => ?_) (fun c4 => ?_))))))))))
  ·
   have h := itT h c4
   refine jAv (jAg (jAw (jAg (jAa (jAc rfl rfl (jAc rfl rfl ?_))))))
   obtain ⟨x3, hx3, h⟩ := ob h
   refine jBi Tryz.underlying9 rfl rfl (jAk hx3).1 (jAk hx3).2.1 rfl (k_as (congrArg (fun c : UInt8 => cB c) (jBs hx3)) (jBw rfl rfl rfl (jAc rfl rfl ?_)))
   obtain ⟨x4, hx4, h⟩ := ob h
   have hE5 := Step.r0 K0 s3
   refine jBm (X := St) 5 [(0, S a0), (2, .bool false), (3, .int .i64 x2), (7, .bool (decide (x2 < (a0.length : Int)))), (10, S a0), (11, .int .i64 x2), (12, cB x3), (13, .bool (decide ((x3.toNat : Int) < 32)))] (fun _ => [(19, .bool x4)]) (fun sl wL => sl.w = wL ∧ Step K0 s3 sl) ?_ ?_
   ·
    refine jBb 14 rfl (jBh (fun c6 => ?_) (fun c6 => ?_))
    ·
     have hx4 := itT hx4 c6
     exact k_no rfl rfl rfl rfl (k_no rfl rfl rfl rfl (k_no rfl rfl rfl rfl (k_no rfl rfl rfl rfl (jAz rfl rfl rfl rfl (jBc ⟨s3, ⟨(congrArg (fun b => some (Value.bool b)) (Option.some.inj hx4)), trivial⟩, ⟨rfl, rfl, rfl, rfl, rfl, rfl, rfl, rfl, trivial⟩, rfl, hE5⟩)))))
    have hx4 := itF hx4 c6
    refine jAn rfl rfl (jAc rfl rfl (jAn rfl rfl (jAc rfl rfl (jAn rfl rfl ?_))))
    obtain ⟨x5, hx5, hx4⟩ := ob hx4
    exact jBi Tryz.underlying9 rfl rfl (jAk hx5).1 (jAk hx5).2.1 rfl (k_as (congrArg (fun c : UInt8 => cB c) (jBs hx5)) (jAn rfl rfl (jCu rfl rfl rfl (jAy rfl rfl rfl rfl (jBc ⟨s3, ⟨(congrArg (fun b => some (Value.bool b)) (Option.some.inj hx4)), trivial⟩, ⟨rfl, rfl, rfl, rfl, rfl, rfl, rfl, rfl, trivial⟩, rfl, hE5⟩)))))
   rintro s7 wL ⟨rfl, hE5⟩
   have := hE5.size
   have hS := hS.trans0 hE5
   have hE1 := hE1.trans0 hE5
   have hE2 := hE2.trans0 hE5
   refine jAi (jAh [(0, _), (2, _), (3, _), (19, _)] ⟨rfl, rfl, rfl, rfl, trivial⟩ (jCk rfl (fun c8 => ?_) (fun c8 => ?_)))
   ·
    have h := ibT h c8
    refine jAg (jAa (jAd rfl rfl (jAi (jAh [(0, _), (2, _), (3, _)] ⟨rfl, rfl, rfl, trivial⟩ (jAx ?_)))))
    obtain rfl := Option.some.inj h
    refine ⟨_, rfl, Ret.mk hS ?_⟩
    exact rfl
   have h := ibF h c8
   exact jAv (jCe (jAa (jAc rfl rfl (jBo rfl rfl rfl (jAd rfl rfl (jAi (jAu ⟨(s7, i64 (x2 + 1), j), ⟨lr, trivial⟩, ⟨rfl, rfl, trivial⟩, ⟨rfl, hE2, h⟩, (by simp)⟩)))))))
  have h := itF h c4
  exact jBq rfl (jAu ⟨s3, trivial, ⟨rfl, trivial⟩, ⟨rfl, hE1, h⟩⟩)
 rintro s9 wL ⟨rfl, hE1, h⟩
 rw [hK1] at h
 have := hE1.size
 have hS := hS.trans0 hE1
 refine jAg (jAa (jAd rfl rfl (jAi (jAx ?_))))
 obtain rfl := Option.some.inj h
 refine ⟨_, rfl, Ret.mk hS ?_⟩
 exact rfl
theorem ref01_Key_w {s : St} {a0 : (List UInt8)} {r : Bool}  (h : ref01_Key a0 = some r) : Calls Tryz.prog 50 #[S a0] s.w (Ret s K0 (fun s1 v => v = .bool r)) := by
 unfold ref01_Key at h
 have hS := Step.r0 K0 s
 refine k_fn (rs := [2]) (args := [S a0]) Tryz.func50 rfl rfl rfl rfl (jAg (jAa (jAd rfl rfl (jAi (jAg (jAg (jAa (jAc rfl rfl (jCf Tryz.underlying9 rfl rfl (jBw rfl rfl rfl (jAc rfl rfl ?_)))))))))))
 have hE1 := Step.r0 K0 s
 refine jBm (X := St) 4 [(0, S a0), (2, .bool false), (4, S a0), (5, .int .i64 (a0.length : Int)), (6, .bool (decide ((a0.length : Int) < 1)))] (fun _ => [(11, .bool (decide (((a0.length : Int) < 1) ∨ (24 < (a0.length : Int)))))]) (fun sl wL => sl.w = wL ∧ Step K0 s sl) ?_ ?_
 ·
  refine jBb 7 rfl (jBh (fun c2 => ?_) (fun c2 => ?_))
  ·
   exact k_no rfl rfl rfl rfl (k_no rfl rfl rfl rfl (k_no rfl rfl rfl rfl (jAz rfl rfl rfl rfl (jBc ⟨s, ⟨lb, trivial⟩, ⟨rfl, rfl, rfl, rfl, rfl, trivial⟩, rfl, hE1⟩))))
  exact jAn rfl rfl (jAc rfl rfl (jAn rfl rfl (jCf Tryz.underlying9 rfl rfl (jAn rfl rfl (jCu rfl rfl rfl (jAy rfl rfl rfl rfl (jBc ⟨s, ⟨lb, trivial⟩, ⟨rfl, rfl, rfl, rfl, rfl, trivial⟩, rfl, hE1⟩)))))))
 rintro s3 wL ⟨rfl, hE1⟩
 have := hE1.size
 have hS := hS.trans0 hE1
 refine jAi (jAh [(0, _), (2, _), (11, _)] ⟨rfl, rfl, rfl, trivial⟩ (jAl rfl (fun c4 => ?_) (fun c4 => ?_)))
 ·
  have h := itT h c4
  refine jAg (jAa (jAd rfl rfl (jAi (jAh [(0, _), (2, _)] ⟨rfl, rfl, trivial⟩ (jAx ?_)))))
  obtain rfl := Option.some.inj h
  refine ⟨_, rfl, Ret.mk hS ?_⟩
  exact rfl
 have h := itF h c4
 refine jAv (jAg (jAh [(0, _), (2, _)] ⟨rfl, rfl, trivial⟩ ?_))
 obtain ⟨kj1, hK5, h⟩ := jn_out h
 have hE5 := Step.r0 K0 s3
 refine jBp (X := St) [(2, .bool false)] (fun (xL : St) => match xL with | sl => []) (fun (xL : St) (wL : World) => match xL with | sl => sl.w = wL ∧ Step K0 s3 sl ∧ kj1 () = some r) ?_ ?_
 ·
  refine jAg (jAa (jAd rfl rfl (jAi (jAw (jBr (X := St × Int × Nat) [(0, _), (2, _)] (fun (xL : St × Int × Nat) => match xL with | (sl, x2, j) => [(3, .int .i64 x2)]) (fun (xL : St × Int × Nat) (wL : World) => match xL with | (sl, x2, j) => sl.w = wL ∧ Step K0 s3 sl ∧ ref01_Key_l1 a0 kj1 j x2 = some r) (fun (xL : St × Int × Nat) => match xL with | (sl, x2, j) => j) (s3, 0, FU) ⟨rfl, rfl, trivial⟩ ⟨lr, trivial⟩ ⟨rfl, (Step.refl _).of0 li, h⟩ ?_)))))
  rintro ⟨s7, x2, j⟩ wL ⟨rfl, hE6, h⟩
  cases j with
  | zero => rw [ref01_Key_l1] at h; exact (noneNe h).elim
  | succ j =>
  rw [ref01_Key_l1] at h
  have := hE6.size
  have hS := hS.trans0 hE6
  have hE5 := hE5.trans0 hE6
  refine jAg (jAg (jAa (jAc rfl rfl (jAc rfl rfl (jCf Tryz.underlying9 rfl rfl (jBw rfl rfl rfl (jAi (jAh [(0, _), (2, _), (3, _), (15, _)] ⟨rfl, rfl, rfl, rfl, trivial⟩ (jAl rfl (fun c8 => ?_) (fun c8 => ?_))))))))))
  ·
   have h := itT h c8
   refine jAv (jAg (jAw (jAg (jAa (jAc rfl rfl (jAc rfl rfl ?_))))))
   obtain ⟨x3, hx3, h⟩ := ob h
   refine jBi Tryz.underlying9 rfl rfl (jAk hx3).1 (jAk hx3).2.1 rfl (k_as (congrArg (fun c : UInt8 => cB c) (jBs hx3)) (jBw rfl rfl rfl (jAc rfl rfl ?_)))
   obtain ⟨x4, hx4, h⟩ := ob h
   have hE9 := Step.r0 K0 s7
   refine jBm (X := St) 5 [(0, S a0), (2, .bool false), (3, .int .i64 x2), (15, .bool (decide (x2 < (a0.length : Int)))), (18, S a0), (19, .int .i64 x2), (20, cB x3), (21, .bool (decide ((x3.toNat : Int) < 33)))] (fun _ => [(27, .bool x4)]) (fun sl wL => sl.w = wL ∧ Step K0 s7 sl) ?_ ?_
   ·
    refine jBb 22 rfl (jBh (fun c10 => ?_) (fun c10 => ?_))
    ·
     have hx4 := itT hx4 c10
     exact k_no rfl rfl rfl rfl (k_no rfl rfl rfl rfl (k_no rfl rfl rfl rfl (k_no rfl rfl rfl rfl (jAz rfl rfl rfl rfl (jBc ⟨s7, ⟨(congrArg (fun b => some (Value.bool b)) (Option.some.inj hx4)), trivial⟩, ⟨rfl, rfl, rfl, rfl, rfl, rfl, rfl, rfl, trivial⟩, rfl, hE9⟩)))))
    have hx4 := itF hx4 c10
    refine jAn rfl rfl (jAc rfl rfl (jAn rfl rfl (jAc rfl rfl (jAn rfl rfl ?_))))
    obtain ⟨x5, hx5, hx4⟩ := ob hx4
    exact jBi Tryz.underlying9 rfl rfl (jAk hx5).1 (jAk hx5).2.1 rfl (k_as (congrArg (fun c : UInt8 => cB c) (jBs hx5)) (jAn rfl rfl (jCu rfl rfl rfl (jAy rfl rfl rfl rfl (jBc ⟨s7, ⟨(congrArg (fun b => some (Value.bool b)) (Option.some.inj hx4)), trivial⟩, ⟨rfl, rfl, rfl, rfl, rfl, rfl, rfl, rfl, trivial⟩, rfl, hE9⟩)))))
   rintro s11 wL ⟨rfl, hE9⟩
   have := hE9.size
   have hS := hS.trans0 hE9
   have hE5 := hE5.trans0 hE9
   have hE6 := hE6.trans0 hE9
   refine jAc rfl rfl ?_
   obtain ⟨x6, hx6, h⟩ := ob h
   have hE12 := Step.r0 K0 s11
   refine jBm (X := St) 5 [(0, S a0), (2, .bool false), (3, .int .i64 x2), (15, .bool (decide (x2 < (a0.length : Int)))), (18, S a0), (19, .int .i64 x2), (20, cB x3), (21, .bool (decide ((x3.toNat : Int) < 33))), (27, .bool x4)] (fun _ => [(33, .bool x6)]) (fun sl wL => sl.w = wL ∧ Step K0 s11 sl) ?_ ?_
   ·
    refine jBb 28 rfl (jCn (fun c13 => ?_) (fun c13 => ?_))
    ·
     have hx6 := ibT hx6 c13
     exact k_no rfl rfl rfl rfl (k_no rfl rfl rfl rfl (k_no rfl rfl rfl rfl (k_no rfl rfl rfl rfl (jAz rfl rfl rfl rfl (jBc ⟨s11, ⟨(congrArg (fun b => some (Value.bool b)) (Option.some.inj hx6)), trivial⟩, ⟨rfl, rfl, rfl, rfl, rfl, rfl, rfl, rfl, rfl, trivial⟩, rfl, hE12⟩)))))
    have hx6 := ibF hx6 c13
    refine jAn rfl rfl (jAc rfl rfl (jAn rfl rfl (jAc rfl rfl (jAn rfl rfl ?_))))
    obtain ⟨x7, hx7, hx6⟩ := ob hx6
    exact jBi Tryz.underlying9 rfl rfl (jAk hx7).1 (jAk hx7).2.1 rfl (k_as (congrArg (fun c : UInt8 => cB c) (jBs hx7)) (jAn rfl rfl (jCc rfl rfl rfl (jAy rfl rfl rfl rfl (jBc ⟨s11, ⟨(congrArg (fun b => some (Value.bool b)) (Option.some.inj hx6)), trivial⟩, ⟨rfl, rfl, rfl, rfl, rfl, rfl, rfl, rfl, rfl, trivial⟩, rfl, hE12⟩)))))
   rintro s14 wL ⟨rfl, hE12⟩
   have := hE12.size
   have hS := hS.trans0 hE12
   have hE5 := hE5.trans0 hE12
   have hE6 := hE6.trans0 hE12
   refine jAc rfl rfl ?_
   obtain ⟨x8, hx8, h⟩ := ob h
   have hE15 := Step.r0 K0 s14
   refine jBm (X := St) 5 [(0, S a0), (2, .bool false), (3, .int .i64 x2), (15, .bool (decide (x2 < (a0.length : Int)))), (18, S a0), (19, .int .i64 x2), (20, cB x3), (21, .bool (decide ((x3.toNat : Int) < 33))), (27, .bool x4), (33, .bool x6)] (fun _ => [(39, .bool x8)]) (fun sl wL => sl.w = wL ∧ Step K0 s14 sl) ?_ ?_
   ·
    refine jBb 34 rfl (jCn (fun c16 => ?_) (fun c16 => ?_))
    ·
     have hx8 := ibT hx8 c16
     exact k_no rfl rfl rfl rfl (k_no rfl rfl rfl rfl (k_no rfl rfl rfl rfl (k_no rfl rfl rfl rfl (jAz rfl rfl rfl rfl (jBc ⟨s14, ⟨(congrArg (fun b => some (Value.bool b)) (Option.some.inj hx8)), trivial⟩, ⟨rfl, rfl, rfl, rfl, rfl, rfl, rfl, rfl, rfl, rfl, trivial⟩, rfl, hE15⟩)))))
    have hx8 := ibF hx8 c16
    refine jAn rfl rfl (jAc rfl rfl (jAn rfl rfl (jAc rfl rfl (jAn rfl rfl ?_))))
    obtain ⟨x9, hx9, hx8⟩ := ob hx8
    exact jBi Tryz.underlying9 rfl rfl (jAk hx9).1 (jAk hx9).2.1 rfl (k_as (congrArg (fun c : UInt8 => cB c) (jBs hx9)) (jAn rfl rfl (jCc rfl rfl rfl (jAy rfl rfl rfl rfl (jBc ⟨s14, ⟨(congrArg (fun b => some (Value.bool b)) (Option.some.inj hx8)), trivial⟩, ⟨rfl, rfl, rfl, rfl, rfl, rfl, rfl, rfl, rfl, rfl, trivial⟩, rfl, hE15⟩)))))
   rintro s17 wL ⟨rfl, hE15⟩
   have := hE15.size
   have hS := hS.trans0 hE15
   have hE5 := hE5.trans0 hE15
   have hE6 := hE6.trans0 hE15
   refine jAi (jAh [(0, _), (2, _), (3, _), (39, _)] ⟨rfl, rfl, rfl, rfl, trivial⟩ (jCk rfl (fun c18 => ?_) (fun c18 => ?_)))
   ·
    have h := ibT h c18
    refine jAg (jAa (jAd rfl rfl (jAi (jAh [(0, _), (2, _), (3, _)] ⟨rfl, rfl, rfl, trivial⟩ (jAx ?_)))))
    obtain rfl := Option.some.inj h
    refine ⟨_, rfl, Ret.mk hS ?_⟩
    exact rfl
   have h := ibF h c18
   exact jAv (jCe (jAa (jAc rfl rfl (jBo rfl rfl rfl (jAd rfl rfl (jAi (jAu ⟨(s17, i64 (x2 + 1), j), ⟨lr, trivial⟩, ⟨rfl, rfl, trivial⟩, ⟨rfl, hE6, h⟩, (by simp)⟩)))))))
  have h := itF h c8
  exact jBq rfl (jAu ⟨s7, trivial, ⟨rfl, trivial⟩, ⟨rfl, hE5, h⟩⟩)
 rintro s19 wL ⟨rfl, hE5, h⟩
 rw [hK5] at h
 have := hE5.size
 have hS := hS.trans0 hE5
 refine jAg (jAa (jAd rfl rfl (jAi (jAx ?_))))
 obtain rfl := Option.some.inj h
 refine ⟨_, rfl, Ret.mk hS ?_⟩
 exact rfl
theorem ref01_fields_s_w {s : St} {cs0 : List Value} {a0 : ApiValue} {a70 : (ApiValue → Option Bool)} {r : Bool} (hp0 : RC s cs0 (dApiValue a0)) (ih70 : ∀ {s : St} {cs0 : List Value} {a0 : ApiValue} {r : Bool} (hp0 : RC s cs0 (dApiValue a0)) (h : a70 a0 = some r), Calls Tryz.prog 32 #[.agg cs0.toArray] s.w (Ret s K0 (fun s1 v => v = .bool r))) (h : ref01_fields_s a70 a0 = some r) : Calls Tryz.prog 32 #[.agg cs0.toArray] s.w (Ret s K0 (fun s1 v => v = .bool r)) := by
 unfold ref01_fields_s at h
 obtain ⟨q0_0, q0_1, rfl, hq0_0, hq0_1⟩ := opnApiValue hp0
 have hS := Step.r0 K0 s
 refine k_fn (rs := [2]) (args := [.agg #[.int .i64 a0.Kind, .int .i64 a0.Num, S a0.Text, q0_0, q0_1]]) Tryz.func32 rfl rfl rfl rfl (jAg (jAa (jCp rfl rfl ?_)))
 intro s1 b1 st1 h1 ge1
 have := st1.size
 have hS := hS.trans0 st1
 replace hq0_0 := hq0_0.up2 st1
 replace hq0_1 := hq0_1.up2 st1
 have lt1 := h1.lt
 refine jAd rfl rfl (jAi (jAh [(1, _), (2, _)] ⟨rfl, rfl, trivial⟩ (jAg (jAg (jAa (jAf fld29_0 rfl rfl (jAj one3 rfl h1 rfl rfl (jBw rfl rfl rfl (jAc rfl rfl ?_)))))))))
 have hE2 := Step.r0 K0 s1
 refine jBm (X := St) 4 [(1, pZ b1), (2, .bool false), (5, pZ b1), (6, .int .i64 a0.Kind), (7, .bool (decide (a0.Kind < 0)))] (fun _ => [(12, .bool (decide ((a0.Kind < 0) ∨ (6 < a0.Kind))))]) (fun sl wL => sl.w = wL ∧ Step K0 s1 sl) ?_ ?_
 ·
  refine jBb 8 rfl (jBh (fun c3 => ?_) (fun c3 => ?_))
  ·
   exact k_no rfl rfl rfl rfl (k_no rfl rfl rfl rfl (k_no rfl rfl rfl rfl (jAz rfl rfl rfl rfl (jBc ⟨s1, ⟨lb, trivial⟩, ⟨rfl, rfl, rfl, rfl, rfl, trivial⟩, rfl, hE2⟩))))
  exact jAn rfl rfl (jAf fld29_0 rfl rfl (jAn rfl rfl (jAj one3 rfl h1 rfl rfl (jAn rfl rfl (jCu rfl rfl rfl (jAy rfl rfl rfl rfl (jBc ⟨s1, ⟨lb, trivial⟩, ⟨rfl, rfl, rfl, rfl, rfl, trivial⟩, rfl, hE2⟩)))))))
 rintro s4 wL ⟨rfl, hE2⟩
 have := hE2.size
 have hS := hS.trans0 hE2
 replace hq0_0 := hq0_0.up2 hE2
 replace hq0_1 := hq0_1.up2 hE2
 replace h1 := h1.up2 hE2
 refine jAc rfl rfl ?_
 have hE5 := Step.r0 K0 s4
 refine jBm (X := St) 9 [(1, pZ b1), (2, .bool false), (5, pZ b1), (6, .int .i64 a0.Kind), (7, .bool (decide (a0.Kind < 0))), (12, .bool (decide ((a0.Kind < 0) ∨ (6 < a0.Kind))))] (fun _ => [(22, .bool (decide (((a0.Kind < 0) ∨ (6 < a0.Kind)) ∨ ((a0.Kind ≠ 3) ∧ (a0.Num ≠ 0)))))]) (fun sl wL => sl.w = wL ∧ Step K0 s4 sl) ?_ ?_
 ·
  refine jBb 13 rfl (jBh (fun c6 => ?_) (fun c6 => ?_))
  ·
   exact k_no rfl rfl rfl rfl (k_no rfl rfl rfl rfl (k_no rfl rfl rfl rfl (k_no rfl rfl rfl rfl (jCb rfl rfl rfl rfl (jCb rfl rfl rfl rfl (jCb rfl rfl rfl rfl (k_no rfl rfl rfl rfl (jAz rfl rfl rfl rfl (jBc ⟨s4, ⟨lb, trivial⟩, ⟨rfl, rfl, rfl, rfl, rfl, rfl, trivial⟩, rfl, hE5⟩)))))))))
  refine jAn rfl rfl (jAf fld29_0 rfl rfl (jAn rfl rfl (jAj one3 rfl h1 rfl rfl (jAn rfl rfl (jDe rfl rfl rfl (jAn rfl rfl (jAc rfl rfl ?_)))))))
  have hE7 := Step.r0 K0 s4
  refine jBm (X := St) 4 [(1, pZ b1), (2, .bool false), (5, pZ b1), (6, .int .i64 a0.Kind), (7, .bool (decide (a0.Kind < 0))), (12, .bool (decide ((a0.Kind < 0) ∨ (6 < a0.Kind)))), (13, .bool false), (14, pZ b1), (15, .int .i64 a0.Kind), (16, .bool (decide (a0.Kind ≠ 3)))] (fun _ => [(21, .bool (decide ((a0.Kind ≠ 3) ∧ (a0.Num ≠ 0))))]) (fun sl wL => sl.w = wL ∧ Step K0 s4 sl) ?_ ?_
  ·
   refine jBb 17 rfl (jBh (fun c8 => ?_) (fun c8 => ?_))
   ·
    exact jAn rfl rfl (jAf fld29_1 rfl rfl (jAn rfl rfl (jAj one2 rfl h1 rfl rfl (jAn rfl rfl (jDe rfl rfl rfl (jAn rfl rfl (jAz rfl rfl rfl rfl (jBc ⟨s4, ⟨lb, trivial⟩, ⟨rfl, rfl, rfl, rfl, rfl, rfl, rfl, rfl, rfl, rfl, trivial⟩, rfl, hE7⟩))))))))
   exact k_no rfl rfl rfl rfl (k_no rfl rfl rfl rfl (k_no rfl rfl rfl rfl (jAn rfl rfl (jAy rfl rfl rfl rfl (jBc ⟨s4, ⟨lb, trivial⟩, ⟨rfl, rfl, rfl, rfl, rfl, rfl, rfl, rfl, rfl, rfl, trivial⟩, rfl, hE7⟩)))))
  rintro s9 wL ⟨rfl, hE7⟩
  have := hE7.size
  have hS := hS.trans0 hE7
  have hE5 := hE5.trans0 hE7
  exact jAy rfl rfl rfl rfl (jBc ⟨s9, ⟨lb, trivial⟩, ⟨rfl, rfl, rfl, rfl, rfl, rfl, trivial⟩, rfl, hE5⟩)
 rintro s10 wL ⟨rfl, hE5⟩
 have := hE5.size
 have hS := hS.trans0 hE5
 replace hq0_0 := hq0_0.up2 hE5
 replace hq0_1 := hq0_1.up2 hE5
 replace h1 := h1.up2 hE5
 refine jAc rfl rfl ?_
 have hE11 := Step.r0 K0 s10
 refine jBm (X := St) 9 [(1, pZ b1), (2, .bool false), (5, pZ b1), (6, .int .i64 a0.Kind), (7, .bool (decide (a0.Kind < 0))), (12, .bool (decide ((a0.Kind < 0) ∨ (6 < a0.Kind)))), (22, .bool (decide (((a0.Kind < 0) ∨ (6 < a0.Kind)) ∨ ((a0.Kind ≠ 3) ∧ (a0.Num ≠ 0)))))] (fun _ => [(32, .bool (decide ((((a0.Kind < 0) ∨ (6 < a0.Kind)) ∨ ((a0.Kind ≠ 3) ∧ (a0.Num ≠ 0))) ∨ ((a0.Kind ≠ 4) ∧ (a0.Text ≠ ([] : List UInt8))))))]) (fun sl wL => sl.w = wL ∧ Step K0 s10 sl) ?_ ?_
 ·
  refine jBb 23 rfl (jBh (fun c12 => ?_) (fun c12 => ?_))
  ·
   exact k_no rfl rfl rfl rfl (k_no rfl rfl rfl rfl (k_no rfl rfl rfl rfl (k_no rfl rfl rfl rfl (jCb rfl rfl rfl rfl (jCb rfl rfl rfl rfl (jCb rfl rfl rfl rfl (k_no rfl rfl rfl rfl (jAz rfl rfl rfl rfl (jBc ⟨s10, ⟨lb, trivial⟩, ⟨rfl, rfl, rfl, rfl, rfl, rfl, rfl, trivial⟩, rfl, hE11⟩)))))))))
  refine jAn rfl rfl (jAf fld29_0 rfl rfl (jAn rfl rfl (jAj one3 rfl h1 rfl rfl (jAn rfl rfl (jDe rfl rfl rfl (jAn rfl rfl (jAc rfl rfl ?_)))))))
  have hE13 := Step.r0 K0 s10
  refine jBm (X := St) 4 [(1, pZ b1), (2, .bool false), (5, pZ b1), (6, .int .i64 a0.Kind), (7, .bool (decide (a0.Kind < 0))), (12, .bool (decide ((a0.Kind < 0) ∨ (6 < a0.Kind)))), (22, .bool (decide (((a0.Kind < 0) ∨ (6 < a0.Kind)) ∨ ((a0.Kind ≠ 3) ∧ (a0.Num ≠ 0))))), (23, .bool false), (24, pZ b1), (25, .int .i64 a0.Kind), (26, .bool (decide (a0.Kind ≠ 4)))] (fun _ => [(31, .bool (decide ((a0.Kind ≠ 4) ∧ (a0.Text ≠ ([] : List UInt8)))))]) (fun sl wL => sl.w = wL ∧ Step K0 s10 sl) ?_ ?_
  ·
   refine jBb 27 rfl (jBh (fun c14 => ?_) (fun c14 => ?_))
   ·
    exact jAn rfl rfl (jAf fld29_2 rfl rfl (jAn rfl rfl (jAj one9 rfl h1 rfl rfl (jAn rfl rfl (k_neq_str rfl rfl rfl (jAn rfl rfl (jAz rfl rfl rfl rfl (jBc ⟨s10, ⟨lb, trivial⟩, ⟨rfl, rfl, rfl, rfl, rfl, rfl, rfl, rfl, rfl, rfl, rfl, trivial⟩, rfl, hE13⟩))))))))
   exact k_no rfl rfl rfl rfl (k_no rfl rfl rfl rfl (k_no rfl rfl rfl rfl (jAn rfl rfl (jAy rfl rfl rfl rfl (jBc ⟨s10, ⟨lb, trivial⟩, ⟨rfl, rfl, rfl, rfl, rfl, rfl, rfl, rfl, rfl, rfl, rfl, trivial⟩, rfl, hE13⟩)))))
  rintro s15 wL ⟨rfl, hE13⟩
  have := hE13.size
  have hS := hS.trans0 hE13
  have hE11 := hE11.trans0 hE13
  exact jAy rfl rfl rfl rfl (jBc ⟨s15, ⟨lb, trivial⟩, ⟨rfl, rfl, rfl, rfl, rfl, rfl, rfl, trivial⟩, rfl, hE11⟩)
 rintro s16 wL ⟨rfl, hE11⟩
 have := hE11.size
 have hS := hS.trans0 hE11
 replace hq0_0 := hq0_0.up2 hE11
 replace hq0_1 := hq0_1.up2 hE11
 replace h1 := h1.up2 hE11
 refine jAc rfl rfl ?_
 have hE17 := Step.r0 K0 s16
 refine jBm (X := St) 10 [(1, pZ b1), (2, .bool false), (5, pZ b1), (6, .int .i64 a0.Kind), (7, .bool (decide (a0.Kind < 0))), (12, .bool (decide ((a0.Kind < 0) ∨ (6 < a0.Kind)))), (22, .bool (decide (((a0.Kind < 0) ∨ (6 < a0.Kind)) ∨ ((a0.Kind ≠ 3) ∧ (a0.Num ≠ 0))))), (32, .bool (decide ((((a0.Kind < 0) ∨ (6 < a0.Kind)) ∨ ((a0.Kind ≠ 3) ∧ (a0.Num ≠ 0))) ∨ ((a0.Kind ≠ 4) ∧ (a0.Text ≠ ([] : List UInt8))))))] (fun _ => [(43, .bool (decide (((((a0.Kind < 0) ∨ (6 < a0.Kind)) ∨ ((a0.Kind ≠ 3) ∧ (a0.Num ≠ 0))) ∨ ((a0.Kind ≠ 4) ∧ (a0.Text ≠ ([] : List UInt8)))) ∨ ((a0.Kind < 5) ∧ (0 < (a0.List_.length : Int))))))]) (fun sl wL => sl.w = wL ∧ Step K0 s16 sl) ?_ ?_
 ·
  refine jBb 33 rfl (jBh (fun c18 => ?_) (fun c18 => ?_))
  ·
   exact k_no rfl rfl rfl rfl (k_no rfl rfl rfl rfl (k_no rfl rfl rfl rfl (k_no rfl rfl rfl rfl (jCb rfl rfl rfl rfl (jCb rfl rfl rfl rfl (jCb rfl rfl rfl rfl (jCb rfl rfl rfl rfl (k_no rfl rfl rfl rfl (jAz rfl rfl rfl rfl (jBc ⟨s16, ⟨lb, trivial⟩, ⟨rfl, rfl, rfl, rfl, rfl, rfl, rfl, rfl, trivial⟩, rfl, hE17⟩))))))))))
  refine jAn rfl rfl (jAf fld29_0 rfl rfl (jAn rfl rfl (jAj one3 rfl h1 rfl rfl (jAn rfl rfl (jBw rfl rfl rfl (jAn rfl rfl (jAc rfl rfl ?_)))))))
  have hE19 := Step.r0 K0 s16
  refine jBm (X := St) 5 [(1, pZ b1), (2, .bool false), (5, pZ b1), (6, .int .i64 a0.Kind), (7, .bool (decide (a0.Kind < 0))), (12, .bool (decide ((a0.Kind < 0) ∨ (6 < a0.Kind)))), (22, .bool (decide (((a0.Kind < 0) ∨ (6 < a0.Kind)) ∨ ((a0.Kind ≠ 3) ∧ (a0.Num ≠ 0))))), (32, .bool (decide ((((a0.Kind < 0) ∨ (6 < a0.Kind)) ∨ ((a0.Kind ≠ 3) ∧ (a0.Num ≠ 0))) ∨ ((a0.Kind ≠ 4) ∧ (a0.Text ≠ ([] : List UInt8)))))), (33, .bool false), (34, pZ b1), (35, .int .i64 a0.Kind), (36, .bool (decide (a0.Kind < 5)))] (fun _ => [(42, .bool (decide ((a0.Kind < 5) ∧ (0 < (a0.List_.length : Int)))))]) (fun sl wL => sl.w = wL ∧ Step K0 s16 sl) ?_ ?_
  ·
   refine jBb 37 rfl (jBh (fun c20 => ?_) (fun c20 => ?_))
   ·
    exact jAn rfl rfl (jAf fld29_3 rfl rfl (jAn rfl rfl (jAj one26 rfl h1 rfl rfl (jAn rfl rfl (jCj Tryz.underlying26 rfl (SL.of_R hq0_0).hasLen rfl (k_as (v := .int .i64 (a0.List_.length : Int)) (by simp only [List.length_map]) (jAn rfl rfl (jCu rfl rfl rfl (jAn rfl rfl (jAz rfl rfl rfl rfl (jBc ⟨s16, ⟨lb, trivial⟩, ⟨rfl, rfl, rfl, rfl, rfl, rfl, rfl, rfl, rfl, rfl, rfl, rfl, trivial⟩, rfl, hE19⟩)))))))))))
   exact k_no rfl rfl rfl rfl (k_no rfl rfl rfl rfl (k_no rfl rfl rfl rfl (k_no rfl rfl rfl rfl (jAn rfl rfl (jAy rfl rfl rfl rfl (jBc ⟨s16, ⟨lb, trivial⟩, ⟨rfl, rfl, rfl, rfl, rfl, rfl, rfl, rfl, rfl, rfl, rfl, rfl, trivial⟩, rfl, hE19⟩))))))
  rintro s21 wL ⟨rfl, hE19⟩
  have := hE19.size
  have hS := hS.trans0 hE19
  have hE17 := hE17.trans0 hE19
  exact jAy rfl rfl rfl rfl (jBc ⟨s21, ⟨lb, trivial⟩, ⟨rfl, rfl, rfl, rfl, rfl, rfl, rfl, rfl, trivial⟩, rfl, hE17⟩)
 rintro s22 wL ⟨rfl, hE17⟩
 have := hE17.size
 have hS := hS.trans0 hE17
 replace hq0_0 := hq0_0.up2 hE17
 replace hq0_1 := hq0_1.up2 hE17
 replace h1 := h1.up2 hE17
 refine jAc rfl rfl ?_
 have hE23 := Step.r0 K0 s22
 refine jBm (X := St) 10 [(1, pZ b1), (2, .bool false), (5, pZ b1), (6, .int .i64 a0.Kind), (7, .bool (decide (a0.Kind < 0))), (12, .bool (decide ((a0.Kind < 0) ∨ (6 < a0.Kind)))), (22, .bool (decide (((a0.Kind < 0) ∨ (6 < a0.Kind)) ∨ ((a0.Kind ≠ 3) ∧ (a0.Num ≠ 0))))), (32, .bool (decide ((((a0.Kind < 0) ∨ (6 < a0.Kind)) ∨ ((a0.Kind ≠ 3) ∧ (a0.Num ≠ 0))) ∨ ((a0.Kind ≠ 4) ∧ (a0.Text ≠ ([] : List UInt8)))))), (43, .bool (decide (((((a0.Kind < 0) ∨ (6 < a0.Kind)) ∨ ((a0.Kind ≠ 3) ∧ (a0.Num ≠ 0))) ∨ ((a0.Kind ≠ 4) ∧ (a0.Text ≠ ([] : List UInt8)))) ∨ ((a0.Kind < 5) ∧ (0 < (a0.List_.length : Int))))))] (fun _ => [(54, .bool (decide ((((((a0.Kind < 0) ∨ (6 < a0.Kind)) ∨ ((a0.Kind ≠ 3) ∧ (a0.Num ≠ 0))) ∨ ((a0.Kind ≠ 4) ∧ (a0.Text ≠ ([] : List UInt8)))) ∨ ((a0.Kind < 5) ∧ (0 < (a0.List_.length : Int)))) ∨ ((a0.Kind ≠ 6) ∧ (0 < (a0.Keys.length : Int))))))]) (fun sl wL => sl.w = wL ∧ Step K0 s22 sl) ?_ ?_
 ·
  refine jBb 44 rfl (jBh (fun c24 => ?_) (fun c24 => ?_))
  ·
   exact k_no rfl rfl rfl rfl (k_no rfl rfl rfl rfl (k_no rfl rfl rfl rfl (k_no rfl rfl rfl rfl (jCb rfl rfl rfl rfl (jCb rfl rfl rfl rfl (jCb rfl rfl rfl rfl (jCb rfl rfl rfl rfl (k_no rfl rfl rfl rfl (jAz rfl rfl rfl rfl (jBc ⟨s22, ⟨lb, trivial⟩, ⟨rfl, rfl, rfl, rfl, rfl, rfl, rfl, rfl, rfl, trivial⟩, rfl, hE23⟩))))))))))
  refine jAn rfl rfl (jAf fld29_0 rfl rfl (jAn rfl rfl (jAj one3 rfl h1 rfl rfl (jAn rfl rfl (jDe rfl rfl rfl (jAn rfl rfl (jAc rfl rfl ?_)))))))
  have hE25 := Step.r0 K0 s22
  refine jBm (X := St) 5 [(1, pZ b1), (2, .bool false), (5, pZ b1), (6, .int .i64 a0.Kind), (7, .bool (decide (a0.Kind < 0))), (12, .bool (decide ((a0.Kind < 0) ∨ (6 < a0.Kind)))), (22, .bool (decide (((a0.Kind < 0) ∨ (6 < a0.Kind)) ∨ ((a0.Kind ≠ 3) ∧ (a0.Num ≠ 0))))), (32, .bool (decide ((((a0.Kind < 0) ∨ (6 < a0.Kind)) ∨ ((a0.Kind ≠ 3) ∧ (a0.Num ≠ 0))) ∨ ((a0.Kind ≠ 4) ∧ (a0.Text ≠ ([] : List UInt8)))))), (43, .bool (decide (((((a0.Kind < 0) ∨ (6 < a0.Kind)) ∨ ((a0.Kind ≠ 3) ∧ (a0.Num ≠ 0))) ∨ ((a0.Kind ≠ 4) ∧ (a0.Text ≠ ([] : List UInt8)))) ∨ ((a0.Kind < 5) ∧ (0 < (a0.List_.length : Int)))))), (44, .bool false), (45, pZ b1), (46, .int .i64 a0.Kind), (47, .bool (decide (a0.Kind ≠ 6)))] (fun _ => [(53, .bool (decide ((a0.Kind ≠ 6) ∧ (0 < (a0.Keys.length : Int)))))]) (fun sl wL => sl.w = wL ∧ Step K0 s22 sl) ?_ ?_
  ·
   refine jBb 48 rfl (jBh (fun c26 => ?_) (fun c26 => ?_))
   ·
    exact jAn rfl rfl (jAf fld29_4 rfl rfl (jAn rfl rfl (jAj one27 rfl h1 rfl rfl (jAn rfl rfl (jCj Tryz.underlying27 rfl (SL.of_R hq0_1).hasLen rfl (k_as (v := .int .i64 (a0.Keys.length : Int)) (by simp only [List.length_map]) (jAn rfl rfl (jCu rfl rfl rfl (jAn rfl rfl (jAz rfl rfl rfl rfl (jBc ⟨s22, ⟨lb, trivial⟩, ⟨rfl, rfl, rfl, rfl, rfl, rfl, rfl, rfl, rfl, rfl, rfl, rfl, rfl, trivial⟩, rfl, hE25⟩)))))))))))
   exact k_no rfl rfl rfl rfl (k_no rfl rfl rfl rfl (k_no rfl rfl rfl rfl (k_no rfl rfl rfl rfl (jAn rfl rfl (jAy rfl rfl rfl rfl (jBc ⟨s22, ⟨lb, trivial⟩, ⟨rfl, rfl, rfl, rfl, rfl, rfl, rfl, rfl, rfl, rfl, rfl, rfl, rfl, trivial⟩, rfl, hE25⟩))))))
  rintro s27 wL ⟨rfl, hE25⟩
  have := hE25.size
  have hS := hS.trans0 hE25
  have hE23 := hE23.trans0 hE25
  exact jAy rfl rfl rfl rfl (jBc ⟨s27, ⟨lb, trivial⟩, ⟨rfl, rfl, rfl, rfl, rfl, rfl, rfl, rfl, rfl, trivial⟩, rfl, hE23⟩)
 rintro s28 wL ⟨rfl, hE23⟩
 have := hE23.size
 have hS := hS.trans0 hE23
 replace hq0_0 := hq0_0.up2 hE23
 replace hq0_1 := hq0_1.up2 hE23
 replace h1 := h1.up2 hE23
 refine jAc rfl rfl ?_
 have hE29 := Step.r0 K0 s28
 refine jBm (X := St) 13 [(1, pZ b1), (2, .bool false), (5, pZ b1), (6, .int .i64 a0.Kind), (7, .bool (decide (a0.Kind < 0))), (12, .bool (decide ((a0.Kind < 0) ∨ (6 < a0.Kind)))), (22, .bool (decide (((a0.Kind < 0) ∨ (6 < a0.Kind)) ∨ ((a0.Kind ≠ 3) ∧ (a0.Num ≠ 0))))), (32, .bool (decide ((((a0.Kind < 0) ∨ (6 < a0.Kind)) ∨ ((a0.Kind ≠ 3) ∧ (a0.Num ≠ 0))) ∨ ((a0.Kind ≠ 4) ∧ (a0.Text ≠ ([] : List UInt8)))))), (43, .bool (decide (((((a0.Kind < 0) ∨ (6 < a0.Kind)) ∨ ((a0.Kind ≠ 3) ∧ (a0.Num ≠ 0))) ∨ ((a0.Kind ≠ 4) ∧ (a0.Text ≠ ([] : List UInt8)))) ∨ ((a0.Kind < 5) ∧ (0 < (a0.List_.length : Int)))))), (54, .bool (decide ((((((a0.Kind < 0) ∨ (6 < a0.Kind)) ∨ ((a0.Kind ≠ 3) ∧ (a0.Num ≠ 0))) ∨ ((a0.Kind ≠ 4) ∧ (a0.Text ≠ ([] : List UInt8)))) ∨ ((a0.Kind < 5) ∧ (0 < (a0.List_.length : Int)))) ∨ ((a0.Kind ≠ 6) ∧ (0 < (a0.Keys.length : Int))))))] (fun _ => [(68, .bool (decide (((((((a0.Kind < 0) ∨ (6 < a0.Kind)) ∨ ((a0.Kind ≠ 3) ∧ (a0.Num ≠ 0))) ∨ ((a0.Kind ≠ 4) ∧ (a0.Text ≠ ([] : List UInt8)))) ∨ ((a0.Kind < 5) ∧ (0 < (a0.List_.length : Int)))) ∨ ((a0.Kind ≠ 6) ∧ (0 < (a0.Keys.length : Int)))) ∨ ((a0.Kind = 6) ∧ ((a0.Keys.length : Int) ≠ (a0.List_.length : Int))))))]) (fun sl wL => sl.w = wL ∧ Step K0 s28 sl) ?_ ?_
 ·
  refine jBb 55 rfl (jBh (fun c30 => ?_) (fun c30 => ?_))
  ·
   exact k_no rfl rfl rfl rfl (k_no rfl rfl rfl rfl (k_no rfl rfl rfl rfl (k_no rfl rfl rfl rfl (jCb rfl rfl rfl rfl (jCb rfl rfl rfl rfl (jCb rfl rfl rfl rfl (jCb rfl rfl rfl rfl (jCb rfl rfl rfl rfl (jCb rfl rfl rfl rfl (jCb rfl rfl rfl rfl (k_no rfl rfl rfl rfl (jAz rfl rfl rfl rfl (jBc ⟨s28, ⟨lb, trivial⟩, ⟨rfl, rfl, rfl, rfl, rfl, rfl, rfl, rfl, rfl, rfl, trivial⟩, rfl, hE29⟩)))))))))))))
  refine jAn rfl rfl (jAf fld29_0 rfl rfl (jAn rfl rfl (jAj one3 rfl h1 rfl rfl (jAn rfl rfl (jCc rfl rfl rfl (jAn rfl rfl (jAc rfl rfl ?_)))))))
  have hE31 := Step.r0 K0 s28
  refine jBm (X := St) 8 [(1, pZ b1), (2, .bool false), (5, pZ b1), (6, .int .i64 a0.Kind), (7, .bool (decide (a0.Kind < 0))), (12, .bool (decide ((a0.Kind < 0) ∨ (6 < a0.Kind)))), (22, .bool (decide (((a0.Kind < 0) ∨ (6 < a0.Kind)) ∨ ((a0.Kind ≠ 3) ∧ (a0.Num ≠ 0))))), (32, .bool (decide ((((a0.Kind < 0) ∨ (6 < a0.Kind)) ∨ ((a0.Kind ≠ 3) ∧ (a0.Num ≠ 0))) ∨ ((a0.Kind ≠ 4) ∧ (a0.Text ≠ ([] : List UInt8)))))), (43, .bool (decide (((((a0.Kind < 0) ∨ (6 < a0.Kind)) ∨ ((a0.Kind ≠ 3) ∧ (a0.Num ≠ 0))) ∨ ((a0.Kind ≠ 4) ∧ (a0.Text ≠ ([] : List UInt8)))) ∨ ((a0.Kind < 5) ∧ (0 < (a0.List_.length : Int)))))), (54, .bool (decide ((((((a0.Kind < 0) ∨ (6 < a0.Kind)) ∨ ((a0.Kind ≠ 3) ∧ (a0.Num ≠ 0))) ∨ ((a0.Kind ≠ 4) ∧ (a0.Text ≠ ([] : List UInt8)))) ∨ ((a0.Kind < 5) ∧ (0 < (a0.List_.length : Int)))) ∨ ((a0.Kind ≠ 6) ∧ (0 < (a0.Keys.length : Int)))))), (55, .bool false), (56, pZ b1), (57, .int .i64 a0.Kind), (58, .bool (decide (a0.Kind = 6)))] (fun _ => [(67, .bool (decide ((a0.Kind = 6) ∧ ((a0.Keys.length : Int) ≠ (a0.List_.length : Int)))))]) (fun sl wL => sl.w = wL ∧ Step K0 s28 sl) ?_ ?_
  ·
   refine jBb 59 rfl (jBh (fun c32 => ?_) (fun c32 => ?_))
   ·
    exact jAn rfl rfl (jAf fld29_4 rfl rfl (jAn rfl rfl (jAj one27 rfl h1 rfl rfl (jAn rfl rfl (jCj Tryz.underlying27 rfl (SL.of_R hq0_1).hasLen rfl (k_as (v := .int .i64 (a0.Keys.length : Int)) (by simp only [List.length_map]) (jAn rfl rfl (jAf fld29_3 rfl rfl (jAn rfl rfl (jAj one26 rfl h1 rfl rfl (jAn rfl rfl (jCj Tryz.underlying26 rfl (SL.of_R hq0_0).hasLen rfl (k_as (v := .int .i64 (a0.List_.length : Int)) (by simp only [List.length_map]) (jAn rfl rfl (jDe rfl rfl rfl (jAn rfl rfl (jAz rfl rfl rfl rfl (jBc ⟨s28, ⟨lb, trivial⟩, ⟨rfl, rfl, rfl, rfl, rfl, rfl, rfl, rfl, rfl, rfl, rfl, rfl, rfl, rfl, trivial⟩, rfl, hE31⟩))))))))))))))))))
   exact k_no rfl rfl rfl rfl (k_no rfl rfl rfl rfl (k_no rfl rfl rfl rfl (k_no rfl rfl rfl rfl (k_no rfl rfl rfl rfl (k_no rfl rfl rfl rfl (k_no rfl rfl rfl rfl (jAn rfl rfl (jAy rfl rfl rfl rfl (jBc ⟨s28, ⟨lb, trivial⟩, ⟨rfl, rfl, rfl, rfl, rfl, rfl, rfl, rfl, rfl, rfl, rfl, rfl, rfl, rfl, trivial⟩, rfl, hE31⟩)))))))))
  rintro s33 wL ⟨rfl, hE31⟩
  have := hE31.size
  have hS := hS.trans0 hE31
  have hE29 := hE29.trans0 hE31
  exact jAy rfl rfl rfl rfl (jBc ⟨s33, ⟨lb, trivial⟩, ⟨rfl, rfl, rfl, rfl, rfl, rfl, rfl, rfl, rfl, rfl, trivial⟩, rfl, hE29⟩)
 rintro s34 wL ⟨rfl, hE29⟩
 have := hE29.size
 have hS := hS.trans0 hE29
 replace hq0_0 := hq0_0.up2 hE29
 replace hq0_1 := hq0_1.up2 hE29
 replace h1 := h1.up2 hE29
 refine jAc rfl rfl ?_
 obtain ⟨x1, hx1, h⟩ := ob h
 have hE35 := Step.r0 K0 s34
 refine jBm (X := St) 5 [(1, pZ b1), (2, .bool false), (5, pZ b1), (6, .int .i64 a0.Kind), (7, .bool (decide (a0.Kind < 0))), (12, .bool (decide ((a0.Kind < 0) ∨ (6 < a0.Kind)))), (22, .bool (decide (((a0.Kind < 0) ∨ (6 < a0.Kind)) ∨ ((a0.Kind ≠ 3) ∧ (a0.Num ≠ 0))))), (32, .bool (decide ((((a0.Kind < 0) ∨ (6 < a0.Kind)) ∨ ((a0.Kind ≠ 3) ∧ (a0.Num ≠ 0))) ∨ ((a0.Kind ≠ 4) ∧ (a0.Text ≠ ([] : List UInt8)))))), (43, .bool (decide (((((a0.Kind < 0) ∨ (6 < a0.Kind)) ∨ ((a0.Kind ≠ 3) ∧ (a0.Num ≠ 0))) ∨ ((a0.Kind ≠ 4) ∧ (a0.Text ≠ ([] : List UInt8)))) ∨ ((a0.Kind < 5) ∧ (0 < (a0.List_.length : Int)))))), (54, .bool (decide ((((((a0.Kind < 0) ∨ (6 < a0.Kind)) ∨ ((a0.Kind ≠ 3) ∧ (a0.Num ≠ 0))) ∨ ((a0.Kind ≠ 4) ∧ (a0.Text ≠ ([] : List UInt8)))) ∨ ((a0.Kind < 5) ∧ (0 < (a0.List_.length : Int)))) ∨ ((a0.Kind ≠ 6) ∧ (0 < (a0.Keys.length : Int)))))), (68, .bool (decide (((((((a0.Kind < 0) ∨ (6 < a0.Kind)) ∨ ((a0.Kind ≠ 3) ∧ (a0.Num ≠ 0))) ∨ ((a0.Kind ≠ 4) ∧ (a0.Text ≠ ([] : List UInt8)))) ∨ ((a0.Kind < 5) ∧ (0 < (a0.List_.length : Int)))) ∨ ((a0.Kind ≠ 6) ∧ (0 < (a0.Keys.length : Int)))) ∨ ((a0.Kind = 6) ∧ ((a0.Keys.length : Int) ≠ (a0.List_.length : Int))))))] (fun _ => [(74, .bool x1)]) (fun sl wL => sl.w = wL ∧ Step K0 s34 sl) ?_ ?_
 ·
  refine jBb 69 rfl (jBh (fun c36 => ?_) (fun c36 => ?_))
  ·
   have hx1 := itT hx1 c36
   exact k_no rfl rfl rfl rfl (k_no rfl rfl rfl rfl (k_no rfl rfl rfl rfl (k_no rfl rfl rfl rfl (jAz rfl rfl rfl rfl (jBc ⟨s34, ⟨(congrArg (fun b => some (Value.bool b)) (Option.some.inj hx1)), trivial⟩, ⟨rfl, rfl, rfl, rfl, rfl, rfl, rfl, rfl, rfl, rfl, rfl, trivial⟩, rfl, hE35⟩)))))
  have hx1 := itF hx1 c36
  refine jAn rfl rfl (jAf fld29_2 rfl rfl (jAn rfl rfl (jAj one9 rfl h1 rfl rfl (jAn rfl rfl ?_))))
  obtain ⟨x2, hx2, hx1⟩ := ob hx1
  refine jAp cal49 rfl (ref01_plain_w   hx2) rfl ?_
  rintro s37 vr37 st37 rfl
  have := st37.size
  have hS := hS.trans0 st37
  have hE35 := hE35.trans0 st37
  exact jAn rfl rfl (jDd rfl rfl (jAy rfl rfl rfl rfl (jBc ⟨s37, ⟨(congrArg (fun b => some (Value.bool b)) (Option.some.inj hx1)), trivial⟩, ⟨rfl, rfl, rfl, rfl, rfl, rfl, rfl, rfl, rfl, rfl, rfl, trivial⟩, rfl, hE35⟩)))
 rintro s38 wL ⟨rfl, hE35⟩
 have := hE35.size
 have hS := hS.trans0 hE35
 replace hq0_0 := hq0_0.up2 hE35
 replace hq0_1 := hq0_1.up2 hE35
 replace h1 := h1.up2 hE35
 refine jAi (jAh [(1, _), (2, _), (74, _)] ⟨rfl, rfl, rfl, trivial⟩ (jCk rfl (fun c39 => ?_) (fun c39 => ?_)))
 ·
  have h := ibT h c39
  refine jAg (jAa (jAd rfl rfl (jAi (jAh [(1, _), (2, _)] ⟨rfl, rfl, trivial⟩ (jAx ?_)))))
  obtain rfl := Option.some.inj h
  refine ⟨_, rfl, Ret.mk hS ?_⟩
  exact rfl
 have h := ibF h c39
 refine jAv (jAg (jAh [(1, _), (2, _)] ⟨rfl, rfl, trivial⟩ ?_))
 obtain ⟨kj3, hK40, h⟩ := jn_out h
 have hE40 := Step.r0 K0 s38
 refine jBp (X := St) [(1, pZ b1), (2, .bool false)] (fun (xL : St) => match xL with | sl => []) (fun (xL : St) (wL : World) => match xL with | sl => sl.w = wL ∧ Step K0 s38 sl ∧ kj3 () = some r) ?_ ?_
 ·
  refine jAg (jAa (jAd rfl rfl (jAi (jAw (jBr (X := St × Int × Nat) [(1, _), (2, _)] (fun (xL : St × Int × Nat) => match xL with | (sl, x4, j) => [(3, .int .i64 x4)]) (fun (xL : St × Int × Nat) (wL : World) => match xL with | (sl, x4, j) => sl.w = wL ∧ Step K0 s38 sl ∧ ref01_fields_s_l1 a0 kj3 j x4 = some r) (fun (xL : St × Int × Nat) => match xL with | (sl, x4, j) => j) (s38, 0, FU) ⟨rfl, rfl, trivial⟩ ⟨lr, trivial⟩ ⟨rfl, (Step.refl _).of0 li, h⟩ ?_)))))
  rintro ⟨s42, x4, j⟩ wL ⟨rfl, hE41, h⟩
  cases j with
  | zero => rw [ref01_fields_s_l1] at h; exact (noneNe h).elim
  | succ j =>
  rw [ref01_fields_s_l1] at h
  have := hE41.size
  have hS := hS.trans0 hE41
  have hE40 := hE40.trans0 hE41
  replace hq0_1 := hq0_1.up2 hE41
  replace h1 := h1.up2 hE41
  refine jAg (jAg (jAa (jAc rfl rfl (jAf fld29_4 rfl rfl (jAj one27 rfl h1 rfl rfl (jCj Tryz.underlying27 rfl (SL.of_R hq0_1).hasLen rfl (k_as (v := .int .i64 (a0.Keys.length : Int)) (by simp only [List.length_map]) (jBw rfl rfl rfl (jAi (jAh [(1, _), (2, _), (3, _), (79, _)] ⟨rfl, rfl, rfl, rfl, trivial⟩ (jAl rfl (fun c43 => ?_) (fun c43 => ?_))))))))))))
  ·
   have h := itT h c43
   refine jAv (jAg (jAw (jAg (jAh [(1, _), (2, _), (3, _)] ⟨rfl, rfl, rfl, trivial⟩ (jBl (KN s42.n) 25 (.read 0 (.read 1 (.read 2 (.read 3 (.read 4 (.alt 5 (.read 6 (.read 7 (.read 8 (.read 9 (.read 10 (.read 11 (.read 12 (.read 13 (.read 14 (.read 15 (.read 16 (.read 17 (.read 18 (.read 19 (.read 20 (.read 21 (.read 22 (.read 23 (.read 24 .fin))))))))))))))))))) .no)))))) mixed lw rfl rfl rfl ?_)))))
   intro s44 st44
   have := st44.size
   have hS := hS.trans0 st44
   have hE40 := hE40.trans0 st44
   have hE41 := hE41.trans0 st44
   replace hq0_1 := hq0_1.up2 st44
   replace h1 := h1.up2 st44
   refine jAb (.pointer (some ⟨b1, 4, none⟩)) rfl rfl (fun s45 st45 => ?_) ?_
   ·exact jAf fld29_4 rfl rfl (jAe)
   refine jAb (q0_1) rfl rfl (fun s46 st46 => ?_) ?_
   ·try replace h1 := h1.up2 st46
    exact jAj one27 rfl h1 rfl rfl (jAe)
   refine jAb (.int .i64 x4) rfl rfl (fun s47 st47 => ?_) ?_
   ·exact jAc rfl rfl (jAe)
   obtain ⟨x5, hx5, h⟩ := ob h
   refine jBy rfl (wanted_none rfl) Tryz.underlying27 size9 rfl rfl (SL.of_R hq0_1) (jAk hx5).1 (jAr hx5) rfl ?_
   intro q48 hq48
   refine jAb (S x5) rfl rfl (fun s49 st49 => ?_) ?_
   ·try replace hq48 := hq48.up2 st49
    exact jAq one9 rfl hq48 rfl (jAe)
   refine jBa rfl rfl ?_
   have hA50 := Step.r0 (KN s42.n) s44
   obtain ⟨x6, hx6, h⟩ := ob h
   refine jAp cal50 rfl (ref01_Key_w   hx6) rfl ?_
   rintro s51 vr51 st51 rfl
   have := st51.size
   have hS := hS.trans0 st51
   have hE40 := hE40.trans0 st51
   have hE41 := hE41.trans0 st51
   have hA50 := hA50.trans0 st51
   replace hq0_1 := hq0_1.up2 st51
   replace h1 := h1.up2 st51
   refine jAt hA50 (jAb (.bool (!x6)) rfl rfl (fun s52 st52 => ?_) ?_)
   ·exact jDd rfl rfl (jAe)
   refine jAb (.bool (!x6)) rfl rfl (fun s53 st53 => ?_) ?_
   ·exact jAc rfl rfl (jAe)
   refine rt_splitb (fun c54 => ?_) (fun c54 => ?_)
   ·
    have h := ibT h c54
    refine jAb undef rfl rfl (fun s55 st55 => ?_) ?_
    ·exact k_no rfl rfl rfl rfl (jAe)
    refine jAb undef rfl rfl (fun s56 st56 => ?_) ?_
    ·exact k_no rfl rfl rfl rfl (jAe)
    refine jAb undef rfl rfl (fun s57 st57 => ?_) ?_
    ·exact k_no rfl rfl rfl rfl (jAe)
    refine jAb undef rfl rfl (fun s58 st58 => ?_) ?_
    ·exact jCb rfl rfl rfl rfl (jAe)
    refine jAb undef rfl rfl (fun s59 st59 => ?_) ?_
    ·exact jCb rfl rfl rfl rfl (jAe)
    refine jAb undef rfl rfl (fun s60 st60 => ?_) ?_
    ·exact jCb rfl rfl rfl rfl (jAe)
    refine jAb undef rfl rfl (fun s61 st61 => ?_) ?_
    ·exact jCb rfl rfl rfl rfl (jAe)
    refine jAb undef rfl rfl (fun s62 st62 => ?_) ?_
    ·exact jCb rfl rfl rfl rfl (jAe)
    refine jAb undef rfl rfl (fun s63 st63 => ?_) ?_
    ·exact jCb rfl rfl rfl rfl (jAe)
    refine jAb undef rfl rfl (fun s64 st64 => ?_) ?_
    ·exact jCb rfl rfl rfl rfl (jAe)
    refine jAb undef rfl rfl (fun s65 st65 => ?_) ?_
    ·exact jCb rfl rfl rfl rfl (jAe)
    refine jAb undef rfl rfl (fun s66 st66 => ?_) ?_
    ·exact jCb rfl rfl rfl rfl (jAe)
    refine jAb undef rfl rfl (fun s67 st67 => ?_) ?_
    ·exact jCb rfl rfl rfl rfl (jAe)
    refine jAb undef rfl rfl (fun s68 st68 => ?_) ?_
    ·exact jCb rfl rfl rfl rfl (jAe)
    refine jAb undef rfl rfl (fun s69 st69 => ?_) ?_
    ·exact jCb rfl rfl rfl rfl (jAe)
    refine jAb undef rfl rfl (fun s70 st70 => ?_) ?_
    ·exact k_no rfl rfl rfl rfl (jAe)
    refine jAb (.bool true) rfl rfl (fun s71 st71 => ?_) ?_
    ·exact jAz rfl rfl rfl rfl (jAe)
    refine jBg (jAi (jAh [(1, _), (2, _), (3, _), (106, _)] ⟨rfl, rfl, rfl, rfl, trivial⟩ (jCt rfl (jAg (jAa (jAd rfl rfl (jAi (jAh [(1, _), (2, _), (3, _)] ⟨rfl, rfl, rfl, trivial⟩ (jAx ?_)))))))))
    obtain rfl := Option.some.inj h
    refine ⟨_, rfl, Ret.mk hS ?_⟩
    exact rfl
   have h := ibF h c54
   refine jAb (.int .i64 x4) rfl rfl (fun s72 st72 => ?_) ?_
   ·exact jAn rfl rfl (jAc rfl rfl (jAe))
   refine jAb (.bool (decide (0 < x4))) rfl rfl (fun s73 st73 => ?_) ?_
   ·exact jAn rfl rfl (jCu rfl rfl rfl (jAe))
   refine jAb (.bool (decide (0 < x4))) rfl rfl (fun s74 st74 => ?_) ?_
   ·exact jAn rfl rfl (jAc rfl rfl (jAe))
   refine rt_split (fun c75 => ?_) (fun c75 => ?_)
   ·
    have h := itT h c75
    refine jAb (.pointer (some ⟨b1, 4, none⟩)) rfl rfl (fun s76 st76 => ?_) ?_
    ·exact jAn rfl rfl (jAf fld29_4 rfl rfl (jAe))
    refine jAb (q0_1) rfl rfl (fun s77 st77 => ?_) ?_
    ·try replace h1 := h1.up2 st77
     exact jAn rfl rfl (jAj one27 rfl h1 rfl rfl (jAe))
    refine jAb (.int .i64 x4) rfl rfl (fun s78 st78 => ?_) ?_
    ·exact jAn rfl rfl (jAc rfl rfl (jAe))
    refine jAb (.int .i64 (i64 (x4 - 1))) rfl rfl (fun s79 st79 => ?_) ?_
    ·exact jAn rfl rfl (jDa rfl rfl rfl (jAe))
    obtain ⟨x7, hx7, h⟩ := ob h
    refine jBy rfl (wanted_yes rfl rfl rfl) Tryz.underlying27 size9 rfl rfl (SL.of_R hq0_1) (jAk hx7).1 (jAr hx7) rfl ?_
    intro q80 hq80
    refine jAb (S x7) rfl rfl (fun s81 st81 => ?_) ?_
    ·try replace hq80 := hq80.up2 st81
     exact jAn rfl rfl (jAq one9 rfl hq80 rfl (jAe))
    refine jAb (.pointer (some ⟨b1, 4, none⟩)) rfl rfl (fun s82 st82 => ?_) ?_
    ·exact jAn rfl rfl (jAf fld29_4 rfl rfl (jAe))
    refine jAb (q0_1) rfl rfl (fun s83 st83 => ?_) ?_
    ·try replace h1 := h1.up2 st83
     exact jAn rfl rfl (jAj one27 rfl h1 rfl rfl (jAe))
    refine jAb (.int .i64 x4) rfl rfl (fun s84 st84 => ?_) ?_
    ·exact jAn rfl rfl (jAc rfl rfl (jAe))
    obtain ⟨x8, hx8, h⟩ := ob h
    refine jBy rfl (wanted_yes rfl rfl rfl) Tryz.underlying27 size9 rfl rfl (SL.of_R hq0_1) (jAk hx8).1 (jAr hx8) rfl ?_
    intro q85 hq85
    refine jAb (S x8) rfl rfl (fun s86 st86 => ?_) ?_
    ·try replace hq85 := hq85.up2 st86
     exact jAn rfl rfl (jAq one9 rfl hq85 rfl (jAe))
    refine jAb (.bool (!Op.bytesLess x7 x8)) rfl rfl (fun s87 st87 => ?_) ?_
    ·exact jAn rfl rfl (k_geq_str rfl rfl rfl (jAe))
    refine jAb (.bool (!Op.bytesLess x7 x8)) rfl rfl (fun s88 st88 => ?_) ?_
    ·exact jAn rfl rfl (jAz rfl rfl rfl rfl (jAe))
    refine jAb (.bool (!Op.bytesLess x7 x8)) rfl rfl (fun s89 st89 => ?_) ?_
    ·exact jAy rfl rfl rfl rfl (jAe)
    refine jBg (jAi (jAh [(1, _), (2, _), (3, _), (106, _)] ⟨rfl, rfl, rfl, rfl, trivial⟩ (jCk rfl (fun c90 => ?_) (fun c90 => ?_))))
    ·
     have h := ibT h c90
     refine jAg (jAa (jAd rfl rfl (jAi (jAh [(1, _), (2, _), (3, _)] ⟨rfl, rfl, rfl, trivial⟩ (jAx ?_)))))
     obtain rfl := Option.some.inj h
     refine ⟨_, rfl, Ret.mk hS ?_⟩
     exact rfl
    have h := ibF h c90
    exact jAv (jCe (jAa (jAc rfl rfl (jBo rfl rfl rfl (jAd rfl rfl (jAi (jAu ⟨(s51, i64 (x4 + 1), j), ⟨lr, trivial⟩, ⟨rfl, rfl, trivial⟩, ⟨rfl, hE41, h⟩, (by simp)⟩)))))))
   have h := itF h c75
   refine jAb undef rfl rfl (fun s91 st91 => ?_) ?_
   ·exact k_no rfl rfl rfl rfl (jAe)
   refine jAb undef rfl rfl (fun s92 st92 => ?_) ?_
   ·exact k_no rfl rfl rfl rfl (jAe)
   refine jAb undef rfl rfl (fun s93 st93 => ?_) ?_
   ·exact k_no rfl rfl rfl rfl (jAe)
   refine jAb undef rfl rfl (fun s94 st94 => ?_) ?_
   ·exact k_no rfl rfl rfl rfl (jAe)
   refine jAb undef rfl rfl (fun s95 st95 => ?_) ?_
   ·exact k_no rfl rfl rfl rfl (jAe)
   refine jAb undef rfl rfl (fun s96 st96 => ?_) ?_
   ·exact k_no rfl rfl rfl rfl (jAe)
   refine jAb undef rfl rfl (fun s97 st97 => ?_) ?_
   ·exact k_no rfl rfl rfl rfl (jAe)
   refine jAb undef rfl rfl (fun s98 st98 => ?_) ?_
   ·exact k_no rfl rfl rfl rfl (jAe)
   refine jAb undef rfl rfl (fun s99 st99 => ?_) ?_
   ·exact k_no rfl rfl rfl rfl (jAe)
   refine jAb undef rfl rfl (fun s100 st100 => ?_) ?_
   ·exact k_no rfl rfl rfl rfl (jAe)
   refine jAb undef rfl rfl (fun s101 st101 => ?_) ?_
   ·exact k_no rfl rfl rfl rfl (jAe)
   refine jAb undef rfl rfl (fun s102 st102 => ?_) ?_
   ·exact k_no rfl rfl rfl rfl (jAe)
   refine jAb (.bool false) rfl rfl (fun s103 st103 => ?_) ?_
   ·exact jAn rfl rfl (jAy rfl rfl rfl rfl (jAe))
   refine jAb (.bool false) rfl rfl (fun s104 st104 => ?_) ?_
   ·exact jAy rfl rfl rfl rfl (jAe)
   exact jBg (jAi (jAh [(1, _), (2, _), (3, _), (106, _)] ⟨rfl, rfl, rfl, rfl, trivial⟩ (jCv rfl (jAv (jCe (jAa (jAc rfl rfl (jBo rfl rfl rfl (jAd rfl rfl (jAi (jAu ⟨(s51, i64 (x4 + 1), j), ⟨lr, trivial⟩, ⟨rfl, rfl, trivial⟩, ⟨rfl, hE41, h⟩, (by simp)⟩)))))))))))
  have h := itF h c43
  exact jBq rfl (jAu ⟨s42, trivial, ⟨rfl, rfl, trivial⟩, ⟨rfl, hE40, h⟩⟩)
 rintro s105 wL ⟨rfl, hE40, h⟩
 rw [hK40] at h
 have := hE40.size
 have hS := hS.trans0 hE40
 replace hq0_0 := hq0_0.up2 hE40
 replace h1 := h1.up2 hE40
 refine jAg ?_
 obtain ⟨kj9, hK106, h⟩ := jn_out h
 have hE106 := Step.r0 K0 s105
 refine jBp (X := St) [(2, .bool false)] (fun (xL : St) => match xL with | sl => []) (fun (xL : St) (wL : World) => match xL with | sl => sl.w = wL ∧ Step K0 s105 sl ∧ kj9 () = some r) ?_ ?_
 ·
  refine jAg (jAa (jAd rfl rfl (jAi (jAw (jBr (X := St × Int × Nat) [(1, _), (2, _)] (fun (xL : St × Int × Nat) => match xL with | (sl, x10, j) => [(4, .int .i64 x10)]) (fun (xL : St × Int × Nat) (wL : World) => match xL with | (sl, x10, j) => sl.w = wL ∧ Step K0 s105 sl ∧ ref01_fields_s_l2 a0 a70 kj9 j x10 = some r) (fun (xL : St × Int × Nat) => match xL with | (sl, x10, j) => j) (s105, 0, FU) ⟨rfl, rfl, trivial⟩ ⟨lr, trivial⟩ ⟨rfl, (Step.refl _).of0 li, h⟩ ?_)))))
  rintro ⟨s108, x10, j⟩ wL ⟨rfl, hE107, h⟩
  cases j with
  | zero => rw [ref01_fields_s_l2] at h; exact (noneNe h).elim
  | succ j =>
  rw [ref01_fields_s_l2] at h
  have := hE107.size
  have hS := hS.trans0 hE107
  have hE106 := hE106.trans0 hE107
  replace hq0_0 := hq0_0.up2 hE107
  replace h1 := h1.up2 hE107
  refine jAg (jAg (jAa (jAc rfl rfl (jAf fld29_3 rfl rfl (jAj one26 rfl h1 rfl rfl (jCj Tryz.underlying26 rfl (SL.of_R hq0_0).hasLen rfl (k_as (v := .int .i64 (a0.List_.length : Int)) (by simp only [List.length_map]) (jBw rfl rfl rfl (jAi (jAh [(1, _), (2, _), (4, _), (111, _)] ⟨rfl, rfl, rfl, rfl, trivial⟩ (jAl rfl (fun c109 => ?_) (fun c109 => ?_))))))))))))
  ·
   have h := itT h c109
   refine jAv (jAg (jAw (jAg (jAa (jAf fld29_3 rfl rfl (jAj one26 rfl h1 rfl rfl (jAc rfl rfl ?_)))))))
   obtain ⟨x11, hx11, h⟩ := ob h
   refine jCd Tryz.underlying26 size29 rfl rfl (SL.of_R hq0_0) (jAk hx11).1 (jAr hx11) rfl ?_
   intro qx11 hqx11
   refine jCr (by exact agg29) rfl hqx11 rfl ?_
   intro cs110 h110
   obtain ⟨q110_0, q110_1, rfl, hq110_0, hq110_1⟩ := opnApiValue h110
   obtain ⟨x12, hx12, h⟩ := ob h
   refine jAp cal32 rfl (ih70  (clsApiValue x11 hq110_0 hq110_1) hx12) rfl ?_
   rintro s111 vr111 st111 rfl
   have := st111.size
   have hS := hS.trans0 st111
   have hE106 := hE106.trans0 st111
   have hE107 := hE107.trans0 st111
   refine jDd rfl rfl (jAi (jAh [(1, _), (2, _), (4, _), (120, _)] ⟨rfl, rfl, rfl, rfl, trivial⟩ (jCk rfl (fun c112 => ?_) (fun c112 => ?_))))
   ·
    have h := ibT h c112
    refine jAg (jAa (jAd rfl rfl (jAi (jAh [(1, _), (2, _), (4, _)] ⟨rfl, rfl, rfl, trivial⟩ (jAx ?_)))))
    obtain rfl := Option.some.inj h
    refine ⟨_, rfl, Ret.mk hS ?_⟩
    exact rfl
   have h := ibF h c112
   exact jAv (jCe (jAa (jAc rfl rfl (jBo rfl rfl rfl (jAd rfl rfl (jAi (jAu ⟨(s111, i64 (x10 + 1), j), ⟨lr, trivial⟩, ⟨rfl, rfl, trivial⟩, ⟨rfl, hE107, h⟩, (by simp)⟩)))))))
  have h := itF h c109
  exact jBq rfl (jAu ⟨s108, trivial, ⟨rfl, trivial⟩, ⟨rfl, hE106, h⟩⟩)
 rintro s113 wL ⟨rfl, hE106, h⟩
 rw [hK106] at h
 have := hE106.size
 have hS := hS.trans0 hE106
 refine jAg (jAa (jAd rfl rfl (jAi (jAx ?_))))
 obtain rfl := Option.some.inj h
 refine ⟨_, rfl, Ret.mk hS ?_⟩
 exact rfl
theorem ref01_fields_rw (j : Nat) : ∀ {s : St} {cs0 : List Value} {a0 : ApiValue} {r : Bool} (hp0 : RC s cs0 (dApiValue a0)) (h : ref01_fields_r j a0 = some r), Calls Tryz.prog 32 #[.agg cs0.toArray] s.w (Ret s K0 (fun s1 v => v = .bool r)) := by
 induction j with
 | zero => intro s cs0 a0 r hp0 h; rw [ref01_fields_r] at h; exact (noneNe h).elim
 | succ j ih => intro s cs0 a0 r hp0 h; rw [ref01_fields_r] at h; exact ref01_fields_s_w hp0 ih h
theorem ref01_fields_w {s : St} {cs0 : List Value} {a0 : ApiValue} {r : Bool} (hp0 : RC s cs0 (dApiValue a0)) (h : ref01_fields a0 = some r) : Calls Tryz.prog 32 #[.agg cs0.toArray] s.w (Ret s K0 (fun s1 v => v = .bool r)) := ref01_fields_rw (FU + (dpApiValue a0)) hp0 h
end Go.Proofs
