import Derived.Test.YtdofbkomeadjgaaGreatDoorW06ZRevMake3
set_option linter.unusedSimpArgs false
set_option linter.unusedVariables false
namespace Go.Proofs
open Go.Fw hiding Own k_append k_append_nil k_append_str k_append_str_nil k_bslice2 k_cut_row0 Elt jBe jBn k_makeI2
open Go.FwT
set_option maxHeartbeats 20000000 in
set_option maxRecDepth 100000 in
theorem law06_RevMake_w {s : St} {cs0 : List Value} {a0 : ApiRev} {cs1 : List Value} {a1 : ApiRev} {a2 : Int} {cs3 : List Value} {a3 : ApiValue} {r : Bool} (hp0 : RC s cs0 (dApiRev a0)) (hp1 : RC s cs1 (dApiRev a1)) (hp3 : RC s cs3 (dApiValue a3)) (tb2 : Tab2 s) (tb0 : Tab0 s) (tb1 : Tab1 s) (h : law06_RevMake a0 a1 a2 a3 = some r) : Calls Tryz.prog 3 #[.agg cs0.toArray, .agg cs1.toArray, .int .i64 a2, .agg cs3.toArray] s.w (Ret s K0 (fun s1 v => v = .bool r)) := by
 unfold law06_RevMake at h
 obtain rfl := opnApiRev hp0
 obtain rfl := opnApiRev hp1
 obtain ⟨q3_0, q3_1, rfl, hq3_0, hq3_1⟩ := opnApiValue hp3
 have hS := Step.r0 K0 s
 refine k_fn (rs := [8]) (args := [.agg (a17 a0.Gen a0.Sum).toArray, .agg (a17 a1.Gen a1.Sum).toArray, .int .i64 a2, .agg #[.int .i64 a3.Kind, .int .i64 a3.Num, S a3.Text, q3_0, q3_1]]) Tryz.func3 rfl rfl rfl rfl (jAg (jAa (jCp rfl rfl ?_)))
 intro s1 b1 st1 h1 ge1
 have := st1.size
 have hS := hS.trans0 st1
 replace hq3_0 := hq3_0.up2 st1
 replace hq3_1 := hq3_1.up2 st1
 replace tb2 := tb2.up2 st1
 replace tb0 := tb0.up2 st1
 replace tb1 := tb1.up2 st1
 have lt1 := h1.lt
 refine jCp rfl rfl ?_
 intro s2 b2 st2 h2 ge2
 have := st2.size
 have hS := hS.trans0 st2
 replace hq3_0 := hq3_0.up2 st2
 replace hq3_1 := hq3_1.up2 st2
 replace h1 := h1.up2 st2
 replace tb2 := tb2.up2 st2
 replace tb0 := tb0.up2 st2
 replace tb1 := tb1.up2 st2
 have lt2 := h2.lt
 refine jCp rfl rfl ?_
 intro s3 b3 st3 h3 ge3
 have := st3.size
 have hS := hS.trans0 st3
 replace hq3_0 := hq3_0.up2 st3
 replace hq3_1 := hq3_1.up2 st3
 replace h1 := h1.up2 st3
 replace h2 := h2.up2 st3
 replace tb2 := tb2.up2 st3
 replace tb0 := tb0.up2 st3
 replace tb1 := tb1.up2 st3
 have lt3 := h3.lt
 refine jAd rfl rfl (jAi (jAh [(2, _), (4, _), (5, _), (7, _), (8, _)] ⟨rfl, rfl, rfl, rfl, rfl, trivial⟩ (jAg (jAg (jAa (jAs (cs := [.int .i64 a3.Kind, .int .i64 a3.Num, S a3.Text, q3_0, q3_1]) agg29 rfl h3 rfl ?_))))))
 obtain ⟨x1, hx1, h⟩ := ob h
 refine jAp cal4 rfl (law01_Long_w  (clsApiValue a3 hq3_0 hq3_1) hx1) rfl ?_
 rintro s4 vr4 st4 rfl
 have := st4.size
 have hS := hS.trans0 st4
 replace hq3_0 := hq3_0.up2 st4
 replace hq3_1 := hq3_1.up2 st4
 replace h1 := h1.up2 st4
 replace h2 := h2.up2 st4
 replace h3 := h3.up2 st4
 replace tb2 := tb2.up2 st4
 replace tb0 := tb0.up2 st4
 replace tb1 := tb1.up2 st4
 refine jAi (jAh [(2, _), (4, _), (5, _), (7, _), (8, _), (14, _)] ⟨rfl, rfl, rfl, rfl, rfl, rfl, trivial⟩ (jCk rfl (fun c5 => ?_) (fun c5 => ?_)))
 ·
  have h := ibT h c5
  refine jAg (jAa ?_)
  obtain ⟨x2, hx2, h⟩ := ob h
  refine jAp cal5 rfl (law06_awake_w  tb2 tb0 tb1 hx2) rfl ?_
  rintro s6 vr6 st6 rfl
  have := st6.size
  have hS := hS.trans0 st6
  refine jAd rfl rfl (jAi (jAh [(2, _), (4, _), (5, _), (7, _), (8, _)] ⟨rfl, rfl, rfl, rfl, rfl, trivial⟩ (jAx ?_)))
  obtain rfl := Option.some.inj h
  refine ⟨_, rfl, Ret.mk hS ?_⟩
  exact rfl
 have h := ibF h c5
 refine jAv (jAg (jAa (jAs (cs := (a17 a0.Gen a0.Sum)) agg25 rfl h1 rfl (jAc rfl rfl (jAs (cs := [.int .i64 a3.Kind, .int .i64 a3.Num, S a3.Text, q3_0, q3_1]) agg29 rfl h3 rfl ?_)))))
 obtain ⟨x3, hx3, h⟩ := ob h
 refine jAp cal6 rfl (rev_Make_w  (clsApiRev a0) (clsApiValue a3 hq3_0 hq3_1) tb2 hx3) rfl ?_
 rintro s7 vr7 st7 ⟨cs7_0, rfl, h7_0⟩
 have := st7.size
 have hS := hS.trans0 st7
 replace hq3_0 := hq3_0.up2 st7
 replace hq3_1 := hq3_1.up2 st7
 replace h1 := h1.up2 st7
 replace h2 := h2.up2 st7
 replace h3 := h3.up2 st7
 replace tb2 := tb2.up2 st7
 replace tb0 := tb0.up2 st7
 replace tb1 := tb1.up2 st7
 obtain rfl := opnApiRev h7_0
 refine jAc rfl rfl (jBd rfl rfl rfl (jBd rfl rfl rfl (jBj zero25 rfl ?_)))
 intro s8 b8 st8 h8 ge8
 have := st8.size
 have hS := hS.trans0 st8
 replace hq3_0 := hq3_0.up2 st8
 replace hq3_1 := hq3_1.up2 st8
 replace h1 := h1.up2 st8
 replace h2 := h2.up2 st8
 replace h3 := h3.up2 st8
 replace tb2 := tb2.up2 st8
 replace tb0 := tb0.up2 st8
 replace tb1 := tb1.up2 st8
 have lt8 := h8.lt
 refine jAo (cs' := (a17 x3.1.Gen x3.1.Sum)) size25 rfl rfl h8 lz (CellsOf.lit rfl rfl) rfl lq rfl ?_
 intro s9 st9 h8
 have := st9.size
 have hS := hS.c0 st9
 replace hq3_0 := hq3_0.up2 st9
 replace hq3_1 := hq3_1.up2 st9
 replace h1 := h1.up2 st9
 replace h2 := h2.up2 st9
 replace h3 := h3.up2 st9
 replace tb2 := tb2.up2 st9
 replace tb0 := tb0.up2 st9
 replace tb1 := tb1.up2 st9
 refine jAd rfl rfl (jAi (jAh [(2, _), (4, _), (5, _), (7, _), (8, _), (9, _), (10, _)] ⟨rfl, rfl, rfl, rfl, rfl, rfl, rfl, trivial⟩ (jAg (jAa (jAs (cs := (a17 a0.Gen a0.Sum)) agg25 rfl h1 rfl (jAc rfl rfl (jAs (cs := [.int .i64 a3.Kind, .int .i64 a3.Num, S a3.Text, q3_0, q3_1]) agg29 rfl h3 rfl ?_)))))))
 obtain ⟨x4, hx4, h⟩ := ob h
 refine jAp cal7 rfl (ref06_Make_w  (clsApiRev a0) (clsApiValue a3 hq3_0 hq3_1) hx4) rfl ?_
 rintro s10 vr10 st10 ⟨cs10_0, rfl, h10_0⟩
 have := st10.size
 have hS := hS.trans0 st10
 replace h1 := h1.up2 st10
 replace h2 := h2.up2 st10
 replace h8 := h8.up2 st10
 replace tb2 := tb2.up2 st10
 replace tb0 := tb0.up2 st10
 replace tb1 := tb1.up2 st10
 obtain rfl := opnApiRev h10_0
 refine jAc rfl rfl (jBd rfl rfl rfl (jBd rfl rfl rfl (jBj zero25 rfl ?_)))
 intro s11 b11 st11 h11 ge11
 have := st11.size
 have hS := hS.trans0 st11
 replace h1 := h1.up2 st11
 replace h2 := h2.up2 st11
 replace h8 := h8.up2 st11
 replace tb2 := tb2.up2 st11
 replace tb0 := tb0.up2 st11
 replace tb1 := tb1.up2 st11
 have lt11 := h11.lt
 refine jAo (cs' := (a17 x4.1.Gen x4.1.Sum)) size25 rfl rfl h11 lz (CellsOf.lit rfl rfl) rfl lq rfl ?_
 intro s12 st12 h11
 have := st12.size
 have hS := hS.c0 st12
 replace h1 := h1.up2 st12
 replace h2 := h2.up2 st12
 replace h8 := h8.up2 st12
 replace tb2 := tb2.up2 st12
 replace tb0 := tb0.up2 st12
 replace tb1 := tb1.up2 st12
 refine jAd rfl rfl (jAi (jAh [(4, _), (5, _), (8, _), (9, _), (10, _), (11, _), (12, _)] ⟨rfl, rfl, rfl, rfl, rfl, rfl, rfl, trivial⟩ (jAg (jBl (KN s12.n) 27 (.read 0 (.read 1 (.read 2 (.read 3 (.read 4 (.read 5 (.read 6 (.read 7 (.read 8 (.read 9 (.read 11 (.alt 10 (.alt 12 (.read 13 (.read 14 (.read 15 (.read 16 (.read 17 (.read 19 (.read 20 (.alt 18 (.alt 21 (.read 22 (.read 23 (.read 24 (.alt 25 (.read 26 .fin) .no)))) .no) .no)))))))) .no) .no)))))))))))) mixed lw rfl rfl rfl ?_))))
 intro s13 st13
 have := st13.size
 have hS := hS.trans0 st13
 replace h1 := h1.up2 st13
 replace h2 := h2.up2 st13
 replace h8 := h8.up2 st13
 replace h11 := h11.up2 st13
 replace tb2 := tb2.up2 st13
 replace tb0 := tb0.up2 st13
 replace tb1 := tb1.up2 st13
 refine jAb (.agg (a17 x3.1.Gen x3.1.Sum).toArray) rfl rfl (fun s14 st14 => ?_) ?_
 ·try replace h8 := h8.up2 st14
  exact jAs (cs := (a17 x3.1.Gen x3.1.Sum)) agg25 rfl h8 rfl (jAe)
 refine jAb (.agg (a17 x4.1.Gen x4.1.Sum).toArray) rfl rfl (fun s15 st15 => ?_) ?_
 ·try replace h11 := h11.up2 st15
  exact jAs (cs := (a17 x4.1.Gen x4.1.Sum)) agg25 rfl h11 rfl (jAe)
 refine jAb (.bool (decide ((x3.1.Gen.toNat : Int) = (x4.1.Gen.toNat : Int) ∧ (y16 x3.1.Sum) = (y16 x4.1.Sum)))) rfl rfl (fun s16 st16 => ?_) ?_
 ·exact k_eql_fb (a := (x3.1.Gen.toNat : Int)) (b := (x4.1.Gen.toNat : Int)) (xs := (y16 x3.1.Sum)) (ys := (y16 x4.1.Sum)) flatB25 rfl rfl rfl rfl rfl (jAe)
 refine jAb (.bool (decide ((x3.1.Gen.toNat : Int) = (x4.1.Gen.toNat : Int) ∧ (y16 x3.1.Sum) = (y16 x4.1.Sum)))) rfl rfl (fun s17 st17 => ?_) ?_
 ·exact jAc rfl rfl (jAe)
 refine rt_split (fun c18 => ?_) (fun c18 => ?_)
 ·
  have h := itT h c18
  refine jAb (.int .i64 x3.2) rfl rfl (fun s19 st19 => ?_) ?_
  ·exact jAn rfl rfl (jAc rfl rfl (jAe))
  refine jAb (.int .i64 x4.2) rfl rfl (fun s20 st20 => ?_) ?_
  ·exact jAn rfl rfl (jAc rfl rfl (jAe))
  refine jAb (.bool (decide (x3.2 = x4.2))) rfl rfl (fun s21 st21 => ?_) ?_
  ·exact jAn rfl rfl (jCc rfl rfl rfl (jAe))
  refine jAb (.bool (decide (x3.2 = x4.2))) rfl rfl (fun s22 st22 => ?_) ?_
  ·exact jAz rfl rfl rfl rfl (jAe)
  refine jAb (.bool (decide (x3.2 = x4.2))) rfl rfl (fun s23 st23 => ?_) ?_
  ·exact jAc rfl rfl (jAe)
  refine rt_split (fun c24 => ?_) (fun c24 => ?_)
  ·
   have h := itT h c24
   refine jAb (.agg (a17 a0.Gen a0.Sum).toArray) rfl rfl (fun s25 st25 => ?_) ?_
   ·try replace h1 := h1.up2 st25
    exact jAn rfl rfl (jAs (cs := (a17 a0.Gen a0.Sum)) agg25 rfl h1 rfl (jAe))
   refine jAb (.agg (a17 a0.Gen a0.Sum).toArray) rfl rfl (fun s26 st26 => ?_) ?_
   ·try replace h1 := h1.up2 st26
    exact jAn rfl rfl (jAs (cs := (a17 a0.Gen a0.Sum)) agg25 rfl h1 rfl (jAe))
   refine jBa rfl rfl (jAn rfl rfl ?_)
   have hA27 := Step.r0 (KN s12.n) s13
   obtain ⟨x5, hx5, h⟩ := ob h
   refine jAp cal8 rfl (rev_May_w  (clsApiRev a0) hx5) rfl ?_
   rintro s28 vr28 st28 rfl
   have := st28.size
   have hS := hS.trans0 st28
   have hA27 := hA27.trans0 st28
   replace h1 := h1.up2 st28
   replace h2 := h2.up2 st28
   replace tb2 := tb2.up2 st28
   replace tb0 := tb0.up2 st28
   replace tb1 := tb1.up2 st28
   refine jAt hA27 (jBa rfl rfl (jAn rfl rfl ?_))
   have hA29 := Step.r0 (KN s12.n) s28
   obtain ⟨x6, hx6, h⟩ := ob h
   refine jAp cal9 rfl (ref06_May_w  (clsApiRev a0) hx6) rfl ?_
   rintro s30 vr30 st30 rfl
   have := st30.size
   have hS := hS.trans0 st30
   have hA29 := hA29.trans0 st30
   replace h1 := h1.up2 st30
   replace h2 := h2.up2 st30
   replace tb2 := tb2.up2 st30
   replace tb0 := tb0.up2 st30
   replace tb1 := tb1.up2 st30
   refine jAt hA29 (jAb (.bool (x5 == x6)) rfl rfl (fun s31 st31 => ?_) ?_)
   ·exact jAn rfl rfl (k_eqlb Tryz.underlying4 rfl rfl rfl (jAe))
   refine jAb (.bool (x5 == x6)) rfl rfl (fun s32 st32 => ?_) ?_
   ·exact jAz rfl rfl rfl rfl (jAe)
   refine jAb (.bool (x5 == x6)) rfl rfl (fun s33 st33 => ?_) ?_
   ·exact jAc rfl rfl (jAe)
   refine rt_splitb (fun c34 => ?_) (fun c34 => ?_)
   ·
    have h := ibT h c34
    refine jAb (.agg (a17 a0.Gen a0.Sum).toArray) rfl rfl (fun s35 st35 => ?_) ?_
    ·try replace h1 := h1.up2 st35
     exact jAn rfl rfl (jAs (cs := (a17 a0.Gen a0.Sum)) agg25 rfl h1 rfl (jAe))
    refine jAb (.agg (a17 a1.Gen a1.Sum).toArray) rfl rfl (fun s36 st36 => ?_) ?_
    ·try replace h2 := h2.up2 st36
     exact jAn rfl rfl (jAs (cs := (a17 a1.Gen a1.Sum)) agg25 rfl h2 rfl (jAe))
    refine jAb (.agg (a17 a0.Gen a0.Sum).toArray) rfl rfl (fun s37 st37 => ?_) ?_
    ·try replace h1 := h1.up2 st37
     exact jAn rfl rfl (jAs (cs := (a17 a0.Gen a0.Sum)) agg25 rfl h1 rfl (jAe))
    refine jAb (.agg (a17 a1.Gen a1.Sum).toArray) rfl rfl (fun s38 st38 => ?_) ?_
    ·try replace h2 := h2.up2 st38
     exact jAn rfl rfl (jAs (cs := (a17 a1.Gen a1.Sum)) agg25 rfl h2 rfl (jAe))
    refine jBa rfl rfl (jAn rfl rfl ?_)
    have hA39 := Step.r0 (KN s12.n) s30
    obtain ⟨x7, hx7, h⟩ := ob h
    refine jAp cal10 rfl (rev_Cmp_w  (clsApiRev a0) (clsApiRev a1) hx7) rfl ?_
    rintro s40 vr40 st40 rfl
    have := st40.size
    have hS := hS.trans0 st40
    have hA39 := hA39.trans0 st40
    replace tb2 := tb2.up2 st40
    replace tb0 := tb0.up2 st40
    replace tb1 := tb1.up2 st40
    refine jAt hA39 (jBa rfl rfl (jAn rfl rfl ?_))
    have hA41 := Step.r0 (KN s12.n) s40
    obtain ⟨x8, hx8, h⟩ := ob h
    refine jAp cal11 rfl (ref06_Cmp_w  (clsApiRev a0) (clsApiRev a1) hx8) rfl ?_
    rintro s42 vr42 st42 rfl
    have := st42.size
    have hS := hS.trans0 st42
    have hA41 := hA41.trans0 st42
    replace tb2 := tb2.up2 st42
    replace tb0 := tb0.up2 st42
    replace tb1 := tb1.up2 st42
    refine jAt hA41 (jAb (.bool (decide (x7 = x8))) rfl rfl (fun s43 st43 => ?_) ?_)
    ·exact jAn rfl rfl (jCc rfl rfl rfl (jAe))
    refine jAb (.bool (decide (x7 = x8))) rfl rfl (fun s44 st44 => ?_) ?_
    ·exact jAz rfl rfl rfl rfl (jAe)
    refine jAb (.bool (decide (x7 = x8))) rfl rfl (fun s45 st45 => ?_) ?_
    ·exact jAc rfl rfl (jAe)
    refine rt_split (fun c46 => ?_) (fun c46 => ?_)
    ·
     have h := itT h c46
     refine jBa rfl rfl (jAn rfl rfl ?_)
     have hA47 := Step.r0 (KN s12.n) s42
     obtain ⟨x9, hx9, h⟩ := ob h
     refine jAp cal5 rfl (law06_awake_w  tb2 tb0 tb1 hx9) rfl ?_
     rintro s48 vr48 st48 rfl
     have := st48.size
     have hS := hS.trans0 st48
     have hA47 := hA47.trans0 st48
     refine jAt hA47 (jAb (.bool x9) rfl rfl (fun s49 st49 => ?_) ?_)
     ·exact jAz rfl rfl rfl rfl (jAe)
     refine jBg (jAd rfl rfl (jAi (jAh [(8, _)] ⟨rfl, trivial⟩ (jAx ?_))))
     obtain rfl := Option.some.inj h
     refine ⟨_, rfl, Ret.mk hS ?_⟩
     exact rfl
    have h := itF h c46
    refine jBa rfl rfl (k_no rfl rfl rfl rfl (jAt ((Step.refl _).of0 li) (jAb (.bool false) rfl rfl (fun s50 st50 => ?_) ?_)))
    ·exact jAy rfl rfl rfl rfl (jAe)
    refine jBg (jAd rfl rfl (jAi (jAh [(8, _)] ⟨rfl, trivial⟩ (jAx ?_))))
    obtain rfl := Option.some.inj h
    refine ⟨_, rfl, Ret.mk hS ?_⟩
    exact rfl
   have h := ibF h c34
   refine jAb undef rfl rfl (fun s51 st51 => ?_) ?_
   ·exact k_no rfl rfl rfl rfl (jAe)
   refine jAb undef rfl rfl (fun s52 st52 => ?_) ?_
   ·exact k_no rfl rfl rfl rfl (jAe)
   refine jAb undef rfl rfl (fun s53 st53 => ?_) ?_
   ·exact k_no rfl rfl rfl rfl (jAe)
   refine jAb undef rfl rfl (fun s54 st54 => ?_) ?_
   ·exact k_no rfl rfl rfl rfl (jAe)
   refine jBa rfl rfl (k_no rfl rfl rfl rfl (jAt ((Step.refl _).of0 li) (jBa rfl rfl (k_no rfl rfl rfl rfl (jAt ((Step.refl _).of0 li) (jAb undef rfl rfl (fun s55 st55 => ?_) ?_))))))
   ·exact k_no rfl rfl rfl rfl (jAe)
   refine jAb (.bool false) rfl rfl (fun s56 st56 => ?_) ?_
   ·exact jAy rfl rfl rfl rfl (jAe)
   refine jAb (.bool false) rfl rfl (fun s57 st57 => ?_) ?_
   ·exact jAc rfl rfl (jAe)
   refine jBa rfl rfl (k_no rfl rfl rfl rfl (jAt ((Step.refl _).of0 li) (jAb (.bool false) rfl rfl (fun s58 st58 => ?_) ?_)))
   ·exact jAy rfl rfl rfl rfl (jAe)
   refine jBg (jAd rfl rfl (jAi (jAh [(8, _)] ⟨rfl, trivial⟩ (jAx ?_))))
   obtain rfl := Option.some.inj h
   refine ⟨_, rfl, Ret.mk hS ?_⟩
   exact rfl
  have h := itF h c24
  refine jAb undef rfl rfl (fun s59 st59 => ?_) ?_
  ·exact k_no rfl rfl rfl rfl (jAe)
  refine jAb undef rfl rfl (fun s60 st60 => ?_) ?_
  ·exact k_no rfl rfl rfl rfl (jAe)
  refine jBa rfl rfl (k_no rfl rfl rfl rfl (jAt ((Step.refl _).of0 li) (jBa rfl rfl (k_no rfl rfl rfl rfl (jAt ((Step.refl _).of0 li) (jAb undef rfl rfl (fun s61 st61 => ?_) ?_))))))
  ·exact k_no rfl rfl rfl rfl (jAe)
  refine jAb (.bool false) rfl rfl (fun s62 st62 => ?_) ?_
  ·exact jAy rfl rfl rfl rfl (jAe)
  refine jAb (.bool false) rfl rfl (fun s63 st63 => ?_) ?_
  ·exact jAc rfl rfl (jAe)
  refine jAb undef rfl rfl (fun s64 st64 => ?_) ?_
  ·exact k_no rfl rfl rfl rfl (jAe)
  refine jAb undef rfl rfl (fun s65 st65 => ?_) ?_
  ·exact k_no rfl rfl rfl rfl (jAe)
  refine jAb undef rfl rfl (fun s66 st66 => ?_) ?_
  ·exact k_no rfl rfl rfl rfl (jAe)
  refine jAb undef rfl rfl (fun s67 st67 => ?_) ?_
  ·exact k_no rfl rfl rfl rfl (jAe)
  refine jBa rfl rfl (k_no rfl rfl rfl rfl (jAt ((Step.refl _).of0 li) (jBa rfl rfl (k_no rfl rfl rfl rfl (jAt ((Step.refl _).of0 li) (jAb undef rfl rfl (fun s68 st68 => ?_) ?_))))))
  ·exact k_no rfl rfl rfl rfl (jAe)
  refine jAb (.bool false) rfl rfl (fun s69 st69 => ?_) ?_
  ·exact jAy rfl rfl rfl rfl (jAe)
  refine jAb (.bool false) rfl rfl (fun s70 st70 => ?_) ?_
  ·exact jAc rfl rfl (jAe)
  refine jBa rfl rfl (k_no rfl rfl rfl rfl (jAt ((Step.refl _).of0 li) (jAb (.bool false) rfl rfl (fun s71 st71 => ?_) ?_)))
  ·exact jAy rfl rfl rfl rfl (jAe)
  refine jBg (jAd rfl rfl (jAi (jAh [(8, _)] ⟨rfl, trivial⟩ (jAx ?_))))
  obtain rfl := Option.some.inj h
  refine ⟨_, rfl, Ret.mk hS ?_⟩
  exact rfl
 have h := itF h c18
 refine jAb undef rfl rfl (fun s72 st72 => ?_) ?_
 ·exact k_no rfl rfl rfl rfl (jAe)
 refine jAb undef rfl rfl (fun s73 st73 => ?_) ?_
 ·exact k_no rfl rfl rfl rfl (jAe)
 refine jAb undef rfl rfl (fun s74 st74 => ?_) ?_
 ·exact k_no rfl rfl rfl rfl (jAe)
 refine jAb (.bool false) rfl rfl (fun s75 st75 => ?_) ?_
 ·exact jAy rfl rfl rfl rfl (jAe)
 refine jAb (.bool false) rfl rfl (fun s76 st76 => ?_) ?_
 ·exact jAc rfl rfl (jAe)
 refine jAb undef rfl rfl (fun s77 st77 => ?_) ?_
 ·exact k_no rfl rfl rfl rfl (jAe)
 refine jAb undef rfl rfl (fun s78 st78 => ?_) ?_
 ·exact k_no rfl rfl rfl rfl (jAe)
 refine jBa rfl rfl (k_no rfl rfl rfl rfl (jAt ((Step.refl _).of0 li) (jBa rfl rfl (k_no rfl rfl rfl rfl (jAt ((Step.refl _).of0 li) (jAb undef rfl rfl (fun s79 st79 => ?_) ?_))))))
 ·exact k_no rfl rfl rfl rfl (jAe)
 refine jAb (.bool false) rfl rfl (fun s80 st80 => ?_) ?_
 ·exact jAy rfl rfl rfl rfl (jAe)
 refine jAb (.bool false) rfl rfl (fun s81 st81 => ?_) ?_
 ·exact jAc rfl rfl (jAe)
 refine jAb undef rfl rfl (fun s82 st82 => ?_) ?_
 ·exact k_no rfl rfl rfl rfl (jAe)
 refine jAb undef rfl rfl (fun s83 st83 => ?_) ?_
 ·exact k_no rfl rfl rfl rfl (jAe)
 refine jAb undef rfl rfl (fun s84 st84 => ?_) ?_
 ·exact k_no rfl rfl rfl rfl (jAe)
 refine jAb undef rfl rfl (fun s85 st85 => ?_) ?_
 ·exact k_no rfl rfl rfl rfl (jAe)
 refine jBa rfl rfl (k_no rfl rfl rfl rfl (jAt ((Step.refl _).of0 li) (jBa rfl rfl (k_no rfl rfl rfl rfl (jAt ((Step.refl _).of0 li) (jAb undef rfl rfl (fun s86 st86 => ?_) ?_))))))
 ·exact k_no rfl rfl rfl rfl (jAe)
 refine jAb (.bool false) rfl rfl (fun s87 st87 => ?_) ?_
 ·exact jAy rfl rfl rfl rfl (jAe)
 refine jAb (.bool false) rfl rfl (fun s88 st88 => ?_) ?_
 ·exact jAc rfl rfl (jAe)
 refine jBa rfl rfl (k_no rfl rfl rfl rfl (jAt ((Step.refl _).of0 li) (jAb (.bool false) rfl rfl (fun s89 st89 => ?_) ?_)))
 ·exact jAy rfl rfl rfl rfl (jAe)
 refine jBg (jAd rfl rfl (jAi (jAh [(8, _)] ⟨rfl, trivial⟩ (jAx ?_))))
 obtain rfl := Option.some.inj h
 refine ⟨_, rfl, Ret.mk hS ?_⟩
 exact rfl
end Go.Proofs
