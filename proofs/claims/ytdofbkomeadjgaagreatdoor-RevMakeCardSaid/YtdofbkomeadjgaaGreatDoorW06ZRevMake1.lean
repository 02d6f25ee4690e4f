import Derived.Test.YtdofbkomeadjgaaGreatDoorW06ZRevMake0
set_option linter.unusedSimpArgs false
set_option linter.unusedVariables false
set_option maxHeartbeats 20000000
set_option maxRecDepth 100000
namespace Go.Proofs
open Go.Fw hiding Own k_append k_append_nil k_append_str k_append_str_nil k_bslice2 k_cut_row0 Elt jBe jBn k_makeI2
open Go.FwT
theorem digest_mix_w {s : St} {cs0 : List Value} {a0 : St76} {l1 : Lab} {v1 : Value} {a1 : (List UInt8)} {a2 : UInt64} {a3 : Bool} {r : St76} (hp0 : RC s cs0 (dSt76 a0)) (hp1 : SL s l1 v1 1 (a1.map bD)) (h : digest_mix a0 a1 a2 a3 = some r) : Calls Tryz.prog 74 #[.agg cs0.toArray, v1, cW a2, .bool a3] s.w (Ret s K0 (fun s1 v => ∃ (u0 : List Value), v = .agg u0.toArray ∧ RC s1 u0 (dSt76 r))) := by
 unfold digest_mix at h
 obtain rfl := opnSt76 hp0
 obtain ⟨lf1, lf1le, lf1ne, hp1⟩ := hp1.fix
 have hS := Step.r0 K0 s
 refine k_fn_m (args := [.agg (a8 a0).toArray, v1, cW a2, .bool a3]) Tryz.func74 rfl rfl (jCw (jCz (jAa (jCp rfl rfl ?_))))
 intro s1 b1 st1 h1 ge1
 have := st1.size
 have hS := hS.trans0 st1
 replace hp1 := hp1.up2 st1
 have lt1 := h1.lt
 refine jBj zero76 rfl ?_
 intro s2 b2 st2 h2 ge2
 have := st2.size
 have hS := hS.trans0 st2
 replace hp1 := hp1.up2 st2
 replace h1 := h1.up2 st2
 have lt2 := h2.lt
 refine jAi (jAu (jCw (jCz (jAa ?_))))
 obtain ⟨x1, hx1, h⟩ := ob h
 refine jAp cal72 rfl (digest_first_w   hx1) rfl ?_
 rintro s3 vr3 st3 ⟨cs3_0, rfl, h3_0⟩
 have := st3.size
 have hS := hS.trans0 st3
 replace hp1 := hp1.up2 st3
 replace h1 := h1.up2 st3
 replace h2 := h2.up2 st3
 obtain rfl := opnSt76 h3_0
 refine jAc rfl rfl ?_
 obtain ⟨x2, hx2, h⟩ := ob h
 refine jAp cal93 rfl (digest_words_w  hp1 hx2) rfl ?_
 rintro s4 vr4 st4 ⟨rfl, h4_0⟩
 have := st4.size
 have hS := hS.trans0 st4
 replace h1 := h1.up2 st4
 replace h2 := h2.up2 st4
 refine jBj zero76 rfl ?_
 intro s5 b5 st5 h5 ge5
 have := st5.size
 have hS := hS.trans0 st5
 replace h1 := h1.up2 st5
 replace h2 := h2.up2 st5
 have lt5 := h5.lt
 refine jBj zero117 rfl ?_
 intro s6 b6 st6 h6 ge6
 have := st6.size
 have hS := hS.trans0 st6
 replace h1 := h1.up2 st6
 replace h2 := h2.up2 st6
 replace h5 := h5.up2 st6
 have lt6 := h6.lt
 refine jAo (cs' := (a8 x1)) size76 rfl rfl h5 lz (CellsOf.lit rfl rfl) rfl lq rfl ?_
 intro s7 st7 h5
 have := st7.size
 have hS := hS.c0 st7
 replace h1 := h1.up2 st7
 replace h2 := h2.up2 st7
 replace h6 := h6.up2 st7
 refine jDj (cs' := (([] : List Value) ++ x2.map cU)) size117 rfl rfl h6 lz (CellsOf.lit (vs := (([] : List Value) ++ x2.map cU)) rfl (ones.arrF (f := cU) _ (fun _ => rfl) rfl)) (by first | rfl | (simp only [List.length_append, List.length_map, List.length_replicate, List.length_replicate, h4_0]; rfl)) (by first | rfl | (simp only [List.length_append, List.length_map, List.length_replicate, List.length_replicate, h4_0]; rfl)) ?_
 intro s8 st8 h6
 have := st8.size
 have hS := hS.c0 st8
 replace h1 := h1.up2 st8
 replace h2 := h2.up2 st8
 replace h5 := h5.up2 st8
 refine jAi (jAu (jCw (jCz (jAa (jBj zero117 rfl ?_)))))
 intro s9 b9 st9 h9 ge9
 have := st9.size
 have hS := hS.trans0 st9
 replace h1 := h1.up2 st9
 replace h2 := h2.up2 st9
 replace h5 := h5.up2 st9
 replace h6 := h6.up2 st9
 have lt9 := h9.lt
 refine jAi (jAu (jCw (jCz ?_)))
 obtain ⟨kj3, hK10, h⟩ := jn_out h
 have hE10 := Step.r0 (KC (b9 + 1) 0) s9
 refine k_cutr (X := St × (List UInt32)) [(2, cW a2), (3, .bool a3), (4, pZ b1), (8, pZ b2), (9, pZ b5), (10, pZ b6), (11, pZ b9)] (fun (xL : St × (List UInt32)) => match xL with | (sl, x4) => []) (fun (xL : St × (List UInt32)) (wL : World) => match xL with | (sl, x4) => sl.w = wL ∧ Step (KC (b9 + 1) 0) s9 sl ∧ (x4.length = 16) ∧ (Blk sl b9 ⟨b9 + 1, 0⟩ (([] : List Value) ++ x4.map cU) 117) ∧ kj3 x4 = some r) ?_ ?_
 ·
  refine jBl (KN s9.n) 2 (.alt 0 (.alt 1 .fin .no) (.alt 1 (.alt 0 .fin .no) .no)) mixed lw rfl rfl rfl ?_
  intro s12 st12
  have := st12.size
  have hS := hS.trans0 st12
  have hE10 := hE10.trans0 st12
  replace h1 := h1.up2 st12
  replace h9 := h9.up2 st12
  refine jCl rfl rfl ?_ ?_
  ·
   have hA13 := Step.r0 (KN s9.n) s12
   refine jBt (g := dU32) (i := 0) (j := 8) (pre := []) (post := []) (xs := (List.replicate 16 (0 : UInt32))) cU (fun _ => rfl) (fun _ => rfl) arr117 rfl h9.tl rfl (List.length_replicate) CutAt.none (CutAt.nat rfl) (by decide) (by decide) (by decide) rfl ?_
   intro h14
   replace h14 : SL s12 ⟨b9 + 1, 0⟩ (.slice (some ⟨b9, 0 + 0, none⟩) (8 - 0) (16 - 0)) 1 ((((List.replicate 16 (0 : UInt32)).drop 0).take (8 - 0)).map dU32) := h14
   refine jAt hA13 (jBa rfl rfl ?_)
   have hA15 := Step.r0 (KN s9.n) s12
   refine jBt (g := dU32) (i := 0) (j := 8) (pre := []) (post := []) (xs := (y8 a0)) cU (fun _ => rfl) (fun _ => rfl) arr76 rfl h1 rfl rfl CutAt.none CutAt.none (by decide) (by decide) (by decide) rfl ?_
   intro h16
   replace h16 : SL s12 ⟨b1 + 1, 0⟩ (.slice (some ⟨b1, 0 + 0, none⟩) (8 - 0) (8 - 0)) 1 ((y8 a0).map dU32) := h16
   refine jAt hA15 (jBg (jDf (i := 0) (j := 8) (q := 16) (g := dU32) cU (fun _ => rfl) (fun _ => rfl) (pre := []) (post := []) (xs := (List.replicate 16 (0 : UInt32))) (ys := (y8 a0)) elem119 rfl rfl h9.tl lz rfl (List.length_replicate) (by decide) (by decide) h16 rfl ?_))
   intro s17 st17 h9
   replace h9 := h9.tl'
   have hl17 : (cpyAt (List.replicate 16 (0 : UInt32)) 0 8 (y8 a0)).length = 16 := cpyAt_len (List.length_replicate) (by decide) (by decide)
   have := st17.size
   have hS := hS.c0 st17
   have hE10 := hE10.c0 st17
   exact jAi (jAu ⟨(s17, (cpyAt (List.replicate 16 (0 : UInt32)) 0 8 (y8 a0))), trivial, ⟨rfl, rfl, rfl, rfl, rfl, rfl, rfl, trivial⟩, ⟨rfl, hE10, hl17, h9, h⟩⟩)
  refine jBa rfl rfl ?_
  have hA18 := Step.r0 (KN s9.n) s12
  refine jBt (g := dU32) (i := 0) (j := 8) (pre := []) (post := []) (xs := (y8 a0)) cU (fun _ => rfl) (fun _ => rfl) arr76 rfl h1 rfl rfl CutAt.none CutAt.none (by decide) (by decide) (by decide) rfl ?_
  intro h19
  replace h19 : SL s12 ⟨b1 + 1, 0⟩ (.slice (some ⟨b1, 0 + 0, none⟩) (8 - 0) (8 - 0)) 1 ((y8 a0).map dU32) := h19
  refine jAt hA18 (jBa rfl rfl ?_)
  have hA20 := Step.r0 (KN s9.n) s12
  refine jBt (g := dU32) (i := 0) (j := 8) (pre := []) (post := []) (xs := (List.replicate 16 (0 : UInt32))) cU (fun _ => rfl) (fun _ => rfl) arr117 rfl h9.tl rfl (List.length_replicate) CutAt.none (CutAt.nat rfl) (by decide) (by decide) (by decide) rfl ?_
  intro h21
  replace h21 : SL s12 ⟨b9 + 1, 0⟩ (.slice (some ⟨b9, 0 + 0, none⟩) (8 - 0) (16 - 0)) 1 ((((List.replicate 16 (0 : UInt32)).drop 0).take (8 - 0)).map dU32) := h21
  refine jAt hA20 (jBg (jDf (i := 0) (j := 8) (q := 16) (g := dU32) cU (fun _ => rfl) (fun _ => rfl) (pre := []) (post := []) (xs := (List.replicate 16 (0 : UInt32))) (ys := (y8 a0)) elem119 rfl rfl h9.tl lz rfl (List.length_replicate) (by decide) (by decide) h19 rfl ?_))
  intro s22 st22 h9
  replace h9 := h9.tl'
  have hl22 : (cpyAt (List.replicate 16 (0 : UInt32)) 0 8 (y8 a0)).length = 16 := cpyAt_len (List.length_replicate) (by decide) (by decide)
  have := st22.size
  have hS := hS.c0 st22
  have hE10 := hE10.c0 st22
  exact jAi (jAu ⟨(s22, (cpyAt (List.replicate 16 (0 : UInt32)) 0 8 (y8 a0))), trivial, ⟨rfl, rfl, rfl, rfl, rfl, rfl, rfl, trivial⟩, ⟨rfl, hE10, hl22, h9, h⟩⟩)
 rintro ⟨s23, x4⟩ wL ⟨rfl, hE10, h11, h9, h⟩
 rw [hK10] at h
 have := hE10.size
 have hS := hS.c0 hE10
 replace h1 := h1.up2 hE10
 replace h2 := h2.up2 hE10
 replace h5 := h5.up2 hE10
 replace h6 := h6.up2 hE10
 refine jCw (jCz ?_)
 obtain ⟨kj5, hK24, h⟩ := jn_out h
 have hE24 := Step.r0 (KC (b9 + 1) 0) s23
 refine k_cutr (X := St × (List UInt32)) [(2, cW a2), (3, .bool a3), (4, pZ b1), (8, pZ b2), (10, pZ b6), (11, pZ b9)] (fun (xL : St × (List UInt32)) => match xL with | (sl, x6) => []) (fun (xL : St × (List UInt32)) (wL : World) => match xL with | (sl, x6) => sl.w = wL ∧ Step (KC (b9 + 1) 0) s23 sl ∧ (x6.length = 16) ∧ (Blk sl b9 ⟨b9 + 1, 0⟩ (([] : List Value) ++ x6.map cU) 117) ∧ kj5 x6 = some r) ?_ ?_
 ·
  refine jBl (KN s23.n) 2 (.alt 0 (.alt 1 .fin .no) (.alt 1 (.alt 0 .fin .no) .no)) mixed lw rfl rfl rfl ?_
  intro s26 st26
  have := st26.size
  have hS := hS.trans0 st26
  have hE24 := hE24.trans0 st26
  replace h5 := h5.up2 st26
  replace h9 := h9.up2 st26
  refine jCl rfl rfl ?_ ?_
  ·
   have hA27 := Step.r0 (KN s23.n) s26
   refine jBt (g := dU32) (i := 8) (j := 16) (pre := []) (post := []) (xs := x4) cU (fun _ => rfl) (fun _ => rfl) arr117 rfl h9.tl rfl h11 (CutAt.nat rfl) CutAt.none (by decide) (by decide) (by decide) rfl ?_
   intro h28
   replace h28 : SL s26 ⟨b9 + 1, 0⟩ (.slice (some ⟨b9, 0 + 8, none⟩) (16 - 8) (16 - 8)) 1 (((x4.drop 8).take (16 - 8)).map dU32) := h28
   refine jAt hA27 (jBa rfl rfl ?_)
   have hA29 := Step.r0 (KN s23.n) s26
   refine jBt (g := dU32) (i := 0) (j := 8) (pre := []) (post := []) (xs := (y8 x1)) cU (fun _ => rfl) (fun _ => rfl) arr76 rfl h5 rfl rfl CutAt.none CutAt.none (by decide) (by decide) (by decide) rfl ?_
   intro h30
   replace h30 : SL s26 ⟨b5 + 1, 0⟩ (.slice (some ⟨b5, 0 + 0, none⟩) (8 - 0) (8 - 0)) 1 ((y8 x1).map dU32) := h30
   refine jAt hA29 (jBg (jDf (i := 8) (j := 16) (q := 16) (g := dU32) cU (fun _ => rfl) (fun _ => rfl) (pre := []) (post := []) (xs := x4) (ys := (y8 x1)) elem119 rfl rfl h9.tl lz rfl h11 (by decide) (by decide) h30 rfl ?_))
   intro s31 st31 h9
   replace h9 := h9.tl'
   have hl31 : (cpyAt x4 8 16 (y8 x1)).length = 16 := cpyAt_len h11 (by decide) (by decide)
   have := st31.size
   have hS := hS.c0 st31
   have hE24 := hE24.c0 st31
   exact jAi (jAu ⟨(s31, (cpyAt x4 8 16 (y8 x1))), trivial, ⟨rfl, rfl, rfl, rfl, rfl, rfl, trivial⟩, ⟨rfl, hE24, hl31, h9, h⟩⟩)
  refine jBa rfl rfl ?_
  have hA32 := Step.r0 (KN s23.n) s26
  refine jBt (g := dU32) (i := 0) (j := 8) (pre := []) (post := []) (xs := (y8 x1)) cU (fun _ => rfl) (fun _ => rfl) arr76 rfl h5 rfl rfl CutAt.none CutAt.none (by decide) (by decide) (by decide) rfl ?_
  intro h33
  replace h33 : SL s26 ⟨b5 + 1, 0⟩ (.slice (some ⟨b5, 0 + 0, none⟩) (8 - 0) (8 - 0)) 1 ((y8 x1).map dU32) := h33
  refine jAt hA32 (jBa rfl rfl ?_)
  have hA34 := Step.r0 (KN s23.n) s26
  refine jBt (g := dU32) (i := 8) (j := 16) (pre := []) (post := []) (xs := x4) cU (fun _ => rfl) (fun _ => rfl) arr117 rfl h9.tl rfl h11 (CutAt.nat rfl) CutAt.none (by decide) (by decide) (by decide) rfl ?_
  intro h35
  replace h35 : SL s26 ⟨b9 + 1, 0⟩ (.slice (some ⟨b9, 0 + 8, none⟩) (16 - 8) (16 - 8)) 1 (((x4.drop 8).take (16 - 8)).map dU32) := h35
  refine jAt hA34 (jBg (jDf (i := 8) (j := 16) (q := 16) (g := dU32) cU (fun _ => rfl) (fun _ => rfl) (pre := []) (post := []) (xs := x4) (ys := (y8 x1)) elem119 rfl rfl h9.tl lz rfl h11 (by decide) (by decide) h33 rfl ?_))
  intro s36 st36 h9
  replace h9 := h9.tl'
  have hl36 : (cpyAt x4 8 16 (y8 x1)).length = 16 := cpyAt_len h11 (by decide) (by decide)
  have := st36.size
  have hS := hS.c0 st36
  have hE24 := hE24.c0 st36
  exact jAi (jAu ⟨(s36, (cpyAt x4 8 16 (y8 x1))), trivial, ⟨rfl, rfl, rfl, rfl, rfl, rfl, trivial⟩, ⟨rfl, hE24, hl36, h9, h⟩⟩)
 rintro ⟨s37, x6⟩ wL ⟨rfl, hE24, h25, h9, h⟩
 rw [hK24] at h
 have := hE24.size
 have hS := hS.c0 hE24
 replace h1 := h1.up2 hE24
 replace h2 := h2.up2 hE24
 replace h6 := h6.up2 hE24
 refine jCw (jCz (jAa ?_))
 obtain ⟨x7, hx7, h⟩ := ob h
 refine jBx (m := 0) arr117 rfl rfl h25 hx7 rfl ?_
 obtain ⟨x8, hx8, h⟩ := ob h
 refine jBv cU (pre := []) (xs := x6) one75 rfl h9 rfl hx8 rfl (jAc rfl rfl (jBz (p := (a2.toNat : Int)) Tryz.underlying22 Tryz.underlying75 rfl rfl (k_as (congrArg (Value.int .u32) (w32 _)) (jCm (p := (x8.toNat : Int)) (q := ((ofI32 (a2.toNat : Int)).toNat : Int)) (.inr (.inr (.inl ⟨rfl, rfl⟩))) rfl rfl rfl (k_as (congrArg (Value.int .u32) (xor32 _ _)) ?_)))))
 obtain ⟨x9, hx9, h⟩ := ob h
 refine jBx (m := 0) arr117 rfl rfl h25 hx9 rfl ?_
 obtain ⟨x10, hx10, h⟩ := ob h
 refine jCg cU (fun _ => rfl) (v := x8 ^^^ (ofI32 (a2.toNat : Int))) (pre := []) (xs := x6) size75 rfl rfl h9 lz rfl hx10 ?_
 intro s38 st38 h9
 have hl38 : (x6.set (12 : Int).toNat (x8 ^^^ (ofI32 (a2.toNat : Int)))).length = 16 := by rw [List.length_set]; exact h25
 have := st38.size
 have hS := hS.c0 st38
 replace h1 := h1.up2 st38
 replace h2 := h2.up2 st38
 replace h6 := h6.up2 st38
 refine jAi (jAu (jCw (jCz (jAa ?_))))
 obtain ⟨x11, hx11, h⟩ := ob h
 refine jBx (m := 0) arr117 rfl rfl hl38 hx11 rfl ?_
 obtain ⟨x12, hx12, h⟩ := ob h
 refine jBv cU (pre := []) (xs := (x6.set (12 : Int).toNat (x8 ^^^ (ofI32 (a2.toNat : Int))))) one75 rfl h9 rfl hx12 rfl (jAc rfl rfl (k_shr (p := (a2.toNat : Int)) rfl rfl (by decide) rfl (k_as (congrArg (Value.int .u64) (shr64_eq _ _)) (jBz (p := ((shr64 a2 32).toNat : Int)) Tryz.underlying22 Tryz.underlying75 rfl rfl (k_as (congrArg (Value.int .u32) (w32 _)) (jCm (p := (x12.toNat : Int)) (q := ((ofI32 ((shr64 a2 32).toNat : Int)).toNat : Int)) (.inr (.inr (.inl ⟨rfl, rfl⟩))) rfl rfl rfl (k_as (congrArg (Value.int .u32) (xor32 _ _)) ?_)))))))
 obtain ⟨x13, hx13, h⟩ := ob h
 refine jBx (m := 0) arr117 rfl rfl hl38 hx13 rfl ?_
 obtain ⟨x14, hx14, h⟩ := ob h
 refine jCg cU (fun _ => rfl) (v := x12 ^^^ (ofI32 ((shr64 a2 32).toNat : Int))) (pre := []) (xs := (x6.set (12 : Int).toNat (x8 ^^^ (ofI32 (a2.toNat : Int))))) size75 rfl rfl h9 lz rfl hx14 ?_
 intro s39 st39 h9
 have hl39 : ((x6.set (12 : Int).toNat (x8 ^^^ (ofI32 (a2.toNat : Int)))).set (13 : Int).toNat (x12 ^^^ (ofI32 ((shr64 a2 32).toNat : Int)))).length = 16 := by rw [List.length_set]; exact hl38
 have := st39.size
 have hS := hS.c0 st39
 replace h1 := h1.up2 st39
 replace h2 := h2.up2 st39
 replace h6 := h6.up2 st39
 refine jAi (jAu (jCw (jCz ?_)))
 obtain ⟨kj15, hK40, h⟩ := jn_out h
 have hE40 := Step.r0 (KC (b9 + 1) 0) s39
 refine k_cutr (X := St × (List UInt32)) [(4, pZ b1), (8, pZ b2), (10, pZ b6), (11, pZ b9)] (fun (xL : St × (List UInt32)) => match xL with | (sl, x16) => []) (fun (xL : St × (List UInt32)) (wL : World) => match xL with | (sl, x16) => sl.w = wL ∧ Step (KC (b9 + 1) 0) s39 sl ∧ (x16.length = 16) ∧ (Blk sl b9 ⟨b9 + 1, 0⟩ (([] : List Value) ++ x16.map cU) 117) ∧ kj15 x16 = some r) ?_ ?_
 ·
  refine jAg (jAa (jAc rfl rfl (jAi (jAh [(4, _), (8, _), (10, _), (11, _), (39, _)] ⟨rfl, rfl, rfl, rfl, rfl, trivial⟩ (jCk rfl (fun c42 => ?_) (fun c42 => ?_))))))
  ·
   have h := ibT h c42
   refine jAa ?_
   obtain ⟨x17, hx17, h⟩ := ob h
   refine jBx (m := 0) arr117 rfl rfl hl39 hx17 rfl ?_
   obtain ⟨x18, hx18, h⟩ := ob h
   refine jBv cU (pre := []) (xs := ((x6.set (12 : Int).toNat (x8 ^^^ (ofI32 (a2.toNat : Int)))).set (13 : Int).toNat (x12 ^^^ (ofI32 ((shr64 a2 32).toNat : Int))))) one75 rfl h9 rfl hx18 rfl (k_compl32 (a := x18) rfl rfl ?_)
   obtain ⟨x19, hx19, h⟩ := ob h
   refine jBx (m := 0) arr117 rfl rfl hl39 hx19 rfl ?_
   obtain ⟨x20, hx20, h⟩ := ob h
   refine jCg cU (fun _ => rfl) (v := 4294967295 ^^^ x18) (pre := []) (xs := ((x6.set (12 : Int).toNat (x8 ^^^ (ofI32 (a2.toNat : Int)))).set (13 : Int).toNat (x12 ^^^ (ofI32 ((shr64 a2 32).toNat : Int))))) size75 rfl rfl h9 lz rfl hx20 ?_
   intro s43 st43 h9
   have hl43 : (((x6.set (12 : Int).toNat (x8 ^^^ (ofI32 (a2.toNat : Int)))).set (13 : Int).toNat (x12 ^^^ (ofI32 ((shr64 a2 32).toNat : Int)))).set (14 : Int).toNat (4294967295 ^^^ x18)).length = 16 := by rw [List.length_set]; exact hl39
   have := st43.size
   have hS := hS.c0 st43
   have hE40 := hE40.c0 st43
   exact jAi (jAu ⟨(s43, (((x6.set (12 : Int).toNat (x8 ^^^ (ofI32 (a2.toNat : Int)))).set (13 : Int).toNat (x12 ^^^ (ofI32 ((shr64 a2 32).toNat : Int)))).set (14 : Int).toNat (4294967295 ^^^ x18))), trivial, ⟨rfl, rfl, rfl, rfl, trivial⟩, ⟨rfl, hE40, hl43, h9, h⟩⟩)
  have h := ibF h c42
  exact jAv (jAu ⟨(s39, ((x6.set (12 : Int).toNat (x8 ^^^ (ofI32 (a2.toNat : Int)))).set (13 : Int).toNat (x12 ^^^ (ofI32 ((shr64 a2 32).toNat : Int))))), trivial, ⟨rfl, rfl, rfl, rfl, trivial⟩, ⟨rfl, hE40, hl39, h9, h⟩⟩)
 rintro ⟨s44, x16⟩ wL ⟨rfl, hE40, h41, h9, h⟩
 rw [hK40] at h
 have := hE40.size
 have hS := hS.c0 hE40
 replace h1 := h1.up2 hE40
 replace h2 := h2.up2 hE40
 replace h6 := h6.up2 hE40
 refine jCw (jCw (jCz (jAa ?_)))
 obtain ⟨x21, hx21, h⟩ := ob h
 refine jAp cal94 rfl (digest_orders_w   hx21) rfl ?_
 rintro s45 vr45 st45 ⟨rfl, h45_0⟩
 have := st45.size
 have hS := hS.trans0 st45
 replace h1 := h1.up2 st45
 replace h2 := h2.up2 st45
 replace h6 := h6.up2 st45
 replace h9 := h9.up2 st45
 refine jAc rfl rfl (jAi (jAu (rk_block (rk_loopc (X := St × Int × (List UInt32) × List Deferred × Nat) [(4, _), (8, _), (10, _), (11, _), (44, _)] (fun (xL : St × Int × (List UInt32) × List Deferred × Nat) => match xL with | (sl, x22, x23, dfL, j) => [(45, .int .i64 x22)]) (fun (xL : St × Int × (List UInt32) × List Deferred × Nat) => match xL with | (sl, x22, x23, dfL, j) => dfL) (fun (xL : St × Int × (List UInt32) × List Deferred × Nat) (wL : World) => match xL with | (sl, x22, x23, dfL, j) => sl.w = wL ∧ Step (KC (b9 + 1) 0) s45 sl ∧ (Blk sl b1 ⟨b1 + 1, 0⟩ (a8 a0) 76) ∧ (Blk sl b2 ⟨b2 + 1, 0⟩ [.int .u32 0, .int .u32 0, .int .u32 0, .int .u32 0, .int .u32 0, .int .u32 0, .int .u32 0, .int .u32 0] 76) ∧ (Blk sl b6 ⟨b6 + 1, 0⟩ (([] : List Value) ++ x2.map cU) 117) ∧ (x23.length = 16) ∧ (Blk sl b9 ⟨b9 + 1, 0⟩ (([] : List Value) ++ x23.map cU) 117) ∧ MarksL sl s45.n sl.n dfL ∧ digest_mix_l1 x21 x2 a0 j x22 x23 = some r) (fun (xL : St × Int × (List UInt32) × List Deferred × Nat) => match xL with | (sl, x22, x23, dfL, j) => j) (s45, 0, x16, [], FU) rfl ⟨rfl, rfl, rfl, rfl, rfl, trivial⟩ ⟨lr, trivial⟩ ⟨rfl, (Step.refl _).of0 li, h1, h2, h6, h41, h9, MarksL.nil, h⟩ ?_))))
 rintro ⟨s48, x22, x23, dfL, j⟩ wL ⟨rfl, hE46, h1, h2, h6, h47, h9, hML, h⟩
 cases j with
 | zero => rw [digest_mix_l1] at h; exact (noneNe h).elim
 | succ j =>
 rw [digest_mix_l1] at h
 have := hE46.size
 have hS := hS.c0 hE46
 obtain ⟨kj24, hkj24, h⟩ := jn_out h
 refine jCw (jCz (jAa (jBw rfl rfl rfl (jAi (jAu (jCw (jCz (jAl rfl (fun c49 => ?_) (fun c49 => ?_)))))))))
 ·
  have h := itT h c49
  refine jAv (jAu (jCw (rk_block (jCw (jCz (jAa ?_))))))
  obtain ⟨x25, hx25, h⟩ := ob h
  refine jDl S (xs := x21) arr120 one9 rfl rfl h45_0 hx25 rfl (jBj zero9 rfl ?_)
  intro s50 b50 st50 h50 ge50
  have := st50.size
  have hS := hS.trans0 st50
  have hE46 := hE46.trans0 st50
  replace h1 := h1.up2 st50
  replace h2 := h2.up2 st50
  replace h6 := h6.up2 st50
  replace h9 := h9.up2 st50
  replace hML := hML.up2 st50
  have lt50 := h50.lt
  refine jAo (cs' := [S x25]) size9 rfl rfl h50 lz (CellsOf.lit rfl rfl) rfl lq rfl ?_
  intro s51 st51 h50
  have := st51.size
  have hS := hS.c0 st51
  have hE46 := hE46.c0 st51
  replace h1 := h1.up2 st51
  replace h2 := h2.up2 st51
  replace h6 := h6.up2 st51
  replace h9 := h9.up2 st51
  replace hML := hML.up2 st51
  refine jAi (jAu (jCw (jCz (jAa ?_))))
  obtain ⟨x26, hx26, h⟩ := ob h
  refine jAp cal95 rfl (digest_quads_w   hx26) rfl ?_
  rintro s52 vr52 st52 rfl
  have := st52.size
  have hS := hS.trans0 st52
  have hE46 := hE46.trans0 st52
  replace h1 := h1.up2 st52
  replace h2 := h2.up2 st52
  replace h6 := h6.up2 st52
  replace h9 := h9.up2 st52
  replace h50 := h50.up2 st52
  replace hML := hML.up2 st52
  refine jAi (jAu ?_)
  obtain ⟨x30, hx30, h⟩ := ob h
  refine rk_range (A := (Int × St125)) (X := (List UInt32)) (ps := [49, 50]) (fun (sl : St) (y : Int × St125) (vs : List Value) => ∃ (u1 : List Value), vs = [.int .i64 y.1, .agg u1.toArray] ∧ RC sl u1 (dSt125 y.2)) (fun (x27 : (List UInt32)) (x28 : (Int × St125)) => (geti x25 (i64 (2 * x28.1))).bind fun x31 => (geti x25 (i64 ((i64 (2 * x28.1)) + 1))).bind fun x32 => (digest_number x31).bind fun x33 => (geti x2 x33).bind fun x34 => (geti x2 x33).bind fun x35 => (digest_number x32).bind fun x36 => (geti x2 x36).bind fun x37 => (geti x2 x36).bind fun x38 => jn (fun (_ : Unit) => (geti x27 x28.2.e0).bind fun x44 => (geti x27 x28.2.e1).bind fun x45 => (geti x27 x28.2.e0).bind fun x46 => (geti (x27.set (x28.2.e0 : Int).toNat (ofI32 ((x44.toNat : Int) + ((ofI32 ((x45.toNat : Int) + (x35.toNat : Int))).toNat : Int)))) x28.2.e3).bind fun x47 => (geti (x27.set (x28.2.e0 : Int).toNat (ofI32 ((x44.toNat : Int) + ((ofI32 ((x45.toNat : Int) + (x35.toNat : Int))).toNat : Int)))) x28.2.e0).bind fun x48 => (bits_RotateLeft32 (x47 ^^^ x48) (i64 (0 - 16))).bind fun x49 => (geti (x27.set (x28.2.e0 : Int).toNat (ofI32 ((x44.toNat : Int) + ((ofI32 ((x45.toNat : Int) + (x35.toNat : Int))).toNat : Int)))) x28.2.e3).bind fun x50 => (geti ((x27.set (x28.2.e0 : Int).toNat (ofI32 ((x44.toNat : Int) + ((ofI32 ((x45.toNat : Int) + (x35.toNat : Int))).toNat : Int)))).set (x28.2.e3 : Int).toNat x49) x28.2.e2).bind fun x51 => (geti ((x27.set (x28.2.e0 : Int).toNat (ofI32 ((x44.toNat : Int) + ((ofI32 ((x45.toNat : Int) + (x35.toNat : Int))).toNat : Int)))).set (x28.2.e3 : Int).toNat x49) x28.2.e3).bind fun x52 => (geti ((x27.set (x28.2.e0 : Int).toNat (ofI32 ((x44.toNat : Int) + ((ofI32 ((x45.toNat : Int) + (x35.toNat : Int))).toNat : Int)))).set (x28.2.e3 : Int).toNat x49) x28.2.e2).bind fun x53 => (geti (((x27.set (x28.2.e0 : Int).toNat (ofI32 ((x44.toNat : Int) + ((ofI32 ((x45.toNat : Int) + (x35.toNat : Int))).toNat : Int)))).set (x28.2.e3 : Int).toNat x49).set (x28.2.e2 : Int).toNat (ofI32 ((x51.toNat : Int) + (x52.toNat : Int)))) x28.2.e1).bind fun x54 => (geti (((x27.set (x28.2.e0 : Int).toNat (ofI32 ((x44.toNat : Int) + ((ofI32 ((x45.toNat : Int) + (x35.toNat : Int))).toNat : Int)))).set (x28.2.e3 : Int).toNat x49).set (x28.2.e2 : Int).toNat (ofI32 ((x51.toNat : Int) + (x52.toNat : Int)))) x28.2.e2).bind fun x55 => (bits_RotateLeft32 (x54 ^^^ x55) (i64 (0 - 12))).bind fun x56 => (geti (((x27.set (x28.2.e0 : Int).toNat (ofI32 ((x44.toNat : Int) + ((ofI32 ((x45.toNat : Int) + (x35.toNat : Int))).toNat : Int)))).set (x28.2.e3 : Int).toNat x49).set (x28.2.e2 : Int).toNat (ofI32 ((x51.toNat : Int) + (x52.toNat : Int)))) x28.2.e1).bind fun x57 => (geti ((((x27.set (x28.2.e0 : Int).toNat (ofI32 ((x44.toNat : Int) + ((ofI32 ((x45.toNat : Int) + (x35.toNat : Int))).toNat : Int)))).set (x28.2.e3 : Int).toNat x49).set (x28.2.e2 : Int).toNat (ofI32 ((x51.toNat : Int) + (x52.toNat : Int)))).set (x28.2.e1 : Int).toNat x56) x28.2.e0).bind fun x58 => (geti ((((x27.set (x28.2.e0 : Int).toNat (ofI32 ((x44.toNat : Int) + ((ofI32 ((x45.toNat : Int) + (x35.toNat : Int))).toNat : Int)))).set (x28.2.e3 : Int).toNat x49).set (x28.2.e2 : Int).toNat (ofI32 ((x51.toNat : Int) + (x52.toNat : Int)))).set (x28.2.e1 : Int).toNat x56) x28.2.e1).bind fun x59 => (geti ((((x27.set (x28.2.e0 : Int).toNat (ofI32 ((x44.toNat : Int) + ((ofI32 ((x45.toNat : Int) + (x35.toNat : Int))).toNat : Int)))).set (x28.2.e3 : Int).toNat x49).set (x28.2.e2 : Int).toNat (ofI32 ((x51.toNat : Int) + (x52.toNat : Int)))).set (x28.2.e1 : Int).toNat x56) x28.2.e0).bind fun x60 => (geti (((((x27.set (x28.2.e0 : Int).toNat (ofI32 ((x44.toNat : Int) + ((ofI32 ((x45.toNat : Int) + (x35.toNat : Int))).toNat : Int)))).set (x28.2.e3 : Int).toNat x49).set (x28.2.e2 : Int).toNat (ofI32 ((x51.toNat : Int) + (x52.toNat : Int)))).set (x28.2.e1 : Int).toNat x56).set (x28.2.e0 : Int).toNat (ofI32 ((x58.toNat : Int) + ((ofI32 ((x59.toNat : Int) + (x38.toNat : Int))).toNat : Int)))) x28.2.e3).bind fun x61 => (geti (((((x27.set (x28.2.e0 : Int).toNat (ofI32 ((x44.toNat : Int) + ((ofI32 ((x45.toNat : Int) + (x35.toNat : Int))).toNat : Int)))).set (x28.2.e3 : Int).toNat x49).set (x28.2.e2 : Int).toNat (ofI32 ((x51.toNat : Int) + (x52.toNat : Int)))).set (x28.2.e1 : Int).toNat x56).set (x28.2.e0 : Int).toNat (ofI32 ((x58.toNat : Int) + ((ofI32 ((x59.toNat : Int) + (x38.toNat : Int))).toNat : Int)))) x28.2.e0).bind fun x62 => (bits_RotateLeft32 (x61 ^^^ x62) (i64 (0 - 8))).bind fun x63 => (geti (((((x27.set (x28.2.e0 : Int).toNat (ofI32 ((x44.toNat : Int) + ((ofI32 ((x45.toNat : Int) + (x35.toNat : Int))).toNat : Int)))).set (x28.2.e3 : Int).toNat x49).set (x28.2.e2 : Int).toNat (ofI32 ((x51.toNat : Int) + (x52.toNat : Int)))).set (x28.2.e1 : Int).toNat x56).set (x28.2.e0 : Int).toNat (ofI32 ((x58.toNat : Int) + ((ofI32 ((x59.toNat : Int) + (x38.toNat : Int))).toNat : Int)))) x28.2.e3).bind fun x64 => (geti ((((((x27.set (x28.2.e0 : Int).toNat (ofI32 ((x44.toNat : Int) + ((ofI32 ((x45.toNat : Int) + (x35.toNat : Int))).toNat : Int)))).set (x28.2.e3 : Int).toNat x49).set (x28.2.e2 : Int).toNat (ofI32 ((x51.toNat : Int) + (x52.toNat : Int)))).set (x28.2.e1 : Int).toNat x56).set (x28.2.e0 : Int).toNat (ofI32 ((x58.toNat : Int) + ((ofI32 ((x59.toNat : Int) + (x38.toNat : Int))).toNat : Int)))).set (x28.2.e3 : Int).toNat x63) x28.2.e2).bind fun x65 => (geti ((((((x27.set (x28.2.e0 : Int).toNat (ofI32 ((x44.toNat : Int) + ((ofI32 ((x45.toNat : Int) + (x35.toNat : Int))).toNat : Int)))).set (x28.2.e3 : Int).toNat x49).set (x28.2.e2 : Int).toNat (ofI32 ((x51.toNat : Int) + (x52.toNat : Int)))).set (x28.2.e1 : Int).toNat x56).set (x28.2.e0 : Int).toNat (ofI32 ((x58.toNat : Int) + ((ofI32 ((x59.toNat : Int) + (x38.toNat : Int))).toNat : Int)))).set (x28.2.e3 : Int).toNat x63) x28.2.e3).bind fun x66 => (geti ((((((x27.set (x28.2.e0 : Int).toNat (ofI32 ((x44.toNat : Int) + ((ofI32 ((x45.toNat : Int) + (x35.toNat : Int))).toNat : Int)))).set (x28.2.e3 : Int).toNat x49).set (x28.2.e2 : Int).toNat (ofI32 ((x51.toNat : Int) + (x52.toNat : Int)))).set (x28.2.e1 : Int).toNat x56).set (x28.2.e0 : Int).toNat (ofI32 ((x58.toNat : Int) + ((ofI32 ((x59.toNat : Int) + (x38.toNat : Int))).toNat : Int)))).set (x28.2.e3 : Int).toNat x63) x28.2.e2).bind fun x67 => (geti (((((((x27.set (x28.2.e0 : Int).toNat (ofI32 ((x44.toNat : Int) + ((ofI32 ((x45.toNat : Int) + (x35.toNat : Int))).toNat : Int)))).set (x28.2.e3 : Int).toNat x49).set (x28.2.e2 : Int).toNat (ofI32 ((x51.toNat : Int) + (x52.toNat : Int)))).set (x28.2.e1 : Int).toNat x56).set (x28.2.e0 : Int).toNat (ofI32 ((x58.toNat : Int) + ((ofI32 ((x59.toNat : Int) + (x38.toNat : Int))).toNat : Int)))).set (x28.2.e3 : Int).toNat x63).set (x28.2.e2 : Int).toNat (ofI32 ((x65.toNat : Int) + (x66.toNat : Int)))) x28.2.e1).bind fun x68 => (geti (((((((x27.set (x28.2.e0 : Int).toNat (ofI32 ((x44.toNat : Int) + ((ofI32 ((x45.toNat : Int) + (x35.toNat : Int))).toNat : Int)))).set (x28.2.e3 : Int).toNat x49).set (x28.2.e2 : Int).toNat (ofI32 ((x51.toNat : Int) + (x52.toNat : Int)))).set (x28.2.e1 : Int).toNat x56).set (x28.2.e0 : Int).toNat (ofI32 ((x58.toNat : Int) + ((ofI32 ((x59.toNat : Int) + (x38.toNat : Int))).toNat : Int)))).set (x28.2.e3 : Int).toNat x63).set (x28.2.e2 : Int).toNat (ofI32 ((x65.toNat : Int) + (x66.toNat : Int)))) x28.2.e2).bind fun x69 => (bits_RotateLeft32 (x68 ^^^ x69) (i64 (0 - 7))).bind fun x70 => (geti (((((((x27.set (x28.2.e0 : Int).toNat (ofI32 ((x44.toNat : Int) + ((ofI32 ((x45.toNat : Int) + (x35.toNat : Int))).toNat : Int)))).set (x28.2.e3 : Int).toNat x49).set (x28.2.e2 : Int).toNat (ofI32 ((x51.toNat : Int) + (x52.toNat : Int)))).set (x28.2.e1 : Int).toNat x56).set (x28.2.e0 : Int).toNat (ofI32 ((x58.toNat : Int) + ((ofI32 ((x59.toNat : Int) + (x38.toNat : Int))).toNat : Int)))).set (x28.2.e3 : Int).toNat x63).set (x28.2.e2 : Int).toNat (ofI32 ((x65.toNat : Int) + (x66.toNat : Int)))) x28.2.e1).bind fun x71 => some (true, ((((((((x27.set (x28.2.e0 : Int).toNat (ofI32 ((x44.toNat : Int) + ((ofI32 ((x45.toNat : Int) + (x35.toNat : Int))).toNat : Int)))).set (x28.2.e3 : Int).toNat x49).set (x28.2.e2 : Int).toNat (ofI32 ((x51.toNat : Int) + (x52.toNat : Int)))).set (x28.2.e1 : Int).toNat x56).set (x28.2.e0 : Int).toNat (ofI32 ((x58.toNat : Int) + ((ofI32 ((x59.toNat : Int) + (x38.toNat : Int))).toNat : Int)))).set (x28.2.e3 : Int).toNat x63).set (x28.2.e2 : Int).toNat (ofI32 ((x65.toNat : Int) + (x66.toNat : Int)))).set (x28.2.e1 : Int).toNat x70))) (fun (kj39 : Unit → Option (Bool × (List UInt32))) => (geti x27 x28.2.e0).bind fun x40 => (geti x27 x28.2.e1).bind fun x41 => (geti x27 x28.2.e2).bind fun x42 => (geti x27 x28.2.e3).bind fun x43 => kj39 ())) (fun (xL : (List UInt32)) (sl : St) => (xL.length = 16) ∧ (Blk sl b9 ⟨b9 + 1, 0⟩ (([] : List Value) ++ xL.map cU) 117) ∧ (Blk sl b1 ⟨b1 + 1, 0⟩ (a8 a0) 76) ∧ (Blk sl b2 ⟨b2 + 1, 0⟩ [.int .u32 0, .int .u32 0, .int .u32 0, .int .u32 0, .int .u32 0, .int .u32 0, .int .u32 0, .int .u32 0] 76) ∧ (Blk sl b6 ⟨b6 + 1, 0⟩ (([] : List Value) ++ x2.map cU) 117) ∧ (Blk sl b50 ⟨b50 + 1, 0⟩ [S x25] 9)) (KC (b9 + 1) 0) rfl cal105 (fun _ _ _ h => by obtain ⟨_, rfl, _⟩ := h; rfl) (by decide) (by intro lab h; (try simp only [KC, KO, KU, KN, K0, KB] at h); first | exact h.elim | omega) x23 x30 ⟨h47, h9, h1, h2, h6, h50⟩ (by rintro x t1 t2 K ⟨z0, z1, z2, z3, z4, z5⟩ st hK; exact ⟨z0, z1.up st (fun hk => by have hq := hK _ hk; (try dsimp only at hq); omega), z2.up st (fun hk => by have hq := hK _ hk; (try dsimp only at hq); omega), z3.up st (fun hk => by have hq := hK _ hk; (try dsimp only at hq); omega), z4.up st (fun hk => by have hq := hK _ hk; (try dsimp only at hq); omega), z5.up st (fun hk => by have hq := hK _ hk; (try dsimp only at hq); omega)⟩) ?_ ?_ ?_
  ·
   intro l rec sR53 x27 x28 vsR rR53 hl1 hl2 hrec
   rintro ⟨h54, h9, h1, h2, h6, h50⟩ hL henc hc53
   obtain ⟨uy53_1, rfl, hy53_1⟩ := henc
   try dsimp only at hc53
   obtain rfl := opnSt125 hy53_1
   have hRS53 := Step.r0 (KU (KC (l + 1) 0) (KC (b9 + 1) 0)) sR53
   refine jAg (jAa (jAd rfl rfl (jAi (jAh [(10, _), (11, _), (13, _), (14, _), (50, _)] ⟨rfl, rfl, rfl, rfl, rfl, trivial⟩ (jAa (jBj zero125 rfl ?_))))))
   intro s55 b55 st55 h55 ge55
   have := st55.size
   have hRS53 := hRS53.trans0 st55
   replace h1 := h1.up2 st55
   replace h2 := h2.up2 st55
   replace h6 := h6.up2 st55
   replace h9 := h9.up2 st55
   replace h50 := h50.up2 st55
   replace hL := hL.up2 st55
   have lt55 := h55.lt
   refine jAo (cs' := [.int .i64 x28.2.e0, .int .i64 x28.2.e1, .int .i64 x28.2.e2, .int .i64 x28.2.e3]) size125 rfl rfl h55 lz (CellsOf.lit rfl rfl) rfl lq rfl ?_
   intro s56 st56 h55
   have := st56.size
   have hRS53 := hRS53.c0 st56
   replace h1 := h1.up2 st56
   replace h2 := h2.up2 st56
   replace h6 := h6.up2 st56
   replace h9 := h9.up2 st56
   replace h50 := h50.up2 st56
   replace hL := hL.up2 st56
   refine jAi (jAu (k_begin hL hrec ?_))
   intro s57 st57 hL
   have := st57.size
   have hRS53 := hRS53.c0 st57
   replace h1 := h1.up2 st57
   replace h2 := h2.up2 st57
   replace h6 := h6.up2 st57
   replace h9 := h9.up2 st57
   replace h50 := h50.up2 st57
   replace h55 := h55.up2 st57
   refine jAh [(10, _), (11, _), (13, _), (14, _), (15, _)] ⟨rfl, rfl, rfl, rfl, rfl, trivial⟩ (jAw (jBl (KN s57.n) 16 (.read 0 (.read 1 (.read 2 (.read 3 (.read 4 (.read 8 (.read 9 (.read 10 (.read 11 (.read 12 (.alt 5 (.read 6 (.read 7 (.alt 13 (.read 14 (.read 15 .fin)) .no))) .no))))))))))) mixed lw rfl rfl rfl ?_))
   intro s58 st58
   have := st58.size
   have hRS53 := hRS53.trans0 st58
   replace h1 := h1.up2 st58
   replace h2 := h2.up2 st58
   replace h6 := h6.up2 st58
   replace h9 := h9.up2 st58
   replace h50 := h50.up2 st58
   replace h55 := h55.up2 st58
   replace hL := hL.up2 st58
   refine jAb (.agg #[.int .i64 x28.2.e0, .int .i64 x28.2.e1, .int .i64 x28.2.e2, .int .i64 x28.2.e3]) rfl rfl (fun s59 st59 => ?_) ?_
   ·try replace h55 := h55.up2 st59
    exact jAs (cs := [.int .i64 x28.2.e0, .int .i64 x28.2.e1, .int .i64 x28.2.e2, .int .i64 x28.2.e3]) agg125 rfl h55 rfl (jAe)
   refine jAb (S x25) rfl rfl (fun s60 st60 => ?_) ?_
   ·try replace h50 := h50.up2 st60
    exact jAj one9 rfl h50 rfl rfl (jAe)
   refine jAb (.int .i64 x28.1) rfl rfl (fun s61 st61 => ?_) ?_
   ·exact jAc rfl rfl (jAe)
   refine jAb (.int .i64 (i64 (2 * x28.1))) rfl rfl (fun s62 st62 => ?_) ?_
   ·exact jDi rfl rfl rfl (jAe)
   obtain ⟨x31, hx31, hc53⟩ := ob hc53
   refine jAb (cB x31) rfl rfl (fun s63 st63 => ?_) ?_
   ·exact jBi Tryz.underlying9 rfl rfl (jAk hx31).1 (jAk hx31).2.1 rfl (k_as (congrArg (fun c : UInt8 => cB c) (jBs hx31)) (jAe))
   refine jAb (S x25) rfl rfl (fun s64 st64 => ?_) ?_
   ·try replace h50 := h50.up2 st64
    exact jAj one9 rfl h50 rfl rfl (jAe)
   refine jAb (.int .i64 x28.1) rfl rfl (fun s65 st65 => ?_) ?_
   ·exact jAc rfl rfl (jAe)
   refine jAb (.int .i64 (i64 (2 * x28.1))) rfl rfl (fun s66 st66 => ?_) ?_
   ·exact jDi rfl rfl rfl (jAe)
   refine jAb (.int .i64 (i64 ((i64 (2 * x28.1)) + 1))) rfl rfl (fun s67 st67 => ?_) ?_
   ·exact jBo rfl rfl rfl (jAe)
   obtain ⟨x32, hx32, hc53⟩ := ob hc53
   refine jAb (cB x32) rfl rfl (fun s68 st68 => ?_) ?_
   ·exact jBi Tryz.underlying9 rfl rfl (jAk hx32).1 (jAk hx32).2.1 rfl (k_as (congrArg (fun c : UInt8 => cB c) (jBs hx32)) (jAe))
   refine jBa rfl rfl ?_
   have hA69 := Step.r0 (KN s57.n) s58
   obtain ⟨x33, hx33, hc53⟩ := ob hc53
   refine jAp cal97 rfl (digest_number_w   hx33) rfl ?_
   rintro s70 vr70 st70 rfl
   have := st70.size
   have hRS53 := hRS53.trans0 st70
   have hA69 := hA69.trans0 st70
   replace h1 := h1.up2 st70
   replace h2 := h2.up2 st70
   replace h6 := h6.up2 st70
   replace h9 := h9.up2 st70
   replace h50 := h50.up2 st70
   replace hL := hL.up2 st70
   refine jAt hA69 ?_
   obtain ⟨x34, hx34, hc53⟩ := ob hc53
   refine jAb (.pointer (some ⟨b6, 0 + (x33 : Int).toNat, none⟩)) rfl rfl (fun s71 st71 => ?_) ?_
   ·exact jBx (m := 0) arr117 rfl rfl h4_0 hx34 rfl (jAe)
   obtain ⟨x35, hx35, hc53⟩ := ob hc53
   refine jAb (cU x35) rfl rfl (fun s72 st72 => ?_) ?_
   ·try replace h6 := h6.up2 st72
    exact jBv cU (pre := []) (xs := x2) one75 rfl h6 rfl hx35 rfl (jAe)
   refine jBa rfl rfl ?_
   have hA73 := Step.r0 (KN s57.n) s70
   obtain ⟨x36, hx36, hc53⟩ := ob hc53
   refine jAp cal97 rfl (digest_number_w   hx36) rfl ?_
   rintro s74 vr74 st74 rfl
   have := st74.size
   have hRS53 := hRS53.trans0 st74
   have hA73 := hA73.trans0 st74
   replace h1 := h1.up2 st74
   replace h2 := h2.up2 st74
   replace h6 := h6.up2 st74
   replace h9 := h9.up2 st74
   replace h50 := h50.up2 st74
   replace hL := hL.up2 st74
   refine jAt hA73 ?_
   obtain ⟨x37, hx37, hc53⟩ := ob hc53
   refine jAb (.pointer (some ⟨b6, 0 + (x36 : Int).toNat, none⟩)) rfl rfl (fun s75 st75 => ?_) ?_
   ·exact jBx (m := 0) arr117 rfl rfl h4_0 hx37 rfl (jAe)
   obtain ⟨x38, hx38, hc53⟩ := ob hc53
   refine jAb (cU x38) rfl rfl (fun s76 st76 => ?_) ?_
   ·try replace h6 := h6.up2 st76
    exact jBv cU (pre := []) (xs := x2) one75 rfl h6 rfl hx38 rfl (jAe)
   refine jBg (k_call_in cal96 rfl rfl (k_fn (rs := []) (args := [pZ b9, .agg #[.int .i64 x28.2.e0, .int .i64 x28.2.e1, .int .i64 x28.2.e2, .int .i64 x28.2.e3], cU x35, cU x38]) Tryz.func96 rfl rfl rfl rfl (jAg (jAa (jCp rfl rfl ?_)))))
   intro s77 b77 st77 h77 ge77
   have := st77.size
   have hRS53 := hRS53.trans0 st77
   replace h1 := h1.up2 st77
   replace h2 := h2.up2 st77
   replace h6 := h6.up2 st77
   replace h9 := h9.up2 st77
   replace h50 := h50.up2 st77
   replace hL := hL.up2 st77
   have lt77 := h77.lt
   refine jAi (jAh [(0, _), (2, _), (3, _), (5, _)] ⟨rfl, rfl, rfl, rfl, trivial⟩ (jAg ?_))
   obtain ⟨kj39, hK78, hc53⟩ := jn_out hc53
   have hE78 := Step.r0 K0 s77
   refine jBp (X := St × Nat × Nat × Nat × Nat) [(2, cU x35), (3, cU x38)] (fun (xL : St × Nat × Nat × Nat × Nat) => match xL with | (sl, bv79, bv80, bv81, bv82) => [(8, pZ bv79), (9, pZ bv80), (10, pZ bv81), (11, pZ bv82)]) (fun (xL : St × Nat × Nat × Nat × Nat) (wL : World) => match xL with | (sl, bv79, bv80, bv81, bv82) => sl.w = wL ∧ Step K0 s77 sl ∧ (Blk sl bv79 ⟨bv79 + 1, 0⟩ [.pointer (some ⟨b9, 0 + (x28.2.e0 : Int).toNat, none⟩)] 140) ∧ (s77.n ≤ bv79) ∧ (Blk sl bv80 ⟨bv80 + 1, 0⟩ [.pointer (some ⟨b9, 0 + (x28.2.e1 : Int).toNat, none⟩)] 140) ∧ (s77.n ≤ bv80) ∧ (Blk sl bv81 ⟨bv81 + 1, 0⟩ [.pointer (some ⟨b9, 0 + (x28.2.e2 : Int).toNat, none⟩)] 140) ∧ (s77.n ≤ bv81) ∧ (Blk sl bv82 ⟨bv82 + 1, 0⟩ [.pointer (some ⟨b9, 0 + (x28.2.e3 : Int).toNat, none⟩)] 140) ∧ (s77.n ≤ bv82) ∧ (bv80 ≠ bv79) ∧ (bv81 ≠ bv79) ∧ (bv81 ≠ bv80) ∧ (bv82 ≠ bv79) ∧ (bv82 ≠ bv80) ∧ (bv82 ≠ bv81) ∧ kj39 () = some rR53) ?_ ?_
   ·
    obtain ⟨x40, hx40, hc53⟩ := ob hc53
    obtain ⟨x41, hx41, hc53⟩ := ob hc53
    obtain ⟨x42, hx42, hc53⟩ := ob hc53
    obtain ⟨x43, hx43, hc53⟩ := ob hc53
    refine jBl (KN s77.n) 27 (.read 0 (.read 1 (.read 2 (.read 3 (.read 4 (.read 5 (.read 6 (.read 7 (.read 8 (.read 9 (.read 10 (.read 11 (.read 12 (.read 13 (.read 14 (.read 15 (.read 16 (.read 17 (.read 18 (.read 19 (.alt 20 (.alt 21 (.alt 22 (.alt 23 (.alt 24 (.alt 25 (.alt 26 .fin .no) .no) .no) .no) (.alt 23 (.alt 22 (.alt 24 (.alt 25 (.alt 26 .fin .no) .no) .no) .no) .no)) (.alt 22 (.alt 21 (.alt 23 (.alt 24 (.alt 25 (.alt 26 .fin .no) .no) .no) .no) (.alt 23 (.alt 21 (.alt 24 (.alt 25 (.alt 26 .fin .no) .no) .no) .no) .no)) (.alt 23 (.alt 21 (.alt 22 (.alt 24 (.alt 25 (.alt 26 .fin .no) .no) .no) .no) (.alt 22 (.alt 21 (.alt 24 (.alt 25 (.alt 26 .fin .no) .no) .no) .no) .no)) .no))) (.alt 21 (.alt 20 (.alt 22 (.alt 23 (.alt 24 (.alt 25 (.alt 26 .fin .no) .no) .no) .no) (.alt 23 (.alt 22 (.alt 24 (.alt 25 (.alt 26 .fin .no) .no) .no) .no) .no)) (.alt 22 (.alt 20 (.alt 23 (.alt 24 (.alt 25 (.alt 26 .fin .no) .no) .no) .no) (.alt 23 (.alt 20 (.alt 24 (.alt 25 (.alt 26 .fin .no) .no) .no) .no) .no)) (.alt 23 (.alt 20 (.alt 22 (.alt 24 (.alt 25 (.alt 26 .fin .no) .no) .no) .no) (.alt 22 (.alt 20 (.alt 24 (.alt 25 (.alt 26 .fin .no) .no) .no) .no) .no)) .no))) (.alt 22 (.alt 20 (.alt 21 (.alt 23 (.alt 24 (.alt 25 (.alt 26 .fin .no) .no) .no) .no) (.alt 23 (.alt 21 (.alt 24 (.alt 25 (.alt 26 .fin .no) .no) .no) .no) .no)) (.alt 21 (.alt 20 (.alt 23 (.alt 24 (.alt 25 (.alt 26 .fin .no) .no) .no) .no) (.alt 23 (.alt 20 (.alt 24 (.alt 25 (.alt 26 .fin .no) .no) .no) .no) .no)) (.alt 23 (.alt 20 (.alt 21 (.alt 24 (.alt 25 (.alt 26 .fin .no) .no) .no) .no) (.alt 21 (.alt 20 (.alt 24 (.alt 25 (.alt 26 .fin .no) .no) .no) .no) .no)) .no))) (.alt 23 (.alt 20 (.alt 21 (.alt 22 (.alt 24 (.alt 25 (.alt 26 .fin .no) .no) .no) .no) (.alt 22 (.alt 21 (.alt 24 (.alt 25 (.alt 26 .fin .no) .no) .no) .no) .no)) (.alt 21 (.alt 20 (.alt 22 (.alt 24 (.alt 25 (.alt 26 .fin .no) .no) .no) .no) (.alt 22 (.alt 20 (.alt 24 (.alt 25 (.alt 26 .fin .no) .no) .no) .no) .no)) (.alt 22 (.alt 20 (.alt 21 (.alt 24 (.alt 25 (.alt 26 .fin .no) .no) .no) .no) (.alt 21 (.alt 20 (.alt 24 (.alt 25 (.alt 26 .fin .no) .no) .no) .no) .no)) .no))) .no)))))))))))))))))))))))) mixed lw rfl rfl rfl ?_
    intro s st83
    have := st83.size
    have hRS53 := hRS53.trans0 st83
    have hE78 := hE78.trans0 st83
    replace h77 := h77.up2 st83
    refine jAb (pZ b9) rfl rfl (fun s84 st84 => ?_) ?_
    ·exact jAc rfl rfl (jAe)
    refine jAb (pZ b77) rfl rfl (fun s85 st85 => ?_) ?_
    ·exact jCh arr125 rfl rfl (by decide) (by decide) rfl (k_as (v := pZ b77) rfl (jAe))
    refine jAb (.int .i64 x28.2.e0) rfl rfl (fun s86 st86 => ?_) ?_
    ·try replace h77 := h77.up2 st86
     exact jAj one3 rfl h77 rfl rfl (jAe)
    refine jAb (pZ b9) rfl rfl (fun s87 st87 => ?_) ?_
    ·exact jBk rfl rfl (jAe)
    refine jAb (.pointer (some ⟨b9, 0 + (x28.2.e0 : Int).toNat, none⟩)) rfl rfl (fun s88 st88 => ?_) ?_
    ·exact jBx (m := 0) arr117 rfl rfl h54 hx40 rfl (jAe)
    refine jAb (pZ b9) rfl rfl (fun s89 st89 => ?_) ?_
    ·exact jAc rfl rfl (jAe)
    refine jAb (.pointer (some ⟨b77, 1, none⟩)) rfl rfl (fun s90 st90 => ?_) ?_
    ·exact jCh arr125 rfl rfl (by decide) (by decide) rfl (k_as (v := .pointer (some ⟨b77, 1, none⟩)) rfl (jAe))
    refine jAb (.int .i64 x28.2.e1) rfl rfl (fun s91 st91 => ?_) ?_
    ·try replace h77 := h77.up2 st91
     exact jAj one3 rfl h77 rfl rfl (jAe)
    refine jAb (pZ b9) rfl rfl (fun s92 st92 => ?_) ?_
    ·exact jBk rfl rfl (jAe)
    refine jAb (.pointer (some ⟨b9, 0 + (x28.2.e1 : Int).toNat, none⟩)) rfl rfl (fun s93 st93 => ?_) ?_
    ·exact jBx (m := 0) arr117 rfl rfl h54 hx41 rfl (jAe)
    refine jAb (pZ b9) rfl rfl (fun s94 st94 => ?_) ?_
    ·exact jAc rfl rfl (jAe)
    refine jAb (.pointer (some ⟨b77, 2, none⟩)) rfl rfl (fun s95 st95 => ?_) ?_
    ·exact jCh arr125 rfl rfl (by decide) (by decide) rfl (k_as (v := .pointer (some ⟨b77, 2, none⟩)) rfl (jAe))
    refine jAb (.int .i64 x28.2.e2) rfl rfl (fun s96 st96 => ?_) ?_
    ·try replace h77 := h77.up2 st96
     exact jAj one3 rfl h77 rfl rfl (jAe)
    refine jAb (pZ b9) rfl rfl (fun s97 st97 => ?_) ?_
    ·exact jBk rfl rfl (jAe)
    refine jAb (.pointer (some ⟨b9, 0 + (x28.2.e2 : Int).toNat, none⟩)) rfl rfl (fun s98 st98 => ?_) ?_
    ·exact jBx (m := 0) arr117 rfl rfl h54 hx42 rfl (jAe)
    refine jAb (pZ b9) rfl rfl (fun s99 st99 => ?_) ?_
    ·exact jAc rfl rfl (jAe)
    refine jAb (.pointer (some ⟨b77, 3, none⟩)) rfl rfl (fun s100 st100 => ?_) ?_
    ·exact jCh arr125 rfl rfl (by decide) (by decide) rfl (k_as (v := .pointer (some ⟨b77, 3, none⟩)) rfl (jAe))
    refine jAb (.int .i64 x28.2.e3) rfl rfl (fun s101 st101 => ?_) ?_
    ·try replace h77 := h77.up2 st101
     exact jAj one3 rfl h77 rfl rfl (jAe)
    refine jAb (pZ b9) rfl rfl (fun s102 st102 => ?_) ?_
    ·exact jBk rfl rfl (jAe)
    refine jAb (.pointer (some ⟨b9, 0 + (x28.2.e3 : Int).toNat, none⟩)) rfl rfl (fun s103 st103 => ?_) ?_
    ·exact jBx (m := 0) arr117 rfl rfl h54 hx43 rfl (jAe)
    refine jCl rfl rfl ?_ (jCl rfl rfl ?_ (jCl rfl rfl ?_ (jBa rfl rfl ?_)))
    iterate 4
     all_goals
      try first | refine jAt hA (jCl rfl rfl ?_ (jCl rfl rfl ?_ (jBa rfl rfl ?_))) | refine jAt hA (jCl rfl rfl ?_ (jBa rfl rfl ?_)) | refine jAt hA (jBa rfl rfl ?_)
     all_goals
      have hA := Step.r0 (KN s77.n) s
      first | (refine jBj (d := 8) zero140 rfl ?_; intro s bp st hp gep; have ltp := hp.lt; (try replace hq := hq.up2 st); (try replace hu := hu.up2 st); (try replace hv := hv.up2 st)) | (refine jBj (d := 9) zero140 rfl ?_; intro s bq st hq geq; have ltq := hq.lt; (try replace hp := hp.up2 st); (try replace hu := hu.up2 st); (try replace hv := hv.up2 st)) | (refine jBj (d := 10) zero140 rfl ?_; intro s bu st hu geu; have ltu := hu.lt; (try replace hp := hp.up2 st); (try replace hq := hq.up2 st); (try replace hv := hv.up2 st)) | (refine jBj (d := 11) zero140 rfl ?_; intro s bv st hv gev; have ltv := hv.lt; (try replace hp := hp.up2 st); (try replace hq := hq.up2 st); (try replace hu := hu.up2 st))
      have := st.size
      have hRS53 := hRS53.trans0 st
      have hE78 := hE78.trans0 st
      have hA := hA.trans0 st
    all_goals
     refine jAt hA (rt_act0 rfl rfl ?_)
     have hA := Step.r0 (KN s77.n) s
     refine jAo (cs' := [.pointer (some ⟨b9, 0 + (x28.2.e0 : Int).toNat, none⟩)]) size140 rfl rfl hp lz (CellsOf.lit rfl rfl) rfl lq rfl ?_
     intro s st hp
     have := st.size
     have hRS53 := hRS53.c0 st
     have hE78 := hE78.c0 st
     have hA := hA.c0 st
     replace hq := hq.up2 st
     replace hu := hu.up2 st
     replace hv := hv.up2 st
     refine rt_cont0 hA (rt_act0 rfl rfl ?_)
     have hA := Step.r0 (KN s77.n) s
     refine jAo (cs' := [.pointer (some ⟨b9, 0 + (x28.2.e1 : Int).toNat, none⟩)]) size140 rfl rfl hq lz (CellsOf.lit rfl rfl) rfl lq rfl ?_
     intro s st hq
     have := st.size
     have hRS53 := hRS53.c0 st
     have hE78 := hE78.c0 st
     have hA := hA.c0 st
     replace hp := hp.up2 st
     replace hu := hu.up2 st
     replace hv := hv.up2 st
     refine rt_cont0 hA (rt_act0 rfl rfl ?_)
     have hA := Step.r0 (KN s77.n) s
     refine jAo (cs' := [.pointer (some ⟨b9, 0 + (x28.2.e2 : Int).toNat, none⟩)]) size140 rfl rfl hu lz (CellsOf.lit rfl rfl) rfl lq rfl ?_
     intro s st hu
     have := st.size
     have hRS53 := hRS53.c0 st
     have hE78 := hE78.c0 st
     have hA := hA.c0 st
     replace hp := hp.up2 st
     replace hq := hq.up2 st
     replace hv := hv.up2 st
     refine rt_cont0 hA ?_
     refine jBg (jAo (cs' := [.pointer (some ⟨b9, 0 + (x28.2.e3 : Int).toNat, none⟩)]) size140 rfl rfl hv lz (CellsOf.lit rfl rfl) rfl lq rfl ?_)
     intro s st hv
     have := st.size
     have hRS53 := hRS53.c0 st
     have hE78 := hE78.c0 st
     have hA := hA.c0 st
     replace hp := hp.up2 st
     replace hq := hq.up2 st
     replace hu := hu.up2 st
     exact jAi (jAu ⟨(s, bp, bq, bu, bv), ⟨lr, lr, lr, lr, trivial⟩, ⟨rfl, rfl, trivial⟩, ⟨rfl, hE78, hp, lo, hq, lo, hu, lo, hv, lo, lo, lo, lo, lo, lo, lo, hc53⟩⟩)
   rintro ⟨s400, bv79, bv80, bv81, bv82⟩ wL ⟨rfl, hE78, h79, hd79, h80, hd80, h81, hd81, h82, hd82, hnbv80_bv79, hnbv81_bv79, hnbv81_bv80, hnbv82_bv79, hnbv82_bv80, hnbv82_bv81, hc53⟩
   have lth79 := h79.lt
   have lth80 := h80.lt
   have lth81 := h81.lt
   have lth82 := h82.lt
   rw [hK78] at hc53
   have := hE78.size
   have hRS53 := hRS53.trans0 hE78
   replace h1 := h1.up2 hE78
   replace h2 := h2.up2 hE78
   replace h6 := h6.up2 hE78
   replace h9 := h9.up2 hE78
   replace h50 := h50.up2 hE78
   replace hL := hL.up2 hE78
   refine jAg (jAa (jDg rfl rfl rfl (jAd rfl rfl (jAi (jAh [(2, _), (3, _), (12, _)] ⟨rfl, rfl, rfl, trivial⟩ (jAg (jAa (jAc rfl rfl (jAc rfl rfl (jDh cal107 rfl rfl rfl (k_fn (rs := []) (args := [cU x35, .int .i64 16, .int .i64 12, pZ bv79, pZ bv80, pZ bv82, pZ bv81]) Tryz.func107 rfl rfl rfl rfl (jAg (jBl (KN s400.n) 8 (.read 0 (.read 1 (.read 2 (.read 3 (.read 4 (.read 5 (.read 6 (.read 7 .fin)))))))) mixed lw rfl rfl rfl ?_)))))))))))))
   intro s401 st401
   have := st401.size
   have hRS53 := hRS53.trans0 st401
   replace h1 := h1.up2 st401
   replace h2 := h2.up2 st401
   replace h6 := h6.up2 st401
   replace h9 := h9.up2 st401
   replace h50 := h50.up2 st401
   replace h79 := h79.up2 st401
   replace h80 := h80.up2 st401
   replace h81 := h81.up2 st401
   replace h82 := h82.up2 st401
   replace hL := hL.up2 st401
   refine jAb (.pointer (some ⟨b9, 0 + (x28.2.e0 : Int).toNat, none⟩)) rfl rfl (fun s402 st402 => ?_) ?_
   ·try replace h79 := h79.up2 st402
    exact jAj one140 rfl h79 rfl rfl (jAe)
   refine jAb (.pointer (some ⟨b9, 0 + (x28.2.e0 : Int).toNat, none⟩)) rfl rfl (fun s403 st403 => ?_) ?_
   ·exact jBk rfl rfl (jAe)
   obtain ⟨x44, hx44, hc53⟩ := ob hc53
   refine jAb (cU x44) rfl rfl (fun s404 st404 => ?_) ?_
   ·try replace h9 := h9.up2 st404
    exact jBv cU (pre := []) (xs := x27) one75 rfl h9 rfl hx44 rfl (jAe)
   refine jAb (.pointer (some ⟨b9, 0 + (x28.2.e1 : Int).toNat, none⟩)) rfl rfl (fun s405 st405 => ?_) ?_
   ·try replace h80 := h80.up2 st405
    exact jAj one140 rfl h80 rfl rfl (jAe)
   refine jAb (.pointer (some ⟨b9, 0 + (x28.2.e1 : Int).toNat, none⟩)) rfl rfl (fun s406 st406 => ?_) ?_
   ·exact jBk rfl rfl (jAe)
   obtain ⟨x45, hx45, hc53⟩ := ob hc53
   refine jAb (cU x45) rfl rfl (fun s407 st407 => ?_) ?_
   ·try replace h9 := h9.up2 st407
    exact jBv cU (pre := []) (xs := x27) one75 rfl h9 rfl hx45 rfl (jAe)
   refine jAb (cU x35) rfl rfl (fun s408 st408 => ?_) ?_
   ·exact jAc rfl rfl (jAe)
   refine jAb (cU (ofI32 ((x45.toNat : Int) + (x35.toNat : Int)))) rfl rfl (fun s409 st409 => ?_) ?_
   ·exact jBo rfl rfl rfl (k_as (congrArg (Value.int .u32) (w32 _)) (jAe))
   refine jBg (jBo rfl rfl rfl (k_as (congrArg (Value.int .u32) (w32 _)) (jBk rfl rfl ?_)))
   obtain ⟨x46, hx46, hc53⟩ := ob hc53
   refine jCg cU (fun _ => rfl) (v := ofI32 ((x44.toNat : Int) + ((ofI32 ((x45.toNat : Int) + (x35.toNat : Int))).toNat : Int))) (pre := []) (xs := x27) size75 rfl rfl h9 lz rfl hx46 ?_
   intro s410 st410 h9
   have hl410 : (x27.set (x28.2.e0 : Int).toNat (ofI32 ((x44.toNat : Int) + ((ofI32 ((x45.toNat : Int) + (x35.toNat : Int))).toNat : Int)))).length = 16 := by rw [List.length_set]; exact h54
   have := st410.size
   have hRS53 := hRS53.c0 st410
   replace h1 := h1.up2 st410
   replace h2 := h2.up2 st410
   replace h6 := h6.up2 st410
   replace h50 := h50.up2 st410
   replace h79 := h79.up2 st410
   replace h80 := h80.up2 st410
   replace h81 := h81.up2 st410
   replace h82 := h82.up2 st410
   replace hL := hL.up2 st410
   refine jAi (jAh [(1, _), (2, _), (3, _), (4, _), (5, _), (6, _)] ⟨rfl, rfl, rfl, rfl, rfl, rfl, trivial⟩ (jAg (jBl (KN s410.n) 11 (.read 0 (.read 1 (.read 2 (.read 3 (.read 4 (.read 5 (.read 6 (.read 7 (.read 8 (.read 9 (.alt 10 .fin .no))))))))))) mixed lw rfl rfl rfl ?_)))
   intro s411 st411
   have := st411.size
   have hRS53 := hRS53.trans0 st411
   replace h1 := h1.up2 st411
   replace h2 := h2.up2 st411
   replace h6 := h6.up2 st411
   replace h9 := h9.up2 st411
   replace h50 := h50.up2 st411
   replace h79 := h79.up2 st411
   replace h80 := h80.up2 st411
   replace h81 := h81.up2 st411
   replace h82 := h82.up2 st411
   replace hL := hL.up2 st411
   refine jAb (.pointer (some ⟨b9, 0 + (x28.2.e3 : Int).toNat, none⟩)) rfl rfl (fun s412 st412 => ?_) ?_
   ·try replace h82 := h82.up2 st412
    exact jAj one140 rfl h82 rfl rfl (jAe)
   refine jAb (.pointer (some ⟨b9, 0 + (x28.2.e3 : Int).toNat, none⟩)) rfl rfl (fun s413 st413 => ?_) ?_
   ·try replace h82 := h82.up2 st413
    exact jAj one140 rfl h82 rfl rfl (jAe)
   refine jAb (.pointer (some ⟨b9, 0 + (x28.2.e3 : Int).toNat, none⟩)) rfl rfl (fun s414 st414 => ?_) ?_
   ·exact jBk rfl rfl (jAe)
   obtain ⟨x47, hx47, hc53⟩ := ob hc53
   refine jAb (cU x47) rfl rfl (fun s415 st415 => ?_) ?_
   ·try replace h9 := h9.up2 st415
    exact jBv cU (pre := []) (xs := (x27.set (x28.2.e0 : Int).toNat (ofI32 ((x44.toNat : Int) + ((ofI32 ((x45.toNat : Int) + (x35.toNat : Int))).toNat : Int))))) one75 rfl h9 rfl hx47 rfl (jAe)
   refine jAb (.pointer (some ⟨b9, 0 + (x28.2.e0 : Int).toNat, none⟩)) rfl rfl (fun s416 st416 => ?_) ?_
   ·try replace h79 := h79.up2 st416
    exact jAj one140 rfl h79 rfl rfl (jAe)
   refine jAb (.pointer (some ⟨b9, 0 + (x28.2.e0 : Int).toNat, none⟩)) rfl rfl (fun s417 st417 => ?_) ?_
   ·exact jBk rfl rfl (jAe)
   obtain ⟨x48, hx48, hc53⟩ := ob hc53
   refine jAb (cU x48) rfl rfl (fun s418 st418 => ?_) ?_
   ·try replace h9 := h9.up2 st418
    exact jBv cU (pre := []) (xs := (x27.set (x28.2.e0 : Int).toNat (ofI32 ((x44.toNat : Int) + ((ofI32 ((x45.toNat : Int) + (x35.toNat : Int))).toNat : Int))))) one75 rfl h9 rfl hx48 rfl (jAe)
   refine jAb (cU (x47 ^^^ x48)) rfl rfl (fun s419 st419 => ?_) ?_
   ·exact jCm (p := (x47.toNat : Int)) (q := (x48.toNat : Int)) (.inr (.inr (.inl ⟨rfl, rfl⟩))) rfl rfl rfl (k_as (congrArg (Value.int .u32) (xor32 _ _)) (jAe))
   refine jAb (.int .i64 16) rfl rfl (fun s420 st420 => ?_) ?_
   ·exact jAc rfl rfl (jAe)
   refine jAb (.int .i64 (i64 (0 - 16))) rfl rfl (fun s421 st421 => ?_) ?_
   ·exact k_neg rfl rfl (jAe)
   refine jBa rfl rfl ?_
   have hA422 := Step.r0 (KN s410.n) s411
   obtain ⟨x49, hx49, hc53⟩ := ob hc53
   refine jAp cal108 rfl (bits_RotateLeft32_w   hx49) rfl ?_
   rintro s423 vr423 st423 rfl
   have := st423.size
   have hRS53 := hRS53.trans0 st423
   have hA422 := hA422.trans0 st423
   replace h1 := h1.up2 st423
   replace h2 := h2.up2 st423
   replace h6 := h6.up2 st423
   replace h9 := h9.up2 st423
   replace h50 := h50.up2 st423
   replace h79 := h79.up2 st423
   replace h80 := h80.up2 st423
   replace h81 := h81.up2 st423
   replace h82 := h82.up2 st423
   replace hL := hL.up2 st423
   refine jAt hA422 (jBg (jBk rfl rfl ?_))
   obtain ⟨x50, hx50, hc53⟩ := ob hc53
   refine jCg cU (fun _ => rfl) (v := x49) (pre := []) (xs := (x27.set (x28.2.e0 : Int).toNat (ofI32 ((x44.toNat : Int) + ((ofI32 ((x45.toNat : Int) + (x35.toNat : Int))).toNat : Int))))) size75 rfl rfl h9 lz rfl hx50 ?_
   intro s424 st424 h9
   have hl424 : ((x27.set (x28.2.e0 : Int).toNat (ofI32 ((x44.toNat : Int) + ((ofI32 ((x45.toNat : Int) + (x35.toNat : Int))).toNat : Int)))).set (x28.2.e3 : Int).toNat x49).length = 16 := by rw [List.length_set]; exact hl410
   have := st424.size
   have hRS53 := hRS53.c0 st424
   replace h1 := h1.up2 st424
   replace h2 := h2.up2 st424
   replace h6 := h6.up2 st424
   replace h50 := h50.up2 st424
   replace h79 := h79.up2 st424
   replace h80 := h80.up2 st424
   replace h81 := h81.up2 st424
   replace h82 := h82.up2 st424
   replace hL := hL.up2 st424
   refine jAi (jAh [(2, _), (4, _), (5, _), (6, _)] ⟨rfl, rfl, rfl, rfl, trivial⟩ (jAg (jBl (KN s424.n) 6 (.read 0 (.read 1 (.read 2 (.read 3 (.read 4 (.read 5 .fin)))))) mixed lw rfl rfl rfl ?_)))
   intro s425 st425
   have := st425.size
   have hRS53 := hRS53.trans0 st425
   replace h1 := h1.up2 st425
   replace h2 := h2.up2 st425
   replace h6 := h6.up2 st425
   replace h9 := h9.up2 st425
   replace h50 := h50.up2 st425
   replace h79 := h79.up2 st425
   replace h80 := h80.up2 st425
   replace h81 := h81.up2 st425
   replace h82 := h82.up2 st425
   replace hL := hL.up2 st425
   refine jAb (.pointer (some ⟨b9, 0 + (x28.2.e2 : Int).toNat, none⟩)) rfl rfl (fun s426 st426 => ?_) ?_
   ·try replace h81 := h81.up2 st426
    exact jAj one140 rfl h81 rfl rfl (jAe)
   refine jAb (.pointer (some ⟨b9, 0 + (x28.2.e2 : Int).toNat, none⟩)) rfl rfl (fun s427 st427 => ?_) ?_
   ·exact jBk rfl rfl (jAe)
   obtain ⟨x51, hx51, hc53⟩ := ob hc53
   refine jAb (cU x51) rfl rfl (fun s428 st428 => ?_) ?_
   ·try replace h9 := h9.up2 st428
    exact jBv cU (pre := []) (xs := ((x27.set (x28.2.e0 : Int).toNat (ofI32 ((x44.toNat : Int) + ((ofI32 ((x45.toNat : Int) + (x35.toNat : Int))).toNat : Int)))).set (x28.2.e3 : Int).toNat x49)) one75 rfl h9 rfl hx51 rfl (jAe)
   refine jAb (.pointer (some ⟨b9, 0 + (x28.2.e3 : Int).toNat, none⟩)) rfl rfl (fun s429 st429 => ?_) ?_
   ·try replace h82 := h82.up2 st429
    exact jAj one140 rfl h82 rfl rfl (jAe)
   refine jAb (.pointer (some ⟨b9, 0 + (x28.2.e3 : Int).toNat, none⟩)) rfl rfl (fun s430 st430 => ?_) ?_
   ·exact jBk rfl rfl (jAe)
   obtain ⟨x52, hx52, hc53⟩ := ob hc53
   refine jAb (cU x52) rfl rfl (fun s431 st431 => ?_) ?_
   ·try replace h9 := h9.up2 st431
    exact jBv cU (pre := []) (xs := ((x27.set (x28.2.e0 : Int).toNat (ofI32 ((x44.toNat : Int) + ((ofI32 ((x45.toNat : Int) + (x35.toNat : Int))).toNat : Int)))).set (x28.2.e3 : Int).toNat x49)) one75 rfl h9 rfl hx52 rfl (jAe)
   refine jBg (jBo rfl rfl rfl (k_as (congrArg (Value.int .u32) (w32 _)) (jBk rfl rfl ?_)))
   obtain ⟨x53, hx53, hc53⟩ := ob hc53
   refine jCg cU (fun _ => rfl) (v := ofI32 ((x51.toNat : Int) + (x52.toNat : Int))) (pre := []) (xs := ((x27.set (x28.2.e0 : Int).toNat (ofI32 ((x44.toNat : Int) + ((ofI32 ((x45.toNat : Int) + (x35.toNat : Int))).toNat : Int)))).set (x28.2.e3 : Int).toNat x49)) size75 rfl rfl h9 lz rfl hx53 ?_
   intro s432 st432 h9
   have hl432 : (((x27.set (x28.2.e0 : Int).toNat (ofI32 ((x44.toNat : Int) + ((ofI32 ((x45.toNat : Int) + (x35.toNat : Int))).toNat : Int)))).set (x28.2.e3 : Int).toNat x49).set (x28.2.e2 : Int).toNat (ofI32 ((x51.toNat : Int) + (x52.toNat : Int)))).length = 16 := by rw [List.length_set]; exact hl424
   have := st432.size
   have hRS53 := hRS53.c0 st432
   replace h1 := h1.up2 st432
   replace h2 := h2.up2 st432
   replace h6 := h6.up2 st432
   replace h50 := h50.up2 st432
   replace h79 := h79.up2 st432
   replace h80 := h80.up2 st432
   replace h81 := h81.up2 st432
   replace h82 := h82.up2 st432
   replace hL := hL.up2 st432
   refine jAi (jAh [(2, _), (4, _), (6, _)] ⟨rfl, rfl, rfl, trivial⟩ (jBl (KN s432.n) 11 (.read 0 (.read 1 (.read 2 (.read 3 (.read 4 (.read 5 (.read 6 (.read 7 (.read 8 (.read 9 (.alt 10 .fin .no))))))))))) mixed lw rfl rfl rfl ?_))
   intro s433 st433
   have := st433.size
   have hRS53 := hRS53.trans0 st433
   replace h1 := h1.up2 st433
   replace h2 := h2.up2 st433
   replace h6 := h6.up2 st433
   replace h9 := h9.up2 st433
   replace h50 := h50.up2 st433
   replace h79 := h79.up2 st433
   replace h80 := h80.up2 st433
   replace h81 := h81.up2 st433
   replace h82 := h82.up2 st433
   replace hL := hL.up2 st433
   refine jAb (.pointer (some ⟨b9, 0 + (x28.2.e1 : Int).toNat, none⟩)) rfl rfl (fun s434 st434 => ?_) ?_
   ·try replace h80 := h80.up2 st434
    exact jAj one140 rfl h80 rfl rfl (jAe)
   refine jAb (.pointer (some ⟨b9, 0 + (x28.2.e1 : Int).toNat, none⟩)) rfl rfl (fun s435 st435 => ?_) ?_
   ·try replace h80 := h80.up2 st435
    exact jAj one140 rfl h80 rfl rfl (jAe)
   refine jAb (.pointer (some ⟨b9, 0 + (x28.2.e1 : Int).toNat, none⟩)) rfl rfl (fun s436 st436 => ?_) ?_
   ·exact jBk rfl rfl (jAe)
   obtain ⟨x54, hx54, hc53⟩ := ob hc53
   refine jAb (cU x54) rfl rfl (fun s437 st437 => ?_) ?_
   ·try replace h9 := h9.up2 st437
    exact jBv cU (pre := []) (xs := (((x27.set (x28.2.e0 : Int).toNat (ofI32 ((x44.toNat : Int) + ((ofI32 ((x45.toNat : Int) + (x35.toNat : Int))).toNat : Int)))).set (x28.2.e3 : Int).toNat x49).set (x28.2.e2 : Int).toNat (ofI32 ((x51.toNat : Int) + (x52.toNat : Int))))) one75 rfl h9 rfl hx54 rfl (jAe)
   refine jAb (.pointer (some ⟨b9, 0 + (x28.2.e2 : Int).toNat, none⟩)) rfl rfl (fun s438 st438 => ?_) ?_
   ·try replace h81 := h81.up2 st438
    exact jAj one140 rfl h81 rfl rfl (jAe)
   refine jAb (.pointer (some ⟨b9, 0 + (x28.2.e2 : Int).toNat, none⟩)) rfl rfl (fun s439 st439 => ?_) ?_
   ·exact jBk rfl rfl (jAe)
   obtain ⟨x55, hx55, hc53⟩ := ob hc53
   refine jAb (cU x55) rfl rfl (fun s440 st440 => ?_) ?_
   ·try replace h9 := h9.up2 st440
    exact jBv cU (pre := []) (xs := (((x27.set (x28.2.e0 : Int).toNat (ofI32 ((x44.toNat : Int) + ((ofI32 ((x45.toNat : Int) + (x35.toNat : Int))).toNat : Int)))).set (x28.2.e3 : Int).toNat x49).set (x28.2.e2 : Int).toNat (ofI32 ((x51.toNat : Int) + (x52.toNat : Int))))) one75 rfl h9 rfl hx55 rfl (jAe)
   refine jAb (cU (x54 ^^^ x55)) rfl rfl (fun s441 st441 => ?_) ?_
   ·exact jCm (p := (x54.toNat : Int)) (q := (x55.toNat : Int)) (.inr (.inr (.inl ⟨rfl, rfl⟩))) rfl rfl rfl (k_as (congrArg (Value.int .u32) (xor32 _ _)) (jAe))
   refine jAb (.int .i64 12) rfl rfl (fun s442 st442 => ?_) ?_
   ·exact jAc rfl rfl (jAe)
   refine jAb (.int .i64 (i64 (0 - 12))) rfl rfl (fun s443 st443 => ?_) ?_
   ·exact k_neg rfl rfl (jAe)
   refine jBa rfl rfl ?_
   have hA444 := Step.r0 (KN s432.n) s433
   obtain ⟨x56, hx56, hc53⟩ := ob hc53
   refine jAp cal108 rfl (bits_RotateLeft32_w   hx56) rfl ?_
   rintro s445 vr445 st445 rfl
   have := st445.size
   have hRS53 := hRS53.trans0 st445
   have hA444 := hA444.trans0 st445
   replace h1 := h1.up2 st445
   replace h2 := h2.up2 st445
   replace h6 := h6.up2 st445
   replace h9 := h9.up2 st445
   replace h50 := h50.up2 st445
   replace h79 := h79.up2 st445
   replace h80 := h80.up2 st445
   replace h81 := h81.up2 st445
   replace h82 := h82.up2 st445
   replace hL := hL.up2 st445
   refine jAt hA444 (jBg (jBk rfl rfl ?_))
   obtain ⟨x57, hx57, hc53⟩ := ob hc53
   refine jCg cU (fun _ => rfl) (v := x56) (pre := []) (xs := (((x27.set (x28.2.e0 : Int).toNat (ofI32 ((x44.toNat : Int) + ((ofI32 ((x45.toNat : Int) + (x35.toNat : Int))).toNat : Int)))).set (x28.2.e3 : Int).toNat x49).set (x28.2.e2 : Int).toNat (ofI32 ((x51.toNat : Int) + (x52.toNat : Int))))) size75 rfl rfl h9 lz rfl hx57 ?_
   intro s446 st446 h9
   have hl446 : ((((x27.set (x28.2.e0 : Int).toNat (ofI32 ((x44.toNat : Int) + ((ofI32 ((x45.toNat : Int) + (x35.toNat : Int))).toNat : Int)))).set (x28.2.e3 : Int).toNat x49).set (x28.2.e2 : Int).toNat (ofI32 ((x51.toNat : Int) + (x52.toNat : Int)))).set (x28.2.e1 : Int).toNat x56).length = 16 := by rw [List.length_set]; exact hl432
   have := st446.size
   have hRS53 := hRS53.c0 st446
   replace h1 := h1.up2 st446
   replace h2 := h2.up2 st446
   replace h6 := h6.up2 st446
   replace h50 := h50.up2 st446
   replace h79 := h79.up2 st446
   replace h80 := h80.up2 st446
   replace h81 := h81.up2 st446
   replace h82 := h82.up2 st446
   replace hL := hL.up2 st446
   refine jAi (k_end (⟨_, rfl, _, rfl, ?_⟩))
   refine jAi (jAh [(3, _), (12, _)] ⟨rfl, rfl, trivial⟩ (jAa (jAc rfl rfl (jAc rfl rfl (jDh cal107 rfl rfl rfl (k_fn (rs := []) (args := [cU x38, .int .i64 8, .int .i64 7, pZ bv79, pZ bv80, pZ bv82, pZ bv81]) Tryz.func107 rfl rfl rfl rfl (jAg (jBl (KN s446.n) 8 (.read 0 (.read 1 (.read 2 (.read 3 (.read 4 (.read 5 (.read 6 (.read 7 .fin)))))))) mixed lw rfl rfl rfl ?_))))))))
   intro s447 st447
   have := st447.size
   have hRS53 := hRS53.trans0 st447
   replace h1 := h1.up2 st447
   replace h2 := h2.up2 st447
   replace h6 := h6.up2 st447
   replace h9 := h9.up2 st447
   replace h50 := h50.up2 st447
   replace h79 := h79.up2 st447
   replace h80 := h80.up2 st447
   replace h81 := h81.up2 st447
   replace h82 := h82.up2 st447
   replace hL := hL.up2 st447
   refine jAb (.pointer (some ⟨b9, 0 + (x28.2.e0 : Int).toNat, none⟩)) rfl rfl (fun s448 st448 => ?_) ?_
   ·try replace h79 := h79.up2 st448
    exact jAj one140 rfl h79 rfl rfl (jAe)
   refine jAb (.pointer (some ⟨b9, 0 + (x28.2.e0 : Int).toNat, none⟩)) rfl rfl (fun s449 st449 => ?_) ?_
   ·exact jBk rfl rfl (jAe)
   obtain ⟨x58, hx58, hc53⟩ := ob hc53
   refine jAb (cU x58) rfl rfl (fun s450 st450 => ?_) ?_
   ·try replace h9 := h9.up2 st450
    exact jBv cU (pre := []) (xs := ((((x27.set (x28.2.e0 : Int).toNat (ofI32 ((x44.toNat : Int) + ((ofI32 ((x45.toNat : Int) + (x35.toNat : Int))).toNat : Int)))).set (x28.2.e3 : Int).toNat x49).set (x28.2.e2 : Int).toNat (ofI32 ((x51.toNat : Int) + (x52.toNat : Int)))).set (x28.2.e1 : Int).toNat x56)) one75 rfl h9 rfl hx58 rfl (jAe)
   refine jAb (.pointer (some ⟨b9, 0 + (x28.2.e1 : Int).toNat, none⟩)) rfl rfl (fun s451 st451 => ?_) ?_
   ·try replace h80 := h80.up2 st451
    exact jAj one140 rfl h80 rfl rfl (jAe)
   refine jAb (.pointer (some ⟨b9, 0 + (x28.2.e1 : Int).toNat, none⟩)) rfl rfl (fun s452 st452 => ?_) ?_
   ·exact jBk rfl rfl (jAe)
   obtain ⟨x59, hx59, hc53⟩ := ob hc53
   refine jAb (cU x59) rfl rfl (fun s453 st453 => ?_) ?_
   ·try replace h9 := h9.up2 st453
    exact jBv cU (pre := []) (xs := ((((x27.set (x28.2.e0 : Int).toNat (ofI32 ((x44.toNat : Int) + ((ofI32 ((x45.toNat : Int) + (x35.toNat : Int))).toNat : Int)))).set (x28.2.e3 : Int).toNat x49).set (x28.2.e2 : Int).toNat (ofI32 ((x51.toNat : Int) + (x52.toNat : Int)))).set (x28.2.e1 : Int).toNat x56)) one75 rfl h9 rfl hx59 rfl (jAe)
   refine jAb (cU x38) rfl rfl (fun s454 st454 => ?_) ?_
   ·exact jAc rfl rfl (jAe)
   refine jAb (cU (ofI32 ((x59.toNat : Int) + (x38.toNat : Int)))) rfl rfl (fun s455 st455 => ?_) ?_
   ·exact jBo rfl rfl rfl (k_as (congrArg (Value.int .u32) (w32 _)) (jAe))
   refine jBg (jBo rfl rfl rfl (k_as (congrArg (Value.int .u32) (w32 _)) (jBk rfl rfl ?_)))
   obtain ⟨x60, hx60, hc53⟩ := ob hc53
   refine jCg cU (fun _ => rfl) (v := ofI32 ((x58.toNat : Int) + ((ofI32 ((x59.toNat : Int) + (x38.toNat : Int))).toNat : Int))) (pre := []) (xs := ((((x27.set (x28.2.e0 : Int).toNat (ofI32 ((x44.toNat : Int) + ((ofI32 ((x45.toNat : Int) + (x35.toNat : Int))).toNat : Int)))).set (x28.2.e3 : Int).toNat x49).set (x28.2.e2 : Int).toNat (ofI32 ((x51.toNat : Int) + (x52.toNat : Int)))).set (x28.2.e1 : Int).toNat x56)) size75 rfl rfl h9 lz rfl hx60 ?_
   intro s456 st456 h9
   have hl456 : (((((x27.set (x28.2.e0 : Int).toNat (ofI32 ((x44.toNat : Int) + ((ofI32 ((x45.toNat : Int) + (x35.toNat : Int))).toNat : Int)))).set (x28.2.e3 : Int).toNat x49).set (x28.2.e2 : Int).toNat (ofI32 ((x51.toNat : Int) + (x52.toNat : Int)))).set (x28.2.e1 : Int).toNat x56).set (x28.2.e0 : Int).toNat (ofI32 ((x58.toNat : Int) + ((ofI32 ((x59.toNat : Int) + (x38.toNat : Int))).toNat : Int)))).length = 16 := by rw [List.length_set]; exact hl446
   have := st456.size
   have hRS53 := hRS53.c0 st456
   replace h1 := h1.up2 st456
   replace h2 := h2.up2 st456
   replace h6 := h6.up2 st456
   replace h50 := h50.up2 st456
   replace h79 := h79.up2 st456
   replace h80 := h80.up2 st456
   replace h81 := h81.up2 st456
   replace h82 := h82.up2 st456
   replace hL := hL.up2 st456
   refine jAi (jAh [(1, _), (2, _), (3, _), (4, _), (5, _), (6, _)] ⟨rfl, rfl, rfl, rfl, rfl, rfl, trivial⟩ (jAg (jBl (KN s456.n) 11 (.read 0 (.read 1 (.read 2 (.read 3 (.read 4 (.read 5 (.read 6 (.read 7 (.read 8 (.read 9 (.alt 10 .fin .no))))))))))) mixed lw rfl rfl rfl ?_)))
   intro s457 st457
   have := st457.size
   have hRS53 := hRS53.trans0 st457
   replace h1 := h1.up2 st457
   replace h2 := h2.up2 st457
   replace h6 := h6.up2 st457
   replace h9 := h9.up2 st457
   replace h50 := h50.up2 st457
   replace h79 := h79.up2 st457
   replace h80 := h80.up2 st457
   replace h81 := h81.up2 st457
   replace h82 := h82.up2 st457
   replace hL := hL.up2 st457
   refine jAb (.pointer (some ⟨b9, 0 + (x28.2.e3 : Int).toNat, none⟩)) rfl rfl (fun s458 st458 => ?_) ?_
   ·try replace h82 := h82.up2 st458
    exact jAj one140 rfl h82 rfl rfl (jAe)
   refine jAb (.pointer (some ⟨b9, 0 + (x28.2.e3 : Int).toNat, none⟩)) rfl rfl (fun s459 st459 => ?_) ?_
   ·try replace h82 := h82.up2 st459
    exact jAj one140 rfl h82 rfl rfl (jAe)
   refine jAb (.pointer (some ⟨b9, 0 + (x28.2.e3 : Int).toNat, none⟩)) rfl rfl (fun s460 st460 => ?_) ?_
   ·exact jBk rfl rfl (jAe)
   obtain ⟨x61, hx61, hc53⟩ := ob hc53
   refine jAb (cU x61) rfl rfl (fun s461 st461 => ?_) ?_
   ·try replace h9 := h9.up2 st461
    exact jBv cU (pre := []) (xs := (((((x27.set (x28.2.e0 : Int).toNat (ofI32 ((x44.toNat : Int) + ((ofI32 ((x45.toNat : Int) + (x35.toNat : Int))).toNat : Int)))).set (x28.2.e3 : Int).toNat x49).set (x28.2.e2 : Int).toNat (ofI32 ((x51.toNat : Int) + (x52.toNat : Int)))).set (x28.2.e1 : Int).toNat x56).set (x28.2.e0 : Int).toNat (ofI32 ((x58.toNat : Int) + ((ofI32 ((x59.toNat : Int) + (x38.toNat : Int))).toNat : Int))))) one75 rfl h9 rfl hx61 rfl (jAe)
   refine jAb (.pointer (some ⟨b9, 0 + (x28.2.e0 : Int).toNat, none⟩)) rfl rfl (fun s462 st462 => ?_) ?_
   ·try replace h79 := h79.up2 st462
    exact jAj one140 rfl h79 rfl rfl (jAe)
   refine jAb (.pointer (some ⟨b9, 0 + (x28.2.e0 : Int).toNat, none⟩)) rfl rfl (fun s463 st463 => ?_) ?_
   ·exact jBk rfl rfl (jAe)
   obtain ⟨x62, hx62, hc53⟩ := ob hc53
   refine jAb (cU x62) rfl rfl (fun s464 st464 => ?_) ?_
   ·try replace h9 := h9.up2 st464
    exact jBv cU (pre := []) (xs := (((((x27.set (x28.2.e0 : Int).toNat (ofI32 ((x44.toNat : Int) + ((ofI32 ((x45.toNat : Int) + (x35.toNat : Int))).toNat : Int)))).set (x28.2.e3 : Int).toNat x49).set (x28.2.e2 : Int).toNat (ofI32 ((x51.toNat : Int) + (x52.toNat : Int)))).set (x28.2.e1 : Int).toNat x56).set (x28.2.e0 : Int).toNat (ofI32 ((x58.toNat : Int) + ((ofI32 ((x59.toNat : Int) + (x38.toNat : Int))).toNat : Int))))) one75 rfl h9 rfl hx62 rfl (jAe)
   refine jAb (cU (x61 ^^^ x62)) rfl rfl (fun s465 st465 => ?_) ?_
   ·exact jCm (p := (x61.toNat : Int)) (q := (x62.toNat : Int)) (.inr (.inr (.inl ⟨rfl, rfl⟩))) rfl rfl rfl (k_as (congrArg (Value.int .u32) (xor32 _ _)) (jAe))
   refine jAb (.int .i64 8) rfl rfl (fun s466 st466 => ?_) ?_
   ·exact jAc rfl rfl (jAe)
   refine jAb (.int .i64 (i64 (0 - 8))) rfl rfl (fun s467 st467 => ?_) ?_
   ·exact k_neg rfl rfl (jAe)
   refine jBa rfl rfl ?_
   have hA468 := Step.r0 (KN s456.n) s457
   obtain ⟨x63, hx63, hc53⟩ := ob hc53
   refine jAp cal108 rfl (bits_RotateLeft32_w   hx63) rfl ?_
   rintro s469 vr469 st469 rfl
   have := st469.size
   have hRS53 := hRS53.trans0 st469
   have hA468 := hA468.trans0 st469
   replace h1 := h1.up2 st469
   replace h2 := h2.up2 st469
   replace h6 := h6.up2 st469
   replace h9 := h9.up2 st469
   replace h50 := h50.up2 st469
   replace h80 := h80.up2 st469
   replace h81 := h81.up2 st469
   replace h82 := h82.up2 st469
   replace hL := hL.up2 st469
   refine jAt hA468 (jBg (jBk rfl rfl ?_))
   obtain ⟨x64, hx64, hc53⟩ := ob hc53
   refine jCg cU (fun _ => rfl) (v := x63) (pre := []) (xs := (((((x27.set (x28.2.e0 : Int).toNat (ofI32 ((x44.toNat : Int) + ((ofI32 ((x45.toNat : Int) + (x35.toNat : Int))).toNat : Int)))).set (x28.2.e3 : Int).toNat x49).set (x28.2.e2 : Int).toNat (ofI32 ((x51.toNat : Int) + (x52.toNat : Int)))).set (x28.2.e1 : Int).toNat x56).set (x28.2.e0 : Int).toNat (ofI32 ((x58.toNat : Int) + ((ofI32 ((x59.toNat : Int) + (x38.toNat : Int))).toNat : Int))))) size75 rfl rfl h9 lz rfl hx64 ?_
   intro s470 st470 h9
   have hl470 : ((((((x27.set (x28.2.e0 : Int).toNat (ofI32 ((x44.toNat : Int) + ((ofI32 ((x45.toNat : Int) + (x35.toNat : Int))).toNat : Int)))).set (x28.2.e3 : Int).toNat x49).set (x28.2.e2 : Int).toNat (ofI32 ((x51.toNat : Int) + (x52.toNat : Int)))).set (x28.2.e1 : Int).toNat x56).set (x28.2.e0 : Int).toNat (ofI32 ((x58.toNat : Int) + ((ofI32 ((x59.toNat : Int) + (x38.toNat : Int))).toNat : Int)))).set (x28.2.e3 : Int).toNat x63).length = 16 := by rw [List.length_set]; exact hl456
   have := st470.size
   have hRS53 := hRS53.c0 st470
   replace h1 := h1.up2 st470
   replace h2 := h2.up2 st470
   replace h6 := h6.up2 st470
   replace h50 := h50.up2 st470
   replace h80 := h80.up2 st470
   replace h81 := h81.up2 st470
   replace h82 := h82.up2 st470
   replace hL := hL.up2 st470
   refine jAi (jAh [(2, _), (4, _), (5, _), (6, _)] ⟨rfl, rfl, rfl, rfl, trivial⟩ (jAg (jBl (KN s470.n) 6 (.read 0 (.read 1 (.read 2 (.read 3 (.read 4 (.read 5 .fin)))))) mixed lw rfl rfl rfl ?_)))
   intro s471 st471
   have := st471.size
   have hRS53 := hRS53.trans0 st471
   replace h1 := h1.up2 st471
   replace h2 := h2.up2 st471
   replace h6 := h6.up2 st471
   replace h9 := h9.up2 st471
   replace h50 := h50.up2 st471
   replace h80 := h80.up2 st471
   replace h81 := h81.up2 st471
   replace h82 := h82.up2 st471
   replace hL := hL.up2 st471
   refine jAb (.pointer (some ⟨b9, 0 + (x28.2.e2 : Int).toNat, none⟩)) rfl rfl (fun s472 st472 => ?_) ?_
   ·try replace h81 := h81.up2 st472
    exact jAj one140 rfl h81 rfl rfl (jAe)
   refine jAb (.pointer (some ⟨b9, 0 + (x28.2.e2 : Int).toNat, none⟩)) rfl rfl (fun s473 st473 => ?_) ?_
   ·exact jBk rfl rfl (jAe)
   obtain ⟨x65, hx65, hc53⟩ := ob hc53
   refine jAb (cU x65) rfl rfl (fun s474 st474 => ?_) ?_
   ·try replace h9 := h9.up2 st474
    exact jBv cU (pre := []) (xs := ((((((x27.set (x28.2.e0 : Int).toNat (ofI32 ((x44.toNat : Int) + ((ofI32 ((x45.toNat : Int) + (x35.toNat : Int))).toNat : Int)))).set (x28.2.e3 : Int).toNat x49).set (x28.2.e2 : Int).toNat (ofI32 ((x51.toNat : Int) + (x52.toNat : Int)))).set (x28.2.e1 : Int).toNat x56).set (x28.2.e0 : Int).toNat (ofI32 ((x58.toNat : Int) + ((ofI32 ((x59.toNat : Int) + (x38.toNat : Int))).toNat : Int)))).set (x28.2.e3 : Int).toNat x63)) one75 rfl h9 rfl hx65 rfl (jAe)
   refine jAb (.pointer (some ⟨b9, 0 + (x28.2.e3 : Int).toNat, none⟩)) rfl rfl (fun s475 st475 => ?_) ?_
   ·try replace h82 := h82.up2 st475
    exact jAj one140 rfl h82 rfl rfl (jAe)
   refine jAb (.pointer (some ⟨b9, 0 + (x28.2.e3 : Int).toNat, none⟩)) rfl rfl (fun s476 st476 => ?_) ?_
   ·exact jBk rfl rfl (jAe)
   obtain ⟨x66, hx66, hc53⟩ := ob hc53
   refine jAb (cU x66) rfl rfl (fun s477 st477 => ?_) ?_
   ·try replace h9 := h9.up2 st477
    exact jBv cU (pre := []) (xs := ((((((x27.set (x28.2.e0 : Int).toNat (ofI32 ((x44.toNat : Int) + ((ofI32 ((x45.toNat : Int) + (x35.toNat : Int))).toNat : Int)))).set (x28.2.e3 : Int).toNat x49).set (x28.2.e2 : Int).toNat (ofI32 ((x51.toNat : Int) + (x52.toNat : Int)))).set (x28.2.e1 : Int).toNat x56).set (x28.2.e0 : Int).toNat (ofI32 ((x58.toNat : Int) + ((ofI32 ((x59.toNat : Int) + (x38.toNat : Int))).toNat : Int)))).set (x28.2.e3 : Int).toNat x63)) one75 rfl h9 rfl hx66 rfl (jAe)
   refine jBg (jBo rfl rfl rfl (k_as (congrArg (Value.int .u32) (w32 _)) (jBk rfl rfl ?_)))
   obtain ⟨x67, hx67, hc53⟩ := ob hc53
   refine jCg cU (fun _ => rfl) (v := ofI32 ((x65.toNat : Int) + (x66.toNat : Int))) (pre := []) (xs := ((((((x27.set (x28.2.e0 : Int).toNat (ofI32 ((x44.toNat : Int) + ((ofI32 ((x45.toNat : Int) + (x35.toNat : Int))).toNat : Int)))).set (x28.2.e3 : Int).toNat x49).set (x28.2.e2 : Int).toNat (ofI32 ((x51.toNat : Int) + (x52.toNat : Int)))).set (x28.2.e1 : Int).toNat x56).set (x28.2.e0 : Int).toNat (ofI32 ((x58.toNat : Int) + ((ofI32 ((x59.toNat : Int) + (x38.toNat : Int))).toNat : Int)))).set (x28.2.e3 : Int).toNat x63)) size75 rfl rfl h9 lz rfl hx67 ?_
   intro s478 st478 h9
   have hl478 : (((((((x27.set (x28.2.e0 : Int).toNat (ofI32 ((x44.toNat : Int) + ((ofI32 ((x45.toNat : Int) + (x35.toNat : Int))).toNat : Int)))).set (x28.2.e3 : Int).toNat x49).set (x28.2.e2 : Int).toNat (ofI32 ((x51.toNat : Int) + (x52.toNat : Int)))).set (x28.2.e1 : Int).toNat x56).set (x28.2.e0 : Int).toNat (ofI32 ((x58.toNat : Int) + ((ofI32 ((x59.toNat : Int) + (x38.toNat : Int))).toNat : Int)))).set (x28.2.e3 : Int).toNat x63).set (x28.2.e2 : Int).toNat (ofI32 ((x65.toNat : Int) + (x66.toNat : Int)))).length = 16 := by rw [List.length_set]; exact hl470
   have := st478.size
   have hRS53 := hRS53.c0 st478
   replace h1 := h1.up2 st478
   replace h2 := h2.up2 st478
   replace h6 := h6.up2 st478
   replace h50 := h50.up2 st478
   replace h80 := h80.up2 st478
   replace h81 := h81.up2 st478
   replace hL := hL.up2 st478
   refine jAi (jAh [(2, _), (4, _), (6, _)] ⟨rfl, rfl, rfl, trivial⟩ (jBl (KN s478.n) 11 (.read 0 (.read 1 (.read 2 (.read 3 (.read 4 (.read 5 (.read 6 (.read 7 (.read 8 (.read 9 (.alt 10 .fin .no))))))))))) mixed lw rfl rfl rfl ?_))
   intro s479 st479
   have := st479.size
   have hRS53 := hRS53.trans0 st479
   replace h1 := h1.up2 st479
   replace h2 := h2.up2 st479
   replace h6 := h6.up2 st479
   replace h9 := h9.up2 st479
   replace h50 := h50.up2 st479
   replace h80 := h80.up2 st479
   replace h81 := h81.up2 st479
   replace hL := hL.up2 st479
   refine jAb (.pointer (some ⟨b9, 0 + (x28.2.e1 : Int).toNat, none⟩)) rfl rfl (fun s480 st480 => ?_) ?_
   ·try replace h80 := h80.up2 st480
    exact jAj one140 rfl h80 rfl rfl (jAe)
   refine jAb (.pointer (some ⟨b9, 0 + (x28.2.e1 : Int).toNat, none⟩)) rfl rfl (fun s481 st481 => ?_) ?_
   ·try replace h80 := h80.up2 st481
    exact jAj one140 rfl h80 rfl rfl (jAe)
   refine jAb (.pointer (some ⟨b9, 0 + (x28.2.e1 : Int).toNat, none⟩)) rfl rfl (fun s482 st482 => ?_) ?_
   ·exact jBk rfl rfl (jAe)
   obtain ⟨x68, hx68, hc53⟩ := ob hc53
   refine jAb (cU x68) rfl rfl (fun s483 st483 => ?_) ?_
   ·try replace h9 := h9.up2 st483
    exact jBv cU (pre := []) (xs := (((((((x27.set (x28.2.e0 : Int).toNat (ofI32 ((x44.toNat : Int) + ((ofI32 ((x45.toNat : Int) + (x35.toNat : Int))).toNat : Int)))).set (x28.2.e3 : Int).toNat x49).set (x28.2.e2 : Int).toNat (ofI32 ((x51.toNat : Int) + (x52.toNat : Int)))).set (x28.2.e1 : Int).toNat x56).set (x28.2.e0 : Int).toNat (ofI32 ((x58.toNat : Int) + ((ofI32 ((x59.toNat : Int) + (x38.toNat : Int))).toNat : Int)))).set (x28.2.e3 : Int).toNat x63).set (x28.2.e2 : Int).toNat (ofI32 ((x65.toNat : Int) + (x66.toNat : Int))))) one75 rfl h9 rfl hx68 rfl (jAe)
   refine jAb (.pointer (some ⟨b9, 0 + (x28.2.e2 : Int).toNat, none⟩)) rfl rfl (fun s484 st484 => ?_) ?_
   ·try replace h81 := h81.up2 st484
    exact jAj one140 rfl h81 rfl rfl (jAe)
   refine jAb (.pointer (some ⟨b9, 0 + (x28.2.e2 : Int).toNat, none⟩)) rfl rfl (fun s485 st485 => ?_) ?_
   ·exact jBk rfl rfl (jAe)
   obtain ⟨x69, hx69, hc53⟩ := ob hc53
   refine jAb (cU x69) rfl rfl (fun s486 st486 => ?_) ?_
   ·try replace h9 := h9.up2 st486
    exact jBv cU (pre := []) (xs := (((((((x27.set (x28.2.e0 : Int).toNat (ofI32 ((x44.toNat : Int) + ((ofI32 ((x45.toNat : Int) + (x35.toNat : Int))).toNat : Int)))).set (x28.2.e3 : Int).toNat x49).set (x28.2.e2 : Int).toNat (ofI32 ((x51.toNat : Int) + (x52.toNat : Int)))).set (x28.2.e1 : Int).toNat x56).set (x28.2.e0 : Int).toNat (ofI32 ((x58.toNat : Int) + ((ofI32 ((x59.toNat : Int) + (x38.toNat : Int))).toNat : Int)))).set (x28.2.e3 : Int).toNat x63).set (x28.2.e2 : Int).toNat (ofI32 ((x65.toNat : Int) + (x66.toNat : Int))))) one75 rfl h9 rfl hx69 rfl (jAe)
   refine jAb (cU (x68 ^^^ x69)) rfl rfl (fun s487 st487 => ?_) ?_
   ·exact jCm (p := (x68.toNat : Int)) (q := (x69.toNat : Int)) (.inr (.inr (.inl ⟨rfl, rfl⟩))) rfl rfl rfl (k_as (congrArg (Value.int .u32) (xor32 _ _)) (jAe))
   refine jAb (.int .i64 7) rfl rfl (fun s488 st488 => ?_) ?_
   ·exact jAc rfl rfl (jAe)
   refine jAb (.int .i64 (i64 (0 - 7))) rfl rfl (fun s489 st489 => ?_) ?_
   ·exact k_neg rfl rfl (jAe)
   refine jBa rfl rfl ?_
   have hA490 := Step.r0 (KN s478.n) s479
   obtain ⟨x70, hx70, hc53⟩ := ob hc53
   refine jAp cal108 rfl (bits_RotateLeft32_w   hx70) rfl ?_
   rintro s491 vr491 st491 rfl
   have := st491.size
   have hRS53 := hRS53.trans0 st491
   have hA490 := hA490.trans0 st491
   replace h1 := h1.up2 st491
   replace h2 := h2.up2 st491
   replace h6 := h6.up2 st491
   replace h9 := h9.up2 st491
   replace h50 := h50.up2 st491
   replace hL := hL.up2 st491
   refine jAt hA490 (jBg (jBk rfl rfl ?_))
   obtain ⟨x71, hx71, hc53⟩ := ob hc53
   refine jCg cU (fun _ => rfl) (v := x70) (pre := []) (xs := (((((((x27.set (x28.2.e0 : Int).toNat (ofI32 ((x44.toNat : Int) + ((ofI32 ((x45.toNat : Int) + (x35.toNat : Int))).toNat : Int)))).set (x28.2.e3 : Int).toNat x49).set (x28.2.e2 : Int).toNat (ofI32 ((x51.toNat : Int) + (x52.toNat : Int)))).set (x28.2.e1 : Int).toNat x56).set (x28.2.e0 : Int).toNat (ofI32 ((x58.toNat : Int) + ((ofI32 ((x59.toNat : Int) + (x38.toNat : Int))).toNat : Int)))).set (x28.2.e3 : Int).toNat x63).set (x28.2.e2 : Int).toNat (ofI32 ((x65.toNat : Int) + (x66.toNat : Int))))) size75 rfl rfl h9 lz rfl hx71 ?_
   intro s492 st492 h9
   have hl492 : ((((((((x27.set (x28.2.e0 : Int).toNat (ofI32 ((x44.toNat : Int) + ((ofI32 ((x45.toNat : Int) + (x35.toNat : Int))).toNat : Int)))).set (x28.2.e3 : Int).toNat x49).set (x28.2.e2 : Int).toNat (ofI32 ((x51.toNat : Int) + (x52.toNat : Int)))).set (x28.2.e1 : Int).toNat x56).set (x28.2.e0 : Int).toNat (ofI32 ((x58.toNat : Int) + ((ofI32 ((x59.toNat : Int) + (x38.toNat : Int))).toNat : Int)))).set (x28.2.e3 : Int).toNat x63).set (x28.2.e2 : Int).toNat (ofI32 ((x65.toNat : Int) + (x66.toNat : Int)))).set (x28.2.e1 : Int).toNat x70).length = 16 := by rw [List.length_set]; exact hl478
   have := st492.size
   have hRS53 := hRS53.c0 st492
   replace h1 := h1.up2 st492
   replace h2 := h2.up2 st492
   replace h6 := h6.up2 st492
   replace h50 := h50.up2 st492
   replace hL := hL.up2 st492
   refine jAi (k_end (⟨_, rfl, _, rfl, ?_⟩))
   refine jAi (k_end (⟨_, rfl, _, rfl, ?_⟩))
   refine jAi (jCe (k_end ?_))
   obtain rfl := Option.some.inj hc53
   exact ⟨rfl, s492, rfl, hRS53, hL, ⟨hl492, h9, h1, h2, h6, h50⟩⟩
  ·
   intro l t1 I' Ky st hl1 hl2 hK1 hK2 hY hI'
   exact digest_quads_1_w hY hI'  hx30
  intro D53 s493 stn53
  rintro ⟨h54, h9, h1, h2, h6, h50⟩ hM53 hD53
  have := stn53.size
  have hS := hS.c0 stn53
  have hE46 := hE46.c0 stn53
  replace hML := hML.up2 stn53
  refine rk_nil (rf_bend (rk_last (jAa (jBo rfl rfl rfl (jAc rfl rfl (jAi (k_end ?_)))))))
  rw [hkj24] at h
  have hML494 := MarksL.cons hM53 (by omega) hML (by omega)
  exact rf_round ⟨(s493, i64 (x22 + 1), x30.2, (⟨.collected D53, #[]⟩ :: dfL), j), rfl, ⟨lr, trivial⟩, ⟨rfl, rfl, rfl, rfl, rfl, trivial⟩, ⟨rfl, hE46, h1, h2, h6, h54, h9, hML494, h⟩, (by simp)⟩
 have h := itF h c49
 refine k_exit_out ?_ rfl
 refine rf_iexit (rf_bexit (rk_last (jAh [(4, _), (8, _), (11, _)] ⟨rfl, rfl, rfl, trivial⟩ (jAg ?_))))
 obtain ⟨kj72, hK495, h⟩ := jn_out h
 have hE495 := Step.r0 (KC (b1 + 1) 0) s48
 refine jBp (X := St × UInt32 × UInt32 × UInt32 × UInt32 × UInt32 × UInt32 × UInt32 × UInt32) [(4, pZ b1), (8, pZ b2)] (fun (xL : St × UInt32 × UInt32 × UInt32 × UInt32 × UInt32 × UInt32 × UInt32 × UInt32) => match xL with | (sl, x73, x74, x75, x76, x77, x78, x79, x80) => []) (fun (xL : St × UInt32 × UInt32 × UInt32 × UInt32 × UInt32 × UInt32 × UInt32 × UInt32) (wL : World) => match xL with | (sl, x73, x74, x75, x76, x77, x78, x79, x80) => sl.w = wL ∧ Step (KC (b1 + 1) 0) s48 sl ∧ (Blk sl b1 ⟨b1 + 1, 0⟩ [cU x73, cU x74, cU x75, cU x76, cU x77, cU x78, cU x79, cU x80] 76) ∧ kj72 x73 x74 x75 x76 x77 x78 x79 x80 = some r) ?_ ?_
 ·
  refine jAg (jAa (jAc rfl rfl (jAi (jAw (jBr (X := St × Int × UInt32 × UInt32 × UInt32 × UInt32 × UInt32 × UInt32 × UInt32 × UInt32 × Nat) [(4, _), (8, _), (11, _)] (fun (xL : St × Int × UInt32 × UInt32 × UInt32 × UInt32 × UInt32 × UInt32 × UInt32 × UInt32 × Nat) => match xL with | (sl, x81, x82, x83, x84, x85, x86, x87, x88, x89, j) => [(69, .int .i64 x81)]) (fun (xL : St × Int × UInt32 × UInt32 × UInt32 × UInt32 × UInt32 × UInt32 × UInt32 × UInt32 × Nat) (wL : World) => match xL with | (sl, x81, x82, x83, x84, x85, x86, x87, x88, x89, j) => sl.w = wL ∧ Step (KC (b1 + 1) 0) s48 sl ∧ (Blk sl b1 ⟨b1 + 1, 0⟩ [cU x82, cU x83, cU x84, cU x85, cU x86, cU x87, cU x88, cU x89] 76) ∧ digest_mix_l2 x23 kj72 j x81 x82 x83 x84 x85 x86 x87 x88 x89 = some r) (fun (xL : St × Int × UInt32 × UInt32 × UInt32 × UInt32 × UInt32 × UInt32 × UInt32 × UInt32 × Nat) => match xL with | (sl, x81, x82, x83, x84, x85, x86, x87, x88, x89, j) => j) (s48, 0, a0.e0, a0.e1, a0.e2, a0.e3, a0.e4, a0.e5, a0.e6, a0.e7, FU) ⟨rfl, rfl, rfl, trivial⟩ ⟨lr, trivial⟩ ⟨rfl, (Step.refl _).of0 li, h1, h⟩ ?_)))))
  rintro ⟨s497, x81, x82, x83, x84, x85, x86, x87, x88, x89, j⟩ wL ⟨rfl, hE496, h1, h⟩
  cases j with
  | zero => rw [digest_mix_l2] at h; exact (noneNe h).elim
  | succ j =>
  rw [digest_mix_l2] at h
  have := hE496.size
  have hS := hS.c0 hE496
  have hE495 := hE495.c0 hE496
  replace h9 := h9.up2 hE496
  refine jAg (jAa (jBw rfl rfl rfl (jAi (jAg (jAl rfl (fun c498 => ?_) (fun c498 => ?_))))))
  ·
   have h := itT h c498
   refine jAv (jAg (jAw (jAg (jAa (jAc rfl rfl (jAd rfl rfl (jAi (jAh [(4, _), (8, _), (11, _), (16, _), (69, _)] ⟨rfl, rfl, rfl, rfl, rfl, trivial⟩ (jBl (KN s497.n) 11 (.read 0 (.read 1 (.read 2 (.read 3 (.read 4 (.read 5 (.read 6 (.read 7 (.read 8 (.read 9 (.read 10 .fin))))))))))) mixed lw rfl rfl rfl ?_)))))))))
   intro s499 st499
   have := st499.size
   have hS := hS.trans0 st499
   have hE495 := hE495.trans0 st499
   have hE496 := hE496.trans0 st499
   replace h1 := h1.up2 st499
   replace h9 := h9.up2 st499
   refine jAb (.int .i64 x81) rfl rfl (fun s500 st500 => ?_) ?_
   ·exact jAc rfl rfl (jAe)
   obtain ⟨x90, hx90, h⟩ := ob h
   refine jAb (.pointer (some ⟨b1, 0 + (x81 : Int).toNat, none⟩)) rfl rfl (fun s501 st501 => ?_) ?_
   ·exact jBx (m := 0) (xs := ([x82, x83, x84, x85, x86, x87, x88, x89] : List UInt32)) arr76 rfl rfl rfl hx90 rfl (jAe)
   obtain ⟨x91, hx91, h⟩ := ob h
   refine jAb (cU x91) rfl rfl (fun s502 st502 => ?_) ?_
   ·try replace h1 := h1.up2 st502
    exact jCo cU (pre := []) (post := []) (xs := ([x82, x83, x84, x85, x86, x87, x88, x89] : List UInt32)) one75 rfl h1 rfl hx91 rfl (jAe)
   refine jAb (.int .i64 x81) rfl rfl (fun s503 st503 => ?_) ?_
   ·exact jAc rfl rfl (jAe)
   obtain ⟨x92, hx92, h⟩ := ob h
   refine jAb (.pointer (some ⟨b9, 0 + (x81 : Int).toNat, none⟩)) rfl rfl (fun s504 st504 => ?_) ?_
   ·exact jBx (m := 0) arr117 rfl rfl h47 hx92 rfl (jAe)
   obtain ⟨x93, hx93, h⟩ := ob h
   refine jAb (cU x93) rfl rfl (fun s505 st505 => ?_) ?_
   ·try replace h9 := h9.up2 st505
    exact jBv cU (pre := []) (xs := x23) one75 rfl h9 rfl hx93 rfl (jAe)
   refine jAb (.int .i64 x81) rfl rfl (fun s506 st506 => ?_) ?_
   ·exact jAc rfl rfl (jAe)
   refine jAb (.int .i64 (i64 (x81 + 8))) rfl rfl (fun s507 st507 => ?_) ?_
   ·exact jBo rfl rfl rfl (jAe)
   obtain ⟨x94, hx94, h⟩ := ob h
   refine jAb (.pointer (some ⟨b9, 0 + (i64 (x81 + 8) : Int).toNat, none⟩)) rfl rfl (fun s508 st508 => ?_) ?_
   ·exact jBx (m := 0) arr117 rfl rfl h47 hx94 rfl (jAe)
   obtain ⟨x95, hx95, h⟩ := ob h
   refine jAb (cU x95) rfl rfl (fun s509 st509 => ?_) ?_
   ·try replace h9 := h9.up2 st509
    exact jBv cU (pre := []) (xs := x23) one75 rfl h9 rfl hx95 rfl (jAe)
   refine jAb (cU (x93 ^^^ x95)) rfl rfl (fun s510 st510 => ?_) ?_
   ·exact jCm (p := (x93.toNat : Int)) (q := (x95.toNat : Int)) (.inr (.inr (.inl ⟨rfl, rfl⟩))) rfl rfl rfl (k_as (congrArg (Value.int .u32) (xor32 _ _)) (jAe))
   refine jBg (jCm (p := (x91.toNat : Int)) (q := ((x93 ^^^ x95).toNat : Int)) (.inr (.inr (.inl ⟨rfl, rfl⟩))) rfl rfl rfl (k_as (congrArg (Value.int .u32) (xor32 _ _)) ?_))
   obtain ⟨x96, hx96, h⟩ := ob h
   refine jBx (m := 0) (xs := ([x82, x83, x84, x85, x86, x87, x88, x89] : List UInt32)) arr76 rfl rfl rfl hx96 rfl ?_
   obtain ⟨x97, hx97, h⟩ := ob h
   refine jDc cU (fun _ => rfl) (v := x91 ^^^ (x93 ^^^ x95)) (pre := []) (post := []) (xs := ([x82, x83, x84, x85, x86, x87, x88, x89] : List UInt32)) size75 rfl rfl h1 lz rfl hx97 ?_
   intro s511 st511 h1
   replace h1 := h1.litE (lit8 (show x97.length = 8 by rw [(seti_out hx97).2.2.2]; rfl) (0 : UInt32))
   have := st511.size
   have hS := hS.c0 st511
   have hE495 := hE495.c0 st511
   have hE496 := hE496.c0 st511
   exact jAi (jCe (jAa (jBo rfl rfl rfl (jAc rfl rfl (jAi (jAu ⟨(s511, i64 (x81 + 1), (x97.getD 0 0), (x97.getD 1 0), (x97.getD 2 0), (x97.getD 3 0), (x97.getD 4 0), (x97.getD 5 0), (x97.getD 6 0), (x97.getD 7 0), j), ⟨lr, trivial⟩, ⟨rfl, rfl, rfl, trivial⟩, ⟨rfl, hE496, h1, h⟩, (by simp)⟩))))))
  have h := itF h c498
  exact jBq rfl (jAu ⟨(s497, x82, x83, x84, x85, x86, x87, x88, x89), trivial, ⟨rfl, rfl, trivial⟩, ⟨rfl, hE495, h1, h⟩⟩)
 rintro ⟨s512, x73, x74, x75, x76, x77, x78, x79, x80⟩ wL ⟨rfl, hE495, h1, h⟩
 rw [hK495] at h
 have := hE495.size
 have hS := hS.c0 hE495
 replace h2 := h2.up2 hE495
 replace hML := hML.up2 hE495
 refine jAg (jAa (jAs (cs := [cU x73, cU x74, cU x75, cU x76, cU x77, cU x78, cU x79, cU x80]) agg76 rfl h1 rfl (jAo (cs' := [cU x73, cU x74, cU x75, cU x76, cU x77, cU x78, cU x79, cU x80]) size76 rfl rfl h2 lz (CellsOf.lit rfl rfl) rfl lq rfl ?_)))
 intro s513 st513 h2
 have := st513.size
 have hS := hS.c0 st513
 replace hML := hML.up2 st513
 refine jAi (jAh [(8, _)] ⟨rfl, trivial⟩ (jAx (re_ret (re_all hML (fun s514 st514 => ?_)))))
 have := st514.size
 have hS := hS.c0 st514
 replace h2 := h2.up2 st514
 obtain rfl := Option.some.inj h
 refine re_nil_c (rs := [.cell 8 76]) rfl rfl (⟨[.agg [cU x73, cU x74, cU x75, cU x76, cU x77, cU x78, cU x79, cU x80].toArray], ⟨res_blk (cs := [cU x73, cU x74, cU x75, cU x76, cU x77, cU x78, cU x79, cU x80]) rfl agg76 h2, trivial⟩, Ret.mk hS ?_⟩)
 exact ⟨_, rfl, (clsSt76 (⟨x73, x74, x75, x76, x77, x78, x79, x80⟩ : St76))⟩
theorem slices_Clone_byte_byte_w {s : St} {l0 : Lab} {v0 : Value} {a0 : (List UInt8)} {r : (List UInt8)} (hp0 : SL s l0 v0 1 (a0.map bD)) (h : slices_Clone_byte_byte a0 = some r) : Calls Tryz.prog 75 #[v0] s.w (Ret s K0 (fun s1 v => ∃ (u0 : Value), v = u0 ∧ R s1 u0 (.sl 1 (r.map bD)))) := by
 unfold slices_Clone_byte_byte at h
 obtain ⟨lf0, lf0le, lf0ne, hp0⟩ := hp0.fix
 have hS := Step.r0 K0 s
 refine k_fn (rs := [2]) (args := [v0]) Tryz.func75 rfl rfl rfl rfl (jAg (jAa (jAd rfl rfl (jAi (jAg (jAg (jAa (jAc rfl rfl (k_eql_snilv Tryz.underlying43 rfl rfl hp0 rfl (jAi (jAh [(0, _), (2, _), (4, _)] ⟨rfl, rfl, rfl, trivial⟩ (jCk rfl (fun c1 => ?_) (fun c1 => ?_)))))))))))))
 ·
  have hz5 := SL.nilS_nil hp0 c1
  obtain rfl : a0 = [] := by simpa using hz5
  replace h : some ([]) = some r := by simpa [app] using h
  refine jAg (jAa (jAd rfl rfl (jAi (jAh [(0, _), (2, _)] ⟨rfl, rfl, trivial⟩ (jAx ?_)))))
  obtain rfl := Option.some.inj h
  refine ⟨_, rfl, Ret.mk hS ?_⟩
  exact ⟨_, rfl, (R.of_SL (.inl ⟨rfl, none, 0, rfl, fun _ => rfl⟩))⟩
 refine jAv (jAg (jAa (k_bslice2 (ds := ([] : List UInt8).map bD) slc43 rfl RVs.nil (by rfl) (by rfl) rfl rfl ?_)))
 intro s2 v2 b2 st2 ge2 bl2 h2
 have := st2.size
 have hS := hS.trans0 st2
 replace hp0 := hp0.up2 st2
 have lt2 := Own.le1 h2
 refine jAc rfl rfl ?_
 obtain ⟨x1, hx1, h⟩ := ob h
 refine k_append (es := a0.map bD) elem43 rfl rfl h2 hp0 (by have := (jAm hx1).1; simp only [List.length_map] at *; omega) (by have := (jAm hx1).1; simp only [List.length_map] at *; omega) rfl ?_
 intro s3 v3 st3 h3
 rw [← List.map_append, ← (jAm hx1).2] at h3
 have := st3.size
 have hS := hS.c0 st3
 refine jAd rfl rfl (jAi (jAh [(2, _)] ⟨rfl, trivial⟩ (jAx ?_)))
 obtain ⟨s4, e4, st4, h4⟩ := h3.freeze
 rw [← e4]
 have := st4.size
 have hS := hS.c0 st4
 obtain rfl := Option.some.inj h
 refine ⟨_, rfl, Ret.mk hS ?_⟩
 exact ⟨_, rfl, h4⟩
theorem digest_Write_w {s : St} {cs0 : List Value} {a0 : ApiDigest} {v1 : Value} {a1 : (List UInt8)} {r : ApiDigest} (hp0 : RC s cs0 (dApiDigest a0)) (hp1 : R s v1 (.sl 1 (a1.map bD))) (h : digest_Write a0 a1 = some r) : Calls Tryz.prog 47 #[.agg cs0.toArray, v1] s.w (Ret s K0 (fun s1 v => ∃ (u0 : List Value), v = .agg u0.toArray ∧ RC s1 u0 (dApiDigest r))) := by
 unfold digest_Write at h
 obtain ⟨q0_0, rfl, hq0_0⟩ := opnApiDigest hp0
 have hS := Step.r0 K0 s
 refine jCy (rs := [.cell 4 78]) (args := [.agg #[cU a0.H.e0, cU a0.H.e1, cU a0.H.e2, cU a0.H.e3, cU a0.H.e4, cU a0.H.e5, cU a0.H.e6, cU a0.H.e7, q0_0, cW a0.N, .int .i64 a0.Size], v1]) Tryz.func47 rfl rfl rfl rfl (jAg (jAa (jCp rfl rfl ?_)))
 intro s1 b1 st1 h1 ge1
 have := st1.size
 have hS := hS.trans0 st1
 replace hq0_0 := hq0_0.up2 st1
 replace hp1 := hp1.up2 st1
 have lt1 := h1.lt
 refine jBj zero78 rfl ?_
 intro s2 b2 st2 h2 ge2
 have := st2.size
 have hS := hS.trans0 st2
 replace hq0_0 := hq0_0.up2 st2
 replace hp1 := hp1.up2 st2
 replace h1 := h1.up2 st2
 have lt2 := h2.lt
 refine jAi (jAh [(1, _), (2, _), (4, _)] ⟨rfl, rfl, rfl, trivial⟩ (jAg (jAa (jAf fld78_1 rfl rfl (jAj one43 rfl h1 rfl rfl (jAc rfl rfl (k_bslice2 (ds := ([a0.Rest, a1] : List (List UInt8)).map (dL 1 bD)) slc62 rfl (RVs.cons hq0_0 (RVs.cons hp1 RVs.nil)) (by rfl) (by rfl) rfl rfl ?_)))))))
 intro s3 v3 b3 st3 ge3 bl3 h3
 have := st3.size
 have hS := hS.trans0 st3
 replace h1 := h1.up2 st3
 replace h2 := h2.up2 st3
 have lt3 := Own.le1 h3
 obtain ⟨x1, hx1, h⟩ := ob h
 refine jAp cal73 rfl (slices_Concat_byte_byte_w  (h3.sl) hx1) rfl ?_
 rintro s4 v4_0 st4 ⟨_, rfl, h4_0⟩
 have := st4.size
 have hS := hS.trans0 st4
 replace h1 := h1.up2 st4
 replace h2 := h2.up2 st4
 refine jAf fld78_1 rfl rfl (jAo (cs' := [cU a0.H.e0, cU a0.H.e1, cU a0.H.e2, cU a0.H.e3, cU a0.H.e4, cU a0.H.e5, cU a0.H.e6, cU a0.H.e7, v4_0, cW a0.N, .int .i64 a0.Size]) size43 rfl rfl h1 lz (CellsOf.sl (SL.of_R h4_0)) rfl lq rfl ?_)
 intro s5 st5 h1
 have := st5.size
 have hS := hS.c0 st5
 replace h4_0 := h4_0.up2 st5
 replace h2 := h2.up2 st5
 refine jAi (jAh [(2, _), (4, _)] ⟨rfl, rfl, trivial⟩ (jAg ?_))
 obtain ⟨kj2, hK6, h⟩ := jn_out h
 have hE6 := Step.r0 (KC (b1 + 1) 0) s5
 refine jBp (X := St × UInt32 × UInt32 × UInt32 × UInt32 × UInt32 × UInt32 × UInt32 × UInt32 × (List UInt8) × Value × UInt64) [(2, pZ b1), (4, pZ b2)] (fun (xL : St × UInt32 × UInt32 × UInt32 × UInt32 × UInt32 × UInt32 × UInt32 × UInt32 × (List UInt8) × Value × UInt64) => match xL with | (sl, x3, x4, x5, x6, x7, x8, x9, x10, x11, v7, x12) => []) (fun (xL : St × UInt32 × UInt32 × UInt32 × UInt32 × UInt32 × UInt32 × UInt32 × UInt32 × (List UInt8) × Value × UInt64) (wL : World) => match xL with | (sl, x3, x4, x5, x6, x7, x8, x9, x10, x11, v7, x12) => sl.w = wL ∧ Step (KC (b1 + 1) 0) s5 sl ∧ (R sl v7 (.sl 1 (x11.map bD))) ∧ (Blk sl b1 ⟨b1 + 1, 0⟩ [cU x3, cU x4, cU x5, cU x6, cU x7, cU x8, cU x9, cU x10, v7, cW x12, .int .i64 a0.Size] 78) ∧ kj2 x3 x4 x5 x6 x7 x8 x9 x10 x11 x12 = some r) ?_ ?_
 ·
  refine jAw (jBr (X := St × UInt32 × UInt32 × UInt32 × UInt32 × UInt32 × UInt32 × UInt32 × UInt32 × (List UInt8) × Value × UInt64 × Nat) [(2, _), (4, _)] (fun (xL : St × UInt32 × UInt32 × UInt32 × UInt32 × UInt32 × UInt32 × UInt32 × UInt32 × (List UInt8) × Value × UInt64 × Nat) => match xL with | (sl, x13, x14, x15, x16, x17, x18, x19, x20, x21, v9, x22, j) => []) (fun (xL : St × UInt32 × UInt32 × UInt32 × UInt32 × UInt32 × UInt32 × UInt32 × UInt32 × (List UInt8) × Value × UInt64 × Nat) (wL : World) => match xL with | (sl, x13, x14, x15, x16, x17, x18, x19, x20, x21, v9, x22, j) => sl.w = wL ∧ Step (KC (b1 + 1) 0) s5 sl ∧ (R sl v9 (.sl 1 (x21.map bD))) ∧ (Blk sl b1 ⟨b1 + 1, 0⟩ [cU x13, cU x14, cU x15, cU x16, cU x17, cU x18, cU x19, cU x20, v9, cW x22, .int .i64 a0.Size] 78) ∧ digest_Write_l1 kj2 j x13 x14 x15 x16 x17 x18 x19 x20 x21 x22 = some r) (fun (xL : St × UInt32 × UInt32 × UInt32 × UInt32 × UInt32 × UInt32 × UInt32 × UInt32 × (List UInt8) × Value × UInt64 × Nat) => match xL with | (sl, x13, x14, x15, x16, x17, x18, x19, x20, x21, v9, x22, j) => j) (s5, a0.H.e0, a0.H.e1, a0.H.e2, a0.H.e3, a0.H.e4, a0.H.e5, a0.H.e6, a0.H.e7, x1, v4_0, a0.N, FU) ⟨rfl, rfl, trivial⟩ trivial ⟨rfl, (Step.refl _).of0 li, h4_0, h1, h⟩ ?_)
  rintro ⟨s10, x13, x14, x15, x16, x17, x18, x19, x20, x21, v9, x22, j⟩ wL ⟨rfl, hE8, h9, h1, h⟩
  cases j with
  | zero => rw [digest_Write_l1] at h; exact (noneNe h).elim
  | succ j =>
  rw [digest_Write_l1] at h
  have := hE8.size
  have hS := hS.c0 hE8
  have hE6 := hE6.c0 hE8
  refine jAg (jAg (jAa (jAf fld78_1 rfl rfl (jAj one43 rfl h1 rfl rfl (jCj Tryz.underlying43 rfl (SL.of_R h9).hasLen rfl (k_as (v := .int .i64 (x21.length : Int)) (by simp only [List.length_map]) (jCu rfl rfl rfl (jAi (jAh [(2, _), (4, _), (14, _)] ⟨rfl, rfl, rfl, trivial⟩ (jAl rfl (fun c11 => ?_) (fun c11 => ?_)))))))))))
  ·
   have h := itT h c11
   refine jAv (jAw (jAg (jAa (jAf fld78_2 rfl rfl (jAj one22 rfl h1 rfl rfl (jBo rfl rfl rfl (k_as (congrArg (Value.int .u64) (w64 _)) (jAf fld78_2 rfl rfl (jAo (cs' := [cU x13, cU x14, cU x15, cU x16, cU x17, cU x18, cU x19, cU x20, v9, cW (ofI64 ((x22.toNat : Int) + 64)), .int .i64 a0.Size]) size22 rfl rfl h1 lz (CellsOf.lit rfl rfl) rfl lq rfl ?_)))))))))
   intro s12 st12 h1
   have := st12.size
   have hS := hS.c0 st12
   have hE6 := hE6.c0 st12
   have hE8 := hE8.c0 st12
   replace h9 := h9.up2 st12
   refine jAi (jAh [(2, _), (4, _)] ⟨rfl, rfl, trivial⟩ (jAg (jBl (KN s12.n) 7 (.read 0 (.read 1 (.read 2 (.read 3 (.read 5 (.read 6 (.alt 4 .fin .no))))))) mixed lw rfl rfl rfl ?_)))
   intro s13 st13
   have := st13.size
   have hS := hS.trans0 st13
   have hE6 := hE6.trans0 st13
   have hE8 := hE8.trans0 st13
   replace h9 := h9.up2 st13
   replace h1 := h1.up2 st13
   refine jAb (pZ b1) rfl rfl (fun s14 st14 => ?_) ?_
   ·exact jAf fld78_0 rfl rfl (jAe)
   refine jAb (.agg #[cU x13, cU x14, cU x15, cU x16, cU x17, cU x18, cU x19, cU x20]) rfl rfl (fun s15 st15 => ?_) ?_
   ·try replace h1 := h1.up2 st15
    exact jDb (cs' := [cU x13, cU x14, cU x15, cU x16, cU x17, cU x18, cU x19, cU x20]) agg76 rfl h1 rfl rfl rfl (jAe)
   refine jAb (.pointer (some ⟨b1, 8, none⟩)) rfl rfl (fun s16 st16 => ?_) ?_
   ·exact jAf fld78_1 rfl rfl (jAe)
   refine jAb (v9) rfl rfl (fun s17 st17 => ?_) ?_
   ·try replace h1 := h1.up2 st17
    exact jAj one43 rfl h1 rfl rfl (jAe)
   refine jAb (.pointer (some ⟨b1, 9, none⟩)) rfl rfl (fun s18 st18 => ?_) ?_
   ·exact jAf fld78_2 rfl rfl (jAe)
   refine jAb (cW (ofI64 ((x22.toNat : Int) + 64))) rfl rfl (fun s19 st19 => ?_) ?_
   ·try replace h1 := h1.up2 st19
    exact jAj one22 rfl h1 rfl rfl (jAe)
   refine jBa rfl rfl ?_
   have hA20 := Step.r0 (KN s12.n) s13
   obtain ⟨x23, hx23, h⟩ := ob h
   refine k_cut_sl (i := (0 : Int).toNat) (j := (64 : Int).toNat) Tryz.underlying43 size5 rfl (SL.of_R h9) CutAt.none (CutAt.int rfl (Int.le_trans (subl_out hx23).1 (subl_out hx23).2.1)) (subl_ij hx23) (by rw [List.length_map]; exact subl_j hx23) rfl ?_
   intro vx23 hcx23
   rw [← List.map_drop, ← List.map_take, ← (subl_out hx23).2.2.2] at hcx23
   have hcx23 := R.of_SL hcx23
   refine jAt hA20 (jBg ?_)
   obtain ⟨x24, hx24, h⟩ := ob h
   refine jAp cal74 rfl (digest_mix_w  (clsSt76 (⟨x13, x14, x15, x16, x17, x18, x19, x20⟩ : St76)) (SL.of_R hcx23) hx24) rfl ?_
   rintro s21 vr21 st21 ⟨cs21_0, rfl, h21_0⟩
   have := st21.size
   have hS := hS.trans0 st21
   have hE6 := hE6.trans0 st21
   have hE8 := hE8.trans0 st21
   replace h9 := h9.up2 st21
   replace h1 := h1.up2 st21
   obtain rfl := opnSt76 h21_0
   refine jAf fld78_0 rfl rfl (jAo (cs' := [cU x24.e0, cU x24.e1, cU x24.e2, cU x24.e3, cU x24.e4, cU x24.e5, cU x24.e6, cU x24.e7, v9, cW (ofI64 ((x22.toNat : Int) + 64)), .int .i64 a0.Size]) size76 rfl rfl h1 lz (CellsOf.lit rfl rfl) rfl lq rfl ?_)
   intro s22 st22 h1
   have := st22.size
   have hS := hS.c0 st22
   have hE6 := hE6.c0 st22
   have hE8 := hE8.c0 st22
   replace h9 := h9.up2 st22
   refine jAi (jAh [(2, _), (4, _)] ⟨rfl, rfl, trivial⟩ (jAa (jAf fld78_1 rfl rfl (jAj one43 rfl h1 rfl rfl ?_))))
   obtain ⟨x25, hx25, h⟩ := ob h
   refine k_cut_sl (i := (64 : Int).toNat) (j := ((x21.length : Int) : Int).toNat) Tryz.underlying43 size5 rfl (SL.of_R h9) (CutAt.int rfl (subl_out hx25).1) (CutAt.len (by rw [List.length_map]; rfl)) (subl_ij hx25) (by rw [List.length_map]; exact subl_j hx25) rfl ?_
   intro vx25 hcx25
   rw [← List.map_drop, ← List.map_take, ← (subl_out hx25).2.2.2] at hcx25
   have hcx25 := R.of_SL hcx25
   refine jAf fld78_1 rfl rfl (jAo (cs' := [cU x24.e0, cU x24.e1, cU x24.e2, cU x24.e3, cU x24.e4, cU x24.e5, cU x24.e6, cU x24.e7, vx25, cW (ofI64 ((x22.toNat : Int) + 64)), .int .i64 a0.Size]) size43 rfl rfl h1 lz (CellsOf.sl (SL.of_R hcx25)) rfl lq rfl ?_)
   intro s23 st23 h1
   have := st23.size
   have hS := hS.c0 st23
   have hE6 := hE6.c0 st23
   have hE8 := hE8.c0 st23
   replace hcx25 := hcx25.up2 st23
   exact jAi (jCe (jAu ⟨(s23, x24.e0, x24.e1, x24.e2, x24.e3, x24.e4, x24.e5, x24.e6, x24.e7, x25, vx25, ofI64 ((x22.toNat : Int) + 64), j), trivial, ⟨rfl, rfl, trivial⟩, ⟨rfl, hE8, hcx25, h1, h⟩, (by simp)⟩))
  have h := itF h c11
  exact jBq rfl (jAu ⟨(s10, x13, x14, x15, x16, x17, x18, x19, x20, x21, v9, x22), trivial, ⟨rfl, rfl, trivial⟩, ⟨rfl, hE6, h9, h1, h⟩⟩)
 rintro ⟨s24, x3, x4, x5, x6, x7, x8, x9, x10, x11, v7, x12⟩ wL ⟨rfl, hE6, h7, h1, h⟩
 rw [hK6] at h
 have := hE6.size
 have hS := hS.c0 hE6
 replace h2 := h2.up2 hE6
 refine jAg (jAa (jAf fld78_1 rfl rfl (jAj one43 rfl h1 rfl rfl ?_)))
 obtain ⟨x26, hx26, h⟩ := ob h
 refine jAp cal75 rfl (slices_Clone_byte_byte_w  (SL.of_R h7) hx26) rfl ?_
 rintro s25 v25_0 st25 ⟨_, rfl, h25_0⟩
 have := st25.size
 have hS := hS.trans0 st25
 replace h1 := h1.up2 st25
 replace h2 := h2.up2 st25
 refine jAf fld78_1 rfl rfl (jAo (cs' := [cU x3, cU x4, cU x5, cU x6, cU x7, cU x8, cU x9, cU x10, v25_0, cW x12, .int .i64 a0.Size]) size43 rfl rfl h1 lz (CellsOf.sl (SL.of_R h25_0)) rfl lq rfl ?_)
 intro s26 st26 h1
 have := st26.size
 have hS := hS.c0 st26
 replace h25_0 := h25_0.up2 st26
 replace h2 := h2.up2 st26
 refine jAi (jAh [(2, _), (4, _)] ⟨rfl, rfl, trivial⟩ (jAg (jAa (jAs (cs := [cU x3, cU x4, cU x5, cU x6, cU x7, cU x8, cU x9, cU x10, v25_0, cW x12, .int .i64 a0.Size]) agg78 rfl h1 rfl (jAo (cs' := [cU x3, cU x4, cU x5, cU x6, cU x7, cU x8, cU x9, cU x10, v25_0, cW x12, .int .i64 a0.Size]) size78 rfl rfl h2 lz (CellsOf.lit (vs := [cU x3, cU x4, cU x5, cU x6, cU x7, cU x8, cU x9, cU x10, v25_0, cW x12, .int .i64 a0.Size]) rfl (ones.cons rfl (ones.cons rfl (ones.cons rfl (ones.cons rfl (ones.cons rfl (ones.cons rfl (ones.cons rfl (ones.cons rfl (ones.cons ((SL.of_R h25_0)).one1 (ones.cons rfl (ones.cons rfl ones.nil)))))))))))) rfl lq rfl ?_)))))
 intro s27 st27 h2
 have := st27.size
 have hS := hS.c0 st27
 replace h25_0 := h25_0.up2 st27
 refine jAi (jAh [(4, _)] ⟨rfl, trivial⟩ (jAx ?_))
 obtain rfl := Option.some.inj h
 refine ⟨[.agg [cU x3, cU x4, cU x5, cU x6, cU x7, cU x8, cU x9, cU x10, v25_0, cW x12, .int .i64 a0.Size].toArray], ⟨res_blk (cs := [cU x3, cU x4, cU x5, cU x6, cU x7, cU x8, cU x9, cU x10, v25_0, cW x12, .int .i64 a0.Size]) rfl agg78 h2, trivial⟩, Ret.mk hS ?_⟩
 exact ⟨_, rfl, (clsApiDigest (⟨(⟨x3, x4, x5, x6, x7, x8, x9, x10⟩ : St76), x26, x12, a0.Size⟩ : ApiDigest) h25_0)⟩
theorem digest_Sum_w {s : St} {cs0 : List Value} {a0 : ApiDigest} {r : (List UInt8)} (hp0 : RC s cs0 (dApiDigest a0)) (h : digest_Sum a0 = some r) : Calls Tryz.prog 48 #[.agg cs0.toArray] s.w (Ret s K0 (fun s1 v => ∃ (u0 : Value), v = u0 ∧ R s1 u0 (.sl 1 (r.map bD)))) := by
 unfold digest_Sum at h
 obtain ⟨q0_0, rfl, hq0_0⟩ := opnApiDigest hp0
 have hS := Step.r0 K0 s
 refine k_fn (rs := [2]) (args := [.agg #[cU a0.H.e0, cU a0.H.e1, cU a0.H.e2, cU a0.H.e3, cU a0.H.e4, cU a0.H.e5, cU a0.H.e6, cU a0.H.e7, q0_0, cW a0.N, .int .i64 a0.Size]]) Tryz.func48 rfl rfl rfl rfl (jAg (jAa (jCp rfl rfl ?_)))
 intro s1 b1 st1 h1 ge1
 have := st1.size
 have hS := hS.trans0 st1
 replace hq0_0 := hq0_0.up2 st1
 have lt1 := h1.lt
 refine jAd rfl rfl (jAi (jAh [(1, _), (2, _)] ⟨rfl, rfl, trivial⟩ (jAg (jAa (jAs (cs := [cU a0.H.e0, cU a0.H.e1, cU a0.H.e2, cU a0.H.e3, cU a0.H.e4, cU a0.H.e5, cU a0.H.e6, cU a0.H.e7, q0_0, cW a0.N, .int .i64 a0.Size]) agg78 rfl h1 rfl ?_)))))
 obtain ⟨x1, hx1, h⟩ := ob h
 refine jAp cal47 rfl (digest_Write_w  (clsApiDigest a0 hq0_0) (show R s1 (.slice none 0 0) (.sl 1 (([]).map bD)) from (R.of_SL (.inl ⟨rfl, none, 0, rfl, fun _ => rfl⟩))) hx1) rfl ?_
 rintro s2 vr2 st2 ⟨cs2_0, rfl, h2_0⟩
 have := st2.size
 have hS := hS.trans0 st2
 replace h1 := h1.up2 st2
 obtain ⟨q2_0_0, rfl, hq2_0_0⟩ := opnApiDigest h2_0
 refine jAo (cs' := [cU x1.H.e0, cU x1.H.e1, cU x1.H.e2, cU x1.H.e3, cU x1.H.e4, cU x1.H.e5, cU x1.H.e6, cU x1.H.e7, q2_0_0, cW x1.N, .int .i64 x1.Size]) size78 rfl rfl h1 lz (CellsOf.lit (vs := [cU x1.H.e0, cU x1.H.e1, cU x1.H.e2, cU x1.H.e3, cU x1.H.e4, cU x1.H.e5, cU x1.H.e6, cU x1.H.e7, q2_0_0, cW x1.N, .int .i64 x1.Size]) rfl (ones.cons rfl (ones.cons rfl (ones.cons rfl (ones.cons rfl (ones.cons rfl (ones.cons rfl (ones.cons rfl (ones.cons rfl (ones.cons ((SL.of_R hq2_0_0)).one1 (ones.cons rfl (ones.cons rfl ones.nil)))))))))))) rfl lq rfl ?_
 intro s3 st3 h1
 have := st3.size
 have hS := hS.c0 st3
 replace hq2_0_0 := hq2_0_0.up2 st3
 refine jAi (jAh [(1, _), (2, _)] ⟨rfl, rfl, trivial⟩ (jAg (jAg (jAa (jAf fld78_3 rfl rfl (jAj one3 rfl h1 rfl rfl ?_))))))
 obtain ⟨x2, hx2, h⟩ := ob h
 refine jAp cal71 rfl (digest_sized_w   hx2) rfl ?_
 rintro s4 vr4 st4 rfl
 have := st4.size
 have hS := hS.trans0 st4
 replace hq2_0_0 := hq2_0_0.up2 st4
 replace h1 := h1.up2 st4
 refine jDd rfl rfl (jAi (jAh [(1, _), (2, _), (12, _)] ⟨rfl, rfl, rfl, trivial⟩ (jCk rfl (fun c5 => ?_) (fun c5 => ?_))))
 ·
  have h := ibT h c5
  refine jAg (jAa (jAd rfl rfl (jAi (jAh [(1, _), (2, _)] ⟨rfl, rfl, trivial⟩ (jAx ?_)))))
  obtain rfl := Option.some.inj h
  refine ⟨_, rfl, Ret.mk hS ?_⟩
  exact ⟨_, rfl, (R.of_SL (.inl ⟨rfl, none, 0, rfl, fun _ => rfl⟩))⟩
 have h := ibF h c5
 refine jAv (jAg (jAa (jBj zero103 rfl ?_)))
 intro s6 b6 st6 h6 ge6
 have := st6.size
 have hS := hS.trans0 st6
 replace hq2_0_0 := hq2_0_0.up2 st6
 replace h1 := h1.up2 st6
 have lt6 := h6.lt
 refine jAi (jAh [(1, _), (2, _), (3, _)] ⟨rfl, rfl, rfl, trivial⟩ (jAg (jBl (KN s6.n) 3 (.read 1 (.read 2 (.alt 0 .fin .no))) mixed lw rfl rfl rfl ?_)))
 intro s7 st7
 have := st7.size
 have hS := hS.trans0 st7
 replace hq2_0_0 := hq2_0_0.up2 st7
 replace h1 := h1.up2 st7
 replace h6 := h6.up2 st7
 refine jAb (.pointer (some ⟨b1, 8, none⟩)) rfl rfl (fun s8 st8 => ?_) ?_
 ·exact jAf fld78_1 rfl rfl (jAe)
 refine jAb (q2_0_0) rfl rfl (fun s9 st9 => ?_) ?_
 ·try replace h1 := h1.up2 st9
  exact jAj one43 rfl h1 rfl rfl (jAe)
 refine jBa rfl rfl ?_
 have hA10 := Step.r0 (KN s6.n) s7
 refine jBt (g := bD) (i := 0) (j := 64) (pre := []) (post := []) (xs := (List.replicate 64 (0 : UInt8))) cB (fun _ => rfl) (fun _ => rfl) arr103 rfl h6.tl rfl (List.length_replicate) CutAt.none CutAt.none (by decide) (by decide) (by decide) rfl ?_
 intro h11
 replace h11 : SL s7 ⟨b6 + 1, 0⟩ (.slice (some ⟨b6, 0 + 0, none⟩) (64 - 0) (64 - 0)) 1 ((List.replicate 64 (0 : UInt8)).map bD) := by have hq : (List.replicate 64 (0 : UInt8)).length = 64 := (List.length_replicate); have ht : ((List.replicate 64 (0 : UInt8)).drop 0).take (64 - 0) = (List.replicate 64 (0 : UInt8)) := (by rw [List.drop_zero]; exact List.take_of_length_le (by omega)); rw [ht] at h11; exact h11
 refine jAt hA10 (jBg (jDf (i := 0) (j := 64) (q := 64) (g := bD) cB (fun _ => rfl) (fun _ => rfl) (pre := []) (post := []) (xs := (List.replicate 64 (0 : UInt8))) (ys := x1.Rest) elem43 rfl rfl h6.tl lz rfl (List.length_replicate) (by decide) (by decide) (SL.of_R hq2_0_0) rfl ?_))
 intro s12 st12 h6
 replace h6 := h6.tl'
 have hl12 : (cpyAt (List.replicate 64 (0 : UInt8)) 0 64 x1.Rest).length = 64 := cpyAt_len (List.length_replicate) (by decide) (by decide)
 have := st12.size
 have hS := hS.c0 st12
 replace hq2_0_0 := hq2_0_0.up2 st12
 replace h1 := h1.up2 st12
 refine jAi (jAh [(1, _), (2, _), (3, _)] ⟨rfl, rfl, rfl, trivial⟩ (jAg ?_))
 obtain ⟨kj3, hK13, h⟩ := jn_out h
 have hE13 := Step.r0 K0 s12
 refine jBp (X := St × Nat × UInt32 × UInt32 × UInt32 × UInt32 × UInt32 × UInt32 × UInt32 × UInt32) [(1, pZ b1), (2, .slice none 0 0)] (fun (xL : St × Nat × UInt32 × UInt32 × UInt32 × UInt32 × UInt32 × UInt32 × UInt32 × UInt32) => match xL with | (sl, bv14, x4, x5, x6, x7, x8, x9, x10, x11) => [(4, pZ bv14)]) (fun (xL : St × Nat × UInt32 × UInt32 × UInt32 × UInt32 × UInt32 × UInt32 × UInt32 × UInt32) (wL : World) => match xL with | (sl, bv14, x4, x5, x6, x7, x8, x9, x10, x11) => sl.w = wL ∧ Step K0 s12 sl ∧ (Blk sl bv14 ⟨bv14 + 1, 0⟩ [cU x4, cU x5, cU x6, cU x7, cU x8, cU x9, cU x10, cU x11] 76) ∧ (s12.n ≤ bv14) ∧ kj3 x4 x5 x6 x7 x8 x9 x10 x11 = some r) ?_ ?_
 ·
  obtain ⟨x12, hx12, h⟩ := ob h
  refine jBl (KN s12.n) 12 (.read 0 (.read 1 (.read 3 (.read 4 (.read 5 (.read 6 (.read 7 (.read 8 (.read 9 (.alt 2 (.alt 10 (.alt 11 .fin .no) (.alt 11 (.alt 10 .fin .no) .no)) (.alt 11 (.alt 2 (.alt 10 .fin .no) .no) .no))))))))))) mixed lw rfl rfl rfl ?_
  intro s15 st15
  have := st15.size
  have hS := hS.trans0 st15
  have hE13 := hE13.trans0 st15
  replace hq2_0_0 := hq2_0_0.up2 st15
  replace h1 := h1.up2 st15
  replace h6 := h6.up2 st15
  refine jAb (pZ b1) rfl rfl (fun s16 st16 => ?_) ?_
  ·exact jAf fld78_0 rfl rfl (jAe)
  refine jAb (.agg (a8 x1.H).toArray) rfl rfl (fun s17 st17 => ?_) ?_
  ·try replace h1 := h1.up2 st17
   exact jDb (cs' := (a8 x1.H)) agg76 rfl h1 rfl rfl rfl (jAe)
  refine jAb (.pointer (some ⟨b1, 9, none⟩)) rfl rfl (fun s18 st18 => ?_) ?_
  ·exact jAf fld78_2 rfl rfl (jAe)
  refine jAb (cW x1.N) rfl rfl (fun s19 st19 => ?_) ?_
  ·try replace h1 := h1.up2 st19
   exact jAj one22 rfl h1 rfl rfl (jAe)
  refine jAb (.pointer (some ⟨b1, 8, none⟩)) rfl rfl (fun s20 st20 => ?_) ?_
  ·exact jAf fld78_1 rfl rfl (jAe)
  refine jAb (q2_0_0) rfl rfl (fun s21 st21 => ?_) ?_
  ·try replace h1 := h1.up2 st21
   exact jAj one43 rfl h1 rfl rfl (jAe)
  refine jAb (.int .i64 (x1.Rest.length : Int)) rfl rfl (fun s22 st22 => ?_) ?_
  ·try replace hq2_0_0 := hq2_0_0.up2 st22
   exact jCj Tryz.underlying43 rfl (SL.of_R hq2_0_0).hasLen rfl (k_as (v := .int .i64 (x1.Rest.length : Int)) (by simp only [List.length_map]) (jAe))
  refine jAb (cW (ofI64 (x1.Rest.length : Int))) rfl rfl (fun s23 st23 => ?_) ?_
  ·exact jBz (p := (x1.Rest.length : Int)) Tryz.underlying3 Tryz.underlying22 rfl rfl (k_as (congrArg (Value.int .u64) (w64 _)) (jAe))
  refine jAb (cW (ofI64 ((x1.N.toNat : Int) + ((ofI64 (x1.Rest.length : Int)).toNat : Int)))) rfl rfl (fun s24 st24 => ?_) ?_
  ·exact jBo rfl rfl rfl (k_as (congrArg (Value.int .u64) (w64 _)) (jAe))
  refine jCl rfl rfl ?_ ?_
  ·
   have hA25 := Step.r0 (KN s12.n) s15
   refine jBt (g := bD) (i := 0) (j := 64) (pre := []) (post := []) (xs := (cpyAt (List.replicate 64 (0 : UInt8)) 0 64 x1.Rest)) cB (fun _ => rfl) (fun _ => rfl) arr103 rfl h6.tl rfl hl12 CutAt.none CutAt.none (by decide) (by decide) (by decide) rfl ?_
   intro h26
   replace h26 : SL s15 ⟨b6 + 1, 0⟩ (.slice (some ⟨b6, 0 + 0, none⟩) (64 - 0) (64 - 0)) 1 ((cpyAt (List.replicate 64 (0 : UInt8)) 0 64 x1.Rest).map bD) := by have hq : (cpyAt (List.replicate 64 (0 : UInt8)) 0 64 x1.Rest).length = 64 := hl12; have ht : ((cpyAt (List.replicate 64 (0 : UInt8)) 0 64 x1.Rest).drop 0).take (64 - 0) = (cpyAt (List.replicate 64 (0 : UInt8)) 0 64 x1.Rest) := (by rw [List.drop_zero]; exact List.take_of_length_le (by omega)); rw [ht] at h26; exact h26
   refine jAt hA25 (jCl rfl rfl ?_ ?_)
   ·
    have hA27 := Step.r0 (KN s12.n) s15
    refine jAp cal74 rfl (digest_mix_w  (clsSt76 x1.H) h26 hx12) rfl ?_
    rintro s28 vr28 st28 ⟨cs28_0, rfl, h28_0⟩
    have := st28.size
    have hS := hS.trans0 st28
    have hE13 := hE13.trans0 st28
    have hA27 := hA27.trans0 st28
    obtain rfl := opnSt76 h28_0
    refine jAt hA27 (jBa rfl rfl ?_)
    have hA29 := Step.r0 (KN s12.n) s28
    refine jBj zero76 rfl ?_
    intro s30 b30 st30 h30 ge30
    have := st30.size
    have hS := hS.trans0 st30
    have hE13 := hE13.trans0 st30
    have hA29 := hA29.trans0 st30
    have lt30 := h30.lt
    refine jAt hA29 (jBg (jAo (cs' := (a8 x12)) size76 rfl rfl h30 lz (CellsOf.lit rfl rfl) rfl lq rfl ?_))
    intro s31 st31 h30
    have := st31.size
    have hS := hS.c0 st31
    have hE13 := hE13.c0 st31
    exact jAi (jAu ⟨(s31, b30, x12.e0, x12.e1, x12.e2, x12.e3, x12.e4, x12.e5, x12.e6, x12.e7), ⟨lr, trivial⟩, ⟨rfl, rfl, trivial⟩, ⟨rfl, hE13, h30, lo, h⟩⟩)
   refine jBa rfl rfl ?_
   have hA32 := Step.r0 (KN s12.n) s15
   refine jBj zero76 rfl ?_
   intro s33 b33 st33 h33 ge33
   have := st33.size
   have hS := hS.trans0 st33
   have hE13 := hE13.trans0 st33
   have hA32 := hA32.trans0 st33
   replace h26 := h26.up2 st33
   have lt33 := h33.lt
   refine jAt hA32 (jBa rfl rfl ?_)
   have hA34 := Step.r0 (KN s12.n) s33
   refine jAp cal74 rfl (digest_mix_w  (clsSt76 x1.H) h26 hx12) rfl ?_
   rintro s35 vr35 st35 ⟨cs35_0, rfl, h35_0⟩
   have := st35.size
   have hS := hS.trans0 st35
   have hE13 := hE13.trans0 st35
   have hA34 := hA34.trans0 st35
   replace h33 := h33.up2 st35
   obtain rfl := opnSt76 h35_0
   refine jAt hA34 (jBg (jAo (cs' := (a8 x12)) size76 rfl rfl h33 lz (CellsOf.lit rfl rfl) rfl lq rfl ?_))
   intro s36 st36 h33
   have := st36.size
   have hS := hS.c0 st36
   have hE13 := hE13.c0 st36
   exact jAi (jAu ⟨(s36, b33, x12.e0, x12.e1, x12.e2, x12.e3, x12.e4, x12.e5, x12.e6, x12.e7), ⟨lr, trivial⟩, ⟨rfl, rfl, trivial⟩, ⟨rfl, hE13, h33, lo, h⟩⟩)
  refine jBa rfl rfl ?_
  have hA37 := Step.r0 (KN s12.n) s15
  refine jBj zero76 rfl ?_
  intro s38 b38 st38 h38 ge38
  have := st38.size
  have hS := hS.trans0 st38
  have hE13 := hE13.trans0 st38
  have hA37 := hA37.trans0 st38
  replace h6 := h6.up2 st38
  have lt38 := h38.lt
  refine jAt hA37 (jBa rfl rfl ?_)
  have hA39 := Step.r0 (KN s12.n) s38
  refine jBt (g := bD) (i := 0) (j := 64) (pre := []) (post := []) (xs := (cpyAt (List.replicate 64 (0 : UInt8)) 0 64 x1.Rest)) cB (fun _ => rfl) (fun _ => rfl) arr103 rfl h6.tl rfl hl12 CutAt.none CutAt.none (by decide) (by decide) (by decide) rfl ?_
  intro h40
  replace h40 : SL s38 ⟨b6 + 1, 0⟩ (.slice (some ⟨b6, 0 + 0, none⟩) (64 - 0) (64 - 0)) 1 ((cpyAt (List.replicate 64 (0 : UInt8)) 0 64 x1.Rest).map bD) := by have hq : (cpyAt (List.replicate 64 (0 : UInt8)) 0 64 x1.Rest).length = 64 := hl12; have ht : ((cpyAt (List.replicate 64 (0 : UInt8)) 0 64 x1.Rest).drop 0).take (64 - 0) = (cpyAt (List.replicate 64 (0 : UInt8)) 0 64 x1.Rest) := (by rw [List.drop_zero]; exact List.take_of_length_le (by omega)); rw [ht] at h40; exact h40
  refine jAt hA39 (jBa rfl rfl ?_)
  have hA41 := Step.r0 (KN s12.n) s38
  refine jAp cal74 rfl (digest_mix_w  (clsSt76 x1.H) h40 hx12) rfl ?_
  rintro s42 vr42 st42 ⟨cs42_0, rfl, h42_0⟩
  have := st42.size
  have hS := hS.trans0 st42
  have hE13 := hE13.trans0 st42
  have hA41 := hA41.trans0 st42
  replace h38 := h38.up2 st42
  obtain rfl := opnSt76 h42_0
  refine jAt hA41 (jBg (jAo (cs' := (a8 x12)) size76 rfl rfl h38 lz (CellsOf.lit rfl rfl) rfl lq rfl ?_))
  intro s43 st43 h38
  have := st43.size
  have hS := hS.c0 st43
  have hE13 := hE13.c0 st43
  exact jAi (jAu ⟨(s43, b38, x12.e0, x12.e1, x12.e2, x12.e3, x12.e4, x12.e5, x12.e6, x12.e7), ⟨lr, trivial⟩, ⟨rfl, rfl, trivial⟩, ⟨rfl, hE13, h38, lo, h⟩⟩)
 rintro ⟨s44, bv14, x4, x5, x6, x7, x8, x9, x10, x11⟩ wL ⟨rfl, hE13, h14, hd14, h⟩
 have lth14 := h14.lt
 rw [hK13] at h
 have := hE13.size
 have hS := hS.trans0 hE13
 replace h1 := h1.up2 hE13
 refine jAg (jAa (jAd rfl rfl (jAi (jAg ?_))))
 obtain ⟨kj13, hK45, h⟩ := jn_out h
 have hE45 := Step.r0 K0 s44
 refine jBp (X := St × (List UInt8) × Value) [(2, .slice none 0 0)] (fun (xL : St × (List UInt8) × Value) => match xL with | (sl, x14, v46) => [(5, v46)]) (fun (xL : St × (List UInt8) × Value) (wL : World) => match xL with | (sl, x14, v46) => sl.w = wL ∧ Step K0 s44 sl ∧ (Own sl ⟨s44.n + 1, 3005⟩ 5 1 v46 (x14.map bD)) ∧ kj13 x14 = some r) ?_ ?_
 ·
  refine jAg (jAa (jAf fld78_3 rfl rfl (jAj one3 rfl h1 rfl rfl (jAc rfl rfl (jAi (jAh [(2, _), (4, _), (5, _), (29, _), (30, _)] ⟨rfl, rfl, rfl, rfl, rfl, trivial⟩ (jAw ?_)))))))
  have h47 : Own s44 ⟨s44.n + 1, 3005⟩ 5 1 (.slice none 0 0) (([] : List UInt8).map bD) := Own.nil lz lz
  refine jBr (X := St × (List UInt8) × Value × Int × Nat) [(2, _), (4, _), (29, _)] (fun (xL : St × (List UInt8) × Value × Int × Nat) => match xL with | (sl, x15, v49, x16, j) => [(5, v49), (30, .int .i64 x16)]) (fun (xL : St × (List UInt8) × Value × Int × Nat) (wL : World) => match xL with | (sl, x15, v49, x16, j) => sl.w = wL ∧ Step (KC (s44.n + 1) 3005) s44 sl ∧ (Own sl ⟨s44.n + 1, 3005⟩ 5 1 v49 (x15.map bD)) ∧ digest_Sum_l1 x1 x4 x5 x6 x7 x8 x9 x10 x11 kj13 j x15 x16 = some r) (fun (xL : St × (List UInt8) × Value × Int × Nat) => match xL with | (sl, x15, v49, x16, j) => j) (s44, [], (.slice none 0 0), 0, FU) ⟨rfl, rfl, rfl, trivial⟩ ⟨lr, lr, trivial⟩ ⟨rfl, (Step.refl _).of0 li, h47, h⟩ ?_
  rintro ⟨s50, x15, v49, x16, j⟩ wL ⟨rfl, hE48, h49, h⟩
  cases j with
  | zero => rw [digest_Sum_l1] at h; exact (noneNe h).elim
  | succ j =>
  rw [digest_Sum_l1] at h
  have := hE48.size
  have hS := hS.c0 hE48
  have hE45 := hE45.c0 hE48
  replace h14 := h14.up2 hE48
  refine jAg (jAa (jBw rfl rfl rfl (jAi (jAg (jAl rfl (fun c51 => ?_) (fun c51 => ?_))))))
  ·
   have h := itT h c51
   refine jAv (jAg (jAw (jAg (jAa (jAc rfl rfl (jAd rfl rfl (jAi (jAh [(2, _), (4, _), (5, _), (6, _), (29, _), (30, _)] ⟨rfl, rfl, rfl, rfl, rfl, rfl, trivial⟩ (jAa (jAc rfl rfl (jAc rfl rfl (k_quo rfl rfl (by decide) rfl ?_))))))))))))
   obtain ⟨x17, hx17, h⟩ := ob h
   refine jBx (m := 0) (xs := ([x4, x5, x6, x7, x8, x9, x10, x11] : List UInt32)) arr76 rfl rfl rfl hx17 rfl ?_
   obtain ⟨x18, hx18, h⟩ := ob h
   refine jCo cU (pre := []) (post := []) (xs := ([x4, x5, x6, x7, x8, x9, x10, x11] : List UInt32)) one75 rfl h14 rfl hx18 rfl (jAc rfl rfl (k_rem rfl rfl (by decide) rfl (jDi rfl rfl rfl ?_)))
   by_cases c52 : 0 ≤ i64 (8 * (x16.tmod 4))
   case neg => exact (noneNe (itF h c52)).elim
   replace h := itT h c52
   refine k_shr (p := (x18.toNat : Int)) rfl rfl c52 rfl (k_as (congrArg (Value.int .u32) (shr32_eq _ _)) (jBz (p := ((shr32 x18 (i64 (8 * (x16.tmod 4)))).toNat : Int)) Tryz.underlying75 Tryz.underlying5 rfl rfl (k_as (congrArg (Value.int .u8) (w8 _)) (k_bslice2 (ds := ([ofI8 ((shr32 x18 (i64 (8 * (x16.tmod 4)))).toNat : Int)] : List UInt8).map bD) slc43 rfl (RVs.cons (R.val rfl) RVs.nil) (by rfl) (by rfl) rfl rfl ?_))))
   intro s53 v53 b53 st53 ge53 bl53 h53
   have := st53.size
   have hS := hS.trans0 st53
   have hE45 := hE45.trans0 st53
   have hE48 := hE48.trans0 st53
   replace h49 := h49.up2 st53
   have lt53 := Own.le1 h53
   obtain ⟨x19, hx19, h⟩ := ob h
   refine k_append (es := ([ofI8 ((shr32 x18 (i64 (8 * (x16.tmod 4)))).toNat : Int)] : List UInt8).map bD) elem43 rfl rfl h49 (h53.sl) (by have := (jAm hx19).1; simp only [List.length_map] at *; omega) (by have := (jAm hx19).1; simp only [List.length_map] at *; omega) rfl ?_
   intro s54 v54 st54 h54
   rw [← List.map_append, ← (jAm hx19).2] at h54
   have := st54.size
   have hS := hS.c0 st54
   have hE45 := hE45.c0 st54
   have hE48 := hE48.c0 st54
   exact jAd rfl rfl (jAi (jCe (jAa (jBo rfl rfl rfl (jAc rfl rfl (jAi (jAu ⟨(s54, x19, v54, i64 (x16 + 1), j), ⟨lr, lr, trivial⟩, ⟨rfl, rfl, rfl, trivial⟩, ⟨rfl, hE48, h54, h⟩, (by simp)⟩)))))))
  have h := itF h c51
  exact jBq rfl (jAu ⟨(s50, x15, v49), ⟨lr, trivial⟩, ⟨rfl, trivial⟩, ⟨rfl, hE45, h49, h⟩⟩)
 rintro ⟨s55, x14, v46⟩ wL ⟨rfl, hE45, h46, h⟩
 rw [hK45] at h
 have := hE45.size
 have hS := hS.trans0 hE45
 refine jAg (jAa (jAc rfl rfl (jAd rfl rfl (jAi (jAh [(2, _)] ⟨rfl, trivial⟩ (jAx ?_))))))
 obtain ⟨s56, e56, st56, h56⟩ := h46.freeze
 rw [← e56]
 have := st56.size
 have hS := hS.c0 st56
 obtain rfl := Option.some.inj h
 refine ⟨_, rfl, Ret.mk hS ?_⟩
 exact ⟨_, rfl, h56⟩
theorem digest_Of_w {s : St} {a0 : Int} {l1 : Lab} {v1 : Value} {a1 : (List (List UInt8))} {r : ((List UInt8) × Int)} (hp1 : SL s l1 v1 1 (a1.map (dL 1 bD))) (h : digest_Of a0 a1 = some r) : Calls Tryz.prog 30 #[.int .i64 a0, v1] s.w (Ret s K0 (fun s1 v => ∃ (u0 : Value), v = .tuple #[u0, .int .i64 r.2] ∧ R s1 u0 (.sl 1 (r.1.map bD)))) := by
 unfold digest_Of at h
 obtain ⟨lf1, lf1le, lf1ne, hp1⟩ := hp1.fix
 have hS := Step.r0 K0 s
 refine k_fn (rs := [4, 5]) (args := [.int .i64 a0, v1]) Tryz.func30 rfl rfl rfl rfl (jAg (jAa (jAd rfl rfl (jAd rfl rfl (jAi (jAg (jAa (jAc rfl rfl ?_))))))))
 obtain ⟨x1, hx1, h⟩ := ob h
 refine jAp cal46 rfl (digest_Begin_w   hx1) rfl ?_
 rintro s1 vr1 st1 ⟨cs1_0, rfl, h1_0⟩
 have := st1.size
 have hS := hS.trans0 st1
 replace hp1 := hp1.up2 st1
 obtain ⟨q1_0_0, rfl, hq1_0_0⟩ := opnApiDigest h1_0
 refine jAc rfl rfl (jBd rfl rfl rfl (jBd rfl rfl rfl (jBj zero78 rfl ?_)))
 intro s2 b2 st2 h2 ge2
 have := st2.size
 have hS := hS.trans0 st2
 replace hp1 := hp1.up2 st2
 replace hq1_0_0 := hq1_0_0.up2 st2
 have lt2 := h2.lt
 refine jAo (cs' := [cU x1.1.H.e0, cU x1.1.H.e1, cU x1.1.H.e2, cU x1.1.H.e3, cU x1.1.H.e4, cU x1.1.H.e5, cU x1.1.H.e6, cU x1.1.H.e7, q1_0_0, cW x1.1.N, .int .i64 x1.1.Size]) size78 rfl rfl h2 lz (CellsOf.lit (vs := [cU x1.1.H.e0, cU x1.1.H.e1, cU x1.1.H.e2, cU x1.1.H.e3, cU x1.1.H.e4, cU x1.1.H.e5, cU x1.1.H.e6, cU x1.1.H.e7, q1_0_0, cW x1.1.N, .int .i64 x1.1.Size]) rfl (ones.cons rfl (ones.cons rfl (ones.cons rfl (ones.cons rfl (ones.cons rfl (ones.cons rfl (ones.cons rfl (ones.cons rfl (ones.cons ((SL.of_R hq1_0_0)).one1 (ones.cons rfl (ones.cons rfl ones.nil)))))))))))) rfl lq rfl ?_
 intro s3 st3 h2
 have := st3.size
 have hS := hS.c0 st3
 replace hp1 := hp1.up2 st3
 replace hq1_0_0 := hq1_0_0.up2 st3
 refine jAd rfl rfl (jAi (jAh [(1, _), (4, _), (5, _), (6, _), (7, _)] ⟨rfl, rfl, rfl, rfl, rfl, trivial⟩ (jAg (jAg (jAa (jAc rfl rfl (jDe rfl rfl rfl (jAi (jAh [(1, _), (4, _), (5, _), (6, _), (7, _), (16, _)] ⟨rfl, rfl, rfl, rfl, rfl, rfl, trivial⟩ (jAl rfl (fun c4 => ?_) (fun c4 => ?_)))))))))))
 ·
  have h := itT h c4
  refine jAg (jAa (jAc rfl rfl (jAd rfl rfl (jAd rfl rfl (jAi (jAh [(1, _), (4, _), (5, _), (6, _)] ⟨rfl, rfl, rfl, rfl, trivial⟩ (jAx ?_)))))))
  obtain rfl := Option.some.inj h
  refine ⟨_, rfl, Ret.mk hS ?_⟩
  exact ⟨_, rfl, (R.of_SL (.inl ⟨rfl, none, 0, rfl, fun _ => rfl⟩))⟩
 have h := itF h c4
 refine jAv (jAg (jAh [(1, _), (4, _), (5, _), (6, _)] ⟨rfl, rfl, rfl, rfl, trivial⟩ ?_))
 obtain ⟨kj2, hK5, h⟩ := jn_out h
 have hE5 := Step.r0 (KC (b2 + 1) 0) s3
 refine jBp (X := St × UInt32 × UInt32 × UInt32 × UInt32 × UInt32 × UInt32 × UInt32 × UInt32 × (List UInt8) × Value × UInt64 × Int) [(4, .slice none 0 0), (5, .int .i64 0), (6, pZ b2)] (fun (xL : St × UInt32 × UInt32 × UInt32 × UInt32 × UInt32 × UInt32 × UInt32 × UInt32 × (List UInt8) × Value × UInt64 × Int) => match xL with | (sl, x3, x4, x5, x6, x7, x8, x9, x10, x11, v6, x12, x13) => []) (fun (xL : St × UInt32 × UInt32 × UInt32 × UInt32 × UInt32 × UInt32 × UInt32 × UInt32 × (List UInt8) × Value × UInt64 × Int) (wL : World) => match xL with | (sl, x3, x4, x5, x6, x7, x8, x9, x10, x11, v6, x12, x13) => sl.w = wL ∧ Step (KC (b2 + 1) 0) s3 sl ∧ (R sl v6 (.sl 1 (x11.map bD))) ∧ (Blk sl b2 ⟨b2 + 1, 0⟩ [cU x3, cU x4, cU x5, cU x6, cU x7, cU x8, cU x9, cU x10, v6, cW x12, .int .i64 x13] 78) ∧ kj2 x3 x4 x5 x6 x7 x8 x9 x10 x11 x12 x13 = some r) ?_ ?_
 ·
  refine jAg (jAa (jAc rfl rfl (jCj Tryz.underlying62 rfl hp1.hasLen rfl (k_as (v := .int .i64 (a1.length : Int)) (by simp only [List.length_map]) (jAc rfl rfl (jAi (jAh [(4, _), (5, _), (6, _), (18, _), (19, _), (20, _)] ⟨rfl, rfl, rfl, rfl, rfl, rfl, trivial⟩ (jAw (jBr (X := St × Int × UInt32 × UInt32 × UInt32 × UInt32 × UInt32 × UInt32 × UInt32 × UInt32 × (List UInt8) × Value × UInt64 × Int × Nat) [(4, _), (5, _), (6, _), (18, _), (19, _)] (fun (xL : St × Int × UInt32 × UInt32 × UInt32 × UInt32 × UInt32 × UInt32 × UInt32 × UInt32 × (List UInt8) × Value × UInt64 × Int × Nat) => match xL with | (sl, x14, x15, x16, x17, x18, x19, x20, x21, x22, x23, v8, x24, x25, j) => [(20, .int .i64 x14)]) (fun (xL : St × Int × UInt32 × UInt32 × UInt32 × UInt32 × UInt32 × UInt32 × UInt32 × UInt32 × (List UInt8) × Value × UInt64 × Int × Nat) (wL : World) => match xL with | (sl, x14, x15, x16, x17, x18, x19, x20, x21, x22, x23, v8, x24, x25, j) => sl.w = wL ∧ Step (KC (b2 + 1) 0) s3 sl ∧ (R sl v8 (.sl 1 (x23.map bD))) ∧ (Blk sl b2 ⟨b2 + 1, 0⟩ [cU x15, cU x16, cU x17, cU x18, cU x19, cU x20, cU x21, cU x22, v8, cW x24, .int .i64 x25] 78) ∧ digest_Of_l1 a1 kj2 j x14 x15 x16 x17 x18 x19 x20 x21 x22 x23 x24 x25 = some r) (fun (xL : St × Int × UInt32 × UInt32 × UInt32 × UInt32 × UInt32 × UInt32 × UInt32 × UInt32 × (List UInt8) × Value × UInt64 × Int × Nat) => match xL with | (sl, x14, x15, x16, x17, x18, x19, x20, x21, x22, x23, v8, x24, x25, j) => j) (s3, 0, x1.1.H.e0, x1.1.H.e1, x1.1.H.e2, x1.1.H.e3, x1.1.H.e4, x1.1.H.e5, x1.1.H.e6, x1.1.H.e7, x1.1.Rest, q1_0_0, x1.1.N, x1.1.Size, FU) ⟨rfl, rfl, rfl, rfl, rfl, trivial⟩ ⟨lr, trivial⟩ ⟨rfl, (Step.refl _).of0 li, hq1_0_0, h2, h⟩ ?_)))))))))
  rintro ⟨s9, x14, x15, x16, x17, x18, x19, x20, x21, x22, x23, v8, x24, x25, j⟩ wL ⟨rfl, hE7, h8, h2, h⟩
  cases j with
  | zero => rw [digest_Of_l1] at h; exact (noneNe h).elim
  | succ j =>
  rw [digest_Of_l1] at h
  have := hE7.size
  have hS := hS.c0 hE7
  have hE5 := hE5.c0 hE7
  replace hp1 := hp1.up2 hE7
  refine jAg (jAa (jBw rfl rfl rfl (jAi (jAg (jAl rfl (fun c10 => ?_) (fun c10 => ?_))))))
  ·
   have h := itT h c10
   refine jAv (jAg (jAw (jAg (jAa ?_))))
   obtain ⟨x26, hx26, h⟩ := ob h
   refine jCd Tryz.underlying62 size43 rfl rfl hp1 (jAk hx26).1 (jAr hx26) rfl ?_
   intro qx26 hqx26
   refine k_load_sl one43 rfl hqx26 rfl ?_
   intro v11 h11
   refine jAd rfl rfl (jAi (jAh [(4, _), (5, _), (6, _), (9, _), (18, _), (19, _), (20, _)] ⟨rfl, rfl, rfl, rfl, rfl, rfl, rfl, trivial⟩ (jAa (jAs (cs := [cU x15, cU x16, cU x17, cU x18, cU x19, cU x20, cU x21, cU x22, v8, cW x24, .int .i64 x25]) agg78 rfl h2 rfl (jAc rfl rfl ?_)))))
   obtain ⟨x27, hx27, h⟩ := ob h
   refine jAp cal47 rfl (digest_Write_w  (clsApiDigest (⟨(⟨x15, x16, x17, x18, x19, x20, x21, x22⟩ : St76), x23, x24, x25⟩ : ApiDigest) h8) (show R s9 v11 (.sl 1 (x26.map bD)) from h11) hx27) rfl ?_
   rintro s12 vr12 st12 ⟨cs12_0, rfl, h12_0⟩
   have := st12.size
   have hS := hS.trans0 st12
   have hE5 := hE5.trans0 st12
   have hE7 := hE7.trans0 st12
   replace h2 := h2.up2 st12
   obtain ⟨q12_0_0, rfl, hq12_0_0⟩ := opnApiDigest h12_0
   refine jAo (cs' := [cU x27.H.e0, cU x27.H.e1, cU x27.H.e2, cU x27.H.e3, cU x27.H.e4, cU x27.H.e5, cU x27.H.e6, cU x27.H.e7, q12_0_0, cW x27.N, .int .i64 x27.Size]) size78 rfl rfl h2 lz (CellsOf.lit (vs := [cU x27.H.e0, cU x27.H.e1, cU x27.H.e2, cU x27.H.e3, cU x27.H.e4, cU x27.H.e5, cU x27.H.e6, cU x27.H.e7, q12_0_0, cW x27.N, .int .i64 x27.Size]) rfl (ones.cons rfl (ones.cons rfl (ones.cons rfl (ones.cons rfl (ones.cons rfl (ones.cons rfl (ones.cons rfl (ones.cons rfl (ones.cons ((SL.of_R hq12_0_0)).one1 (ones.cons rfl (ones.cons rfl ones.nil)))))))))))) rfl lq rfl ?_
   intro s13 st13 h2
   have := st13.size
   have hS := hS.c0 st13
   have hE5 := hE5.c0 st13
   have hE7 := hE7.c0 st13
   replace hq12_0_0 := hq12_0_0.up2 st13
   exact jAi (jCe (jAa (jBo rfl rfl rfl (jAc rfl rfl (jAi (jAu ⟨(s13, i64 (x14 + 1), x27.H.e0, x27.H.e1, x27.H.e2, x27.H.e3, x27.H.e4, x27.H.e5, x27.H.e6, x27.H.e7, x27.Rest, q12_0_0, x27.N, x27.Size, j), ⟨lr, trivial⟩, ⟨rfl, rfl, rfl, rfl, rfl, trivial⟩, ⟨rfl, hE7, hq12_0_0, h2, h⟩, (by simp)⟩))))))
  have h := itF h c10
  exact jBq rfl (jAu ⟨(s9, x15, x16, x17, x18, x19, x20, x21, x22, x23, v8, x24, x25), trivial, ⟨rfl, rfl, rfl, trivial⟩, ⟨rfl, hE5, h8, h2, h⟩⟩)
 rintro ⟨s14, x3, x4, x5, x6, x7, x8, x9, x10, x11, v6, x12, x13⟩ wL ⟨rfl, hE5, h6, h2, h⟩
 rw [hK5] at h
 have := hE5.size
 have hS := hS.c0 hE5
 refine jAg (jAa (jAs (cs := [cU x3, cU x4, cU x5, cU x6, cU x7, cU x8, cU x9, cU x10, v6, cW x12, .int .i64 x13]) agg78 rfl h2 rfl ?_))
 obtain ⟨x28, hx28, h⟩ := ob h
 refine jAp cal48 rfl (digest_Sum_w  (clsApiDigest (⟨(⟨x3, x4, x5, x6, x7, x8, x9, x10⟩ : St76), x11, x12, x13⟩ : ApiDigest) h6) hx28) rfl ?_
 rintro s15 v15_0 st15 ⟨_, rfl, h15_0⟩
 have := st15.size
 have hS := hS.trans0 st15
 refine jAd rfl rfl (jAd rfl rfl (jAi (jAh [(4, _), (5, _)] ⟨rfl, rfl, trivial⟩ (jAx ?_))))
 obtain rfl := Option.some.inj h
 refine ⟨_, rfl, Ret.mk hS ?_⟩
 exact ⟨_, rfl, h15_0⟩
theorem digest_Short_w {s : St} {l0 : Lab} {v0 : Value} {a0 : (List (List UInt8))} {r : St23} (hp0 : SL s l0 v0 1 (a0.map (dL 1 bD))) (h : digest_Short a0 = some r) : Calls Tryz.prog 16 #[v0] s.w (Ret s K0 (fun s1 v => ∃ (u0 : List Value), v = .agg u0.toArray ∧ RC s1 u0 (dSt23 r))) := by
 unfold digest_Short at h
 obtain ⟨lf0, lf0le, lf0ne, hp0⟩ := hp0.fix
 have hS := Step.r0 K0 s
 refine jCy (rs := [.cell 2 23]) (args := [v0]) Tryz.func16 rfl rfl rfl rfl (jAg (jAa (jBj zero23 rfl ?_)))
 intro s1 b1 st1 h1 ge1
 have := st1.size
 have hS := hS.trans0 st1
 replace hp0 := hp0.up2 st1
 have lt1 := h1.lt
 refine jAi (jAg (jAa (jAc rfl rfl ?_)))
 obtain ⟨x1, hx1, h⟩ := ob h
 refine jAp cal30 rfl (digest_Of_w  hp0 hx1) rfl ?_
 rintro s2 vr2 st2 ⟨v2_0, rfl, h2_0⟩
 have := st2.size
 have hS := hS.trans0 st2
 replace h1 := h1.up2 st2
 refine jAc rfl rfl (jBd rfl rfl rfl (jBd rfl rfl rfl (jAd rfl rfl (jAd rfl rfl (jAi (jAh [(2, _), (3, _)] ⟨rfl, rfl, trivial⟩ (jAg (jAa (jBt (g := bD) (i := 0) (j := 16) (pre := []) (post := []) (xs := z16) cB (fun _ => rfl) (fun _ => rfl) arr23 rfl h1 rfl rfl CutAt.none CutAt.none (by decide) (by decide) (by decide) rfl ?_)))))))))
 intro h3
 replace h3 : SL s2 ⟨b1 + 1, 0⟩ (.slice (some ⟨b1, 0 + 0, none⟩) (16 - 0) (16 - 0)) 1 (z16.map bD) := h3
 refine jAc rfl rfl ?_
 obtain ⟨x2, hx2, h⟩ := ob h
 refine jDf (i := 0) (j := 16) (q := 16) (g := bD) cB (fun _ => rfl) (fun _ => rfl) (pre := []) (post := []) (xs := z16) (ys := x1.1) elem43 rfl rfl h1 lz rfl rfl (by decide) (by decide) (SL.of_R h2_0) rfl ?_
 intro s4 st4 h1
 rw [Option.some.inj hx2] at h1
 replace h1 := h1.litE (lit16 (show x2.length = 16 by rw [← Option.some.inj hx2]; exact cpyAt_len rfl (by decide) (by decide)) (0 : UInt8))
 have := st4.size
 have hS := hS.c0 st4
 refine jAi (jAh [(2, _)] ⟨rfl, trivial⟩ (jAg (jAa (jAs (cs := [cB (x2.getD 0 0), cB (x2.getD 1 0), cB (x2.getD 2 0), cB (x2.getD 3 0), cB (x2.getD 4 0), cB (x2.getD 5 0), cB (x2.getD 6 0), cB (x2.getD 7 0), cB (x2.getD 8 0), cB (x2.getD 9 0), cB (x2.getD 10 0), cB (x2.getD 11 0), cB (x2.getD 12 0), cB (x2.getD 13 0), cB (x2.getD 14 0), cB (x2.getD 15 0)]) agg23 rfl h1 rfl (jAo (cs' := [cB (x2.getD 0 0), cB (x2.getD 1 0), cB (x2.getD 2 0), cB (x2.getD 3 0), cB (x2.getD 4 0), cB (x2.getD 5 0), cB (x2.getD 6 0), cB (x2.getD 7 0), cB (x2.getD 8 0), cB (x2.getD 9 0), cB (x2.getD 10 0), cB (x2.getD 11 0), cB (x2.getD 12 0), cB (x2.getD 13 0), cB (x2.getD 14 0), cB (x2.getD 15 0)]) size23 rfl rfl h1 lz (CellsOf.lit rfl rfl) rfl lq rfl ?_)))))
 intro s5 st5 h1
 have := st5.size
 have hS := hS.c0 st5
 refine jAi (jAh [(2, _)] ⟨rfl, trivial⟩ (jAx ?_))
 obtain rfl := Option.some.inj h
 refine ⟨[.agg [cB (x2.getD 0 0), cB (x2.getD 1 0), cB (x2.getD 2 0), cB (x2.getD 3 0), cB (x2.getD 4 0), cB (x2.getD 5 0), cB (x2.getD 6 0), cB (x2.getD 7 0), cB (x2.getD 8 0), cB (x2.getD 9 0), cB (x2.getD 10 0), cB (x2.getD 11 0), cB (x2.getD 12 0), cB (x2.getD 13 0), cB (x2.getD 14 0), cB (x2.getD 15 0)].toArray], ⟨res_blk (cs := [cB (x2.getD 0 0), cB (x2.getD 1 0), cB (x2.getD 2 0), cB (x2.getD 3 0), cB (x2.getD 4 0), cB (x2.getD 5 0), cB (x2.getD 6 0), cB (x2.getD 7 0), cB (x2.getD 8 0), cB (x2.getD 9 0), cB (x2.getD 10 0), cB (x2.getD 11 0), cB (x2.getD 12 0), cB (x2.getD 13 0), cB (x2.getD 14 0), cB (x2.getD 15 0)]) rfl agg23 h1, trivial⟩, Ret.mk hS ?_⟩
 exact ⟨_, rfl, (clsSt23 (⟨(x2.getD 0 0), (x2.getD 1 0), (x2.getD 2 0), (x2.getD 3 0), (x2.getD 4 0), (x2.getD 5 0), (x2.getD 6 0), (x2.getD 7 0), (x2.getD 8 0), (x2.getD 9 0), (x2.getD 10 0), (x2.getD 11 0), (x2.getD 12 0), (x2.getD 13 0), (x2.getD 14 0), (x2.getD 15 0)⟩ : St23))⟩
end Go.Proofs
