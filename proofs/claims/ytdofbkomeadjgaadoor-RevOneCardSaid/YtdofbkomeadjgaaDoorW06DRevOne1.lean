import Derived.Test.YtdofbkomeadjgaaDoorW06DRevOne0
set_option linter.unusedSimpArgs false
set_option linter.unusedVariables false
namespace Go.Proofs
open Go.Fw
set_option maxHeartbeats 20000000 in
set_option maxRecDepth 100000 in
theorem digest_mix_w {s : St} {cs0 : List Value} {a0 : St79} {l1 : Lab} {v1 : Value} {a1 : (List UInt8)} {a2 : UInt64} {a3 : Bool} {r : St79} (hp0 : RC s cs0 (dSt79 a0)) (hp1 : SL s l1 v1 1 (a1.map bD)) (h : digest_mix a0 a1 a2 a3 = some r) : Calls Tryd.prog 68 #[.agg cs0.toArray, v1, .int .u64 (a2.toNat : Int), .bool a3] s.w (Ret s K0 (fun s1 v => ∃ (u0 : List Value), v = .agg u0.toArray ∧ RC s1 u0 (dSt79 r))) := by
 unfold digest_mix at h
 obtain rfl := opnSt79 hp0
 obtain ⟨lf1, lf1le, lf1ne, hp1⟩ := hp1.fix
 have hS := Step.r0 K0 s
 refine k_fn_m (args := [.agg #[.int .u32 (a0.e0.toNat : Int), .int .u32 (a0.e1.toNat : Int), .int .u32 (a0.e2.toNat : Int), .int .u32 (a0.e3.toNat : Int), .int .u32 (a0.e4.toNat : Int), .int .u32 (a0.e5.toNat : Int), .int .u32 (a0.e6.toNat : Int), .int .u32 (a0.e7.toNat : Int)], v1, .int .u64 (a2.toNat : Int), .bool a3]) Tryd.func68 rfl rfl ?_
 refine rk_seq ?_
 refine rk_run ?_
 refine k_region ?_
 refine k_box rfl rfl ?_
 intro s1 b1 st1 h1 ge1
 have szs1 := st1.size
 have hS := hS.trans0 st1
 replace hp1 := hp1.up2 st1
 have lt1 := h1.lt
 refine k_alloc zero79 rfl ?_
 intro s2 b2 st2 h2 ge2
 have szs2 := st2.size
 have hS := hS.trans0 st2
 replace hp1 := hp1.up2 st2
 replace h1 := h1.up2 st2
 have lt2 := h2.lt
 refine k_nil ?_
 refine k_stop ?_
 refine rk_seq ?_
 refine rk_run ?_
 refine k_region ?_
 obtain ⟨x1, hx1, h⟩ := ob h
 refine k_call cal66 rfl (digest_first_w   hx1) rfl ?_
 rintro s3 vr3 st3 ⟨cs3_0, rfl, h3_0⟩
 have szs3 := st3.size
 have hS := hS.trans0 st3
 replace hp1 := hp1.up2 st3
 replace h1 := h1.up2 st3
 replace h2 := h2.up2 st3
 obtain rfl := opnSt79 h3_0
 refine k_move rfl rfl ?_
 obtain ⟨x2, hx2, h⟩ := ob h
 refine k_call cal84 rfl (digest_words_w  hp1 hx2) rfl ?_
 rintro s4 vr4 st4 ⟨rfl, h4_0⟩
 have szs4 := st4.size
 have hS := hS.trans0 st4
 replace h1 := h1.up2 st4
 replace h2 := h2.up2 st4
 refine k_alloc zero79 rfl ?_
 intro s5 b5 st5 h5 ge5
 have szs5 := st5.size
 have hS := hS.trans0 st5
 replace h1 := h1.up2 st5
 replace h2 := h2.up2 st5
 have lt5 := h5.lt
 refine k_alloc zero118 rfl ?_
 intro s6 b6 st6 h6 ge6
 have szs6 := st6.size
 have hS := hS.trans0 st6
 replace h1 := h1.up2 st6
 replace h2 := h2.up2 st6
 replace h5 := h5.up2 st6
 have lt6 := h6.lt
 refine k_store_c (cs' := [.int .u32 (x1.e0.toNat : Int), .int .u32 (x1.e1.toNat : Int), .int .u32 (x1.e2.toNat : Int), .int .u32 (x1.e3.toNat : Int), .int .u32 (x1.e4.toNat : Int), .int .u32 (x1.e5.toNat : Int), .int .u32 (x1.e6.toNat : Int), .int .u32 (x1.e7.toNat : Int)]) size79 rfl rfl h5 (by first | (simp; done) | omega | (dsimp only; omega)) (CellsOf.lit rfl rfl) rfl (by first | rfl | (simp; done) | (simp; omega)) rfl ?_
 intro s7 st7 h5
 have szs7 := st7.size
 have hS := hS.c0 st7
 replace h1 := h1.up2 st7
 replace h2 := h2.up2 st7
 replace h6 := h6.up2 st7
 refine k_store_all (cs' := (([] : List Value) ++ x2.map cU)) size118 rfl rfl h6 (by first | (simp; done) | omega | (dsimp only; omega)) (CellsOf.lit (vs := (([] : List Value) ++ x2.map cU)) rfl (ones.arrF (f := cU) _ (fun _ => rfl) rfl)) (by first | rfl | (simp only [List.length_append, List.length_map, List.length_replicate, List.length_replicate, h4_0]; rfl)) (by first | rfl | (simp only [List.length_append, List.length_map, List.length_replicate, List.length_replicate, h4_0]; rfl)) ?_
 intro s8 st8 h6
 have szs8 := st8.size
 have hS := hS.c0 st8
 replace h1 := h1.up2 st8
 replace h2 := h2.up2 st8
 replace h5 := h5.up2 st8
 refine k_nil ?_
 refine k_stop ?_
 refine rk_seq ?_
 refine rk_run ?_
 refine k_region ?_
 refine k_alloc zero118 rfl ?_
 intro s9 b9 st9 h9 ge9
 have szs9 := st9.size
 have hS := hS.trans0 st9
 replace h1 := h1.up2 st9
 replace h2 := h2.up2 st9
 replace h5 := h5.up2 st9
 replace h6 := h6.up2 st9
 have lt9 := h9.lt
 refine k_nil ?_
 refine k_stop ?_
 refine rk_seq ?_
 refine rk_run ?_
 obtain ⟨kj3, hK10, h⟩ := jn_out h
 have hE10 := Step.r0 (KC (b9 + 1) 0) s9
 refine k_cutr (X := St × (List UInt32)) [(2, .int .u64 (a2.toNat : Int)), (3, .bool a3), (4, .pointer (some ⟨b1, 0, none⟩)), (8, .pointer (some ⟨b2, 0, none⟩)), (9, .pointer (some ⟨b5, 0, none⟩)), (10, .pointer (some ⟨b6, 0, none⟩)), (11, .pointer (some ⟨b9, 0, none⟩))] (fun (xL : St × (List UInt32)) => match xL with | (sl, x4) => []) (fun (xL : St × (List UInt32)) (wL : World) => match xL with | (sl, x4) => sl.w = wL ∧ Step (KC (b9 + 1) 0) s9 sl ∧ (x4.length = 16) ∧ (Blk sl b9 ⟨b9 + 1, 0⟩ (([] : List Value) ++ x4.map cU) 118) ∧ kj3 x4 = some r) ?_ ?_
 ·
  refine k_drawT (KN s9.n) 2 (.alt 0 (.alt 1 .fin .no) (.alt 1 (.alt 0 .fin .no) .no)) mixed (by intro c h; (try simp only [KC, KO, KU, KN, KB] at h) <;> omega) rfl rfl rfl ?_
  intro s12 st12
  have szs12 := st12.size
  have hS := hS.trans0 st12
  have hE10 := hE10.trans0 st12
  replace h1 := h1.up2 st12
  replace h9 := h9.up2 st12
  refine rt_alt rfl rfl ?_ ?_
  ·
   have hA13 := Step.r0 (KN s9.n) s12
   refine k_cut_pt (g := dU32) (i := 0) (j := 8) (pre := []) (post := []) (xs := (List.replicate 16 (0 : UInt32))) cU (fun _ => rfl) (fun _ => rfl) arr118 rfl h9.tl rfl (List.length_replicate) CutAt.none (CutAt.nat rfl) (by decide) (by decide) (by decide) rfl ?_
   intro h14
   replace h14 : SL s12 ⟨b9 + 1, 0⟩ (.slice (some ⟨b9, 0 + 0, none⟩) (8 - 0) (16 - 0)) 1 ((((List.replicate 16 (0 : UInt32)).drop 0).take (8 - 0)).map dU32) := h14
   refine rt_cont hA13 ?_
   refine rt_act rfl rfl ?_
   have hA15 := Step.r0 (KN s9.n) s12
   refine k_cut_pt (g := dU32) (i := 0) (j := 8) (pre := []) (post := []) (xs := ([a0.e0, a0.e1, a0.e2, a0.e3, a0.e4, a0.e5, a0.e6, a0.e7] : List UInt32)) cU (fun _ => rfl) (fun _ => rfl) arr79 rfl h1 rfl rfl CutAt.none CutAt.none (by decide) (by decide) (by decide) rfl ?_
   intro h16
   replace h16 : SL s12 ⟨b1 + 1, 0⟩ (.slice (some ⟨b1, 0 + 0, none⟩) (8 - 0) (8 - 0)) 1 (([a0.e0, a0.e1, a0.e2, a0.e3, a0.e4, a0.e5, a0.e6, a0.e7] : List UInt32).map dU32) := h16
   refine rt_cont hA15 ?_
   refine rt_fin ?_
   refine k_copyA (i := 0) (j := 8) (q := 16) (g := dU32) cU (fun _ => rfl) (fun _ => rfl) (pre := []) (post := []) (xs := (List.replicate 16 (0 : UInt32))) (ys := ([a0.e0, a0.e1, a0.e2, a0.e3, a0.e4, a0.e5, a0.e6, a0.e7] : List UInt32)) elem120 rfl rfl h9.tl (by first | (simp; done) | omega | (dsimp only; omega)) rfl (List.length_replicate) (by decide) (by decide) h16 rfl ?_
   intro s17 st17 h9
   replace h9 := h9.tl'
   have hl17 : (cpyAt (List.replicate 16 (0 : UInt32)) 0 8 ([a0.e0, a0.e1, a0.e2, a0.e3, a0.e4, a0.e5, a0.e6, a0.e7] : List UInt32)).length = 16 := cpyAt_len (List.length_replicate) (by decide) (by decide)
   have szs17 := st17.size
   have hS := hS.c0 st17
   have hE10 := hE10.c0 st17
   refine k_nil ?_
   exact k_stop ⟨(s17, (cpyAt (List.replicate 16 (0 : UInt32)) 0 8 ([a0.e0, a0.e1, a0.e2, a0.e3, a0.e4, a0.e5, a0.e6, a0.e7] : List UInt32))), trivial, ⟨rfl, rfl, rfl, rfl, rfl, rfl, rfl, trivial⟩, ⟨rfl, hE10, hl17, h9, h⟩⟩
  ·
   refine rt_act rfl rfl ?_
   have hA18 := Step.r0 (KN s9.n) s12
   refine k_cut_pt (g := dU32) (i := 0) (j := 8) (pre := []) (post := []) (xs := ([a0.e0, a0.e1, a0.e2, a0.e3, a0.e4, a0.e5, a0.e6, a0.e7] : List UInt32)) cU (fun _ => rfl) (fun _ => rfl) arr79 rfl h1 rfl rfl CutAt.none CutAt.none (by decide) (by decide) (by decide) rfl ?_
   intro h19
   replace h19 : SL s12 ⟨b1 + 1, 0⟩ (.slice (some ⟨b1, 0 + 0, none⟩) (8 - 0) (8 - 0)) 1 (([a0.e0, a0.e1, a0.e2, a0.e3, a0.e4, a0.e5, a0.e6, a0.e7] : List UInt32).map dU32) := h19
   refine rt_cont hA18 ?_
   refine rt_act rfl rfl ?_
   have hA20 := Step.r0 (KN s9.n) s12
   refine k_cut_pt (g := dU32) (i := 0) (j := 8) (pre := []) (post := []) (xs := (List.replicate 16 (0 : UInt32))) cU (fun _ => rfl) (fun _ => rfl) arr118 rfl h9.tl rfl (List.length_replicate) CutAt.none (CutAt.nat rfl) (by decide) (by decide) (by decide) rfl ?_
   intro h21
   replace h21 : SL s12 ⟨b9 + 1, 0⟩ (.slice (some ⟨b9, 0 + 0, none⟩) (8 - 0) (16 - 0)) 1 ((((List.replicate 16 (0 : UInt32)).drop 0).take (8 - 0)).map dU32) := h21
   refine rt_cont hA20 ?_
   refine rt_fin ?_
   refine k_copyA (i := 0) (j := 8) (q := 16) (g := dU32) cU (fun _ => rfl) (fun _ => rfl) (pre := []) (post := []) (xs := (List.replicate 16 (0 : UInt32))) (ys := ([a0.e0, a0.e1, a0.e2, a0.e3, a0.e4, a0.e5, a0.e6, a0.e7] : List UInt32)) elem120 rfl rfl h9.tl (by first | (simp; done) | omega | (dsimp only; omega)) rfl (List.length_replicate) (by decide) (by decide) h19 rfl ?_
   intro s22 st22 h9
   replace h9 := h9.tl'
   have hl22 : (cpyAt (List.replicate 16 (0 : UInt32)) 0 8 ([a0.e0, a0.e1, a0.e2, a0.e3, a0.e4, a0.e5, a0.e6, a0.e7] : List UInt32)).length = 16 := cpyAt_len (List.length_replicate) (by decide) (by decide)
   have szs22 := st22.size
   have hS := hS.c0 st22
   have hE10 := hE10.c0 st22
   refine k_nil ?_
   exact k_stop ⟨(s22, (cpyAt (List.replicate 16 (0 : UInt32)) 0 8 ([a0.e0, a0.e1, a0.e2, a0.e3, a0.e4, a0.e5, a0.e6, a0.e7] : List UInt32))), trivial, ⟨rfl, rfl, rfl, rfl, rfl, rfl, rfl, trivial⟩, ⟨rfl, hE10, hl22, h9, h⟩⟩
 ·
  rintro ⟨s23, x4⟩ wL ⟨rfl, hE10, h11, h9, h⟩
  rw [hK10] at h
  have szs23 := hE10.size
  have hS := hS.c0 hE10
  replace h1 := h1.up2 hE10
  replace h2 := h2.up2 hE10
  replace h5 := h5.up2 hE10
  replace h6 := h6.up2 hE10
  refine rk_seq ?_
  refine rk_run ?_
  obtain ⟨kj5, hK24, h⟩ := jn_out h
  have hE24 := Step.r0 (KC (b9 + 1) 0) s23
  refine k_cutr (X := St × (List UInt32)) [(2, .int .u64 (a2.toNat : Int)), (3, .bool a3), (4, .pointer (some ⟨b1, 0, none⟩)), (8, .pointer (some ⟨b2, 0, none⟩)), (10, .pointer (some ⟨b6, 0, none⟩)), (11, .pointer (some ⟨b9, 0, none⟩))] (fun (xL : St × (List UInt32)) => match xL with | (sl, x6) => []) (fun (xL : St × (List UInt32)) (wL : World) => match xL with | (sl, x6) => sl.w = wL ∧ Step (KC (b9 + 1) 0) s23 sl ∧ (x6.length = 16) ∧ (Blk sl b9 ⟨b9 + 1, 0⟩ (([] : List Value) ++ x6.map cU) 118) ∧ kj5 x6 = some r) ?_ ?_
  ·
   refine k_drawT (KN s23.n) 2 (.alt 0 (.alt 1 .fin .no) (.alt 1 (.alt 0 .fin .no) .no)) mixed (by intro c h; (try simp only [KC, KO, KU, KN, KB] at h) <;> omega) rfl rfl rfl ?_
   intro s26 st26
   have szs26 := st26.size
   have hS := hS.trans0 st26
   have hE24 := hE24.trans0 st26
   replace h5 := h5.up2 st26
   replace h9 := h9.up2 st26
   refine rt_alt rfl rfl ?_ ?_
   ·
    have hA27 := Step.r0 (KN s23.n) s26
    refine k_cut_pt (g := dU32) (i := 8) (j := 16) (pre := []) (post := []) (xs := x4) cU (fun _ => rfl) (fun _ => rfl) arr118 rfl h9.tl rfl h11 (CutAt.nat rfl) CutAt.none (by decide) (by decide) (by decide) rfl ?_
    intro h28
    replace h28 : SL s26 ⟨b9 + 1, 0⟩ (.slice (some ⟨b9, 0 + 8, none⟩) (16 - 8) (16 - 8)) 1 (((x4.drop 8).take (16 - 8)).map dU32) := h28
    refine rt_cont hA27 ?_
    refine rt_act rfl rfl ?_
    have hA29 := Step.r0 (KN s23.n) s26
    refine k_cut_pt (g := dU32) (i := 0) (j := 8) (pre := []) (post := []) (xs := ([x1.e0, x1.e1, x1.e2, x1.e3, x1.e4, x1.e5, x1.e6, x1.e7] : List UInt32)) cU (fun _ => rfl) (fun _ => rfl) arr79 rfl h5 rfl rfl CutAt.none CutAt.none (by decide) (by decide) (by decide) rfl ?_
    intro h30
    replace h30 : SL s26 ⟨b5 + 1, 0⟩ (.slice (some ⟨b5, 0 + 0, none⟩) (8 - 0) (8 - 0)) 1 (([x1.e0, x1.e1, x1.e2, x1.e3, x1.e4, x1.e5, x1.e6, x1.e7] : List UInt32).map dU32) := h30
    refine rt_cont hA29 ?_
    refine rt_fin ?_
    refine k_copyA (i := 8) (j := 16) (q := 16) (g := dU32) cU (fun _ => rfl) (fun _ => rfl) (pre := []) (post := []) (xs := x4) (ys := ([x1.e0, x1.e1, x1.e2, x1.e3, x1.e4, x1.e5, x1.e6, x1.e7] : List UInt32)) elem120 rfl rfl h9.tl (by first | (simp; done) | omega | (dsimp only; omega)) rfl h11 (by decide) (by decide) h30 rfl ?_
    intro s31 st31 h9
    replace h9 := h9.tl'
    have hl31 : (cpyAt x4 8 16 ([x1.e0, x1.e1, x1.e2, x1.e3, x1.e4, x1.e5, x1.e6, x1.e7] : List UInt32)).length = 16 := cpyAt_len h11 (by decide) (by decide)
    have szs31 := st31.size
    have hS := hS.c0 st31
    have hE24 := hE24.c0 st31
    refine k_nil ?_
    exact k_stop ⟨(s31, (cpyAt x4 8 16 ([x1.e0, x1.e1, x1.e2, x1.e3, x1.e4, x1.e5, x1.e6, x1.e7] : List UInt32))), trivial, ⟨rfl, rfl, rfl, rfl, rfl, rfl, trivial⟩, ⟨rfl, hE24, hl31, h9, h⟩⟩
   ·
    refine rt_act rfl rfl ?_
    have hA32 := Step.r0 (KN s23.n) s26
    refine k_cut_pt (g := dU32) (i := 0) (j := 8) (pre := []) (post := []) (xs := ([x1.e0, x1.e1, x1.e2, x1.e3, x1.e4, x1.e5, x1.e6, x1.e7] : List UInt32)) cU (fun _ => rfl) (fun _ => rfl) arr79 rfl h5 rfl rfl CutAt.none CutAt.none (by decide) (by decide) (by decide) rfl ?_
    intro h33
    replace h33 : SL s26 ⟨b5 + 1, 0⟩ (.slice (some ⟨b5, 0 + 0, none⟩) (8 - 0) (8 - 0)) 1 (([x1.e0, x1.e1, x1.e2, x1.e3, x1.e4, x1.e5, x1.e6, x1.e7] : List UInt32).map dU32) := h33
    refine rt_cont hA32 ?_
    refine rt_act rfl rfl ?_
    have hA34 := Step.r0 (KN s23.n) s26
    refine k_cut_pt (g := dU32) (i := 8) (j := 16) (pre := []) (post := []) (xs := x4) cU (fun _ => rfl) (fun _ => rfl) arr118 rfl h9.tl rfl h11 (CutAt.nat rfl) CutAt.none (by decide) (by decide) (by decide) rfl ?_
    intro h35
    replace h35 : SL s26 ⟨b9 + 1, 0⟩ (.slice (some ⟨b9, 0 + 8, none⟩) (16 - 8) (16 - 8)) 1 (((x4.drop 8).take (16 - 8)).map dU32) := h35
    refine rt_cont hA34 ?_
    refine rt_fin ?_
    refine k_copyA (i := 8) (j := 16) (q := 16) (g := dU32) cU (fun _ => rfl) (fun _ => rfl) (pre := []) (post := []) (xs := x4) (ys := ([x1.e0, x1.e1, x1.e2, x1.e3, x1.e4, x1.e5, x1.e6, x1.e7] : List UInt32)) elem120 rfl rfl h9.tl (by first | (simp; done) | omega | (dsimp only; omega)) rfl h11 (by decide) (by decide) h33 rfl ?_
    intro s36 st36 h9
    replace h9 := h9.tl'
    have hl36 : (cpyAt x4 8 16 ([x1.e0, x1.e1, x1.e2, x1.e3, x1.e4, x1.e5, x1.e6, x1.e7] : List UInt32)).length = 16 := cpyAt_len h11 (by decide) (by decide)
    have szs36 := st36.size
    have hS := hS.c0 st36
    have hE24 := hE24.c0 st36
    refine k_nil ?_
    exact k_stop ⟨(s36, (cpyAt x4 8 16 ([x1.e0, x1.e1, x1.e2, x1.e3, x1.e4, x1.e5, x1.e6, x1.e7] : List UInt32))), trivial, ⟨rfl, rfl, rfl, rfl, rfl, rfl, trivial⟩, ⟨rfl, hE24, hl36, h9, h⟩⟩
  ·
   rintro ⟨s37, x6⟩ wL ⟨rfl, hE24, h25, h9, h⟩
   rw [hK24] at h
   have szs37 := hE24.size
   have hS := hS.c0 hE24
   replace h1 := h1.up2 hE24
   replace h2 := h2.up2 hE24
   replace h6 := h6.up2 hE24
   refine rk_seq ?_
   refine rk_run ?_
   refine k_region ?_
   obtain ⟨x7, hx7, h⟩ := ob h
   refine k_ixarr (m := 0) arr118 rfl rfl h25 hx7 rfl ?_
   obtain ⟨x8, hx8, h⟩ := ob h
   refine k_load_el cU (pre := []) (xs := x6) one78 rfl h9 rfl hx8 rfl ?_
   refine k_move rfl rfl ?_
   refine k_conv (p := (a2.toNat : Int)) Tryd.underlying26 Tryd.underlying78 rfl rfl ?_
   refine k_as (congrArg (Value.int .u32) (w32 _)) ?_
   refine k_bits (p := (x8.toNat : Int)) (q := ((ofI32 (a2.toNat : Int)).toNat : Int)) (.inr (.inr (.inl ⟨rfl, rfl⟩))) rfl rfl rfl ?_
   refine k_as (congrArg (Value.int .u32) (xor32 _ _)) ?_
   obtain ⟨x9, hx9, h⟩ := ob h
   refine k_ixarr (m := 0) arr118 rfl rfl h25 hx9 rfl ?_
   obtain ⟨x10, hx10, h⟩ := ob h
   refine k_store_el cU (fun _ => rfl) (v := x8 ^^^ (ofI32 (a2.toNat : Int))) (pre := []) (xs := x6) size78 rfl rfl h9 (by first | (simp; done) | omega | (dsimp only; omega)) rfl hx10 ?_
   intro s38 st38 h9
   have hl38 : (x6.set (12 : Int).toNat (x8 ^^^ (ofI32 (a2.toNat : Int)))).length = 16 := by rw [List.length_set]; exact h25
   have szs38 := st38.size
   have hS := hS.c0 st38
   replace h1 := h1.up2 st38
   replace h2 := h2.up2 st38
   replace h6 := h6.up2 st38
   refine k_nil ?_
   refine k_stop ?_
   refine rk_seq ?_
   refine rk_run ?_
   refine k_region ?_
   obtain ⟨x11, hx11, h⟩ := ob h
   refine k_ixarr (m := 0) arr118 rfl rfl hl38 hx11 rfl ?_
   obtain ⟨x12, hx12, h⟩ := ob h
   refine k_load_el cU (pre := []) (xs := (x6.set (12 : Int).toNat (x8 ^^^ (ofI32 (a2.toNat : Int))))) one78 rfl h9 rfl hx12 rfl ?_
   refine k_move rfl rfl ?_
   refine k_shr (p := (a2.toNat : Int)) rfl rfl (by decide) rfl ?_
   refine k_as (congrArg (Value.int .u64) (shr64_eq _ _)) ?_
   refine k_conv (p := ((shr64 a2 32).toNat : Int)) Tryd.underlying26 Tryd.underlying78 rfl rfl ?_
   refine k_as (congrArg (Value.int .u32) (w32 _)) ?_
   refine k_bits (p := (x12.toNat : Int)) (q := ((ofI32 ((shr64 a2 32).toNat : Int)).toNat : Int)) (.inr (.inr (.inl ⟨rfl, rfl⟩))) rfl rfl rfl ?_
   refine k_as (congrArg (Value.int .u32) (xor32 _ _)) ?_
   obtain ⟨x13, hx13, h⟩ := ob h
   refine k_ixarr (m := 0) arr118 rfl rfl hl38 hx13 rfl ?_
   obtain ⟨x14, hx14, h⟩ := ob h
   refine k_store_el cU (fun _ => rfl) (v := x12 ^^^ (ofI32 ((shr64 a2 32).toNat : Int))) (pre := []) (xs := (x6.set (12 : Int).toNat (x8 ^^^ (ofI32 (a2.toNat : Int))))) size78 rfl rfl h9 (by first | (simp; done) | omega | (dsimp only; omega)) rfl hx14 ?_
   intro s39 st39 h9
   have hl39 : ((x6.set (12 : Int).toNat (x8 ^^^ (ofI32 (a2.toNat : Int)))).set (13 : Int).toNat (x12 ^^^ (ofI32 ((shr64 a2 32).toNat : Int)))).length = 16 := by rw [List.length_set]; exact hl38
   have szs39 := st39.size
   have hS := hS.c0 st39
   replace h1 := h1.up2 st39
   replace h2 := h2.up2 st39
   replace h6 := h6.up2 st39
   refine k_nil ?_
   refine k_stop ?_
   refine rk_seq ?_
   refine rk_run ?_
   obtain ⟨kj15, hK40, h⟩ := jn_out h
   have hE40 := Step.r0 (KC (b9 + 1) 0) s39
   refine k_cutr (X := St × (List UInt32)) [(4, .pointer (some ⟨b1, 0, none⟩)), (8, .pointer (some ⟨b2, 0, none⟩)), (10, .pointer (some ⟨b6, 0, none⟩)), (11, .pointer (some ⟨b9, 0, none⟩))] (fun (xL : St × (List UInt32)) => match xL with | (sl, x16) => []) (fun (xL : St × (List UInt32)) (wL : World) => match xL with | (sl, x16) => sl.w = wL ∧ Step (KC (b9 + 1) 0) s39 sl ∧ (x16.length = 16) ∧ (Blk sl b9 ⟨b9 + 1, 0⟩ (([] : List Value) ++ x16.map cU) 118) ∧ kj15 x16 = some r) ?_ ?_
   ·
    refine k_seq ?_
    refine k_region ?_
    refine k_move rfl rfl ?_
    refine k_nil ?_
    refine k_keep [(4, _), (8, _), (10, _), (11, _), (39, _)] ⟨rfl, rfl, rfl, rfl, rfl, trivial⟩ ?_
    refine k_cond rfl (fun c42 => ?_) (fun c42 => ?_)
    ·
     have h := ibT h c42
     refine k_region ?_
     obtain ⟨x17, hx17, h⟩ := ob h
     refine k_ixarr (m := 0) arr118 rfl rfl hl39 hx17 rfl ?_
     obtain ⟨x18, hx18, h⟩ := ob h
     refine k_load_el cU (pre := []) (xs := ((x6.set (12 : Int).toNat (x8 ^^^ (ofI32 (a2.toNat : Int)))).set (13 : Int).toNat (x12 ^^^ (ofI32 ((shr64 a2 32).toNat : Int))))) one78 rfl h9 rfl hx18 rfl ?_
     refine k_compl32 (a := x18) rfl rfl ?_
     obtain ⟨x19, hx19, h⟩ := ob h
     refine k_ixarr (m := 0) arr118 rfl rfl hl39 hx19 rfl ?_
     obtain ⟨x20, hx20, h⟩ := ob h
     refine k_store_el cU (fun _ => rfl) (v := 4294967295 ^^^ x18) (pre := []) (xs := ((x6.set (12 : Int).toNat (x8 ^^^ (ofI32 (a2.toNat : Int)))).set (13 : Int).toNat (x12 ^^^ (ofI32 ((shr64 a2 32).toNat : Int))))) size78 rfl rfl h9 (by first | (simp; done) | omega | (dsimp only; omega)) rfl hx20 ?_
     intro s43 st43 h9
     have hl43 : (((x6.set (12 : Int).toNat (x8 ^^^ (ofI32 (a2.toNat : Int)))).set (13 : Int).toNat (x12 ^^^ (ofI32 ((shr64 a2 32).toNat : Int)))).set (14 : Int).toNat (4294967295 ^^^ x18)).length = 16 := by rw [List.length_set]; exact hl39
     have szs43 := st43.size
     have hS := hS.c0 st43
     have hE40 := hE40.c0 st43
     refine k_nil ?_
     exact k_stop ⟨(s43, (((x6.set (12 : Int).toNat (x8 ^^^ (ofI32 (a2.toNat : Int)))).set (13 : Int).toNat (x12 ^^^ (ofI32 ((shr64 a2 32).toNat : Int)))).set (14 : Int).toNat (4294967295 ^^^ x18))), trivial, ⟨rfl, rfl, rfl, rfl, trivial⟩, ⟨rfl, hE40, hl43, h9, h⟩⟩
    ·
     have h := ibF h c42
     refine k_skip ?_
     exact k_stop ⟨(s39, ((x6.set (12 : Int).toNat (x8 ^^^ (ofI32 (a2.toNat : Int)))).set (13 : Int).toNat (x12 ^^^ (ofI32 ((shr64 a2 32).toNat : Int))))), trivial, ⟨rfl, rfl, rfl, rfl, trivial⟩, ⟨rfl, hE40, hl39, h9, h⟩⟩
   ·
    rintro ⟨s44, x16⟩ wL ⟨rfl, hE40, h41, h9, h⟩
    rw [hK40] at h
    have szs44 := hE40.size
    have hS := hS.c0 hE40
    replace h1 := h1.up2 hE40
    replace h2 := h2.up2 hE40
    replace h6 := h6.up2 hE40
    refine rk_seq ?_
    refine rk_seq ?_
    refine rk_run ?_
    refine k_region ?_
    obtain ⟨x21, hx21, h⟩ := ob h
    refine k_call cal85 rfl (digest_orders_w   hx21) rfl ?_
    rintro s45 vr45 st45 ⟨rfl, h45_0⟩
    have szs45 := st45.size
    have hS := hS.trans0 st45
    replace h1 := h1.up2 st45
    replace h2 := h2.up2 st45
    replace h6 := h6.up2 st45
    replace h9 := h9.up2 st45
    refine k_move rfl rfl ?_
    refine k_nil ?_
    refine k_stop ?_
    refine rk_block ?_
    refine rk_loopc (X := St × Int × (List UInt32) × List Deferred × Nat) [(4, _), (8, _), (10, _), (11, _), (44, _)] (fun (xL : St × Int × (List UInt32) × List Deferred × Nat) => match xL with | (sl, x22, x23, dfL, j) => [(45, .int .i64 x22)]) (fun (xL : St × Int × (List UInt32) × List Deferred × Nat) => match xL with | (sl, x22, x23, dfL, j) => dfL) (fun (xL : St × Int × (List UInt32) × List Deferred × Nat) (wL : World) => match xL with | (sl, x22, x23, dfL, j) => sl.w = wL ∧ Step (KC (b9 + 1) 0) s45 sl ∧ (Blk sl b1 ⟨b1 + 1, 0⟩ [.int .u32 (a0.e0.toNat : Int), .int .u32 (a0.e1.toNat : Int), .int .u32 (a0.e2.toNat : Int), .int .u32 (a0.e3.toNat : Int), .int .u32 (a0.e4.toNat : Int), .int .u32 (a0.e5.toNat : Int), .int .u32 (a0.e6.toNat : Int), .int .u32 (a0.e7.toNat : Int)] 79) ∧ (Blk sl b2 ⟨b2 + 1, 0⟩ [.int .u32 0, .int .u32 0, .int .u32 0, .int .u32 0, .int .u32 0, .int .u32 0, .int .u32 0, .int .u32 0] 79) ∧ (Blk sl b6 ⟨b6 + 1, 0⟩ (([] : List Value) ++ x2.map cU) 118) ∧ (x23.length = 16) ∧ (Blk sl b9 ⟨b9 + 1, 0⟩ (([] : List Value) ++ x23.map cU) 118) ∧ MarksL sl s45.n sl.n dfL ∧ digest_mix_l1 x21 x2 a0 j x22 x23 = some r) (fun (xL : St × Int × (List UInt32) × List Deferred × Nat) => match xL with | (sl, x22, x23, dfL, j) => j) (s45, 0, x16, [], FU) rfl ⟨rfl, rfl, rfl, rfl, rfl, trivial⟩ ⟨(by first | rfl | (simp <;> rfl)), trivial⟩ ⟨rfl, (Step.refl _).of0 (by first | exact fun _ h => h | (intro c h; simp [KC, KO, KU, KN, KB] at h <;> omega)), h1, h2, h6, h41, h9, MarksL.nil, h⟩ ?_
    rintro ⟨s48, x22, x23, dfL, j⟩ wL ⟨rfl, hE46, h1, h2, h6, h47, h9, hML, h⟩
    cases j with
    | zero => rw [digest_mix_l1] at h; exact (noneNe h).elim
    | succ j =>
    rw [digest_mix_l1] at h
    have szs48 := hE46.size
    have hS := hS.c0 hE46
    obtain ⟨kj24, hkj24, h⟩ := jn_out h
    refine rk_seq ?_
    refine rk_run ?_
    refine k_region ?_
    refine k_lss rfl rfl rfl ?_
    refine k_nil ?_
    refine k_stop ?_
    refine rk_seq ?_
    refine rk_run ?_
    refine k_cond_dec rfl (fun c49 => ?_) (fun c49 => ?_)
    ·
     have h := itT h c49
     refine k_skip ?_
     refine k_stop ?_
     refine rk_seq ?_
     refine rk_block ?_
     refine rk_seq ?_
     refine rk_run ?_
     refine k_region ?_
     obtain ⟨x25, hx25, h⟩ := ob h
     refine k_index_row S (xs := x21) arr121 one9 rfl rfl h45_0 hx25 rfl ?_
     refine k_alloc zero9 rfl ?_
     intro s50 b50 st50 h50 ge50
     have szs50 := st50.size
     have hS := hS.trans0 st50
     have hE46 := hE46.trans0 st50
     replace h1 := h1.up2 st50
     replace h2 := h2.up2 st50
     replace h6 := h6.up2 st50
     replace h9 := h9.up2 st50
     replace hML := hML.up2 st50
     have lt50 := h50.lt
     refine k_store_c (cs' := [S x25]) size9 rfl rfl h50 (by first | (simp; done) | omega | (dsimp only; omega)) (CellsOf.lit rfl rfl) rfl (by first | rfl | (simp; done) | (simp; omega)) rfl ?_
     intro s51 st51 h50
     have szs51 := st51.size
     have hS := hS.c0 st51
     have hE46 := hE46.c0 st51
     replace h1 := h1.up2 st51
     replace h2 := h2.up2 st51
     replace h6 := h6.up2 st51
     replace h9 := h9.up2 st51
     replace hML := hML.up2 st51
     refine k_nil ?_
     refine k_stop ?_
     refine rk_seq ?_
     refine rk_run ?_
     refine k_region ?_
     obtain ⟨x26, hx26, h⟩ := ob h
     refine k_call cal86 rfl (digest_quads_w   hx26) rfl ?_
     rintro s52 vr52 st52 rfl
     have szs52 := st52.size
     have hS := hS.trans0 st52
     have hE46 := hE46.trans0 st52
     replace h1 := h1.up2 st52
     replace h2 := h2.up2 st52
     replace h6 := h6.up2 st52
     replace h9 := h9.up2 st52
     replace h50 := h50.up2 st52
     replace hML := hML.up2 st52
     refine k_nil ?_
     refine k_stop ?_
     obtain ⟨x30, hx30, h⟩ := ob h
     refine rk_range (A := (Int × St126)) (X := (List UInt32)) (ps := [49, 50]) (fun (sl : St) (y : Int × St126) (vs : List Value) => ∃ (u1 : List Value), vs = [.int .i64 y.1, .agg u1.toArray] ∧ RC sl u1 (dSt126 y.2)) (fun (x27 : (List UInt32)) (x28 : (Int × St126)) => (geti x25 (i64 (2 * x28.1))).bind fun x31 => (geti x25 (i64 ((i64 (2 * x28.1)) + 1))).bind fun x32 => (digest_number x31).bind fun x33 => (geti x2 x33).bind fun x34 => (geti x2 x33).bind fun x35 => (digest_number x32).bind fun x36 => (geti x2 x36).bind fun x37 => (geti x2 x36).bind fun x38 => jn (fun (_ : Unit) => (geti x27 x28.2.e0).bind fun x44 => (geti x27 x28.2.e1).bind fun x45 => (geti x27 x28.2.e0).bind fun x46 => (geti (x27.set (x28.2.e0 : Int).toNat (ofI32 ((x44.toNat : Int) + ((ofI32 ((x45.toNat : Int) + (x35.toNat : Int))).toNat : Int)))) x28.2.e3).bind fun x47 => (geti (x27.set (x28.2.e0 : Int).toNat (ofI32 ((x44.toNat : Int) + ((ofI32 ((x45.toNat : Int) + (x35.toNat : Int))).toNat : Int)))) x28.2.e0).bind fun x48 => (bits_RotateLeft32 (x47 ^^^ x48) (i64 (0 - 16))).bind fun x49 => (geti (x27.set (x28.2.e0 : Int).toNat (ofI32 ((x44.toNat : Int) + ((ofI32 ((x45.toNat : Int) + (x35.toNat : Int))).toNat : Int)))) x28.2.e3).bind fun x50 => (geti ((x27.set (x28.2.e0 : Int).toNat (ofI32 ((x44.toNat : Int) + ((ofI32 ((x45.toNat : Int) + (x35.toNat : Int))).toNat : Int)))).set (x28.2.e3 : Int).toNat x49) x28.2.e2).bind fun x51 => (geti ((x27.set (x28.2.e0 : Int).toNat (ofI32 ((x44.toNat : Int) + ((ofI32 ((x45.toNat : Int) + (x35.toNat : Int))).toNat : Int)))).set (x28.2.e3 : Int).toNat x49) x28.2.e3).bind fun x52 => (geti ((x27.set (x28.2.e0 : Int).toNat (ofI32 ((x44.toNat : Int) + ((ofI32 ((x45.toNat : Int) + (x35.toNat : Int))).toNat : Int)))).set (x28.2.e3 : Int).toNat x49) x28.2.e2).bind fun x53 => (geti (((x27.set (x28.2.e0 : Int).toNat (ofI32 ((x44.toNat : Int) + ((ofI32 ((x45.toNat : Int) + (x35.toNat : Int))).toNat : Int)))).set (x28.2.e3 : Int).toNat x49).set (x28.2.e2 : Int).toNat (ofI32 ((x51.toNat : Int) + (x52.toNat : Int)))) x28.2.e1).bind fun x54 => (geti (((x27.set (x28.2.e0 : Int).toNat (ofI32 ((x44.toNat : Int) + ((ofI32 ((x45.toNat : Int) + (x35.toNat : Int))).toNat : Int)))).set (x28.2.e3 : Int).toNat x49).set (x28.2.e2 : Int).toNat (ofI32 ((x51.toNat : Int) + (x52.toNat : Int)))) x28.2.e2).bind fun x55 => (bits_RotateLeft32 (x54 ^^^ x55) (i64 (0 - 12))).bind fun x56 => (geti (((x27.set (x28.2.e0 : Int).toNat (ofI32 ((x44.toNat : Int) + ((ofI32 ((x45.toNat : Int) + (x35.toNat : Int))).toNat : Int)))).set (x28.2.e3 : Int).toNat x49).set (x28.2.e2 : Int).toNat (ofI32 ((x51.toNat : Int) + (x52.toNat : Int)))) x28.2.e1).bind fun x57 => (geti ((((x27.set (x28.2.e0 : Int).toNat (ofI32 ((x44.toNat : Int) + ((ofI32 ((x45.toNat : Int) + (x35.toNat : Int))).toNat : Int)))).set (x28.2.e3 : Int).toNat x49).set (x28.2.e2 : Int).toNat (ofI32 ((x51.toNat : Int) + (x52.toNat : Int)))).set (x28.2.e1 : Int).toNat x56) x28.2.e0).bind fun x58 => (geti ((((x27.set (x28.2.e0 : Int).toNat (ofI32 ((x44.toNat : Int) + ((ofI32 ((x45.toNat : Int) + (x35.toNat : Int))).toNat : Int)))).set (x28.2.e3 : Int).toNat x49).set (x28.2.e2 : Int).toNat (ofI32 ((x51.toNat : Int) + (x52.toNat : Int)))).set (x28.2.e1 : Int).toNat x56) x28.2.e1).bind fun x59 => (geti ((((x27.set (x28.2.e0 : Int).toNat (ofI32 ((x44.toNat : Int) + ((ofI32 ((x45.toNat : Int) + (x35.toNat : Int))).toNat : Int)))).set (x28.2.e3 : Int).toNat x49).set (x28.2.e2 : Int).toNat (ofI32 ((x51.toNat : Int) + (x52.toNat : Int)))).set (x28.2.e1 : Int).toNat x56) x28.2.e0).bind fun x60 => (geti (((((x27.set (x28.2.e0 : Int).toNat (ofI32 ((x44.toNat : Int) + ((ofI32 ((x45.toNat : Int) + (x35.toNat : Int))).toNat : Int)))).set (x28.2.e3 : Int).toNat x49).set (x28.2.e2 : Int).toNat (ofI32 ((x51.toNat : Int) + (x52.toNat : Int)))).set (x28.2.e1 : Int).toNat x56).set (x28.2.e0 : Int).toNat (ofI32 ((x58.toNat : Int) + ((ofI32 ((x59.toNat : Int) + (x38.toNat : Int))).toNat : Int)))) x28.2.e3).bind fun x61 => (geti (((((x27.set (x28.2.e0 : Int).toNat (ofI32 ((x44.toNat : Int) + ((ofI32 ((x45.toNat : Int) + (x35.toNat : Int))).toNat : Int)))).set (x28.2.e3 : Int).toNat x49).set (x28.2.e2 : Int).toNat (ofI32 ((x51.toNat : Int) + (x52.toNat : Int)))).set (x28.2.e1 : Int).toNat x56).set (x28.2.e0 : Int).toNat (ofI32 ((x58.toNat : Int) + ((ofI32 ((x59.toNat : Int) + (x38.toNat : Int))).toNat : Int)))) x28.2.e0).bind fun x62 => (bits_RotateLeft32 (x61 ^^^ x62) (i64 (0 - 8))).bind fun x63 => (geti (((((x27.set (x28.2.e0 : Int).toNat (ofI32 ((x44.toNat : Int) + ((ofI32 ((x45.toNat : Int) + (x35.toNat : Int))).toNat : Int)))).set (x28.2.e3 : Int).toNat x49).set (x28.2.e2 : Int).toNat (ofI32 ((x51.toNat : Int) + (x52.toNat : Int)))).set (x28.2.e1 : Int).toNat x56).set (x28.2.e0 : Int).toNat (ofI32 ((x58.toNat : Int) + ((ofI32 ((x59.toNat : Int) + (x38.toNat : Int))).toNat : Int)))) x28.2.e3).bind fun x64 => (geti ((((((x27.set (x28.2.e0 : Int).toNat (ofI32 ((x44.toNat : Int) + ((ofI32 ((x45.toNat : Int) + (x35.toNat : Int))).toNat : Int)))).set (x28.2.e3 : Int).toNat x49).set (x28.2.e2 : Int).toNat (ofI32 ((x51.toNat : Int) + (x52.toNat : Int)))).set (x28.2.e1 : Int).toNat x56).set (x28.2.e0 : Int).toNat (ofI32 ((x58.toNat : Int) + ((ofI32 ((x59.toNat : Int) + (x38.toNat : Int))).toNat : Int)))).set (x28.2.e3 : Int).toNat x63) x28.2.e2).bind fun x65 => (geti ((((((x27.set (x28.2.e0 : Int).toNat (ofI32 ((x44.toNat : Int) + ((ofI32 ((x45.toNat : Int) + (x35.toNat : Int))).toNat : Int)))).set (x28.2.e3 : Int).toNat x49).set (x28.2.e2 : Int).toNat (ofI32 ((x51.toNat : Int) + (x52.toNat : Int)))).set (x28.2.e1 : Int).toNat x56).set (x28.2.e0 : Int).toNat (ofI32 ((x58.toNat : Int) + ((ofI32 ((x59.toNat : Int) + (x38.toNat : Int))).toNat : Int)))).set (x28.2.e3 : Int).toNat x63) x28.2.e3).bind fun x66 => (geti ((((((x27.set (x28.2.e0 : Int).toNat (ofI32 ((x44.toNat : Int) + ((ofI32 ((x45.toNat : Int) + (x35.toNat : Int))).toNat : Int)))).set (x28.2.e3 : Int).toNat x49).set (x28.2.e2 : Int).toNat (ofI32 ((x51.toNat : Int) + (x52.toNat : Int)))).set (x28.2.e1 : Int).toNat x56).set (x28.2.e0 : Int).toNat (ofI32 ((x58.toNat : Int) + ((ofI32 ((x59.toNat : Int) + (x38.toNat : Int))).toNat : Int)))).set (x28.2.e3 : Int).toNat x63) x28.2.e2).bind fun x67 => (geti (((((((x27.set (x28.2.e0 : Int).toNat (ofI32 ((x44.toNat : Int) + ((ofI32 ((x45.toNat : Int) + (x35.toNat : Int))).toNat : Int)))).set (x28.2.e3 : Int).toNat x49).set (x28.2.e2 : Int).toNat (ofI32 ((x51.toNat : Int) + (x52.toNat : Int)))).set (x28.2.e1 : Int).toNat x56).set (x28.2.e0 : Int).toNat (ofI32 ((x58.toNat : Int) + ((ofI32 ((x59.toNat : Int) + (x38.toNat : Int))).toNat : Int)))).set (x28.2.e3 : Int).toNat x63).set (x28.2.e2 : Int).toNat (ofI32 ((x65.toNat : Int) + (x66.toNat : Int)))) x28.2.e1).bind fun x68 => (geti (((((((x27.set (x28.2.e0 : Int).toNat (ofI32 ((x44.toNat : Int) + ((ofI32 ((x45.toNat : Int) + (x35.toNat : Int))).toNat : Int)))).set (x28.2.e3 : Int).toNat x49).set (x28.2.e2 : Int).toNat (ofI32 ((x51.toNat : Int) + (x52.toNat : Int)))).set (x28.2.e1 : Int).toNat x56).set (x28.2.e0 : Int).toNat (ofI32 ((x58.toNat : Int) + ((ofI32 ((x59.toNat : Int) + (x38.toNat : Int))).toNat : Int)))).set (x28.2.e3 : Int).toNat x63).set (x28.2.e2 : Int).toNat (ofI32 ((x65.toNat : Int) + (x66.toNat : Int)))) x28.2.e2).bind fun x69 => (bits_RotateLeft32 (x68 ^^^ x69) (i64 (0 - 7))).bind fun x70 => (geti (((((((x27.set (x28.2.e0 : Int).toNat (ofI32 ((x44.toNat : Int) + ((ofI32 ((x45.toNat : Int) + (x35.toNat : Int))).toNat : Int)))).set (x28.2.e3 : Int).toNat x49).set (x28.2.e2 : Int).toNat (ofI32 ((x51.toNat : Int) + (x52.toNat : Int)))).set (x28.2.e1 : Int).toNat x56).set (x28.2.e0 : Int).toNat (ofI32 ((x58.toNat : Int) + ((ofI32 ((x59.toNat : Int) + (x38.toNat : Int))).toNat : Int)))).set (x28.2.e3 : Int).toNat x63).set (x28.2.e2 : Int).toNat (ofI32 ((x65.toNat : Int) + (x66.toNat : Int)))) x28.2.e1).bind fun x71 => some (true, ((((((((x27.set (x28.2.e0 : Int).toNat (ofI32 ((x44.toNat : Int) + ((ofI32 ((x45.toNat : Int) + (x35.toNat : Int))).toNat : Int)))).set (x28.2.e3 : Int).toNat x49).set (x28.2.e2 : Int).toNat (ofI32 ((x51.toNat : Int) + (x52.toNat : Int)))).set (x28.2.e1 : Int).toNat x56).set (x28.2.e0 : Int).toNat (ofI32 ((x58.toNat : Int) + ((ofI32 ((x59.toNat : Int) + (x38.toNat : Int))).toNat : Int)))).set (x28.2.e3 : Int).toNat x63).set (x28.2.e2 : Int).toNat (ofI32 ((x65.toNat : Int) + (x66.toNat : Int)))).set (x28.2.e1 : Int).toNat x70))) (fun (kj39 : Unit → Option (Bool × (List UInt32))) => (geti x27 x28.2.e0).bind fun x40 => (geti x27 x28.2.e1).bind fun x41 => (geti x27 x28.2.e2).bind fun x42 => (geti x27 x28.2.e3).bind fun x43 => kj39 ())) (fun (xL : (List UInt32)) (sl : St) => (xL.length = 16) ∧ (Blk sl b9 ⟨b9 + 1, 0⟩ (([] : List Value) ++ xL.map cU) 118) ∧ (Blk sl b1 ⟨b1 + 1, 0⟩ [.int .u32 (a0.e0.toNat : Int), .int .u32 (a0.e1.toNat : Int), .int .u32 (a0.e2.toNat : Int), .int .u32 (a0.e3.toNat : Int), .int .u32 (a0.e4.toNat : Int), .int .u32 (a0.e5.toNat : Int), .int .u32 (a0.e6.toNat : Int), .int .u32 (a0.e7.toNat : Int)] 79) ∧ (Blk sl b2 ⟨b2 + 1, 0⟩ [.int .u32 0, .int .u32 0, .int .u32 0, .int .u32 0, .int .u32 0, .int .u32 0, .int .u32 0, .int .u32 0] 79) ∧ (Blk sl b6 ⟨b6 + 1, 0⟩ (([] : List Value) ++ x2.map cU) 118) ∧ (Blk sl b50 ⟨b50 + 1, 0⟩ [S x25] 9)) (KC (b9 + 1) 0) rfl cal94 (fun _ _ _ h => by obtain ⟨_, rfl, _⟩ := h; rfl) (by decide) (by intro lab h; (try simp only [KC, KO, KU, KN, K0, KB] at h); first | exact h.elim | omega) x23 x30 ⟨h47, h9, h1, h2, h6, h50⟩ (by rintro x t1 t2 K ⟨z0, z1, z2, z3, z4, z5⟩ st hK; exact ⟨z0, z1.up st (fun hk => by have hq := hK _ hk; (try dsimp only at hq); omega), z2.up st (fun hk => by have hq := hK _ hk; (try dsimp only at hq); omega), z3.up st (fun hk => by have hq := hK _ hk; (try dsimp only at hq); omega), z4.up st (fun hk => by have hq := hK _ hk; (try dsimp only at hq); omega), z5.up st (fun hk => by have hq := hK _ hk; (try dsimp only at hq); omega)⟩) ?_ ?_ ?_
     ·
      intro l rec sR53 x27 x28 vsR rR53 hl1 hl2 hrec
      rintro ⟨h54, h9, h1, h2, h6, h50⟩ hL henc hc53
      obtain ⟨uy53_1, rfl, hy53_1⟩ := henc
      try dsimp only at hc53
      obtain rfl := opnSt126 hy53_1
      have hRS53 := Step.r0 (KU (KC (l + 1) 0) (KC (b9 + 1) 0)) sR53
      refine k_seq ?_
      refine k_region ?_
      refine k_assign rfl rfl ?_
      refine k_nil ?_
      refine k_keep [(10, _), (11, _), (13, _), (14, _), (50, _)] ⟨rfl, rfl, rfl, rfl, rfl, trivial⟩ ?_
      refine k_region ?_
      refine k_alloc zero126 rfl ?_
      intro s55 b55 st55 h55 ge55
      have szs55 := st55.size
      have hRS53 := hRS53.trans0 st55
      replace h1 := h1.up2 st55
      replace h2 := h2.up2 st55
      replace h6 := h6.up2 st55
      replace h9 := h9.up2 st55
      replace h50 := h50.up2 st55
      replace hL := hL.up2 st55
      have lt55 := h55.lt
      refine k_store_c (cs' := [.int .i64 x28.2.e0, .int .i64 x28.2.e1, .int .i64 x28.2.e2, .int .i64 x28.2.e3]) size126 rfl rfl h55 (by first | (simp; done) | omega | (dsimp only; omega)) (CellsOf.lit rfl rfl) rfl (by first | rfl | (simp; done) | (simp; omega)) rfl ?_
      intro s56 st56 h55
      have szs56 := st56.size
      have hRS53 := hRS53.c0 st56
      replace h1 := h1.up2 st56
      replace h2 := h2.up2 st56
      replace h6 := h6.up2 st56
      replace h9 := h9.up2 st56
      replace h50 := h50.up2 st56
      replace hL := hL.up2 st56
      refine k_nil ?_
      refine k_stop ?_
      refine k_begin hL hrec ?_
      intro s57 st57 hL
      have szs57 := st57.size
      have hRS53 := hRS53.c0 st57
      replace h1 := h1.up2 st57
      replace h2 := h2.up2 st57
      replace h6 := h6.up2 st57
      replace h9 := h9.up2 st57
      replace h50 := h50.up2 st57
      replace h55 := h55.up2 st57
      refine k_keep [(10, _), (11, _), (13, _), (14, _), (15, _)] ⟨rfl, rfl, rfl, rfl, rfl, trivial⟩ ?_
      refine k_block ?_
      refine k_drawT (KN s57.n) 16 (.read 0 (.read 1 (.read 2 (.read 3 (.read 4 (.read 8 (.read 9 (.read 10 (.read 11 (.read 12 (.alt 5 (.read 6 (.read 7 (.alt 13 (.read 14 (.read 15 .fin)) .no))) .no))))))))))) mixed (by intro c h; (try simp only [KC, KO, KU, KN, KB] at h) <;> omega) rfl rfl rfl ?_
      intro s58 st58
      have szs58 := st58.size
      have hRS53 := hRS53.trans0 st58
      replace h1 := h1.up2 st58
      replace h2 := h2.up2 st58
      replace h6 := h6.up2 st58
      replace h9 := h9.up2 st58
      replace h50 := h50.up2 st58
      replace h55 := h55.up2 st58
      replace hL := hL.up2 st58
      refine rt_read (.agg #[.int .i64 x28.2.e0, .int .i64 x28.2.e1, .int .i64 x28.2.e2, .int .i64 x28.2.e3]) rfl rfl (fun s59 st59 => ?_) ?_
      ·try replace h55 := h55.up2 st59
       refine k_load_blka (cs := [.int .i64 x28.2.e0, .int .i64 x28.2.e1, .int .i64 x28.2.e2, .int .i64 x28.2.e3]) agg126 rfl h55 rfl ?_
       exact fq_end
      refine rt_read (S x25) rfl rfl (fun s60 st60 => ?_) ?_
      ·try replace h50 := h50.up2 st60
       refine k_load_blk one9 rfl h50 rfl rfl ?_
       exact fq_end
      refine rt_read (.int .i64 x28.1) rfl rfl (fun s61 st61 => ?_) ?_
      ·refine k_move rfl rfl ?_
       exact fq_end
      refine rt_read (.int .i64 (i64 (2 * x28.1))) rfl rfl (fun s62 st62 => ?_) ?_
      ·refine k_mul rfl rfl rfl ?_
       exact fq_end
      obtain ⟨x31, hx31, hc53⟩ := ob hc53
      refine rt_read (.int .u8 (x31.toNat : Int)) rfl rfl (fun s63 st63 => ?_) ?_
      ·refine k_index_str Tryd.underlying9 rfl rfl (geti_out hx31).1 (geti_out hx31).2.1 rfl ?_
       refine k_as (congrArg (fun c : UInt8 => Value.int .u8 (c.toNat : Int)) (geti_getD hx31)) ?_
       exact fq_end
      refine rt_read (S x25) rfl rfl (fun s64 st64 => ?_) ?_
      ·try replace h50 := h50.up2 st64
       refine k_load_blk one9 rfl h50 rfl rfl ?_
       exact fq_end
      refine rt_read (.int .i64 x28.1) rfl rfl (fun s65 st65 => ?_) ?_
      ·refine k_move rfl rfl ?_
       exact fq_end
      refine rt_read (.int .i64 (i64 (2 * x28.1))) rfl rfl (fun s66 st66 => ?_) ?_
      ·refine k_mul rfl rfl rfl ?_
       exact fq_end
      refine rt_read (.int .i64 (i64 ((i64 (2 * x28.1)) + 1))) rfl rfl (fun s67 st67 => ?_) ?_
      ·refine k_add rfl rfl rfl ?_
       exact fq_end
      obtain ⟨x32, hx32, hc53⟩ := ob hc53
      refine rt_read (.int .u8 (x32.toNat : Int)) rfl rfl (fun s68 st68 => ?_) ?_
      ·refine k_index_str Tryd.underlying9 rfl rfl (geti_out hx32).1 (geti_out hx32).2.1 rfl ?_
       refine k_as (congrArg (fun c : UInt8 => Value.int .u8 (c.toNat : Int)) (geti_getD hx32)) ?_
       exact fq_end
      refine rt_act rfl rfl ?_
      have hA69 := Step.r0 (KN s57.n) s58
      obtain ⟨x33, hx33, hc53⟩ := ob hc53
      refine k_call cal88 rfl (digest_number_w   hx33) rfl ?_
      rintro s70 vr70 st70 rfl
      have szs70 := st70.size
      have hRS53 := hRS53.trans0 st70
      have hA69 := hA69.trans0 st70
      replace h1 := h1.up2 st70
      replace h2 := h2.up2 st70
      replace h6 := h6.up2 st70
      replace h9 := h9.up2 st70
      replace h50 := h50.up2 st70
      replace hL := hL.up2 st70
      refine rt_cont hA69 ?_
      obtain ⟨x34, hx34, hc53⟩ := ob hc53
      refine rt_read (.pointer (some ⟨b6, 0 + (x33 : Int).toNat, none⟩)) rfl rfl (fun s71 st71 => ?_) ?_
      ·refine k_ixarr (m := 0) arr118 rfl rfl h4_0 hx34 rfl ?_
       exact fq_end
      obtain ⟨x35, hx35, hc53⟩ := ob hc53
      refine rt_read (.int .u32 (x35.toNat : Int)) rfl rfl (fun s72 st72 => ?_) ?_
      ·try replace h6 := h6.up2 st72
       refine k_load_el cU (pre := []) (xs := x2) one78 rfl h6 rfl hx35 rfl ?_
       exact fq_end
      refine rt_act rfl rfl ?_
      have hA73 := Step.r0 (KN s57.n) s70
      obtain ⟨x36, hx36, hc53⟩ := ob hc53
      refine k_call cal88 rfl (digest_number_w   hx36) rfl ?_
      rintro s74 vr74 st74 rfl
      have szs74 := st74.size
      have hRS53 := hRS53.trans0 st74
      have hA73 := hA73.trans0 st74
      replace h1 := h1.up2 st74
      replace h2 := h2.up2 st74
      replace h6 := h6.up2 st74
      replace h9 := h9.up2 st74
      replace h50 := h50.up2 st74
      replace hL := hL.up2 st74
      refine rt_cont hA73 ?_
      obtain ⟨x37, hx37, hc53⟩ := ob hc53
      refine rt_read (.pointer (some ⟨b6, 0 + (x36 : Int).toNat, none⟩)) rfl rfl (fun s75 st75 => ?_) ?_
      ·refine k_ixarr (m := 0) arr118 rfl rfl h4_0 hx37 rfl ?_
       exact fq_end
      obtain ⟨x38, hx38, hc53⟩ := ob hc53
      refine rt_read (.int .u32 (x38.toNat : Int)) rfl rfl (fun s76 st76 => ?_) ?_
      ·try replace h6 := h6.up2 st76
       refine k_load_el cU (pre := []) (xs := x2) one78 rfl h6 rfl hx38 rfl ?_
       exact fq_end
      refine rt_fin ?_
      refine k_call_in cal87 rfl rfl ?_
      refine k_fn (rs := []) (args := [.pointer (some ⟨b9, 0, none⟩), .agg #[.int .i64 x28.2.e0, .int .i64 x28.2.e1, .int .i64 x28.2.e2, .int .i64 x28.2.e3], .int .u32 (x35.toNat : Int), .int .u32 (x38.toNat : Int)]) Tryd.func87 rfl rfl rfl rfl ?_
      refine k_seq ?_
      refine k_region ?_
      refine k_box rfl rfl ?_
      intro s77 b77 st77 h77 ge77
      have szs77 := st77.size
      have hRS53 := hRS53.trans0 st77
      replace h1 := h1.up2 st77
      replace h2 := h2.up2 st77
      replace h6 := h6.up2 st77
      replace h9 := h9.up2 st77
      replace h50 := h50.up2 st77
      replace hL := hL.up2 st77
      have lt77 := h77.lt
      refine k_nil ?_
      refine k_keep [(0, _), (2, _), (3, _), (5, _)] ⟨rfl, rfl, rfl, rfl, trivial⟩ ?_
      refine k_seq ?_
      obtain ⟨kj39, hK78, hc53⟩ := jn_out hc53
      have hE78 := Step.r0 K0 s77
      refine k_cutc (X := St × Nat × Nat × Nat × Nat) [(2, .int .u32 (x35.toNat : Int)), (3, .int .u32 (x38.toNat : Int))] (fun (xL : St × Nat × Nat × Nat × Nat) => match xL with | (sl, bv79, bv80, bv81, bv82) => [(8, .pointer (some ⟨bv79, 0, none⟩)), (9, .pointer (some ⟨bv80, 0, none⟩)), (10, .pointer (some ⟨bv81, 0, none⟩)), (11, .pointer (some ⟨bv82, 0, none⟩))]) (fun (xL : St × Nat × Nat × Nat × Nat) (wL : World) => match xL with | (sl, bv79, bv80, bv81, bv82) => sl.w = wL ∧ Step K0 s77 sl ∧ (Blk sl bv79 ⟨bv79 + 1, 0⟩ [.pointer (some ⟨b9, 0 + (x28.2.e0 : Int).toNat, none⟩)] 138) ∧ (s77.n ≤ bv79) ∧ (Blk sl bv80 ⟨bv80 + 1, 0⟩ [.pointer (some ⟨b9, 0 + (x28.2.e1 : Int).toNat, none⟩)] 138) ∧ (s77.n ≤ bv80) ∧ (Blk sl bv81 ⟨bv81 + 1, 0⟩ [.pointer (some ⟨b9, 0 + (x28.2.e2 : Int).toNat, none⟩)] 138) ∧ (s77.n ≤ bv81) ∧ (Blk sl bv82 ⟨bv82 + 1, 0⟩ [.pointer (some ⟨b9, 0 + (x28.2.e3 : Int).toNat, none⟩)] 138) ∧ (s77.n ≤ bv82) ∧ (bv80 ≠ bv79) ∧ (bv81 ≠ bv79) ∧ (bv81 ≠ bv80) ∧ (bv82 ≠ bv79) ∧ (bv82 ≠ bv80) ∧ (bv82 ≠ bv81) ∧ kj39 () = some rR53) ?_ ?_
      ·
       obtain ⟨x40, hx40, hc53⟩ := ob hc53
       obtain ⟨x41, hx41, hc53⟩ := ob hc53
       obtain ⟨x42, hx42, hc53⟩ := ob hc53
       obtain ⟨x43, hx43, hc53⟩ := ob hc53
       refine k_drawT (KN s77.n) 27 (.read 0 (.read 1 (.read 2 (.read 3 (.read 4 (.read 5 (.read 6 (.read 7 (.read 8 (.read 9 (.read 10 (.read 11 (.read 12 (.read 13 (.read 14 (.read 15 (.read 16 (.read 17 (.read 18 (.read 19 (.alt 20 (.alt 21 (.alt 22 (.alt 23 (.alt 24 (.alt 25 (.alt 26 .fin .no) .no) .no) .no) (.alt 23 (.alt 22 (.alt 24 (.alt 25 (.alt 26 .fin .no) .no) .no) .no) .no)) (.alt 22 (.alt 21 (.alt 23 (.alt 24 (.alt 25 (.alt 26 .fin .no) .no) .no) .no) (.alt 23 (.alt 21 (.alt 24 (.alt 25 (.alt 26 .fin .no) .no) .no) .no) .no)) (.alt 23 (.alt 21 (.alt 22 (.alt 24 (.alt 25 (.alt 26 .fin .no) .no) .no) .no) (.alt 22 (.alt 21 (.alt 24 (.alt 25 (.alt 26 .fin .no) .no) .no) .no) .no)) .no))) (.alt 21 (.alt 20 (.alt 22 (.alt 23 (.alt 24 (.alt 25 (.alt 26 .fin .no) .no) .no) .no) (.alt 23 (.alt 22 (.alt 24 (.alt 25 (.alt 26 .fin .no) .no) .no) .no) .no)) (.alt 22 (.alt 20 (.alt 23 (.alt 24 (.alt 25 (.alt 26 .fin .no) .no) .no) .no) (.alt 23 (.alt 20 (.alt 24 (.alt 25 (.alt 26 .fin .no) .no) .no) .no) .no)) (.alt 23 (.alt 20 (.alt 22 (.alt 24 (.alt 25 (.alt 26 .fin .no) .no) .no) .no) (.alt 22 (.alt 20 (.alt 24 (.alt 25 (.alt 26 .fin .no) .no) .no) .no) .no)) .no))) (.alt 22 (.alt 20 (.alt 21 (.alt 23 (.alt 24 (.alt 25 (.alt 26 .fin .no) .no) .no) .no) (.alt 23 (.alt 21 (.alt 24 (.alt 25 (.alt 26 .fin .no) .no) .no) .no) .no)) (.alt 21 (.alt 20 (.alt 23 (.alt 24 (.alt 25 (.alt 26 .fin .no) .no) .no) .no) (.alt 23 (.alt 20 (.alt 24 (.alt 25 (.alt 26 .fin .no) .no) .no) .no) .no)) (.alt 23 (.alt 20 (.alt 21 (.alt 24 (.alt 25 (.alt 26 .fin .no) .no) .no) .no) (.alt 21 (.alt 20 (.alt 24 (.alt 25 (.alt 26 .fin .no) .no) .no) .no) .no)) .no))) (.alt 23 (.alt 20 (.alt 21 (.alt 22 (.alt 24 (.alt 25 (.alt 26 .fin .no) .no) .no) .no) (.alt 22 (.alt 21 (.alt 24 (.alt 25 (.alt 26 .fin .no) .no) .no) .no) .no)) (.alt 21 (.alt 20 (.alt 22 (.alt 24 (.alt 25 (.alt 26 .fin .no) .no) .no) .no) (.alt 22 (.alt 20 (.alt 24 (.alt 25 (.alt 26 .fin .no) .no) .no) .no) .no)) (.alt 22 (.alt 20 (.alt 21 (.alt 24 (.alt 25 (.alt 26 .fin .no) .no) .no) .no) (.alt 21 (.alt 20 (.alt 24 (.alt 25 (.alt 26 .fin .no) .no) .no) .no) .no)) .no))) .no)))))))))))))))))))))))) mixed (by intro c h; (try simp only [KC, KO, KU, KN, KB] at h) <;> omega) rfl rfl rfl ?_
       intro s83 st83
       have szs83 := st83.size
       have hRS53 := hRS53.trans0 st83
       have hE78 := hE78.trans0 st83
       replace h77 := h77.up2 st83
       refine rt_read (.pointer (some ⟨b9, 0, none⟩)) rfl rfl (fun s84 st84 => ?_) ?_
       ·refine k_move rfl rfl ?_
        exact fq_end
       refine rt_read (.pointer (some ⟨b77, 0, none⟩)) rfl rfl (fun s85 st85 => ?_) ?_
       ·refine k_ixaddr_arr arr126 rfl rfl (by decide) (by decide) rfl ?_
        refine k_as (v := .pointer (some ⟨b77, 0, none⟩)) rfl ?_
        exact fq_end
       refine rt_read (.int .i64 x28.2.e0) rfl rfl (fun s86 st86 => ?_) ?_
       ·try replace h77 := h77.up2 st86
        refine k_load_blk one3 rfl h77 rfl rfl ?_
        exact fq_end
       refine rt_read (.pointer (some ⟨b9, 0, none⟩)) rfl rfl (fun s87 st87 => ?_) ?_
       ·refine k_nilCheck rfl rfl ?_
        exact fq_end
       refine rt_read (.pointer (some ⟨b9, 0 + (x28.2.e0 : Int).toNat, none⟩)) rfl rfl (fun s88 st88 => ?_) ?_
       ·refine k_ixarr (m := 0) arr118 rfl rfl h54 hx40 rfl ?_
        exact fq_end
       refine rt_read (.pointer (some ⟨b9, 0, none⟩)) rfl rfl (fun s89 st89 => ?_) ?_
       ·refine k_move rfl rfl ?_
        exact fq_end
       refine rt_read (.pointer (some ⟨b77, 1, none⟩)) rfl rfl (fun s90 st90 => ?_) ?_
       ·refine k_ixaddr_arr arr126 rfl rfl (by decide) (by decide) rfl ?_
        refine k_as (v := .pointer (some ⟨b77, 1, none⟩)) rfl ?_
        exact fq_end
       refine rt_read (.int .i64 x28.2.e1) rfl rfl (fun s91 st91 => ?_) ?_
       ·try replace h77 := h77.up2 st91
        refine k_load_blk one3 rfl h77 rfl rfl ?_
        exact fq_end
       refine rt_read (.pointer (some ⟨b9, 0, none⟩)) rfl rfl (fun s92 st92 => ?_) ?_
       ·refine k_nilCheck rfl rfl ?_
        exact fq_end
       refine rt_read (.pointer (some ⟨b9, 0 + (x28.2.e1 : Int).toNat, none⟩)) rfl rfl (fun s93 st93 => ?_) ?_
       ·refine k_ixarr (m := 0) arr118 rfl rfl h54 hx41 rfl ?_
        exact fq_end
       refine rt_read (.pointer (some ⟨b9, 0, none⟩)) rfl rfl (fun s94 st94 => ?_) ?_
       ·refine k_move rfl rfl ?_
        exact fq_end
       refine rt_read (.pointer (some ⟨b77, 2, none⟩)) rfl rfl (fun s95 st95 => ?_) ?_
       ·refine k_ixaddr_arr arr126 rfl rfl (by decide) (by decide) rfl ?_
        refine k_as (v := .pointer (some ⟨b77, 2, none⟩)) rfl ?_
        exact fq_end
       refine rt_read (.int .i64 x28.2.e2) rfl rfl (fun s96 st96 => ?_) ?_
       ·try replace h77 := h77.up2 st96
        refine k_load_blk one3 rfl h77 rfl rfl ?_
        exact fq_end
       refine rt_read (.pointer (some ⟨b9, 0, none⟩)) rfl rfl (fun s97 st97 => ?_) ?_
       ·refine k_nilCheck rfl rfl ?_
        exact fq_end
       refine rt_read (.pointer (some ⟨b9, 0 + (x28.2.e2 : Int).toNat, none⟩)) rfl rfl (fun s98 st98 => ?_) ?_
       ·refine k_ixarr (m := 0) arr118 rfl rfl h54 hx42 rfl ?_
        exact fq_end
       refine rt_read (.pointer (some ⟨b9, 0, none⟩)) rfl rfl (fun s99 st99 => ?_) ?_
       ·refine k_move rfl rfl ?_
        exact fq_end
       refine rt_read (.pointer (some ⟨b77, 3, none⟩)) rfl rfl (fun s100 st100 => ?_) ?_
       ·refine k_ixaddr_arr arr126 rfl rfl (by decide) (by decide) rfl ?_
        refine k_as (v := .pointer (some ⟨b77, 3, none⟩)) rfl ?_
        exact fq_end
       refine rt_read (.int .i64 x28.2.e3) rfl rfl (fun s101 st101 => ?_) ?_
       ·try replace h77 := h77.up2 st101
        refine k_load_blk one3 rfl h77 rfl rfl ?_
        exact fq_end
       refine rt_read (.pointer (some ⟨b9, 0, none⟩)) rfl rfl (fun s102 st102 => ?_) ?_
       ·refine k_nilCheck rfl rfl ?_
        exact fq_end
       refine rt_read (.pointer (some ⟨b9, 0 + (x28.2.e3 : Int).toNat, none⟩)) rfl rfl (fun s103 st103 => ?_) ?_
       ·refine k_ixarr (m := 0) arr118 rfl rfl h54 hx43 rfl ?_
        exact fq_end
       refine rt_alt rfl rfl ?_ ?_
       ·
        have hA104 := Step.r0 (KN s77.n) s83
        refine k_alloc zero138 rfl ?_
        intro s105 b105 st105 h105 ge105
        have szs105 := st105.size
        have hRS53 := hRS53.trans0 st105
        have hE78 := hE78.trans0 st105
        have hA104 := hA104.trans0 st105
        have lt105 := h105.lt
        refine rt_cont hA104 ?_
        refine rt_alt rfl rfl ?_ ?_
        ·
         have hA106 := Step.r0 (KN s77.n) s105
         refine k_alloc zero138 rfl ?_
         intro s107 b107 st107 h107 ge107
         have szs107 := st107.size
         have hRS53 := hRS53.trans0 st107
         have hE78 := hE78.trans0 st107
         have hA106 := hA106.trans0 st107
         replace h105 := h105.up2 st107
         have lt107 := h107.lt
         refine rt_cont hA106 ?_
         refine rt_alt rfl rfl ?_ ?_
         ·
          have hA108 := Step.r0 (KN s77.n) s107
          refine k_alloc zero138 rfl ?_
          intro s109 b109 st109 h109 ge109
          have szs109 := st109.size
          have hRS53 := hRS53.trans0 st109
          have hE78 := hE78.trans0 st109
          have hA108 := hA108.trans0 st109
          replace h105 := h105.up2 st109
          replace h107 := h107.up2 st109
          have lt109 := h109.lt
          refine rt_cont hA108 ?_
          refine rt_act rfl rfl ?_
          have hA110 := Step.r0 (KN s77.n) s109
          refine k_alloc zero138 rfl ?_
          intro s111 b111 st111 h111 ge111
          have szs111 := st111.size
          have hRS53 := hRS53.trans0 st111
          have hE78 := hE78.trans0 st111
          have hA110 := hA110.trans0 st111
          replace h105 := h105.up2 st111
          replace h107 := h107.up2 st111
          replace h109 := h109.up2 st111
          have lt111 := h111.lt
          refine rt_cont hA110 ?_
          refine rt_act0 rfl rfl ?_
          have hA112 := Step.r0 (KN s77.n) s111
          refine k_store_c (cs' := [.pointer (some ⟨b9, 0 + (x28.2.e0 : Int).toNat, none⟩)]) size138 rfl rfl h105 (by first | (simp; done) | omega | (dsimp only; omega)) (CellsOf.lit rfl rfl) rfl (by first | rfl | (simp; done) | (simp; omega)) rfl ?_
          intro s113 st113 h105
          have szs113 := st113.size
          have hRS53 := hRS53.c0 st113
          have hE78 := hE78.c0 st113
          have hA112 := hA112.c0 st113
          replace h107 := h107.up2 st113
          replace h109 := h109.up2 st113
          replace h111 := h111.up2 st113
          refine rt_cont0 hA112 ?_
          refine rt_act0 rfl rfl ?_
          have hA114 := Step.r0 (KN s77.n) s113
          refine k_store_c (cs' := [.pointer (some ⟨b9, 0 + (x28.2.e1 : Int).toNat, none⟩)]) size138 rfl rfl h107 (by first | (simp; done) | omega | (dsimp only; omega)) (CellsOf.lit rfl rfl) rfl (by first | rfl | (simp; done) | (simp; omega)) rfl ?_
          intro s115 st115 h107
          have szs115 := st115.size
          have hRS53 := hRS53.c0 st115
          have hE78 := hE78.c0 st115
          have hA114 := hA114.c0 st115
          replace h105 := h105.up2 st115
          replace h109 := h109.up2 st115
          replace h111 := h111.up2 st115
          refine rt_cont0 hA114 ?_
          refine rt_act0 rfl rfl ?_
          have hA116 := Step.r0 (KN s77.n) s115
          refine k_store_c (cs' := [.pointer (some ⟨b9, 0 + (x28.2.e2 : Int).toNat, none⟩)]) size138 rfl rfl h109 (by first | (simp; done) | omega | (dsimp only; omega)) (CellsOf.lit rfl rfl) rfl (by first | rfl | (simp; done) | (simp; omega)) rfl ?_
          intro s117 st117 h109
          have szs117 := st117.size
          have hRS53 := hRS53.c0 st117
          have hE78 := hE78.c0 st117
          have hA116 := hA116.c0 st117
          replace h105 := h105.up2 st117
          replace h107 := h107.up2 st117
          replace h111 := h111.up2 st117
          refine rt_cont0 hA116 ?_
          refine rt_fin ?_
          refine k_store_c (cs' := [.pointer (some ⟨b9, 0 + (x28.2.e3 : Int).toNat, none⟩)]) size138 rfl rfl h111 (by first | (simp; done) | omega | (dsimp only; omega)) (CellsOf.lit rfl rfl) rfl (by first | rfl | (simp; done) | (simp; omega)) rfl ?_
          intro s118 st118 h111
          have szs118 := st118.size
          have hRS53 := hRS53.c0 st118
          have hE78 := hE78.c0 st118
          replace h105 := h105.up2 st118
          replace h107 := h107.up2 st118
          replace h109 := h109.up2 st118
          refine k_nil ?_
          exact k_stop ⟨(s118, b105, b107, b109, b111), ⟨(by first | rfl | (simp <;> rfl)), (by first | rfl | (simp <;> rfl)), (by first | rfl | (simp <;> rfl)), (by first | rfl | (simp <;> rfl)), trivial⟩, ⟨rfl, rfl, trivial⟩, ⟨rfl, hE78, h105, (by first | omega | (simp <;> omega)), h107, (by first | omega | (simp <;> omega)), h109, (by first | omega | (simp <;> omega)), h111, (by first | omega | (simp <;> omega)), (by first | omega | (simp <;> omega)), (by first | omega | (simp <;> omega)), (by first | omega | (simp <;> omega)), (by first | omega | (simp <;> omega)), (by first | omega | (simp <;> omega)), (by first | omega | (simp <;> omega)), hc53⟩⟩
         ·
          refine rt_act rfl rfl ?_
          have hA119 := Step.r0 (KN s77.n) s107
          refine k_alloc zero138 rfl ?_
          intro s120 b120 st120 h120 ge120
          have szs120 := st120.size
          have hRS53 := hRS53.trans0 st120
          have hE78 := hE78.trans0 st120
          have hA119 := hA119.trans0 st120
          replace h105 := h105.up2 st120
          replace h107 := h107.up2 st120
          have lt120 := h120.lt
          refine rt_cont hA119 ?_
          refine rt_act rfl rfl ?_
          have hA121 := Step.r0 (KN s77.n) s120
          refine k_alloc zero138 rfl ?_
          intro s122 b122 st122 h122 ge122
          have szs122 := st122.size
          have hRS53 := hRS53.trans0 st122
          have hE78 := hE78.trans0 st122
          have hA121 := hA121.trans0 st122
          replace h105 := h105.up2 st122
          replace h107 := h107.up2 st122
          replace h120 := h120.up2 st122
          have lt122 := h122.lt
          refine rt_cont hA121 ?_
          refine rt_act0 rfl rfl ?_
          have hA123 := Step.r0 (KN s77.n) s122
          refine k_store_c (cs' := [.pointer (some ⟨b9, 0 + (x28.2.e0 : Int).toNat, none⟩)]) size138 rfl rfl h105 (by first | (simp; done) | omega | (dsimp only; omega)) (CellsOf.lit rfl rfl) rfl (by first | rfl | (simp; done) | (simp; omega)) rfl ?_
          intro s124 st124 h105
          have szs124 := st124.size
          have hRS53 := hRS53.c0 st124
          have hE78 := hE78.c0 st124
          have hA123 := hA123.c0 st124
          replace h107 := h107.up2 st124
          replace h120 := h120.up2 st124
          replace h122 := h122.up2 st124
          refine rt_cont0 hA123 ?_
          refine rt_act0 rfl rfl ?_
          have hA125 := Step.r0 (KN s77.n) s124
          refine k_store_c (cs' := [.pointer (some ⟨b9, 0 + (x28.2.e1 : Int).toNat, none⟩)]) size138 rfl rfl h107 (by first | (simp; done) | omega | (dsimp only; omega)) (CellsOf.lit rfl rfl) rfl (by first | rfl | (simp; done) | (simp; omega)) rfl ?_
          intro s126 st126 h107
          have szs126 := st126.size
          have hRS53 := hRS53.c0 st126
          have hE78 := hE78.c0 st126
          have hA125 := hA125.c0 st126
          replace h105 := h105.up2 st126
          replace h120 := h120.up2 st126
          replace h122 := h122.up2 st126
          refine rt_cont0 hA125 ?_
          refine rt_act0 rfl rfl ?_
          have hA127 := Step.r0 (KN s77.n) s126
          refine k_store_c (cs' := [.pointer (some ⟨b9, 0 + (x28.2.e2 : Int).toNat, none⟩)]) size138 rfl rfl h122 (by first | (simp; done) | omega | (dsimp only; omega)) (CellsOf.lit rfl rfl) rfl (by first | rfl | (simp; done) | (simp; omega)) rfl ?_
          intro s128 st128 h122
          have szs128 := st128.size
          have hRS53 := hRS53.c0 st128
          have hE78 := hE78.c0 st128
          have hA127 := hA127.c0 st128
          replace h105 := h105.up2 st128
          replace h107 := h107.up2 st128
          replace h120 := h120.up2 st128
          refine rt_cont0 hA127 ?_
          refine rt_fin ?_
          refine k_store_c (cs' := [.pointer (some ⟨b9, 0 + (x28.2.e3 : Int).toNat, none⟩)]) size138 rfl rfl h120 (by first | (simp; done) | omega | (dsimp only; omega)) (CellsOf.lit rfl rfl) rfl (by first | rfl | (simp; done) | (simp; omega)) rfl ?_
          intro s129 st129 h120
          have szs129 := st129.size
          have hRS53 := hRS53.c0 st129
          have hE78 := hE78.c0 st129
          replace h105 := h105.up2 st129
          replace h107 := h107.up2 st129
          replace h122 := h122.up2 st129
          refine k_nil ?_
          exact k_stop ⟨(s129, b105, b107, b122, b120), ⟨(by first | rfl | (simp <;> rfl)), (by first | rfl | (simp <;> rfl)), (by first | rfl | (simp <;> rfl)), (by first | rfl | (simp <;> rfl)), trivial⟩, ⟨rfl, rfl, trivial⟩, ⟨rfl, hE78, h105, (by first | omega | (simp <;> omega)), h107, (by first | omega | (simp <;> omega)), h122, (by first | omega | (simp <;> omega)), h120, (by first | omega | (simp <;> omega)), (by first | omega | (simp <;> omega)), (by first | omega | (simp <;> omega)), (by first | omega | (simp <;> omega)), (by first | omega | (simp <;> omega)), (by first | omega | (simp <;> omega)), (by first | omega | (simp <;> omega)), hc53⟩⟩
        ·
         refine rt_alt rfl rfl ?_ ?_
         ·
          have hA130 := Step.r0 (KN s77.n) s105
          refine k_alloc zero138 rfl ?_
          intro s131 b131 st131 h131 ge131
          have szs131 := st131.size
          have hRS53 := hRS53.trans0 st131
          have hE78 := hE78.trans0 st131
          have hA130 := hA130.trans0 st131
          replace h105 := h105.up2 st131
          have lt131 := h131.lt
          refine rt_cont hA130 ?_
          refine rt_alt rfl rfl ?_ ?_
          ·
           have hA132 := Step.r0 (KN s77.n) s131
           refine k_alloc zero138 rfl ?_
           intro s133 b133 st133 h133 ge133
           have szs133 := st133.size
           have hRS53 := hRS53.trans0 st133
           have hE78 := hE78.trans0 st133
           have hA132 := hA132.trans0 st133
           replace h105 := h105.up2 st133
           replace h131 := h131.up2 st133
           have lt133 := h133.lt
           refine rt_cont hA132 ?_
           refine rt_act rfl rfl ?_
           have hA134 := Step.r0 (KN s77.n) s133
           refine k_alloc zero138 rfl ?_
           intro s135 b135 st135 h135 ge135
           have szs135 := st135.size
           have hRS53 := hRS53.trans0 st135
           have hE78 := hE78.trans0 st135
           have hA134 := hA134.trans0 st135
           replace h105 := h105.up2 st135
           replace h131 := h131.up2 st135
           replace h133 := h133.up2 st135
           have lt135 := h135.lt
           refine rt_cont hA134 ?_
           refine rt_act0 rfl rfl ?_
           have hA136 := Step.r0 (KN s77.n) s135
           refine k_store_c (cs' := [.pointer (some ⟨b9, 0 + (x28.2.e0 : Int).toNat, none⟩)]) size138 rfl rfl h105 (by first | (simp; done) | omega | (dsimp only; omega)) (CellsOf.lit rfl rfl) rfl (by first | rfl | (simp; done) | (simp; omega)) rfl ?_
           intro s137 st137 h105
           have szs137 := st137.size
           have hRS53 := hRS53.c0 st137
           have hE78 := hE78.c0 st137
           have hA136 := hA136.c0 st137
           replace h131 := h131.up2 st137
           replace h133 := h133.up2 st137
           replace h135 := h135.up2 st137
           refine rt_cont0 hA136 ?_
           refine rt_act0 rfl rfl ?_
           have hA138 := Step.r0 (KN s77.n) s137
           refine k_store_c (cs' := [.pointer (some ⟨b9, 0 + (x28.2.e1 : Int).toNat, none⟩)]) size138 rfl rfl h133 (by first | (simp; done) | omega | (dsimp only; omega)) (CellsOf.lit rfl rfl) rfl (by first | rfl | (simp; done) | (simp; omega)) rfl ?_
           intro s139 st139 h133
           have szs139 := st139.size
           have hRS53 := hRS53.c0 st139
           have hE78 := hE78.c0 st139
           have hA138 := hA138.c0 st139
           replace h105 := h105.up2 st139
           replace h131 := h131.up2 st139
           replace h135 := h135.up2 st139
           refine rt_cont0 hA138 ?_
           refine rt_act0 rfl rfl ?_
           have hA140 := Step.r0 (KN s77.n) s139
           refine k_store_c (cs' := [.pointer (some ⟨b9, 0 + (x28.2.e2 : Int).toNat, none⟩)]) size138 rfl rfl h131 (by first | (simp; done) | omega | (dsimp only; omega)) (CellsOf.lit rfl rfl) rfl (by first | rfl | (simp; done) | (simp; omega)) rfl ?_
           intro s141 st141 h131
           have szs141 := st141.size
           have hRS53 := hRS53.c0 st141
           have hE78 := hE78.c0 st141
           have hA140 := hA140.c0 st141
           replace h105 := h105.up2 st141
           replace h133 := h133.up2 st141
           replace h135 := h135.up2 st141
           refine rt_cont0 hA140 ?_
           refine rt_fin ?_
           refine k_store_c (cs' := [.pointer (some ⟨b9, 0 + (x28.2.e3 : Int).toNat, none⟩)]) size138 rfl rfl h135 (by first | (simp; done) | omega | (dsimp only; omega)) (CellsOf.lit rfl rfl) rfl (by first | rfl | (simp; done) | (simp; omega)) rfl ?_
           intro s142 st142 h135
           have szs142 := st142.size
           have hRS53 := hRS53.c0 st142
           have hE78 := hE78.c0 st142
           replace h105 := h105.up2 st142
           replace h131 := h131.up2 st142
           replace h133 := h133.up2 st142
           refine k_nil ?_
           exact k_stop ⟨(s142, b105, b133, b131, b135), ⟨(by first | rfl | (simp <;> rfl)), (by first | rfl | (simp <;> rfl)), (by first | rfl | (simp <;> rfl)), (by first | rfl | (simp <;> rfl)), trivial⟩, ⟨rfl, rfl, trivial⟩, ⟨rfl, hE78, h105, (by first | omega | (simp <;> omega)), h133, (by first | omega | (simp <;> omega)), h131, (by first | omega | (simp <;> omega)), h135, (by first | omega | (simp <;> omega)), (by first | omega | (simp <;> omega)), (by first | omega | (simp <;> omega)), (by first | omega | (simp <;> omega)), (by first | omega | (simp <;> omega)), (by first | omega | (simp <;> omega)), (by first | omega | (simp <;> omega)), hc53⟩⟩
          ·
           refine rt_act rfl rfl ?_
           have hA143 := Step.r0 (KN s77.n) s131
           refine k_alloc zero138 rfl ?_
           intro s144 b144 st144 h144 ge144
           have szs144 := st144.size
           have hRS53 := hRS53.trans0 st144
           have hE78 := hE78.trans0 st144
           have hA143 := hA143.trans0 st144
           replace h105 := h105.up2 st144
           replace h131 := h131.up2 st144
           have lt144 := h144.lt
           refine rt_cont hA143 ?_
           refine rt_act rfl rfl ?_
           have hA145 := Step.r0 (KN s77.n) s144
           refine k_alloc zero138 rfl ?_
           intro s146 b146 st146 h146 ge146
           have szs146 := st146.size
           have hRS53 := hRS53.trans0 st146
           have hE78 := hE78.trans0 st146
           have hA145 := hA145.trans0 st146
           replace h105 := h105.up2 st146
           replace h131 := h131.up2 st146
           replace h144 := h144.up2 st146
           have lt146 := h146.lt
           refine rt_cont hA145 ?_
           refine rt_act0 rfl rfl ?_
           have hA147 := Step.r0 (KN s77.n) s146
           refine k_store_c (cs' := [.pointer (some ⟨b9, 0 + (x28.2.e0 : Int).toNat, none⟩)]) size138 rfl rfl h105 (by first | (simp; done) | omega | (dsimp only; omega)) (CellsOf.lit rfl rfl) rfl (by first | rfl | (simp; done) | (simp; omega)) rfl ?_
           intro s148 st148 h105
           have szs148 := st148.size
           have hRS53 := hRS53.c0 st148
           have hE78 := hE78.c0 st148
           have hA147 := hA147.c0 st148
           replace h131 := h131.up2 st148
           replace h144 := h144.up2 st148
           replace h146 := h146.up2 st148
           refine rt_cont0 hA147 ?_
           refine rt_act0 rfl rfl ?_
           have hA149 := Step.r0 (KN s77.n) s148
           refine k_store_c (cs' := [.pointer (some ⟨b9, 0 + (x28.2.e1 : Int).toNat, none⟩)]) size138 rfl rfl h146 (by first | (simp; done) | omega | (dsimp only; omega)) (CellsOf.lit rfl rfl) rfl (by first | rfl | (simp; done) | (simp; omega)) rfl ?_
           intro s150 st150 h146
           have szs150 := st150.size
           have hRS53 := hRS53.c0 st150
           have hE78 := hE78.c0 st150
           have hA149 := hA149.c0 st150
           replace h105 := h105.up2 st150
           replace h131 := h131.up2 st150
           replace h144 := h144.up2 st150
           refine rt_cont0 hA149 ?_
           refine rt_act0 rfl rfl ?_
           have hA151 := Step.r0 (KN s77.n) s150
           refine k_store_c (cs' := [.pointer (some ⟨b9, 0 + (x28.2.e2 : Int).toNat, none⟩)]) size138 rfl rfl h131 (by first | (simp; done) | omega | (dsimp only; omega)) (CellsOf.lit rfl rfl) rfl (by first | rfl | (simp; done) | (simp; omega)) rfl ?_
           intro s152 st152 h131
           have szs152 := st152.size
           have hRS53 := hRS53.c0 st152
           have hE78 := hE78.c0 st152
           have hA151 := hA151.c0 st152
           replace h105 := h105.up2 st152
           replace h144 := h144.up2 st152
           replace h146 := h146.up2 st152
           refine rt_cont0 hA151 ?_
           refine rt_fin ?_
           refine k_store_c (cs' := [.pointer (some ⟨b9, 0 + (x28.2.e3 : Int).toNat, none⟩)]) size138 rfl rfl h144 (by first | (simp; done) | omega | (dsimp only; omega)) (CellsOf.lit rfl rfl) rfl (by first | rfl | (simp; done) | (simp; omega)) rfl ?_
           intro s153 st153 h144
           have szs153 := st153.size
           have hRS53 := hRS53.c0 st153
           have hE78 := hE78.c0 st153
           replace h105 := h105.up2 st153
           replace h131 := h131.up2 st153
           replace h146 := h146.up2 st153
           refine k_nil ?_
           exact k_stop ⟨(s153, b105, b146, b131, b144), ⟨(by first | rfl | (simp <;> rfl)), (by first | rfl | (simp <;> rfl)), (by first | rfl | (simp <;> rfl)), (by first | rfl | (simp <;> rfl)), trivial⟩, ⟨rfl, rfl, trivial⟩, ⟨rfl, hE78, h105, (by first | omega | (simp <;> omega)), h146, (by first | omega | (simp <;> omega)), h131, (by first | omega | (simp <;> omega)), h144, (by first | omega | (simp <;> omega)), (by first | omega | (simp <;> omega)), (by first | omega | (simp <;> omega)), (by first | omega | (simp <;> omega)), (by first | omega | (simp <;> omega)), (by first | omega | (simp <;> omega)), (by first | omega | (simp <;> omega)), hc53⟩⟩
         ·
          refine rt_act rfl rfl ?_
          have hA154 := Step.r0 (KN s77.n) s105
          refine k_alloc zero138 rfl ?_
          intro s155 b155 st155 h155 ge155
          have szs155 := st155.size
          have hRS53 := hRS53.trans0 st155
          have hE78 := hE78.trans0 st155
          have hA154 := hA154.trans0 st155
          replace h105 := h105.up2 st155
          have lt155 := h155.lt
          refine rt_cont hA154 ?_
          refine rt_alt rfl rfl ?_ ?_
          ·
           have hA156 := Step.r0 (KN s77.n) s155
           refine k_alloc zero138 rfl ?_
           intro s157 b157 st157 h157 ge157
           have szs157 := st157.size
           have hRS53 := hRS53.trans0 st157
           have hE78 := hE78.trans0 st157
           have hA156 := hA156.trans0 st157
           replace h105 := h105.up2 st157
           replace h155 := h155.up2 st157
           have lt157 := h157.lt
           refine rt_cont hA156 ?_
           refine rt_act rfl rfl ?_
           have hA158 := Step.r0 (KN s77.n) s157
           refine k_alloc zero138 rfl ?_
           intro s159 b159 st159 h159 ge159
           have szs159 := st159.size
           have hRS53 := hRS53.trans0 st159
           have hE78 := hE78.trans0 st159
           have hA158 := hA158.trans0 st159
           replace h105 := h105.up2 st159
           replace h155 := h155.up2 st159
           replace h157 := h157.up2 st159
           have lt159 := h159.lt
           refine rt_cont hA158 ?_
           refine rt_act0 rfl rfl ?_
           have hA160 := Step.r0 (KN s77.n) s159
           refine k_store_c (cs' := [.pointer (some ⟨b9, 0 + (x28.2.e0 : Int).toNat, none⟩)]) size138 rfl rfl h105 (by first | (simp; done) | omega | (dsimp only; omega)) (CellsOf.lit rfl rfl) rfl (by first | rfl | (simp; done) | (simp; omega)) rfl ?_
           intro s161 st161 h105
           have szs161 := st161.size
           have hRS53 := hRS53.c0 st161
           have hE78 := hE78.c0 st161
           have hA160 := hA160.c0 st161
           replace h155 := h155.up2 st161
           replace h157 := h157.up2 st161
           replace h159 := h159.up2 st161
           refine rt_cont0 hA160 ?_
           refine rt_act0 rfl rfl ?_
           have hA162 := Step.r0 (KN s77.n) s161
           refine k_store_c (cs' := [.pointer (some ⟨b9, 0 + (x28.2.e1 : Int).toNat, none⟩)]) size138 rfl rfl h157 (by first | (simp; done) | omega | (dsimp only; omega)) (CellsOf.lit rfl rfl) rfl (by first | rfl | (simp; done) | (simp; omega)) rfl ?_
           intro s163 st163 h157
           have szs163 := st163.size
           have hRS53 := hRS53.c0 st163
           have hE78 := hE78.c0 st163
           have hA162 := hA162.c0 st163
           replace h105 := h105.up2 st163
           replace h155 := h155.up2 st163
           replace h159 := h159.up2 st163
           refine rt_cont0 hA162 ?_
           refine rt_act0 rfl rfl ?_
           have hA164 := Step.r0 (KN s77.n) s163
           refine k_store_c (cs' := [.pointer (some ⟨b9, 0 + (x28.2.e2 : Int).toNat, none⟩)]) size138 rfl rfl h159 (by first | (simp; done) | omega | (dsimp only; omega)) (CellsOf.lit rfl rfl) rfl (by first | rfl | (simp; done) | (simp; omega)) rfl ?_
           intro s165 st165 h159
           have szs165 := st165.size
           have hRS53 := hRS53.c0 st165
           have hE78 := hE78.c0 st165
           have hA164 := hA164.c0 st165
           replace h105 := h105.up2 st165
           replace h155 := h155.up2 st165
           replace h157 := h157.up2 st165
           refine rt_cont0 hA164 ?_
           refine rt_fin ?_
           refine k_store_c (cs' := [.pointer (some ⟨b9, 0 + (x28.2.e3 : Int).toNat, none⟩)]) size138 rfl rfl h155 (by first | (simp; done) | omega | (dsimp only; omega)) (CellsOf.lit rfl rfl) rfl (by first | rfl | (simp; done) | (simp; omega)) rfl ?_
           intro s166 st166 h155
           have szs166 := st166.size
           have hRS53 := hRS53.c0 st166
           have hE78 := hE78.c0 st166
           replace h105 := h105.up2 st166
           replace h157 := h157.up2 st166
           replace h159 := h159.up2 st166
           refine k_nil ?_
           exact k_stop ⟨(s166, b105, b157, b159, b155), ⟨(by first | rfl | (simp <;> rfl)), (by first | rfl | (simp <;> rfl)), (by first | rfl | (simp <;> rfl)), (by first | rfl | (simp <;> rfl)), trivial⟩, ⟨rfl, rfl, trivial⟩, ⟨rfl, hE78, h105, (by first | omega | (simp <;> omega)), h157, (by first | omega | (simp <;> omega)), h159, (by first | omega | (simp <;> omega)), h155, (by first | omega | (simp <;> omega)), (by first | omega | (simp <;> omega)), (by first | omega | (simp <;> omega)), (by first | omega | (simp <;> omega)), (by first | omega | (simp <;> omega)), (by first | omega | (simp <;> omega)), (by first | omega | (simp <;> omega)), hc53⟩⟩
          ·
           refine rt_act rfl rfl ?_
           have hA167 := Step.r0 (KN s77.n) s155
           refine k_alloc zero138 rfl ?_
           intro s168 b168 st168 h168 ge168
           have szs168 := st168.size
           have hRS53 := hRS53.trans0 st168
           have hE78 := hE78.trans0 st168
           have hA167 := hA167.trans0 st168
           replace h105 := h105.up2 st168
           replace h155 := h155.up2 st168
           have lt168 := h168.lt
           refine rt_cont hA167 ?_
           refine rt_act rfl rfl ?_
           have hA169 := Step.r0 (KN s77.n) s168
           refine k_alloc zero138 rfl ?_
           intro s170 b170 st170 h170 ge170
           have szs170 := st170.size
           have hRS53 := hRS53.trans0 st170
           have hE78 := hE78.trans0 st170
           have hA169 := hA169.trans0 st170
           replace h105 := h105.up2 st170
           replace h155 := h155.up2 st170
           replace h168 := h168.up2 st170
           have lt170 := h170.lt
           refine rt_cont hA169 ?_
           refine rt_act0 rfl rfl ?_
           have hA171 := Step.r0 (KN s77.n) s170
           refine k_store_c (cs' := [.pointer (some ⟨b9, 0 + (x28.2.e0 : Int).toNat, none⟩)]) size138 rfl rfl h105 (by first | (simp; done) | omega | (dsimp only; omega)) (CellsOf.lit rfl rfl) rfl (by first | rfl | (simp; done) | (simp; omega)) rfl ?_
           intro s172 st172 h105
           have szs172 := st172.size
           have hRS53 := hRS53.c0 st172
           have hE78 := hE78.c0 st172
           have hA171 := hA171.c0 st172
           replace h155 := h155.up2 st172
           replace h168 := h168.up2 st172
           replace h170 := h170.up2 st172
           refine rt_cont0 hA171 ?_
           refine rt_act0 rfl rfl ?_
           have hA173 := Step.r0 (KN s77.n) s172
           refine k_store_c (cs' := [.pointer (some ⟨b9, 0 + (x28.2.e1 : Int).toNat, none⟩)]) size138 rfl rfl h170 (by first | (simp; done) | omega | (dsimp only; omega)) (CellsOf.lit rfl rfl) rfl (by first | rfl | (simp; done) | (simp; omega)) rfl ?_
           intro s174 st174 h170
           have szs174 := st174.size
           have hRS53 := hRS53.c0 st174
           have hE78 := hE78.c0 st174
           have hA173 := hA173.c0 st174
           replace h105 := h105.up2 st174
           replace h155 := h155.up2 st174
           replace h168 := h168.up2 st174
           refine rt_cont0 hA173 ?_
           refine rt_act0 rfl rfl ?_
           have hA175 := Step.r0 (KN s77.n) s174
           refine k_store_c (cs' := [.pointer (some ⟨b9, 0 + (x28.2.e2 : Int).toNat, none⟩)]) size138 rfl rfl h168 (by first | (simp; done) | omega | (dsimp only; omega)) (CellsOf.lit rfl rfl) rfl (by first | rfl | (simp; done) | (simp; omega)) rfl ?_
           intro s176 st176 h168
           have szs176 := st176.size
           have hRS53 := hRS53.c0 st176
           have hE78 := hE78.c0 st176
           have hA175 := hA175.c0 st176
           replace h105 := h105.up2 st176
           replace h155 := h155.up2 st176
           replace h170 := h170.up2 st176
           refine rt_cont0 hA175 ?_
           refine rt_fin ?_
           refine k_store_c (cs' := [.pointer (some ⟨b9, 0 + (x28.2.e3 : Int).toNat, none⟩)]) size138 rfl rfl h155 (by first | (simp; done) | omega | (dsimp only; omega)) (CellsOf.lit rfl rfl) rfl (by first | rfl | (simp; done) | (simp; omega)) rfl ?_
           intro s177 st177 h155
           have szs177 := st177.size
           have hRS53 := hRS53.c0 st177
           have hE78 := hE78.c0 st177
           replace h105 := h105.up2 st177
           replace h168 := h168.up2 st177
           replace h170 := h170.up2 st177
           refine k_nil ?_
           exact k_stop ⟨(s177, b105, b170, b168, b155), ⟨(by first | rfl | (simp <;> rfl)), (by first | rfl | (simp <;> rfl)), (by first | rfl | (simp <;> rfl)), (by first | rfl | (simp <;> rfl)), trivial⟩, ⟨rfl, rfl, trivial⟩, ⟨rfl, hE78, h105, (by first | omega | (simp <;> omega)), h170, (by first | omega | (simp <;> omega)), h168, (by first | omega | (simp <;> omega)), h155, (by first | omega | (simp <;> omega)), (by first | omega | (simp <;> omega)), (by first | omega | (simp <;> omega)), (by first | omega | (simp <;> omega)), (by first | omega | (simp <;> omega)), (by first | omega | (simp <;> omega)), (by first | omega | (simp <;> omega)), hc53⟩⟩
       ·
        refine rt_alt rfl rfl ?_ ?_
        ·
         have hA178 := Step.r0 (KN s77.n) s83
         refine k_alloc zero138 rfl ?_
         intro s179 b179 st179 h179 ge179
         have szs179 := st179.size
         have hRS53 := hRS53.trans0 st179
         have hE78 := hE78.trans0 st179
         have hA178 := hA178.trans0 st179
         have lt179 := h179.lt
         refine rt_cont hA178 ?_
         refine rt_alt rfl rfl ?_ ?_
         ·
          have hA180 := Step.r0 (KN s77.n) s179
          refine k_alloc zero138 rfl ?_
          intro s181 b181 st181 h181 ge181
          have szs181 := st181.size
          have hRS53 := hRS53.trans0 st181
          have hE78 := hE78.trans0 st181
          have hA180 := hA180.trans0 st181
          replace h179 := h179.up2 st181
          have lt181 := h181.lt
          refine rt_cont hA180 ?_
          refine rt_alt rfl rfl ?_ ?_
          ·
           have hA182 := Step.r0 (KN s77.n) s181
           refine k_alloc zero138 rfl ?_
           intro s183 b183 st183 h183 ge183
           have szs183 := st183.size
           have hRS53 := hRS53.trans0 st183
           have hE78 := hE78.trans0 st183
           have hA182 := hA182.trans0 st183
           replace h179 := h179.up2 st183
           replace h181 := h181.up2 st183
           have lt183 := h183.lt
           refine rt_cont hA182 ?_
           refine rt_act rfl rfl ?_
           have hA184 := Step.r0 (KN s77.n) s183
           refine k_alloc zero138 rfl ?_
           intro s185 b185 st185 h185 ge185
           have szs185 := st185.size
           have hRS53 := hRS53.trans0 st185
           have hE78 := hE78.trans0 st185
           have hA184 := hA184.trans0 st185
           replace h179 := h179.up2 st185
           replace h181 := h181.up2 st185
           replace h183 := h183.up2 st185
           have lt185 := h185.lt
           refine rt_cont hA184 ?_
           refine rt_act0 rfl rfl ?_
           have hA186 := Step.r0 (KN s77.n) s185
           refine k_store_c (cs' := [.pointer (some ⟨b9, 0 + (x28.2.e0 : Int).toNat, none⟩)]) size138 rfl rfl h181 (by first | (simp; done) | omega | (dsimp only; omega)) (CellsOf.lit rfl rfl) rfl (by first | rfl | (simp; done) | (simp; omega)) rfl ?_
           intro s187 st187 h181
           have szs187 := st187.size
           have hRS53 := hRS53.c0 st187
           have hE78 := hE78.c0 st187
           have hA186 := hA186.c0 st187
           replace h179 := h179.up2 st187
           replace h183 := h183.up2 st187
           replace h185 := h185.up2 st187
           refine rt_cont0 hA186 ?_
           refine rt_act0 rfl rfl ?_
           have hA188 := Step.r0 (KN s77.n) s187
           refine k_store_c (cs' := [.pointer (some ⟨b9, 0 + (x28.2.e1 : Int).toNat, none⟩)]) size138 rfl rfl h179 (by first | (simp; done) | omega | (dsimp only; omega)) (CellsOf.lit rfl rfl) rfl (by first | rfl | (simp; done) | (simp; omega)) rfl ?_
           intro s189 st189 h179
           have szs189 := st189.size
           have hRS53 := hRS53.c0 st189
           have hE78 := hE78.c0 st189
           have hA188 := hA188.c0 st189
           replace h181 := h181.up2 st189
           replace h183 := h183.up2 st189
           replace h185 := h185.up2 st189
           refine rt_cont0 hA188 ?_
           refine rt_act0 rfl rfl ?_
           have hA190 := Step.r0 (KN s77.n) s189
           refine k_store_c (cs' := [.pointer (some ⟨b9, 0 + (x28.2.e2 : Int).toNat, none⟩)]) size138 rfl rfl h183 (by first | (simp; done) | omega | (dsimp only; omega)) (CellsOf.lit rfl rfl) rfl (by first | rfl | (simp; done) | (simp; omega)) rfl ?_
           intro s191 st191 h183
           have szs191 := st191.size
           have hRS53 := hRS53.c0 st191
           have hE78 := hE78.c0 st191
           have hA190 := hA190.c0 st191
           replace h179 := h179.up2 st191
           replace h181 := h181.up2 st191
           replace h185 := h185.up2 st191
           refine rt_cont0 hA190 ?_
           refine rt_fin ?_
           refine k_store_c (cs' := [.pointer (some ⟨b9, 0 + (x28.2.e3 : Int).toNat, none⟩)]) size138 rfl rfl h185 (by first | (simp; done) | omega | (dsimp only; omega)) (CellsOf.lit rfl rfl) rfl (by first | rfl | (simp; done) | (simp; omega)) rfl ?_
           intro s192 st192 h185
           have szs192 := st192.size
           have hRS53 := hRS53.c0 st192
           have hE78 := hE78.c0 st192
           replace h179 := h179.up2 st192
           replace h181 := h181.up2 st192
           replace h183 := h183.up2 st192
           refine k_nil ?_
           exact k_stop ⟨(s192, b181, b179, b183, b185), ⟨(by first | rfl | (simp <;> rfl)), (by first | rfl | (simp <;> rfl)), (by first | rfl | (simp <;> rfl)), (by first | rfl | (simp <;> rfl)), trivial⟩, ⟨rfl, rfl, trivial⟩, ⟨rfl, hE78, h181, (by first | omega | (simp <;> omega)), h179, (by first | omega | (simp <;> omega)), h183, (by first | omega | (simp <;> omega)), h185, (by first | omega | (simp <;> omega)), (by first | omega | (simp <;> omega)), (by first | omega | (simp <;> omega)), (by first | omega | (simp <;> omega)), (by first | omega | (simp <;> omega)), (by first | omega | (simp <;> omega)), (by first | omega | (simp <;> omega)), hc53⟩⟩
          ·
           refine rt_act rfl rfl ?_
           have hA193 := Step.r0 (KN s77.n) s181
           refine k_alloc zero138 rfl ?_
           intro s194 b194 st194 h194 ge194
           have szs194 := st194.size
           have hRS53 := hRS53.trans0 st194
           have hE78 := hE78.trans0 st194
           have hA193 := hA193.trans0 st194
           replace h179 := h179.up2 st194
           replace h181 := h181.up2 st194
           have lt194 := h194.lt
           refine rt_cont hA193 ?_
           refine rt_act rfl rfl ?_
           have hA195 := Step.r0 (KN s77.n) s194
           refine k_alloc zero138 rfl ?_
           intro s196 b196 st196 h196 ge196
           have szs196 := st196.size
           have hRS53 := hRS53.trans0 st196
           have hE78 := hE78.trans0 st196
           have hA195 := hA195.trans0 st196
           replace h179 := h179.up2 st196
           replace h181 := h181.up2 st196
           replace h194 := h194.up2 st196
           have lt196 := h196.lt
           refine rt_cont hA195 ?_
           refine rt_act0 rfl rfl ?_
           have hA197 := Step.r0 (KN s77.n) s196
           refine k_store_c (cs' := [.pointer (some ⟨b9, 0 + (x28.2.e0 : Int).toNat, none⟩)]) size138 rfl rfl h181 (by first | (simp; done) | omega | (dsimp only; omega)) (CellsOf.lit rfl rfl) rfl (by first | rfl | (simp; done) | (simp; omega)) rfl ?_
           intro s198 st198 h181
           have szs198 := st198.size
           have hRS53 := hRS53.c0 st198
           have hE78 := hE78.c0 st198
           have hA197 := hA197.c0 st198
           replace h179 := h179.up2 st198
           replace h194 := h194.up2 st198
           replace h196 := h196.up2 st198
           refine rt_cont0 hA197 ?_
           refine rt_act0 rfl rfl ?_
           have hA199 := Step.r0 (KN s77.n) s198
           refine k_store_c (cs' := [.pointer (some ⟨b9, 0 + (x28.2.e1 : Int).toNat, none⟩)]) size138 rfl rfl h179 (by first | (simp; done) | omega | (dsimp only; omega)) (CellsOf.lit rfl rfl) rfl (by first | rfl | (simp; done) | (simp; omega)) rfl ?_
           intro s200 st200 h179
           have szs200 := st200.size
           have hRS53 := hRS53.c0 st200
           have hE78 := hE78.c0 st200
           have hA199 := hA199.c0 st200
           replace h181 := h181.up2 st200
           replace h194 := h194.up2 st200
           replace h196 := h196.up2 st200
           refine rt_cont0 hA199 ?_
           refine rt_act0 rfl rfl ?_
           have hA201 := Step.r0 (KN s77.n) s200
           refine k_store_c (cs' := [.pointer (some ⟨b9, 0 + (x28.2.e2 : Int).toNat, none⟩)]) size138 rfl rfl h196 (by first | (simp; done) | omega | (dsimp only; omega)) (CellsOf.lit rfl rfl) rfl (by first | rfl | (simp; done) | (simp; omega)) rfl ?_
           intro s202 st202 h196
           have szs202 := st202.size
           have hRS53 := hRS53.c0 st202
           have hE78 := hE78.c0 st202
           have hA201 := hA201.c0 st202
           replace h179 := h179.up2 st202
           replace h181 := h181.up2 st202
           replace h194 := h194.up2 st202
           refine rt_cont0 hA201 ?_
           refine rt_fin ?_
           refine k_store_c (cs' := [.pointer (some ⟨b9, 0 + (x28.2.e3 : Int).toNat, none⟩)]) size138 rfl rfl h194 (by first | (simp; done) | omega | (dsimp only; omega)) (CellsOf.lit rfl rfl) rfl (by first | rfl | (simp; done) | (simp; omega)) rfl ?_
           intro s203 st203 h194
           have szs203 := st203.size
           have hRS53 := hRS53.c0 st203
           have hE78 := hE78.c0 st203
           replace h179 := h179.up2 st203
           replace h181 := h181.up2 st203
           replace h196 := h196.up2 st203
           refine k_nil ?_
           exact k_stop ⟨(s203, b181, b179, b196, b194), ⟨(by first | rfl | (simp <;> rfl)), (by first | rfl | (simp <;> rfl)), (by first | rfl | (simp <;> rfl)), (by first | rfl | (simp <;> rfl)), trivial⟩, ⟨rfl, rfl, trivial⟩, ⟨rfl, hE78, h181, (by first | omega | (simp <;> omega)), h179, (by first | omega | (simp <;> omega)), h196, (by first | omega | (simp <;> omega)), h194, (by first | omega | (simp <;> omega)), (by first | omega | (simp <;> omega)), (by first | omega | (simp <;> omega)), (by first | omega | (simp <;> omega)), (by first | omega | (simp <;> omega)), (by first | omega | (simp <;> omega)), (by first | omega | (simp <;> omega)), hc53⟩⟩
         ·
          refine rt_alt rfl rfl ?_ ?_
          ·
           have hA204 := Step.r0 (KN s77.n) s179
           refine k_alloc zero138 rfl ?_
           intro s205 b205 st205 h205 ge205
           have szs205 := st205.size
           have hRS53 := hRS53.trans0 st205
           have hE78 := hE78.trans0 st205
           have hA204 := hA204.trans0 st205
           replace h179 := h179.up2 st205
           have lt205 := h205.lt
           refine rt_cont hA204 ?_
           refine rt_alt rfl rfl ?_ ?_
           ·
            have hA206 := Step.r0 (KN s77.n) s205
            refine k_alloc zero138 rfl ?_
            intro s207 b207 st207 h207 ge207
            have szs207 := st207.size
            have hRS53 := hRS53.trans0 st207
            have hE78 := hE78.trans0 st207
            have hA206 := hA206.trans0 st207
            replace h179 := h179.up2 st207
            replace h205 := h205.up2 st207
            have lt207 := h207.lt
            refine rt_cont hA206 ?_
            refine rt_act rfl rfl ?_
            have hA208 := Step.r0 (KN s77.n) s207
            refine k_alloc zero138 rfl ?_
            intro s209 b209 st209 h209 ge209
            have szs209 := st209.size
            have hRS53 := hRS53.trans0 st209
            have hE78 := hE78.trans0 st209
            have hA208 := hA208.trans0 st209
            replace h179 := h179.up2 st209
            replace h205 := h205.up2 st209
            replace h207 := h207.up2 st209
            have lt209 := h209.lt
            refine rt_cont hA208 ?_
            refine rt_act0 rfl rfl ?_
            have hA210 := Step.r0 (KN s77.n) s209
            refine k_store_c (cs' := [.pointer (some ⟨b9, 0 + (x28.2.e0 : Int).toNat, none⟩)]) size138 rfl rfl h207 (by first | (simp; done) | omega | (dsimp only; omega)) (CellsOf.lit rfl rfl) rfl (by first | rfl | (simp; done) | (simp; omega)) rfl ?_
            intro s211 st211 h207
            have szs211 := st211.size
            have hRS53 := hRS53.c0 st211
            have hE78 := hE78.c0 st211
            have hA210 := hA210.c0 st211
            replace h179 := h179.up2 st211
            replace h205 := h205.up2 st211
            replace h209 := h209.up2 st211
            refine rt_cont0 hA210 ?_
            refine rt_act0 rfl rfl ?_
            have hA212 := Step.r0 (KN s77.n) s211
            refine k_store_c (cs' := [.pointer (some ⟨b9, 0 + (x28.2.e1 : Int).toNat, none⟩)]) size138 rfl rfl h179 (by first | (simp; done) | omega | (dsimp only; omega)) (CellsOf.lit rfl rfl) rfl (by first | rfl | (simp; done) | (simp; omega)) rfl ?_
            intro s213 st213 h179
            have szs213 := st213.size
            have hRS53 := hRS53.c0 st213
            have hE78 := hE78.c0 st213
            have hA212 := hA212.c0 st213
            replace h205 := h205.up2 st213
            replace h207 := h207.up2 st213
            replace h209 := h209.up2 st213
            refine rt_cont0 hA212 ?_
            refine rt_act0 rfl rfl ?_
            have hA214 := Step.r0 (KN s77.n) s213
            refine k_store_c (cs' := [.pointer (some ⟨b9, 0 + (x28.2.e2 : Int).toNat, none⟩)]) size138 rfl rfl h205 (by first | (simp; done) | omega | (dsimp only; omega)) (CellsOf.lit rfl rfl) rfl (by first | rfl | (simp; done) | (simp; omega)) rfl ?_
            intro s215 st215 h205
            have szs215 := st215.size
            have hRS53 := hRS53.c0 st215
            have hE78 := hE78.c0 st215
            have hA214 := hA214.c0 st215
            replace h179 := h179.up2 st215
            replace h207 := h207.up2 st215
            replace h209 := h209.up2 st215
            refine rt_cont0 hA214 ?_
            refine rt_fin ?_
            refine k_store_c (cs' := [.pointer (some ⟨b9, 0 + (x28.2.e3 : Int).toNat, none⟩)]) size138 rfl rfl h209 (by first | (simp; done) | omega | (dsimp only; omega)) (CellsOf.lit rfl rfl) rfl (by first | rfl | (simp; done) | (simp; omega)) rfl ?_
            intro s216 st216 h209
            have szs216 := st216.size
            have hRS53 := hRS53.c0 st216
            have hE78 := hE78.c0 st216
            replace h179 := h179.up2 st216
            replace h205 := h205.up2 st216
            replace h207 := h207.up2 st216
            refine k_nil ?_
            exact k_stop ⟨(s216, b207, b179, b205, b209), ⟨(by first | rfl | (simp <;> rfl)), (by first | rfl | (simp <;> rfl)), (by first | rfl | (simp <;> rfl)), (by first | rfl | (simp <;> rfl)), trivial⟩, ⟨rfl, rfl, trivial⟩, ⟨rfl, hE78, h207, (by first | omega | (simp <;> omega)), h179, (by first | omega | (simp <;> omega)), h205, (by first | omega | (simp <;> omega)), h209, (by first | omega | (simp <;> omega)), (by first | omega | (simp <;> omega)), (by first | omega | (simp <;> omega)), (by first | omega | (simp <;> omega)), (by first | omega | (simp <;> omega)), (by first | omega | (simp <;> omega)), (by first | omega | (simp <;> omega)), hc53⟩⟩
           ·
            refine rt_act rfl rfl ?_
            have hA217 := Step.r0 (KN s77.n) s205
            refine k_alloc zero138 rfl ?_
            intro s218 b218 st218 h218 ge218
            have szs218 := st218.size
            have hRS53 := hRS53.trans0 st218
            have hE78 := hE78.trans0 st218
            have hA217 := hA217.trans0 st218
            replace h179 := h179.up2 st218
            replace h205 := h205.up2 st218
            have lt218 := h218.lt
            refine rt_cont hA217 ?_
            refine rt_act rfl rfl ?_
            have hA219 := Step.r0 (KN s77.n) s218
            refine k_alloc zero138 rfl ?_
            intro s220 b220 st220 h220 ge220
            have szs220 := st220.size
            have hRS53 := hRS53.trans0 st220
            have hE78 := hE78.trans0 st220
            have hA219 := hA219.trans0 st220
            replace h179 := h179.up2 st220
            replace h205 := h205.up2 st220
            replace h218 := h218.up2 st220
            have lt220 := h220.lt
            refine rt_cont hA219 ?_
            refine rt_act0 rfl rfl ?_
            have hA221 := Step.r0 (KN s77.n) s220
            refine k_store_c (cs' := [.pointer (some ⟨b9, 0 + (x28.2.e0 : Int).toNat, none⟩)]) size138 rfl rfl h220 (by first | (simp; done) | omega | (dsimp only; omega)) (CellsOf.lit rfl rfl) rfl (by first | rfl | (simp; done) | (simp; omega)) rfl ?_
            intro s222 st222 h220
            have szs222 := st222.size
            have hRS53 := hRS53.c0 st222
            have hE78 := hE78.c0 st222
            have hA221 := hA221.c0 st222
            replace h179 := h179.up2 st222
            replace h205 := h205.up2 st222
            replace h218 := h218.up2 st222
            refine rt_cont0 hA221 ?_
            refine rt_act0 rfl rfl ?_
            have hA223 := Step.r0 (KN s77.n) s222
            refine k_store_c (cs' := [.pointer (some ⟨b9, 0 + (x28.2.e1 : Int).toNat, none⟩)]) size138 rfl rfl h179 (by first | (simp; done) | omega | (dsimp only; omega)) (CellsOf.lit rfl rfl) rfl (by first | rfl | (simp; done) | (simp; omega)) rfl ?_
            intro s224 st224 h179
            have szs224 := st224.size
            have hRS53 := hRS53.c0 st224
            have hE78 := hE78.c0 st224
            have hA223 := hA223.c0 st224
            replace h205 := h205.up2 st224
            replace h218 := h218.up2 st224
            replace h220 := h220.up2 st224
            refine rt_cont0 hA223 ?_
            refine rt_act0 rfl rfl ?_
            have hA225 := Step.r0 (KN s77.n) s224
            refine k_store_c (cs' := [.pointer (some ⟨b9, 0 + (x28.2.e2 : Int).toNat, none⟩)]) size138 rfl rfl h205 (by first | (simp; done) | omega | (dsimp only; omega)) (CellsOf.lit rfl rfl) rfl (by first | rfl | (simp; done) | (simp; omega)) rfl ?_
            intro s226 st226 h205
            have szs226 := st226.size
            have hRS53 := hRS53.c0 st226
            have hE78 := hE78.c0 st226
            have hA225 := hA225.c0 st226
            replace h179 := h179.up2 st226
            replace h218 := h218.up2 st226
            replace h220 := h220.up2 st226
            refine rt_cont0 hA225 ?_
            refine rt_fin ?_
            refine k_store_c (cs' := [.pointer (some ⟨b9, 0 + (x28.2.e3 : Int).toNat, none⟩)]) size138 rfl rfl h218 (by first | (simp; done) | omega | (dsimp only; omega)) (CellsOf.lit rfl rfl) rfl (by first | rfl | (simp; done) | (simp; omega)) rfl ?_
            intro s227 st227 h218
            have szs227 := st227.size
            have hRS53 := hRS53.c0 st227
            have hE78 := hE78.c0 st227
            replace h179 := h179.up2 st227
            replace h205 := h205.up2 st227
            replace h220 := h220.up2 st227
            refine k_nil ?_
            exact k_stop ⟨(s227, b220, b179, b205, b218), ⟨(by first | rfl | (simp <;> rfl)), (by first | rfl | (simp <;> rfl)), (by first | rfl | (simp <;> rfl)), (by first | rfl | (simp <;> rfl)), trivial⟩, ⟨rfl, rfl, trivial⟩, ⟨rfl, hE78, h220, (by first | omega | (simp <;> omega)), h179, (by first | omega | (simp <;> omega)), h205, (by first | omega | (simp <;> omega)), h218, (by first | omega | (simp <;> omega)), (by first | omega | (simp <;> omega)), (by first | omega | (simp <;> omega)), (by first | omega | (simp <;> omega)), (by first | omega | (simp <;> omega)), (by first | omega | (simp <;> omega)), (by first | omega | (simp <;> omega)), hc53⟩⟩
          ·
           refine rt_act rfl rfl ?_
           have hA228 := Step.r0 (KN s77.n) s179
           refine k_alloc zero138 rfl ?_
           intro s229 b229 st229 h229 ge229
           have szs229 := st229.size
           have hRS53 := hRS53.trans0 st229
           have hE78 := hE78.trans0 st229
           have hA228 := hA228.trans0 st229
           replace h179 := h179.up2 st229
           have lt229 := h229.lt
           refine rt_cont hA228 ?_
           refine rt_alt rfl rfl ?_ ?_
           ·
            have hA230 := Step.r0 (KN s77.n) s229
            refine k_alloc zero138 rfl ?_
            intro s231 b231 st231 h231 ge231
            have szs231 := st231.size
            have hRS53 := hRS53.trans0 st231
            have hE78 := hE78.trans0 st231
            have hA230 := hA230.trans0 st231
            replace h179 := h179.up2 st231
            replace h229 := h229.up2 st231
            have lt231 := h231.lt
            refine rt_cont hA230 ?_
            refine rt_act rfl rfl ?_
            have hA232 := Step.r0 (KN s77.n) s231
            refine k_alloc zero138 rfl ?_
            intro s233 b233 st233 h233 ge233
            have szs233 := st233.size
            have hRS53 := hRS53.trans0 st233
            have hE78 := hE78.trans0 st233
            have hA232 := hA232.trans0 st233
            replace h179 := h179.up2 st233
            replace h229 := h229.up2 st233
            replace h231 := h231.up2 st233
            have lt233 := h233.lt
            refine rt_cont hA232 ?_
            refine rt_act0 rfl rfl ?_
            have hA234 := Step.r0 (KN s77.n) s233
            refine k_store_c (cs' := [.pointer (some ⟨b9, 0 + (x28.2.e0 : Int).toNat, none⟩)]) size138 rfl rfl h231 (by first | (simp; done) | omega | (dsimp only; omega)) (CellsOf.lit rfl rfl) rfl (by first | rfl | (simp; done) | (simp; omega)) rfl ?_
            intro s235 st235 h231
            have szs235 := st235.size
            have hRS53 := hRS53.c0 st235
            have hE78 := hE78.c0 st235
            have hA234 := hA234.c0 st235
            replace h179 := h179.up2 st235
            replace h229 := h229.up2 st235
            replace h233 := h233.up2 st235
            refine rt_cont0 hA234 ?_
            refine rt_act0 rfl rfl ?_
            have hA236 := Step.r0 (KN s77.n) s235
            refine k_store_c (cs' := [.pointer (some ⟨b9, 0 + (x28.2.e1 : Int).toNat, none⟩)]) size138 rfl rfl h179 (by first | (simp; done) | omega | (dsimp only; omega)) (CellsOf.lit rfl rfl) rfl (by first | rfl | (simp; done) | (simp; omega)) rfl ?_
            intro s237 st237 h179
            have szs237 := st237.size
            have hRS53 := hRS53.c0 st237
            have hE78 := hE78.c0 st237
            have hA236 := hA236.c0 st237
            replace h229 := h229.up2 st237
            replace h231 := h231.up2 st237
            replace h233 := h233.up2 st237
            refine rt_cont0 hA236 ?_
            refine rt_act0 rfl rfl ?_
            have hA238 := Step.r0 (KN s77.n) s237
            refine k_store_c (cs' := [.pointer (some ⟨b9, 0 + (x28.2.e2 : Int).toNat, none⟩)]) size138 rfl rfl h233 (by first | (simp; done) | omega | (dsimp only; omega)) (CellsOf.lit rfl rfl) rfl (by first | rfl | (simp; done) | (simp; omega)) rfl ?_
            intro s239 st239 h233
            have szs239 := st239.size
            have hRS53 := hRS53.c0 st239
            have hE78 := hE78.c0 st239
            have hA238 := hA238.c0 st239
            replace h179 := h179.up2 st239
            replace h229 := h229.up2 st239
            replace h231 := h231.up2 st239
            refine rt_cont0 hA238 ?_
            refine rt_fin ?_
            refine k_store_c (cs' := [.pointer (some ⟨b9, 0 + (x28.2.e3 : Int).toNat, none⟩)]) size138 rfl rfl h229 (by first | (simp; done) | omega | (dsimp only; omega)) (CellsOf.lit rfl rfl) rfl (by first | rfl | (simp; done) | (simp; omega)) rfl ?_
            intro s240 st240 h229
            have szs240 := st240.size
            have hRS53 := hRS53.c0 st240
            have hE78 := hE78.c0 st240
            replace h179 := h179.up2 st240
            replace h231 := h231.up2 st240
            replace h233 := h233.up2 st240
            refine k_nil ?_
            exact k_stop ⟨(s240, b231, b179, b233, b229), ⟨(by first | rfl | (simp <;> rfl)), (by first | rfl | (simp <;> rfl)), (by first | rfl | (simp <;> rfl)), (by first | rfl | (simp <;> rfl)), trivial⟩, ⟨rfl, rfl, trivial⟩, ⟨rfl, hE78, h231, (by first | omega | (simp <;> omega)), h179, (by first | omega | (simp <;> omega)), h233, (by first | omega | (simp <;> omega)), h229, (by first | omega | (simp <;> omega)), (by first | omega | (simp <;> omega)), (by first | omega | (simp <;> omega)), (by first | omega | (simp <;> omega)), (by first | omega | (simp <;> omega)), (by first | omega | (simp <;> omega)), (by first | omega | (simp <;> omega)), hc53⟩⟩
           ·
            refine rt_act rfl rfl ?_
            have hA241 := Step.r0 (KN s77.n) s229
            refine k_alloc zero138 rfl ?_
            intro s242 b242 st242 h242 ge242
            have szs242 := st242.size
            have hRS53 := hRS53.trans0 st242
            have hE78 := hE78.trans0 st242
            have hA241 := hA241.trans0 st242
            replace h179 := h179.up2 st242
            replace h229 := h229.up2 st242
            have lt242 := h242.lt
            refine rt_cont hA241 ?_
            refine rt_act rfl rfl ?_
            have hA243 := Step.r0 (KN s77.n) s242
            refine k_alloc zero138 rfl ?_
            intro s244 b244 st244 h244 ge244
            have szs244 := st244.size
            have hRS53 := hRS53.trans0 st244
            have hE78 := hE78.trans0 st244
            have hA243 := hA243.trans0 st244
            replace h179 := h179.up2 st244
            replace h229 := h229.up2 st244
            replace h242 := h242.up2 st244
            have lt244 := h244.lt
            refine rt_cont hA243 ?_
            refine rt_act0 rfl rfl ?_
            have hA245 := Step.r0 (KN s77.n) s244
            refine k_store_c (cs' := [.pointer (some ⟨b9, 0 + (x28.2.e0 : Int).toNat, none⟩)]) size138 rfl rfl h244 (by first | (simp; done) | omega | (dsimp only; omega)) (CellsOf.lit rfl rfl) rfl (by first | rfl | (simp; done) | (simp; omega)) rfl ?_
            intro s246 st246 h244
            have szs246 := st246.size
            have hRS53 := hRS53.c0 st246
            have hE78 := hE78.c0 st246
            have hA245 := hA245.c0 st246
            replace h179 := h179.up2 st246
            replace h229 := h229.up2 st246
            replace h242 := h242.up2 st246
            refine rt_cont0 hA245 ?_
            refine rt_act0 rfl rfl ?_
            have hA247 := Step.r0 (KN s77.n) s246
            refine k_store_c (cs' := [.pointer (some ⟨b9, 0 + (x28.2.e1 : Int).toNat, none⟩)]) size138 rfl rfl h179 (by first | (simp; done) | omega | (dsimp only; omega)) (CellsOf.lit rfl rfl) rfl (by first | rfl | (simp; done) | (simp; omega)) rfl ?_
            intro s248 st248 h179
            have szs248 := st248.size
            have hRS53 := hRS53.c0 st248
            have hE78 := hE78.c0 st248
            have hA247 := hA247.c0 st248
            replace h229 := h229.up2 st248
            replace h242 := h242.up2 st248
            replace h244 := h244.up2 st248
            refine rt_cont0 hA247 ?_
            refine rt_act0 rfl rfl ?_
            have hA249 := Step.r0 (KN s77.n) s248
            refine k_store_c (cs' := [.pointer (some ⟨b9, 0 + (x28.2.e2 : Int).toNat, none⟩)]) size138 rfl rfl h242 (by first | (simp; done) | omega | (dsimp only; omega)) (CellsOf.lit rfl rfl) rfl (by first | rfl | (simp; done) | (simp; omega)) rfl ?_
            intro s250 st250 h242
            have szs250 := st250.size
            have hRS53 := hRS53.c0 st250
            have hE78 := hE78.c0 st250
            have hA249 := hA249.c0 st250
            replace h179 := h179.up2 st250
            replace h229 := h229.up2 st250
            replace h244 := h244.up2 st250
            refine rt_cont0 hA249 ?_
            refine rt_fin ?_
            refine k_store_c (cs' := [.pointer (some ⟨b9, 0 + (x28.2.e3 : Int).toNat, none⟩)]) size138 rfl rfl h229 (by first | (simp; done) | omega | (dsimp only; omega)) (CellsOf.lit rfl rfl) rfl (by first | rfl | (simp; done) | (simp; omega)) rfl ?_
            intro s251 st251 h229
            have szs251 := st251.size
            have hRS53 := hRS53.c0 st251
            have hE78 := hE78.c0 st251
            replace h179 := h179.up2 st251
            replace h242 := h242.up2 st251
            replace h244 := h244.up2 st251
            refine k_nil ?_
            exact k_stop ⟨(s251, b244, b179, b242, b229), ⟨(by first | rfl | (simp <;> rfl)), (by first | rfl | (simp <;> rfl)), (by first | rfl | (simp <;> rfl)), (by first | rfl | (simp <;> rfl)), trivial⟩, ⟨rfl, rfl, trivial⟩, ⟨rfl, hE78, h244, (by first | omega | (simp <;> omega)), h179, (by first | omega | (simp <;> omega)), h242, (by first | omega | (simp <;> omega)), h229, (by first | omega | (simp <;> omega)), (by first | omega | (simp <;> omega)), (by first | omega | (simp <;> omega)), (by first | omega | (simp <;> omega)), (by first | omega | (simp <;> omega)), (by first | omega | (simp <;> omega)), (by first | omega | (simp <;> omega)), hc53⟩⟩
        ·
         refine rt_alt rfl rfl ?_ ?_
         ·
          have hA252 := Step.r0 (KN s77.n) s83
          refine k_alloc zero138 rfl ?_
          intro s253 b253 st253 h253 ge253
          have szs253 := st253.size
          have hRS53 := hRS53.trans0 st253
          have hE78 := hE78.trans0 st253
          have hA252 := hA252.trans0 st253
          have lt253 := h253.lt
          refine rt_cont hA252 ?_
          refine rt_alt rfl rfl ?_ ?_
          ·
           have hA254 := Step.r0 (KN s77.n) s253
           refine k_alloc zero138 rfl ?_
           intro s255 b255 st255 h255 ge255
           have szs255 := st255.size
           have hRS53 := hRS53.trans0 st255
           have hE78 := hE78.trans0 st255
           have hA254 := hA254.trans0 st255
           replace h253 := h253.up2 st255
           have lt255 := h255.lt
           refine rt_cont hA254 ?_
           refine rt_alt rfl rfl ?_ ?_
           ·
            have hA256 := Step.r0 (KN s77.n) s255
            refine k_alloc zero138 rfl ?_
            intro s257 b257 st257 h257 ge257
            have szs257 := st257.size
            have hRS53 := hRS53.trans0 st257
            have hE78 := hE78.trans0 st257
            have hA256 := hA256.trans0 st257
            replace h253 := h253.up2 st257
            replace h255 := h255.up2 st257
            have lt257 := h257.lt
            refine rt_cont hA256 ?_
            refine rt_act rfl rfl ?_
            have hA258 := Step.r0 (KN s77.n) s257
            refine k_alloc zero138 rfl ?_
            intro s259 b259 st259 h259 ge259
            have szs259 := st259.size
            have hRS53 := hRS53.trans0 st259
            have hE78 := hE78.trans0 st259
            have hA258 := hA258.trans0 st259
            replace h253 := h253.up2 st259
            replace h255 := h255.up2 st259
            replace h257 := h257.up2 st259
            have lt259 := h259.lt
            refine rt_cont hA258 ?_
            refine rt_act0 rfl rfl ?_
            have hA260 := Step.r0 (KN s77.n) s259
            refine k_store_c (cs' := [.pointer (some ⟨b9, 0 + (x28.2.e0 : Int).toNat, none⟩)]) size138 rfl rfl h255 (by first | (simp; done) | omega | (dsimp only; omega)) (CellsOf.lit rfl rfl) rfl (by first | rfl | (simp; done) | (simp; omega)) rfl ?_
            intro s261 st261 h255
            have szs261 := st261.size
            have hRS53 := hRS53.c0 st261
            have hE78 := hE78.c0 st261
            have hA260 := hA260.c0 st261
            replace h253 := h253.up2 st261
            replace h257 := h257.up2 st261
            replace h259 := h259.up2 st261
            refine rt_cont0 hA260 ?_
            refine rt_act0 rfl rfl ?_
            have hA262 := Step.r0 (KN s77.n) s261
            refine k_store_c (cs' := [.pointer (some ⟨b9, 0 + (x28.2.e1 : Int).toNat, none⟩)]) size138 rfl rfl h257 (by first | (simp; done) | omega | (dsimp only; omega)) (CellsOf.lit rfl rfl) rfl (by first | rfl | (simp; done) | (simp; omega)) rfl ?_
            intro s263 st263 h257
            have szs263 := st263.size
            have hRS53 := hRS53.c0 st263
            have hE78 := hE78.c0 st263
            have hA262 := hA262.c0 st263
            replace h253 := h253.up2 st263
            replace h255 := h255.up2 st263
            replace h259 := h259.up2 st263
            refine rt_cont0 hA262 ?_
            refine rt_act0 rfl rfl ?_
            have hA264 := Step.r0 (KN s77.n) s263
            refine k_store_c (cs' := [.pointer (some ⟨b9, 0 + (x28.2.e2 : Int).toNat, none⟩)]) size138 rfl rfl h253 (by first | (simp; done) | omega | (dsimp only; omega)) (CellsOf.lit rfl rfl) rfl (by first | rfl | (simp; done) | (simp; omega)) rfl ?_
            intro s265 st265 h253
            have szs265 := st265.size
            have hRS53 := hRS53.c0 st265
            have hE78 := hE78.c0 st265
            have hA264 := hA264.c0 st265
            replace h255 := h255.up2 st265
            replace h257 := h257.up2 st265
            replace h259 := h259.up2 st265
            refine rt_cont0 hA264 ?_
            refine rt_fin ?_
            refine k_store_c (cs' := [.pointer (some ⟨b9, 0 + (x28.2.e3 : Int).toNat, none⟩)]) size138 rfl rfl h259 (by first | (simp; done) | omega | (dsimp only; omega)) (CellsOf.lit rfl rfl) rfl (by first | rfl | (simp; done) | (simp; omega)) rfl ?_
            intro s266 st266 h259
            have szs266 := st266.size
            have hRS53 := hRS53.c0 st266
            have hE78 := hE78.c0 st266
            replace h253 := h253.up2 st266
            replace h255 := h255.up2 st266
            replace h257 := h257.up2 st266
            refine k_nil ?_
            exact k_stop ⟨(s266, b255, b257, b253, b259), ⟨(by first | rfl | (simp <;> rfl)), (by first | rfl | (simp <;> rfl)), (by first | rfl | (simp <;> rfl)), (by first | rfl | (simp <;> rfl)), trivial⟩, ⟨rfl, rfl, trivial⟩, ⟨rfl, hE78, h255, (by first | omega | (simp <;> omega)), h257, (by first | omega | (simp <;> omega)), h253, (by first | omega | (simp <;> omega)), h259, (by first | omega | (simp <;> omega)), (by first | omega | (simp <;> omega)), (by first | omega | (simp <;> omega)), (by first | omega | (simp <;> omega)), (by first | omega | (simp <;> omega)), (by first | omega | (simp <;> omega)), (by first | omega | (simp <;> omega)), hc53⟩⟩
           ·
            refine rt_act rfl rfl ?_
            have hA267 := Step.r0 (KN s77.n) s255
            refine k_alloc zero138 rfl ?_
            intro s268 b268 st268 h268 ge268
            have szs268 := st268.size
            have hRS53 := hRS53.trans0 st268
            have hE78 := hE78.trans0 st268
            have hA267 := hA267.trans0 st268
            replace h253 := h253.up2 st268
            replace h255 := h255.up2 st268
            have lt268 := h268.lt
            refine rt_cont hA267 ?_
            refine rt_act rfl rfl ?_
            have hA269 := Step.r0 (KN s77.n) s268
            refine k_alloc zero138 rfl ?_
            intro s270 b270 st270 h270 ge270
            have szs270 := st270.size
            have hRS53 := hRS53.trans0 st270
            have hE78 := hE78.trans0 st270
            have hA269 := hA269.trans0 st270
            replace h253 := h253.up2 st270
            replace h255 := h255.up2 st270
            replace h268 := h268.up2 st270
            have lt270 := h270.lt
            refine rt_cont hA269 ?_
            refine rt_act0 rfl rfl ?_
            have hA271 := Step.r0 (KN s77.n) s270
            refine k_store_c (cs' := [.pointer (some ⟨b9, 0 + (x28.2.e0 : Int).toNat, none⟩)]) size138 rfl rfl h255 (by first | (simp; done) | omega | (dsimp only; omega)) (CellsOf.lit rfl rfl) rfl (by first | rfl | (simp; done) | (simp; omega)) rfl ?_
            intro s272 st272 h255
            have szs272 := st272.size
            have hRS53 := hRS53.c0 st272
            have hE78 := hE78.c0 st272
            have hA271 := hA271.c0 st272
            replace h253 := h253.up2 st272
            replace h268 := h268.up2 st272
            replace h270 := h270.up2 st272
            refine rt_cont0 hA271 ?_
            refine rt_act0 rfl rfl ?_
            have hA273 := Step.r0 (KN s77.n) s272
            refine k_store_c (cs' := [.pointer (some ⟨b9, 0 + (x28.2.e1 : Int).toNat, none⟩)]) size138 rfl rfl h270 (by first | (simp; done) | omega | (dsimp only; omega)) (CellsOf.lit rfl rfl) rfl (by first | rfl | (simp; done) | (simp; omega)) rfl ?_
            intro s274 st274 h270
            have szs274 := st274.size
            have hRS53 := hRS53.c0 st274
            have hE78 := hE78.c0 st274
            have hA273 := hA273.c0 st274
            replace h253 := h253.up2 st274
            replace h255 := h255.up2 st274
            replace h268 := h268.up2 st274
            refine rt_cont0 hA273 ?_
            refine rt_act0 rfl rfl ?_
            have hA275 := Step.r0 (KN s77.n) s274
            refine k_store_c (cs' := [.pointer (some ⟨b9, 0 + (x28.2.e2 : Int).toNat, none⟩)]) size138 rfl rfl h253 (by first | (simp; done) | omega | (dsimp only; omega)) (CellsOf.lit rfl rfl) rfl (by first | rfl | (simp; done) | (simp; omega)) rfl ?_
            intro s276 st276 h253
            have szs276 := st276.size
            have hRS53 := hRS53.c0 st276
            have hE78 := hE78.c0 st276
            have hA275 := hA275.c0 st276
            replace h255 := h255.up2 st276
            replace h268 := h268.up2 st276
            replace h270 := h270.up2 st276
            refine rt_cont0 hA275 ?_
            refine rt_fin ?_
            refine k_store_c (cs' := [.pointer (some ⟨b9, 0 + (x28.2.e3 : Int).toNat, none⟩)]) size138 rfl rfl h268 (by first | (simp; done) | omega | (dsimp only; omega)) (CellsOf.lit rfl rfl) rfl (by first | rfl | (simp; done) | (simp; omega)) rfl ?_
            intro s277 st277 h268
            have szs277 := st277.size
            have hRS53 := hRS53.c0 st277
            have hE78 := hE78.c0 st277
            replace h253 := h253.up2 st277
            replace h255 := h255.up2 st277
            replace h270 := h270.up2 st277
            refine k_nil ?_
            exact k_stop ⟨(s277, b255, b270, b253, b268), ⟨(by first | rfl | (simp <;> rfl)), (by first | rfl | (simp <;> rfl)), (by first | rfl | (simp <;> rfl)), (by first | rfl | (simp <;> rfl)), trivial⟩, ⟨rfl, rfl, trivial⟩, ⟨rfl, hE78, h255, (by first | omega | (simp <;> omega)), h270, (by first | omega | (simp <;> omega)), h253, (by first | omega | (simp <;> omega)), h268, (by first | omega | (simp <;> omega)), (by first | omega | (simp <;> omega)), (by first | omega | (simp <;> omega)), (by first | omega | (simp <;> omega)), (by first | omega | (simp <;> omega)), (by first | omega | (simp <;> omega)), (by first | omega | (simp <;> omega)), hc53⟩⟩
          ·
           refine rt_alt rfl rfl ?_ ?_
           ·
            have hA278 := Step.r0 (KN s77.n) s253
            refine k_alloc zero138 rfl ?_
            intro s279 b279 st279 h279 ge279
            have szs279 := st279.size
            have hRS53 := hRS53.trans0 st279
            have hE78 := hE78.trans0 st279
            have hA278 := hA278.trans0 st279
            replace h253 := h253.up2 st279
            have lt279 := h279.lt
            refine rt_cont hA278 ?_
            refine rt_alt rfl rfl ?_ ?_
            ·
             have hA280 := Step.r0 (KN s77.n) s279
             refine k_alloc zero138 rfl ?_
             intro s281 b281 st281 h281 ge281
             have szs281 := st281.size
             have hRS53 := hRS53.trans0 st281
             have hE78 := hE78.trans0 st281
             have hA280 := hA280.trans0 st281
             replace h253 := h253.up2 st281
             replace h279 := h279.up2 st281
             have lt281 := h281.lt
             refine rt_cont hA280 ?_
             refine rt_act rfl rfl ?_
             have hA282 := Step.r0 (KN s77.n) s281
             refine k_alloc zero138 rfl ?_
             intro s283 b283 st283 h283 ge283
             have szs283 := st283.size
             have hRS53 := hRS53.trans0 st283
             have hE78 := hE78.trans0 st283
             have hA282 := hA282.trans0 st283
             replace h253 := h253.up2 st283
             replace h279 := h279.up2 st283
             replace h281 := h281.up2 st283
             have lt283 := h283.lt
             refine rt_cont hA282 ?_
             refine rt_act0 rfl rfl ?_
             have hA284 := Step.r0 (KN s77.n) s283
             refine k_store_c (cs' := [.pointer (some ⟨b9, 0 + (x28.2.e0 : Int).toNat, none⟩)]) size138 rfl rfl h281 (by first | (simp; done) | omega | (dsimp only; omega)) (CellsOf.lit rfl rfl) rfl (by first | rfl | (simp; done) | (simp; omega)) rfl ?_
             intro s285 st285 h281
             have szs285 := st285.size
             have hRS53 := hRS53.c0 st285
             have hE78 := hE78.c0 st285
             have hA284 := hA284.c0 st285
             replace h253 := h253.up2 st285
             replace h279 := h279.up2 st285
             replace h283 := h283.up2 st285
             refine rt_cont0 hA284 ?_
             refine rt_act0 rfl rfl ?_
             have hA286 := Step.r0 (KN s77.n) s285
             refine k_store_c (cs' := [.pointer (some ⟨b9, 0 + (x28.2.e1 : Int).toNat, none⟩)]) size138 rfl rfl h279 (by first | (simp; done) | omega | (dsimp only; omega)) (CellsOf.lit rfl rfl) rfl (by first | rfl | (simp; done) | (simp; omega)) rfl ?_
             intro s287 st287 h279
             have szs287 := st287.size
             have hRS53 := hRS53.c0 st287
             have hE78 := hE78.c0 st287
             have hA286 := hA286.c0 st287
             replace h253 := h253.up2 st287
             replace h281 := h281.up2 st287
             replace h283 := h283.up2 st287
             refine rt_cont0 hA286 ?_
             refine rt_act0 rfl rfl ?_
             have hA288 := Step.r0 (KN s77.n) s287
             refine k_store_c (cs' := [.pointer (some ⟨b9, 0 + (x28.2.e2 : Int).toNat, none⟩)]) size138 rfl rfl h253 (by first | (simp; done) | omega | (dsimp only; omega)) (CellsOf.lit rfl rfl) rfl (by first | rfl | (simp; done) | (simp; omega)) rfl ?_
             intro s289 st289 h253
             have szs289 := st289.size
             have hRS53 := hRS53.c0 st289
             have hE78 := hE78.c0 st289
             have hA288 := hA288.c0 st289
             replace h279 := h279.up2 st289
             replace h281 := h281.up2 st289
             replace h283 := h283.up2 st289
             refine rt_cont0 hA288 ?_
             refine rt_fin ?_
             refine k_store_c (cs' := [.pointer (some ⟨b9, 0 + (x28.2.e3 : Int).toNat, none⟩)]) size138 rfl rfl h283 (by first | (simp; done) | omega | (dsimp only; omega)) (CellsOf.lit rfl rfl) rfl (by first | rfl | (simp; done) | (simp; omega)) rfl ?_
             intro s290 st290 h283
             have szs290 := st290.size
             have hRS53 := hRS53.c0 st290
             have hE78 := hE78.c0 st290
             replace h253 := h253.up2 st290
             replace h279 := h279.up2 st290
             replace h281 := h281.up2 st290
             refine k_nil ?_
             exact k_stop ⟨(s290, b281, b279, b253, b283), ⟨(by first | rfl | (simp <;> rfl)), (by first | rfl | (simp <;> rfl)), (by first | rfl | (simp <;> rfl)), (by first | rfl | (simp <;> rfl)), trivial⟩, ⟨rfl, rfl, trivial⟩, ⟨rfl, hE78, h281, (by first | omega | (simp <;> omega)), h279, (by first | omega | (simp <;> omega)), h253, (by first | omega | (simp <;> omega)), h283, (by first | omega | (simp <;> omega)), (by first | omega | (simp <;> omega)), (by first | omega | (simp <;> omega)), (by first | omega | (simp <;> omega)), (by first | omega | (simp <;> omega)), (by first | omega | (simp <;> omega)), (by first | omega | (simp <;> omega)), hc53⟩⟩
            ·
             refine rt_act rfl rfl ?_
             have hA291 := Step.r0 (KN s77.n) s279
             refine k_alloc zero138 rfl ?_
             intro s292 b292 st292 h292 ge292
             have szs292 := st292.size
             have hRS53 := hRS53.trans0 st292
             have hE78 := hE78.trans0 st292
             have hA291 := hA291.trans0 st292
             replace h253 := h253.up2 st292
             replace h279 := h279.up2 st292
             have lt292 := h292.lt
             refine rt_cont hA291 ?_
             refine rt_act rfl rfl ?_
             have hA293 := Step.r0 (KN s77.n) s292
             refine k_alloc zero138 rfl ?_
             intro s294 b294 st294 h294 ge294
             have szs294 := st294.size
             have hRS53 := hRS53.trans0 st294
             have hE78 := hE78.trans0 st294
             have hA293 := hA293.trans0 st294
             replace h253 := h253.up2 st294
             replace h279 := h279.up2 st294
             replace h292 := h292.up2 st294
             have lt294 := h294.lt
             refine rt_cont hA293 ?_
             refine rt_act0 rfl rfl ?_
             have hA295 := Step.r0 (KN s77.n) s294
             refine k_store_c (cs' := [.pointer (some ⟨b9, 0 + (x28.2.e0 : Int).toNat, none⟩)]) size138 rfl rfl h294 (by first | (simp; done) | omega | (dsimp only; omega)) (CellsOf.lit rfl rfl) rfl (by first | rfl | (simp; done) | (simp; omega)) rfl ?_
             intro s296 st296 h294
             have szs296 := st296.size
             have hRS53 := hRS53.c0 st296
             have hE78 := hE78.c0 st296
             have hA295 := hA295.c0 st296
             replace h253 := h253.up2 st296
             replace h279 := h279.up2 st296
             replace h292 := h292.up2 st296
             refine rt_cont0 hA295 ?_
             refine rt_act0 rfl rfl ?_
             have hA297 := Step.r0 (KN s77.n) s296
             refine k_store_c (cs' := [.pointer (some ⟨b9, 0 + (x28.2.e1 : Int).toNat, none⟩)]) size138 rfl rfl h279 (by first | (simp; done) | omega | (dsimp only; omega)) (CellsOf.lit rfl rfl) rfl (by first | rfl | (simp; done) | (simp; omega)) rfl ?_
             intro s298 st298 h279
             have szs298 := st298.size
             have hRS53 := hRS53.c0 st298
             have hE78 := hE78.c0 st298
             have hA297 := hA297.c0 st298
             replace h253 := h253.up2 st298
             replace h292 := h292.up2 st298
             replace h294 := h294.up2 st298
             refine rt_cont0 hA297 ?_
             refine rt_act0 rfl rfl ?_
             have hA299 := Step.r0 (KN s77.n) s298
             refine k_store_c (cs' := [.pointer (some ⟨b9, 0 + (x28.2.e2 : Int).toNat, none⟩)]) size138 rfl rfl h253 (by first | (simp; done) | omega | (dsimp only; omega)) (CellsOf.lit rfl rfl) rfl (by first | rfl | (simp; done) | (simp; omega)) rfl ?_
             intro s300 st300 h253
             have szs300 := st300.size
             have hRS53 := hRS53.c0 st300
             have hE78 := hE78.c0 st300
             have hA299 := hA299.c0 st300
             replace h279 := h279.up2 st300
             replace h292 := h292.up2 st300
             replace h294 := h294.up2 st300
             refine rt_cont0 hA299 ?_
             refine rt_fin ?_
             refine k_store_c (cs' := [.pointer (some ⟨b9, 0 + (x28.2.e3 : Int).toNat, none⟩)]) size138 rfl rfl h292 (by first | (simp; done) | omega | (dsimp only; omega)) (CellsOf.lit rfl rfl) rfl (by first | rfl | (simp; done) | (simp; omega)) rfl ?_
             intro s301 st301 h292
             have szs301 := st301.size
             have hRS53 := hRS53.c0 st301
             have hE78 := hE78.c0 st301
             replace h253 := h253.up2 st301
             replace h279 := h279.up2 st301
             replace h294 := h294.up2 st301
             refine k_nil ?_
             exact k_stop ⟨(s301, b294, b279, b253, b292), ⟨(by first | rfl | (simp <;> rfl)), (by first | rfl | (simp <;> rfl)), (by first | rfl | (simp <;> rfl)), (by first | rfl | (simp <;> rfl)), trivial⟩, ⟨rfl, rfl, trivial⟩, ⟨rfl, hE78, h294, (by first | omega | (simp <;> omega)), h279, (by first | omega | (simp <;> omega)), h253, (by first | omega | (simp <;> omega)), h292, (by first | omega | (simp <;> omega)), (by first | omega | (simp <;> omega)), (by first | omega | (simp <;> omega)), (by first | omega | (simp <;> omega)), (by first | omega | (simp <;> omega)), (by first | omega | (simp <;> omega)), (by first | omega | (simp <;> omega)), hc53⟩⟩
           ·
            refine rt_act rfl rfl ?_
            have hA302 := Step.r0 (KN s77.n) s253
            refine k_alloc zero138 rfl ?_
            intro s303 b303 st303 h303 ge303
            have szs303 := st303.size
            have hRS53 := hRS53.trans0 st303
            have hE78 := hE78.trans0 st303
            have hA302 := hA302.trans0 st303
            replace h253 := h253.up2 st303
            have lt303 := h303.lt
            refine rt_cont hA302 ?_
            refine rt_alt rfl rfl ?_ ?_
            ·
             have hA304 := Step.r0 (KN s77.n) s303
             refine k_alloc zero138 rfl ?_
             intro s305 b305 st305 h305 ge305
             have szs305 := st305.size
             have hRS53 := hRS53.trans0 st305
             have hE78 := hE78.trans0 st305
             have hA304 := hA304.trans0 st305
             replace h253 := h253.up2 st305
             replace h303 := h303.up2 st305
             have lt305 := h305.lt
             refine rt_cont hA304 ?_
             refine rt_act rfl rfl ?_
             have hA306 := Step.r0 (KN s77.n) s305
             refine k_alloc zero138 rfl ?_
             intro s307 b307 st307 h307 ge307
             have szs307 := st307.size
             have hRS53 := hRS53.trans0 st307
             have hE78 := hE78.trans0 st307
             have hA306 := hA306.trans0 st307
             replace h253 := h253.up2 st307
             replace h303 := h303.up2 st307
             replace h305 := h305.up2 st307
             have lt307 := h307.lt
             refine rt_cont hA306 ?_
             refine rt_act0 rfl rfl ?_
             have hA308 := Step.r0 (KN s77.n) s307
             refine k_store_c (cs' := [.pointer (some ⟨b9, 0 + (x28.2.e0 : Int).toNat, none⟩)]) size138 rfl rfl h305 (by first | (simp; done) | omega | (dsimp only; omega)) (CellsOf.lit rfl rfl) rfl (by first | rfl | (simp; done) | (simp; omega)) rfl ?_
             intro s309 st309 h305
             have szs309 := st309.size
             have hRS53 := hRS53.c0 st309
             have hE78 := hE78.c0 st309
             have hA308 := hA308.c0 st309
             replace h253 := h253.up2 st309
             replace h303 := h303.up2 st309
             replace h307 := h307.up2 st309
             refine rt_cont0 hA308 ?_
             refine rt_act0 rfl rfl ?_
             have hA310 := Step.r0 (KN s77.n) s309
             refine k_store_c (cs' := [.pointer (some ⟨b9, 0 + (x28.2.e1 : Int).toNat, none⟩)]) size138 rfl rfl h307 (by first | (simp; done) | omega | (dsimp only; omega)) (CellsOf.lit rfl rfl) rfl (by first | rfl | (simp; done) | (simp; omega)) rfl ?_
             intro s311 st311 h307
             have szs311 := st311.size
             have hRS53 := hRS53.c0 st311
             have hE78 := hE78.c0 st311
             have hA310 := hA310.c0 st311
             replace h253 := h253.up2 st311
             replace h303 := h303.up2 st311
             replace h305 := h305.up2 st311
             refine rt_cont0 hA310 ?_
             refine rt_act0 rfl rfl ?_
             have hA312 := Step.r0 (KN s77.n) s311
             refine k_store_c (cs' := [.pointer (some ⟨b9, 0 + (x28.2.e2 : Int).toNat, none⟩)]) size138 rfl rfl h253 (by first | (simp; done) | omega | (dsimp only; omega)) (CellsOf.lit rfl rfl) rfl (by first | rfl | (simp; done) | (simp; omega)) rfl ?_
             intro s313 st313 h253
             have szs313 := st313.size
             have hRS53 := hRS53.c0 st313
             have hE78 := hE78.c0 st313
             have hA312 := hA312.c0 st313
             replace h303 := h303.up2 st313
             replace h305 := h305.up2 st313
             replace h307 := h307.up2 st313
             refine rt_cont0 hA312 ?_
             refine rt_fin ?_
             refine k_store_c (cs' := [.pointer (some ⟨b9, 0 + (x28.2.e3 : Int).toNat, none⟩)]) size138 rfl rfl h303 (by first | (simp; done) | omega | (dsimp only; omega)) (CellsOf.lit rfl rfl) rfl (by first | rfl | (simp; done) | (simp; omega)) rfl ?_
             intro s314 st314 h303
             have szs314 := st314.size
             have hRS53 := hRS53.c0 st314
             have hE78 := hE78.c0 st314
             replace h253 := h253.up2 st314
             replace h305 := h305.up2 st314
             replace h307 := h307.up2 st314
             refine k_nil ?_
             exact k_stop ⟨(s314, b305, b307, b253, b303), ⟨(by first | rfl | (simp <;> rfl)), (by first | rfl | (simp <;> rfl)), (by first | rfl | (simp <;> rfl)), (by first | rfl | (simp <;> rfl)), trivial⟩, ⟨rfl, rfl, trivial⟩, ⟨rfl, hE78, h305, (by first | omega | (simp <;> omega)), h307, (by first | omega | (simp <;> omega)), h253, (by first | omega | (simp <;> omega)), h303, (by first | omega | (simp <;> omega)), (by first | omega | (simp <;> omega)), (by first | omega | (simp <;> omega)), (by first | omega | (simp <;> omega)), (by first | omega | (simp <;> omega)), (by first | omega | (simp <;> omega)), (by first | omega | (simp <;> omega)), hc53⟩⟩
            ·
             refine rt_act rfl rfl ?_
             have hA315 := Step.r0 (KN s77.n) s303
             refine k_alloc zero138 rfl ?_
             intro s316 b316 st316 h316 ge316
             have szs316 := st316.size
             have hRS53 := hRS53.trans0 st316
             have hE78 := hE78.trans0 st316
             have hA315 := hA315.trans0 st316
             replace h253 := h253.up2 st316
             replace h303 := h303.up2 st316
             have lt316 := h316.lt
             refine rt_cont hA315 ?_
             refine rt_act rfl rfl ?_
             have hA317 := Step.r0 (KN s77.n) s316
             refine k_alloc zero138 rfl ?_
             intro s318 b318 st318 h318 ge318
             have szs318 := st318.size
             have hRS53 := hRS53.trans0 st318
             have hE78 := hE78.trans0 st318
             have hA317 := hA317.trans0 st318
             replace h253 := h253.up2 st318
             replace h303 := h303.up2 st318
             replace h316 := h316.up2 st318
             have lt318 := h318.lt
             refine rt_cont hA317 ?_
             refine rt_act0 rfl rfl ?_
             have hA319 := Step.r0 (KN s77.n) s318
             refine k_store_c (cs' := [.pointer (some ⟨b9, 0 + (x28.2.e0 : Int).toNat, none⟩)]) size138 rfl rfl h318 (by first | (simp; done) | omega | (dsimp only; omega)) (CellsOf.lit rfl rfl) rfl (by first | rfl | (simp; done) | (simp; omega)) rfl ?_
             intro s320 st320 h318
             have szs320 := st320.size
             have hRS53 := hRS53.c0 st320
             have hE78 := hE78.c0 st320
             have hA319 := hA319.c0 st320
             replace h253 := h253.up2 st320
             replace h303 := h303.up2 st320
             replace h316 := h316.up2 st320
             refine rt_cont0 hA319 ?_
             refine rt_act0 rfl rfl ?_
             have hA321 := Step.r0 (KN s77.n) s320
             refine k_store_c (cs' := [.pointer (some ⟨b9, 0 + (x28.2.e1 : Int).toNat, none⟩)]) size138 rfl rfl h316 (by first | (simp; done) | omega | (dsimp only; omega)) (CellsOf.lit rfl rfl) rfl (by first | rfl | (simp; done) | (simp; omega)) rfl ?_
             intro s322 st322 h316
             have szs322 := st322.size
             have hRS53 := hRS53.c0 st322
             have hE78 := hE78.c0 st322
             have hA321 := hA321.c0 st322
             replace h253 := h253.up2 st322
             replace h303 := h303.up2 st322
             replace h318 := h318.up2 st322
             refine rt_cont0 hA321 ?_
             refine rt_act0 rfl rfl ?_
             have hA323 := Step.r0 (KN s77.n) s322
             refine k_store_c (cs' := [.pointer (some ⟨b9, 0 + (x28.2.e2 : Int).toNat, none⟩)]) size138 rfl rfl h253 (by first | (simp; done) | omega | (dsimp only; omega)) (CellsOf.lit rfl rfl) rfl (by first | rfl | (simp; done) | (simp; omega)) rfl ?_
             intro s324 st324 h253
             have szs324 := st324.size
             have hRS53 := hRS53.c0 st324
             have hE78 := hE78.c0 st324
             have hA323 := hA323.c0 st324
             replace h303 := h303.up2 st324
             replace h316 := h316.up2 st324
             replace h318 := h318.up2 st324
             refine rt_cont0 hA323 ?_
             refine rt_fin ?_
             refine k_store_c (cs' := [.pointer (some ⟨b9, 0 + (x28.2.e3 : Int).toNat, none⟩)]) size138 rfl rfl h303 (by first | (simp; done) | omega | (dsimp only; omega)) (CellsOf.lit rfl rfl) rfl (by first | rfl | (simp; done) | (simp; omega)) rfl ?_
             intro s325 st325 h303
             have szs325 := st325.size
             have hRS53 := hRS53.c0 st325
             have hE78 := hE78.c0 st325
             replace h253 := h253.up2 st325
             replace h316 := h316.up2 st325
             replace h318 := h318.up2 st325
             refine k_nil ?_
             exact k_stop ⟨(s325, b318, b316, b253, b303), ⟨(by first | rfl | (simp <;> rfl)), (by first | rfl | (simp <;> rfl)), (by first | rfl | (simp <;> rfl)), (by first | rfl | (simp <;> rfl)), trivial⟩, ⟨rfl, rfl, trivial⟩, ⟨rfl, hE78, h318, (by first | omega | (simp <;> omega)), h316, (by first | omega | (simp <;> omega)), h253, (by first | omega | (simp <;> omega)), h303, (by first | omega | (simp <;> omega)), (by first | omega | (simp <;> omega)), (by first | omega | (simp <;> omega)), (by first | omega | (simp <;> omega)), (by first | omega | (simp <;> omega)), (by first | omega | (simp <;> omega)), (by first | omega | (simp <;> omega)), hc53⟩⟩
         ·
          refine rt_act rfl rfl ?_
          have hA326 := Step.r0 (KN s77.n) s83
          refine k_alloc zero138 rfl ?_
          intro s327 b327 st327 h327 ge327
          have szs327 := st327.size
          have hRS53 := hRS53.trans0 st327
          have hE78 := hE78.trans0 st327
          have hA326 := hA326.trans0 st327
          have lt327 := h327.lt
          refine rt_cont hA326 ?_
          refine rt_alt rfl rfl ?_ ?_
          ·
           have hA328 := Step.r0 (KN s77.n) s327
           refine k_alloc zero138 rfl ?_
           intro s329 b329 st329 h329 ge329
           have szs329 := st329.size
           have hRS53 := hRS53.trans0 st329
           have hE78 := hE78.trans0 st329
           have hA328 := hA328.trans0 st329
           replace h327 := h327.up2 st329
           have lt329 := h329.lt
           refine rt_cont hA328 ?_
           refine rt_alt rfl rfl ?_ ?_
           ·
            have hA330 := Step.r0 (KN s77.n) s329
            refine k_alloc zero138 rfl ?_
            intro s331 b331 st331 h331 ge331
            have szs331 := st331.size
            have hRS53 := hRS53.trans0 st331
            have hE78 := hE78.trans0 st331
            have hA330 := hA330.trans0 st331
            replace h327 := h327.up2 st331
            replace h329 := h329.up2 st331
            have lt331 := h331.lt
            refine rt_cont hA330 ?_
            refine rt_act rfl rfl ?_
            have hA332 := Step.r0 (KN s77.n) s331
            refine k_alloc zero138 rfl ?_
            intro s333 b333 st333 h333 ge333
            have szs333 := st333.size
            have hRS53 := hRS53.trans0 st333
            have hE78 := hE78.trans0 st333
            have hA332 := hA332.trans0 st333
            replace h327 := h327.up2 st333
            replace h329 := h329.up2 st333
            replace h331 := h331.up2 st333
            have lt333 := h333.lt
            refine rt_cont hA332 ?_
            refine rt_act0 rfl rfl ?_
            have hA334 := Step.r0 (KN s77.n) s333
            refine k_store_c (cs' := [.pointer (some ⟨b9, 0 + (x28.2.e0 : Int).toNat, none⟩)]) size138 rfl rfl h329 (by first | (simp; done) | omega | (dsimp only; omega)) (CellsOf.lit rfl rfl) rfl (by first | rfl | (simp; done) | (simp; omega)) rfl ?_
            intro s335 st335 h329
            have szs335 := st335.size
            have hRS53 := hRS53.c0 st335
            have hE78 := hE78.c0 st335
            have hA334 := hA334.c0 st335
            replace h327 := h327.up2 st335
            replace h331 := h331.up2 st335
            replace h333 := h333.up2 st335
            refine rt_cont0 hA334 ?_
            refine rt_act0 rfl rfl ?_
            have hA336 := Step.r0 (KN s77.n) s335
            refine k_store_c (cs' := [.pointer (some ⟨b9, 0 + (x28.2.e1 : Int).toNat, none⟩)]) size138 rfl rfl h331 (by first | (simp; done) | omega | (dsimp only; omega)) (CellsOf.lit rfl rfl) rfl (by first | rfl | (simp; done) | (simp; omega)) rfl ?_
            intro s337 st337 h331
            have szs337 := st337.size
            have hRS53 := hRS53.c0 st337
            have hE78 := hE78.c0 st337
            have hA336 := hA336.c0 st337
            replace h327 := h327.up2 st337
            replace h329 := h329.up2 st337
            replace h333 := h333.up2 st337
            refine rt_cont0 hA336 ?_
            refine rt_act0 rfl rfl ?_
            have hA338 := Step.r0 (KN s77.n) s337
            refine k_store_c (cs' := [.pointer (some ⟨b9, 0 + (x28.2.e2 : Int).toNat, none⟩)]) size138 rfl rfl h333 (by first | (simp; done) | omega | (dsimp only; omega)) (CellsOf.lit rfl rfl) rfl (by first | rfl | (simp; done) | (simp; omega)) rfl ?_
            intro s339 st339 h333
            have szs339 := st339.size
            have hRS53 := hRS53.c0 st339
            have hE78 := hE78.c0 st339
            have hA338 := hA338.c0 st339
            replace h327 := h327.up2 st339
            replace h329 := h329.up2 st339
            replace h331 := h331.up2 st339
            refine rt_cont0 hA338 ?_
            refine rt_fin ?_
            refine k_store_c (cs' := [.pointer (some ⟨b9, 0 + (x28.2.e3 : Int).toNat, none⟩)]) size138 rfl rfl h327 (by first | (simp; done) | omega | (dsimp only; omega)) (CellsOf.lit rfl rfl) rfl (by first | rfl | (simp; done) | (simp; omega)) rfl ?_
            intro s340 st340 h327
            have szs340 := st340.size
            have hRS53 := hRS53.c0 st340
            have hE78 := hE78.c0 st340
            replace h329 := h329.up2 st340
            replace h331 := h331.up2 st340
            replace h333 := h333.up2 st340
            refine k_nil ?_
            exact k_stop ⟨(s340, b329, b331, b333, b327), ⟨(by first | rfl | (simp <;> rfl)), (by first | rfl | (simp <;> rfl)), (by first | rfl | (simp <;> rfl)), (by first | rfl | (simp <;> rfl)), trivial⟩, ⟨rfl, rfl, trivial⟩, ⟨rfl, hE78, h329, (by first | omega | (simp <;> omega)), h331, (by first | omega | (simp <;> omega)), h333, (by first | omega | (simp <;> omega)), h327, (by first | omega | (simp <;> omega)), (by first | omega | (simp <;> omega)), (by first | omega | (simp <;> omega)), (by first | omega | (simp <;> omega)), (by first | omega | (simp <;> omega)), (by first | omega | (simp <;> omega)), (by first | omega | (simp <;> omega)), hc53⟩⟩
           ·
            refine rt_act rfl rfl ?_
            have hA341 := Step.r0 (KN s77.n) s329
            refine k_alloc zero138 rfl ?_
            intro s342 b342 st342 h342 ge342
            have szs342 := st342.size
            have hRS53 := hRS53.trans0 st342
            have hE78 := hE78.trans0 st342
            have hA341 := hA341.trans0 st342
            replace h327 := h327.up2 st342
            replace h329 := h329.up2 st342
            have lt342 := h342.lt
            refine rt_cont hA341 ?_
            refine rt_act rfl rfl ?_
            have hA343 := Step.r0 (KN s77.n) s342
            refine k_alloc zero138 rfl ?_
            intro s344 b344 st344 h344 ge344
            have szs344 := st344.size
            have hRS53 := hRS53.trans0 st344
            have hE78 := hE78.trans0 st344
            have hA343 := hA343.trans0 st344
            replace h327 := h327.up2 st344
            replace h329 := h329.up2 st344
            replace h342 := h342.up2 st344
            have lt344 := h344.lt
            refine rt_cont hA343 ?_
            refine rt_act0 rfl rfl ?_
            have hA345 := Step.r0 (KN s77.n) s344
            refine k_store_c (cs' := [.pointer (some ⟨b9, 0 + (x28.2.e0 : Int).toNat, none⟩)]) size138 rfl rfl h329 (by first | (simp; done) | omega | (dsimp only; omega)) (CellsOf.lit rfl rfl) rfl (by first | rfl | (simp; done) | (simp; omega)) rfl ?_
            intro s346 st346 h329
            have szs346 := st346.size
            have hRS53 := hRS53.c0 st346
            have hE78 := hE78.c0 st346
            have hA345 := hA345.c0 st346
            replace h327 := h327.up2 st346
            replace h342 := h342.up2 st346
            replace h344 := h344.up2 st346
            refine rt_cont0 hA345 ?_
            refine rt_act0 rfl rfl ?_
            have hA347 := Step.r0 (KN s77.n) s346
            refine k_store_c (cs' := [.pointer (some ⟨b9, 0 + (x28.2.e1 : Int).toNat, none⟩)]) size138 rfl rfl h344 (by first | (simp; done) | omega | (dsimp only; omega)) (CellsOf.lit rfl rfl) rfl (by first | rfl | (simp; done) | (simp; omega)) rfl ?_
            intro s348 st348 h344
            have szs348 := st348.size
            have hRS53 := hRS53.c0 st348
            have hE78 := hE78.c0 st348
            have hA347 := hA347.c0 st348
            replace h327 := h327.up2 st348
            replace h329 := h329.up2 st348
            replace h342 := h342.up2 st348
            refine rt_cont0 hA347 ?_
            refine rt_act0 rfl rfl ?_
            have hA349 := Step.r0 (KN s77.n) s348
            refine k_store_c (cs' := [.pointer (some ⟨b9, 0 + (x28.2.e2 : Int).toNat, none⟩)]) size138 rfl rfl h342 (by first | (simp; done) | omega | (dsimp only; omega)) (CellsOf.lit rfl rfl) rfl (by first | rfl | (simp; done) | (simp; omega)) rfl ?_
            intro s350 st350 h342
            have szs350 := st350.size
            have hRS53 := hRS53.c0 st350
            have hE78 := hE78.c0 st350
            have hA349 := hA349.c0 st350
            replace h327 := h327.up2 st350
            replace h329 := h329.up2 st350
            replace h344 := h344.up2 st350
            refine rt_cont0 hA349 ?_
            refine rt_fin ?_
            refine k_store_c (cs' := [.pointer (some ⟨b9, 0 + (x28.2.e3 : Int).toNat, none⟩)]) size138 rfl rfl h327 (by first | (simp; done) | omega | (dsimp only; omega)) (CellsOf.lit rfl rfl) rfl (by first | rfl | (simp; done) | (simp; omega)) rfl ?_
            intro s351 st351 h327
            have szs351 := st351.size
            have hRS53 := hRS53.c0 st351
            have hE78 := hE78.c0 st351
            replace h329 := h329.up2 st351
            replace h342 := h342.up2 st351
            replace h344 := h344.up2 st351
            refine k_nil ?_
            exact k_stop ⟨(s351, b329, b344, b342, b327), ⟨(by first | rfl | (simp <;> rfl)), (by first | rfl | (simp <;> rfl)), (by first | rfl | (simp <;> rfl)), (by first | rfl | (simp <;> rfl)), trivial⟩, ⟨rfl, rfl, trivial⟩, ⟨rfl, hE78, h329, (by first | omega | (simp <;> omega)), h344, (by first | omega | (simp <;> omega)), h342, (by first | omega | (simp <;> omega)), h327, (by first | omega | (simp <;> omega)), (by first | omega | (simp <;> omega)), (by first | omega | (simp <;> omega)), (by first | omega | (simp <;> omega)), (by first | omega | (simp <;> omega)), (by first | omega | (simp <;> omega)), (by first | omega | (simp <;> omega)), hc53⟩⟩
          ·
           refine rt_alt rfl rfl ?_ ?_
           ·
            have hA352 := Step.r0 (KN s77.n) s327
            refine k_alloc zero138 rfl ?_
            intro s353 b353 st353 h353 ge353
            have szs353 := st353.size
            have hRS53 := hRS53.trans0 st353
            have hE78 := hE78.trans0 st353
            have hA352 := hA352.trans0 st353
            replace h327 := h327.up2 st353
            have lt353 := h353.lt
            refine rt_cont hA352 ?_
            refine rt_alt rfl rfl ?_ ?_
            ·
             have hA354 := Step.r0 (KN s77.n) s353
             refine k_alloc zero138 rfl ?_
             intro s355 b355 st355 h355 ge355
             have szs355 := st355.size
             have hRS53 := hRS53.trans0 st355
             have hE78 := hE78.trans0 st355
             have hA354 := hA354.trans0 st355
             replace h327 := h327.up2 st355
             replace h353 := h353.up2 st355
             have lt355 := h355.lt
             refine rt_cont hA354 ?_
             refine rt_act rfl rfl ?_
             have hA356 := Step.r0 (KN s77.n) s355
             refine k_alloc zero138 rfl ?_
             intro s357 b357 st357 h357 ge357
             have szs357 := st357.size
             have hRS53 := hRS53.trans0 st357
             have hE78 := hE78.trans0 st357
             have hA356 := hA356.trans0 st357
             replace h327 := h327.up2 st357
             replace h353 := h353.up2 st357
             replace h355 := h355.up2 st357
             have lt357 := h357.lt
             refine rt_cont hA356 ?_
             refine rt_act0 rfl rfl ?_
             have hA358 := Step.r0 (KN s77.n) s357
             refine k_store_c (cs' := [.pointer (some ⟨b9, 0 + (x28.2.e0 : Int).toNat, none⟩)]) size138 rfl rfl h355 (by first | (simp; done) | omega | (dsimp only; omega)) (CellsOf.lit rfl rfl) rfl (by first | rfl | (simp; done) | (simp; omega)) rfl ?_
             intro s359 st359 h355
             have szs359 := st359.size
             have hRS53 := hRS53.c0 st359
             have hE78 := hE78.c0 st359
             have hA358 := hA358.c0 st359
             replace h327 := h327.up2 st359
             replace h353 := h353.up2 st359
             replace h357 := h357.up2 st359
             refine rt_cont0 hA358 ?_
             refine rt_act0 rfl rfl ?_
             have hA360 := Step.r0 (KN s77.n) s359
             refine k_store_c (cs' := [.pointer (some ⟨b9, 0 + (x28.2.e1 : Int).toNat, none⟩)]) size138 rfl rfl h353 (by first | (simp; done) | omega | (dsimp only; omega)) (CellsOf.lit rfl rfl) rfl (by first | rfl | (simp; done) | (simp; omega)) rfl ?_
             intro s361 st361 h353
             have szs361 := st361.size
             have hRS53 := hRS53.c0 st361
             have hE78 := hE78.c0 st361
             have hA360 := hA360.c0 st361
             replace h327 := h327.up2 st361
             replace h355 := h355.up2 st361
             replace h357 := h357.up2 st361
             refine rt_cont0 hA360 ?_
             refine rt_act0 rfl rfl ?_
             have hA362 := Step.r0 (KN s77.n) s361
             refine k_store_c (cs' := [.pointer (some ⟨b9, 0 + (x28.2.e2 : Int).toNat, none⟩)]) size138 rfl rfl h357 (by first | (simp; done) | omega | (dsimp only; omega)) (CellsOf.lit rfl rfl) rfl (by first | rfl | (simp; done) | (simp; omega)) rfl ?_
             intro s363 st363 h357
             have szs363 := st363.size
             have hRS53 := hRS53.c0 st363
             have hE78 := hE78.c0 st363
             have hA362 := hA362.c0 st363
             replace h327 := h327.up2 st363
             replace h353 := h353.up2 st363
             replace h355 := h355.up2 st363
             refine rt_cont0 hA362 ?_
             refine rt_fin ?_
             refine k_store_c (cs' := [.pointer (some ⟨b9, 0 + (x28.2.e3 : Int).toNat, none⟩)]) size138 rfl rfl h327 (by first | (simp; done) | omega | (dsimp only; omega)) (CellsOf.lit rfl rfl) rfl (by first | rfl | (simp; done) | (simp; omega)) rfl ?_
             intro s364 st364 h327
             have szs364 := st364.size
             have hRS53 := hRS53.c0 st364
             have hE78 := hE78.c0 st364
             replace h353 := h353.up2 st364
             replace h355 := h355.up2 st364
             replace h357 := h357.up2 st364
             refine k_nil ?_
             exact k_stop ⟨(s364, b355, b353, b357, b327), ⟨(by first | rfl | (simp <;> rfl)), (by first | rfl | (simp <;> rfl)), (by first | rfl | (simp <;> rfl)), (by first | rfl | (simp <;> rfl)), trivial⟩, ⟨rfl, rfl, trivial⟩, ⟨rfl, hE78, h355, (by first | omega | (simp <;> omega)), h353, (by first | omega | (simp <;> omega)), h357, (by first | omega | (simp <;> omega)), h327, (by first | omega | (simp <;> omega)), (by first | omega | (simp <;> omega)), (by first | omega | (simp <;> omega)), (by first | omega | (simp <;> omega)), (by first | omega | (simp <;> omega)), (by first | omega | (simp <;> omega)), (by first | omega | (simp <;> omega)), hc53⟩⟩
            ·
             refine rt_act rfl rfl ?_
             have hA365 := Step.r0 (KN s77.n) s353
             refine k_alloc zero138 rfl ?_
             intro s366 b366 st366 h366 ge366
             have szs366 := st366.size
             have hRS53 := hRS53.trans0 st366
             have hE78 := hE78.trans0 st366
             have hA365 := hA365.trans0 st366
             replace h327 := h327.up2 st366
             replace h353 := h353.up2 st366
             have lt366 := h366.lt
             refine rt_cont hA365 ?_
             refine rt_act rfl rfl ?_
             have hA367 := Step.r0 (KN s77.n) s366
             refine k_alloc zero138 rfl ?_
             intro s368 b368 st368 h368 ge368
             have szs368 := st368.size
             have hRS53 := hRS53.trans0 st368
             have hE78 := hE78.trans0 st368
             have hA367 := hA367.trans0 st368
             replace h327 := h327.up2 st368
             replace h353 := h353.up2 st368
             replace h366 := h366.up2 st368
             have lt368 := h368.lt
             refine rt_cont hA367 ?_
             refine rt_act0 rfl rfl ?_
             have hA369 := Step.r0 (KN s77.n) s368
             refine k_store_c (cs' := [.pointer (some ⟨b9, 0 + (x28.2.e0 : Int).toNat, none⟩)]) size138 rfl rfl h368 (by first | (simp; done) | omega | (dsimp only; omega)) (CellsOf.lit rfl rfl) rfl (by first | rfl | (simp; done) | (simp; omega)) rfl ?_
             intro s370 st370 h368
             have szs370 := st370.size
             have hRS53 := hRS53.c0 st370
             have hE78 := hE78.c0 st370
             have hA369 := hA369.c0 st370
             replace h327 := h327.up2 st370
             replace h353 := h353.up2 st370
             replace h366 := h366.up2 st370
             refine rt_cont0 hA369 ?_
             refine rt_act0 rfl rfl ?_
             have hA371 := Step.r0 (KN s77.n) s370
             refine k_store_c (cs' := [.pointer (some ⟨b9, 0 + (x28.2.e1 : Int).toNat, none⟩)]) size138 rfl rfl h353 (by first | (simp; done) | omega | (dsimp only; omega)) (CellsOf.lit rfl rfl) rfl (by first | rfl | (simp; done) | (simp; omega)) rfl ?_
             intro s372 st372 h353
             have szs372 := st372.size
             have hRS53 := hRS53.c0 st372
             have hE78 := hE78.c0 st372
             have hA371 := hA371.c0 st372
             replace h327 := h327.up2 st372
             replace h366 := h366.up2 st372
             replace h368 := h368.up2 st372
             refine rt_cont0 hA371 ?_
             refine rt_act0 rfl rfl ?_
             have hA373 := Step.r0 (KN s77.n) s372
             refine k_store_c (cs' := [.pointer (some ⟨b9, 0 + (x28.2.e2 : Int).toNat, none⟩)]) size138 rfl rfl h366 (by first | (simp; done) | omega | (dsimp only; omega)) (CellsOf.lit rfl rfl) rfl (by first | rfl | (simp; done) | (simp; omega)) rfl ?_
             intro s374 st374 h366
             have szs374 := st374.size
             have hRS53 := hRS53.c0 st374
             have hE78 := hE78.c0 st374
             have hA373 := hA373.c0 st374
             replace h327 := h327.up2 st374
             replace h353 := h353.up2 st374
             replace h368 := h368.up2 st374
             refine rt_cont0 hA373 ?_
             refine rt_fin ?_
             refine k_store_c (cs' := [.pointer (some ⟨b9, 0 + (x28.2.e3 : Int).toNat, none⟩)]) size138 rfl rfl h327 (by first | (simp; done) | omega | (dsimp only; omega)) (CellsOf.lit rfl rfl) rfl (by first | rfl | (simp; done) | (simp; omega)) rfl ?_
             intro s375 st375 h327
             have szs375 := st375.size
             have hRS53 := hRS53.c0 st375
             have hE78 := hE78.c0 st375
             replace h353 := h353.up2 st375
             replace h366 := h366.up2 st375
             replace h368 := h368.up2 st375
             refine k_nil ?_
             exact k_stop ⟨(s375, b368, b353, b366, b327), ⟨(by first | rfl | (simp <;> rfl)), (by first | rfl | (simp <;> rfl)), (by first | rfl | (simp <;> rfl)), (by first | rfl | (simp <;> rfl)), trivial⟩, ⟨rfl, rfl, trivial⟩, ⟨rfl, hE78, h368, (by first | omega | (simp <;> omega)), h353, (by first | omega | (simp <;> omega)), h366, (by first | omega | (simp <;> omega)), h327, (by first | omega | (simp <;> omega)), (by first | omega | (simp <;> omega)), (by first | omega | (simp <;> omega)), (by first | omega | (simp <;> omega)), (by first | omega | (simp <;> omega)), (by first | omega | (simp <;> omega)), (by first | omega | (simp <;> omega)), hc53⟩⟩
           ·
            refine rt_act rfl rfl ?_
            have hA376 := Step.r0 (KN s77.n) s327
            refine k_alloc zero138 rfl ?_
            intro s377 b377 st377 h377 ge377
            have szs377 := st377.size
            have hRS53 := hRS53.trans0 st377
            have hE78 := hE78.trans0 st377
            have hA376 := hA376.trans0 st377
            replace h327 := h327.up2 st377
            have lt377 := h377.lt
            refine rt_cont hA376 ?_
            refine rt_alt rfl rfl ?_ ?_
            ·
             have hA378 := Step.r0 (KN s77.n) s377
             refine k_alloc zero138 rfl ?_
             intro s379 b379 st379 h379 ge379
             have szs379 := st379.size
             have hRS53 := hRS53.trans0 st379
             have hE78 := hE78.trans0 st379
             have hA378 := hA378.trans0 st379
             replace h327 := h327.up2 st379
             replace h377 := h377.up2 st379
             have lt379 := h379.lt
             refine rt_cont hA378 ?_
             refine rt_act rfl rfl ?_
             have hA380 := Step.r0 (KN s77.n) s379
             refine k_alloc zero138 rfl ?_
             intro s381 b381 st381 h381 ge381
             have szs381 := st381.size
             have hRS53 := hRS53.trans0 st381
             have hE78 := hE78.trans0 st381
             have hA380 := hA380.trans0 st381
             replace h327 := h327.up2 st381
             replace h377 := h377.up2 st381
             replace h379 := h379.up2 st381
             have lt381 := h381.lt
             refine rt_cont hA380 ?_
             refine rt_act0 rfl rfl ?_
             have hA382 := Step.r0 (KN s77.n) s381
             refine k_store_c (cs' := [.pointer (some ⟨b9, 0 + (x28.2.e0 : Int).toNat, none⟩)]) size138 rfl rfl h379 (by first | (simp; done) | omega | (dsimp only; omega)) (CellsOf.lit rfl rfl) rfl (by first | rfl | (simp; done) | (simp; omega)) rfl ?_
             intro s383 st383 h379
             have szs383 := st383.size
             have hRS53 := hRS53.c0 st383
             have hE78 := hE78.c0 st383
             have hA382 := hA382.c0 st383
             replace h327 := h327.up2 st383
             replace h377 := h377.up2 st383
             replace h381 := h381.up2 st383
             refine rt_cont0 hA382 ?_
             refine rt_act0 rfl rfl ?_
             have hA384 := Step.r0 (KN s77.n) s383
             refine k_store_c (cs' := [.pointer (some ⟨b9, 0 + (x28.2.e1 : Int).toNat, none⟩)]) size138 rfl rfl h381 (by first | (simp; done) | omega | (dsimp only; omega)) (CellsOf.lit rfl rfl) rfl (by first | rfl | (simp; done) | (simp; omega)) rfl ?_
             intro s385 st385 h381
             have szs385 := st385.size
             have hRS53 := hRS53.c0 st385
             have hE78 := hE78.c0 st385
             have hA384 := hA384.c0 st385
             replace h327 := h327.up2 st385
             replace h377 := h377.up2 st385
             replace h379 := h379.up2 st385
             refine rt_cont0 hA384 ?_
             refine rt_act0 rfl rfl ?_
             have hA386 := Step.r0 (KN s77.n) s385
             refine k_store_c (cs' := [.pointer (some ⟨b9, 0 + (x28.2.e2 : Int).toNat, none⟩)]) size138 rfl rfl h377 (by first | (simp; done) | omega | (dsimp only; omega)) (CellsOf.lit rfl rfl) rfl (by first | rfl | (simp; done) | (simp; omega)) rfl ?_
             intro s387 st387 h377
             have szs387 := st387.size
             have hRS53 := hRS53.c0 st387
             have hE78 := hE78.c0 st387
             have hA386 := hA386.c0 st387
             replace h327 := h327.up2 st387
             replace h379 := h379.up2 st387
             replace h381 := h381.up2 st387
             refine rt_cont0 hA386 ?_
             refine rt_fin ?_
             refine k_store_c (cs' := [.pointer (some ⟨b9, 0 + (x28.2.e3 : Int).toNat, none⟩)]) size138 rfl rfl h327 (by first | (simp; done) | omega | (dsimp only; omega)) (CellsOf.lit rfl rfl) rfl (by first | rfl | (simp; done) | (simp; omega)) rfl ?_
             intro s388 st388 h327
             have szs388 := st388.size
             have hRS53 := hRS53.c0 st388
             have hE78 := hE78.c0 st388
             replace h377 := h377.up2 st388
             replace h379 := h379.up2 st388
             replace h381 := h381.up2 st388
             refine k_nil ?_
             exact k_stop ⟨(s388, b379, b381, b377, b327), ⟨(by first | rfl | (simp <;> rfl)), (by first | rfl | (simp <;> rfl)), (by first | rfl | (simp <;> rfl)), (by first | rfl | (simp <;> rfl)), trivial⟩, ⟨rfl, rfl, trivial⟩, ⟨rfl, hE78, h379, (by first | omega | (simp <;> omega)), h381, (by first | omega | (simp <;> omega)), h377, (by first | omega | (simp <;> omega)), h327, (by first | omega | (simp <;> omega)), (by first | omega | (simp <;> omega)), (by first | omega | (simp <;> omega)), (by first | omega | (simp <;> omega)), (by first | omega | (simp <;> omega)), (by first | omega | (simp <;> omega)), (by first | omega | (simp <;> omega)), hc53⟩⟩
            ·
             refine rt_act rfl rfl ?_
             have hA389 := Step.r0 (KN s77.n) s377
             refine k_alloc zero138 rfl ?_
             intro s390 b390 st390 h390 ge390
             have szs390 := st390.size
             have hRS53 := hRS53.trans0 st390
             have hE78 := hE78.trans0 st390
             have hA389 := hA389.trans0 st390
             replace h327 := h327.up2 st390
             replace h377 := h377.up2 st390
             have lt390 := h390.lt
             refine rt_cont hA389 ?_
             refine rt_act rfl rfl ?_
             have hA391 := Step.r0 (KN s77.n) s390
             refine k_alloc zero138 rfl ?_
             intro s392 b392 st392 h392 ge392
             have szs392 := st392.size
             have hRS53 := hRS53.trans0 st392
             have hE78 := hE78.trans0 st392
             have hA391 := hA391.trans0 st392
             replace h327 := h327.up2 st392
             replace h377 := h377.up2 st392
             replace h390 := h390.up2 st392
             have lt392 := h392.lt
             refine rt_cont hA391 ?_
             refine rt_act0 rfl rfl ?_
             have hA393 := Step.r0 (KN s77.n) s392
             refine k_store_c (cs' := [.pointer (some ⟨b9, 0 + (x28.2.e0 : Int).toNat, none⟩)]) size138 rfl rfl h392 (by first | (simp; done) | omega | (dsimp only; omega)) (CellsOf.lit rfl rfl) rfl (by first | rfl | (simp; done) | (simp; omega)) rfl ?_
             intro s394 st394 h392
             have szs394 := st394.size
             have hRS53 := hRS53.c0 st394
             have hE78 := hE78.c0 st394
             have hA393 := hA393.c0 st394
             replace h327 := h327.up2 st394
             replace h377 := h377.up2 st394
             replace h390 := h390.up2 st394
             refine rt_cont0 hA393 ?_
             refine rt_act0 rfl rfl ?_
             have hA395 := Step.r0 (KN s77.n) s394
             refine k_store_c (cs' := [.pointer (some ⟨b9, 0 + (x28.2.e1 : Int).toNat, none⟩)]) size138 rfl rfl h390 (by first | (simp; done) | omega | (dsimp only; omega)) (CellsOf.lit rfl rfl) rfl (by first | rfl | (simp; done) | (simp; omega)) rfl ?_
             intro s396 st396 h390
             have szs396 := st396.size
             have hRS53 := hRS53.c0 st396
             have hE78 := hE78.c0 st396
             have hA395 := hA395.c0 st396
             replace h327 := h327.up2 st396
             replace h377 := h377.up2 st396
             replace h392 := h392.up2 st396
             refine rt_cont0 hA395 ?_
             refine rt_act0 rfl rfl ?_
             have hA397 := Step.r0 (KN s77.n) s396
             refine k_store_c (cs' := [.pointer (some ⟨b9, 0 + (x28.2.e2 : Int).toNat, none⟩)]) size138 rfl rfl h377 (by first | (simp; done) | omega | (dsimp only; omega)) (CellsOf.lit rfl rfl) rfl (by first | rfl | (simp; done) | (simp; omega)) rfl ?_
             intro s398 st398 h377
             have szs398 := st398.size
             have hRS53 := hRS53.c0 st398
             have hE78 := hE78.c0 st398
             have hA397 := hA397.c0 st398
             replace h327 := h327.up2 st398
             replace h390 := h390.up2 st398
             replace h392 := h392.up2 st398
             refine rt_cont0 hA397 ?_
             refine rt_fin ?_
             refine k_store_c (cs' := [.pointer (some ⟨b9, 0 + (x28.2.e3 : Int).toNat, none⟩)]) size138 rfl rfl h327 (by first | (simp; done) | omega | (dsimp only; omega)) (CellsOf.lit rfl rfl) rfl (by first | rfl | (simp; done) | (simp; omega)) rfl ?_
             intro s399 st399 h327
             have szs399 := st399.size
             have hRS53 := hRS53.c0 st399
             have hE78 := hE78.c0 st399
             replace h377 := h377.up2 st399
             replace h390 := h390.up2 st399
             replace h392 := h392.up2 st399
             refine k_nil ?_
             exact k_stop ⟨(s399, b392, b390, b377, b327), ⟨(by first | rfl | (simp <;> rfl)), (by first | rfl | (simp <;> rfl)), (by first | rfl | (simp <;> rfl)), (by first | rfl | (simp <;> rfl)), trivial⟩, ⟨rfl, rfl, trivial⟩, ⟨rfl, hE78, h392, (by first | omega | (simp <;> omega)), h390, (by first | omega | (simp <;> omega)), h377, (by first | omega | (simp <;> omega)), h327, (by first | omega | (simp <;> omega)), (by first | omega | (simp <;> omega)), (by first | omega | (simp <;> omega)), (by first | omega | (simp <;> omega)), (by first | omega | (simp <;> omega)), (by first | omega | (simp <;> omega)), (by first | omega | (simp <;> omega)), hc53⟩⟩
      ·
       rintro ⟨s400, bv79, bv80, bv81, bv82⟩ wL ⟨rfl, hE78, h79, hd79, h80, hd80, h81, hd81, h82, hd82, hnbv80_bv79, hnbv81_bv79, hnbv81_bv80, hnbv82_bv79, hnbv82_bv80, hnbv82_bv81, hc53⟩
       have lth79 := h79.lt
       have lth80 := h80.lt
       have lth81 := h81.lt
       have lth82 := h82.lt
       rw [hK78] at hc53
       have szs400 := hE78.size
       have hRS53 := hRS53.trans0 hE78
       replace h1 := h1.up2 hE78
       replace h2 := h2.up2 hE78
       replace h6 := h6.up2 hE78
       replace h9 := h9.up2 hE78
       replace h50 := h50.up2 hE78
       replace hL := hL.up2 hE78
       refine k_seq ?_
       refine k_region ?_
       refine k_makeFunc rfl rfl rfl ?_
       refine k_assign rfl rfl ?_
       refine k_nil ?_
       refine k_keep [(2, _), (3, _), (12, _)] ⟨rfl, rfl, rfl, trivial⟩ ?_
       refine k_seq ?_
       refine k_region ?_
       refine k_move rfl rfl ?_
       refine k_move rfl rfl ?_
       refine k_callv_in cal96 rfl rfl rfl ?_
       refine k_fn (rs := []) (args := [.int .u32 (x35.toNat : Int), .int .i64 16, .int .i64 12, .pointer (some ⟨bv79, 0, none⟩), .pointer (some ⟨bv80, 0, none⟩), .pointer (some ⟨bv82, 0, none⟩), .pointer (some ⟨bv81, 0, none⟩)]) Tryd.func96 rfl rfl rfl rfl ?_
       refine k_seq ?_
       refine k_drawT (KN s400.n) 8 (.read 0 (.read 1 (.read 2 (.read 3 (.read 4 (.read 5 (.read 6 (.read 7 .fin)))))))) mixed (by intro c h; (try simp only [KC, KO, KU, KN, KB] at h) <;> omega) rfl rfl rfl ?_
       intro s401 st401
       have szs401 := st401.size
       have hRS53 := hRS53.trans0 st401
       replace h1 := h1.up2 st401
       replace h2 := h2.up2 st401
       replace h6 := h6.up2 st401
       replace h9 := h9.up2 st401
       replace h50 := h50.up2 st401
       replace h79 := h79.up2 st401
       replace h80 := h80.up2 st401
       replace h81 := h81.up2 st401
       replace h82 := h82.up2 st401
       replace hL := hL.up2 st401
       refine rt_read (.pointer (some ⟨b9, 0 + (x28.2.e0 : Int).toNat, none⟩)) rfl rfl (fun s402 st402 => ?_) ?_
       ·try replace h79 := h79.up2 st402
        refine k_load_blk one138 rfl h79 rfl rfl ?_
        exact fq_end
       refine rt_read (.pointer (some ⟨b9, 0 + (x28.2.e0 : Int).toNat, none⟩)) rfl rfl (fun s403 st403 => ?_) ?_
       ·refine k_nilCheck rfl rfl ?_
        exact fq_end
       obtain ⟨x44, hx44, hc53⟩ := ob hc53
       refine rt_read (.int .u32 (x44.toNat : Int)) rfl rfl (fun s404 st404 => ?_) ?_
       ·try replace h9 := h9.up2 st404
        refine k_load_el cU (pre := []) (xs := x27) one78 rfl h9 rfl hx44 rfl ?_
        exact fq_end
       refine rt_read (.pointer (some ⟨b9, 0 + (x28.2.e1 : Int).toNat, none⟩)) rfl rfl (fun s405 st405 => ?_) ?_
       ·try replace h80 := h80.up2 st405
        refine k_load_blk one138 rfl h80 rfl rfl ?_
        exact fq_end
       refine rt_read (.pointer (some ⟨b9, 0 + (x28.2.e1 : Int).toNat, none⟩)) rfl rfl (fun s406 st406 => ?_) ?_
       ·refine k_nilCheck rfl rfl ?_
        exact fq_end
       obtain ⟨x45, hx45, hc53⟩ := ob hc53
       refine rt_read (.int .u32 (x45.toNat : Int)) rfl rfl (fun s407 st407 => ?_) ?_
       ·try replace h9 := h9.up2 st407
        refine k_load_el cU (pre := []) (xs := x27) one78 rfl h9 rfl hx45 rfl ?_
        exact fq_end
       refine rt_read (.int .u32 (x35.toNat : Int)) rfl rfl (fun s408 st408 => ?_) ?_
       ·refine k_move rfl rfl ?_
        exact fq_end
       refine rt_read (.int .u32 ((ofI32 ((x45.toNat : Int) + (x35.toNat : Int))).toNat : Int)) rfl rfl (fun s409 st409 => ?_) ?_
       ·refine k_add rfl rfl rfl ?_
        refine k_as (congrArg (Value.int .u32) (w32 _)) ?_
        exact fq_end
       refine rt_fin ?_
       refine k_add rfl rfl rfl ?_
       refine k_as (congrArg (Value.int .u32) (w32 _)) ?_
       refine k_nilCheck rfl rfl ?_
       obtain ⟨x46, hx46, hc53⟩ := ob hc53
       refine k_store_el cU (fun _ => rfl) (v := ofI32 ((x44.toNat : Int) + ((ofI32 ((x45.toNat : Int) + (x35.toNat : Int))).toNat : Int))) (pre := []) (xs := x27) size78 rfl rfl h9 (by first | (simp; done) | omega | (dsimp only; omega)) rfl hx46 ?_
       intro s410 st410 h9
       have hl410 : (x27.set (x28.2.e0 : Int).toNat (ofI32 ((x44.toNat : Int) + ((ofI32 ((x45.toNat : Int) + (x35.toNat : Int))).toNat : Int)))).length = 16 := by rw [List.length_set]; exact h54
       have szs410 := st410.size
       have hRS53 := hRS53.c0 st410
       replace h1 := h1.up2 st410
       replace h2 := h2.up2 st410
       replace h6 := h6.up2 st410
       replace h50 := h50.up2 st410
       replace h79 := h79.up2 st410
       replace h80 := h80.up2 st410
       replace h81 := h81.up2 st410
       replace h82 := h82.up2 st410
       replace hL := hL.up2 st410
       refine k_nil ?_
       refine k_keep [(1, _), (2, _), (3, _), (4, _), (5, _), (6, _)] ⟨rfl, rfl, rfl, rfl, rfl, rfl, trivial⟩ ?_
       refine k_seq ?_
       refine k_drawT (KN s410.n) 11 (.read 0 (.read 1 (.read 2 (.read 3 (.read 4 (.read 5 (.read 6 (.read 7 (.read 8 (.read 9 (.alt 10 .fin .no))))))))))) mixed (by intro c h; (try simp only [KC, KO, KU, KN, KB] at h) <;> omega) rfl rfl rfl ?_
       intro s411 st411
       have szs411 := st411.size
       have hRS53 := hRS53.trans0 st411
       replace h1 := h1.up2 st411
       replace h2 := h2.up2 st411
       replace h6 := h6.up2 st411
       replace h9 := h9.up2 st411
       replace h50 := h50.up2 st411
       replace h79 := h79.up2 st411
       replace h80 := h80.up2 st411
       replace h81 := h81.up2 st411
       replace h82 := h82.up2 st411
       replace hL := hL.up2 st411
       refine rt_read (.pointer (some ⟨b9, 0 + (x28.2.e3 : Int).toNat, none⟩)) rfl rfl (fun s412 st412 => ?_) ?_
       ·try replace h82 := h82.up2 st412
        refine k_load_blk one138 rfl h82 rfl rfl ?_
        exact fq_end
       refine rt_read (.pointer (some ⟨b9, 0 + (x28.2.e3 : Int).toNat, none⟩)) rfl rfl (fun s413 st413 => ?_) ?_
       ·try replace h82 := h82.up2 st413
        refine k_load_blk one138 rfl h82 rfl rfl ?_
        exact fq_end
       refine rt_read (.pointer (some ⟨b9, 0 + (x28.2.e3 : Int).toNat, none⟩)) rfl rfl (fun s414 st414 => ?_) ?_
       ·refine k_nilCheck rfl rfl ?_
        exact fq_end
       obtain ⟨x47, hx47, hc53⟩ := ob hc53
       refine rt_read (.int .u32 (x47.toNat : Int)) rfl rfl (fun s415 st415 => ?_) ?_
       ·try replace h9 := h9.up2 st415
        refine k_load_el cU (pre := []) (xs := (x27.set (x28.2.e0 : Int).toNat (ofI32 ((x44.toNat : Int) + ((ofI32 ((x45.toNat : Int) + (x35.toNat : Int))).toNat : Int))))) one78 rfl h9 rfl hx47 rfl ?_
        exact fq_end
       refine rt_read (.pointer (some ⟨b9, 0 + (x28.2.e0 : Int).toNat, none⟩)) rfl rfl (fun s416 st416 => ?_) ?_
       ·try replace h79 := h79.up2 st416
        refine k_load_blk one138 rfl h79 rfl rfl ?_
        exact fq_end
       refine rt_read (.pointer (some ⟨b9, 0 + (x28.2.e0 : Int).toNat, none⟩)) rfl rfl (fun s417 st417 => ?_) ?_
       ·refine k_nilCheck rfl rfl ?_
        exact fq_end
       obtain ⟨x48, hx48, hc53⟩ := ob hc53
       refine rt_read (.int .u32 (x48.toNat : Int)) rfl rfl (fun s418 st418 => ?_) ?_
       ·try replace h9 := h9.up2 st418
        refine k_load_el cU (pre := []) (xs := (x27.set (x28.2.e0 : Int).toNat (ofI32 ((x44.toNat : Int) + ((ofI32 ((x45.toNat : Int) + (x35.toNat : Int))).toNat : Int))))) one78 rfl h9 rfl hx48 rfl ?_
        exact fq_end
       refine rt_read (.int .u32 ((x47 ^^^ x48).toNat : Int)) rfl rfl (fun s419 st419 => ?_) ?_
       ·refine k_bits (p := (x47.toNat : Int)) (q := (x48.toNat : Int)) (.inr (.inr (.inl ⟨rfl, rfl⟩))) rfl rfl rfl ?_
        refine k_as (congrArg (Value.int .u32) (xor32 _ _)) ?_
        exact fq_end
       refine rt_read (.int .i64 16) rfl rfl (fun s420 st420 => ?_) ?_
       ·refine k_move rfl rfl ?_
        exact fq_end
       refine rt_read (.int .i64 (i64 (0 - 16))) rfl rfl (fun s421 st421 => ?_) ?_
       ·refine k_neg rfl rfl ?_
        exact fq_end
       refine rt_act rfl rfl ?_
       have hA422 := Step.r0 (KN s410.n) s411
       obtain ⟨x49, hx49, hc53⟩ := ob hc53
       refine k_call cal97 rfl (bits_RotateLeft32_w   hx49) rfl ?_
       rintro s423 vr423 st423 rfl
       have szs423 := st423.size
       have hRS53 := hRS53.trans0 st423
       have hA422 := hA422.trans0 st423
       replace h1 := h1.up2 st423
       replace h2 := h2.up2 st423
       replace h6 := h6.up2 st423
       replace h9 := h9.up2 st423
       replace h50 := h50.up2 st423
       replace h79 := h79.up2 st423
       replace h80 := h80.up2 st423
       replace h81 := h81.up2 st423
       replace h82 := h82.up2 st423
       replace hL := hL.up2 st423
       refine rt_cont hA422 ?_
       refine rt_fin ?_
       refine k_nilCheck rfl rfl ?_
       obtain ⟨x50, hx50, hc53⟩ := ob hc53
       refine k_store_el cU (fun _ => rfl) (v := x49) (pre := []) (xs := (x27.set (x28.2.e0 : Int).toNat (ofI32 ((x44.toNat : Int) + ((ofI32 ((x45.toNat : Int) + (x35.toNat : Int))).toNat : Int))))) size78 rfl rfl h9 (by first | (simp; done) | omega | (dsimp only; omega)) rfl hx50 ?_
       intro s424 st424 h9
       have hl424 : ((x27.set (x28.2.e0 : Int).toNat (ofI32 ((x44.toNat : Int) + ((ofI32 ((x45.toNat : Int) + (x35.toNat : Int))).toNat : Int)))).set (x28.2.e3 : Int).toNat x49).length = 16 := by rw [List.length_set]; exact hl410
       have szs424 := st424.size
       have hRS53 := hRS53.c0 st424
       replace h1 := h1.up2 st424
       replace h2 := h2.up2 st424
       replace h6 := h6.up2 st424
       replace h50 := h50.up2 st424
       replace h79 := h79.up2 st424
       replace h80 := h80.up2 st424
       replace h81 := h81.up2 st424
       replace h82 := h82.up2 st424
       replace hL := hL.up2 st424
       refine k_nil ?_
       refine k_keep [(2, _), (4, _), (5, _), (6, _)] ⟨rfl, rfl, rfl, rfl, trivial⟩ ?_
       refine k_seq ?_
       refine k_drawT (KN s424.n) 6 (.read 0 (.read 1 (.read 2 (.read 3 (.read 4 (.read 5 .fin)))))) mixed (by intro c h; (try simp only [KC, KO, KU, KN, KB] at h) <;> omega) rfl rfl rfl ?_
       intro s425 st425
       have szs425 := st425.size
       have hRS53 := hRS53.trans0 st425
       replace h1 := h1.up2 st425
       replace h2 := h2.up2 st425
       replace h6 := h6.up2 st425
       replace h9 := h9.up2 st425
       replace h50 := h50.up2 st425
       replace h79 := h79.up2 st425
       replace h80 := h80.up2 st425
       replace h81 := h81.up2 st425
       replace h82 := h82.up2 st425
       replace hL := hL.up2 st425
       refine rt_read (.pointer (some ⟨b9, 0 + (x28.2.e2 : Int).toNat, none⟩)) rfl rfl (fun s426 st426 => ?_) ?_
       ·try replace h81 := h81.up2 st426
        refine k_load_blk one138 rfl h81 rfl rfl ?_
        exact fq_end
       refine rt_read (.pointer (some ⟨b9, 0 + (x28.2.e2 : Int).toNat, none⟩)) rfl rfl (fun s427 st427 => ?_) ?_
       ·refine k_nilCheck rfl rfl ?_
        exact fq_end
       obtain ⟨x51, hx51, hc53⟩ := ob hc53
       refine rt_read (.int .u32 (x51.toNat : Int)) rfl rfl (fun s428 st428 => ?_) ?_
       ·try replace h9 := h9.up2 st428
        refine k_load_el cU (pre := []) (xs := ((x27.set (x28.2.e0 : Int).toNat (ofI32 ((x44.toNat : Int) + ((ofI32 ((x45.toNat : Int) + (x35.toNat : Int))).toNat : Int)))).set (x28.2.e3 : Int).toNat x49)) one78 rfl h9 rfl hx51 rfl ?_
        exact fq_end
       refine rt_read (.pointer (some ⟨b9, 0 + (x28.2.e3 : Int).toNat, none⟩)) rfl rfl (fun s429 st429 => ?_) ?_
       ·try replace h82 := h82.up2 st429
        refine k_load_blk one138 rfl h82 rfl rfl ?_
        exact fq_end
       refine rt_read (.pointer (some ⟨b9, 0 + (x28.2.e3 : Int).toNat, none⟩)) rfl rfl (fun s430 st430 => ?_) ?_
       ·refine k_nilCheck rfl rfl ?_
        exact fq_end
       obtain ⟨x52, hx52, hc53⟩ := ob hc53
       refine rt_read (.int .u32 (x52.toNat : Int)) rfl rfl (fun s431 st431 => ?_) ?_
       ·try replace h9 := h9.up2 st431
        refine k_load_el cU (pre := []) (xs := ((x27.set (x28.2.e0 : Int).toNat (ofI32 ((x44.toNat : Int) + ((ofI32 ((x45.toNat : Int) + (x35.toNat : Int))).toNat : Int)))).set (x28.2.e3 : Int).toNat x49)) one78 rfl h9 rfl hx52 rfl ?_
        exact fq_end
       refine rt_fin ?_
       refine k_add rfl rfl rfl ?_
       refine k_as (congrArg (Value.int .u32) (w32 _)) ?_
       refine k_nilCheck rfl rfl ?_
       obtain ⟨x53, hx53, hc53⟩ := ob hc53
       refine k_store_el cU (fun _ => rfl) (v := ofI32 ((x51.toNat : Int) + (x52.toNat : Int))) (pre := []) (xs := ((x27.set (x28.2.e0 : Int).toNat (ofI32 ((x44.toNat : Int) + ((ofI32 ((x45.toNat : Int) + (x35.toNat : Int))).toNat : Int)))).set (x28.2.e3 : Int).toNat x49)) size78 rfl rfl h9 (by first | (simp; done) | omega | (dsimp only; omega)) rfl hx53 ?_
       intro s432 st432 h9
       have hl432 : (((x27.set (x28.2.e0 : Int).toNat (ofI32 ((x44.toNat : Int) + ((ofI32 ((x45.toNat : Int) + (x35.toNat : Int))).toNat : Int)))).set (x28.2.e3 : Int).toNat x49).set (x28.2.e2 : Int).toNat (ofI32 ((x51.toNat : Int) + (x52.toNat : Int)))).length = 16 := by rw [List.length_set]; exact hl424
       have szs432 := st432.size
       have hRS53 := hRS53.c0 st432
       replace h1 := h1.up2 st432
       replace h2 := h2.up2 st432
       replace h6 := h6.up2 st432
       replace h50 := h50.up2 st432
       replace h79 := h79.up2 st432
       replace h80 := h80.up2 st432
       replace h81 := h81.up2 st432
       replace h82 := h82.up2 st432
       replace hL := hL.up2 st432
       refine k_nil ?_
       refine k_keep [(2, _), (4, _), (6, _)] ⟨rfl, rfl, rfl, trivial⟩ ?_
       refine k_drawT (KN s432.n) 11 (.read 0 (.read 1 (.read 2 (.read 3 (.read 4 (.read 5 (.read 6 (.read 7 (.read 8 (.read 9 (.alt 10 .fin .no))))))))))) mixed (by intro c h; (try simp only [KC, KO, KU, KN, KB] at h) <;> omega) rfl rfl rfl ?_
       intro s433 st433
       have szs433 := st433.size
       have hRS53 := hRS53.trans0 st433
       replace h1 := h1.up2 st433
       replace h2 := h2.up2 st433
       replace h6 := h6.up2 st433
       replace h9 := h9.up2 st433
       replace h50 := h50.up2 st433
       replace h79 := h79.up2 st433
       replace h80 := h80.up2 st433
       replace h81 := h81.up2 st433
       replace h82 := h82.up2 st433
       replace hL := hL.up2 st433
       refine rt_read (.pointer (some ⟨b9, 0 + (x28.2.e1 : Int).toNat, none⟩)) rfl rfl (fun s434 st434 => ?_) ?_
       ·try replace h80 := h80.up2 st434
        refine k_load_blk one138 rfl h80 rfl rfl ?_
        exact fq_end
       refine rt_read (.pointer (some ⟨b9, 0 + (x28.2.e1 : Int).toNat, none⟩)) rfl rfl (fun s435 st435 => ?_) ?_
       ·try replace h80 := h80.up2 st435
        refine k_load_blk one138 rfl h80 rfl rfl ?_
        exact fq_end
       refine rt_read (.pointer (some ⟨b9, 0 + (x28.2.e1 : Int).toNat, none⟩)) rfl rfl (fun s436 st436 => ?_) ?_
       ·refine k_nilCheck rfl rfl ?_
        exact fq_end
       obtain ⟨x54, hx54, hc53⟩ := ob hc53
       refine rt_read (.int .u32 (x54.toNat : Int)) rfl rfl (fun s437 st437 => ?_) ?_
       ·try replace h9 := h9.up2 st437
        refine k_load_el cU (pre := []) (xs := (((x27.set (x28.2.e0 : Int).toNat (ofI32 ((x44.toNat : Int) + ((ofI32 ((x45.toNat : Int) + (x35.toNat : Int))).toNat : Int)))).set (x28.2.e3 : Int).toNat x49).set (x28.2.e2 : Int).toNat (ofI32 ((x51.toNat : Int) + (x52.toNat : Int))))) one78 rfl h9 rfl hx54 rfl ?_
        exact fq_end
       refine rt_read (.pointer (some ⟨b9, 0 + (x28.2.e2 : Int).toNat, none⟩)) rfl rfl (fun s438 st438 => ?_) ?_
       ·try replace h81 := h81.up2 st438
        refine k_load_blk one138 rfl h81 rfl rfl ?_
        exact fq_end
       refine rt_read (.pointer (some ⟨b9, 0 + (x28.2.e2 : Int).toNat, none⟩)) rfl rfl (fun s439 st439 => ?_) ?_
       ·refine k_nilCheck rfl rfl ?_
        exact fq_end
       obtain ⟨x55, hx55, hc53⟩ := ob hc53
       refine rt_read (.int .u32 (x55.toNat : Int)) rfl rfl (fun s440 st440 => ?_) ?_
       ·try replace h9 := h9.up2 st440
        refine k_load_el cU (pre := []) (xs := (((x27.set (x28.2.e0 : Int).toNat (ofI32 ((x44.toNat : Int) + ((ofI32 ((x45.toNat : Int) + (x35.toNat : Int))).toNat : Int)))).set (x28.2.e3 : Int).toNat x49).set (x28.2.e2 : Int).toNat (ofI32 ((x51.toNat : Int) + (x52.toNat : Int))))) one78 rfl h9 rfl hx55 rfl ?_
        exact fq_end
       refine rt_read (.int .u32 ((x54 ^^^ x55).toNat : Int)) rfl rfl (fun s441 st441 => ?_) ?_
       ·refine k_bits (p := (x54.toNat : Int)) (q := (x55.toNat : Int)) (.inr (.inr (.inl ⟨rfl, rfl⟩))) rfl rfl rfl ?_
        refine k_as (congrArg (Value.int .u32) (xor32 _ _)) ?_
        exact fq_end
       refine rt_read (.int .i64 12) rfl rfl (fun s442 st442 => ?_) ?_
       ·refine k_move rfl rfl ?_
        exact fq_end
       refine rt_read (.int .i64 (i64 (0 - 12))) rfl rfl (fun s443 st443 => ?_) ?_
       ·refine k_neg rfl rfl ?_
        exact fq_end
       refine rt_act rfl rfl ?_
       have hA444 := Step.r0 (KN s432.n) s433
       obtain ⟨x56, hx56, hc53⟩ := ob hc53
       refine k_call cal97 rfl (bits_RotateLeft32_w   hx56) rfl ?_
       rintro s445 vr445 st445 rfl
       have szs445 := st445.size
       have hRS53 := hRS53.trans0 st445
       have hA444 := hA444.trans0 st445
       replace h1 := h1.up2 st445
       replace h2 := h2.up2 st445
       replace h6 := h6.up2 st445
       replace h9 := h9.up2 st445
       replace h50 := h50.up2 st445
       replace h79 := h79.up2 st445
       replace h80 := h80.up2 st445
       replace h81 := h81.up2 st445
       replace h82 := h82.up2 st445
       replace hL := hL.up2 st445
       refine rt_cont hA444 ?_
       refine rt_fin ?_
       refine k_nilCheck rfl rfl ?_
       obtain ⟨x57, hx57, hc53⟩ := ob hc53
       refine k_store_el cU (fun _ => rfl) (v := x56) (pre := []) (xs := (((x27.set (x28.2.e0 : Int).toNat (ofI32 ((x44.toNat : Int) + ((ofI32 ((x45.toNat : Int) + (x35.toNat : Int))).toNat : Int)))).set (x28.2.e3 : Int).toNat x49).set (x28.2.e2 : Int).toNat (ofI32 ((x51.toNat : Int) + (x52.toNat : Int))))) size78 rfl rfl h9 (by first | (simp; done) | omega | (dsimp only; omega)) rfl hx57 ?_
       intro s446 st446 h9
       have hl446 : ((((x27.set (x28.2.e0 : Int).toNat (ofI32 ((x44.toNat : Int) + ((ofI32 ((x45.toNat : Int) + (x35.toNat : Int))).toNat : Int)))).set (x28.2.e3 : Int).toNat x49).set (x28.2.e2 : Int).toNat (ofI32 ((x51.toNat : Int) + (x52.toNat : Int)))).set (x28.2.e1 : Int).toNat x56).length = 16 := by rw [List.length_set]; exact hl432
       have szs446 := st446.size
       have hRS53 := hRS53.c0 st446
       replace h1 := h1.up2 st446
       replace h2 := h2.up2 st446
       replace h6 := h6.up2 st446
       replace h50 := h50.up2 st446
       replace h79 := h79.up2 st446
       replace h80 := h80.up2 st446
       replace h81 := h81.up2 st446
       replace h82 := h82.up2 st446
       replace hL := hL.up2 st446
       refine k_nil ?_
       refine k_end ?_
       refine ⟨_, rfl, _, rfl, ?_⟩
       refine k_nil ?_
       refine k_keep [(3, _), (12, _)] ⟨rfl, rfl, trivial⟩ ?_
       refine k_region ?_
       refine k_move rfl rfl ?_
       refine k_move rfl rfl ?_
       refine k_callv_in cal96 rfl rfl rfl ?_
       refine k_fn (rs := []) (args := [.int .u32 (x38.toNat : Int), .int .i64 8, .int .i64 7, .pointer (some ⟨bv79, 0, none⟩), .pointer (some ⟨bv80, 0, none⟩), .pointer (some ⟨bv82, 0, none⟩), .pointer (some ⟨bv81, 0, none⟩)]) Tryd.func96 rfl rfl rfl rfl ?_
       refine k_seq ?_
       refine k_drawT (KN s446.n) 8 (.read 0 (.read 1 (.read 2 (.read 3 (.read 4 (.read 5 (.read 6 (.read 7 .fin)))))))) mixed (by intro c h; (try simp only [KC, KO, KU, KN, KB] at h) <;> omega) rfl rfl rfl ?_
       intro s447 st447
       have szs447 := st447.size
       have hRS53 := hRS53.trans0 st447
       replace h1 := h1.up2 st447
       replace h2 := h2.up2 st447
       replace h6 := h6.up2 st447
       replace h9 := h9.up2 st447
       replace h50 := h50.up2 st447
       replace h79 := h79.up2 st447
       replace h80 := h80.up2 st447
       replace h81 := h81.up2 st447
       replace h82 := h82.up2 st447
       replace hL := hL.up2 st447
       refine rt_read (.pointer (some ⟨b9, 0 + (x28.2.e0 : Int).toNat, none⟩)) rfl rfl (fun s448 st448 => ?_) ?_
       ·try replace h79 := h79.up2 st448
        refine k_load_blk one138 rfl h79 rfl rfl ?_
        exact fq_end
       refine rt_read (.pointer (some ⟨b9, 0 + (x28.2.e0 : Int).toNat, none⟩)) rfl rfl (fun s449 st449 => ?_) ?_
       ·refine k_nilCheck rfl rfl ?_
        exact fq_end
       obtain ⟨x58, hx58, hc53⟩ := ob hc53
       refine rt_read (.int .u32 (x58.toNat : Int)) rfl rfl (fun s450 st450 => ?_) ?_
       ·try replace h9 := h9.up2 st450
        refine k_load_el cU (pre := []) (xs := ((((x27.set (x28.2.e0 : Int).toNat (ofI32 ((x44.toNat : Int) + ((ofI32 ((x45.toNat : Int) + (x35.toNat : Int))).toNat : Int)))).set (x28.2.e3 : Int).toNat x49).set (x28.2.e2 : Int).toNat (ofI32 ((x51.toNat : Int) + (x52.toNat : Int)))).set (x28.2.e1 : Int).toNat x56)) one78 rfl h9 rfl hx58 rfl ?_
        exact fq_end
       refine rt_read (.pointer (some ⟨b9, 0 + (x28.2.e1 : Int).toNat, none⟩)) rfl rfl (fun s451 st451 => ?_) ?_
       ·try replace h80 := h80.up2 st451
        refine k_load_blk one138 rfl h80 rfl rfl ?_
        exact fq_end
       refine rt_read (.pointer (some ⟨b9, 0 + (x28.2.e1 : Int).toNat, none⟩)) rfl rfl (fun s452 st452 => ?_) ?_
       ·refine k_nilCheck rfl rfl ?_
        exact fq_end
       obtain ⟨x59, hx59, hc53⟩ := ob hc53
       refine rt_read (.int .u32 (x59.toNat : Int)) rfl rfl (fun s453 st453 => ?_) ?_
       ·try replace h9 := h9.up2 st453
        refine k_load_el cU (pre := []) (xs := ((((x27.set (x28.2.e0 : Int).toNat (ofI32 ((x44.toNat : Int) + ((ofI32 ((x45.toNat : Int) + (x35.toNat : Int))).toNat : Int)))).set (x28.2.e3 : Int).toNat x49).set (x28.2.e2 : Int).toNat (ofI32 ((x51.toNat : Int) + (x52.toNat : Int)))).set (x28.2.e1 : Int).toNat x56)) one78 rfl h9 rfl hx59 rfl ?_
        exact fq_end
       refine rt_read (.int .u32 (x38.toNat : Int)) rfl rfl (fun s454 st454 => ?_) ?_
       ·refine k_move rfl rfl ?_
        exact fq_end
       refine rt_read (.int .u32 ((ofI32 ((x59.toNat : Int) + (x38.toNat : Int))).toNat : Int)) rfl rfl (fun s455 st455 => ?_) ?_
       ·refine k_add rfl rfl rfl ?_
        refine k_as (congrArg (Value.int .u32) (w32 _)) ?_
        exact fq_end
       refine rt_fin ?_
       refine k_add rfl rfl rfl ?_
       refine k_as (congrArg (Value.int .u32) (w32 _)) ?_
       refine k_nilCheck rfl rfl ?_
       obtain ⟨x60, hx60, hc53⟩ := ob hc53
       refine k_store_el cU (fun _ => rfl) (v := ofI32 ((x58.toNat : Int) + ((ofI32 ((x59.toNat : Int) + (x38.toNat : Int))).toNat : Int))) (pre := []) (xs := ((((x27.set (x28.2.e0 : Int).toNat (ofI32 ((x44.toNat : Int) + ((ofI32 ((x45.toNat : Int) + (x35.toNat : Int))).toNat : Int)))).set (x28.2.e3 : Int).toNat x49).set (x28.2.e2 : Int).toNat (ofI32 ((x51.toNat : Int) + (x52.toNat : Int)))).set (x28.2.e1 : Int).toNat x56)) size78 rfl rfl h9 (by first | (simp; done) | omega | (dsimp only; omega)) rfl hx60 ?_
       intro s456 st456 h9
       have hl456 : (((((x27.set (x28.2.e0 : Int).toNat (ofI32 ((x44.toNat : Int) + ((ofI32 ((x45.toNat : Int) + (x35.toNat : Int))).toNat : Int)))).set (x28.2.e3 : Int).toNat x49).set (x28.2.e2 : Int).toNat (ofI32 ((x51.toNat : Int) + (x52.toNat : Int)))).set (x28.2.e1 : Int).toNat x56).set (x28.2.e0 : Int).toNat (ofI32 ((x58.toNat : Int) + ((ofI32 ((x59.toNat : Int) + (x38.toNat : Int))).toNat : Int)))).length = 16 := by rw [List.length_set]; exact hl446
       have szs456 := st456.size
       have hRS53 := hRS53.c0 st456
       replace h1 := h1.up2 st456
       replace h2 := h2.up2 st456
       replace h6 := h6.up2 st456
       replace h50 := h50.up2 st456
       replace h79 := h79.up2 st456
       replace h80 := h80.up2 st456
       replace h81 := h81.up2 st456
       replace h82 := h82.up2 st456
       replace hL := hL.up2 st456
       refine k_nil ?_
       refine k_keep [(1, _), (2, _), (3, _), (4, _), (5, _), (6, _)] ⟨rfl, rfl, rfl, rfl, rfl, rfl, trivial⟩ ?_
       refine k_seq ?_
       refine k_drawT (KN s456.n) 11 (.read 0 (.read 1 (.read 2 (.read 3 (.read 4 (.read 5 (.read 6 (.read 7 (.read 8 (.read 9 (.alt 10 .fin .no))))))))))) mixed (by intro c h; (try simp only [KC, KO, KU, KN, KB] at h) <;> omega) rfl rfl rfl ?_
       intro s457 st457
       have szs457 := st457.size
       have hRS53 := hRS53.trans0 st457
       replace h1 := h1.up2 st457
       replace h2 := h2.up2 st457
       replace h6 := h6.up2 st457
       replace h9 := h9.up2 st457
       replace h50 := h50.up2 st457
       replace h79 := h79.up2 st457
       replace h80 := h80.up2 st457
       replace h81 := h81.up2 st457
       replace h82 := h82.up2 st457
       replace hL := hL.up2 st457
       refine rt_read (.pointer (some ⟨b9, 0 + (x28.2.e3 : Int).toNat, none⟩)) rfl rfl (fun s458 st458 => ?_) ?_
       ·try replace h82 := h82.up2 st458
        refine k_load_blk one138 rfl h82 rfl rfl ?_
        exact fq_end
       refine rt_read (.pointer (some ⟨b9, 0 + (x28.2.e3 : Int).toNat, none⟩)) rfl rfl (fun s459 st459 => ?_) ?_
       ·try replace h82 := h82.up2 st459
        refine k_load_blk one138 rfl h82 rfl rfl ?_
        exact fq_end
       refine rt_read (.pointer (some ⟨b9, 0 + (x28.2.e3 : Int).toNat, none⟩)) rfl rfl (fun s460 st460 => ?_) ?_
       ·refine k_nilCheck rfl rfl ?_
        exact fq_end
       obtain ⟨x61, hx61, hc53⟩ := ob hc53
       refine rt_read (.int .u32 (x61.toNat : Int)) rfl rfl (fun s461 st461 => ?_) ?_
       ·try replace h9 := h9.up2 st461
        refine k_load_el cU (pre := []) (xs := (((((x27.set (x28.2.e0 : Int).toNat (ofI32 ((x44.toNat : Int) + ((ofI32 ((x45.toNat : Int) + (x35.toNat : Int))).toNat : Int)))).set (x28.2.e3 : Int).toNat x49).set (x28.2.e2 : Int).toNat (ofI32 ((x51.toNat : Int) + (x52.toNat : Int)))).set (x28.2.e1 : Int).toNat x56).set (x28.2.e0 : Int).toNat (ofI32 ((x58.toNat : Int) + ((ofI32 ((x59.toNat : Int) + (x38.toNat : Int))).toNat : Int))))) one78 rfl h9 rfl hx61 rfl ?_
        exact fq_end
       refine rt_read (.pointer (some ⟨b9, 0 + (x28.2.e0 : Int).toNat, none⟩)) rfl rfl (fun s462 st462 => ?_) ?_
       ·try replace h79 := h79.up2 st462
        refine k_load_blk one138 rfl h79 rfl rfl ?_
        exact fq_end
       refine rt_read (.pointer (some ⟨b9, 0 + (x28.2.e0 : Int).toNat, none⟩)) rfl rfl (fun s463 st463 => ?_) ?_
       ·refine k_nilCheck rfl rfl ?_
        exact fq_end
       obtain ⟨x62, hx62, hc53⟩ := ob hc53
       refine rt_read (.int .u32 (x62.toNat : Int)) rfl rfl (fun s464 st464 => ?_) ?_
       ·try replace h9 := h9.up2 st464
        refine k_load_el cU (pre := []) (xs := (((((x27.set (x28.2.e0 : Int).toNat (ofI32 ((x44.toNat : Int) + ((ofI32 ((x45.toNat : Int) + (x35.toNat : Int))).toNat : Int)))).set (x28.2.e3 : Int).toNat x49).set (x28.2.e2 : Int).toNat (ofI32 ((x51.toNat : Int) + (x52.toNat : Int)))).set (x28.2.e1 : Int).toNat x56).set (x28.2.e0 : Int).toNat (ofI32 ((x58.toNat : Int) + ((ofI32 ((x59.toNat : Int) + (x38.toNat : Int))).toNat : Int))))) one78 rfl h9 rfl hx62 rfl ?_
        exact fq_end
       refine rt_read (.int .u32 ((x61 ^^^ x62).toNat : Int)) rfl rfl (fun s465 st465 => ?_) ?_
       ·refine k_bits (p := (x61.toNat : Int)) (q := (x62.toNat : Int)) (.inr (.inr (.inl ⟨rfl, rfl⟩))) rfl rfl rfl ?_
        refine k_as (congrArg (Value.int .u32) (xor32 _ _)) ?_
        exact fq_end
       refine rt_read (.int .i64 8) rfl rfl (fun s466 st466 => ?_) ?_
       ·refine k_move rfl rfl ?_
        exact fq_end
       refine rt_read (.int .i64 (i64 (0 - 8))) rfl rfl (fun s467 st467 => ?_) ?_
       ·refine k_neg rfl rfl ?_
        exact fq_end
       refine rt_act rfl rfl ?_
       have hA468 := Step.r0 (KN s456.n) s457
       obtain ⟨x63, hx63, hc53⟩ := ob hc53
       refine k_call cal97 rfl (bits_RotateLeft32_w   hx63) rfl ?_
       rintro s469 vr469 st469 rfl
       have szs469 := st469.size
       have hRS53 := hRS53.trans0 st469
       have hA468 := hA468.trans0 st469
       replace h1 := h1.up2 st469
       replace h2 := h2.up2 st469
       replace h6 := h6.up2 st469
       replace h9 := h9.up2 st469
       replace h50 := h50.up2 st469
       replace h80 := h80.up2 st469
       replace h81 := h81.up2 st469
       replace h82 := h82.up2 st469
       replace hL := hL.up2 st469
       refine rt_cont hA468 ?_
       refine rt_fin ?_
       refine k_nilCheck rfl rfl ?_
       obtain ⟨x64, hx64, hc53⟩ := ob hc53
       refine k_store_el cU (fun _ => rfl) (v := x63) (pre := []) (xs := (((((x27.set (x28.2.e0 : Int).toNat (ofI32 ((x44.toNat : Int) + ((ofI32 ((x45.toNat : Int) + (x35.toNat : Int))).toNat : Int)))).set (x28.2.e3 : Int).toNat x49).set (x28.2.e2 : Int).toNat (ofI32 ((x51.toNat : Int) + (x52.toNat : Int)))).set (x28.2.e1 : Int).toNat x56).set (x28.2.e0 : Int).toNat (ofI32 ((x58.toNat : Int) + ((ofI32 ((x59.toNat : Int) + (x38.toNat : Int))).toNat : Int))))) size78 rfl rfl h9 (by first | (simp; done) | omega | (dsimp only; omega)) rfl hx64 ?_
       intro s470 st470 h9
       have hl470 : ((((((x27.set (x28.2.e0 : Int).toNat (ofI32 ((x44.toNat : Int) + ((ofI32 ((x45.toNat : Int) + (x35.toNat : Int))).toNat : Int)))).set (x28.2.e3 : Int).toNat x49).set (x28.2.e2 : Int).toNat (ofI32 ((x51.toNat : Int) + (x52.toNat : Int)))).set (x28.2.e1 : Int).toNat x56).set (x28.2.e0 : Int).toNat (ofI32 ((x58.toNat : Int) + ((ofI32 ((x59.toNat : Int) + (x38.toNat : Int))).toNat : Int)))).set (x28.2.e3 : Int).toNat x63).length = 16 := by rw [List.length_set]; exact hl456
       have szs470 := st470.size
       have hRS53 := hRS53.c0 st470
       replace h1 := h1.up2 st470
       replace h2 := h2.up2 st470
       replace h6 := h6.up2 st470
       replace h50 := h50.up2 st470
       replace h80 := h80.up2 st470
       replace h81 := h81.up2 st470
       replace h82 := h82.up2 st470
       replace hL := hL.up2 st470
       refine k_nil ?_
       refine k_keep [(2, _), (4, _), (5, _), (6, _)] ⟨rfl, rfl, rfl, rfl, trivial⟩ ?_
       refine k_seq ?_
       refine k_drawT (KN s470.n) 6 (.read 0 (.read 1 (.read 2 (.read 3 (.read 4 (.read 5 .fin)))))) mixed (by intro c h; (try simp only [KC, KO, KU, KN, KB] at h) <;> omega) rfl rfl rfl ?_
       intro s471 st471
       have szs471 := st471.size
       have hRS53 := hRS53.trans0 st471
       replace h1 := h1.up2 st471
       replace h2 := h2.up2 st471
       replace h6 := h6.up2 st471
       replace h9 := h9.up2 st471
       replace h50 := h50.up2 st471
       replace h80 := h80.up2 st471
       replace h81 := h81.up2 st471
       replace h82 := h82.up2 st471
       replace hL := hL.up2 st471
       refine rt_read (.pointer (some ⟨b9, 0 + (x28.2.e2 : Int).toNat, none⟩)) rfl rfl (fun s472 st472 => ?_) ?_
       ·try replace h81 := h81.up2 st472
        refine k_load_blk one138 rfl h81 rfl rfl ?_
        exact fq_end
       refine rt_read (.pointer (some ⟨b9, 0 + (x28.2.e2 : Int).toNat, none⟩)) rfl rfl (fun s473 st473 => ?_) ?_
       ·refine k_nilCheck rfl rfl ?_
        exact fq_end
       obtain ⟨x65, hx65, hc53⟩ := ob hc53
       refine rt_read (.int .u32 (x65.toNat : Int)) rfl rfl (fun s474 st474 => ?_) ?_
       ·try replace h9 := h9.up2 st474
        refine k_load_el cU (pre := []) (xs := ((((((x27.set (x28.2.e0 : Int).toNat (ofI32 ((x44.toNat : Int) + ((ofI32 ((x45.toNat : Int) + (x35.toNat : Int))).toNat : Int)))).set (x28.2.e3 : Int).toNat x49).set (x28.2.e2 : Int).toNat (ofI32 ((x51.toNat : Int) + (x52.toNat : Int)))).set (x28.2.e1 : Int).toNat x56).set (x28.2.e0 : Int).toNat (ofI32 ((x58.toNat : Int) + ((ofI32 ((x59.toNat : Int) + (x38.toNat : Int))).toNat : Int)))).set (x28.2.e3 : Int).toNat x63)) one78 rfl h9 rfl hx65 rfl ?_
        exact fq_end
       refine rt_read (.pointer (some ⟨b9, 0 + (x28.2.e3 : Int).toNat, none⟩)) rfl rfl (fun s475 st475 => ?_) ?_
       ·try replace h82 := h82.up2 st475
        refine k_load_blk one138 rfl h82 rfl rfl ?_
        exact fq_end
       refine rt_read (.pointer (some ⟨b9, 0 + (x28.2.e3 : Int).toNat, none⟩)) rfl rfl (fun s476 st476 => ?_) ?_
       ·refine k_nilCheck rfl rfl ?_
        exact fq_end
       obtain ⟨x66, hx66, hc53⟩ := ob hc53
       refine rt_read (.int .u32 (x66.toNat : Int)) rfl rfl (fun s477 st477 => ?_) ?_
       ·try replace h9 := h9.up2 st477
        refine k_load_el cU (pre := []) (xs := ((((((x27.set (x28.2.e0 : Int).toNat (ofI32 ((x44.toNat : Int) + ((ofI32 ((x45.toNat : Int) + (x35.toNat : Int))).toNat : Int)))).set (x28.2.e3 : Int).toNat x49).set (x28.2.e2 : Int).toNat (ofI32 ((x51.toNat : Int) + (x52.toNat : Int)))).set (x28.2.e1 : Int).toNat x56).set (x28.2.e0 : Int).toNat (ofI32 ((x58.toNat : Int) + ((ofI32 ((x59.toNat : Int) + (x38.toNat : Int))).toNat : Int)))).set (x28.2.e3 : Int).toNat x63)) one78 rfl h9 rfl hx66 rfl ?_
        exact fq_end
       refine rt_fin ?_
       refine k_add rfl rfl rfl ?_
       refine k_as (congrArg (Value.int .u32) (w32 _)) ?_
       refine k_nilCheck rfl rfl ?_
       obtain ⟨x67, hx67, hc53⟩ := ob hc53
       refine k_store_el cU (fun _ => rfl) (v := ofI32 ((x65.toNat : Int) + (x66.toNat : Int))) (pre := []) (xs := ((((((x27.set (x28.2.e0 : Int).toNat (ofI32 ((x44.toNat : Int) + ((ofI32 ((x45.toNat : Int) + (x35.toNat : Int))).toNat : Int)))).set (x28.2.e3 : Int).toNat x49).set (x28.2.e2 : Int).toNat (ofI32 ((x51.toNat : Int) + (x52.toNat : Int)))).set (x28.2.e1 : Int).toNat x56).set (x28.2.e0 : Int).toNat (ofI32 ((x58.toNat : Int) + ((ofI32 ((x59.toNat : Int) + (x38.toNat : Int))).toNat : Int)))).set (x28.2.e3 : Int).toNat x63)) size78 rfl rfl h9 (by first | (simp; done) | omega | (dsimp only; omega)) rfl hx67 ?_
       intro s478 st478 h9
       have hl478 : (((((((x27.set (x28.2.e0 : Int).toNat (ofI32 ((x44.toNat : Int) + ((ofI32 ((x45.toNat : Int) + (x35.toNat : Int))).toNat : Int)))).set (x28.2.e3 : Int).toNat x49).set (x28.2.e2 : Int).toNat (ofI32 ((x51.toNat : Int) + (x52.toNat : Int)))).set (x28.2.e1 : Int).toNat x56).set (x28.2.e0 : Int).toNat (ofI32 ((x58.toNat : Int) + ((ofI32 ((x59.toNat : Int) + (x38.toNat : Int))).toNat : Int)))).set (x28.2.e3 : Int).toNat x63).set (x28.2.e2 : Int).toNat (ofI32 ((x65.toNat : Int) + (x66.toNat : Int)))).length = 16 := by rw [List.length_set]; exact hl470
       have szs478 := st478.size
       have hRS53 := hRS53.c0 st478
       replace h1 := h1.up2 st478
       replace h2 := h2.up2 st478
       replace h6 := h6.up2 st478
       replace h50 := h50.up2 st478
       replace h80 := h80.up2 st478
       replace h81 := h81.up2 st478
       replace hL := hL.up2 st478
       refine k_nil ?_
       refine k_keep [(2, _), (4, _), (6, _)] ⟨rfl, rfl, rfl, trivial⟩ ?_
       refine k_drawT (KN s478.n) 11 (.read 0 (.read 1 (.read 2 (.read 3 (.read 4 (.read 5 (.read 6 (.read 7 (.read 8 (.read 9 (.alt 10 .fin .no))))))))))) mixed (by intro c h; (try simp only [KC, KO, KU, KN, KB] at h) <;> omega) rfl rfl rfl ?_
       intro s479 st479
       have szs479 := st479.size
       have hRS53 := hRS53.trans0 st479
       replace h1 := h1.up2 st479
       replace h2 := h2.up2 st479
       replace h6 := h6.up2 st479
       replace h9 := h9.up2 st479
       replace h50 := h50.up2 st479
       replace h80 := h80.up2 st479
       replace h81 := h81.up2 st479
       replace hL := hL.up2 st479
       refine rt_read (.pointer (some ⟨b9, 0 + (x28.2.e1 : Int).toNat, none⟩)) rfl rfl (fun s480 st480 => ?_) ?_
       ·try replace h80 := h80.up2 st480
        refine k_load_blk one138 rfl h80 rfl rfl ?_
        exact fq_end
       refine rt_read (.pointer (some ⟨b9, 0 + (x28.2.e1 : Int).toNat, none⟩)) rfl rfl (fun s481 st481 => ?_) ?_
       ·try replace h80 := h80.up2 st481
        refine k_load_blk one138 rfl h80 rfl rfl ?_
        exact fq_end
       refine rt_read (.pointer (some ⟨b9, 0 + (x28.2.e1 : Int).toNat, none⟩)) rfl rfl (fun s482 st482 => ?_) ?_
       ·refine k_nilCheck rfl rfl ?_
        exact fq_end
       obtain ⟨x68, hx68, hc53⟩ := ob hc53
       refine rt_read (.int .u32 (x68.toNat : Int)) rfl rfl (fun s483 st483 => ?_) ?_
       ·try replace h9 := h9.up2 st483
        refine k_load_el cU (pre := []) (xs := (((((((x27.set (x28.2.e0 : Int).toNat (ofI32 ((x44.toNat : Int) + ((ofI32 ((x45.toNat : Int) + (x35.toNat : Int))).toNat : Int)))).set (x28.2.e3 : Int).toNat x49).set (x28.2.e2 : Int).toNat (ofI32 ((x51.toNat : Int) + (x52.toNat : Int)))).set (x28.2.e1 : Int).toNat x56).set (x28.2.e0 : Int).toNat (ofI32 ((x58.toNat : Int) + ((ofI32 ((x59.toNat : Int) + (x38.toNat : Int))).toNat : Int)))).set (x28.2.e3 : Int).toNat x63).set (x28.2.e2 : Int).toNat (ofI32 ((x65.toNat : Int) + (x66.toNat : Int))))) one78 rfl h9 rfl hx68 rfl ?_
        exact fq_end
       refine rt_read (.pointer (some ⟨b9, 0 + (x28.2.e2 : Int).toNat, none⟩)) rfl rfl (fun s484 st484 => ?_) ?_
       ·try replace h81 := h81.up2 st484
        refine k_load_blk one138 rfl h81 rfl rfl ?_
        exact fq_end
       refine rt_read (.pointer (some ⟨b9, 0 + (x28.2.e2 : Int).toNat, none⟩)) rfl rfl (fun s485 st485 => ?_) ?_
       ·refine k_nilCheck rfl rfl ?_
        exact fq_end
       obtain ⟨x69, hx69, hc53⟩ := ob hc53
       refine rt_read (.int .u32 (x69.toNat : Int)) rfl rfl (fun s486 st486 => ?_) ?_
       ·try replace h9 := h9.up2 st486
        refine k_load_el cU (pre := []) (xs := (((((((x27.set (x28.2.e0 : Int).toNat (ofI32 ((x44.toNat : Int) + ((ofI32 ((x45.toNat : Int) + (x35.toNat : Int))).toNat : Int)))).set (x28.2.e3 : Int).toNat x49).set (x28.2.e2 : Int).toNat (ofI32 ((x51.toNat : Int) + (x52.toNat : Int)))).set (x28.2.e1 : Int).toNat x56).set (x28.2.e0 : Int).toNat (ofI32 ((x58.toNat : Int) + ((ofI32 ((x59.toNat : Int) + (x38.toNat : Int))).toNat : Int)))).set (x28.2.e3 : Int).toNat x63).set (x28.2.e2 : Int).toNat (ofI32 ((x65.toNat : Int) + (x66.toNat : Int))))) one78 rfl h9 rfl hx69 rfl ?_
        exact fq_end
       refine rt_read (.int .u32 ((x68 ^^^ x69).toNat : Int)) rfl rfl (fun s487 st487 => ?_) ?_
       ·refine k_bits (p := (x68.toNat : Int)) (q := (x69.toNat : Int)) (.inr (.inr (.inl ⟨rfl, rfl⟩))) rfl rfl rfl ?_
        refine k_as (congrArg (Value.int .u32) (xor32 _ _)) ?_
        exact fq_end
       refine rt_read (.int .i64 7) rfl rfl (fun s488 st488 => ?_) ?_
       ·refine k_move rfl rfl ?_
        exact fq_end
       refine rt_read (.int .i64 (i64 (0 - 7))) rfl rfl (fun s489 st489 => ?_) ?_
       ·refine k_neg rfl rfl ?_
        exact fq_end
       refine rt_act rfl rfl ?_
       have hA490 := Step.r0 (KN s478.n) s479
       obtain ⟨x70, hx70, hc53⟩ := ob hc53
       refine k_call cal97 rfl (bits_RotateLeft32_w   hx70) rfl ?_
       rintro s491 vr491 st491 rfl
       have szs491 := st491.size
       have hRS53 := hRS53.trans0 st491
       have hA490 := hA490.trans0 st491
       replace h1 := h1.up2 st491
       replace h2 := h2.up2 st491
       replace h6 := h6.up2 st491
       replace h9 := h9.up2 st491
       replace h50 := h50.up2 st491
       replace hL := hL.up2 st491
       refine rt_cont hA490 ?_
       refine rt_fin ?_
       refine k_nilCheck rfl rfl ?_
       obtain ⟨x71, hx71, hc53⟩ := ob hc53
       refine k_store_el cU (fun _ => rfl) (v := x70) (pre := []) (xs := (((((((x27.set (x28.2.e0 : Int).toNat (ofI32 ((x44.toNat : Int) + ((ofI32 ((x45.toNat : Int) + (x35.toNat : Int))).toNat : Int)))).set (x28.2.e3 : Int).toNat x49).set (x28.2.e2 : Int).toNat (ofI32 ((x51.toNat : Int) + (x52.toNat : Int)))).set (x28.2.e1 : Int).toNat x56).set (x28.2.e0 : Int).toNat (ofI32 ((x58.toNat : Int) + ((ofI32 ((x59.toNat : Int) + (x38.toNat : Int))).toNat : Int)))).set (x28.2.e3 : Int).toNat x63).set (x28.2.e2 : Int).toNat (ofI32 ((x65.toNat : Int) + (x66.toNat : Int))))) size78 rfl rfl h9 (by first | (simp; done) | omega | (dsimp only; omega)) rfl hx71 ?_
       intro s492 st492 h9
       have hl492 : ((((((((x27.set (x28.2.e0 : Int).toNat (ofI32 ((x44.toNat : Int) + ((ofI32 ((x45.toNat : Int) + (x35.toNat : Int))).toNat : Int)))).set (x28.2.e3 : Int).toNat x49).set (x28.2.e2 : Int).toNat (ofI32 ((x51.toNat : Int) + (x52.toNat : Int)))).set (x28.2.e1 : Int).toNat x56).set (x28.2.e0 : Int).toNat (ofI32 ((x58.toNat : Int) + ((ofI32 ((x59.toNat : Int) + (x38.toNat : Int))).toNat : Int)))).set (x28.2.e3 : Int).toNat x63).set (x28.2.e2 : Int).toNat (ofI32 ((x65.toNat : Int) + (x66.toNat : Int)))).set (x28.2.e1 : Int).toNat x70).length = 16 := by rw [List.length_set]; exact hl478
       have szs492 := st492.size
       have hRS53 := hRS53.c0 st492
       replace h1 := h1.up2 st492
       replace h2 := h2.up2 st492
       replace h6 := h6.up2 st492
       replace h50 := h50.up2 st492
       replace hL := hL.up2 st492
       refine k_nil ?_
       refine k_end ?_
       refine ⟨_, rfl, _, rfl, ?_⟩
       refine k_nil ?_
       refine k_end ?_
       refine ⟨_, rfl, _, rfl, ?_⟩
       refine k_nil ?_
       refine k_blk ?_
       refine k_end ?_
       obtain rfl := Option.some.inj hc53
       exact ⟨rfl, s492, rfl, hRS53, hL, ⟨hl492, h9, h1, h2, h6, h50⟩⟩
     ·
      intro l t1 I' Ky st hl1 hl2 hK1 hK2 hY hI'
      exact digest_quads_1_w hY hI'  hx30
     ·
      intro D53 s493 stn53
      rintro ⟨h54, h9, h1, h2, h6, h50⟩ hM53 hD53
      have szs493 := stn53.size
      have hS := hS.c0 stn53
      have hE46 := hE46.c0 stn53
      replace hML := hML.up2 stn53
      refine rk_nil ?_
      refine rf_bend ?_
      refine rk_last ?_
      refine k_region ?_
      refine k_add rfl rfl rfl ?_
      refine k_move rfl rfl ?_
      refine k_nil ?_
      refine k_end ?_
      rw [hkj24] at h
      have hML494 := MarksL.cons hM53 (by omega) hML (by omega)
      exact rf_round ⟨(s493, i64 (x22 + 1), x30.2, (⟨.collected D53, #[]⟩ :: dfL), j), rfl, ⟨(by first | rfl | (simp <;> rfl)), trivial⟩, ⟨rfl, rfl, rfl, rfl, rfl, trivial⟩, ⟨rfl, hE46, h1, h2, h6, h54, h9, hML494, h⟩, (by simp)⟩
    ·
     have h := itF h c49
     refine k_exit_out ?_ rfl
     refine rf_iexit ?_
     refine rf_bexit ?_
     refine rk_last ?_
     refine k_keep [(4, _), (8, _), (11, _)] ⟨rfl, rfl, rfl, trivial⟩ ?_
     refine k_seq ?_
     obtain ⟨kj72, hK495, h⟩ := jn_out h
     have hE495 := Step.r0 (KC (b1 + 1) 0) s48
     refine k_cutc (X := St × UInt32 × UInt32 × UInt32 × UInt32 × UInt32 × UInt32 × UInt32 × UInt32) [(4, .pointer (some ⟨b1, 0, none⟩)), (8, .pointer (some ⟨b2, 0, none⟩))] (fun (xL : St × UInt32 × UInt32 × UInt32 × UInt32 × UInt32 × UInt32 × UInt32 × UInt32) => match xL with | (sl, x73, x74, x75, x76, x77, x78, x79, x80) => []) (fun (xL : St × UInt32 × UInt32 × UInt32 × UInt32 × UInt32 × UInt32 × UInt32 × UInt32) (wL : World) => match xL with | (sl, x73, x74, x75, x76, x77, x78, x79, x80) => sl.w = wL ∧ Step (KC (b1 + 1) 0) s48 sl ∧ (Blk sl b1 ⟨b1 + 1, 0⟩ [.int .u32 (x73.toNat : Int), .int .u32 (x74.toNat : Int), .int .u32 (x75.toNat : Int), .int .u32 (x76.toNat : Int), .int .u32 (x77.toNat : Int), .int .u32 (x78.toNat : Int), .int .u32 (x79.toNat : Int), .int .u32 (x80.toNat : Int)] 79) ∧ kj72 x73 x74 x75 x76 x77 x78 x79 x80 = some r) ?_ ?_
     ·
      refine k_seq ?_
      refine k_region ?_
      refine k_move rfl rfl ?_
      refine k_nil ?_
      refine k_block ?_
      refine k_loopc (X := St × Int × UInt32 × UInt32 × UInt32 × UInt32 × UInt32 × UInt32 × UInt32 × UInt32 × Nat) [(4, _), (8, _), (11, _)] (fun (xL : St × Int × UInt32 × UInt32 × UInt32 × UInt32 × UInt32 × UInt32 × UInt32 × UInt32 × Nat) => match xL with | (sl, x81, x82, x83, x84, x85, x86, x87, x88, x89, j) => [(69, .int .i64 x81)]) (fun (xL : St × Int × UInt32 × UInt32 × UInt32 × UInt32 × UInt32 × UInt32 × UInt32 × UInt32 × Nat) (wL : World) => match xL with | (sl, x81, x82, x83, x84, x85, x86, x87, x88, x89, j) => sl.w = wL ∧ Step (KC (b1 + 1) 0) s48 sl ∧ (Blk sl b1 ⟨b1 + 1, 0⟩ [.int .u32 (x82.toNat : Int), .int .u32 (x83.toNat : Int), .int .u32 (x84.toNat : Int), .int .u32 (x85.toNat : Int), .int .u32 (x86.toNat : Int), .int .u32 (x87.toNat : Int), .int .u32 (x88.toNat : Int), .int .u32 (x89.toNat : Int)] 79) ∧ digest_mix_l2 x23 kj72 j x81 x82 x83 x84 x85 x86 x87 x88 x89 = some r) (fun (xL : St × Int × UInt32 × UInt32 × UInt32 × UInt32 × UInt32 × UInt32 × UInt32 × UInt32 × Nat) => match xL with | (sl, x81, x82, x83, x84, x85, x86, x87, x88, x89, j) => j) (s48, 0, a0.e0, a0.e1, a0.e2, a0.e3, a0.e4, a0.e5, a0.e6, a0.e7, FU) ⟨rfl, rfl, rfl, trivial⟩ ⟨(by first | rfl | (simp <;> rfl)), trivial⟩ ⟨rfl, (Step.refl _).of0 (by first | exact fun _ h => h | (intro c h; simp [KC, KO, KU, KN, KB] at h <;> omega)), h1, h⟩ ?_
      rintro ⟨s497, x81, x82, x83, x84, x85, x86, x87, x88, x89, j⟩ wL ⟨rfl, hE496, h1, h⟩
      cases j with
      | zero => rw [digest_mix_l2] at h; exact (noneNe h).elim
      | succ j =>
      rw [digest_mix_l2] at h
      have szs497 := hE496.size
      have hS := hS.c0 hE496
      have hE495 := hE495.c0 hE496
      replace h9 := h9.up2 hE496
      refine k_seq ?_
      refine k_region ?_
      refine k_lss rfl rfl rfl ?_
      refine k_nil ?_
      refine k_seq ?_
      refine k_cond_dec rfl (fun c498 => ?_) (fun c498 => ?_)
      ·
       have h := itT h c498
       refine k_skip ?_
       refine k_seq ?_
       refine k_block ?_
       refine k_seq ?_
       refine k_region ?_
       refine k_move rfl rfl ?_
       refine k_assign rfl rfl ?_
       refine k_nil ?_
       refine k_keep [(4, _), (8, _), (11, _), (16, _), (69, _)] ⟨rfl, rfl, rfl, rfl, rfl, trivial⟩ ?_
       refine k_drawT (KN s497.n) 11 (.read 0 (.read 1 (.read 2 (.read 3 (.read 4 (.read 5 (.read 6 (.read 7 (.read 8 (.read 9 (.read 10 .fin))))))))))) mixed (by intro c h; (try simp only [KC, KO, KU, KN, KB] at h) <;> omega) rfl rfl rfl ?_
       intro s499 st499
       have szs499 := st499.size
       have hS := hS.trans0 st499
       have hE495 := hE495.trans0 st499
       have hE496 := hE496.trans0 st499
       replace h1 := h1.up2 st499
       replace h9 := h9.up2 st499
       refine rt_read (.int .i64 x81) rfl rfl (fun s500 st500 => ?_) ?_
       ·refine k_move rfl rfl ?_
        exact fq_end
       obtain ⟨x90, hx90, h⟩ := ob h
       refine rt_read (.pointer (some ⟨b1, 0 + (x81 : Int).toNat, none⟩)) rfl rfl (fun s501 st501 => ?_) ?_
       ·refine k_ixarr (m := 0) (xs := ([x82, x83, x84, x85, x86, x87, x88, x89] : List UInt32)) arr79 rfl rfl rfl hx90 rfl ?_
        exact fq_end
       obtain ⟨x91, hx91, h⟩ := ob h
       refine rt_read (.int .u32 (x91.toNat : Int)) rfl rfl (fun s502 st502 => ?_) ?_
       ·try replace h1 := h1.up2 st502
        refine k_load_el2 cU (pre := []) (post := []) (xs := ([x82, x83, x84, x85, x86, x87, x88, x89] : List UInt32)) one78 rfl h1 rfl hx91 rfl ?_
        exact fq_end
       refine rt_read (.int .i64 x81) rfl rfl (fun s503 st503 => ?_) ?_
       ·refine k_move rfl rfl ?_
        exact fq_end
       obtain ⟨x92, hx92, h⟩ := ob h
       refine rt_read (.pointer (some ⟨b9, 0 + (x81 : Int).toNat, none⟩)) rfl rfl (fun s504 st504 => ?_) ?_
       ·refine k_ixarr (m := 0) arr118 rfl rfl h47 hx92 rfl ?_
        exact fq_end
       obtain ⟨x93, hx93, h⟩ := ob h
       refine rt_read (.int .u32 (x93.toNat : Int)) rfl rfl (fun s505 st505 => ?_) ?_
       ·try replace h9 := h9.up2 st505
        refine k_load_el cU (pre := []) (xs := x23) one78 rfl h9 rfl hx93 rfl ?_
        exact fq_end
       refine rt_read (.int .i64 x81) rfl rfl (fun s506 st506 => ?_) ?_
       ·refine k_move rfl rfl ?_
        exact fq_end
       refine rt_read (.int .i64 (i64 (x81 + 8))) rfl rfl (fun s507 st507 => ?_) ?_
       ·refine k_add rfl rfl rfl ?_
        exact fq_end
       obtain ⟨x94, hx94, h⟩ := ob h
       refine rt_read (.pointer (some ⟨b9, 0 + (i64 (x81 + 8) : Int).toNat, none⟩)) rfl rfl (fun s508 st508 => ?_) ?_
       ·refine k_ixarr (m := 0) arr118 rfl rfl h47 hx94 rfl ?_
        exact fq_end
       obtain ⟨x95, hx95, h⟩ := ob h
       refine rt_read (.int .u32 (x95.toNat : Int)) rfl rfl (fun s509 st509 => ?_) ?_
       ·try replace h9 := h9.up2 st509
        refine k_load_el cU (pre := []) (xs := x23) one78 rfl h9 rfl hx95 rfl ?_
        exact fq_end
       refine rt_read (.int .u32 ((x93 ^^^ x95).toNat : Int)) rfl rfl (fun s510 st510 => ?_) ?_
       ·refine k_bits (p := (x93.toNat : Int)) (q := (x95.toNat : Int)) (.inr (.inr (.inl ⟨rfl, rfl⟩))) rfl rfl rfl ?_
        refine k_as (congrArg (Value.int .u32) (xor32 _ _)) ?_
        exact fq_end
       refine rt_fin ?_
       refine k_bits (p := (x91.toNat : Int)) (q := ((x93 ^^^ x95).toNat : Int)) (.inr (.inr (.inl ⟨rfl, rfl⟩))) rfl rfl rfl ?_
       refine k_as (congrArg (Value.int .u32) (xor32 _ _)) ?_
       obtain ⟨x96, hx96, h⟩ := ob h
       refine k_ixarr (m := 0) (xs := ([x82, x83, x84, x85, x86, x87, x88, x89] : List UInt32)) arr79 rfl rfl rfl hx96 rfl ?_
       obtain ⟨x97, hx97, h⟩ := ob h
       refine k_store_el2 cU (fun _ => rfl) (v := x91 ^^^ (x93 ^^^ x95)) (pre := []) (post := []) (xs := ([x82, x83, x84, x85, x86, x87, x88, x89] : List UInt32)) size78 rfl rfl h1 (by first | (simp; done) | omega | (dsimp only; omega)) rfl hx97 ?_
       intro s511 st511 h1
       replace h1 := h1.litE (lit8 (show x97.length = 8 by rw [(seti_out hx97).2.2.2]; rfl) (0 : UInt32))
       have szs511 := st511.size
       have hS := hS.c0 st511
       have hE495 := hE495.c0 st511
       have hE496 := hE496.c0 st511
       refine k_nil ?_
       refine k_blk ?_
       refine k_region ?_
       refine k_add rfl rfl rfl ?_
       refine k_move rfl rfl ?_
       refine k_nil ?_
       exact k_stop ⟨(s511, i64 (x81 + 1), (x97.getD 0 0), (x97.getD 1 0), (x97.getD 2 0), (x97.getD 3 0), (x97.getD 4 0), (x97.getD 5 0), (x97.getD 6 0), (x97.getD 7 0), j), ⟨(by first | rfl | (simp <;> rfl)), trivial⟩, ⟨rfl, rfl, rfl, trivial⟩, ⟨rfl, hE496, h1, h⟩, (by simp)⟩
      ·
       have h := itF h c498
       refine k_exit rfl ?_
       exact k_stop ⟨(s497, x82, x83, x84, x85, x86, x87, x88, x89), trivial, ⟨rfl, rfl, trivial⟩, ⟨rfl, hE495, h1, h⟩⟩
     ·
      rintro ⟨s512, x73, x74, x75, x76, x77, x78, x79, x80⟩ wL ⟨rfl, hE495, h1, h⟩
      rw [hK495] at h
      have szs512 := hE495.size
      have hS := hS.c0 hE495
      replace h2 := h2.up2 hE495
      replace hML := hML.up2 hE495
      refine k_seq ?_
      refine k_region ?_
      refine k_load_blka (cs := [.int .u32 (x73.toNat : Int), .int .u32 (x74.toNat : Int), .int .u32 (x75.toNat : Int), .int .u32 (x76.toNat : Int), .int .u32 (x77.toNat : Int), .int .u32 (x78.toNat : Int), .int .u32 (x79.toNat : Int), .int .u32 (x80.toNat : Int)]) agg79 rfl h1 rfl ?_
      refine k_store_c (cs' := [.int .u32 (x73.toNat : Int), .int .u32 (x74.toNat : Int), .int .u32 (x75.toNat : Int), .int .u32 (x76.toNat : Int), .int .u32 (x77.toNat : Int), .int .u32 (x78.toNat : Int), .int .u32 (x79.toNat : Int), .int .u32 (x80.toNat : Int)]) size79 rfl rfl h2 (by first | (simp; done) | omega | (dsimp only; omega)) (CellsOf.lit rfl rfl) rfl (by first | rfl | (simp; done) | (simp; omega)) rfl ?_
      intro s513 st513 h2
      have szs513 := st513.size
      have hS := hS.c0 st513
      replace hML := hML.up2 st513
      refine k_nil ?_
      refine k_keep [(8, _)] ⟨rfl, trivial⟩ ?_
      refine k_ret ?_
      refine re_ret ?_
      refine re_all hML (fun s514 st514 => ?_)
      have szs514 := st514.size
      have hS := hS.c0 st514
      replace h2 := h2.up2 st514
      obtain rfl := Option.some.inj h
      refine re_nil_c (rs := [.cell 8 79]) rfl rfl ?_
      refine ⟨[.agg [.int .u32 (x73.toNat : Int), .int .u32 (x74.toNat : Int), .int .u32 (x75.toNat : Int), .int .u32 (x76.toNat : Int), .int .u32 (x77.toNat : Int), .int .u32 (x78.toNat : Int), .int .u32 (x79.toNat : Int), .int .u32 (x80.toNat : Int)].toArray], ⟨res_blk (cs := [.int .u32 (x73.toNat : Int), .int .u32 (x74.toNat : Int), .int .u32 (x75.toNat : Int), .int .u32 (x76.toNat : Int), .int .u32 (x77.toNat : Int), .int .u32 (x78.toNat : Int), .int .u32 (x79.toNat : Int), .int .u32 (x80.toNat : Int)]) rfl agg79 h2, trivial⟩, Ret.mk hS ?_⟩
      exact ⟨_, rfl, (clsSt79 (⟨x73, x74, x75, x76, x77, x78, x79, x80⟩ : St79))⟩

set_option maxHeartbeats 20000000 in
set_option maxRecDepth 100000 in
theorem slices_Clone_byte_byte_w {s : St} {l0 : Lab} {v0 : Value} {a0 : (List UInt8)} {r : (List UInt8)} (hp0 : SL s l0 v0 1 (a0.map bD)) (h : slices_Clone_byte_byte a0 = some r) : Calls Tryd.prog 69 #[v0] s.w (Ret s K0 (fun s1 v => ∃ (u0 : Value), v = u0 ∧ R s1 u0 (.sl 1 (r.map bD)))) := by
 unfold slices_Clone_byte_byte at h
 obtain ⟨lf0, lf0le, lf0ne, hp0⟩ := hp0.fix
 have hS := Step.r0 K0 s
 refine k_fn (rs := [2]) (args := [v0]) Tryd.func69 rfl rfl rfl rfl ?_
 refine k_seq ?_
 refine k_region ?_
 refine k_assign rfl rfl ?_
 refine k_nil ?_
 refine k_seq ?_
 refine k_seq ?_
 refine k_region ?_
 refine k_move rfl rfl ?_
 refine k_eql_snilv Tryd.underlying51 rfl rfl hp0 rfl ?_
 refine k_nil ?_
 refine k_keep [(0, _), (2, _), (4, _)] ⟨rfl, rfl, rfl, trivial⟩ ?_
 refine k_cond rfl (fun c1 => ?_) (fun c1 => ?_)
 ·
  have hz5 := SL.nilS_nil hp0 c1
  obtain rfl : a0 = [] := by simpa using hz5
  replace h : some ([]) = some r := by simpa [app] using h
  refine k_seq ?_
  refine k_region ?_
  refine k_assign rfl rfl ?_
  refine k_nil ?_
  refine k_keep [(0, _), (2, _)] ⟨rfl, rfl, trivial⟩ ?_
  refine k_ret ?_
  obtain rfl := Option.some.inj h
  refine ⟨_, rfl, Ret.mk hS ?_⟩
  exact ⟨_, rfl, (R.of_SL (.inl ⟨rfl, none, 0, rfl, fun _ => rfl⟩))⟩
 ·
  refine k_skip ?_
  refine k_seq ?_
  refine k_region ?_
  refine k_bslice2 (ds := ([] : List UInt8).map bD) slc51 rfl RVs.nil (by rfl) (by rfl) rfl rfl ?_
  intro s2 v2 b2 st2 ge2 bl2 h2
  have szs2 := st2.size
  have hS := hS.trans0 st2
  replace hp0 := hp0.up2 st2
  have lt2 := Own.le1 h2
  refine k_move rfl rfl ?_
  obtain ⟨x1, hx1, h⟩ := ob h
  refine k_append (es := a0.map bD) elem51 rfl rfl h2 hp0 (by have := (app_out hx1).1; simp only [List.length_map] at *; omega) (by have := (app_out hx1).1; simp only [List.length_map] at *; omega) rfl ?_
  intro s3 v3 st3 h3
  rw [← List.map_append, ← (app_out hx1).2] at h3
  have szs3 := st3.size
  have hS := hS.c0 st3
  refine k_assign rfl rfl ?_
  refine k_nil ?_
  refine k_keep [(2, _)] ⟨rfl, trivial⟩ ?_
  refine k_ret ?_
  obtain ⟨s4, e4, st4, h4⟩ := h3.freeze
  rw [← e4]
  have szs4 := st4.size
  have hS := hS.c0 st4
  obtain rfl := Option.some.inj h
  refine ⟨_, rfl, Ret.mk hS ?_⟩
  exact ⟨_, rfl, h4⟩

set_option maxHeartbeats 20000000 in
set_option maxRecDepth 100000 in
theorem digest_Write_w {s : St} {cs0 : List Value} {a0 : ApiDigest} {v1 : Value} {a1 : (List UInt8)} {r : ApiDigest} (hp0 : RC s cs0 (dApiDigest a0)) (hp1 : R s v1 (.sl 1 (a1.map bD))) (h : digest_Write a0 a1 = some r) : Calls Tryd.prog 46 #[.agg cs0.toArray, v1] s.w (Ret s K0 (fun s1 v => ∃ (u0 : List Value), v = .agg u0.toArray ∧ RC s1 u0 (dApiDigest r))) := by
 unfold digest_Write at h
 obtain ⟨q0_0, rfl, hq0_0⟩ := opnApiDigest hp0
 have hS := Step.r0 K0 s
 refine k_fn_c (rs := [.cell 4 81]) (args := [.agg #[.int .u32 (a0.H.e0.toNat : Int), .int .u32 (a0.H.e1.toNat : Int), .int .u32 (a0.H.e2.toNat : Int), .int .u32 (a0.H.e3.toNat : Int), .int .u32 (a0.H.e4.toNat : Int), .int .u32 (a0.H.e5.toNat : Int), .int .u32 (a0.H.e6.toNat : Int), .int .u32 (a0.H.e7.toNat : Int), q0_0, .int .u64 (a0.N.toNat : Int), .int .i64 a0.Size], v1]) Tryd.func46 rfl rfl rfl rfl ?_
 refine k_seq ?_
 refine k_region ?_
 refine k_box rfl rfl ?_
 intro s1 b1 st1 h1 ge1
 have szs1 := st1.size
 have hS := hS.trans0 st1
 replace hq0_0 := hq0_0.up2 st1
 replace hp1 := hp1.up2 st1
 have lt1 := h1.lt
 refine k_alloc zero81 rfl ?_
 intro s2 b2 st2 h2 ge2
 have szs2 := st2.size
 have hS := hS.trans0 st2
 replace hq0_0 := hq0_0.up2 st2
 replace hp1 := hp1.up2 st2
 replace h1 := h1.up2 st2
 have lt2 := h2.lt
 refine k_nil ?_
 refine k_keep [(1, _), (2, _), (4, _)] ⟨rfl, rfl, rfl, trivial⟩ ?_
 refine k_seq ?_
 refine k_region ?_
 refine k_field_addr fld81_1 rfl rfl ?_
 refine k_load_blk one51 rfl h1 rfl rfl ?_
 refine k_move rfl rfl ?_
 refine k_bslice2 (ds := ([a0.Rest, a1] : List (List UInt8)).map (dL 1 bD)) slc68 rfl (RVs.cons hq0_0 (RVs.cons hp1 RVs.nil)) (by rfl) (by rfl) rfl rfl ?_
 intro s3 v3 b3 st3 ge3 bl3 h3
 have szs3 := st3.size
 have hS := hS.trans0 st3
 replace h1 := h1.up2 st3
 replace h2 := h2.up2 st3
 have lt3 := Own.le1 h3
 obtain ⟨x1, hx1, h⟩ := ob h
 refine k_call cal67 rfl (slices_Concat_byte_byte_w  (h3.sl) hx1) rfl ?_
 rintro s4 v4_0 st4 ⟨_, rfl, h4_0⟩
 have szs4 := st4.size
 have hS := hS.trans0 st4
 replace h1 := h1.up2 st4
 replace h2 := h2.up2 st4
 refine k_field_addr fld81_1 rfl rfl ?_
 refine k_store_c (cs' := [.int .u32 (a0.H.e0.toNat : Int), .int .u32 (a0.H.e1.toNat : Int), .int .u32 (a0.H.e2.toNat : Int), .int .u32 (a0.H.e3.toNat : Int), .int .u32 (a0.H.e4.toNat : Int), .int .u32 (a0.H.e5.toNat : Int), .int .u32 (a0.H.e6.toNat : Int), .int .u32 (a0.H.e7.toNat : Int), v4_0, .int .u64 (a0.N.toNat : Int), .int .i64 a0.Size]) size51 rfl rfl h1 (by first | (simp; done) | omega | (dsimp only; omega)) (CellsOf.sl (SL.of_R h4_0)) rfl (by first | rfl | (simp; done) | (simp; omega)) rfl ?_
 intro s5 st5 h1
 have szs5 := st5.size
 have hS := hS.c0 st5
 replace h4_0 := h4_0.up2 st5
 replace h2 := h2.up2 st5
 refine k_nil ?_
 refine k_keep [(2, _), (4, _)] ⟨rfl, rfl, trivial⟩ ?_
 refine k_seq ?_
 obtain ⟨kj2, hK6, h⟩ := jn_out h
 have hE6 := Step.r0 (KC (b1 + 1) 0) s5
 refine k_cutc (X := St × UInt32 × UInt32 × UInt32 × UInt32 × UInt32 × UInt32 × UInt32 × UInt32 × (List UInt8) × Value × UInt64) [(2, .pointer (some ⟨b1, 0, none⟩)), (4, .pointer (some ⟨b2, 0, none⟩))] (fun (xL : St × UInt32 × UInt32 × UInt32 × UInt32 × UInt32 × UInt32 × UInt32 × UInt32 × (List UInt8) × Value × UInt64) => match xL with | (sl, x3, x4, x5, x6, x7, x8, x9, x10, x11, v7, x12) => []) (fun (xL : St × UInt32 × UInt32 × UInt32 × UInt32 × UInt32 × UInt32 × UInt32 × UInt32 × (List UInt8) × Value × UInt64) (wL : World) => match xL with | (sl, x3, x4, x5, x6, x7, x8, x9, x10, x11, v7, x12) => sl.w = wL ∧ Step (KC (b1 + 1) 0) s5 sl ∧ (R sl v7 (.sl 1 (x11.map bD))) ∧ (Blk sl b1 ⟨b1 + 1, 0⟩ [.int .u32 (x3.toNat : Int), .int .u32 (x4.toNat : Int), .int .u32 (x5.toNat : Int), .int .u32 (x6.toNat : Int), .int .u32 (x7.toNat : Int), .int .u32 (x8.toNat : Int), .int .u32 (x9.toNat : Int), .int .u32 (x10.toNat : Int), v7, .int .u64 (x12.toNat : Int), .int .i64 a0.Size] 81) ∧ kj2 x3 x4 x5 x6 x7 x8 x9 x10 x11 x12 = some r) ?_ ?_
 ·
  refine k_block ?_
  refine k_loopc (X := St × UInt32 × UInt32 × UInt32 × UInt32 × UInt32 × UInt32 × UInt32 × UInt32 × (List UInt8) × Value × UInt64 × Nat) [(2, _), (4, _)] (fun (xL : St × UInt32 × UInt32 × UInt32 × UInt32 × UInt32 × UInt32 × UInt32 × UInt32 × (List UInt8) × Value × UInt64 × Nat) => match xL with | (sl, x13, x14, x15, x16, x17, x18, x19, x20, x21, v9, x22, j) => []) (fun (xL : St × UInt32 × UInt32 × UInt32 × UInt32 × UInt32 × UInt32 × UInt32 × UInt32 × (List UInt8) × Value × UInt64 × Nat) (wL : World) => match xL with | (sl, x13, x14, x15, x16, x17, x18, x19, x20, x21, v9, x22, j) => sl.w = wL ∧ Step (KC (b1 + 1) 0) s5 sl ∧ (R sl v9 (.sl 1 (x21.map bD))) ∧ (Blk sl b1 ⟨b1 + 1, 0⟩ [.int .u32 (x13.toNat : Int), .int .u32 (x14.toNat : Int), .int .u32 (x15.toNat : Int), .int .u32 (x16.toNat : Int), .int .u32 (x17.toNat : Int), .int .u32 (x18.toNat : Int), .int .u32 (x19.toNat : Int), .int .u32 (x20.toNat : Int), v9, .int .u64 (x22.toNat : Int), .int .i64 a0.Size] 81) ∧ digest_Write_l1 kj2 j x13 x14 x15 x16 x17 x18 x19 x20 x21 x22 = some r) (fun (xL : St × UInt32 × UInt32 × UInt32 × UInt32 × UInt32 × UInt32 × UInt32 × UInt32 × (List UInt8) × Value × UInt64 × Nat) => match xL with | (sl, x13, x14, x15, x16, x17, x18, x19, x20, x21, v9, x22, j) => j) (s5, a0.H.e0, a0.H.e1, a0.H.e2, a0.H.e3, a0.H.e4, a0.H.e5, a0.H.e6, a0.H.e7, x1, v4_0, a0.N, FU) ⟨rfl, rfl, trivial⟩ trivial ⟨rfl, (Step.refl _).of0 (by first | exact fun _ h => h | (intro c h; simp [KC, KO, KU, KN, KB] at h <;> omega)), h4_0, h1, h⟩ ?_
  rintro ⟨s10, x13, x14, x15, x16, x17, x18, x19, x20, x21, v9, x22, j⟩ wL ⟨rfl, hE8, h9, h1, h⟩
  cases j with
  | zero => rw [digest_Write_l1] at h; exact (noneNe h).elim
  | succ j =>
  rw [digest_Write_l1] at h
  have szs10 := hE8.size
  have hS := hS.c0 hE8
  have hE6 := hE6.c0 hE8
  refine k_seq ?_
  refine k_seq ?_
  refine k_region ?_
  refine k_field_addr fld81_1 rfl rfl ?_
  refine k_load_blk one51 rfl h1 rfl rfl ?_
  refine k_len Tryd.underlying51 rfl (SL.of_R h9).hasLen rfl ?_
  refine k_as (v := .int .i64 (x21.length : Int)) (by simp only [List.length_map]) ?_
  refine k_gtr rfl rfl rfl ?_
  refine k_nil ?_
  refine k_keep [(2, _), (4, _), (14, _)] ⟨rfl, rfl, rfl, trivial⟩ ?_
  refine k_cond_dec rfl (fun c11 => ?_) (fun c11 => ?_)
  ·
   have h := itT h c11
   refine k_skip ?_
   refine k_block ?_
   refine k_seq ?_
   refine k_region ?_
   refine k_field_addr fld81_2 rfl rfl ?_
   refine k_load_blk one26 rfl h1 rfl rfl ?_
   refine k_add rfl rfl rfl ?_
   refine k_as (congrArg (Value.int .u64) (w64 _)) ?_
   refine k_field_addr fld81_2 rfl rfl ?_
   refine k_store_c (cs' := [.int .u32 (x13.toNat : Int), .int .u32 (x14.toNat : Int), .int .u32 (x15.toNat : Int), .int .u32 (x16.toNat : Int), .int .u32 (x17.toNat : Int), .int .u32 (x18.toNat : Int), .int .u32 (x19.toNat : Int), .int .u32 (x20.toNat : Int), v9, .int .u64 ((ofI64 ((x22.toNat : Int) + 64)).toNat : Int), .int .i64 a0.Size]) size26 rfl rfl h1 (by first | (simp; done) | omega | (dsimp only; omega)) (CellsOf.lit rfl rfl) rfl (by first | rfl | (simp; done) | (simp; omega)) rfl ?_
   intro s12 st12 h1
   have szs12 := st12.size
   have hS := hS.c0 st12
   have hE6 := hE6.c0 st12
   have hE8 := hE8.c0 st12
   replace h9 := h9.up2 st12
   refine k_nil ?_
   refine k_keep [(2, _), (4, _)] ⟨rfl, rfl, trivial⟩ ?_
   refine k_seq ?_
   refine k_drawT (KN s12.n) 7 (.read 0 (.read 1 (.read 2 (.read 3 (.read 5 (.read 6 (.alt 4 .fin .no))))))) mixed (by intro c h; (try simp only [KC, KO, KU, KN, KB] at h) <;> omega) rfl rfl rfl ?_
   intro s13 st13
   have szs13 := st13.size
   have hS := hS.trans0 st13
   have hE6 := hE6.trans0 st13
   have hE8 := hE8.trans0 st13
   replace h9 := h9.up2 st13
   replace h1 := h1.up2 st13
   refine rt_read (.pointer (some ⟨b1, 0, none⟩)) rfl rfl (fun s14 st14 => ?_) ?_
   ·refine k_field_addr fld81_0 rfl rfl ?_
    exact fq_end
   refine rt_read (.agg #[.int .u32 (x13.toNat : Int), .int .u32 (x14.toNat : Int), .int .u32 (x15.toNat : Int), .int .u32 (x16.toNat : Int), .int .u32 (x17.toNat : Int), .int .u32 (x18.toNat : Int), .int .u32 (x19.toNat : Int), .int .u32 (x20.toNat : Int)]) rfl rfl (fun s15 st15 => ?_) ?_
   ·try replace h1 := h1.up2 st15
    refine k_load_sub (cs' := [.int .u32 (x13.toNat : Int), .int .u32 (x14.toNat : Int), .int .u32 (x15.toNat : Int), .int .u32 (x16.toNat : Int), .int .u32 (x17.toNat : Int), .int .u32 (x18.toNat : Int), .int .u32 (x19.toNat : Int), .int .u32 (x20.toNat : Int)]) agg79 rfl h1 rfl rfl rfl ?_
    exact fq_end
   refine rt_read (.pointer (some ⟨b1, 8, none⟩)) rfl rfl (fun s16 st16 => ?_) ?_
   ·refine k_field_addr fld81_1 rfl rfl ?_
    exact fq_end
   refine rt_read (v9) rfl rfl (fun s17 st17 => ?_) ?_
   ·try replace h1 := h1.up2 st17
    refine k_load_blk one51 rfl h1 rfl rfl ?_
    exact fq_end
   refine rt_read (.pointer (some ⟨b1, 9, none⟩)) rfl rfl (fun s18 st18 => ?_) ?_
   ·refine k_field_addr fld81_2 rfl rfl ?_
    exact fq_end
   refine rt_read (.int .u64 ((ofI64 ((x22.toNat : Int) + 64)).toNat : Int)) rfl rfl (fun s19 st19 => ?_) ?_
   ·try replace h1 := h1.up2 st19
    refine k_load_blk one26 rfl h1 rfl rfl ?_
    exact fq_end
   refine rt_act rfl rfl ?_
   have hA20 := Step.r0 (KN s12.n) s13
   obtain ⟨x23, hx23, h⟩ := ob h
   refine k_cut_sl (i := (0 : Int).toNat) (j := (64 : Int).toNat) Tryd.underlying51 size5 rfl (SL.of_R h9) CutAt.none (CutAt.int rfl (Int.le_trans (subl_out hx23).1 (subl_out hx23).2.1)) (subl_ij hx23) (by rw [List.length_map]; exact subl_j hx23) rfl ?_
   intro vx23 hcx23
   rw [← List.map_drop, ← List.map_take, ← (subl_out hx23).2.2.2] at hcx23
   have hcx23 := R.of_SL hcx23
   refine rt_cont hA20 ?_
   refine rt_fin ?_
   obtain ⟨x24, hx24, h⟩ := ob h
   refine k_call cal68 rfl (digest_mix_w  (clsSt79 (⟨x13, x14, x15, x16, x17, x18, x19, x20⟩ : St79)) (SL.of_R hcx23) hx24) rfl ?_
   rintro s21 vr21 st21 ⟨cs21_0, rfl, h21_0⟩
   have szs21 := st21.size
   have hS := hS.trans0 st21
   have hE6 := hE6.trans0 st21
   have hE8 := hE8.trans0 st21
   replace h9 := h9.up2 st21
   replace h1 := h1.up2 st21
   obtain rfl := opnSt79 h21_0
   refine k_field_addr fld81_0 rfl rfl ?_
   refine k_store_c (cs' := [.int .u32 (x24.e0.toNat : Int), .int .u32 (x24.e1.toNat : Int), .int .u32 (x24.e2.toNat : Int), .int .u32 (x24.e3.toNat : Int), .int .u32 (x24.e4.toNat : Int), .int .u32 (x24.e5.toNat : Int), .int .u32 (x24.e6.toNat : Int), .int .u32 (x24.e7.toNat : Int), v9, .int .u64 ((ofI64 ((x22.toNat : Int) + 64)).toNat : Int), .int .i64 a0.Size]) size79 rfl rfl h1 (by first | (simp; done) | omega | (dsimp only; omega)) (CellsOf.lit rfl rfl) rfl (by first | rfl | (simp; done) | (simp; omega)) rfl ?_
   intro s22 st22 h1
   have szs22 := st22.size
   have hS := hS.c0 st22
   have hE6 := hE6.c0 st22
   have hE8 := hE8.c0 st22
   replace h9 := h9.up2 st22
   refine k_nil ?_
   refine k_keep [(2, _), (4, _)] ⟨rfl, rfl, trivial⟩ ?_
   refine k_region ?_
   refine k_field_addr fld81_1 rfl rfl ?_
   refine k_load_blk one51 rfl h1 rfl rfl ?_
   obtain ⟨x25, hx25, h⟩ := ob h
   refine k_cut_sl (i := (64 : Int).toNat) (j := ((x21.length : Int) : Int).toNat) Tryd.underlying51 size5 rfl (SL.of_R h9) (CutAt.int rfl (subl_out hx25).1) (CutAt.len (by rw [List.length_map]; rfl)) (subl_ij hx25) (by rw [List.length_map]; exact subl_j hx25) rfl ?_
   intro vx25 hcx25
   rw [← List.map_drop, ← List.map_take, ← (subl_out hx25).2.2.2] at hcx25
   have hcx25 := R.of_SL hcx25
   refine k_field_addr fld81_1 rfl rfl ?_
   refine k_store_c (cs' := [.int .u32 (x24.e0.toNat : Int), .int .u32 (x24.e1.toNat : Int), .int .u32 (x24.e2.toNat : Int), .int .u32 (x24.e3.toNat : Int), .int .u32 (x24.e4.toNat : Int), .int .u32 (x24.e5.toNat : Int), .int .u32 (x24.e6.toNat : Int), .int .u32 (x24.e7.toNat : Int), vx25, .int .u64 ((ofI64 ((x22.toNat : Int) + 64)).toNat : Int), .int .i64 a0.Size]) size51 rfl rfl h1 (by first | (simp; done) | omega | (dsimp only; omega)) (CellsOf.sl (SL.of_R hcx25)) rfl (by first | rfl | (simp; done) | (simp; omega)) rfl ?_
   intro s23 st23 h1
   have szs23 := st23.size
   have hS := hS.c0 st23
   have hE6 := hE6.c0 st23
   have hE8 := hE8.c0 st23
   replace hcx25 := hcx25.up2 st23
   refine k_nil ?_
   refine k_blk ?_
   exact k_stop ⟨(s23, x24.e0, x24.e1, x24.e2, x24.e3, x24.e4, x24.e5, x24.e6, x24.e7, x25, vx25, ofI64 ((x22.toNat : Int) + 64), j), trivial, ⟨rfl, rfl, trivial⟩, ⟨rfl, hE8, hcx25, h1, h⟩, (by simp)⟩
  ·
   have h := itF h c11
   refine k_exit rfl ?_
   exact k_stop ⟨(s10, x13, x14, x15, x16, x17, x18, x19, x20, x21, v9, x22), trivial, ⟨rfl, rfl, trivial⟩, ⟨rfl, hE6, h9, h1, h⟩⟩
 ·
  rintro ⟨s24, x3, x4, x5, x6, x7, x8, x9, x10, x11, v7, x12⟩ wL ⟨rfl, hE6, h7, h1, h⟩
  rw [hK6] at h
  have szs24 := hE6.size
  have hS := hS.c0 hE6
  replace h2 := h2.up2 hE6
  refine k_seq ?_
  refine k_region ?_
  refine k_field_addr fld81_1 rfl rfl ?_
  refine k_load_blk one51 rfl h1 rfl rfl ?_
  obtain ⟨x26, hx26, h⟩ := ob h
  refine k_call cal69 rfl (slices_Clone_byte_byte_w  (SL.of_R h7) hx26) rfl ?_
  rintro s25 v25_0 st25 ⟨_, rfl, h25_0⟩
  have szs25 := st25.size
  have hS := hS.trans0 st25
  replace h1 := h1.up2 st25
  replace h2 := h2.up2 st25
  refine k_field_addr fld81_1 rfl rfl ?_
  refine k_store_c (cs' := [.int .u32 (x3.toNat : Int), .int .u32 (x4.toNat : Int), .int .u32 (x5.toNat : Int), .int .u32 (x6.toNat : Int), .int .u32 (x7.toNat : Int), .int .u32 (x8.toNat : Int), .int .u32 (x9.toNat : Int), .int .u32 (x10.toNat : Int), v25_0, .int .u64 (x12.toNat : Int), .int .i64 a0.Size]) size51 rfl rfl h1 (by first | (simp; done) | omega | (dsimp only; omega)) (CellsOf.sl (SL.of_R h25_0)) rfl (by first | rfl | (simp; done) | (simp; omega)) rfl ?_
  intro s26 st26 h1
  have szs26 := st26.size
  have hS := hS.c0 st26
  replace h25_0 := h25_0.up2 st26
  replace h2 := h2.up2 st26
  refine k_nil ?_
  refine k_keep [(2, _), (4, _)] ⟨rfl, rfl, trivial⟩ ?_
  refine k_seq ?_
  refine k_region ?_
  refine k_load_blka (cs := [.int .u32 (x3.toNat : Int), .int .u32 (x4.toNat : Int), .int .u32 (x5.toNat : Int), .int .u32 (x6.toNat : Int), .int .u32 (x7.toNat : Int), .int .u32 (x8.toNat : Int), .int .u32 (x9.toNat : Int), .int .u32 (x10.toNat : Int), v25_0, .int .u64 (x12.toNat : Int), .int .i64 a0.Size]) agg81 rfl h1 rfl ?_
  refine k_store_c (cs' := [.int .u32 (x3.toNat : Int), .int .u32 (x4.toNat : Int), .int .u32 (x5.toNat : Int), .int .u32 (x6.toNat : Int), .int .u32 (x7.toNat : Int), .int .u32 (x8.toNat : Int), .int .u32 (x9.toNat : Int), .int .u32 (x10.toNat : Int), v25_0, .int .u64 (x12.toNat : Int), .int .i64 a0.Size]) size81 rfl rfl h2 (by first | (simp; done) | omega | (dsimp only; omega)) (CellsOf.lit (vs := [.int .u32 (x3.toNat : Int), .int .u32 (x4.toNat : Int), .int .u32 (x5.toNat : Int), .int .u32 (x6.toNat : Int), .int .u32 (x7.toNat : Int), .int .u32 (x8.toNat : Int), .int .u32 (x9.toNat : Int), .int .u32 (x10.toNat : Int), v25_0, .int .u64 (x12.toNat : Int), .int .i64 a0.Size]) rfl (ones.cons rfl (ones.cons rfl (ones.cons rfl (ones.cons rfl (ones.cons rfl (ones.cons rfl (ones.cons rfl (ones.cons rfl (ones.cons ((SL.of_R h25_0)).one1 (ones.cons rfl (ones.cons rfl ones.nil)))))))))))) rfl (by first | rfl | (simp; done) | (simp; omega)) rfl ?_
  intro s27 st27 h2
  have szs27 := st27.size
  have hS := hS.c0 st27
  replace h25_0 := h25_0.up2 st27
  refine k_nil ?_
  refine k_keep [(4, _)] ⟨rfl, trivial⟩ ?_
  refine k_ret ?_
  obtain rfl := Option.some.inj h
  refine ⟨[.agg [.int .u32 (x3.toNat : Int), .int .u32 (x4.toNat : Int), .int .u32 (x5.toNat : Int), .int .u32 (x6.toNat : Int), .int .u32 (x7.toNat : Int), .int .u32 (x8.toNat : Int), .int .u32 (x9.toNat : Int), .int .u32 (x10.toNat : Int), v25_0, .int .u64 (x12.toNat : Int), .int .i64 a0.Size].toArray], ⟨res_blk (cs := [.int .u32 (x3.toNat : Int), .int .u32 (x4.toNat : Int), .int .u32 (x5.toNat : Int), .int .u32 (x6.toNat : Int), .int .u32 (x7.toNat : Int), .int .u32 (x8.toNat : Int), .int .u32 (x9.toNat : Int), .int .u32 (x10.toNat : Int), v25_0, .int .u64 (x12.toNat : Int), .int .i64 a0.Size]) rfl agg81 h2, trivial⟩, Ret.mk hS ?_⟩
  exact ⟨_, rfl, (clsApiDigest (⟨(⟨x3, x4, x5, x6, x7, x8, x9, x10⟩ : St79), x26, x12, a0.Size⟩ : ApiDigest) h25_0)⟩
end Go.Proofs
