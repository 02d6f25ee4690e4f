import Derived.Test.YtdofbkomeadjgaaDoorW06DRevOne1
set_option linter.unusedSimpArgs false
set_option linter.unusedVariables false
namespace Go.Proofs
open Go.Fw
set_option maxHeartbeats 20000000 in
set_option maxRecDepth 100000 in
theorem digest_Sum_w {s : St} {cs0 : List Value} {a0 : ApiDigest} {r : (List UInt8)} (hp0 : RC s cs0 (dApiDigest a0)) (h : digest_Sum a0 = some r) : Calls Tryd.prog 47 #[.agg cs0.toArray] s.w (Ret s K0 (fun s1 v => ∃ (u0 : Value), v = u0 ∧ R s1 u0 (.sl 1 (r.map bD)))) := by
 unfold digest_Sum at h
 obtain ⟨q0_0, rfl, hq0_0⟩ := opnApiDigest hp0
 have hS := Step.r0 K0 s
 refine k_fn (rs := [2]) (args := [.agg #[.int .u32 (a0.H.e0.toNat : Int), .int .u32 (a0.H.e1.toNat : Int), .int .u32 (a0.H.e2.toNat : Int), .int .u32 (a0.H.e3.toNat : Int), .int .u32 (a0.H.e4.toNat : Int), .int .u32 (a0.H.e5.toNat : Int), .int .u32 (a0.H.e6.toNat : Int), .int .u32 (a0.H.e7.toNat : Int), q0_0, .int .u64 (a0.N.toNat : Int), .int .i64 a0.Size]]) Tryd.func47 rfl rfl rfl rfl ?_
 refine k_seq ?_
 refine k_region ?_
 refine k_box rfl rfl ?_
 intro s1 b1 st1 h1 ge1
 have szs1 := st1.size
 have hS := hS.trans0 st1
 replace hq0_0 := hq0_0.up2 st1
 have lt1 := h1.lt
 refine k_assign rfl rfl ?_
 refine k_nil ?_
 refine k_keep [(1, _), (2, _)] ⟨rfl, rfl, trivial⟩ ?_
 refine k_seq ?_
 refine k_region ?_
 refine k_load_blka (cs := [.int .u32 (a0.H.e0.toNat : Int), .int .u32 (a0.H.e1.toNat : Int), .int .u32 (a0.H.e2.toNat : Int), .int .u32 (a0.H.e3.toNat : Int), .int .u32 (a0.H.e4.toNat : Int), .int .u32 (a0.H.e5.toNat : Int), .int .u32 (a0.H.e6.toNat : Int), .int .u32 (a0.H.e7.toNat : Int), q0_0, .int .u64 (a0.N.toNat : Int), .int .i64 a0.Size]) agg81 rfl h1 rfl ?_
 obtain ⟨x1, hx1, h⟩ := ob h
 refine k_call cal46 rfl (digest_Write_w  (clsApiDigest a0 hq0_0) (show R s1 (.slice none 0 0) (.sl 1 (([]).map bD)) from (R.of_SL (.inl ⟨rfl, none, 0, rfl, fun _ => rfl⟩))) hx1) rfl ?_
 rintro s2 vr2 st2 ⟨cs2_0, rfl, h2_0⟩
 have szs2 := st2.size
 have hS := hS.trans0 st2
 replace h1 := h1.up2 st2
 obtain ⟨q2_0_0, rfl, hq2_0_0⟩ := opnApiDigest h2_0
 refine k_store_c (cs' := [.int .u32 (x1.H.e0.toNat : Int), .int .u32 (x1.H.e1.toNat : Int), .int .u32 (x1.H.e2.toNat : Int), .int .u32 (x1.H.e3.toNat : Int), .int .u32 (x1.H.e4.toNat : Int), .int .u32 (x1.H.e5.toNat : Int), .int .u32 (x1.H.e6.toNat : Int), .int .u32 (x1.H.e7.toNat : Int), q2_0_0, .int .u64 (x1.N.toNat : Int), .int .i64 x1.Size]) size81 rfl rfl h1 (by first | (simp; done) | omega | (dsimp only; omega)) (CellsOf.lit (vs := [.int .u32 (x1.H.e0.toNat : Int), .int .u32 (x1.H.e1.toNat : Int), .int .u32 (x1.H.e2.toNat : Int), .int .u32 (x1.H.e3.toNat : Int), .int .u32 (x1.H.e4.toNat : Int), .int .u32 (x1.H.e5.toNat : Int), .int .u32 (x1.H.e6.toNat : Int), .int .u32 (x1.H.e7.toNat : Int), q2_0_0, .int .u64 (x1.N.toNat : Int), .int .i64 x1.Size]) rfl (ones.cons rfl (ones.cons rfl (ones.cons rfl (ones.cons rfl (ones.cons rfl (ones.cons rfl (ones.cons rfl (ones.cons rfl (ones.cons ((SL.of_R hq2_0_0)).one1 (ones.cons rfl (ones.cons rfl ones.nil)))))))))))) rfl (by first | rfl | (simp; done) | (simp; omega)) rfl ?_
 intro s3 st3 h1
 have szs3 := st3.size
 have hS := hS.c0 st3
 replace hq2_0_0 := hq2_0_0.up2 st3
 refine k_nil ?_
 refine k_keep [(1, _), (2, _)] ⟨rfl, rfl, trivial⟩ ?_
 refine k_seq ?_
 refine k_seq ?_
 refine k_region ?_
 refine k_field_addr fld81_3 rfl rfl ?_
 refine k_load_blk one3 rfl h1 rfl rfl ?_
 obtain ⟨x2, hx2, h⟩ := ob h
 refine k_call cal65 rfl (digest_sized_w   hx2) rfl ?_
 rintro s4 vr4 st4 rfl
 have szs4 := st4.size
 have hS := hS.trans0 st4
 replace hq2_0_0 := hq2_0_0.up2 st4
 replace h1 := h1.up2 st4
 refine k_not rfl rfl ?_
 refine k_nil ?_
 refine k_keep [(1, _), (2, _), (12, _)] ⟨rfl, rfl, rfl, trivial⟩ ?_
 refine k_cond rfl (fun c5 => ?_) (fun c5 => ?_)
 ·
  have h := ibT h c5
  refine k_seq ?_
  refine k_region ?_
  refine k_assign rfl rfl ?_
  refine k_nil ?_
  refine k_keep [(1, _), (2, _)] ⟨rfl, rfl, trivial⟩ ?_
  refine k_ret ?_
  obtain rfl := Option.some.inj h
  refine ⟨_, rfl, Ret.mk hS ?_⟩
  exact ⟨_, rfl, (R.of_SL (.inl ⟨rfl, none, 0, rfl, fun _ => rfl⟩))⟩
 ·
  have h := ibF h c5
  refine k_skip ?_
  refine k_seq ?_
  refine k_region ?_
  refine k_alloc zero105 rfl ?_
  intro s6 b6 st6 h6 ge6
  have szs6 := st6.size
  have hS := hS.trans0 st6
  replace hq2_0_0 := hq2_0_0.up2 st6
  replace h1 := h1.up2 st6
  have lt6 := h6.lt
  refine k_nil ?_
  refine k_keep [(1, _), (2, _), (3, _)] ⟨rfl, rfl, rfl, trivial⟩ ?_
  refine k_seq ?_
  refine k_drawT (KN s6.n) 3 (.read 1 (.read 2 (.alt 0 .fin .no))) mixed (by intro c h; (try simp only [KC, KO, KU, KN, KB] at h) <;> omega) rfl rfl rfl ?_
  intro s7 st7
  have szs7 := st7.size
  have hS := hS.trans0 st7
  replace hq2_0_0 := hq2_0_0.up2 st7
  replace h1 := h1.up2 st7
  replace h6 := h6.up2 st7
  refine rt_read (.pointer (some ⟨b1, 8, none⟩)) rfl rfl (fun s8 st8 => ?_) ?_
  ·refine k_field_addr fld81_1 rfl rfl ?_
   exact fq_end
  refine rt_read (q2_0_0) rfl rfl (fun s9 st9 => ?_) ?_
  ·try replace h1 := h1.up2 st9
   refine k_load_blk one51 rfl h1 rfl rfl ?_
   exact fq_end
  refine rt_act rfl rfl ?_
  have hA10 := Step.r0 (KN s6.n) s7
  refine k_cut_pt (g := bD) (i := 0) (j := 64) (pre := []) (post := []) (xs := (List.replicate 64 (0 : UInt8))) cB (fun _ => rfl) (fun _ => rfl) arr105 rfl h6.tl rfl (List.length_replicate) CutAt.none CutAt.none (by decide) (by decide) (by decide) rfl ?_
  intro h11
  replace h11 : SL s7 ⟨b6 + 1, 0⟩ (.slice (some ⟨b6, 0 + 0, none⟩) (64 - 0) (64 - 0)) 1 ((List.replicate 64 (0 : UInt8)).map bD) := by have hq : (List.replicate 64 (0 : UInt8)).length = 64 := (List.length_replicate); have ht : ((List.replicate 64 (0 : UInt8)).drop 0).take (64 - 0) = (List.replicate 64 (0 : UInt8)) := (by rw [List.drop_zero]; exact List.take_of_length_le (by omega)); rw [ht] at h11; exact h11
  refine rt_cont hA10 ?_
  refine rt_fin ?_
  refine k_copyA (i := 0) (j := 64) (q := 64) (g := bD) cB (fun _ => rfl) (fun _ => rfl) (pre := []) (post := []) (xs := (List.replicate 64 (0 : UInt8))) (ys := x1.Rest) elem51 rfl rfl h6.tl (by first | (simp; done) | omega | (dsimp only; omega)) rfl (List.length_replicate) (by decide) (by decide) (SL.of_R hq2_0_0) rfl ?_
  intro s12 st12 h6
  replace h6 := h6.tl'
  have hl12 : (cpyAt (List.replicate 64 (0 : UInt8)) 0 64 x1.Rest).length = 64 := cpyAt_len (List.length_replicate) (by decide) (by decide)
  have szs12 := st12.size
  have hS := hS.c0 st12
  replace hq2_0_0 := hq2_0_0.up2 st12
  replace h1 := h1.up2 st12
  refine k_nil ?_
  refine k_keep [(1, _), (2, _), (3, _)] ⟨rfl, rfl, rfl, trivial⟩ ?_
  refine k_seq ?_
  obtain ⟨kj3, hK13, h⟩ := jn_out h
  have hE13 := Step.r0 K0 s12
  refine k_cutc (X := St × Nat × UInt32 × UInt32 × UInt32 × UInt32 × UInt32 × UInt32 × UInt32 × UInt32) [(1, .pointer (some ⟨b1, 0, none⟩)), (2, .slice none 0 0)] (fun (xL : St × Nat × UInt32 × UInt32 × UInt32 × UInt32 × UInt32 × UInt32 × UInt32 × UInt32) => match xL with | (sl, bv14, x4, x5, x6, x7, x8, x9, x10, x11) => [(4, .pointer (some ⟨bv14, 0, none⟩))]) (fun (xL : St × Nat × UInt32 × UInt32 × UInt32 × UInt32 × UInt32 × UInt32 × UInt32 × UInt32) (wL : World) => match xL with | (sl, bv14, x4, x5, x6, x7, x8, x9, x10, x11) => sl.w = wL ∧ Step K0 s12 sl ∧ (Blk sl bv14 ⟨bv14 + 1, 0⟩ [.int .u32 (x4.toNat : Int), .int .u32 (x5.toNat : Int), .int .u32 (x6.toNat : Int), .int .u32 (x7.toNat : Int), .int .u32 (x8.toNat : Int), .int .u32 (x9.toNat : Int), .int .u32 (x10.toNat : Int), .int .u32 (x11.toNat : Int)] 79) ∧ (s12.n ≤ bv14) ∧ kj3 x4 x5 x6 x7 x8 x9 x10 x11 = some r) ?_ ?_
  ·
   obtain ⟨x12, hx12, h⟩ := ob h
   refine k_drawT (KN s12.n) 12 (.read 0 (.read 1 (.read 3 (.read 4 (.read 5 (.read 6 (.read 7 (.read 8 (.read 9 (.alt 2 (.alt 10 (.alt 11 .fin .no) (.alt 11 (.alt 10 .fin .no) .no)) (.alt 11 (.alt 2 (.alt 10 .fin .no) .no) .no))))))))))) mixed (by intro c h; (try simp only [KC, KO, KU, KN, KB] at h) <;> omega) rfl rfl rfl ?_
   intro s15 st15
   have szs15 := st15.size
   have hS := hS.trans0 st15
   have hE13 := hE13.trans0 st15
   replace hq2_0_0 := hq2_0_0.up2 st15
   replace h1 := h1.up2 st15
   replace h6 := h6.up2 st15
   refine rt_read (.pointer (some ⟨b1, 0, none⟩)) rfl rfl (fun s16 st16 => ?_) ?_
   ·refine k_field_addr fld81_0 rfl rfl ?_
    exact fq_end
   refine rt_read (.agg #[.int .u32 (x1.H.e0.toNat : Int), .int .u32 (x1.H.e1.toNat : Int), .int .u32 (x1.H.e2.toNat : Int), .int .u32 (x1.H.e3.toNat : Int), .int .u32 (x1.H.e4.toNat : Int), .int .u32 (x1.H.e5.toNat : Int), .int .u32 (x1.H.e6.toNat : Int), .int .u32 (x1.H.e7.toNat : Int)]) rfl rfl (fun s17 st17 => ?_) ?_
   ·try replace h1 := h1.up2 st17
    refine k_load_sub (cs' := [.int .u32 (x1.H.e0.toNat : Int), .int .u32 (x1.H.e1.toNat : Int), .int .u32 (x1.H.e2.toNat : Int), .int .u32 (x1.H.e3.toNat : Int), .int .u32 (x1.H.e4.toNat : Int), .int .u32 (x1.H.e5.toNat : Int), .int .u32 (x1.H.e6.toNat : Int), .int .u32 (x1.H.e7.toNat : Int)]) agg79 rfl h1 rfl rfl rfl ?_
    exact fq_end
   refine rt_read (.pointer (some ⟨b1, 9, none⟩)) rfl rfl (fun s18 st18 => ?_) ?_
   ·refine k_field_addr fld81_2 rfl rfl ?_
    exact fq_end
   refine rt_read (.int .u64 (x1.N.toNat : Int)) rfl rfl (fun s19 st19 => ?_) ?_
   ·try replace h1 := h1.up2 st19
    refine k_load_blk one26 rfl h1 rfl rfl ?_
    exact fq_end
   refine rt_read (.pointer (some ⟨b1, 8, none⟩)) rfl rfl (fun s20 st20 => ?_) ?_
   ·refine k_field_addr fld81_1 rfl rfl ?_
    exact fq_end
   refine rt_read (q2_0_0) rfl rfl (fun s21 st21 => ?_) ?_
   ·try replace h1 := h1.up2 st21
    refine k_load_blk one51 rfl h1 rfl rfl ?_
    exact fq_end
   refine rt_read (.int .i64 (x1.Rest.length : Int)) rfl rfl (fun s22 st22 => ?_) ?_
   ·try replace hq2_0_0 := hq2_0_0.up2 st22
    refine k_len Tryd.underlying51 rfl (SL.of_R hq2_0_0).hasLen rfl ?_
    refine k_as (v := .int .i64 (x1.Rest.length : Int)) (by simp only [List.length_map]) ?_
    exact fq_end
   refine rt_read (.int .u64 ((ofI64 (x1.Rest.length : Int)).toNat : Int)) rfl rfl (fun s23 st23 => ?_) ?_
   ·refine k_conv (p := (x1.Rest.length : Int)) Tryd.underlying3 Tryd.underlying26 rfl rfl ?_
    refine k_as (congrArg (Value.int .u64) (w64 _)) ?_
    exact fq_end
   refine rt_read (.int .u64 ((ofI64 ((x1.N.toNat : Int) + ((ofI64 (x1.Rest.length : Int)).toNat : Int))).toNat : Int)) rfl rfl (fun s24 st24 => ?_) ?_
   ·refine k_add rfl rfl rfl ?_
    refine k_as (congrArg (Value.int .u64) (w64 _)) ?_
    exact fq_end
   refine rt_alt rfl rfl ?_ ?_
   ·
    have hA25 := Step.r0 (KN s12.n) s15
    refine k_cut_pt (g := bD) (i := 0) (j := 64) (pre := []) (post := []) (xs := (cpyAt (List.replicate 64 (0 : UInt8)) 0 64 x1.Rest)) cB (fun _ => rfl) (fun _ => rfl) arr105 rfl h6.tl rfl hl12 CutAt.none CutAt.none (by decide) (by decide) (by decide) rfl ?_
    intro h26
    replace h26 : SL s15 ⟨b6 + 1, 0⟩ (.slice (some ⟨b6, 0 + 0, none⟩) (64 - 0) (64 - 0)) 1 ((cpyAt (List.replicate 64 (0 : UInt8)) 0 64 x1.Rest).map bD) := by have hq : (cpyAt (List.replicate 64 (0 : UInt8)) 0 64 x1.Rest).length = 64 := hl12; have ht : ((cpyAt (List.replicate 64 (0 : UInt8)) 0 64 x1.Rest).drop 0).take (64 - 0) = (cpyAt (List.replicate 64 (0 : UInt8)) 0 64 x1.Rest) := (by rw [List.drop_zero]; exact List.take_of_length_le (by omega)); rw [ht] at h26; exact h26
    refine rt_cont hA25 ?_
    refine rt_alt rfl rfl ?_ ?_
    ·
     have hA27 := Step.r0 (KN s12.n) s15
     refine k_call cal68 rfl (digest_mix_w  (clsSt79 x1.H) h26 hx12) rfl ?_
     rintro s28 vr28 st28 ⟨cs28_0, rfl, h28_0⟩
     have szs28 := st28.size
     have hS := hS.trans0 st28
     have hE13 := hE13.trans0 st28
     have hA27 := hA27.trans0 st28
     obtain rfl := opnSt79 h28_0
     refine rt_cont hA27 ?_
     refine rt_act rfl rfl ?_
     have hA29 := Step.r0 (KN s12.n) s28
     refine k_alloc zero79 rfl ?_
     intro s30 b30 st30 h30 ge30
     have szs30 := st30.size
     have hS := hS.trans0 st30
     have hE13 := hE13.trans0 st30
     have hA29 := hA29.trans0 st30
     have lt30 := h30.lt
     refine rt_cont hA29 ?_
     refine rt_fin ?_
     refine k_store_c (cs' := [.int .u32 (x12.e0.toNat : Int), .int .u32 (x12.e1.toNat : Int), .int .u32 (x12.e2.toNat : Int), .int .u32 (x12.e3.toNat : Int), .int .u32 (x12.e4.toNat : Int), .int .u32 (x12.e5.toNat : Int), .int .u32 (x12.e6.toNat : Int), .int .u32 (x12.e7.toNat : Int)]) size79 rfl rfl h30 (by first | (simp; done) | omega | (dsimp only; omega)) (CellsOf.lit rfl rfl) rfl (by first | rfl | (simp; done) | (simp; omega)) rfl ?_
     intro s31 st31 h30
     have szs31 := st31.size
     have hS := hS.c0 st31
     have hE13 := hE13.c0 st31
     refine k_nil ?_
     exact k_stop ⟨(s31, b30, x12.e0, x12.e1, x12.e2, x12.e3, x12.e4, x12.e5, x12.e6, x12.e7), ⟨(by first | rfl | (simp <;> rfl)), trivial⟩, ⟨rfl, rfl, trivial⟩, ⟨rfl, hE13, h30, (by first | omega | (simp <;> omega)), h⟩⟩
    ·
     refine rt_act rfl rfl ?_
     have hA32 := Step.r0 (KN s12.n) s15
     refine k_alloc zero79 rfl ?_
     intro s33 b33 st33 h33 ge33
     have szs33 := st33.size
     have hS := hS.trans0 st33
     have hE13 := hE13.trans0 st33
     have hA32 := hA32.trans0 st33
     replace h26 := h26.up2 st33
     have lt33 := h33.lt
     refine rt_cont hA32 ?_
     refine rt_act rfl rfl ?_
     have hA34 := Step.r0 (KN s12.n) s33
     refine k_call cal68 rfl (digest_mix_w  (clsSt79 x1.H) h26 hx12) rfl ?_
     rintro s35 vr35 st35 ⟨cs35_0, rfl, h35_0⟩
     have szs35 := st35.size
     have hS := hS.trans0 st35
     have hE13 := hE13.trans0 st35
     have hA34 := hA34.trans0 st35
     replace h33 := h33.up2 st35
     obtain rfl := opnSt79 h35_0
     refine rt_cont hA34 ?_
     refine rt_fin ?_
     refine k_store_c (cs' := [.int .u32 (x12.e0.toNat : Int), .int .u32 (x12.e1.toNat : Int), .int .u32 (x12.e2.toNat : Int), .int .u32 (x12.e3.toNat : Int), .int .u32 (x12.e4.toNat : Int), .int .u32 (x12.e5.toNat : Int), .int .u32 (x12.e6.toNat : Int), .int .u32 (x12.e7.toNat : Int)]) size79 rfl rfl h33 (by first | (simp; done) | omega | (dsimp only; omega)) (CellsOf.lit rfl rfl) rfl (by first | rfl | (simp; done) | (simp; omega)) rfl ?_
     intro s36 st36 h33
     have szs36 := st36.size
     have hS := hS.c0 st36
     have hE13 := hE13.c0 st36
     refine k_nil ?_
     exact k_stop ⟨(s36, b33, x12.e0, x12.e1, x12.e2, x12.e3, x12.e4, x12.e5, x12.e6, x12.e7), ⟨(by first | rfl | (simp <;> rfl)), trivial⟩, ⟨rfl, rfl, trivial⟩, ⟨rfl, hE13, h33, (by first | omega | (simp <;> omega)), h⟩⟩
   ·
    refine rt_act rfl rfl ?_
    have hA37 := Step.r0 (KN s12.n) s15
    refine k_alloc zero79 rfl ?_
    intro s38 b38 st38 h38 ge38
    have szs38 := st38.size
    have hS := hS.trans0 st38
    have hE13 := hE13.trans0 st38
    have hA37 := hA37.trans0 st38
    replace h6 := h6.up2 st38
    have lt38 := h38.lt
    refine rt_cont hA37 ?_
    refine rt_act rfl rfl ?_
    have hA39 := Step.r0 (KN s12.n) s38
    refine k_cut_pt (g := bD) (i := 0) (j := 64) (pre := []) (post := []) (xs := (cpyAt (List.replicate 64 (0 : UInt8)) 0 64 x1.Rest)) cB (fun _ => rfl) (fun _ => rfl) arr105 rfl h6.tl rfl hl12 CutAt.none CutAt.none (by decide) (by decide) (by decide) rfl ?_
    intro h40
    replace h40 : SL s38 ⟨b6 + 1, 0⟩ (.slice (some ⟨b6, 0 + 0, none⟩) (64 - 0) (64 - 0)) 1 ((cpyAt (List.replicate 64 (0 : UInt8)) 0 64 x1.Rest).map bD) := by have hq : (cpyAt (List.replicate 64 (0 : UInt8)) 0 64 x1.Rest).length = 64 := hl12; have ht : ((cpyAt (List.replicate 64 (0 : UInt8)) 0 64 x1.Rest).drop 0).take (64 - 0) = (cpyAt (List.replicate 64 (0 : UInt8)) 0 64 x1.Rest) := (by rw [List.drop_zero]; exact List.take_of_length_le (by omega)); rw [ht] at h40; exact h40
    refine rt_cont hA39 ?_
    refine rt_act rfl rfl ?_
    have hA41 := Step.r0 (KN s12.n) s38
    refine k_call cal68 rfl (digest_mix_w  (clsSt79 x1.H) h40 hx12) rfl ?_
    rintro s42 vr42 st42 ⟨cs42_0, rfl, h42_0⟩
    have szs42 := st42.size
    have hS := hS.trans0 st42
    have hE13 := hE13.trans0 st42
    have hA41 := hA41.trans0 st42
    replace h38 := h38.up2 st42
    obtain rfl := opnSt79 h42_0
    refine rt_cont hA41 ?_
    refine rt_fin ?_
    refine k_store_c (cs' := [.int .u32 (x12.e0.toNat : Int), .int .u32 (x12.e1.toNat : Int), .int .u32 (x12.e2.toNat : Int), .int .u32 (x12.e3.toNat : Int), .int .u32 (x12.e4.toNat : Int), .int .u32 (x12.e5.toNat : Int), .int .u32 (x12.e6.toNat : Int), .int .u32 (x12.e7.toNat : Int)]) size79 rfl rfl h38 (by first | (simp; done) | omega | (dsimp only; omega)) (CellsOf.lit rfl rfl) rfl (by first | rfl | (simp; done) | (simp; omega)) rfl ?_
    intro s43 st43 h38
    have szs43 := st43.size
    have hS := hS.c0 st43
    have hE13 := hE13.c0 st43
    refine k_nil ?_
    exact k_stop ⟨(s43, b38, x12.e0, x12.e1, x12.e2, x12.e3, x12.e4, x12.e5, x12.e6, x12.e7), ⟨(by first | rfl | (simp <;> rfl)), trivial⟩, ⟨rfl, rfl, trivial⟩, ⟨rfl, hE13, h38, (by first | omega | (simp <;> omega)), h⟩⟩
  ·
   rintro ⟨s44, bv14, x4, x5, x6, x7, x8, x9, x10, x11⟩ wL ⟨rfl, hE13, h14, hd14, h⟩
   have lth14 := h14.lt
   rw [hK13] at h
   have szs44 := hE13.size
   have hS := hS.trans0 hE13
   replace h1 := h1.up2 hE13
   refine k_seq ?_
   refine k_region ?_
   refine k_assign rfl rfl ?_
   refine k_nil ?_
   refine k_seq ?_
   obtain ⟨kj13, hK45, h⟩ := jn_out h
   have hE45 := Step.r0 K0 s44
   refine k_cutc (X := St × (List UInt8) × Value) [(2, .slice none 0 0)] (fun (xL : St × (List UInt8) × Value) => match xL with | (sl, x14, v46) => [(5, v46)]) (fun (xL : St × (List UInt8) × Value) (wL : World) => match xL with | (sl, x14, v46) => sl.w = wL ∧ Step K0 s44 sl ∧ (Own sl ⟨s44.n + 1, 3005⟩ 5 1 v46 (x14.map bD)) ∧ kj13 x14 = some r) ?_ ?_
   ·
    refine k_seq ?_
    refine k_region ?_
    refine k_field_addr fld81_3 rfl rfl ?_
    refine k_load_blk one3 rfl h1 rfl rfl ?_
    refine k_move rfl rfl ?_
    refine k_nil ?_
    refine k_keep [(2, _), (4, _), (5, _), (29, _), (30, _)] ⟨rfl, rfl, rfl, rfl, rfl, trivial⟩ ?_
    refine k_block ?_
    have h47 : Own s44 ⟨s44.n + 1, 3005⟩ 5 1 (.slice none 0 0) (([] : List UInt8).map bD) := Own.nil (by first | (simp; done) | omega | (dsimp only; omega)) (by first | (simp; done) | omega | (dsimp only; omega))
    refine k_loopc (X := St × (List UInt8) × Value × Int × Nat) [(2, _), (4, _), (29, _)] (fun (xL : St × (List UInt8) × Value × Int × Nat) => match xL with | (sl, x15, v49, x16, j) => [(5, v49), (30, .int .i64 x16)]) (fun (xL : St × (List UInt8) × Value × Int × Nat) (wL : World) => match xL with | (sl, x15, v49, x16, j) => sl.w = wL ∧ Step (KC (s44.n + 1) 3005) s44 sl ∧ (Own sl ⟨s44.n + 1, 3005⟩ 5 1 v49 (x15.map bD)) ∧ digest_Sum_l1 x1 x4 x5 x6 x7 x8 x9 x10 x11 kj13 j x15 x16 = some r) (fun (xL : St × (List UInt8) × Value × Int × Nat) => match xL with | (sl, x15, v49, x16, j) => j) (s44, [], (.slice none 0 0), 0, FU) ⟨rfl, rfl, rfl, trivial⟩ ⟨(by first | rfl | (simp <;> rfl)), (by first | rfl | (simp <;> rfl)), trivial⟩ ⟨rfl, (Step.refl _).of0 (by first | exact fun _ h => h | (intro c h; simp [KC, KO, KU, KN, KB] at h <;> omega)), h47, h⟩ ?_
    rintro ⟨s50, x15, v49, x16, j⟩ wL ⟨rfl, hE48, h49, h⟩
    cases j with
    | zero => rw [digest_Sum_l1] at h; exact (noneNe h).elim
    | succ j =>
    rw [digest_Sum_l1] at h
    have szs50 := hE48.size
    have hS := hS.c0 hE48
    have hE45 := hE45.c0 hE48
    replace h14 := h14.up2 hE48
    refine k_seq ?_
    refine k_region ?_
    refine k_lss rfl rfl rfl ?_
    refine k_nil ?_
    refine k_seq ?_
    refine k_cond_dec rfl (fun c51 => ?_) (fun c51 => ?_)
    ·
     have h := itT h c51
     refine k_skip ?_
     refine k_seq ?_
     refine k_block ?_
     refine k_seq ?_
     refine k_region ?_
     refine k_move rfl rfl ?_
     refine k_assign rfl rfl ?_
     refine k_nil ?_
     refine k_keep [(2, _), (4, _), (5, _), (6, _), (29, _), (30, _)] ⟨rfl, rfl, rfl, rfl, rfl, rfl, trivial⟩ ?_
     refine k_region ?_
     refine k_move rfl rfl ?_
     refine k_move rfl rfl ?_
     refine k_quo rfl rfl (by decide) rfl ?_
     obtain ⟨x17, hx17, h⟩ := ob h
     refine k_ixarr (m := 0) (xs := ([x4, x5, x6, x7, x8, x9, x10, x11] : List UInt32)) arr79 rfl rfl rfl hx17 rfl ?_
     obtain ⟨x18, hx18, h⟩ := ob h
     refine k_load_el2 cU (pre := []) (post := []) (xs := ([x4, x5, x6, x7, x8, x9, x10, x11] : List UInt32)) one78 rfl h14 rfl hx18 rfl ?_
     refine k_move rfl rfl ?_
     refine k_rem rfl rfl (by decide) rfl ?_
     refine k_mul rfl rfl rfl ?_
     by_cases c52 : 0 ≤ i64 (8 * (x16.tmod 4))
     case neg => exact (noneNe (itF h c52)).elim
     replace h := itT h c52
     refine k_shr (p := (x18.toNat : Int)) rfl rfl c52 rfl ?_
     refine k_as (congrArg (Value.int .u32) (shr32_eq _ _)) ?_
     refine k_conv (p := ((shr32 x18 (i64 (8 * (x16.tmod 4)))).toNat : Int)) Tryd.underlying78 Tryd.underlying5 rfl rfl ?_
     refine k_as (congrArg (Value.int .u8) (w8 _)) ?_
     refine k_bslice2 (ds := ([ofI8 ((shr32 x18 (i64 (8 * (x16.tmod 4)))).toNat : Int)] : List UInt8).map bD) slc51 rfl (RVs.cons (R.val rfl) RVs.nil) (by rfl) (by rfl) rfl rfl ?_
     intro s53 v53 b53 st53 ge53 bl53 h53
     have szs53 := st53.size
     have hS := hS.trans0 st53
     have hE45 := hE45.trans0 st53
     have hE48 := hE48.trans0 st53
     replace h49 := h49.up2 st53
     have lt53 := Own.le1 h53
     obtain ⟨x19, hx19, h⟩ := ob h
     refine k_append (es := ([ofI8 ((shr32 x18 (i64 (8 * (x16.tmod 4)))).toNat : Int)] : List UInt8).map bD) elem51 rfl rfl h49 (h53.sl) (by have := (app_out hx19).1; simp only [List.length_map] at *; omega) (by have := (app_out hx19).1; simp only [List.length_map] at *; omega) rfl ?_
     intro s54 v54 st54 h54
     rw [← List.map_append, ← (app_out hx19).2] at h54
     have szs54 := st54.size
     have hS := hS.c0 st54
     have hE45 := hE45.c0 st54
     have hE48 := hE48.c0 st54
     refine k_assign rfl rfl ?_
     refine k_nil ?_
     refine k_blk ?_
     refine k_region ?_
     refine k_add rfl rfl rfl ?_
     refine k_move rfl rfl ?_
     refine k_nil ?_
     exact k_stop ⟨(s54, x19, v54, i64 (x16 + 1), j), ⟨(by first | rfl | (simp <;> rfl)), (by first | rfl | (simp <;> rfl)), trivial⟩, ⟨rfl, rfl, rfl, trivial⟩, ⟨rfl, hE48, h54, h⟩, (by simp)⟩
    ·
     have h := itF h c51
     refine k_exit rfl ?_
     exact k_stop ⟨(s50, x15, v49), ⟨(by first | rfl | (simp <;> rfl)), trivial⟩, ⟨rfl, trivial⟩, ⟨rfl, hE45, h49, h⟩⟩
   ·
    rintro ⟨s55, x14, v46⟩ wL ⟨rfl, hE45, h46, h⟩
    rw [hK45] at h
    have szs55 := hE45.size
    have hS := hS.trans0 hE45
    refine k_seq ?_
    refine k_region ?_
    refine k_move rfl rfl ?_
    refine k_assign rfl rfl ?_
    refine k_nil ?_
    refine k_keep [(2, _)] ⟨rfl, trivial⟩ ?_
    refine k_ret ?_
    obtain ⟨s56, e56, st56, h56⟩ := h46.freeze
    rw [← e56]
    have szs56 := st56.size
    have hS := hS.c0 st56
    obtain rfl := Option.some.inj h
    refine ⟨_, rfl, Ret.mk hS ?_⟩
    exact ⟨_, rfl, h56⟩

set_option maxHeartbeats 20000000 in
set_option maxRecDepth 100000 in
theorem digest_Of_w {s : St} {a0 : Int} {l1 : Lab} {v1 : Value} {a1 : (List (List UInt8))} {r : ((List UInt8) × Int)} (hp1 : SL s l1 v1 1 (a1.map (dL 1 bD))) (h : digest_Of a0 a1 = some r) : Calls Tryd.prog 33 #[.int .i64 a0, v1] s.w (Ret s K0 (fun s1 v => ∃ (u0 : Value), v = .tuple #[u0, .int .i64 r.2] ∧ R s1 u0 (.sl 1 (r.1.map bD)))) := by
 unfold digest_Of at h
 obtain ⟨lf1, lf1le, lf1ne, hp1⟩ := hp1.fix
 have hS := Step.r0 K0 s
 refine k_fn (rs := [4, 5]) (args := [.int .i64 a0, v1]) Tryd.func33 rfl rfl rfl rfl ?_
 refine k_seq ?_
 refine k_region ?_
 refine k_assign rfl rfl ?_
 refine k_assign rfl rfl ?_
 refine k_nil ?_
 refine k_seq ?_
 refine k_region ?_
 refine k_move rfl rfl ?_
 obtain ⟨x1, hx1, h⟩ := ob h
 refine k_call cal45 rfl (digest_Begin_w   hx1) rfl ?_
 rintro s1 vr1 st1 ⟨cs1_0, rfl, h1_0⟩
 have szs1 := st1.size
 have hS := hS.trans0 st1
 replace hp1 := hp1.up2 st1
 obtain ⟨q1_0_0, rfl, hq1_0_0⟩ := opnApiDigest h1_0
 refine k_move rfl rfl ?_
 refine k_extract rfl rfl rfl ?_
 refine k_extract rfl rfl rfl ?_
 refine k_alloc zero81 rfl ?_
 intro s2 b2 st2 h2 ge2
 have szs2 := st2.size
 have hS := hS.trans0 st2
 replace hp1 := hp1.up2 st2
 replace hq1_0_0 := hq1_0_0.up2 st2
 have lt2 := h2.lt
 refine k_store_c (cs' := [.int .u32 (x1.1.H.e0.toNat : Int), .int .u32 (x1.1.H.e1.toNat : Int), .int .u32 (x1.1.H.e2.toNat : Int), .int .u32 (x1.1.H.e3.toNat : Int), .int .u32 (x1.1.H.e4.toNat : Int), .int .u32 (x1.1.H.e5.toNat : Int), .int .u32 (x1.1.H.e6.toNat : Int), .int .u32 (x1.1.H.e7.toNat : Int), q1_0_0, .int .u64 (x1.1.N.toNat : Int), .int .i64 x1.1.Size]) size81 rfl rfl h2 (by first | (simp; done) | omega | (dsimp only; omega)) (CellsOf.lit (vs := [.int .u32 (x1.1.H.e0.toNat : Int), .int .u32 (x1.1.H.e1.toNat : Int), .int .u32 (x1.1.H.e2.toNat : Int), .int .u32 (x1.1.H.e3.toNat : Int), .int .u32 (x1.1.H.e4.toNat : Int), .int .u32 (x1.1.H.e5.toNat : Int), .int .u32 (x1.1.H.e6.toNat : Int), .int .u32 (x1.1.H.e7.toNat : Int), q1_0_0, .int .u64 (x1.1.N.toNat : Int), .int .i64 x1.1.Size]) rfl (ones.cons rfl (ones.cons rfl (ones.cons rfl (ones.cons rfl (ones.cons rfl (ones.cons rfl (ones.cons rfl (ones.cons rfl (ones.cons ((SL.of_R hq1_0_0)).one1 (ones.cons rfl (ones.cons rfl ones.nil)))))))))))) rfl (by first | rfl | (simp; done) | (simp; omega)) rfl ?_
 intro s3 st3 h2
 have szs3 := st3.size
 have hS := hS.c0 st3
 replace hp1 := hp1.up2 st3
 replace hq1_0_0 := hq1_0_0.up2 st3
 refine k_assign rfl rfl ?_
 refine k_nil ?_
 refine k_keep [(1, _), (4, _), (5, _), (6, _), (7, _)] ⟨rfl, rfl, rfl, rfl, rfl, trivial⟩ ?_
 refine k_seq ?_
 refine k_seq ?_
 refine k_region ?_
 refine k_move rfl rfl ?_
 refine k_neq rfl rfl rfl ?_
 refine k_nil ?_
 refine k_keep [(1, _), (4, _), (5, _), (6, _), (7, _), (16, _)] ⟨rfl, rfl, rfl, rfl, rfl, rfl, trivial⟩ ?_
 refine k_cond_dec rfl (fun c4 => ?_) (fun c4 => ?_)
 ·
  have h := itT h c4
  refine k_seq ?_
  refine k_region ?_
  refine k_move rfl rfl ?_
  refine k_assign rfl rfl ?_
  refine k_assign rfl rfl ?_
  refine k_nil ?_
  refine k_keep [(1, _), (4, _), (5, _), (6, _)] ⟨rfl, rfl, rfl, rfl, trivial⟩ ?_
  refine k_ret ?_
  obtain rfl := Option.some.inj h
  refine ⟨_, rfl, Ret.mk hS ?_⟩
  exact ⟨_, rfl, (R.of_SL (.inl ⟨rfl, none, 0, rfl, fun _ => rfl⟩))⟩
 ·
  have h := itF h c4
  refine k_skip ?_
  refine k_seq ?_
  refine k_keep [(1, _), (4, _), (5, _), (6, _)] ⟨rfl, rfl, rfl, rfl, trivial⟩ ?_
  obtain ⟨kj2, hK5, h⟩ := jn_out h
  have hE5 := Step.r0 (KC (b2 + 1) 0) s3
  refine k_cutc (X := St × UInt32 × UInt32 × UInt32 × UInt32 × UInt32 × UInt32 × UInt32 × UInt32 × (List UInt8) × Value × UInt64 × Int) [(4, .slice none 0 0), (5, .int .i64 0), (6, .pointer (some ⟨b2, 0, none⟩))] (fun (xL : St × UInt32 × UInt32 × UInt32 × UInt32 × UInt32 × UInt32 × UInt32 × UInt32 × (List UInt8) × Value × UInt64 × Int) => match xL with | (sl, x3, x4, x5, x6, x7, x8, x9, x10, x11, v6, x12, x13) => []) (fun (xL : St × UInt32 × UInt32 × UInt32 × UInt32 × UInt32 × UInt32 × UInt32 × UInt32 × (List UInt8) × Value × UInt64 × Int) (wL : World) => match xL with | (sl, x3, x4, x5, x6, x7, x8, x9, x10, x11, v6, x12, x13) => sl.w = wL ∧ Step (KC (b2 + 1) 0) s3 sl ∧ (R sl v6 (.sl 1 (x11.map bD))) ∧ (Blk sl b2 ⟨b2 + 1, 0⟩ [.int .u32 (x3.toNat : Int), .int .u32 (x4.toNat : Int), .int .u32 (x5.toNat : Int), .int .u32 (x6.toNat : Int), .int .u32 (x7.toNat : Int), .int .u32 (x8.toNat : Int), .int .u32 (x9.toNat : Int), .int .u32 (x10.toNat : Int), v6, .int .u64 (x12.toNat : Int), .int .i64 x13] 81) ∧ kj2 x3 x4 x5 x6 x7 x8 x9 x10 x11 x12 x13 = some r) ?_ ?_
  ·
   refine k_seq ?_
   refine k_region ?_
   refine k_move rfl rfl ?_
   refine k_len Tryd.underlying68 rfl hp1.hasLen rfl ?_
   refine k_as (v := .int .i64 (a1.length : Int)) (by simp only [List.length_map]) ?_
   refine k_move rfl rfl ?_
   refine k_nil ?_
   refine k_keep [(4, _), (5, _), (6, _), (18, _), (19, _), (20, _)] ⟨rfl, rfl, rfl, rfl, rfl, rfl, trivial⟩ ?_
   refine k_block ?_
   refine k_loopc (X := St × Int × UInt32 × UInt32 × UInt32 × UInt32 × UInt32 × UInt32 × UInt32 × UInt32 × (List UInt8) × Value × UInt64 × Int × Nat) [(4, _), (5, _), (6, _), (18, _), (19, _)] (fun (xL : St × Int × UInt32 × UInt32 × UInt32 × UInt32 × UInt32 × UInt32 × UInt32 × UInt32 × (List UInt8) × Value × UInt64 × Int × Nat) => match xL with | (sl, x14, x15, x16, x17, x18, x19, x20, x21, x22, x23, v8, x24, x25, j) => [(20, .int .i64 x14)]) (fun (xL : St × Int × UInt32 × UInt32 × UInt32 × UInt32 × UInt32 × UInt32 × UInt32 × UInt32 × (List UInt8) × Value × UInt64 × Int × Nat) (wL : World) => match xL with | (sl, x14, x15, x16, x17, x18, x19, x20, x21, x22, x23, v8, x24, x25, j) => sl.w = wL ∧ Step (KC (b2 + 1) 0) s3 sl ∧ (R sl v8 (.sl 1 (x23.map bD))) ∧ (Blk sl b2 ⟨b2 + 1, 0⟩ [.int .u32 (x15.toNat : Int), .int .u32 (x16.toNat : Int), .int .u32 (x17.toNat : Int), .int .u32 (x18.toNat : Int), .int .u32 (x19.toNat : Int), .int .u32 (x20.toNat : Int), .int .u32 (x21.toNat : Int), .int .u32 (x22.toNat : Int), v8, .int .u64 (x24.toNat : Int), .int .i64 x25] 81) ∧ digest_Of_l1 a1 kj2 j x14 x15 x16 x17 x18 x19 x20 x21 x22 x23 x24 x25 = some r) (fun (xL : St × Int × UInt32 × UInt32 × UInt32 × UInt32 × UInt32 × UInt32 × UInt32 × UInt32 × (List UInt8) × Value × UInt64 × Int × Nat) => match xL with | (sl, x14, x15, x16, x17, x18, x19, x20, x21, x22, x23, v8, x24, x25, j) => j) (s3, 0, x1.1.H.e0, x1.1.H.e1, x1.1.H.e2, x1.1.H.e3, x1.1.H.e4, x1.1.H.e5, x1.1.H.e6, x1.1.H.e7, x1.1.Rest, q1_0_0, x1.1.N, x1.1.Size, FU) ⟨rfl, rfl, rfl, rfl, rfl, trivial⟩ ⟨(by first | rfl | (simp <;> rfl)), trivial⟩ ⟨rfl, (Step.refl _).of0 (by first | exact fun _ h => h | (intro c h; simp [KC, KO, KU, KN, KB] at h <;> omega)), hq1_0_0, h2, h⟩ ?_
   rintro ⟨s9, x14, x15, x16, x17, x18, x19, x20, x21, x22, x23, v8, x24, x25, j⟩ wL ⟨rfl, hE7, h8, h2, h⟩
   cases j with
   | zero => rw [digest_Of_l1] at h; exact (noneNe h).elim
   | succ j =>
   rw [digest_Of_l1] at h
   have szs9 := hE7.size
   have hS := hS.c0 hE7
   have hE5 := hE5.c0 hE7
   replace hp1 := hp1.up2 hE7
   refine k_seq ?_
   refine k_region ?_
   refine k_lss rfl rfl rfl ?_
   refine k_nil ?_
   refine k_seq ?_
   refine k_cond_dec rfl (fun c10 => ?_) (fun c10 => ?_)
   ·
    have h := itT h c10
    refine k_skip ?_
    refine k_seq ?_
    refine k_block ?_
    refine k_seq ?_
    refine k_region ?_
    obtain ⟨x26, hx26, h⟩ := ob h
    refine k_ixaddr Tryd.underlying68 size51 rfl rfl hp1 (geti_out hx26).1 (geti_map hx26) rfl ?_
    intro qx26 hqx26
    refine k_load_sl one51 rfl hqx26 rfl ?_
    intro v11 h11
    refine k_assign rfl rfl ?_
    refine k_nil ?_
    refine k_keep [(4, _), (5, _), (6, _), (9, _), (18, _), (19, _), (20, _)] ⟨rfl, rfl, rfl, rfl, rfl, rfl, rfl, trivial⟩ ?_
    refine k_region ?_
    refine k_load_blka (cs := [.int .u32 (x15.toNat : Int), .int .u32 (x16.toNat : Int), .int .u32 (x17.toNat : Int), .int .u32 (x18.toNat : Int), .int .u32 (x19.toNat : Int), .int .u32 (x20.toNat : Int), .int .u32 (x21.toNat : Int), .int .u32 (x22.toNat : Int), v8, .int .u64 (x24.toNat : Int), .int .i64 x25]) agg81 rfl h2 rfl ?_
    refine k_move rfl rfl ?_
    obtain ⟨x27, hx27, h⟩ := ob h
    refine k_call cal46 rfl (digest_Write_w  (clsApiDigest (⟨(⟨x15, x16, x17, x18, x19, x20, x21, x22⟩ : St79), x23, x24, x25⟩ : ApiDigest) h8) (show R s9 v11 (.sl 1 (x26.map bD)) from h11) hx27) rfl ?_
    rintro s12 vr12 st12 ⟨cs12_0, rfl, h12_0⟩
    have szs12 := st12.size
    have hS := hS.trans0 st12
    have hE5 := hE5.trans0 st12
    have hE7 := hE7.trans0 st12
    replace h2 := h2.up2 st12
    obtain ⟨q12_0_0, rfl, hq12_0_0⟩ := opnApiDigest h12_0
    refine k_store_c (cs' := [.int .u32 (x27.H.e0.toNat : Int), .int .u32 (x27.H.e1.toNat : Int), .int .u32 (x27.H.e2.toNat : Int), .int .u32 (x27.H.e3.toNat : Int), .int .u32 (x27.H.e4.toNat : Int), .int .u32 (x27.H.e5.toNat : Int), .int .u32 (x27.H.e6.toNat : Int), .int .u32 (x27.H.e7.toNat : Int), q12_0_0, .int .u64 (x27.N.toNat : Int), .int .i64 x27.Size]) size81 rfl rfl h2 (by first | (simp; done) | omega | (dsimp only; omega)) (CellsOf.lit (vs := [.int .u32 (x27.H.e0.toNat : Int), .int .u32 (x27.H.e1.toNat : Int), .int .u32 (x27.H.e2.toNat : Int), .int .u32 (x27.H.e3.toNat : Int), .int .u32 (x27.H.e4.toNat : Int), .int .u32 (x27.H.e5.toNat : Int), .int .u32 (x27.H.e6.toNat : Int), .int .u32 (x27.H.e7.toNat : Int), q12_0_0, .int .u64 (x27.N.toNat : Int), .int .i64 x27.Size]) rfl (ones.cons rfl (ones.cons rfl (ones.cons rfl (ones.cons rfl (ones.cons rfl (ones.cons rfl (ones.cons rfl (ones.cons rfl (ones.cons ((SL.of_R hq12_0_0)).one1 (ones.cons rfl (ones.cons rfl ones.nil)))))))))))) rfl (by first | rfl | (simp; done) | (simp; omega)) rfl ?_
    intro s13 st13 h2
    have szs13 := st13.size
    have hS := hS.c0 st13
    have hE5 := hE5.c0 st13
    have hE7 := hE7.c0 st13
    replace hq12_0_0 := hq12_0_0.up2 st13
    refine k_nil ?_
    refine k_blk ?_
    refine k_region ?_
    refine k_add rfl rfl rfl ?_
    refine k_move rfl rfl ?_
    refine k_nil ?_
    exact k_stop ⟨(s13, i64 (x14 + 1), x27.H.e0, x27.H.e1, x27.H.e2, x27.H.e3, x27.H.e4, x27.H.e5, x27.H.e6, x27.H.e7, x27.Rest, q12_0_0, x27.N, x27.Size, j), ⟨(by first | rfl | (simp <;> rfl)), trivial⟩, ⟨rfl, rfl, rfl, rfl, rfl, trivial⟩, ⟨rfl, hE7, hq12_0_0, h2, h⟩, (by simp)⟩
   ·
    have h := itF h c10
    refine k_exit rfl ?_
    exact k_stop ⟨(s9, x15, x16, x17, x18, x19, x20, x21, x22, x23, v8, x24, x25), trivial, ⟨rfl, rfl, rfl, trivial⟩, ⟨rfl, hE5, h8, h2, h⟩⟩
  ·
   rintro ⟨s14, x3, x4, x5, x6, x7, x8, x9, x10, x11, v6, x12, x13⟩ wL ⟨rfl, hE5, h6, h2, h⟩
   rw [hK5] at h
   have szs14 := hE5.size
   have hS := hS.c0 hE5
   refine k_seq ?_
   refine k_region ?_
   refine k_load_blka (cs := [.int .u32 (x3.toNat : Int), .int .u32 (x4.toNat : Int), .int .u32 (x5.toNat : Int), .int .u32 (x6.toNat : Int), .int .u32 (x7.toNat : Int), .int .u32 (x8.toNat : Int), .int .u32 (x9.toNat : Int), .int .u32 (x10.toNat : Int), v6, .int .u64 (x12.toNat : Int), .int .i64 x13]) agg81 rfl h2 rfl ?_
   obtain ⟨x28, hx28, h⟩ := ob h
   refine k_call cal47 rfl (digest_Sum_w  (clsApiDigest (⟨(⟨x3, x4, x5, x6, x7, x8, x9, x10⟩ : St79), x11, x12, x13⟩ : ApiDigest) h6) hx28) rfl ?_
   rintro s15 v15_0 st15 ⟨_, rfl, h15_0⟩
   have szs15 := st15.size
   have hS := hS.trans0 st15
   refine k_assign rfl rfl ?_
   refine k_assign rfl rfl ?_
   refine k_nil ?_
   refine k_keep [(4, _), (5, _)] ⟨rfl, rfl, trivial⟩ ?_
   refine k_ret ?_
   obtain rfl := Option.some.inj h
   refine ⟨_, rfl, Ret.mk hS ?_⟩
   exact ⟨_, rfl, h15_0⟩

set_option maxHeartbeats 20000000 in
set_option maxRecDepth 100000 in
theorem digest_Short_w {s : St} {l0 : Lab} {v0 : Value} {a0 : (List (List UInt8))} {r : St27} (hp0 : SL s l0 v0 1 (a0.map (dL 1 bD))) (h : digest_Short a0 = some r) : Calls Tryd.prog 21 #[v0] s.w (Ret s K0 (fun s1 v => ∃ (u0 : List Value), v = .agg u0.toArray ∧ RC s1 u0 (dSt27 r))) := by
 unfold digest_Short at h
 obtain ⟨lf0, lf0le, lf0ne, hp0⟩ := hp0.fix
 have hS := Step.r0 K0 s
 refine k_fn_c (rs := [.cell 2 27]) (args := [v0]) Tryd.func21 rfl rfl rfl rfl ?_
 refine k_seq ?_
 refine k_region ?_
 refine k_alloc zero27 rfl ?_
 intro s1 b1 st1 h1 ge1
 have szs1 := st1.size
 have hS := hS.trans0 st1
 replace hp0 := hp0.up2 st1
 have lt1 := h1.lt
 refine k_nil ?_
 refine k_seq ?_
 refine k_region ?_
 refine k_move rfl rfl ?_
 obtain ⟨x1, hx1, h⟩ := ob h
 refine k_call cal33 rfl (digest_Of_w  hp0 hx1) rfl ?_
 rintro s2 vr2 st2 ⟨v2_0, rfl, h2_0⟩
 have szs2 := st2.size
 have hS := hS.trans0 st2
 replace h1 := h1.up2 st2
 refine k_move rfl rfl ?_
 refine k_extract rfl rfl rfl ?_
 refine k_extract rfl rfl rfl ?_
 refine k_assign rfl rfl ?_
 refine k_assign rfl rfl ?_
 refine k_nil ?_
 refine k_keep [(2, _), (3, _)] ⟨rfl, rfl, trivial⟩ ?_
 refine k_seq ?_
 refine k_region ?_
 refine k_cut_pt (g := bD) (i := 0) (j := 16) (pre := []) (post := []) (xs := ([(0 : UInt8), (0 : UInt8), (0 : UInt8), (0 : UInt8), (0 : UInt8), (0 : UInt8), (0 : UInt8), (0 : UInt8), (0 : UInt8), (0 : UInt8), (0 : UInt8), (0 : UInt8), (0 : UInt8), (0 : UInt8), (0 : UInt8), (0 : UInt8)] : List UInt8)) cB (fun _ => rfl) (fun _ => rfl) arr27 rfl h1 rfl rfl CutAt.none CutAt.none (by decide) (by decide) (by decide) rfl ?_
 intro h3
 replace h3 : SL s2 ⟨b1 + 1, 0⟩ (.slice (some ⟨b1, 0 + 0, none⟩) (16 - 0) (16 - 0)) 1 (([(0 : UInt8), (0 : UInt8), (0 : UInt8), (0 : UInt8), (0 : UInt8), (0 : UInt8), (0 : UInt8), (0 : UInt8), (0 : UInt8), (0 : UInt8), (0 : UInt8), (0 : UInt8), (0 : UInt8), (0 : UInt8), (0 : UInt8), (0 : UInt8)] : List UInt8).map bD) := h3
 refine k_move rfl rfl ?_
 obtain ⟨x2, hx2, h⟩ := ob h
 refine k_copyA (i := 0) (j := 16) (q := 16) (g := bD) cB (fun _ => rfl) (fun _ => rfl) (pre := []) (post := []) (xs := ([(0 : UInt8), (0 : UInt8), (0 : UInt8), (0 : UInt8), (0 : UInt8), (0 : UInt8), (0 : UInt8), (0 : UInt8), (0 : UInt8), (0 : UInt8), (0 : UInt8), (0 : UInt8), (0 : UInt8), (0 : UInt8), (0 : UInt8), (0 : UInt8)] : List UInt8)) (ys := x1.1) elem51 rfl rfl h1 (by first | (simp; done) | omega | (dsimp only; omega)) rfl rfl (by decide) (by decide) (SL.of_R h2_0) rfl ?_
 intro s4 st4 h1
 rw [Option.some.inj hx2] at h1
 replace h1 := h1.litE (lit16 (show x2.length = 16 by rw [← Option.some.inj hx2]; exact cpyAt_len rfl (by decide) (by decide)) (0 : UInt8))
 have szs4 := st4.size
 have hS := hS.c0 st4
 refine k_nil ?_
 refine k_keep [(2, _)] ⟨rfl, trivial⟩ ?_
 refine k_seq ?_
 refine k_region ?_
 refine k_load_blka (cs := [.int .u8 ((x2.getD 0 0).toNat : Int), .int .u8 ((x2.getD 1 0).toNat : Int), .int .u8 ((x2.getD 2 0).toNat : Int), .int .u8 ((x2.getD 3 0).toNat : Int), .int .u8 ((x2.getD 4 0).toNat : Int), .int .u8 ((x2.getD 5 0).toNat : Int), .int .u8 ((x2.getD 6 0).toNat : Int), .int .u8 ((x2.getD 7 0).toNat : Int), .int .u8 ((x2.getD 8 0).toNat : Int), .int .u8 ((x2.getD 9 0).toNat : Int), .int .u8 ((x2.getD 10 0).toNat : Int), .int .u8 ((x2.getD 11 0).toNat : Int), .int .u8 ((x2.getD 12 0).toNat : Int), .int .u8 ((x2.getD 13 0).toNat : Int), .int .u8 ((x2.getD 14 0).toNat : Int), .int .u8 ((x2.getD 15 0).toNat : Int)]) agg27 rfl h1 rfl ?_
 refine k_store_c (cs' := [.int .u8 ((x2.getD 0 0).toNat : Int), .int .u8 ((x2.getD 1 0).toNat : Int), .int .u8 ((x2.getD 2 0).toNat : Int), .int .u8 ((x2.getD 3 0).toNat : Int), .int .u8 ((x2.getD 4 0).toNat : Int), .int .u8 ((x2.getD 5 0).toNat : Int), .int .u8 ((x2.getD 6 0).toNat : Int), .int .u8 ((x2.getD 7 0).toNat : Int), .int .u8 ((x2.getD 8 0).toNat : Int), .int .u8 ((x2.getD 9 0).toNat : Int), .int .u8 ((x2.getD 10 0).toNat : Int), .int .u8 ((x2.getD 11 0).toNat : Int), .int .u8 ((x2.getD 12 0).toNat : Int), .int .u8 ((x2.getD 13 0).toNat : Int), .int .u8 ((x2.getD 14 0).toNat : Int), .int .u8 ((x2.getD 15 0).toNat : Int)]) size27 rfl rfl h1 (by first | (simp; done) | omega | (dsimp only; omega)) (CellsOf.lit rfl rfl) rfl (by first | rfl | (simp; done) | (simp; omega)) rfl ?_
 intro s5 st5 h1
 have szs5 := st5.size
 have hS := hS.c0 st5
 refine k_nil ?_
 refine k_keep [(2, _)] ⟨rfl, trivial⟩ ?_
 refine k_ret ?_
 obtain rfl := Option.some.inj h
 refine ⟨[.agg [.int .u8 ((x2.getD 0 0).toNat : Int), .int .u8 ((x2.getD 1 0).toNat : Int), .int .u8 ((x2.getD 2 0).toNat : Int), .int .u8 ((x2.getD 3 0).toNat : Int), .int .u8 ((x2.getD 4 0).toNat : Int), .int .u8 ((x2.getD 5 0).toNat : Int), .int .u8 ((x2.getD 6 0).toNat : Int), .int .u8 ((x2.getD 7 0).toNat : Int), .int .u8 ((x2.getD 8 0).toNat : Int), .int .u8 ((x2.getD 9 0).toNat : Int), .int .u8 ((x2.getD 10 0).toNat : Int), .int .u8 ((x2.getD 11 0).toNat : Int), .int .u8 ((x2.getD 12 0).toNat : Int), .int .u8 ((x2.getD 13 0).toNat : Int), .int .u8 ((x2.getD 14 0).toNat : Int), .int .u8 ((x2.getD 15 0).toNat : Int)].toArray], ⟨res_blk (cs := [.int .u8 ((x2.getD 0 0).toNat : Int), .int .u8 ((x2.getD 1 0).toNat : Int), .int .u8 ((x2.getD 2 0).toNat : Int), .int .u8 ((x2.getD 3 0).toNat : Int), .int .u8 ((x2.getD 4 0).toNat : Int), .int .u8 ((x2.getD 5 0).toNat : Int), .int .u8 ((x2.getD 6 0).toNat : Int), .int .u8 ((x2.getD 7 0).toNat : Int), .int .u8 ((x2.getD 8 0).toNat : Int), .int .u8 ((x2.getD 9 0).toNat : Int), .int .u8 ((x2.getD 10 0).toNat : Int), .int .u8 ((x2.getD 11 0).toNat : Int), .int .u8 ((x2.getD 12 0).toNat : Int), .int .u8 ((x2.getD 13 0).toNat : Int), .int .u8 ((x2.getD 14 0).toNat : Int), .int .u8 ((x2.getD 15 0).toNat : Int)]) rfl agg27 h1, trivial⟩, Ret.mk hS ?_⟩
 exact ⟨_, rfl, (clsSt27 (⟨(x2.getD 0 0), (x2.getD 1 0), (x2.getD 2 0), (x2.getD 3 0), (x2.getD 4 0), (x2.getD 5 0), (x2.getD 6 0), (x2.getD 7 0), (x2.getD 8 0), (x2.getD 9 0), (x2.getD 10 0), (x2.getD 11 0), (x2.getD 12 0), (x2.getD 13 0), (x2.getD 14 0), (x2.getD 15 0)⟩ : St27))⟩

set_option maxHeartbeats 20000000 in
set_option maxRecDepth 100000 in
theorem rev_Make_w {s : St} {cs0 : List Value} {a0 : ApiRev} {a1 : Int} {cs2 : List Value} {a2 : ApiValue} {r : (ApiRev × Int)} (hp0 : RC s cs0 (dApiRev a0)) (hp2 : RC s cs2 (dApiValue a2)) (tb2 : Tab2 s) (h : rev_Make a0 a1 a2 = some r) : Calls Tryd.prog 11 #[.agg cs0.toArray, .int .i64 a1, .agg cs2.toArray] s.w (Ret s K0 (fun s1 v => ∃ (u0 : List Value), v = .tuple #[.agg u0.toArray, .int .i64 r.2] ∧ RC s1 u0 (dApiRev r.1))) := by
 unfold rev_Make at h
 obtain rfl := opnApiRev hp0
 obtain ⟨q2_0, q2_1, rfl, hq2_0, hq2_1⟩ := opnApiValue hp2
 have hS := Step.r0 K0 s
 refine k_fn_c (rs := [.cell 6 29, .tmp 7]) (args := [.agg #[.int .u64 (a0.Gen.toNat : Int), .int .u8 (a0.Sum.e0.toNat : Int), .int .u8 (a0.Sum.e1.toNat : Int), .int .u8 (a0.Sum.e2.toNat : Int), .int .u8 (a0.Sum.e3.toNat : Int), .int .u8 (a0.Sum.e4.toNat : Int), .int .u8 (a0.Sum.e5.toNat : Int), .int .u8 (a0.Sum.e6.toNat : Int), .int .u8 (a0.Sum.e7.toNat : Int), .int .u8 (a0.Sum.e8.toNat : Int), .int .u8 (a0.Sum.e9.toNat : Int), .int .u8 (a0.Sum.e10.toNat : Int), .int .u8 (a0.Sum.e11.toNat : Int), .int .u8 (a0.Sum.e12.toNat : Int), .int .u8 (a0.Sum.e13.toNat : Int), .int .u8 (a0.Sum.e14.toNat : Int), .int .u8 (a0.Sum.e15.toNat : Int)], .int .i64 a1, .agg #[.int .i64 a2.Kind, .int .i64 a2.Num, S a2.Text, q2_0, q2_1]]) Tryd.func11 rfl rfl rfl rfl ?_
 refine k_seq ?_
 refine k_region ?_
 refine k_box rfl rfl ?_
 intro s1 b1 st1 h1 ge1
 have szs1 := st1.size
 have hS := hS.trans0 st1
 replace hq2_0 := hq2_0.up2 st1
 replace hq2_1 := hq2_1.up2 st1
 replace tb2 := tb2.up2 st1
 have lt1 := h1.lt
 refine k_box rfl rfl ?_
 intro s2 b2 st2 h2 ge2
 have szs2 := st2.size
 have hS := hS.trans0 st2
 replace hq2_0 := hq2_0.up2 st2
 replace hq2_1 := hq2_1.up2 st2
 replace h1 := h1.up2 st2
 replace tb2 := tb2.up2 st2
 have lt2 := h2.lt
 refine k_alloc zero29 rfl ?_
 intro s3 b3 st3 h3 ge3
 have szs3 := st3.size
 have hS := hS.trans0 st3
 replace hq2_0 := hq2_0.up2 st3
 replace hq2_1 := hq2_1.up2 st3
 replace h1 := h1.up2 st3
 replace h2 := h2.up2 st3
 replace tb2 := tb2.up2 st3
 have lt3 := h3.lt
 refine k_assign rfl rfl ?_
 refine k_nil ?_
 refine k_keep [(1, _), (3, _), (5, _), (6, _), (7, _)] ⟨rfl, rfl, rfl, rfl, rfl, trivial⟩ ?_
 refine k_seq ?_
 refine k_region ?_
 refine k_load_blka (cs := [.int .i64 a2.Kind, .int .i64 a2.Num, S a2.Text, q2_0, q2_1]) agg34 rfl h2 rfl ?_
 obtain ⟨x1, hx1, h⟩ := ob h
 refine k_call cal20 rfl (value_Print_w  (clsApiValue a2 hq2_0 hq2_1) tb2 hx1) rfl ?_
 rintro s4 vr4 st4 rfl
 have szs4 := st4.size
 have hS := hS.trans0 st4
 replace h1 := h1.up2 st4
 replace h3 := h3.up2 st4
 refine k_move rfl rfl ?_
 refine k_extract rfl rfl rfl ?_
 refine k_extract rfl rfl rfl ?_
 refine k_assign rfl rfl ?_
 refine k_assign rfl rfl ?_
 refine k_nil ?_
 refine k_keep [(1, _), (3, _), (6, _), (7, _), (8, _), (9, _)] ⟨rfl, rfl, rfl, rfl, rfl, rfl, trivial⟩ ?_
 refine k_seq ?_
 refine k_block ?_
 refine k_seq ?_
 refine k_region ?_
 refine k_load_blka (cs := [.int .u64 (a0.Gen.toNat : Int), .int .u8 (a0.Sum.e0.toNat : Int), .int .u8 (a0.Sum.e1.toNat : Int), .int .u8 (a0.Sum.e2.toNat : Int), .int .u8 (a0.Sum.e3.toNat : Int), .int .u8 (a0.Sum.e4.toNat : Int), .int .u8 (a0.Sum.e5.toNat : Int), .int .u8 (a0.Sum.e6.toNat : Int), .int .u8 (a0.Sum.e7.toNat : Int), .int .u8 (a0.Sum.e8.toNat : Int), .int .u8 (a0.Sum.e9.toNat : Int), .int .u8 (a0.Sum.e10.toNat : Int), .int .u8 (a0.Sum.e11.toNat : Int), .int .u8 (a0.Sum.e12.toNat : Int), .int .u8 (a0.Sum.e13.toNat : Int), .int .u8 (a0.Sum.e14.toNat : Int), .int .u8 (a0.Sum.e15.toNat : Int)]) agg29 rfl h1 rfl ?_
 refine k_build plc29 zero29 rfl Parts.nil (by rfl) rfl ?_
 refine k_as (v := .agg #[.int .u64 0, .int .u8 0, .int .u8 0, .int .u8 0, .int .u8 0, .int .u8 0, .int .u8 0, .int .u8 0, .int .u8 0, .int .u8 0, .int .u8 0, .int .u8 0, .int .u8 0, .int .u8 0, .int .u8 0, .int .u8 0, .int .u8 0]) rfl ?_
 refine k_neq_fb (a := (a0.Gen.toNat : Int)) (b := 0) (xs := ([a0.Sum.e0, a0.Sum.e1, a0.Sum.e2, a0.Sum.e3, a0.Sum.e4, a0.Sum.e5, a0.Sum.e6, a0.Sum.e7, a0.Sum.e8, a0.Sum.e9, a0.Sum.e10, a0.Sum.e11, a0.Sum.e12, a0.Sum.e13, a0.Sum.e14, a0.Sum.e15] : List UInt8)) (ys := ([(0 : UInt8), (0 : UInt8), (0 : UInt8), (0 : UInt8), (0 : UInt8), (0 : UInt8), (0 : UInt8), (0 : UInt8), (0 : UInt8), (0 : UInt8), (0 : UInt8), (0 : UInt8), (0 : UInt8), (0 : UInt8), (0 : UInt8), (0 : UInt8)] : List UInt8)) flatB29 rfl rfl rfl rfl rfl ?_
 refine k_move rfl rfl ?_
 obtain ⟨x2, hx2, h⟩ := ob h
 have hE5 := Step.r0 K0 s4
 refine k_cutl (X := St) 4 [(1, .int .i64 a1), (3, .pointer (some ⟨b1, 0, none⟩)), (6, .pointer (some ⟨b3, 0, none⟩)), (7, .int .i64 0), (8, S x1.1), (9, .int .i64 x1.2), (18, .agg #[.int .u64 (a0.Gen.toNat : Int), .int .u8 (a0.Sum.e0.toNat : Int), .int .u8 (a0.Sum.e1.toNat : Int), .int .u8 (a0.Sum.e2.toNat : Int), .int .u8 (a0.Sum.e3.toNat : Int), .int .u8 (a0.Sum.e4.toNat : Int), .int .u8 (a0.Sum.e5.toNat : Int), .int .u8 (a0.Sum.e6.toNat : Int), .int .u8 (a0.Sum.e7.toNat : Int), .int .u8 (a0.Sum.e8.toNat : Int), .int .u8 (a0.Sum.e9.toNat : Int), .int .u8 (a0.Sum.e10.toNat : Int), .int .u8 (a0.Sum.e11.toNat : Int), .int .u8 (a0.Sum.e12.toNat : Int), .int .u8 (a0.Sum.e13.toNat : Int), .int .u8 (a0.Sum.e14.toNat : Int), .int .u8 (a0.Sum.e15.toNat : Int)]), (19, .agg #[.int .u64 0, .int .u8 0, .int .u8 0, .int .u8 0, .int .u8 0, .int .u8 0, .int .u8 0, .int .u8 0, .int .u8 0, .int .u8 0, .int .u8 0, .int .u8 0, .int .u8 0, .int .u8 0, .int .u8 0, .int .u8 0, .int .u8 0]), (20, .bool (decide (¬ ((a0.Gen.toNat : Int) = 0 ∧ ([a0.Sum.e0, a0.Sum.e1, a0.Sum.e2, a0.Sum.e3, a0.Sum.e4, a0.Sum.e5, a0.Sum.e6, a0.Sum.e7, a0.Sum.e8, a0.Sum.e9, a0.Sum.e10, a0.Sum.e11, a0.Sum.e12, a0.Sum.e13, a0.Sum.e14, a0.Sum.e15] : List UInt8) = ([(0 : UInt8), (0 : UInt8), (0 : UInt8), (0 : UInt8), (0 : UInt8), (0 : UInt8), (0 : UInt8), (0 : UInt8), (0 : UInt8), (0 : UInt8), (0 : UInt8), (0 : UInt8), (0 : UInt8), (0 : UInt8), (0 : UInt8), (0 : UInt8)] : List UInt8)))))] (fun _ => [(25, .bool x2)]) (fun sl wL => sl.w = wL ∧ Step K0 s4 sl) ?_ ?_
 ·
  refine k_again 21 rfl ?_
  refine k_split (fun c6 => ?_) (fun c6 => ?_)
  ·
   have hx2 := itT hx2 c6
   refine k_yes rfl rfl ?_
   refine k_load_blka (cs := [.int .u64 (a0.Gen.toNat : Int), .int .u8 (a0.Sum.e0.toNat : Int), .int .u8 (a0.Sum.e1.toNat : Int), .int .u8 (a0.Sum.e2.toNat : Int), .int .u8 (a0.Sum.e3.toNat : Int), .int .u8 (a0.Sum.e4.toNat : Int), .int .u8 (a0.Sum.e5.toNat : Int), .int .u8 (a0.Sum.e6.toNat : Int), .int .u8 (a0.Sum.e7.toNat : Int), .int .u8 (a0.Sum.e8.toNat : Int), .int .u8 (a0.Sum.e9.toNat : Int), .int .u8 (a0.Sum.e10.toNat : Int), .int .u8 (a0.Sum.e11.toNat : Int), .int .u8 (a0.Sum.e12.toNat : Int), .int .u8 (a0.Sum.e13.toNat : Int), .int .u8 (a0.Sum.e14.toNat : Int), .int .u8 (a0.Sum.e15.toNat : Int)]) agg29 rfl h1 rfl ?_
   refine k_yes rfl rfl ?_
   obtain ⟨x3, hx3, hx2⟩ := ob hx2
   refine k_call cal13 rfl (rev_May_w  (clsApiRev a0) hx3) rfl ?_
   rintro s7 vr7 st7 rfl
   have szs7 := st7.size
   have hS := hS.trans0 st7
   have hE5 := hE5.trans0 st7
   refine k_yes rfl rfl ?_
   refine k_not rfl rfl ?_
   refine k_pickT rfl rfl rfl rfl ?_
   exact k_met ⟨s7, ⟨(congrArg (fun b => some (Value.bool b)) (Option.some.inj hx2)), trivial⟩, ⟨rfl, rfl, rfl, rfl, rfl, rfl, rfl, rfl, rfl, trivial⟩, rfl, hE5⟩
  ·
   have hx2 := itF hx2 c6
   refine k_no rfl rfl rfl rfl ?_
   refine k_no rfl rfl rfl rfl ?_
   refine k_no rfl rfl rfl rfl ?_
   refine k_pickF rfl rfl rfl rfl ?_
   exact k_met ⟨s4, ⟨(congrArg (fun b => some (Value.bool b)) (Option.some.inj hx2)), trivial⟩, ⟨rfl, rfl, rfl, rfl, rfl, rfl, rfl, rfl, rfl, trivial⟩, rfl, hE5⟩
 ·
  rintro s8 wL ⟨rfl, hE5⟩
  have szs8 := hE5.size
  have hS := hS.trans0 hE5
  replace h1 := h1.up2 hE5
  replace h3 := h3.up2 hE5
  refine k_move rfl rfl ?_
  have hE9 := Step.r0 K0 s8
  refine k_cutl (X := St) 7 [(1, .int .i64 a1), (3, .pointer (some ⟨b1, 0, none⟩)), (6, .pointer (some ⟨b3, 0, none⟩)), (7, .int .i64 0), (8, S x1.1), (9, .int .i64 x1.2), (18, .agg #[.int .u64 (a0.Gen.toNat : Int), .int .u8 (a0.Sum.e0.toNat : Int), .int .u8 (a0.Sum.e1.toNat : Int), .int .u8 (a0.Sum.e2.toNat : Int), .int .u8 (a0.Sum.e3.toNat : Int), .int .u8 (a0.Sum.e4.toNat : Int), .int .u8 (a0.Sum.e5.toNat : Int), .int .u8 (a0.Sum.e6.toNat : Int), .int .u8 (a0.Sum.e7.toNat : Int), .int .u8 (a0.Sum.e8.toNat : Int), .int .u8 (a0.Sum.e9.toNat : Int), .int .u8 (a0.Sum.e10.toNat : Int), .int .u8 (a0.Sum.e11.toNat : Int), .int .u8 (a0.Sum.e12.toNat : Int), .int .u8 (a0.Sum.e13.toNat : Int), .int .u8 (a0.Sum.e14.toNat : Int), .int .u8 (a0.Sum.e15.toNat : Int)]), (19, .agg #[.int .u64 0, .int .u8 0, .int .u8 0, .int .u8 0, .int .u8 0, .int .u8 0, .int .u8 0, .int .u8 0, .int .u8 0, .int .u8 0, .int .u8 0, .int .u8 0, .int .u8 0, .int .u8 0, .int .u8 0, .int .u8 0, .int .u8 0]), (20, .bool (decide (¬ ((a0.Gen.toNat : Int) = 0 ∧ ([a0.Sum.e0, a0.Sum.e1, a0.Sum.e2, a0.Sum.e3, a0.Sum.e4, a0.Sum.e5, a0.Sum.e6, a0.Sum.e7, a0.Sum.e8, a0.Sum.e9, a0.Sum.e10, a0.Sum.e11, a0.Sum.e12, a0.Sum.e13, a0.Sum.e14, a0.Sum.e15] : List UInt8) = ([(0 : UInt8), (0 : UInt8), (0 : UInt8), (0 : UInt8), (0 : UInt8), (0 : UInt8), (0 : UInt8), (0 : UInt8), (0 : UInt8), (0 : UInt8), (0 : UInt8), (0 : UInt8), (0 : UInt8), (0 : UInt8), (0 : UInt8), (0 : UInt8)] : List UInt8))))), (25, .bool x2)] (fun _ => [(33, .bool (decide ((x2 = true) ∨ ((a1 ≠ 0) ∧ (a1 ≠ 1)))))]) (fun sl wL => sl.w = wL ∧ Step K0 s8 sl) ?_ ?_
  ·
   refine k_again 26 rfl ?_
   refine k_splitb (fun c10 => ?_) (fun c10 => ?_)
   ·
    refine k_no rfl rfl rfl rfl ?_
    refine k_no rfl rfl rfl rfl ?_
    refine k_no rfl rfl rfl rfl ?_
    refine k_nou rfl rfl rfl rfl ?_
    refine k_nou rfl rfl rfl rfl ?_
    refine k_no rfl rfl rfl rfl ?_
    refine k_pickT rfl rfl rfl rfl ?_
    exact k_met ⟨s8, ⟨(congrArg (fun b => some (Value.bool b)) (by first | exact decide_eq_decide.2 ⟨Or.inr, fun h => h.resolve_left c10⟩ | exact (decide_eq_true (Or.inl c10)).symm | (simp [c10]; done) | exact dec_andT c10 | exact dec_andF c10 | exact dec_orF c10 | exact dec_orT c10 | (simp [c10, i64] <;> omega))), trivial⟩, ⟨rfl, rfl, rfl, rfl, rfl, rfl, rfl, rfl, rfl, rfl, trivial⟩, rfl, hE9⟩
   ·
    refine k_yes rfl rfl ?_
    refine k_move rfl rfl ?_
    refine k_yes rfl rfl ?_
    refine k_neq rfl rfl rfl ?_
    refine k_yes rfl rfl ?_
    refine k_move rfl rfl ?_
    have hE11 := Step.r0 K0 s8
    refine k_cutl (X := St) 3 [(1, .int .i64 a1), (3, .pointer (some ⟨b1, 0, none⟩)), (6, .pointer (some ⟨b3, 0, none⟩)), (7, .int .i64 0), (8, S x1.1), (9, .int .i64 x1.2), (18, .agg #[.int .u64 (a0.Gen.toNat : Int), .int .u8 (a0.Sum.e0.toNat : Int), .int .u8 (a0.Sum.e1.toNat : Int), .int .u8 (a0.Sum.e2.toNat : Int), .int .u8 (a0.Sum.e3.toNat : Int), .int .u8 (a0.Sum.e4.toNat : Int), .int .u8 (a0.Sum.e5.toNat : Int), .int .u8 (a0.Sum.e6.toNat : Int), .int .u8 (a0.Sum.e7.toNat : Int), .int .u8 (a0.Sum.e8.toNat : Int), .int .u8 (a0.Sum.e9.toNat : Int), .int .u8 (a0.Sum.e10.toNat : Int), .int .u8 (a0.Sum.e11.toNat : Int), .int .u8 (a0.Sum.e12.toNat : Int), .int .u8 (a0.Sum.e13.toNat : Int), .int .u8 (a0.Sum.e14.toNat : Int), .int .u8 (a0.Sum.e15.toNat : Int)]), (19, .agg #[.int .u64 0, .int .u8 0, .int .u8 0, .int .u8 0, .int .u8 0, .int .u8 0, .int .u8 0, .int .u8 0, .int .u8 0, .int .u8 0, .int .u8 0, .int .u8 0, .int .u8 0, .int .u8 0, .int .u8 0, .int .u8 0, .int .u8 0]), (20, .bool (decide (¬ ((a0.Gen.toNat : Int) = 0 ∧ ([a0.Sum.e0, a0.Sum.e1, a0.Sum.e2, a0.Sum.e3, a0.Sum.e4, a0.Sum.e5, a0.Sum.e6, a0.Sum.e7, a0.Sum.e8, a0.Sum.e9, a0.Sum.e10, a0.Sum.e11, a0.Sum.e12, a0.Sum.e13, a0.Sum.e14, a0.Sum.e15] : List UInt8) = ([(0 : UInt8), (0 : UInt8), (0 : UInt8), (0 : UInt8), (0 : UInt8), (0 : UInt8), (0 : UInt8), (0 : UInt8), (0 : UInt8), (0 : UInt8), (0 : UInt8), (0 : UInt8), (0 : UInt8), (0 : UInt8), (0 : UInt8), (0 : UInt8)] : List UInt8))))), (25, .bool x2), (26, .bool false), (27, .int .i64 a1), (28, .bool (decide (a1 ≠ 0)))] (fun _ => [(32, .bool (decide ((a1 ≠ 0) ∧ (a1 ≠ 1))))]) (fun sl wL => sl.w = wL ∧ Step K0 s8 sl) ?_ ?_
    ·
     refine k_again 29 rfl ?_
     refine k_split (fun c12 => ?_) (fun c12 => ?_)
     ·
      refine k_yes rfl rfl ?_
      refine k_move rfl rfl ?_
      refine k_yes rfl rfl ?_
      refine k_neq rfl rfl rfl ?_
      refine k_yes rfl rfl ?_
      refine k_pickT rfl rfl rfl rfl ?_
      exact k_met ⟨s8, ⟨(congrArg (fun b => some (Value.bool b)) (by first | exact decide_eq_decide.2 ⟨fun h => ⟨c12, h⟩, fun h => h.2⟩ | exact (decide_eq_false (fun h => c12 h.1)).symm | (simp [c12]; done) | exact dec_andT c12 | exact dec_andF c12 | exact dec_orF c12 | exact dec_orT c12 | (simp [c12, i64] <;> omega))), trivial⟩, ⟨rfl, rfl, rfl, rfl, rfl, rfl, rfl, rfl, rfl, rfl, rfl, rfl, rfl, trivial⟩, rfl, hE11⟩
     ·
      refine k_no rfl rfl rfl rfl ?_
      refine k_no rfl rfl rfl rfl ?_
      refine k_yes rfl rfl ?_
      refine k_pickF rfl rfl rfl rfl ?_
      exact k_met ⟨s8, ⟨(congrArg (fun b => some (Value.bool b)) (by first | exact decide_eq_decide.2 ⟨fun h => ⟨c12, h⟩, fun h => h.2⟩ | exact (decide_eq_false (fun h => c12 h.1)).symm | (simp [c12]; done) | exact dec_andT c12 | exact dec_andF c12 | exact dec_orF c12 | exact dec_orT c12 | (simp [c12, i64] <;> omega))), trivial⟩, ⟨rfl, rfl, rfl, rfl, rfl, rfl, rfl, rfl, rfl, rfl, rfl, rfl, rfl, trivial⟩, rfl, hE11⟩
    ·
     rintro s13 wL ⟨rfl, hE11⟩
     have szs13 := hE11.size
     have hS := hS.trans0 hE11
     have hE9 := hE9.trans0 hE11
     refine k_pickF rfl rfl rfl rfl ?_
     exact k_met ⟨s13, ⟨(congrArg (fun b => some (Value.bool b)) (by first | exact decide_eq_decide.2 ⟨Or.inr, fun h => h.resolve_left c10⟩ | exact (decide_eq_true (Or.inl c10)).symm | (simp [c10]; done) | exact dec_andT c10 | exact dec_andF c10 | exact dec_orF c10 | exact dec_orT c10 | (simp [c10, i64] <;> omega))), trivial⟩, ⟨rfl, rfl, rfl, rfl, rfl, rfl, rfl, rfl, rfl, rfl, trivial⟩, rfl, hE9⟩
  ·
   rintro s14 wL ⟨rfl, hE9⟩
   have szs14 := hE9.size
   have hS := hS.trans0 hE9
   replace h1 := h1.up2 hE9
   replace h3 := h3.up2 hE9
   refine k_move rfl rfl ?_
   have hE15 := Step.r0 K0 s14
   refine k_cutl (X := St) 3 [(1, .int .i64 a1), (3, .pointer (some ⟨b1, 0, none⟩)), (6, .pointer (some ⟨b3, 0, none⟩)), (7, .int .i64 0), (8, S x1.1), (9, .int .i64 x1.2), (18, .agg #[.int .u64 (a0.Gen.toNat : Int), .int .u8 (a0.Sum.e0.toNat : Int), .int .u8 (a0.Sum.e1.toNat : Int), .int .u8 (a0.Sum.e2.toNat : Int), .int .u8 (a0.Sum.e3.toNat : Int), .int .u8 (a0.Sum.e4.toNat : Int), .int .u8 (a0.Sum.e5.toNat : Int), .int .u8 (a0.Sum.e6.toNat : Int), .int .u8 (a0.Sum.e7.toNat : Int), .int .u8 (a0.Sum.e8.toNat : Int), .int .u8 (a0.Sum.e9.toNat : Int), .int .u8 (a0.Sum.e10.toNat : Int), .int .u8 (a0.Sum.e11.toNat : Int), .int .u8 (a0.Sum.e12.toNat : Int), .int .u8 (a0.Sum.e13.toNat : Int), .int .u8 (a0.Sum.e14.toNat : Int), .int .u8 (a0.Sum.e15.toNat : Int)]), (19, .agg #[.int .u64 0, .int .u8 0, .int .u8 0, .int .u8 0, .int .u8 0, .int .u8 0, .int .u8 0, .int .u8 0, .int .u8 0, .int .u8 0, .int .u8 0, .int .u8 0, .int .u8 0, .int .u8 0, .int .u8 0, .int .u8 0, .int .u8 0]), (20, .bool (decide (¬ ((a0.Gen.toNat : Int) = 0 ∧ ([a0.Sum.e0, a0.Sum.e1, a0.Sum.e2, a0.Sum.e3, a0.Sum.e4, a0.Sum.e5, a0.Sum.e6, a0.Sum.e7, a0.Sum.e8, a0.Sum.e9, a0.Sum.e10, a0.Sum.e11, a0.Sum.e12, a0.Sum.e13, a0.Sum.e14, a0.Sum.e15] : List UInt8) = ([(0 : UInt8), (0 : UInt8), (0 : UInt8), (0 : UInt8), (0 : UInt8), (0 : UInt8), (0 : UInt8), (0 : UInt8), (0 : UInt8), (0 : UInt8), (0 : UInt8), (0 : UInt8), (0 : UInt8), (0 : UInt8), (0 : UInt8), (0 : UInt8)] : List UInt8))))), (25, .bool x2), (33, .bool (decide ((x2 = true) ∨ ((a1 ≠ 0) ∧ (a1 ≠ 1)))))] (fun _ => [(37, .bool (decide (((x2 = true) ∨ ((a1 ≠ 0) ∧ (a1 ≠ 1))) ∨ (x1.2 ≠ 0))))]) (fun sl wL => sl.w = wL ∧ Step K0 s14 sl) ?_ ?_
   ·
    refine k_again 34 rfl ?_
    refine k_split (fun c16 => ?_) (fun c16 => ?_)
    ·
     refine k_no rfl rfl rfl rfl ?_
     refine k_no rfl rfl rfl rfl ?_
     refine k_pickT rfl rfl rfl rfl ?_
     exact k_met ⟨s14, ⟨(congrArg (fun b => some (Value.bool b)) (by first | exact decide_eq_decide.2 ⟨Or.inr, fun h => h.resolve_left c16⟩ | exact (decide_eq_true (Or.inl c16)).symm | (simp [c16]; done) | exact dec_andT c16 | exact dec_andF c16 | exact dec_orF c16 | exact dec_orT c16 | (simp [c16, i64] <;> omega))), trivial⟩, ⟨rfl, rfl, rfl, rfl, rfl, rfl, rfl, rfl, rfl, rfl, rfl, trivial⟩, rfl, hE15⟩
    ·
     refine k_yes rfl rfl ?_
     refine k_move rfl rfl ?_
     refine k_yes rfl rfl ?_
     refine k_neq rfl rfl rfl ?_
     refine k_pickF rfl rfl rfl rfl ?_
     exact k_met ⟨s14, ⟨(congrArg (fun b => some (Value.bool b)) (by first | exact decide_eq_decide.2 ⟨Or.inr, fun h => h.resolve_left c16⟩ | exact (decide_eq_true (Or.inl c16)).symm | (simp [c16]; done) | exact dec_andT c16 | exact dec_andF c16 | exact dec_orF c16 | exact dec_orT c16 | (simp [c16, i64] <;> omega))), trivial⟩, ⟨rfl, rfl, rfl, rfl, rfl, rfl, rfl, rfl, rfl, rfl, rfl, trivial⟩, rfl, hE15⟩
   ·
    rintro s17 wL ⟨rfl, hE15⟩
    have szs17 := hE15.size
    have hS := hS.trans0 hE15
    replace h1 := h1.up2 hE15
    replace h3 := h3.up2 hE15
    refine k_assign rfl rfl ?_
    refine k_nil ?_
    refine k_keep [(1, _), (3, _), (6, _), (7, _), (8, _), (17, _)] ⟨rfl, rfl, rfl, rfl, rfl, rfl, trivial⟩ ?_
    refine k_cond_dec rfl (fun c18 => ?_) (fun c18 => ?_)
    ·
     have h := itT h c18
     refine k_seq ?_
     refine k_region ?_
     refine k_build plc29 zero29 rfl Parts.nil (by rfl) rfl ?_
     refine k_as (v := .agg #[.int .u64 0, .int .u8 0, .int .u8 0, .int .u8 0, .int .u8 0, .int .u8 0, .int .u8 0, .int .u8 0, .int .u8 0, .int .u8 0, .int .u8 0, .int .u8 0, .int .u8 0, .int .u8 0, .int .u8 0, .int .u8 0, .int .u8 0]) rfl ?_
     refine k_store_c (cs' := [.int .u64 0, .int .u8 0, .int .u8 0, .int .u8 0, .int .u8 0, .int .u8 0, .int .u8 0, .int .u8 0, .int .u8 0, .int .u8 0, .int .u8 0, .int .u8 0, .int .u8 0, .int .u8 0, .int .u8 0, .int .u8 0, .int .u8 0]) size29 rfl rfl h3 (by first | (simp; done) | omega | (dsimp only; omega)) (CellsOf.lit rfl rfl) rfl (by first | rfl | (simp; done) | (simp; omega)) rfl ?_
     intro s19 st19 h3
     have szs19 := st19.size
     have hS := hS.c0 st19
     refine k_assign rfl rfl ?_
     refine k_nil ?_
     refine k_keep [(1, _), (3, _), (6, _), (7, _), (8, _)] ⟨rfl, rfl, rfl, rfl, rfl, trivial⟩ ?_
     refine k_ret ?_
     obtain rfl := Option.some.inj h
     refine ⟨[.agg [.int .u64 0, .int .u8 0, .int .u8 0, .int .u8 0, .int .u8 0, .int .u8 0, .int .u8 0, .int .u8 0, .int .u8 0, .int .u8 0, .int .u8 0, .int .u8 0, .int .u8 0, .int .u8 0, .int .u8 0, .int .u8 0, .int .u8 0].toArray, .int .i64 1], ⟨res_blk (cs := [.int .u64 0, .int .u8 0, .int .u8 0, .int .u8 0, .int .u8 0, .int .u8 0, .int .u8 0, .int .u8 0, .int .u8 0, .int .u8 0, .int .u8 0, .int .u8 0, .int .u8 0, .int .u8 0, .int .u8 0, .int .u8 0, .int .u8 0]) rfl agg29 h3, rfl, trivial⟩, Ret.mk hS ?_⟩
     exact ⟨_, rfl, (clsApiRev (⟨(0 : UInt64), (⟨(0 : UInt8), (0 : UInt8), (0 : UInt8), (0 : UInt8), (0 : UInt8), (0 : UInt8), (0 : UInt8), (0 : UInt8), (0 : UInt8), (0 : UInt8), (0 : UInt8), (0 : UInt8), (0 : UInt8), (0 : UInt8), (0 : UInt8), (0 : UInt8)⟩ : St27)⟩ : ApiRev))⟩
    ·
     have h := itF h c18
     refine k_seq ?_
     refine k_region ?_
     refine k_field_addr fld29_0 rfl rfl ?_
     refine k_load_blk one26 rfl h1 rfl rfl ?_
     refine k_eql rfl rfl rfl ?_
     refine k_assign rfl rfl ?_
     refine k_nil ?_
     refine k_keep [(1, _), (3, _), (6, _), (7, _), (8, _), (39, _)] ⟨rfl, rfl, rfl, rfl, rfl, rfl, trivial⟩ ?_
     refine k_cond_dec rfl (fun c20 => ?_) (fun c20 => ?_)
     ·
      have h := itT h c20
      refine k_seq ?_
      refine k_region ?_
      refine k_build plc29 zero29 rfl Parts.nil (by rfl) rfl ?_
      refine k_as (v := .agg #[.int .u64 0, .int .u8 0, .int .u8 0, .int .u8 0, .int .u8 0, .int .u8 0, .int .u8 0, .int .u8 0, .int .u8 0, .int .u8 0, .int .u8 0, .int .u8 0, .int .u8 0, .int .u8 0, .int .u8 0, .int .u8 0, .int .u8 0]) rfl ?_
      refine k_store_c (cs' := [.int .u64 0, .int .u8 0, .int .u8 0, .int .u8 0, .int .u8 0, .int .u8 0, .int .u8 0, .int .u8 0, .int .u8 0, .int .u8 0, .int .u8 0, .int .u8 0, .int .u8 0, .int .u8 0, .int .u8 0, .int .u8 0, .int .u8 0]) size29 rfl rfl h3 (by first | (simp; done) | omega | (dsimp only; omega)) (CellsOf.lit rfl rfl) rfl (by first | rfl | (simp; done) | (simp; omega)) rfl ?_
      intro s21 st21 h3
      have szs21 := st21.size
      have hS := hS.c0 st21
      refine k_assign rfl rfl ?_
      refine k_nil ?_
      refine k_keep [(1, _), (3, _), (6, _), (7, _), (8, _)] ⟨rfl, rfl, rfl, rfl, rfl, trivial⟩ ?_
      refine k_ret ?_
      obtain rfl := Option.some.inj h
      refine ⟨[.agg [.int .u64 0, .int .u8 0, .int .u8 0, .int .u8 0, .int .u8 0, .int .u8 0, .int .u8 0, .int .u8 0, .int .u8 0, .int .u8 0, .int .u8 0, .int .u8 0, .int .u8 0, .int .u8 0, .int .u8 0, .int .u8 0, .int .u8 0].toArray, .int .i64 11], ⟨res_blk (cs := [.int .u64 0, .int .u8 0, .int .u8 0, .int .u8 0, .int .u8 0, .int .u8 0, .int .u8 0, .int .u8 0, .int .u8 0, .int .u8 0, .int .u8 0, .int .u8 0, .int .u8 0, .int .u8 0, .int .u8 0, .int .u8 0, .int .u8 0]) rfl agg29 h3, rfl, trivial⟩, Ret.mk hS ?_⟩
      exact ⟨_, rfl, (clsApiRev (⟨(0 : UInt64), (⟨(0 : UInt8), (0 : UInt8), (0 : UInt8), (0 : UInt8), (0 : UInt8), (0 : UInt8), (0 : UInt8), (0 : UInt8), (0 : UInt8), (0 : UInt8), (0 : UInt8), (0 : UInt8), (0 : UInt8), (0 : UInt8), (0 : UInt8), (0 : UInt8)⟩ : St27)⟩ : ApiRev))⟩
     ·
      have h := itF h c20
      refine k_skip ?_
      refine k_blk ?_
      refine k_seq ?_
      refine k_region ?_
      refine k_move rfl rfl ?_
      refine k_conv (p := a1) Tryd.underlying3 Tryd.underlying5 rfl rfl ?_
      refine k_as (congrArg (Value.int .u8) (w8 _)) ?_
      refine k_bslice2 (ds := ([ofI8 a1] : List UInt8).map bD) slc51 rfl (RVs.cons (R.val rfl) RVs.nil) (by rfl) (by rfl) rfl rfl ?_
      intro s22 v22 b22 st22 ge22 bl22 h22
      have szs22 := st22.size
      have hS := hS.trans0 st22
      replace h1 := h1.up2 st22
      replace h3 := h3.up2 st22
      have lt22 := Own.le1 h22
      refine k_assign rfl rfl ?_
      refine k_nil ?_
      refine k_keep [(3, _), (6, _), (7, _), (8, _), (10, _)] ⟨rfl, rfl, rfl, rfl, rfl, trivial⟩ ?_
      refine k_seq ?_
      obtain ⟨kj4, hK23, h⟩ := jn_out h
      have hE23 := Step.r0 (KC (b22 + 1) 0) s22
      refine k_cutc (X := St × (List UInt8) × Value) [(3, .pointer (some ⟨b1, 0, none⟩)), (6, .pointer (some ⟨b3, 0, none⟩)), (7, .int .i64 0), (8, S x1.1)] (fun (xL : St × (List UInt8) × Value) => match xL with | (sl, x5, v24) => [(10, v24)]) (fun (xL : St × (List UInt8) × Value) (wL : World) => match xL with | (sl, x5, v24) => sl.w = wL ∧ Step (KC (b22 + 1) 0) s22 sl ∧ (Own sl ⟨b22 + 1, 0⟩ 5 1 v24 (x5.map bD)) ∧ kj4 x5 = some r) ?_ ?_
      ·
       refine k_seq ?_
       refine k_region ?_
       refine k_assign rfl rfl ?_
       refine k_nil ?_
       refine k_block ?_
       refine k_loopc (X := St × (List UInt8) × Value × Int × Nat) [(3, _), (6, _), (7, _), (8, _)] (fun (xL : St × (List UInt8) × Value × Int × Nat) => match xL with | (sl, x6, v26, x7, j) => [(10, v26), (11, .int .i64 x7)]) (fun (xL : St × (List UInt8) × Value × Int × Nat) (wL : World) => match xL with | (sl, x6, v26, x7, j) => sl.w = wL ∧ Step (KC (b22 + 1) 0) s22 sl ∧ (Own sl ⟨b22 + 1, 0⟩ 5 1 v26 (x6.map bD)) ∧ rev_Make_l1 a0 kj4 j x6 x7 = some r) (fun (xL : St × (List UInt8) × Value × Int × Nat) => match xL with | (sl, x6, v26, x7, j) => j) (s22, ([ofI8 a1] : List UInt8), v22, 7, FU) ⟨rfl, rfl, rfl, rfl, trivial⟩ ⟨(by first | rfl | (simp <;> rfl)), (by first | rfl | (simp <;> rfl)), trivial⟩ ⟨rfl, (Step.refl _).of0 (by first | exact fun _ h => h | (intro c h; simp [KC, KO, KU, KN, KB] at h <;> omega)), h22, h⟩ ?_
       rintro ⟨s27, x6, v26, x7, j⟩ wL ⟨rfl, hE25, h26, h⟩
       cases j with
       | zero => rw [rev_Make_l1] at h; exact (noneNe h).elim
       | succ j =>
       rw [rev_Make_l1] at h
       have szs27 := hE25.size
       have hS := hS.c0 hE25
       have hE23 := hE23.c0 hE25
       replace h1 := h1.up2 hE25
       refine k_seq ?_
       refine k_seq ?_
       refine k_region ?_
       refine k_move rfl rfl ?_
       refine k_geq rfl rfl rfl ?_
       refine k_nil ?_
       refine k_keep [(3, _), (6, _), (7, _), (8, _), (10, _), (11, _), (48, _)] ⟨rfl, rfl, rfl, rfl, rfl, rfl, rfl, trivial⟩ ?_
       refine k_cond_dec rfl (fun c28 => ?_) (fun c28 => ?_)
       ·
        have h := itT h c28
        refine k_skip ?_
        refine k_seq ?_
        refine k_block ?_
        refine k_region ?_
        refine k_move rfl rfl ?_
        refine k_field_addr fld29_0 rfl rfl ?_
        refine k_load_blk one26 rfl h1 rfl rfl ?_
        refine k_move rfl rfl ?_
        refine k_mul rfl rfl rfl ?_
        by_cases c29 : 0 ≤ i64 (8 * x7)
        case neg => exact (noneNe (itF h c29)).elim
        replace h := itT h c29
        refine k_shr (p := (a0.Gen.toNat : Int)) rfl rfl c29 rfl ?_
        refine k_as (congrArg (Value.int .u64) (shr64_eq _ _)) ?_
        refine k_conv (p := ((shr64 a0.Gen (i64 (8 * x7))).toNat : Int)) Tryd.underlying26 Tryd.underlying5 rfl rfl ?_
        refine k_as (congrArg (Value.int .u8) (w8 _)) ?_
        refine k_bslice2 (ds := ([ofI8 ((shr64 a0.Gen (i64 (8 * x7))).toNat : Int)] : List UInt8).map bD) slc51 rfl (RVs.cons (R.val rfl) RVs.nil) (by rfl) (by rfl) rfl rfl ?_
        intro s30 v30 b30 st30 ge30 bl30 h30
        have szs30 := st30.size
        have hS := hS.trans0 st30
        have hE23 := hE23.trans0 st30
        have hE25 := hE25.trans0 st30
        replace h26 := h26.up2 st30
        have lt30 := Own.le1 h30
        obtain ⟨x8, hx8, h⟩ := ob h
        refine k_append (es := ([ofI8 ((shr64 a0.Gen (i64 (8 * x7))).toNat : Int)] : List UInt8).map bD) elem51 rfl rfl h26 (h30.sl) (by have := (app_out hx8).1; simp only [List.length_map] at *; omega) (by have := (app_out hx8).1; simp only [List.length_map] at *; omega) rfl ?_
        intro s31 v31 st31 h31
        rw [← List.map_append, ← (app_out hx8).2] at h31
        have szs31 := st31.size
        have hS := hS.c0 st31
        have hE23 := hE23.c0 st31
        have hE25 := hE25.c0 st31
        refine k_assign rfl rfl ?_
        refine k_nil ?_
        refine k_blk ?_
        refine k_region ?_
        refine k_move rfl rfl ?_
        refine k_sub_ rfl rfl rfl ?_
        refine k_assign rfl rfl ?_
        refine k_nil ?_
        exact k_stop ⟨(s31, x8, v31, i64 (x7 - 1), j), ⟨(by first | rfl | (simp <;> rfl)), (by first | rfl | (simp <;> rfl)), trivial⟩, ⟨rfl, rfl, rfl, rfl, trivial⟩, ⟨rfl, hE25, h31, h⟩, (by simp)⟩
       ·
        have h := itF h c28
        refine k_exit rfl ?_
        exact k_stop ⟨(s27, x6, v26), ⟨(by first | rfl | (simp <;> rfl)), trivial⟩, ⟨rfl, rfl, rfl, rfl, trivial⟩, ⟨rfl, hE23, h26, h⟩⟩
      ·
       rintro ⟨s32, x5, v24⟩ wL ⟨rfl, hE23, h24, h⟩
       rw [hK23] at h
       have szs32 := hE23.size
       have hS := hS.c0 hE23
       replace h1 := h1.up2 hE23
       replace h3 := h3.up2 hE23
       refine k_seq ?_
       obtain ⟨x9, hx9, h⟩ := ob h
       refine k_drawT (KU (KN s32.n) (KU (KC (b22 + 1) 0) (KC (b1 + 1) 0))) 10 (.read 0 (.read 3 (.read 4 (.read 6 (.alt 1 (.read 2 (.alt 5 (.alt 7 (.alt 8 (.alt 9 .fin .no) .no) .no) (.alt 7 (.alt 5 (.alt 8 (.alt 9 .fin .no) .no) .no) .no))) (.alt 5 (.alt 1 (.read 2 (.alt 7 (.alt 8 (.alt 9 .fin .no) .no) .no)) (.alt 7 (.alt 1 (.read 2 (.alt 8 (.alt 9 .fin .no) .no)) (.alt 8 (.alt 1 (.read 2 (.alt 9 .fin .no)) (.alt 9 (.alt 1 (.read 2 .fin) .no) .no)) .no)) .no)) (.alt 7 (.alt 1 (.read 2 (.alt 5 (.alt 8 (.alt 9 .fin .no) .no) .no)) (.alt 5 (.alt 1 (.read 2 (.alt 8 (.alt 9 .fin .no) .no)) (.alt 8 (.alt 1 (.read 2 (.alt 9 .fin .no)) (.alt 9 (.alt 1 (.read 2 .fin) .no) .no)) .no)) .no)) .no))))))) mixed (by intro c h; (try simp only [KC, KO, KU, KN, KB] at h) <;> omega) rfl rfl rfl ?_
       intro s33 st33
       have szs33 := st33.size
       have hS := hS.trans0 st33
       replace h1 := h1.up2 st33
       replace h3 := h3.up2 st33
       replace h24 := h24.up2 st33
       refine rt_read (.pointer (some ⟨b1, 0, none⟩)) rfl rfl (fun s34 st34 => ?_) ?_
       ·refine k_field_addr fld29_0 rfl rfl ?_
        exact fq_end
       refine rt_read (v24) rfl rfl (fun s35 st35 => ?_) ?_
       ·refine k_move rfl rfl ?_
        exact fq_end
       refine rt_read (.pointer (some ⟨b1, 1, none⟩)) rfl rfl (fun s36 st36 => ?_) ?_
       ·refine k_field_addr fld29_1 rfl rfl ?_
        exact fq_end
       refine rt_read (S x1.1) rfl rfl (fun s37 st37 => ?_) ?_
       ·refine k_move rfl rfl ?_
        exact fq_end
       refine rt_alt rfl rfl ?_ ?_
       ·
        have hA38 := Step.r0 (KU (KN s32.n) (KU (KC (b22 + 1) 0) (KC (b1 + 1) 0))) s33
        refine k_load_blk one26 rfl h1 rfl rfl ?_
        refine rt_cont hA38 ?_
        refine rt_read (.int .u64 ((ofI64 ((a0.Gen.toNat : Int) + 1)).toNat : Int)) rfl rfl (fun s39 st39 => ?_) ?_
        ·refine k_add rfl rfl rfl ?_
         refine k_as (congrArg (Value.int .u64) (w64 _)) ?_
         exact fq_end
        refine rt_alt rfl rfl ?_ ?_
        ·
         have hA40 := Step.r0 (KU (KN s32.n) (KU (KC (b22 + 1) 0) (KC (b1 + 1) 0))) s33
         refine k_cut_pt (g := bD) (i := 0) (j := 16) (pre := [.int .u64 (a0.Gen.toNat : Int)]) (post := []) (xs := ([a0.Sum.e0, a0.Sum.e1, a0.Sum.e2, a0.Sum.e3, a0.Sum.e4, a0.Sum.e5, a0.Sum.e6, a0.Sum.e7, a0.Sum.e8, a0.Sum.e9, a0.Sum.e10, a0.Sum.e11, a0.Sum.e12, a0.Sum.e13, a0.Sum.e14, a0.Sum.e15] : List UInt8)) cB (fun _ => rfl) (fun _ => rfl) arr27 rfl h1 rfl rfl CutAt.none CutAt.none (by decide) (by decide) (by decide) rfl ?_
         intro h41
         replace h41 : SL s33 ⟨b1 + 1, 0⟩ (.slice (some ⟨b1, 1 + 0, none⟩) (16 - 0) (16 - 0)) 1 (([a0.Sum.e0, a0.Sum.e1, a0.Sum.e2, a0.Sum.e3, a0.Sum.e4, a0.Sum.e5, a0.Sum.e6, a0.Sum.e7, a0.Sum.e8, a0.Sum.e9, a0.Sum.e10, a0.Sum.e11, a0.Sum.e12, a0.Sum.e13, a0.Sum.e14, a0.Sum.e15] : List UInt8).map bD) := h41
         refine rt_cont hA40 ?_
         refine rt_act rfl rfl ?_
         have hA42 := Step.r0 (KU (KN s32.n) (KU (KC (b22 + 1) 0) (KC (b1 + 1) 0))) s33
         refine k_stb Tryd.underlying9 Tryd.underlying51 Tryd.underlying5 rfl rfl ?_
         intro s43 v43 st43 h43
         have szs43 := st43.size
         have hS := hS.trans0 st43
         have hA42 := hA42.trans0 st43
         replace h1 := h1.up2 st43
         replace h3 := h3.up2 st43
         replace h24 := h24.up2 st43
         refine rt_cont hA42 ?_
         refine rt_act rfl rfl ?_
         have hA44 := Step.r0 (KU (KN s32.n) (KU (KC (b22 + 1) 0) (KC (b1 + 1) 0))) s43
         obtain ⟨s45, e45, st45, h45⟩ := h24.freeze
         rw [← e45]
         have szs45 := st45.size
         have hS := hS.c0 st45
         have hA44 := hA44.c0 st45
         replace h43 := h43.up2 st45
         replace h1 := h1.up2 st45
         replace h3 := h3.up2 st45
         obtain ⟨s46, e46, st46, h46⟩ := h1.freeze (by first | (simp; done) | omega | (dsimp only; omega))
         rw [← e46]
         have szs46 := st46.size
         have hS := hS.c0 st46
         have hA44 := hA44.c0 st46
         replace h45 := h45.up2 st46
         replace h43 := h43.up2 st46
         replace h3 := h3.up2 st46
         have h47 : R s46 (.slice (some ⟨b1, 1 + 0, none⟩) (16 - 0) (16 - 0)) (.sl 1 (([a0.Sum.e0, a0.Sum.e1, a0.Sum.e2, a0.Sum.e3, a0.Sum.e4, a0.Sum.e5, a0.Sum.e6, a0.Sum.e7, a0.Sum.e8, a0.Sum.e9, a0.Sum.e10, a0.Sum.e11, a0.Sum.e12, a0.Sum.e13, a0.Sum.e14, a0.Sum.e15] : List UInt8).map bD)) := R.of_SL (Blk.cutSL (g := bD) (i := 0) (j := 16) (pre := [.int .u64 (a0.Gen.toNat : Int)]) (post := []) (xs := ([a0.Sum.e0, a0.Sum.e1, a0.Sum.e2, a0.Sum.e3, a0.Sum.e4, a0.Sum.e5, a0.Sum.e6, a0.Sum.e7, a0.Sum.e8, a0.Sum.e9, a0.Sum.e10, a0.Sum.e11, a0.Sum.e12, a0.Sum.e13, a0.Sum.e14, a0.Sum.e15] : List UInt8)) cB (fun _ => rfl) (fun _ => rfl) h46 rfl rfl (by decide) (by decide))
         refine k_bslice2 (ds := ([x5, ([a0.Sum.e0, a0.Sum.e1, a0.Sum.e2, a0.Sum.e3, a0.Sum.e4, a0.Sum.e5, a0.Sum.e6, a0.Sum.e7, a0.Sum.e8, a0.Sum.e9, a0.Sum.e10, a0.Sum.e11, a0.Sum.e12, a0.Sum.e13, a0.Sum.e14, a0.Sum.e15] : List UInt8), x1.1] : List (List UInt8)).map (dL 1 bD)) slc68 rfl (RVs.cons h45 (RVs.cons h47 (RVs.cons h43 RVs.nil))) (by rfl) (by rfl) rfl rfl ?_
         intro s48 v48 b48 st48 ge48 bl48 h48
         have szs48 := st48.size
         have hS := hS.trans0 st48
         have hA44 := hA44.trans0 st48
         replace h3 := h3.up2 st48
         have lt48 := Own.le1 h48
         refine rt_cont hA44 ?_
         refine rt_act rfl rfl ?_
         have hA49 := Step.r0 (KU (KN s32.n) (KU (KC (b22 + 1) 0) (KC (b1 + 1) 0))) s48
         refine k_call cal21 rfl (digest_Short_w  (h48.sl) hx9) rfl ?_
         rintro s50 vr50 st50 ⟨cs50_0, rfl, h50_0⟩
         have szs50 := st50.size
         have hS := hS.trans0 st50
         have hA49 := hA49.trans0 st50
         replace h3 := h3.up2 st50
         obtain rfl := opnSt27 h50_0
         refine rt_cont hA49 ?_
         refine rt_fin ?_
         refine k_build plc29 zero29 rfl (Parts.cons (CellsOf.lit rfl rfl).1 (Parts.cons (CellsOf.lit rfl rfl).1 Parts.nil)) (by rfl) rfl ?_
         refine k_as (v := .agg #[.int .u64 ((ofI64 ((a0.Gen.toNat : Int) + 1)).toNat : Int), .int .u8 (x9.e0.toNat : Int), .int .u8 (x9.e1.toNat : Int), .int .u8 (x9.e2.toNat : Int), .int .u8 (x9.e3.toNat : Int), .int .u8 (x9.e4.toNat : Int), .int .u8 (x9.e5.toNat : Int), .int .u8 (x9.e6.toNat : Int), .int .u8 (x9.e7.toNat : Int), .int .u8 (x9.e8.toNat : Int), .int .u8 (x9.e9.toNat : Int), .int .u8 (x9.e10.toNat : Int), .int .u8 (x9.e11.toNat : Int), .int .u8 (x9.e12.toNat : Int), .int .u8 (x9.e13.toNat : Int), .int .u8 (x9.e14.toNat : Int), .int .u8 (x9.e15.toNat : Int)]) rfl ?_
         refine k_store_c (cs' := [.int .u64 ((ofI64 ((a0.Gen.toNat : Int) + 1)).toNat : Int), .int .u8 (x9.e0.toNat : Int), .int .u8 (x9.e1.toNat : Int), .int .u8 (x9.e2.toNat : Int), .int .u8 (x9.e3.toNat : Int), .int .u8 (x9.e4.toNat : Int), .int .u8 (x9.e5.toNat : Int), .int .u8 (x9.e6.toNat : Int), .int .u8 (x9.e7.toNat : Int), .int .u8 (x9.e8.toNat : Int), .int .u8 (x9.e9.toNat : Int), .int .u8 (x9.e10.toNat : Int), .int .u8 (x9.e11.toNat : Int), .int .u8 (x9.e12.toNat : Int), .int .u8 (x9.e13.toNat : Int), .int .u8 (x9.e14.toNat : Int), .int .u8 (x9.e15.toNat : Int)]) size29 rfl rfl h3 (by first | (simp; done) | omega | (dsimp only; omega)) (CellsOf.lit rfl rfl) rfl (by first | rfl | (simp; done) | (simp; omega)) rfl ?_
         intro s51 st51 h3
         have szs51 := st51.size
         have hS := hS.c0 st51
         refine k_assign rfl rfl ?_
         refine k_nil ?_
         refine k_keep [(6, _), (7, _)] ⟨rfl, rfl, trivial⟩ ?_
         refine k_ret ?_
         obtain rfl := Option.some.inj h
         refine ⟨[.agg [.int .u64 ((ofI64 ((a0.Gen.toNat : Int) + 1)).toNat : Int), .int .u8 (x9.e0.toNat : Int), .int .u8 (x9.e1.toNat : Int), .int .u8 (x9.e2.toNat : Int), .int .u8 (x9.e3.toNat : Int), .int .u8 (x9.e4.toNat : Int), .int .u8 (x9.e5.toNat : Int), .int .u8 (x9.e6.toNat : Int), .int .u8 (x9.e7.toNat : Int), .int .u8 (x9.e8.toNat : Int), .int .u8 (x9.e9.toNat : Int), .int .u8 (x9.e10.toNat : Int), .int .u8 (x9.e11.toNat : Int), .int .u8 (x9.e12.toNat : Int), .int .u8 (x9.e13.toNat : Int), .int .u8 (x9.e14.toNat : Int), .int .u8 (x9.e15.toNat : Int)].toArray, .int .i64 0], ⟨res_blk (cs := [.int .u64 ((ofI64 ((a0.Gen.toNat : Int) + 1)).toNat : Int), .int .u8 (x9.e0.toNat : Int), .int .u8 (x9.e1.toNat : Int), .int .u8 (x9.e2.toNat : Int), .int .u8 (x9.e3.toNat : Int), .int .u8 (x9.e4.toNat : Int), .int .u8 (x9.e5.toNat : Int), .int .u8 (x9.e6.toNat : Int), .int .u8 (x9.e7.toNat : Int), .int .u8 (x9.e8.toNat : Int), .int .u8 (x9.e9.toNat : Int), .int .u8 (x9.e10.toNat : Int), .int .u8 (x9.e11.toNat : Int), .int .u8 (x9.e12.toNat : Int), .int .u8 (x9.e13.toNat : Int), .int .u8 (x9.e14.toNat : Int), .int .u8 (x9.e15.toNat : Int)]) rfl agg29 h3, rfl, trivial⟩, Ret.mk hS ?_⟩
         exact ⟨_, rfl, (clsApiRev (⟨ofI64 ((a0.Gen.toNat : Int) + 1), x9⟩ : ApiRev))⟩
        ·
         refine rt_act rfl rfl ?_
         have hA52 := Step.r0 (KU (KN s32.n) (KU (KC (b22 + 1) 0) (KC (b1 + 1) 0))) s33
         refine k_stb Tryd.underlying9 Tryd.underlying51 Tryd.underlying5 rfl rfl ?_
         intro s53 v53 st53 h53
         have szs53 := st53.size
         have hS := hS.trans0 st53
         have hA52 := hA52.trans0 st53
         replace h1 := h1.up2 st53
         replace h3 := h3.up2 st53
         replace h24 := h24.up2 st53
         refine rt_cont hA52 ?_
         refine rt_act rfl rfl ?_
         have hA54 := Step.r0 (KU (KN s32.n) (KU (KC (b22 + 1) 0) (KC (b1 + 1) 0))) s53
         refine k_cut_pt (g := bD) (i := 0) (j := 16) (pre := [.int .u64 (a0.Gen.toNat : Int)]) (post := []) (xs := ([a0.Sum.e0, a0.Sum.e1, a0.Sum.e2, a0.Sum.e3, a0.Sum.e4, a0.Sum.e5, a0.Sum.e6, a0.Sum.e7, a0.Sum.e8, a0.Sum.e9, a0.Sum.e10, a0.Sum.e11, a0.Sum.e12, a0.Sum.e13, a0.Sum.e14, a0.Sum.e15] : List UInt8)) cB (fun _ => rfl) (fun _ => rfl) arr27 rfl h1 rfl rfl CutAt.none CutAt.none (by decide) (by decide) (by decide) rfl ?_
         intro h55
         replace h55 : SL s53 ⟨b1 + 1, 0⟩ (.slice (some ⟨b1, 1 + 0, none⟩) (16 - 0) (16 - 0)) 1 (([a0.Sum.e0, a0.Sum.e1, a0.Sum.e2, a0.Sum.e3, a0.Sum.e4, a0.Sum.e5, a0.Sum.e6, a0.Sum.e7, a0.Sum.e8, a0.Sum.e9, a0.Sum.e10, a0.Sum.e11, a0.Sum.e12, a0.Sum.e13, a0.Sum.e14, a0.Sum.e15] : List UInt8).map bD) := h55
         refine rt_cont hA54 ?_
         refine rt_act rfl rfl ?_
         have hA56 := Step.r0 (KU (KN s32.n) (KU (KC (b22 + 1) 0) (KC (b1 + 1) 0))) s53
         obtain ⟨s57, e57, st57, h57⟩ := h24.freeze
         rw [← e57]
         have szs57 := st57.size
         have hS := hS.c0 st57
         have hA56 := hA56.c0 st57
         replace h53 := h53.up2 st57
         replace h1 := h1.up2 st57
         replace h3 := h3.up2 st57
         obtain ⟨s58, e58, st58, h58⟩ := h1.freeze (by first | (simp; done) | omega | (dsimp only; omega))
         rw [← e58]
         have szs58 := st58.size
         have hS := hS.c0 st58
         have hA56 := hA56.c0 st58
         replace h57 := h57.up2 st58
         replace h53 := h53.up2 st58
         replace h3 := h3.up2 st58
         have h59 : R s58 (.slice (some ⟨b1, 1 + 0, none⟩) (16 - 0) (16 - 0)) (.sl 1 (([a0.Sum.e0, a0.Sum.e1, a0.Sum.e2, a0.Sum.e3, a0.Sum.e4, a0.Sum.e5, a0.Sum.e6, a0.Sum.e7, a0.Sum.e8, a0.Sum.e9, a0.Sum.e10, a0.Sum.e11, a0.Sum.e12, a0.Sum.e13, a0.Sum.e14, a0.Sum.e15] : List UInt8).map bD)) := R.of_SL (Blk.cutSL (g := bD) (i := 0) (j := 16) (pre := [.int .u64 (a0.Gen.toNat : Int)]) (post := []) (xs := ([a0.Sum.e0, a0.Sum.e1, a0.Sum.e2, a0.Sum.e3, a0.Sum.e4, a0.Sum.e5, a0.Sum.e6, a0.Sum.e7, a0.Sum.e8, a0.Sum.e9, a0.Sum.e10, a0.Sum.e11, a0.Sum.e12, a0.Sum.e13, a0.Sum.e14, a0.Sum.e15] : List UInt8)) cB (fun _ => rfl) (fun _ => rfl) h58 rfl rfl (by decide) (by decide))
         refine k_bslice2 (ds := ([x5, ([a0.Sum.e0, a0.Sum.e1, a0.Sum.e2, a0.Sum.e3, a0.Sum.e4, a0.Sum.e5, a0.Sum.e6, a0.Sum.e7, a0.Sum.e8, a0.Sum.e9, a0.Sum.e10, a0.Sum.e11, a0.Sum.e12, a0.Sum.e13, a0.Sum.e14, a0.Sum.e15] : List UInt8), x1.1] : List (List UInt8)).map (dL 1 bD)) slc68 rfl (RVs.cons h57 (RVs.cons h59 (RVs.cons h53 RVs.nil))) (by rfl) (by rfl) rfl rfl ?_
         intro s60 v60 b60 st60 ge60 bl60 h60
         have szs60 := st60.size
         have hS := hS.trans0 st60
         have hA56 := hA56.trans0 st60
         replace h3 := h3.up2 st60
         have lt60 := Own.le1 h60
         refine rt_cont hA56 ?_
         refine rt_act rfl rfl ?_
         have hA61 := Step.r0 (KU (KN s32.n) (KU (KC (b22 + 1) 0) (KC (b1 + 1) 0))) s60
         refine k_call cal21 rfl (digest_Short_w  (h60.sl) hx9) rfl ?_
         rintro s62 vr62 st62 ⟨cs62_0, rfl, h62_0⟩
         have szs62 := st62.size
         have hS := hS.trans0 st62
         have hA61 := hA61.trans0 st62
         replace h3 := h3.up2 st62
         obtain rfl := opnSt27 h62_0
         refine rt_cont hA61 ?_
         refine rt_fin ?_
         refine k_build plc29 zero29 rfl (Parts.cons (CellsOf.lit rfl rfl).1 (Parts.cons (CellsOf.lit rfl rfl).1 Parts.nil)) (by rfl) rfl ?_
         refine k_as (v := .agg #[.int .u64 ((ofI64 ((a0.Gen.toNat : Int) + 1)).toNat : Int), .int .u8 (x9.e0.toNat : Int), .int .u8 (x9.e1.toNat : Int), .int .u8 (x9.e2.toNat : Int), .int .u8 (x9.e3.toNat : Int), .int .u8 (x9.e4.toNat : Int), .int .u8 (x9.e5.toNat : Int), .int .u8 (x9.e6.toNat : Int), .int .u8 (x9.e7.toNat : Int), .int .u8 (x9.e8.toNat : Int), .int .u8 (x9.e9.toNat : Int), .int .u8 (x9.e10.toNat : Int), .int .u8 (x9.e11.toNat : Int), .int .u8 (x9.e12.toNat : Int), .int .u8 (x9.e13.toNat : Int), .int .u8 (x9.e14.toNat : Int), .int .u8 (x9.e15.toNat : Int)]) rfl ?_
         refine k_store_c (cs' := [.int .u64 ((ofI64 ((a0.Gen.toNat : Int) + 1)).toNat : Int), .int .u8 (x9.e0.toNat : Int), .int .u8 (x9.e1.toNat : Int), .int .u8 (x9.e2.toNat : Int), .int .u8 (x9.e3.toNat : Int), .int .u8 (x9.e4.toNat : Int), .int .u8 (x9.e5.toNat : Int), .int .u8 (x9.e6.toNat : Int), .int .u8 (x9.e7.toNat : Int), .int .u8 (x9.e8.toNat : Int), .int .u8 (x9.e9.toNat : Int), .int .u8 (x9.e10.toNat : Int), .int .u8 (x9.e11.toNat : Int), .int .u8 (x9.e12.toNat : Int), .int .u8 (x9.e13.toNat : Int), .int .u8 (x9.e14.toNat : Int), .int .u8 (x9.e15.toNat : Int)]) size29 rfl rfl h3 (by first | (simp; done) | omega | (dsimp only; omega)) (CellsOf.lit rfl rfl) rfl (by first | rfl | (simp; done) | (simp; omega)) rfl ?_
         intro s63 st63 h3
         have szs63 := st63.size
         have hS := hS.c0 st63
         refine k_assign rfl rfl ?_
         refine k_nil ?_
         refine k_keep [(6, _), (7, _)] ⟨rfl, rfl, trivial⟩ ?_
         refine k_ret ?_
         obtain rfl := Option.some.inj h
         refine ⟨[.agg [.int .u64 ((ofI64 ((a0.Gen.toNat : Int) + 1)).toNat : Int), .int .u8 (x9.e0.toNat : Int), .int .u8 (x9.e1.toNat : Int), .int .u8 (x9.e2.toNat : Int), .int .u8 (x9.e3.toNat : Int), .int .u8 (x9.e4.toNat : Int), .int .u8 (x9.e5.toNat : Int), .int .u8 (x9.e6.toNat : Int), .int .u8 (x9.e7.toNat : Int), .int .u8 (x9.e8.toNat : Int), .int .u8 (x9.e9.toNat : Int), .int .u8 (x9.e10.toNat : Int), .int .u8 (x9.e11.toNat : Int), .int .u8 (x9.e12.toNat : Int), .int .u8 (x9.e13.toNat : Int), .int .u8 (x9.e14.toNat : Int), .int .u8 (x9.e15.toNat : Int)].toArray, .int .i64 0], ⟨res_blk (cs := [.int .u64 ((ofI64 ((a0.Gen.toNat : Int) + 1)).toNat : Int), .int .u8 (x9.e0.toNat : Int), .int .u8 (x9.e1.toNat : Int), .int .u8 (x9.e2.toNat : Int), .int .u8 (x9.e3.toNat : Int), .int .u8 (x9.e4.toNat : Int), .int .u8 (x9.e5.toNat : Int), .int .u8 (x9.e6.toNat : Int), .int .u8 (x9.e7.toNat : Int), .int .u8 (x9.e8.toNat : Int), .int .u8 (x9.e9.toNat : Int), .int .u8 (x9.e10.toNat : Int), .int .u8 (x9.e11.toNat : Int), .int .u8 (x9.e12.toNat : Int), .int .u8 (x9.e13.toNat : Int), .int .u8 (x9.e14.toNat : Int), .int .u8 (x9.e15.toNat : Int)]) rfl agg29 h3, rfl, trivial⟩, Ret.mk hS ?_⟩
         exact ⟨_, rfl, (clsApiRev (⟨ofI64 ((a0.Gen.toNat : Int) + 1), x9⟩ : ApiRev))⟩
       ·
        refine rt_alt rfl rfl ?_ ?_
        ·
         have hA64 := Step.r0 (KU (KN s32.n) (KU (KC (b22 + 1) 0) (KC (b1 + 1) 0))) s33
         refine k_cut_pt (g := bD) (i := 0) (j := 16) (pre := [.int .u64 (a0.Gen.toNat : Int)]) (post := []) (xs := ([a0.Sum.e0, a0.Sum.e1, a0.Sum.e2, a0.Sum.e3, a0.Sum.e4, a0.Sum.e5, a0.Sum.e6, a0.Sum.e7, a0.Sum.e8, a0.Sum.e9, a0.Sum.e10, a0.Sum.e11, a0.Sum.e12, a0.Sum.e13, a0.Sum.e14, a0.Sum.e15] : List UInt8)) cB (fun _ => rfl) (fun _ => rfl) arr27 rfl h1 rfl rfl CutAt.none CutAt.none (by decide) (by decide) (by decide) rfl ?_
         intro h65
         replace h65 : SL s33 ⟨b1 + 1, 0⟩ (.slice (some ⟨b1, 1 + 0, none⟩) (16 - 0) (16 - 0)) 1 (([a0.Sum.e0, a0.Sum.e1, a0.Sum.e2, a0.Sum.e3, a0.Sum.e4, a0.Sum.e5, a0.Sum.e6, a0.Sum.e7, a0.Sum.e8, a0.Sum.e9, a0.Sum.e10, a0.Sum.e11, a0.Sum.e12, a0.Sum.e13, a0.Sum.e14, a0.Sum.e15] : List UInt8).map bD) := h65
         refine rt_cont hA64 ?_
         refine rt_alt rfl rfl ?_ ?_
         ·
          have hA66 := Step.r0 (KU (KN s32.n) (KU (KC (b22 + 1) 0) (KC (b1 + 1) 0))) s33
          refine k_load_blk one26 rfl h1 rfl rfl ?_
          refine rt_cont hA66 ?_
          refine rt_read (.int .u64 ((ofI64 ((a0.Gen.toNat : Int) + 1)).toNat : Int)) rfl rfl (fun s67 st67 => ?_) ?_
          ·refine k_add rfl rfl rfl ?_
           refine k_as (congrArg (Value.int .u64) (w64 _)) ?_
           exact fq_end
          refine rt_act rfl rfl ?_
          have hA68 := Step.r0 (KU (KN s32.n) (KU (KC (b22 + 1) 0) (KC (b1 + 1) 0))) s33
          refine k_stb Tryd.underlying9 Tryd.underlying51 Tryd.underlying5 rfl rfl ?_
          intro s69 v69 st69 h69
          have szs69 := st69.size
          have hS := hS.trans0 st69
          have hA68 := hA68.trans0 st69
          replace h1 := h1.up2 st69
          replace h3 := h3.up2 st69
          replace h24 := h24.up2 st69
          refine rt_cont hA68 ?_
          refine rt_act rfl rfl ?_
          have hA70 := Step.r0 (KU (KN s32.n) (KU (KC (b22 + 1) 0) (KC (b1 + 1) 0))) s69
          obtain ⟨s71, e71, st71, h71⟩ := h24.freeze
          rw [← e71]
          have szs71 := st71.size
          have hS := hS.c0 st71
          have hA70 := hA70.c0 st71
          replace h69 := h69.up2 st71
          replace h1 := h1.up2 st71
          replace h3 := h3.up2 st71
          obtain ⟨s72, e72, st72, h72⟩ := h1.freeze (by first | (simp; done) | omega | (dsimp only; omega))
          rw [← e72]
          have szs72 := st72.size
          have hS := hS.c0 st72
          have hA70 := hA70.c0 st72
          replace h71 := h71.up2 st72
          replace h69 := h69.up2 st72
          replace h3 := h3.up2 st72
          have h73 : R s72 (.slice (some ⟨b1, 1 + 0, none⟩) (16 - 0) (16 - 0)) (.sl 1 (([a0.Sum.e0, a0.Sum.e1, a0.Sum.e2, a0.Sum.e3, a0.Sum.e4, a0.Sum.e5, a0.Sum.e6, a0.Sum.e7, a0.Sum.e8, a0.Sum.e9, a0.Sum.e10, a0.Sum.e11, a0.Sum.e12, a0.Sum.e13, a0.Sum.e14, a0.Sum.e15] : List UInt8).map bD)) := R.of_SL (Blk.cutSL (g := bD) (i := 0) (j := 16) (pre := [.int .u64 (a0.Gen.toNat : Int)]) (post := []) (xs := ([a0.Sum.e0, a0.Sum.e1, a0.Sum.e2, a0.Sum.e3, a0.Sum.e4, a0.Sum.e5, a0.Sum.e6, a0.Sum.e7, a0.Sum.e8, a0.Sum.e9, a0.Sum.e10, a0.Sum.e11, a0.Sum.e12, a0.Sum.e13, a0.Sum.e14, a0.Sum.e15] : List UInt8)) cB (fun _ => rfl) (fun _ => rfl) h72 rfl rfl (by decide) (by decide))
          refine k_bslice2 (ds := ([x5, ([a0.Sum.e0, a0.Sum.e1, a0.Sum.e2, a0.Sum.e3, a0.Sum.e4, a0.Sum.e5, a0.Sum.e6, a0.Sum.e7, a0.Sum.e8, a0.Sum.e9, a0.Sum.e10, a0.Sum.e11, a0.Sum.e12, a0.Sum.e13, a0.Sum.e14, a0.Sum.e15] : List UInt8), x1.1] : List (List UInt8)).map (dL 1 bD)) slc68 rfl (RVs.cons h71 (RVs.cons h73 (RVs.cons h69 RVs.nil))) (by rfl) (by rfl) rfl rfl ?_
          intro s74 v74 b74 st74 ge74 bl74 h74
          have szs74 := st74.size
          have hS := hS.trans0 st74
          have hA70 := hA70.trans0 st74
          replace h3 := h3.up2 st74
          have lt74 := Own.le1 h74
          refine rt_cont hA70 ?_
          refine rt_act rfl rfl ?_
          have hA75 := Step.r0 (KU (KN s32.n) (KU (KC (b22 + 1) 0) (KC (b1 + 1) 0))) s74
          refine k_call cal21 rfl (digest_Short_w  (h74.sl) hx9) rfl ?_
          rintro s76 vr76 st76 ⟨cs76_0, rfl, h76_0⟩
          have szs76 := st76.size
          have hS := hS.trans0 st76
          have hA75 := hA75.trans0 st76
          replace h3 := h3.up2 st76
          obtain rfl := opnSt27 h76_0
          refine rt_cont hA75 ?_
          refine rt_fin ?_
          refine k_build plc29 zero29 rfl (Parts.cons (CellsOf.lit rfl rfl).1 (Parts.cons (CellsOf.lit rfl rfl).1 Parts.nil)) (by rfl) rfl ?_
          refine k_as (v := .agg #[.int .u64 ((ofI64 ((a0.Gen.toNat : Int) + 1)).toNat : Int), .int .u8 (x9.e0.toNat : Int), .int .u8 (x9.e1.toNat : Int), .int .u8 (x9.e2.toNat : Int), .int .u8 (x9.e3.toNat : Int), .int .u8 (x9.e4.toNat : Int), .int .u8 (x9.e5.toNat : Int), .int .u8 (x9.e6.toNat : Int), .int .u8 (x9.e7.toNat : Int), .int .u8 (x9.e8.toNat : Int), .int .u8 (x9.e9.toNat : Int), .int .u8 (x9.e10.toNat : Int), .int .u8 (x9.e11.toNat : Int), .int .u8 (x9.e12.toNat : Int), .int .u8 (x9.e13.toNat : Int), .int .u8 (x9.e14.toNat : Int), .int .u8 (x9.e15.toNat : Int)]) rfl ?_
          refine k_store_c (cs' := [.int .u64 ((ofI64 ((a0.Gen.toNat : Int) + 1)).toNat : Int), .int .u8 (x9.e0.toNat : Int), .int .u8 (x9.e1.toNat : Int), .int .u8 (x9.e2.toNat : Int), .int .u8 (x9.e3.toNat : Int), .int .u8 (x9.e4.toNat : Int), .int .u8 (x9.e5.toNat : Int), .int .u8 (x9.e6.toNat : Int), .int .u8 (x9.e7.toNat : Int), .int .u8 (x9.e8.toNat : Int), .int .u8 (x9.e9.toNat : Int), .int .u8 (x9.e10.toNat : Int), .int .u8 (x9.e11.toNat : Int), .int .u8 (x9.e12.toNat : Int), .int .u8 (x9.e13.toNat : Int), .int .u8 (x9.e14.toNat : Int), .int .u8 (x9.e15.toNat : Int)]) size29 rfl rfl h3 (by first | (simp; done) | omega | (dsimp only; omega)) (CellsOf.lit rfl rfl) rfl (by first | rfl | (simp; done) | (simp; omega)) rfl ?_
          intro s77 st77 h3
          have szs77 := st77.size
          have hS := hS.c0 st77
          refine k_assign rfl rfl ?_
          refine k_nil ?_
          refine k_keep [(6, _), (7, _)] ⟨rfl, rfl, trivial⟩ ?_
          refine k_ret ?_
          obtain rfl := Option.some.inj h
          refine ⟨[.agg [.int .u64 ((ofI64 ((a0.Gen.toNat : Int) + 1)).toNat : Int), .int .u8 (x9.e0.toNat : Int), .int .u8 (x9.e1.toNat : Int), .int .u8 (x9.e2.toNat : Int), .int .u8 (x9.e3.toNat : Int), .int .u8 (x9.e4.toNat : Int), .int .u8 (x9.e5.toNat : Int), .int .u8 (x9.e6.toNat : Int), .int .u8 (x9.e7.toNat : Int), .int .u8 (x9.e8.toNat : Int), .int .u8 (x9.e9.toNat : Int), .int .u8 (x9.e10.toNat : Int), .int .u8 (x9.e11.toNat : Int), .int .u8 (x9.e12.toNat : Int), .int .u8 (x9.e13.toNat : Int), .int .u8 (x9.e14.toNat : Int), .int .u8 (x9.e15.toNat : Int)].toArray, .int .i64 0], ⟨res_blk (cs := [.int .u64 ((ofI64 ((a0.Gen.toNat : Int) + 1)).toNat : Int), .int .u8 (x9.e0.toNat : Int), .int .u8 (x9.e1.toNat : Int), .int .u8 (x9.e2.toNat : Int), .int .u8 (x9.e3.toNat : Int), .int .u8 (x9.e4.toNat : Int), .int .u8 (x9.e5.toNat : Int), .int .u8 (x9.e6.toNat : Int), .int .u8 (x9.e7.toNat : Int), .int .u8 (x9.e8.toNat : Int), .int .u8 (x9.e9.toNat : Int), .int .u8 (x9.e10.toNat : Int), .int .u8 (x9.e11.toNat : Int), .int .u8 (x9.e12.toNat : Int), .int .u8 (x9.e13.toNat : Int), .int .u8 (x9.e14.toNat : Int), .int .u8 (x9.e15.toNat : Int)]) rfl agg29 h3, rfl, trivial⟩, Ret.mk hS ?_⟩
          exact ⟨_, rfl, (clsApiRev (⟨ofI64 ((a0.Gen.toNat : Int) + 1), x9⟩ : ApiRev))⟩
         ·
          refine rt_act rfl rfl ?_
          have hA78 := Step.r0 (KU (KN s32.n) (KU (KC (b22 + 1) 0) (KC (b1 + 1) 0))) s33
          refine k_stb Tryd.underlying9 Tryd.underlying51 Tryd.underlying5 rfl rfl ?_
          intro s79 v79 st79 h79
          have szs79 := st79.size
          have hS := hS.trans0 st79
          have hA78 := hA78.trans0 st79
          replace h1 := h1.up2 st79
          replace h3 := h3.up2 st79
          replace h24 := h24.up2 st79
          refine rt_cont hA78 ?_
          refine rt_alt rfl rfl ?_ ?_
          ·
           have hA80 := Step.r0 (KU (KN s32.n) (KU (KC (b22 + 1) 0) (KC (b1 + 1) 0))) s79
           refine k_load_blk one26 rfl h1 rfl rfl ?_
           refine rt_cont hA80 ?_
           refine rt_read (.int .u64 ((ofI64 ((a0.Gen.toNat : Int) + 1)).toNat : Int)) rfl rfl (fun s81 st81 => ?_) ?_
           ·refine k_add rfl rfl rfl ?_
            refine k_as (congrArg (Value.int .u64) (w64 _)) ?_
            exact fq_end
           refine rt_act rfl rfl ?_
           have hA82 := Step.r0 (KU (KN s32.n) (KU (KC (b22 + 1) 0) (KC (b1 + 1) 0))) s79
           obtain ⟨s83, e83, st83, h83⟩ := h24.freeze
           rw [← e83]
           have szs83 := st83.size
           have hS := hS.c0 st83
           have hA82 := hA82.c0 st83
           replace h79 := h79.up2 st83
           replace h1 := h1.up2 st83
           replace h3 := h3.up2 st83
           obtain ⟨s84, e84, st84, h84⟩ := h1.freeze (by first | (simp; done) | omega | (dsimp only; omega))
           rw [← e84]
           have szs84 := st84.size
           have hS := hS.c0 st84
           have hA82 := hA82.c0 st84
           replace h83 := h83.up2 st84
           replace h79 := h79.up2 st84
           replace h3 := h3.up2 st84
           have h85 : R s84 (.slice (some ⟨b1, 1 + 0, none⟩) (16 - 0) (16 - 0)) (.sl 1 (([a0.Sum.e0, a0.Sum.e1, a0.Sum.e2, a0.Sum.e3, a0.Sum.e4, a0.Sum.e5, a0.Sum.e6, a0.Sum.e7, a0.Sum.e8, a0.Sum.e9, a0.Sum.e10, a0.Sum.e11, a0.Sum.e12, a0.Sum.e13, a0.Sum.e14, a0.Sum.e15] : List UInt8).map bD)) := R.of_SL (Blk.cutSL (g := bD) (i := 0) (j := 16) (pre := [.int .u64 (a0.Gen.toNat : Int)]) (post := []) (xs := ([a0.Sum.e0, a0.Sum.e1, a0.Sum.e2, a0.Sum.e3, a0.Sum.e4, a0.Sum.e5, a0.Sum.e6, a0.Sum.e7, a0.Sum.e8, a0.Sum.e9, a0.Sum.e10, a0.Sum.e11, a0.Sum.e12, a0.Sum.e13, a0.Sum.e14, a0.Sum.e15] : List UInt8)) cB (fun _ => rfl) (fun _ => rfl) h84 rfl rfl (by decide) (by decide))
           refine k_bslice2 (ds := ([x5, ([a0.Sum.e0, a0.Sum.e1, a0.Sum.e2, a0.Sum.e3, a0.Sum.e4, a0.Sum.e5, a0.Sum.e6, a0.Sum.e7, a0.Sum.e8, a0.Sum.e9, a0.Sum.e10, a0.Sum.e11, a0.Sum.e12, a0.Sum.e13, a0.Sum.e14, a0.Sum.e15] : List UInt8), x1.1] : List (List UInt8)).map (dL 1 bD)) slc68 rfl (RVs.cons h83 (RVs.cons h85 (RVs.cons h79 RVs.nil))) (by rfl) (by rfl) rfl rfl ?_
           intro s86 v86 b86 st86 ge86 bl86 h86
           have szs86 := st86.size
           have hS := hS.trans0 st86
           have hA82 := hA82.trans0 st86
           replace h3 := h3.up2 st86
           have lt86 := Own.le1 h86
           refine rt_cont hA82 ?_
           refine rt_act rfl rfl ?_
           have hA87 := Step.r0 (KU (KN s32.n) (KU (KC (b22 + 1) 0) (KC (b1 + 1) 0))) s86
           refine k_call cal21 rfl (digest_Short_w  (h86.sl) hx9) rfl ?_
           rintro s88 vr88 st88 ⟨cs88_0, rfl, h88_0⟩
           have szs88 := st88.size
           have hS := hS.trans0 st88
           have hA87 := hA87.trans0 st88
           replace h3 := h3.up2 st88
           obtain rfl := opnSt27 h88_0
           refine rt_cont hA87 ?_
           refine rt_fin ?_
           refine k_build plc29 zero29 rfl (Parts.cons (CellsOf.lit rfl rfl).1 (Parts.cons (CellsOf.lit rfl rfl).1 Parts.nil)) (by rfl) rfl ?_
           refine k_as (v := .agg #[.int .u64 ((ofI64 ((a0.Gen.toNat : Int) + 1)).toNat : Int), .int .u8 (x9.e0.toNat : Int), .int .u8 (x9.e1.toNat : Int), .int .u8 (x9.e2.toNat : Int), .int .u8 (x9.e3.toNat : Int), .int .u8 (x9.e4.toNat : Int), .int .u8 (x9.e5.toNat : Int), .int .u8 (x9.e6.toNat : Int), .int .u8 (x9.e7.toNat : Int), .int .u8 (x9.e8.toNat : Int), .int .u8 (x9.e9.toNat : Int), .int .u8 (x9.e10.toNat : Int), .int .u8 (x9.e11.toNat : Int), .int .u8 (x9.e12.toNat : Int), .int .u8 (x9.e13.toNat : Int), .int .u8 (x9.e14.toNat : Int), .int .u8 (x9.e15.toNat : Int)]) rfl ?_
           refine k_store_c (cs' := [.int .u64 ((ofI64 ((a0.Gen.toNat : Int) + 1)).toNat : Int), .int .u8 (x9.e0.toNat : Int), .int .u8 (x9.e1.toNat : Int), .int .u8 (x9.e2.toNat : Int), .int .u8 (x9.e3.toNat : Int), .int .u8 (x9.e4.toNat : Int), .int .u8 (x9.e5.toNat : Int), .int .u8 (x9.e6.toNat : Int), .int .u8 (x9.e7.toNat : Int), .int .u8 (x9.e8.toNat : Int), .int .u8 (x9.e9.toNat : Int), .int .u8 (x9.e10.toNat : Int), .int .u8 (x9.e11.toNat : Int), .int .u8 (x9.e12.toNat : Int), .int .u8 (x9.e13.toNat : Int), .int .u8 (x9.e14.toNat : Int), .int .u8 (x9.e15.toNat : Int)]) size29 rfl rfl h3 (by first | (simp; done) | omega | (dsimp only; omega)) (CellsOf.lit rfl rfl) rfl (by first | rfl | (simp; done) | (simp; omega)) rfl ?_
           intro s89 st89 h3
           have szs89 := st89.size
           have hS := hS.c0 st89
           refine k_assign rfl rfl ?_
           refine k_nil ?_
           refine k_keep [(6, _), (7, _)] ⟨rfl, rfl, trivial⟩ ?_
           refine k_ret ?_
           obtain rfl := Option.some.inj h
           refine ⟨[.agg [.int .u64 ((ofI64 ((a0.Gen.toNat : Int) + 1)).toNat : Int), .int .u8 (x9.e0.toNat : Int), .int .u8 (x9.e1.toNat : Int), .int .u8 (x9.e2.toNat : Int), .int .u8 (x9.e3.toNat : Int), .int .u8 (x9.e4.toNat : Int), .int .u8 (x9.e5.toNat : Int), .int .u8 (x9.e6.toNat : Int), .int .u8 (x9.e7.toNat : Int), .int .u8 (x9.e8.toNat : Int), .int .u8 (x9.e9.toNat : Int), .int .u8 (x9.e10.toNat : Int), .int .u8 (x9.e11.toNat : Int), .int .u8 (x9.e12.toNat : Int), .int .u8 (x9.e13.toNat : Int), .int .u8 (x9.e14.toNat : Int), .int .u8 (x9.e15.toNat : Int)].toArray, .int .i64 0], ⟨res_blk (cs := [.int .u64 ((ofI64 ((a0.Gen.toNat : Int) + 1)).toNat : Int), .int .u8 (x9.e0.toNat : Int), .int .u8 (x9.e1.toNat : Int), .int .u8 (x9.e2.toNat : Int), .int .u8 (x9.e3.toNat : Int), .int .u8 (x9.e4.toNat : Int), .int .u8 (x9.e5.toNat : Int), .int .u8 (x9.e6.toNat : Int), .int .u8 (x9.e7.toNat : Int), .int .u8 (x9.e8.toNat : Int), .int .u8 (x9.e9.toNat : Int), .int .u8 (x9.e10.toNat : Int), .int .u8 (x9.e11.toNat : Int), .int .u8 (x9.e12.toNat : Int), .int .u8 (x9.e13.toNat : Int), .int .u8 (x9.e14.toNat : Int), .int .u8 (x9.e15.toNat : Int)]) rfl agg29 h3, rfl, trivial⟩, Ret.mk hS ?_⟩
           exact ⟨_, rfl, (clsApiRev (⟨ofI64 ((a0.Gen.toNat : Int) + 1), x9⟩ : ApiRev))⟩
          ·
           refine rt_act rfl rfl ?_
           have hA90 := Step.r0 (KU (KN s32.n) (KU (KC (b22 + 1) 0) (KC (b1 + 1) 0))) s79
           obtain ⟨s91, e91, st91, h91⟩ := h24.freeze
           rw [← e91]
           have szs91 := st91.size
           have hS := hS.c0 st91
           have hA90 := hA90.c0 st91
           replace h79 := h79.up2 st91
           replace h1 := h1.up2 st91
           replace h3 := h3.up2 st91
           obtain ⟨s92, e92, st92, h92⟩ := h1.freeze (by first | (simp; done) | omega | (dsimp only; omega))
           rw [← e92]
           have szs92 := st92.size
           have hS := hS.c0 st92
           have hA90 := hA90.c0 st92
           replace h91 := h91.up2 st92
           replace h79 := h79.up2 st92
           replace h3 := h3.up2 st92
           have h93 : R s92 (.slice (some ⟨b1, 1 + 0, none⟩) (16 - 0) (16 - 0)) (.sl 1 (([a0.Sum.e0, a0.Sum.e1, a0.Sum.e2, a0.Sum.e3, a0.Sum.e4, a0.Sum.e5, a0.Sum.e6, a0.Sum.e7, a0.Sum.e8, a0.Sum.e9, a0.Sum.e10, a0.Sum.e11, a0.Sum.e12, a0.Sum.e13, a0.Sum.e14, a0.Sum.e15] : List UInt8).map bD)) := R.of_SL (Blk.cutSL (g := bD) (i := 0) (j := 16) (pre := [.int .u64 (a0.Gen.toNat : Int)]) (post := []) (xs := ([a0.Sum.e0, a0.Sum.e1, a0.Sum.e2, a0.Sum.e3, a0.Sum.e4, a0.Sum.e5, a0.Sum.e6, a0.Sum.e7, a0.Sum.e8, a0.Sum.e9, a0.Sum.e10, a0.Sum.e11, a0.Sum.e12, a0.Sum.e13, a0.Sum.e14, a0.Sum.e15] : List UInt8)) cB (fun _ => rfl) (fun _ => rfl) h92 rfl rfl (by decide) (by decide))
           refine k_bslice2 (ds := ([x5, ([a0.Sum.e0, a0.Sum.e1, a0.Sum.e2, a0.Sum.e3, a0.Sum.e4, a0.Sum.e5, a0.Sum.e6, a0.Sum.e7, a0.Sum.e8, a0.Sum.e9, a0.Sum.e10, a0.Sum.e11, a0.Sum.e12, a0.Sum.e13, a0.Sum.e14, a0.Sum.e15] : List UInt8), x1.1] : List (List UInt8)).map (dL 1 bD)) slc68 rfl (RVs.cons h91 (RVs.cons h93 (RVs.cons h79 RVs.nil))) (by rfl) (by rfl) rfl rfl ?_
           intro s94 v94 b94 st94 ge94 bl94 h94
           have szs94 := st94.size
           have hS := hS.trans0 st94
           have hA90 := hA90.trans0 st94
           replace h92 := h92.up2 st94
           replace h3 := h3.up2 st94
           have lt94 := Own.le1 h94
           refine rt_cont hA90 ?_
           refine rt_alt rfl rfl ?_ ?_
           ·
            have hA95 := Step.r0 (KU (KN s32.n) (KU (KC (b22 + 1) 0) (KC (b1 + 1) 0))) s94
            refine k_load_blk one26 rfl h92 rfl rfl ?_
            refine rt_cont hA95 ?_
            refine rt_read (.int .u64 ((ofI64 ((a0.Gen.toNat : Int) + 1)).toNat : Int)) rfl rfl (fun s96 st96 => ?_) ?_
            ·refine k_add rfl rfl rfl ?_
             refine k_as (congrArg (Value.int .u64) (w64 _)) ?_
             exact fq_end
            refine rt_act rfl rfl ?_
            have hA97 := Step.r0 (KU (KN s32.n) (KU (KC (b22 + 1) 0) (KC (b1 + 1) 0))) s94
            refine k_call cal21 rfl (digest_Short_w  (h94.sl) hx9) rfl ?_
            rintro s98 vr98 st98 ⟨cs98_0, rfl, h98_0⟩
            have szs98 := st98.size
            have hS := hS.trans0 st98
            have hA97 := hA97.trans0 st98
            replace h3 := h3.up2 st98
            obtain rfl := opnSt27 h98_0
            refine rt_cont hA97 ?_
            refine rt_fin ?_
            refine k_build plc29 zero29 rfl (Parts.cons (CellsOf.lit rfl rfl).1 (Parts.cons (CellsOf.lit rfl rfl).1 Parts.nil)) (by rfl) rfl ?_
            refine k_as (v := .agg #[.int .u64 ((ofI64 ((a0.Gen.toNat : Int) + 1)).toNat : Int), .int .u8 (x9.e0.toNat : Int), .int .u8 (x9.e1.toNat : Int), .int .u8 (x9.e2.toNat : Int), .int .u8 (x9.e3.toNat : Int), .int .u8 (x9.e4.toNat : Int), .int .u8 (x9.e5.toNat : Int), .int .u8 (x9.e6.toNat : Int), .int .u8 (x9.e7.toNat : Int), .int .u8 (x9.e8.toNat : Int), .int .u8 (x9.e9.toNat : Int), .int .u8 (x9.e10.toNat : Int), .int .u8 (x9.e11.toNat : Int), .int .u8 (x9.e12.toNat : Int), .int .u8 (x9.e13.toNat : Int), .int .u8 (x9.e14.toNat : Int), .int .u8 (x9.e15.toNat : Int)]) rfl ?_
            refine k_store_c (cs' := [.int .u64 ((ofI64 ((a0.Gen.toNat : Int) + 1)).toNat : Int), .int .u8 (x9.e0.toNat : Int), .int .u8 (x9.e1.toNat : Int), .int .u8 (x9.e2.toNat : Int), .int .u8 (x9.e3.toNat : Int), .int .u8 (x9.e4.toNat : Int), .int .u8 (x9.e5.toNat : Int), .int .u8 (x9.e6.toNat : Int), .int .u8 (x9.e7.toNat : Int), .int .u8 (x9.e8.toNat : Int), .int .u8 (x9.e9.toNat : Int), .int .u8 (x9.e10.toNat : Int), .int .u8 (x9.e11.toNat : Int), .int .u8 (x9.e12.toNat : Int), .int .u8 (x9.e13.toNat : Int), .int .u8 (x9.e14.toNat : Int), .int .u8 (x9.e15.toNat : Int)]) size29 rfl rfl h3 (by first | (simp; done) | omega | (dsimp only; omega)) (CellsOf.lit rfl rfl) rfl (by first | rfl | (simp; done) | (simp; omega)) rfl ?_
            intro s99 st99 h3
            have szs99 := st99.size
            have hS := hS.c0 st99
            refine k_assign rfl rfl ?_
            refine k_nil ?_
            refine k_keep [(6, _), (7, _)] ⟨rfl, rfl, trivial⟩ ?_
            refine k_ret ?_
            obtain rfl := Option.some.inj h
            refine ⟨[.agg [.int .u64 ((ofI64 ((a0.Gen.toNat : Int) + 1)).toNat : Int), .int .u8 (x9.e0.toNat : Int), .int .u8 (x9.e1.toNat : Int), .int .u8 (x9.e2.toNat : Int), .int .u8 (x9.e3.toNat : Int), .int .u8 (x9.e4.toNat : Int), .int .u8 (x9.e5.toNat : Int), .int .u8 (x9.e6.toNat : Int), .int .u8 (x9.e7.toNat : Int), .int .u8 (x9.e8.toNat : Int), .int .u8 (x9.e9.toNat : Int), .int .u8 (x9.e10.toNat : Int), .int .u8 (x9.e11.toNat : Int), .int .u8 (x9.e12.toNat : Int), .int .u8 (x9.e13.toNat : Int), .int .u8 (x9.e14.toNat : Int), .int .u8 (x9.e15.toNat : Int)].toArray, .int .i64 0], ⟨res_blk (cs := [.int .u64 ((ofI64 ((a0.Gen.toNat : Int) + 1)).toNat : Int), .int .u8 (x9.e0.toNat : Int), .int .u8 (x9.e1.toNat : Int), .int .u8 (x9.e2.toNat : Int), .int .u8 (x9.e3.toNat : Int), .int .u8 (x9.e4.toNat : Int), .int .u8 (x9.e5.toNat : Int), .int .u8 (x9.e6.toNat : Int), .int .u8 (x9.e7.toNat : Int), .int .u8 (x9.e8.toNat : Int), .int .u8 (x9.e9.toNat : Int), .int .u8 (x9.e10.toNat : Int), .int .u8 (x9.e11.toNat : Int), .int .u8 (x9.e12.toNat : Int), .int .u8 (x9.e13.toNat : Int), .int .u8 (x9.e14.toNat : Int), .int .u8 (x9.e15.toNat : Int)]) rfl agg29 h3, rfl, trivial⟩, Ret.mk hS ?_⟩
            exact ⟨_, rfl, (clsApiRev (⟨ofI64 ((a0.Gen.toNat : Int) + 1), x9⟩ : ApiRev))⟩
           ·
            refine rt_act rfl rfl ?_
            have hA100 := Step.r0 (KU (KN s32.n) (KU (KC (b22 + 1) 0) (KC (b1 + 1) 0))) s94
            refine k_call cal21 rfl (digest_Short_w  (h94.sl) hx9) rfl ?_
            rintro s101 vr101 st101 ⟨cs101_0, rfl, h101_0⟩
            have szs101 := st101.size
            have hS := hS.trans0 st101
            have hA100 := hA100.trans0 st101
            replace h92 := h92.up2 st101
            replace h3 := h3.up2 st101
            obtain rfl := opnSt27 h101_0
            refine rt_cont hA100 ?_
            refine rt_act rfl rfl ?_
            have hA102 := Step.r0 (KU (KN s32.n) (KU (KC (b22 + 1) 0) (KC (b1 + 1) 0))) s101
            refine k_load_blk one26 rfl h92 rfl rfl ?_
            refine rt_cont hA102 ?_
            refine rt_read (.int .u64 ((ofI64 ((a0.Gen.toNat : Int) + 1)).toNat : Int)) rfl rfl (fun s103 st103 => ?_) ?_
            ·refine k_add rfl rfl rfl ?_
             refine k_as (congrArg (Value.int .u64) (w64 _)) ?_
             exact fq_end
            refine rt_fin ?_
            refine k_build plc29 zero29 rfl (Parts.cons (CellsOf.lit rfl rfl).1 (Parts.cons (CellsOf.lit rfl rfl).1 Parts.nil)) (by rfl) rfl ?_
            refine k_as (v := .agg #[.int .u64 ((ofI64 ((a0.Gen.toNat : Int) + 1)).toNat : Int), .int .u8 (x9.e0.toNat : Int), .int .u8 (x9.e1.toNat : Int), .int .u8 (x9.e2.toNat : Int), .int .u8 (x9.e3.toNat : Int), .int .u8 (x9.e4.toNat : Int), .int .u8 (x9.e5.toNat : Int), .int .u8 (x9.e6.toNat : Int), .int .u8 (x9.e7.toNat : Int), .int .u8 (x9.e8.toNat : Int), .int .u8 (x9.e9.toNat : Int), .int .u8 (x9.e10.toNat : Int), .int .u8 (x9.e11.toNat : Int), .int .u8 (x9.e12.toNat : Int), .int .u8 (x9.e13.toNat : Int), .int .u8 (x9.e14.toNat : Int), .int .u8 (x9.e15.toNat : Int)]) rfl ?_
            refine k_store_c (cs' := [.int .u64 ((ofI64 ((a0.Gen.toNat : Int) + 1)).toNat : Int), .int .u8 (x9.e0.toNat : Int), .int .u8 (x9.e1.toNat : Int), .int .u8 (x9.e2.toNat : Int), .int .u8 (x9.e3.toNat : Int), .int .u8 (x9.e4.toNat : Int), .int .u8 (x9.e5.toNat : Int), .int .u8 (x9.e6.toNat : Int), .int .u8 (x9.e7.toNat : Int), .int .u8 (x9.e8.toNat : Int), .int .u8 (x9.e9.toNat : Int), .int .u8 (x9.e10.toNat : Int), .int .u8 (x9.e11.toNat : Int), .int .u8 (x9.e12.toNat : Int), .int .u8 (x9.e13.toNat : Int), .int .u8 (x9.e14.toNat : Int), .int .u8 (x9.e15.toNat : Int)]) size29 rfl rfl h3 (by first | (simp; done) | omega | (dsimp only; omega)) (CellsOf.lit rfl rfl) rfl (by first | rfl | (simp; done) | (simp; omega)) rfl ?_
            intro s104 st104 h3
            have szs104 := st104.size
            have hS := hS.c0 st104
            refine k_assign rfl rfl ?_
            refine k_nil ?_
            refine k_keep [(6, _), (7, _)] ⟨rfl, rfl, trivial⟩ ?_
            refine k_ret ?_
            obtain rfl := Option.some.inj h
            refine ⟨[.agg [.int .u64 ((ofI64 ((a0.Gen.toNat : Int) + 1)).toNat : Int), .int .u8 (x9.e0.toNat : Int), .int .u8 (x9.e1.toNat : Int), .int .u8 (x9.e2.toNat : Int), .int .u8 (x9.e3.toNat : Int), .int .u8 (x9.e4.toNat : Int), .int .u8 (x9.e5.toNat : Int), .int .u8 (x9.e6.toNat : Int), .int .u8 (x9.e7.toNat : Int), .int .u8 (x9.e8.toNat : Int), .int .u8 (x9.e9.toNat : Int), .int .u8 (x9.e10.toNat : Int), .int .u8 (x9.e11.toNat : Int), .int .u8 (x9.e12.toNat : Int), .int .u8 (x9.e13.toNat : Int), .int .u8 (x9.e14.toNat : Int), .int .u8 (x9.e15.toNat : Int)].toArray, .int .i64 0], ⟨res_blk (cs := [.int .u64 ((ofI64 ((a0.Gen.toNat : Int) + 1)).toNat : Int), .int .u8 (x9.e0.toNat : Int), .int .u8 (x9.e1.toNat : Int), .int .u8 (x9.e2.toNat : Int), .int .u8 (x9.e3.toNat : Int), .int .u8 (x9.e4.toNat : Int), .int .u8 (x9.e5.toNat : Int), .int .u8 (x9.e6.toNat : Int), .int .u8 (x9.e7.toNat : Int), .int .u8 (x9.e8.toNat : Int), .int .u8 (x9.e9.toNat : Int), .int .u8 (x9.e10.toNat : Int), .int .u8 (x9.e11.toNat : Int), .int .u8 (x9.e12.toNat : Int), .int .u8 (x9.e13.toNat : Int), .int .u8 (x9.e14.toNat : Int), .int .u8 (x9.e15.toNat : Int)]) rfl agg29 h3, rfl, trivial⟩, Ret.mk hS ?_⟩
            exact ⟨_, rfl, (clsApiRev (⟨ofI64 ((a0.Gen.toNat : Int) + 1), x9⟩ : ApiRev))⟩
        ·
         refine rt_act rfl rfl ?_
         have hA105 := Step.r0 (KU (KN s32.n) (KU (KC (b22 + 1) 0) (KC (b1 + 1) 0))) s33
         refine k_stb Tryd.underlying9 Tryd.underlying51 Tryd.underlying5 rfl rfl ?_
         intro s106 v106 st106 h106
         have szs106 := st106.size
         have hS := hS.trans0 st106
         have hA105 := hA105.trans0 st106
         replace h1 := h1.up2 st106
         replace h3 := h3.up2 st106
         replace h24 := h24.up2 st106
         refine rt_cont hA105 ?_
         refine rt_alt rfl rfl ?_ ?_
         ·
          have hA107 := Step.r0 (KU (KN s32.n) (KU (KC (b22 + 1) 0) (KC (b1 + 1) 0))) s106
          refine k_load_blk one26 rfl h1 rfl rfl ?_
          refine rt_cont hA107 ?_
          refine rt_read (.int .u64 ((ofI64 ((a0.Gen.toNat : Int) + 1)).toNat : Int)) rfl rfl (fun s108 st108 => ?_) ?_
          ·refine k_add rfl rfl rfl ?_
           refine k_as (congrArg (Value.int .u64) (w64 _)) ?_
           exact fq_end
          refine rt_act rfl rfl ?_
          have hA109 := Step.r0 (KU (KN s32.n) (KU (KC (b22 + 1) 0) (KC (b1 + 1) 0))) s106
          refine k_cut_pt (g := bD) (i := 0) (j := 16) (pre := [.int .u64 (a0.Gen.toNat : Int)]) (post := []) (xs := ([a0.Sum.e0, a0.Sum.e1, a0.Sum.e2, a0.Sum.e3, a0.Sum.e4, a0.Sum.e5, a0.Sum.e6, a0.Sum.e7, a0.Sum.e8, a0.Sum.e9, a0.Sum.e10, a0.Sum.e11, a0.Sum.e12, a0.Sum.e13, a0.Sum.e14, a0.Sum.e15] : List UInt8)) cB (fun _ => rfl) (fun _ => rfl) arr27 rfl h1 rfl rfl CutAt.none CutAt.none (by decide) (by decide) (by decide) rfl ?_
          intro h110
          replace h110 : SL s106 ⟨b1 + 1, 0⟩ (.slice (some ⟨b1, 1 + 0, none⟩) (16 - 0) (16 - 0)) 1 (([a0.Sum.e0, a0.Sum.e1, a0.Sum.e2, a0.Sum.e3, a0.Sum.e4, a0.Sum.e5, a0.Sum.e6, a0.Sum.e7, a0.Sum.e8, a0.Sum.e9, a0.Sum.e10, a0.Sum.e11, a0.Sum.e12, a0.Sum.e13, a0.Sum.e14, a0.Sum.e15] : List UInt8).map bD) := h110
          refine rt_cont hA109 ?_
          refine rt_act rfl rfl ?_
          have hA111 := Step.r0 (KU (KN s32.n) (KU (KC (b22 + 1) 0) (KC (b1 + 1) 0))) s106
          obtain ⟨s112, e112, st112, h112⟩ := h24.freeze
          rw [← e112]
          have szs112 := st112.size
          have hS := hS.c0 st112
          have hA111 := hA111.c0 st112
          replace h106 := h106.up2 st112
          replace h1 := h1.up2 st112
          replace h3 := h3.up2 st112
          obtain ⟨s113, e113, st113, h113⟩ := h1.freeze (by first | (simp; done) | omega | (dsimp only; omega))
          rw [← e113]
          have szs113 := st113.size
          have hS := hS.c0 st113
          have hA111 := hA111.c0 st113
          replace h112 := h112.up2 st113
          replace h106 := h106.up2 st113
          replace h3 := h3.up2 st113
          have h114 : R s113 (.slice (some ⟨b1, 1 + 0, none⟩) (16 - 0) (16 - 0)) (.sl 1 (([a0.Sum.e0, a0.Sum.e1, a0.Sum.e2, a0.Sum.e3, a0.Sum.e4, a0.Sum.e5, a0.Sum.e6, a0.Sum.e7, a0.Sum.e8, a0.Sum.e9, a0.Sum.e10, a0.Sum.e11, a0.Sum.e12, a0.Sum.e13, a0.Sum.e14, a0.Sum.e15] : List UInt8).map bD)) := R.of_SL (Blk.cutSL (g := bD) (i := 0) (j := 16) (pre := [.int .u64 (a0.Gen.toNat : Int)]) (post := []) (xs := ([a0.Sum.e0, a0.Sum.e1, a0.Sum.e2, a0.Sum.e3, a0.Sum.e4, a0.Sum.e5, a0.Sum.e6, a0.Sum.e7, a0.Sum.e8, a0.Sum.e9, a0.Sum.e10, a0.Sum.e11, a0.Sum.e12, a0.Sum.e13, a0.Sum.e14, a0.Sum.e15] : List UInt8)) cB (fun _ => rfl) (fun _ => rfl) h113 rfl rfl (by decide) (by decide))
          refine k_bslice2 (ds := ([x5, ([a0.Sum.e0, a0.Sum.e1, a0.Sum.e2, a0.Sum.e3, a0.Sum.e4, a0.Sum.e5, a0.Sum.e6, a0.Sum.e7, a0.Sum.e8, a0.Sum.e9, a0.Sum.e10, a0.Sum.e11, a0.Sum.e12, a0.Sum.e13, a0.Sum.e14, a0.Sum.e15] : List UInt8), x1.1] : List (List UInt8)).map (dL 1 bD)) slc68 rfl (RVs.cons h112 (RVs.cons h114 (RVs.cons h106 RVs.nil))) (by rfl) (by rfl) rfl rfl ?_
          intro s115 v115 b115 st115 ge115 bl115 h115
          have szs115 := st115.size
          have hS := hS.trans0 st115
          have hA111 := hA111.trans0 st115
          replace h3 := h3.up2 st115
          have lt115 := Own.le1 h115
          refine rt_cont hA111 ?_
          refine rt_act rfl rfl ?_
          have hA116 := Step.r0 (KU (KN s32.n) (KU (KC (b22 + 1) 0) (KC (b1 + 1) 0))) s115
          refine k_call cal21 rfl (digest_Short_w  (h115.sl) hx9) rfl ?_
          rintro s117 vr117 st117 ⟨cs117_0, rfl, h117_0⟩
          have szs117 := st117.size
          have hS := hS.trans0 st117
          have hA116 := hA116.trans0 st117
          replace h3 := h3.up2 st117
          obtain rfl := opnSt27 h117_0
          refine rt_cont hA116 ?_
          refine rt_fin ?_
          refine k_build plc29 zero29 rfl (Parts.cons (CellsOf.lit rfl rfl).1 (Parts.cons (CellsOf.lit rfl rfl).1 Parts.nil)) (by rfl) rfl ?_
          refine k_as (v := .agg #[.int .u64 ((ofI64 ((a0.Gen.toNat : Int) + 1)).toNat : Int), .int .u8 (x9.e0.toNat : Int), .int .u8 (x9.e1.toNat : Int), .int .u8 (x9.e2.toNat : Int), .int .u8 (x9.e3.toNat : Int), .int .u8 (x9.e4.toNat : Int), .int .u8 (x9.e5.toNat : Int), .int .u8 (x9.e6.toNat : Int), .int .u8 (x9.e7.toNat : Int), .int .u8 (x9.e8.toNat : Int), .int .u8 (x9.e9.toNat : Int), .int .u8 (x9.e10.toNat : Int), .int .u8 (x9.e11.toNat : Int), .int .u8 (x9.e12.toNat : Int), .int .u8 (x9.e13.toNat : Int), .int .u8 (x9.e14.toNat : Int), .int .u8 (x9.e15.toNat : Int)]) rfl ?_
          refine k_store_c (cs' := [.int .u64 ((ofI64 ((a0.Gen.toNat : Int) + 1)).toNat : Int), .int .u8 (x9.e0.toNat : Int), .int .u8 (x9.e1.toNat : Int), .int .u8 (x9.e2.toNat : Int), .int .u8 (x9.e3.toNat : Int), .int .u8 (x9.e4.toNat : Int), .int .u8 (x9.e5.toNat : Int), .int .u8 (x9.e6.toNat : Int), .int .u8 (x9.e7.toNat : Int), .int .u8 (x9.e8.toNat : Int), .int .u8 (x9.e9.toNat : Int), .int .u8 (x9.e10.toNat : Int), .int .u8 (x9.e11.toNat : Int), .int .u8 (x9.e12.toNat : Int), .int .u8 (x9.e13.toNat : Int), .int .u8 (x9.e14.toNat : Int), .int .u8 (x9.e15.toNat : Int)]) size29 rfl rfl h3 (by first | (simp; done) | omega | (dsimp only; omega)) (CellsOf.lit rfl rfl) rfl (by first | rfl | (simp; done) | (simp; omega)) rfl ?_
          intro s118 st118 h3
          have szs118 := st118.size
          have hS := hS.c0 st118
          refine k_assign rfl rfl ?_
          refine k_nil ?_
          refine k_keep [(6, _), (7, _)] ⟨rfl, rfl, trivial⟩ ?_
          refine k_ret ?_
          obtain rfl := Option.some.inj h
          refine ⟨[.agg [.int .u64 ((ofI64 ((a0.Gen.toNat : Int) + 1)).toNat : Int), .int .u8 (x9.e0.toNat : Int), .int .u8 (x9.e1.toNat : Int), .int .u8 (x9.e2.toNat : Int), .int .u8 (x9.e3.toNat : Int), .int .u8 (x9.e4.toNat : Int), .int .u8 (x9.e5.toNat : Int), .int .u8 (x9.e6.toNat : Int), .int .u8 (x9.e7.toNat : Int), .int .u8 (x9.e8.toNat : Int), .int .u8 (x9.e9.toNat : Int), .int .u8 (x9.e10.toNat : Int), .int .u8 (x9.e11.toNat : Int), .int .u8 (x9.e12.toNat : Int), .int .u8 (x9.e13.toNat : Int), .int .u8 (x9.e14.toNat : Int), .int .u8 (x9.e15.toNat : Int)].toArray, .int .i64 0], ⟨res_blk (cs := [.int .u64 ((ofI64 ((a0.Gen.toNat : Int) + 1)).toNat : Int), .int .u8 (x9.e0.toNat : Int), .int .u8 (x9.e1.toNat : Int), .int .u8 (x9.e2.toNat : Int), .int .u8 (x9.e3.toNat : Int), .int .u8 (x9.e4.toNat : Int), .int .u8 (x9.e5.toNat : Int), .int .u8 (x9.e6.toNat : Int), .int .u8 (x9.e7.toNat : Int), .int .u8 (x9.e8.toNat : Int), .int .u8 (x9.e9.toNat : Int), .int .u8 (x9.e10.toNat : Int), .int .u8 (x9.e11.toNat : Int), .int .u8 (x9.e12.toNat : Int), .int .u8 (x9.e13.toNat : Int), .int .u8 (x9.e14.toNat : Int), .int .u8 (x9.e15.toNat : Int)]) rfl agg29 h3, rfl, trivial⟩, Ret.mk hS ?_⟩
          exact ⟨_, rfl, (clsApiRev (⟨ofI64 ((a0.Gen.toNat : Int) + 1), x9⟩ : ApiRev))⟩
         ·
          refine rt_act rfl rfl ?_
          have hA119 := Step.r0 (KU (KN s32.n) (KU (KC (b22 + 1) 0) (KC (b1 + 1) 0))) s106
          refine k_cut_pt (g := bD) (i := 0) (j := 16) (pre := [.int .u64 (a0.Gen.toNat : Int)]) (post := []) (xs := ([a0.Sum.e0, a0.Sum.e1, a0.Sum.e2, a0.Sum.e3, a0.Sum.e4, a0.Sum.e5, a0.Sum.e6, a0.Sum.e7, a0.Sum.e8, a0.Sum.e9, a0.Sum.e10, a0.Sum.e11, a0.Sum.e12, a0.Sum.e13, a0.Sum.e14, a0.Sum.e15] : List UInt8)) cB (fun _ => rfl) (fun _ => rfl) arr27 rfl h1 rfl rfl CutAt.none CutAt.none (by decide) (by decide) (by decide) rfl ?_
          intro h120
          replace h120 : SL s106 ⟨b1 + 1, 0⟩ (.slice (some ⟨b1, 1 + 0, none⟩) (16 - 0) (16 - 0)) 1 (([a0.Sum.e0, a0.Sum.e1, a0.Sum.e2, a0.Sum.e3, a0.Sum.e4, a0.Sum.e5, a0.Sum.e6, a0.Sum.e7, a0.Sum.e8, a0.Sum.e9, a0.Sum.e10, a0.Sum.e11, a0.Sum.e12, a0.Sum.e13, a0.Sum.e14, a0.Sum.e15] : List UInt8).map bD) := h120
          refine rt_cont hA119 ?_
          refine rt_alt rfl rfl ?_ ?_
          ·
           have hA121 := Step.r0 (KU (KN s32.n) (KU (KC (b22 + 1) 0) (KC (b1 + 1) 0))) s106
           refine k_load_blk one26 rfl h1 rfl rfl ?_
           refine rt_cont hA121 ?_
           refine rt_read (.int .u64 ((ofI64 ((a0.Gen.toNat : Int) + 1)).toNat : Int)) rfl rfl (fun s122 st122 => ?_) ?_
           ·refine k_add rfl rfl rfl ?_
            refine k_as (congrArg (Value.int .u64) (w64 _)) ?_
            exact fq_end
           refine rt_act rfl rfl ?_
           have hA123 := Step.r0 (KU (KN s32.n) (KU (KC (b22 + 1) 0) (KC (b1 + 1) 0))) s106
           obtain ⟨s124, e124, st124, h124⟩ := h24.freeze
           rw [← e124]
           have szs124 := st124.size
           have hS := hS.c0 st124
           have hA123 := hA123.c0 st124
           replace h106 := h106.up2 st124
           replace h1 := h1.up2 st124
           replace h3 := h3.up2 st124
           obtain ⟨s125, e125, st125, h125⟩ := h1.freeze (by first | (simp; done) | omega | (dsimp only; omega))
           rw [← e125]
           have szs125 := st125.size
           have hS := hS.c0 st125
           have hA123 := hA123.c0 st125
           replace h124 := h124.up2 st125
           replace h106 := h106.up2 st125
           replace h3 := h3.up2 st125
           have h126 : R s125 (.slice (some ⟨b1, 1 + 0, none⟩) (16 - 0) (16 - 0)) (.sl 1 (([a0.Sum.e0, a0.Sum.e1, a0.Sum.e2, a0.Sum.e3, a0.Sum.e4, a0.Sum.e5, a0.Sum.e6, a0.Sum.e7, a0.Sum.e8, a0.Sum.e9, a0.Sum.e10, a0.Sum.e11, a0.Sum.e12, a0.Sum.e13, a0.Sum.e14, a0.Sum.e15] : List UInt8).map bD)) := R.of_SL (Blk.cutSL (g := bD) (i := 0) (j := 16) (pre := [.int .u64 (a0.Gen.toNat : Int)]) (post := []) (xs := ([a0.Sum.e0, a0.Sum.e1, a0.Sum.e2, a0.Sum.e3, a0.Sum.e4, a0.Sum.e5, a0.Sum.e6, a0.Sum.e7, a0.Sum.e8, a0.Sum.e9, a0.Sum.e10, a0.Sum.e11, a0.Sum.e12, a0.Sum.e13, a0.Sum.e14, a0.Sum.e15] : List UInt8)) cB (fun _ => rfl) (fun _ => rfl) h125 rfl rfl (by decide) (by decide))
           refine k_bslice2 (ds := ([x5, ([a0.Sum.e0, a0.Sum.e1, a0.Sum.e2, a0.Sum.e3, a0.Sum.e4, a0.Sum.e5, a0.Sum.e6, a0.Sum.e7, a0.Sum.e8, a0.Sum.e9, a0.Sum.e10, a0.Sum.e11, a0.Sum.e12, a0.Sum.e13, a0.Sum.e14, a0.Sum.e15] : List UInt8), x1.1] : List (List UInt8)).map (dL 1 bD)) slc68 rfl (RVs.cons h124 (RVs.cons h126 (RVs.cons h106 RVs.nil))) (by rfl) (by rfl) rfl rfl ?_
           intro s127 v127 b127 st127 ge127 bl127 h127
           have szs127 := st127.size
           have hS := hS.trans0 st127
           have hA123 := hA123.trans0 st127
           replace h3 := h3.up2 st127
           have lt127 := Own.le1 h127
           refine rt_cont hA123 ?_
           refine rt_act rfl rfl ?_
           have hA128 := Step.r0 (KU (KN s32.n) (KU (KC (b22 + 1) 0) (KC (b1 + 1) 0))) s127
           refine k_call cal21 rfl (digest_Short_w  (h127.sl) hx9) rfl ?_
           rintro s129 vr129 st129 ⟨cs129_0, rfl, h129_0⟩
           have szs129 := st129.size
           have hS := hS.trans0 st129
           have hA128 := hA128.trans0 st129
           replace h3 := h3.up2 st129
           obtain rfl := opnSt27 h129_0
           refine rt_cont hA128 ?_
           refine rt_fin ?_
           refine k_build plc29 zero29 rfl (Parts.cons (CellsOf.lit rfl rfl).1 (Parts.cons (CellsOf.lit rfl rfl).1 Parts.nil)) (by rfl) rfl ?_
           refine k_as (v := .agg #[.int .u64 ((ofI64 ((a0.Gen.toNat : Int) + 1)).toNat : Int), .int .u8 (x9.e0.toNat : Int), .int .u8 (x9.e1.toNat : Int), .int .u8 (x9.e2.toNat : Int), .int .u8 (x9.e3.toNat : Int), .int .u8 (x9.e4.toNat : Int), .int .u8 (x9.e5.toNat : Int), .int .u8 (x9.e6.toNat : Int), .int .u8 (x9.e7.toNat : Int), .int .u8 (x9.e8.toNat : Int), .int .u8 (x9.e9.toNat : Int), .int .u8 (x9.e10.toNat : Int), .int .u8 (x9.e11.toNat : Int), .int .u8 (x9.e12.toNat : Int), .int .u8 (x9.e13.toNat : Int), .int .u8 (x9.e14.toNat : Int), .int .u8 (x9.e15.toNat : Int)]) rfl ?_
           refine k_store_c (cs' := [.int .u64 ((ofI64 ((a0.Gen.toNat : Int) + 1)).toNat : Int), .int .u8 (x9.e0.toNat : Int), .int .u8 (x9.e1.toNat : Int), .int .u8 (x9.e2.toNat : Int), .int .u8 (x9.e3.toNat : Int), .int .u8 (x9.e4.toNat : Int), .int .u8 (x9.e5.toNat : Int), .int .u8 (x9.e6.toNat : Int), .int .u8 (x9.e7.toNat : Int), .int .u8 (x9.e8.toNat : Int), .int .u8 (x9.e9.toNat : Int), .int .u8 (x9.e10.toNat : Int), .int .u8 (x9.e11.toNat : Int), .int .u8 (x9.e12.toNat : Int), .int .u8 (x9.e13.toNat : Int), .int .u8 (x9.e14.toNat : Int), .int .u8 (x9.e15.toNat : Int)]) size29 rfl rfl h3 (by first | (simp; done) | omega | (dsimp only; omega)) (CellsOf.lit rfl rfl) rfl (by first | rfl | (simp; done) | (simp; omega)) rfl ?_
           intro s130 st130 h3
           have szs130 := st130.size
           have hS := hS.c0 st130
           refine k_assign rfl rfl ?_
           refine k_nil ?_
           refine k_keep [(6, _), (7, _)] ⟨rfl, rfl, trivial⟩ ?_
           refine k_ret ?_
           obtain rfl := Option.some.inj h
           refine ⟨[.agg [.int .u64 ((ofI64 ((a0.Gen.toNat : Int) + 1)).toNat : Int), .int .u8 (x9.e0.toNat : Int), .int .u8 (x9.e1.toNat : Int), .int .u8 (x9.e2.toNat : Int), .int .u8 (x9.e3.toNat : Int), .int .u8 (x9.e4.toNat : Int), .int .u8 (x9.e5.toNat : Int), .int .u8 (x9.e6.toNat : Int), .int .u8 (x9.e7.toNat : Int), .int .u8 (x9.e8.toNat : Int), .int .u8 (x9.e9.toNat : Int), .int .u8 (x9.e10.toNat : Int), .int .u8 (x9.e11.toNat : Int), .int .u8 (x9.e12.toNat : Int), .int .u8 (x9.e13.toNat : Int), .int .u8 (x9.e14.toNat : Int), .int .u8 (x9.e15.toNat : Int)].toArray, .int .i64 0], ⟨res_blk (cs := [.int .u64 ((ofI64 ((a0.Gen.toNat : Int) + 1)).toNat : Int), .int .u8 (x9.e0.toNat : Int), .int .u8 (x9.e1.toNat : Int), .int .u8 (x9.e2.toNat : Int), .int .u8 (x9.e3.toNat : Int), .int .u8 (x9.e4.toNat : Int), .int .u8 (x9.e5.toNat : Int), .int .u8 (x9.e6.toNat : Int), .int .u8 (x9.e7.toNat : Int), .int .u8 (x9.e8.toNat : Int), .int .u8 (x9.e9.toNat : Int), .int .u8 (x9.e10.toNat : Int), .int .u8 (x9.e11.toNat : Int), .int .u8 (x9.e12.toNat : Int), .int .u8 (x9.e13.toNat : Int), .int .u8 (x9.e14.toNat : Int), .int .u8 (x9.e15.toNat : Int)]) rfl agg29 h3, rfl, trivial⟩, Ret.mk hS ?_⟩
           exact ⟨_, rfl, (clsApiRev (⟨ofI64 ((a0.Gen.toNat : Int) + 1), x9⟩ : ApiRev))⟩
          ·
           refine rt_act rfl rfl ?_
           have hA131 := Step.r0 (KU (KN s32.n) (KU (KC (b22 + 1) 0) (KC (b1 + 1) 0))) s106
           obtain ⟨s132, e132, st132, h132⟩ := h24.freeze
           rw [← e132]
           have szs132 := st132.size
           have hS := hS.c0 st132
           have hA131 := hA131.c0 st132
           replace h106 := h106.up2 st132
           replace h1 := h1.up2 st132
           replace h3 := h3.up2 st132
           obtain ⟨s133, e133, st133, h133⟩ := h1.freeze (by first | (simp; done) | omega | (dsimp only; omega))
           rw [← e133]
           have szs133 := st133.size
           have hS := hS.c0 st133
           have hA131 := hA131.c0 st133
           replace h132 := h132.up2 st133
           replace h106 := h106.up2 st133
           replace h3 := h3.up2 st133
           have h134 : R s133 (.slice (some ⟨b1, 1 + 0, none⟩) (16 - 0) (16 - 0)) (.sl 1 (([a0.Sum.e0, a0.Sum.e1, a0.Sum.e2, a0.Sum.e3, a0.Sum.e4, a0.Sum.e5, a0.Sum.e6, a0.Sum.e7, a0.Sum.e8, a0.Sum.e9, a0.Sum.e10, a0.Sum.e11, a0.Sum.e12, a0.Sum.e13, a0.Sum.e14, a0.Sum.e15] : List UInt8).map bD)) := R.of_SL (Blk.cutSL (g := bD) (i := 0) (j := 16) (pre := [.int .u64 (a0.Gen.toNat : Int)]) (post := []) (xs := ([a0.Sum.e0, a0.Sum.e1, a0.Sum.e2, a0.Sum.e3, a0.Sum.e4, a0.Sum.e5, a0.Sum.e6, a0.Sum.e7, a0.Sum.e8, a0.Sum.e9, a0.Sum.e10, a0.Sum.e11, a0.Sum.e12, a0.Sum.e13, a0.Sum.e14, a0.Sum.e15] : List UInt8)) cB (fun _ => rfl) (fun _ => rfl) h133 rfl rfl (by decide) (by decide))
           refine k_bslice2 (ds := ([x5, ([a0.Sum.e0, a0.Sum.e1, a0.Sum.e2, a0.Sum.e3, a0.Sum.e4, a0.Sum.e5, a0.Sum.e6, a0.Sum.e7, a0.Sum.e8, a0.Sum.e9, a0.Sum.e10, a0.Sum.e11, a0.Sum.e12, a0.Sum.e13, a0.Sum.e14, a0.Sum.e15] : List UInt8), x1.1] : List (List UInt8)).map (dL 1 bD)) slc68 rfl (RVs.cons h132 (RVs.cons h134 (RVs.cons h106 RVs.nil))) (by rfl) (by rfl) rfl rfl ?_
           intro s135 v135 b135 st135 ge135 bl135 h135
           have szs135 := st135.size
           have hS := hS.trans0 st135
           have hA131 := hA131.trans0 st135
           replace h133 := h133.up2 st135
           replace h3 := h3.up2 st135
           have lt135 := Own.le1 h135
           refine rt_cont hA131 ?_
           refine rt_alt rfl rfl ?_ ?_
           ·
            have hA136 := Step.r0 (KU (KN s32.n) (KU (KC (b22 + 1) 0) (KC (b1 + 1) 0))) s135
            refine k_load_blk one26 rfl h133 rfl rfl ?_
            refine rt_cont hA136 ?_
            refine rt_read (.int .u64 ((ofI64 ((a0.Gen.toNat : Int) + 1)).toNat : Int)) rfl rfl (fun s137 st137 => ?_) ?_
            ·refine k_add rfl rfl rfl ?_
             refine k_as (congrArg (Value.int .u64) (w64 _)) ?_
             exact fq_end
            refine rt_act rfl rfl ?_
            have hA138 := Step.r0 (KU (KN s32.n) (KU (KC (b22 + 1) 0) (KC (b1 + 1) 0))) s135
            refine k_call cal21 rfl (digest_Short_w  (h135.sl) hx9) rfl ?_
            rintro s139 vr139 st139 ⟨cs139_0, rfl, h139_0⟩
            have szs139 := st139.size
            have hS := hS.trans0 st139
            have hA138 := hA138.trans0 st139
            replace h3 := h3.up2 st139
            obtain rfl := opnSt27 h139_0
            refine rt_cont hA138 ?_
            refine rt_fin ?_
            refine k_build plc29 zero29 rfl (Parts.cons (CellsOf.lit rfl rfl).1 (Parts.cons (CellsOf.lit rfl rfl).1 Parts.nil)) (by rfl) rfl ?_
            refine k_as (v := .agg #[.int .u64 ((ofI64 ((a0.Gen.toNat : Int) + 1)).toNat : Int), .int .u8 (x9.e0.toNat : Int), .int .u8 (x9.e1.toNat : Int), .int .u8 (x9.e2.toNat : Int), .int .u8 (x9.e3.toNat : Int), .int .u8 (x9.e4.toNat : Int), .int .u8 (x9.e5.toNat : Int), .int .u8 (x9.e6.toNat : Int), .int .u8 (x9.e7.toNat : Int), .int .u8 (x9.e8.toNat : Int), .int .u8 (x9.e9.toNat : Int), .int .u8 (x9.e10.toNat : Int), .int .u8 (x9.e11.toNat : Int), .int .u8 (x9.e12.toNat : Int), .int .u8 (x9.e13.toNat : Int), .int .u8 (x9.e14.toNat : Int), .int .u8 (x9.e15.toNat : Int)]) rfl ?_
            refine k_store_c (cs' := [.int .u64 ((ofI64 ((a0.Gen.toNat : Int) + 1)).toNat : Int), .int .u8 (x9.e0.toNat : Int), .int .u8 (x9.e1.toNat : Int), .int .u8 (x9.e2.toNat : Int), .int .u8 (x9.e3.toNat : Int), .int .u8 (x9.e4.toNat : Int), .int .u8 (x9.e5.toNat : Int), .int .u8 (x9.e6.toNat : Int), .int .u8 (x9.e7.toNat : Int), .int .u8 (x9.e8.toNat : Int), .int .u8 (x9.e9.toNat : Int), .int .u8 (x9.e10.toNat : Int), .int .u8 (x9.e11.toNat : Int), .int .u8 (x9.e12.toNat : Int), .int .u8 (x9.e13.toNat : Int), .int .u8 (x9.e14.toNat : Int), .int .u8 (x9.e15.toNat : Int)]) size29 rfl rfl h3 (by first | (simp; done) | omega | (dsimp only; omega)) (CellsOf.lit rfl rfl) rfl (by first | rfl | (simp; done) | (simp; omega)) rfl ?_
            intro s140 st140 h3
            have szs140 := st140.size
            have hS := hS.c0 st140
            refine k_assign rfl rfl ?_
            refine k_nil ?_
            refine k_keep [(6, _), (7, _)] ⟨rfl, rfl, trivial⟩ ?_
            refine k_ret ?_
            obtain rfl := Option.some.inj h
            refine ⟨[.agg [.int .u64 ((ofI64 ((a0.Gen.toNat : Int) + 1)).toNat : Int), .int .u8 (x9.e0.toNat : Int), .int .u8 (x9.e1.toNat : Int), .int .u8 (x9.e2.toNat : Int), .int .u8 (x9.e3.toNat : Int), .int .u8 (x9.e4.toNat : Int), .int .u8 (x9.e5.toNat : Int), .int .u8 (x9.e6.toNat : Int), .int .u8 (x9.e7.toNat : Int), .int .u8 (x9.e8.toNat : Int), .int .u8 (x9.e9.toNat : Int), .int .u8 (x9.e10.toNat : Int), .int .u8 (x9.e11.toNat : Int), .int .u8 (x9.e12.toNat : Int), .int .u8 (x9.e13.toNat : Int), .int .u8 (x9.e14.toNat : Int), .int .u8 (x9.e15.toNat : Int)].toArray, .int .i64 0], ⟨res_blk (cs := [.int .u64 ((ofI64 ((a0.Gen.toNat : Int) + 1)).toNat : Int), .int .u8 (x9.e0.toNat : Int), .int .u8 (x9.e1.toNat : Int), .int .u8 (x9.e2.toNat : Int), .int .u8 (x9.e3.toNat : Int), .int .u8 (x9.e4.toNat : Int), .int .u8 (x9.e5.toNat : Int), .int .u8 (x9.e6.toNat : Int), .int .u8 (x9.e7.toNat : Int), .int .u8 (x9.e8.toNat : Int), .int .u8 (x9.e9.toNat : Int), .int .u8 (x9.e10.toNat : Int), .int .u8 (x9.e11.toNat : Int), .int .u8 (x9.e12.toNat : Int), .int .u8 (x9.e13.toNat : Int), .int .u8 (x9.e14.toNat : Int), .int .u8 (x9.e15.toNat : Int)]) rfl agg29 h3, rfl, trivial⟩, Ret.mk hS ?_⟩
            exact ⟨_, rfl, (clsApiRev (⟨ofI64 ((a0.Gen.toNat : Int) + 1), x9⟩ : ApiRev))⟩
           ·
            refine rt_act rfl rfl ?_
            have hA141 := Step.r0 (KU (KN s32.n) (KU (KC (b22 + 1) 0) (KC (b1 + 1) 0))) s135
            refine k_call cal21 rfl (digest_Short_w  (h135.sl) hx9) rfl ?_
            rintro s142 vr142 st142 ⟨cs142_0, rfl, h142_0⟩
            have szs142 := st142.size
            have hS := hS.trans0 st142
            have hA141 := hA141.trans0 st142
            replace h133 := h133.up2 st142
            replace h3 := h3.up2 st142
            obtain rfl := opnSt27 h142_0
            refine rt_cont hA141 ?_
            refine rt_act rfl rfl ?_
            have hA143 := Step.r0 (KU (KN s32.n) (KU (KC (b22 + 1) 0) (KC (b1 + 1) 0))) s142
            refine k_load_blk one26 rfl h133 rfl rfl ?_
            refine rt_cont hA143 ?_
            refine rt_read (.int .u64 ((ofI64 ((a0.Gen.toNat : Int) + 1)).toNat : Int)) rfl rfl (fun s144 st144 => ?_) ?_
            ·refine k_add rfl rfl rfl ?_
             refine k_as (congrArg (Value.int .u64) (w64 _)) ?_
             exact fq_end
            refine rt_fin ?_
            refine k_build plc29 zero29 rfl (Parts.cons (CellsOf.lit rfl rfl).1 (Parts.cons (CellsOf.lit rfl rfl).1 Parts.nil)) (by rfl) rfl ?_
            refine k_as (v := .agg #[.int .u64 ((ofI64 ((a0.Gen.toNat : Int) + 1)).toNat : Int), .int .u8 (x9.e0.toNat : Int), .int .u8 (x9.e1.toNat : Int), .int .u8 (x9.e2.toNat : Int), .int .u8 (x9.e3.toNat : Int), .int .u8 (x9.e4.toNat : Int), .int .u8 (x9.e5.toNat : Int), .int .u8 (x9.e6.toNat : Int), .int .u8 (x9.e7.toNat : Int), .int .u8 (x9.e8.toNat : Int), .int .u8 (x9.e9.toNat : Int), .int .u8 (x9.e10.toNat : Int), .int .u8 (x9.e11.toNat : Int), .int .u8 (x9.e12.toNat : Int), .int .u8 (x9.e13.toNat : Int), .int .u8 (x9.e14.toNat : Int), .int .u8 (x9.e15.toNat : Int)]) rfl ?_
            refine k_store_c (cs' := [.int .u64 ((ofI64 ((a0.Gen.toNat : Int) + 1)).toNat : Int), .int .u8 (x9.e0.toNat : Int), .int .u8 (x9.e1.toNat : Int), .int .u8 (x9.e2.toNat : Int), .int .u8 (x9.e3.toNat : Int), .int .u8 (x9.e4.toNat : Int), .int .u8 (x9.e5.toNat : Int), .int .u8 (x9.e6.toNat : Int), .int .u8 (x9.e7.toNat : Int), .int .u8 (x9.e8.toNat : Int), .int .u8 (x9.e9.toNat : Int), .int .u8 (x9.e10.toNat : Int), .int .u8 (x9.e11.toNat : Int), .int .u8 (x9.e12.toNat : Int), .int .u8 (x9.e13.toNat : Int), .int .u8 (x9.e14.toNat : Int), .int .u8 (x9.e15.toNat : Int)]) size29 rfl rfl h3 (by first | (simp; done) | omega | (dsimp only; omega)) (CellsOf.lit rfl rfl) rfl (by first | rfl | (simp; done) | (simp; omega)) rfl ?_
            intro s145 st145 h3
            have szs145 := st145.size
            have hS := hS.c0 st145
            refine k_assign rfl rfl ?_
            refine k_nil ?_
            refine k_keep [(6, _), (7, _)] ⟨rfl, rfl, trivial⟩ ?_
            refine k_ret ?_
            obtain rfl := Option.some.inj h
            refine ⟨[.agg [.int .u64 ((ofI64 ((a0.Gen.toNat : Int) + 1)).toNat : Int), .int .u8 (x9.e0.toNat : Int), .int .u8 (x9.e1.toNat : Int), .int .u8 (x9.e2.toNat : Int), .int .u8 (x9.e3.toNat : Int), .int .u8 (x9.e4.toNat : Int), .int .u8 (x9.e5.toNat : Int), .int .u8 (x9.e6.toNat : Int), .int .u8 (x9.e7.toNat : Int), .int .u8 (x9.e8.toNat : Int), .int .u8 (x9.e9.toNat : Int), .int .u8 (x9.e10.toNat : Int), .int .u8 (x9.e11.toNat : Int), .int .u8 (x9.e12.toNat : Int), .int .u8 (x9.e13.toNat : Int), .int .u8 (x9.e14.toNat : Int), .int .u8 (x9.e15.toNat : Int)].toArray, .int .i64 0], ⟨res_blk (cs := [.int .u64 ((ofI64 ((a0.Gen.toNat : Int) + 1)).toNat : Int), .int .u8 (x9.e0.toNat : Int), .int .u8 (x9.e1.toNat : Int), .int .u8 (x9.e2.toNat : Int), .int .u8 (x9.e3.toNat : Int), .int .u8 (x9.e4.toNat : Int), .int .u8 (x9.e5.toNat : Int), .int .u8 (x9.e6.toNat : Int), .int .u8 (x9.e7.toNat : Int), .int .u8 (x9.e8.toNat : Int), .int .u8 (x9.e9.toNat : Int), .int .u8 (x9.e10.toNat : Int), .int .u8 (x9.e11.toNat : Int), .int .u8 (x9.e12.toNat : Int), .int .u8 (x9.e13.toNat : Int), .int .u8 (x9.e14.toNat : Int), .int .u8 (x9.e15.toNat : Int)]) rfl agg29 h3, rfl, trivial⟩, Ret.mk hS ?_⟩
            exact ⟨_, rfl, (clsApiRev (⟨ofI64 ((a0.Gen.toNat : Int) + 1), x9⟩ : ApiRev))⟩

set_option maxHeartbeats 20000000 in
set_option maxRecDepth 100000 in
theorem stringslite_Cut_w {s : St} {a0 : (List UInt8)} {a1 : (List UInt8)} {r : ((List UInt8) × (List UInt8) × Bool)}  (h : stringslite_Cut a0 a1 = some r) : Calls Tryd.prog 37 #[S a0, S a1] s.w (Ret s K0 (fun s1 v => v = .tuple #[S r.1, S r.2.1, .bool r.2.2])) := by
 unfold stringslite_Cut at h
 have hS := Step.r0 K0 s
 refine k_fn (rs := [4, 5, 6]) (args := [S a0, S a1]) Tryd.func37 rfl rfl rfl rfl ?_
 refine k_seq ?_
 refine k_region ?_
 refine k_assign rfl rfl ?_
 refine k_assign rfl rfl ?_
 refine k_assign rfl rfl ?_
 refine k_nil ?_
 refine k_seq ?_
 refine k_seq ?_
 refine k_region ?_
 refine k_move rfl rfl ?_
 refine k_move rfl rfl ?_
 by_cases c1 : a1.length = 1
 case neg => exact (noneNe (itF h c1)).elim
 replace h := itT h c1
 refine k_call cal52 rfl (slIndex_w (a0 := a0) (a1 := a1) c1) rfl ?_
 rintro s2 _ st2 rfl
 have szs2 := st2.size
 have hS := hS.trans0 st2
 refine k_assign rfl rfl ?_
 refine k_nil ?_
 refine k_keep [(0, _), (1, _), (4, _), (5, _), (6, _), (7, _)] ⟨rfl, rfl, rfl, rfl, rfl, rfl, trivial⟩ ?_
 refine k_seq ?_
 refine k_region ?_
 refine k_move rfl rfl ?_
 refine k_geq rfl rfl rfl ?_
 refine k_nil ?_
 refine k_keep [(0, _), (1, _), (4, _), (5, _), (6, _), (7, _), (12, _)] ⟨rfl, rfl, rfl, rfl, rfl, rfl, rfl, trivial⟩ ?_
 refine k_cond_dec rfl (fun c3 => ?_) (fun c3 => ?_)
 ·
  have h := itT h c3
  refine k_seq ?_
  refine k_keep [(0, _), (1, _), (5, _), (6, _), (7, _)] ⟨rfl, rfl, rfl, rfl, rfl, trivial⟩ ?_
  refine k_drawT (KN s2.n) 10 (.read 0 (.read 1 (.read 2 (.read 3 (.read 4 (.read 5 (.read 6 (.read 7 (.read 8 (.read 9 .fin)))))))))) mixed (by intro c h; (try simp only [KC, KO, KU, KN, KB] at h) <;> omega) rfl rfl rfl ?_
  intro s4 st4
  have szs4 := st4.size
  have hS := hS.trans0 st4
  refine rt_read (S a0) rfl rfl (fun s5 st5 => ?_) ?_
  ·refine k_move rfl rfl ?_
   exact fq_end
  refine rt_read (.int .i64 (Lib.indexByte a0 (a1.headD 0))) rfl rfl (fun s6 st6 => ?_) ?_
  ·refine k_move rfl rfl ?_
   exact fq_end
  obtain ⟨x1, hx1, h⟩ := ob h
  refine rt_read (S x1) rfl rfl (fun s7 st7 => ?_) ?_
  ·refine k_cut_str (i := (0 : Int).toNat) (j := (Lib.indexByte a0 (a1.headD 0) : Int).toNat) Tryd.underlying9 rfl CutAt.none (CutAt.int rfl (Int.le_trans (subl_out hx1).1 (subl_out hx1).2.1)) (subl_ij hx1) (subl_j hx1) rfl ?_
   refine k_as (v := S x1) (congrArg S (subl_out hx1).2.2.2.symm) ?_
   exact fq_end
  refine rt_read (S a0) rfl rfl (fun s8 st8 => ?_) ?_
  ·refine k_move rfl rfl ?_
   exact fq_end
  refine rt_read (.int .i64 (Lib.indexByte a0 (a1.headD 0))) rfl rfl (fun s9 st9 => ?_) ?_
  ·refine k_move rfl rfl ?_
   exact fq_end
  refine rt_read (S a1) rfl rfl (fun s10 st10 => ?_) ?_
  ·refine k_move rfl rfl ?_
   exact fq_end
  refine rt_read (.int .i64 (a1.length : Int)) rfl rfl (fun s11 st11 => ?_) ?_
  ·refine k_len_str Tryd.underlying9 rfl rfl ?_
   exact fq_end
  refine rt_read (.int .i64 (i64 ((Lib.indexByte a0 (a1.headD 0)) + (a1.length : Int)))) rfl rfl (fun s12 st12 => ?_) ?_
  ·refine k_add rfl rfl rfl ?_
   exact fq_end
  obtain ⟨x2, hx2, h⟩ := ob h
  refine rt_read (S x2) rfl rfl (fun s13 st13 => ?_) ?_
  ·refine k_cut_str (i := (i64 ((Lib.indexByte a0 (a1.headD 0)) + (a1.length : Int)) : Int).toNat) (j := ((a0.length : Int) : Int).toNat) Tryd.underlying9 rfl (CutAt.int rfl (subl_out hx2).1) CutAt.none (subl_ij hx2) (subl_j hx2) rfl ?_
   refine k_as (v := S x2) (congrArg S (subl_out hx2).2.2.2.symm) ?_
   exact fq_end
  refine rt_read (S x1) rfl rfl (fun s14 st14 => ?_) ?_
  ·refine k_assign rfl rfl ?_
   exact fq_end
  refine rt_fin ?_
  refine k_assign rfl rfl ?_
  refine k_assign rfl rfl ?_
  refine k_nil ?_
  refine k_keep [(0, _), (4, _), (5, _), (6, _)] ⟨rfl, rfl, rfl, rfl, trivial⟩ ?_
  refine k_ret ?_
  obtain rfl := Option.some.inj h
  refine ⟨_, rfl, Ret.mk hS ?_⟩
  exact rfl
 ·
  have h := itF h c3
  refine k_skip ?_
  refine k_seq ?_
  refine k_region ?_
  refine k_move rfl rfl ?_
  refine k_assign rfl rfl ?_
  refine k_assign rfl rfl ?_
  refine k_assign rfl rfl ?_
  refine k_nil ?_
  refine k_keep [(4, _), (5, _), (6, _)] ⟨rfl, rfl, rfl, trivial⟩ ?_
  refine k_ret ?_
  obtain rfl := Option.some.inj h
  refine ⟨_, rfl, Ret.mk hS ?_⟩
  exact rfl

set_option maxHeartbeats 20000000 in
set_option maxRecDepth 100000 in
theorem strings_Cut_w {s : St} {a0 : (List UInt8)} {a1 : (List UInt8)} {r : ((List UInt8) × (List UInt8) × Bool)}  (h : strings_Cut a0 a1 = some r) : Calls Tryd.prog 26 #[S a0, S a1] s.w (Ret s K0 (fun s1 v => v = .tuple #[S r.1, S r.2.1, .bool r.2.2])) := by
 unfold strings_Cut at h
 have hS := Step.r0 K0 s
 refine k_fn (rs := [4, 5, 6]) (args := [S a0, S a1]) Tryd.func26 rfl rfl rfl rfl ?_
 refine k_seq ?_
 refine k_region ?_
 refine k_assign rfl rfl ?_
 refine k_assign rfl rfl ?_
 refine k_assign rfl rfl ?_
 refine k_nil ?_
 refine k_seq ?_
 refine k_region ?_
 refine k_move rfl rfl ?_
 refine k_move rfl rfl ?_
 obtain ⟨x1, hx1, h⟩ := ob h
 refine k_call cal37 rfl (stringslite_Cut_w   hx1) rfl ?_
 rintro s1 vr1 st1 rfl
 have szs1 := st1.size
 have hS := hS.trans0 st1
 refine k_extract rfl rfl rfl ?_
 refine k_extract rfl rfl rfl ?_
 refine k_extract rfl rfl rfl ?_
 refine k_assign rfl rfl ?_
 refine k_assign rfl rfl ?_
 refine k_assign rfl rfl ?_
 refine k_nil ?_
 refine k_keep [(4, _), (5, _), (6, _)] ⟨rfl, rfl, rfl, trivial⟩ ?_
 refine k_ret ?_
 obtain rfl := Option.some.inj h
 refine ⟨_, rfl, Ret.mk hS ?_⟩
 exact rfl

set_option maxHeartbeats 20000000 in
set_option maxRecDepth 100000 in
theorem strconv_FormatUint_w {s : St} {a0 : UInt64} {a1 : Int} {r : (List UInt8)} (tb2 : Tab2 s) (h : strconv_FormatUint a0 a1 = some r) : Calls Tryd.prog 40 #[.int .u64 (a0.toNat : Int), .int .i64 a1] s.w (Ret s K0 (fun s1 v => v = S r)) := by
 unfold strconv_FormatUint at h
 have hS := Step.r0 K0 s
 refine k_fn (rs := [4]) (args := [.int .u64 (a0.toNat : Int), .int .i64 a1]) Tryd.func40 rfl rfl rfl rfl ?_
 refine k_seq ?_
 refine k_region ?_
 refine k_assign rfl rfl ?_
 refine k_nil ?_
 refine k_seq ?_
 refine k_seq ?_
 refine k_region ?_
 refine k_move rfl rfl ?_
 refine k_eql rfl rfl rfl ?_
 refine k_nil ?_
 refine k_keep [(0, _), (1, _), (4, _), (10, _)] ⟨rfl, rfl, rfl, rfl, trivial⟩ ?_
 refine k_cond_dec rfl (fun c1 => ?_) (fun c1 => ?_)
 ·
  have h := itT h c1
  refine k_seq ?_
  refine k_seq ?_
  refine k_region ?_
  refine k_move rfl rfl ?_
  refine k_lss rfl rfl rfl ?_
  refine k_nil ?_
  refine k_keep [(0, _), (1, _), (4, _), (12, _)] ⟨rfl, rfl, rfl, rfl, trivial⟩ ?_
  refine k_cond_dec rfl (fun c2 => ?_) (fun c2 => ?_)
  ·
   have h := itT h c2
   refine k_seq ?_
   refine k_region ?_
   refine k_move rfl rfl ?_
   refine k_conv (p := (a0.toNat : Int)) Tryd.underlying26 Tryd.underlying3 rfl rfl ?_
   by_cases c3 : 0 ≤ i64 (a0.toNat : Int) ∧ i64 (a0.toNat : Int) < 100
   case neg => exact (noneNe (itF h c3)).elim
   replace h := itT h c3
   refine k_call cal48 rfl (small_w (a0 := (i64 (a0.toNat : Int))) c3) rfl ?_
   rintro s4 _ st4 rfl
   have szs4 := st4.size
   have hS := hS.trans0 st4
   refine k_assign rfl rfl ?_
   refine k_nil ?_
   refine k_keep [(0, _), (1, _), (4, _)] ⟨rfl, rfl, rfl, trivial⟩ ?_
   refine k_ret ?_
   obtain rfl := Option.some.inj h
   refine ⟨_, rfl, Ret.mk hS ?_⟩
   exact rfl
  ·
   have h := itF h c2
   refine k_skip ?_
   refine k_seq ?_
   refine k_region ?_
   refine k_alloc zero87 rfl ?_
   intro s5 b5 st5 h5 ge5
   have szs5 := st5.size
   have hS := hS.trans0 st5
   replace tb2 := tb2.up2 st5
   have lt5 := h5.lt
   refine k_nil ?_
   refine k_keep [(0, _), (1, _), (4, _), (5, _)] ⟨rfl, rfl, rfl, rfl, trivial⟩ ?_
   refine k_seq ?_
   refine k_region ?_
   refine k_move rfl rfl ?_
   by_cases c6 : 1 ≤ a0.toNat
   case neg => exact (noneNe (itF h c6)).elim
   replace h := itT h c6
   refine k_call cal49 rfl (numDigits_w (a0 := a0) tb2 c6) rfl ?_
   rintro s7 _ st7 rfl
   have szs7 := st7.size
   have hS := hS.trans0 st7
   replace h5 := h5.up2 st7
   refine k_assign rfl rfl ?_
   refine k_nil ?_
   refine k_keep [(0, _), (1, _), (4, _), (5, _), (6, _)] ⟨rfl, rfl, rfl, rfl, rfl, trivial⟩ ?_
   refine k_seq ?_
   refine k_region ?_
   refine k_move rfl rfl ?_
   by_cases c9 : 0 ≤ ((decF 30 a0.toNat).length : Int) ∧ ((decF 30 a0.toNat).length : Int) ≤ 24
   case neg => exact (noneNe (itF h c9)).elim
   replace h := itT h c9
   have hj8 : (((decF 30 a0.toNat).length : Int) : Int).toNat ≤ (List.replicate 24 (0 : UInt8)).length := by have hq : (List.replicate 24 (0 : UInt8)).length = 24 := (List.length_replicate); omega
   refine k_cut_rowx (g := bD) (xs := (List.replicate 24 (0 : UInt8))) (j := (((decF 30 a0.toNat).length : Int) : Int).toNat) cB (fun _ => rfl) (fun _ => rfl) arr87 rfl h5 (List.length_replicate) (CutAt.int rfl c9.1) (by omega) rfl ?_
   intro h10
   refine k_move rfl rfl ?_
   by_cases c12 : (decF 30 a0.toNat).length = (((decF 30 a0.toNat).length : Int) : Int).toNat ∧ (((decF 30 a0.toNat).length : Int) : Int).toNat < 1000
   case neg => exact (noneNe (itF h c12)).elim
   replace h := itT h c12
   refine k_call cal50 rfl (fmt10_w (xs := (List.replicate 24 (0 : UInt8))) (a1 := a0) h5 (by first | (simp; done) | omega | (dsimp only; omega)) hj8 c12) rfl ?_
   rintro s11 _ st11 ⟨rfl, h5⟩
   have hl11 : (decF 30 a0.toNat ++ (List.replicate 24 (0 : UInt8)).drop (((decF 30 a0.toNat).length : Int) : Int).toNat).length = 24 := by have hq := hj8; have hq2 : (List.replicate 24 (0 : UInt8)).length = 24 := (List.length_replicate); rw [List.length_append, List.length_drop, c12.1]; omega
   have szs11 := st11.size
   have hS := hS.c0 st11
   refine k_nil ?_
   refine k_keep [(0, _), (1, _), (4, _), (5, _), (6, _)] ⟨rfl, rfl, rfl, rfl, rfl, trivial⟩ ?_
   refine k_seq ?_
   refine k_region ?_
   refine k_move rfl rfl ?_
   by_cases c14 : 0 ≤ ((decF 30 a0.toNat).length : Int) ∧ ((decF 30 a0.toNat).length : Int) ≤ 24
   case neg => exact (noneNe (itF h c14)).elim
   replace h := itT h c14
   have hj13 : (((decF 30 a0.toNat).length : Int) : Int).toNat ≤ (decF 30 a0.toNat ++ (List.replicate 24 (0 : UInt8)).drop (((decF 30 a0.toNat).length : Int) : Int).toNat).length := by have hq : (decF 30 a0.toNat ++ (List.replicate 24 (0 : UInt8)).drop (((decF 30 a0.toNat).length : Int) : Int).toNat).length = 24 := hl11; omega
   refine k_cut_rowx (g := bD) (xs := (decF 30 a0.toNat ++ (List.replicate 24 (0 : UInt8)).drop (((decF 30 a0.toNat).length : Int) : Int).toNat)) (j := (((decF 30 a0.toNat).length : Int) : Int).toNat) cB (fun _ => rfl) (fun _ => rfl) arr87 rfl h5 hl11 (CutAt.int rfl c14.1) (by omega) rfl ?_
   intro h15
   refine k_bts (m := ((decF 30 a0.toNat ++ (List.replicate 24 (0 : UInt8)).drop (((decF 30 a0.toNat).length : Int) : Int).toNat).take (((decF 30 a0.toNat).length : Int) : Int).toNat)) Tryd.underlying51 Tryd.underlying5 Tryd.underlying9 rfl h15 rfl ?_
   refine k_assign rfl rfl ?_
   refine k_nil ?_
   refine k_keep [(0, _), (1, _), (4, _)] ⟨rfl, rfl, rfl, trivial⟩ ?_
   refine k_ret ?_
   obtain rfl := Option.some.inj h
   refine ⟨_, rfl, Ret.mk hS ?_⟩
   exact rfl
 ·
  have h := itF h c1
  refine k_skip ?_
  refine k_seq ?_
  refine k_region ?_
  refine k_move rfl rfl ?_
  refine k_move rfl rfl ?_
  by_cases c16 : (0 : Nat) = 1
  case neg => exact (noneNe (itF h c16)).elim
  replace h := itT h c16
  refine k_call cal51 rfl (show Calls Tryd.prog 51 #[.slice none 0 0, .int .u64 (a0.toNat : Int), .int .i64 a1, .bool false, .bool false] s.w (Ret s K0 (fun _ v => v = .tuple #[.slice none 0 0, S ([] : List UInt8)])) from absurd c16 (by decide)) rfl ?_
  rintro s17 _ st17 rfl
  have szs17 := st17.size
  have hS := hS.trans0 st17
  refine k_move rfl rfl ?_
  refine k_extract rfl rfl rfl ?_
  refine k_extract rfl rfl rfl ?_
  refine k_assign rfl rfl ?_
  refine k_assign rfl rfl ?_
  refine k_nil ?_
  refine k_keep [(4, _), (8, _)] ⟨rfl, rfl, trivial⟩ ?_
  refine k_seq ?_
  refine k_region ?_
  refine k_move rfl rfl ?_
  refine k_assign rfl rfl ?_
  refine k_nil ?_
  refine k_keep [(4, _)] ⟨rfl, trivial⟩ ?_
  refine k_ret ?_
  obtain rfl := Option.some.inj h
  refine ⟨_, rfl, Ret.mk hS ?_⟩
  exact rfl

set_option maxHeartbeats 20000000 in
set_option maxRecDepth 100000 in
theorem strconv_FormatUint_p_w {s : St} {a0 : UInt64} {a1 : Int} {r : (List UInt8)} (tb2 : Tab2 s) (h : strconv_FormatUint_p a0 a1 = some r) : Calls Tryd.prog 28 #[.int .u64 (a0.toNat : Int), .int .i64 a1] s.w (Ret s K0 (fun s1 v => v = S r)) := by
 unfold strconv_FormatUint_p at h
 have hS := Step.r0 K0 s
 refine k_fn (rs := [4]) (args := [.int .u64 (a0.toNat : Int), .int .i64 a1]) Tryd.func28 rfl rfl rfl rfl ?_
 refine k_seq ?_
 refine k_region ?_
 refine k_assign rfl rfl ?_
 refine k_nil ?_
 refine k_seq ?_
 refine k_region ?_
 refine k_move rfl rfl ?_
 refine k_move rfl rfl ?_
 obtain ⟨x1, hx1, h⟩ := ob h
 refine k_call cal40 rfl (strconv_FormatUint_w  tb2 hx1) rfl ?_
 rintro s1 vr1 st1 rfl
 have szs1 := st1.size
 have hS := hS.trans0 st1
 refine k_assign rfl rfl ?_
 refine k_nil ?_
 refine k_keep [(4, _)] ⟨rfl, trivial⟩ ?_
 refine k_ret ?_
 obtain rfl := Option.some.inj h
 refine ⟨_, rfl, Ret.mk hS ?_⟩
 exact rfl

set_option maxHeartbeats 20000000 in
set_option maxRecDepth 100000 in
theorem rev_Parse_w {s : St} {a0 : (List UInt8)} {r : (ApiRev × Int)} (tb0 : Tab0 s) (tb1 : Tab1 s) (tb2 : Tab2 s) (h : rev_Parse a0 = some r) : Calls Tryd.prog 17 #[S a0] s.w (Ret s K0 (fun s1 v => ∃ (u0 : List Value), v = .tuple #[.agg u0.toArray, .int .i64 r.2] ∧ RC s1 u0 (dApiRev r.1))) := by
 unfold rev_Parse at h
 have hS := Step.r0 K0 s
 refine k_fn_c (rs := [.cell 2 29, .tmp 3]) (args := [S a0]) Tryd.func17 rfl rfl rfl rfl ?_
 refine k_seq ?_
 refine k_region ?_
 refine k_alloc zero29 rfl ?_
 intro s1 b1 st1 h1 ge1
 have szs1 := st1.size
 have hS := hS.trans0 st1
 replace tb0 := tb0.up2 st1
 replace tb1 := tb1.up2 st1
 replace tb2 := tb2.up2 st1
 have lt1 := h1.lt
 refine k_assign rfl rfl ?_
 refine k_nil ?_
 refine k_seq ?_
 refine k_region ?_
 refine k_move rfl rfl ?_
 obtain ⟨x1, hx1, h⟩ := ob h
 refine k_call cal26 rfl (strings_Cut_w   hx1) rfl ?_
 rintro s2 vr2 st2 rfl
 have szs2 := st2.size
 have hS := hS.trans0 st2
 replace h1 := h1.up2 st2
 replace tb0 := tb0.up2 st2
 replace tb1 := tb1.up2 st2
 replace tb2 := tb2.up2 st2
 refine k_move rfl rfl ?_
 refine k_extract rfl rfl rfl ?_
 refine k_extract rfl rfl rfl ?_
 refine k_extract rfl rfl rfl ?_
 refine k_alloc zero9 rfl ?_
 intro s3 b3 st3 h3 ge3
 have szs3 := st3.size
 have hS := hS.trans0 st3
 replace h1 := h1.up2 st3
 replace tb0 := tb0.up2 st3
 replace tb1 := tb1.up2 st3
 replace tb2 := tb2.up2 st3
 have lt3 := h3.lt
 refine k_alloc zero4 rfl ?_
 intro s4 b4 st4 h4 ge4
 have szs4 := st4.size
 have hS := hS.trans0 st4
 replace h1 := h1.up2 st4
 replace h3 := h3.up2 st4
 replace tb0 := tb0.up2 st4
 replace tb1 := tb1.up2 st4
 replace tb2 := tb2.up2 st4
 have lt4 := h4.lt
 refine k_assign rfl rfl ?_
 refine k_store_c (cs' := [S x1.2.1]) size9 rfl rfl h3 (by first | (simp; done) | omega | (dsimp only; omega)) (CellsOf.lit rfl rfl) rfl (by first | rfl | (simp; done) | (simp; omega)) rfl ?_
 intro s5 st5 h3
 have szs5 := st5.size
 have hS := hS.c0 st5
 replace h1 := h1.up2 st5
 replace h4 := h4.up2 st5
 replace tb0 := tb0.up2 st5
 replace tb1 := tb1.up2 st5
 replace tb2 := tb2.up2 st5
 refine k_store_c (cs' := [.bool x1.2.2]) size4 rfl rfl h4 (by first | (simp; done) | omega | (dsimp only; omega)) (CellsOf.lit rfl rfl) rfl (by first | rfl | (simp; done) | (simp; omega)) rfl ?_
 intro s6 st6 h4
 have szs6 := st6.size
 have hS := hS.c0 st6
 replace h1 := h1.up2 st6
 replace h3 := h3.up2 st6
 replace tb0 := tb0.up2 st6
 replace tb1 := tb1.up2 st6
 replace tb2 := tb2.up2 st6
 refine k_nil ?_
 refine k_keep [(2, _), (3, _), (4, _), (5, _), (6, _)] ⟨rfl, rfl, rfl, rfl, rfl, trivial⟩ ?_
 refine k_seq ?_
 refine k_region ?_
 refine k_move rfl rfl ?_
 by_cases c7 : x1.1.length ≤ 1000000
 case neg => exact (noneNe (itF h c7)).elim
 replace h := itT h c7
 refine k_call cal27 rfl (parseUint_w (a0 := x1.1) tb0 tb1 c7) rfl ?_
 rintro s8 _ st8 ⟨ev8, rfl, he8⟩
 have szs8 := st8.size
 have hS := hS.trans0 st8
 replace h1 := h1.up2 st8
 replace h3 := h3.up2 st8
 replace h4 := h4.up2 st8
 replace tb2 := tb2.up2 st8
 refine k_move rfl rfl ?_
 refine k_extract rfl rfl rfl ?_
 refine k_extract rfl rfl rfl ?_
 refine k_assign rfl rfl ?_
 refine k_assign rfl rfl ?_
 refine k_nil ?_
 refine k_keep [(2, _), (3, _), (4, _), (5, _), (6, _), (7, _), (8, _)] ⟨rfl, rfl, rfl, rfl, rfl, rfl, rfl, trivial⟩ ?_
 refine k_seq ?_
 refine k_region ?_
 refine k_move rfl rfl ?_
 refine k_build plc29 zero29 rfl (Parts.cons (CellsOf.lit rfl rfl).1 Parts.nil) (by rfl) rfl ?_
 refine k_as (v := .agg #[.int .u64 (((parseUintR x1.1).1).toNat : Int), .int .u8 0, .int .u8 0, .int .u8 0, .int .u8 0, .int .u8 0, .int .u8 0, .int .u8 0, .int .u8 0, .int .u8 0, .int .u8 0, .int .u8 0, .int .u8 0, .int .u8 0, .int .u8 0, .int .u8 0, .int .u8 0]) rfl ?_
 refine k_alloc zero29 rfl ?_
 intro s9 b9 st9 h9 ge9
 have szs9 := st9.size
 have hS := hS.trans0 st9
 replace h1 := h1.up2 st9
 replace h3 := h3.up2 st9
 replace h4 := h4.up2 st9
 replace tb2 := tb2.up2 st9
 have lt9 := h9.lt
 refine k_store_c (cs' := [.int .u64 (((parseUintR x1.1).1).toNat : Int), .int .u8 0, .int .u8 0, .int .u8 0, .int .u8 0, .int .u8 0, .int .u8 0, .int .u8 0, .int .u8 0, .int .u8 0, .int .u8 0, .int .u8 0, .int .u8 0, .int .u8 0, .int .u8 0, .int .u8 0, .int .u8 0]) size29 rfl rfl h9 (by first | (simp; done) | omega | (dsimp only; omega)) (CellsOf.lit rfl rfl) rfl (by first | rfl | (simp; done) | (simp; omega)) rfl ?_
 intro s10 st10 h9
 have szs10 := st10.size
 have hS := hS.c0 st10
 replace h1 := h1.up2 st10
 replace h3 := h3.up2 st10
 replace h4 := h4.up2 st10
 replace tb2 := tb2.up2 st10
 refine k_nil ?_
 refine k_keep [(2, _), (3, _), (4, _), (5, _), (6, _), (7, _), (8, _), (9, _)] ⟨rfl, rfl, rfl, rfl, rfl, rfl, rfl, rfl, trivial⟩ ?_
 refine k_seq ?_
 refine k_region ?_
 refine k_load_blk one4 rfl h4 rfl rfl ?_
 refine k_move rfl rfl ?_
 have hE11 := Step.r0 K0 s10
 refine k_cutl (X := St) 3 [(2, .pointer (some ⟨b1, 0, none⟩)), (3, .int .i64 0), (4, S x1.1), (5, .pointer (some ⟨b3, 0, none⟩)), (6, .pointer (some ⟨b4, 0, none⟩)), (7, .int .u64 (((parseUintR x1.1).1).toNat : Int)), (8, ev8), (9, .pointer (some ⟨b9, 0, none⟩)), (25, .bool x1.2.2)] (fun _ => [(29, .bool (decide ((x1.2.2 = true) ∧ ((!(parseUintR x1.1).2) = true))))]) (fun sl wL => sl.w = wL ∧ Step K0 s10 sl) ?_ ?_
 ·
  refine k_again 26 rfl ?_
  refine k_splitb (fun c12 => ?_) (fun c12 => ?_)
  ·
   refine k_yes rfl rfl ?_
   refine k_move rfl rfl ?_
   refine k_yes rfl rfl ?_
   refine k_eql_err ifcT61 he8 rfl rfl ?_
   refine k_pickT rfl rfl rfl rfl ?_
   exact k_met ⟨s10, ⟨(congrArg (fun b => some (Value.bool b)) (by first | exact decide_eq_decide.2 ⟨fun h => ⟨c12, h⟩, fun h => h.2⟩ | exact (decide_eq_false (fun h => c12 h.1)).symm | (simp [c12]; done) | exact dec_andT c12 | exact dec_andF c12 | exact dec_orF c12 | exact dec_orT c12 | (simp [c12, i64] <;> omega))), trivial⟩, ⟨rfl, rfl, rfl, rfl, rfl, rfl, rfl, rfl, rfl, trivial⟩, rfl, hE11⟩
  ·
   refine k_no rfl rfl rfl rfl ?_
   refine k_no rfl rfl rfl rfl ?_
   refine k_pickF rfl rfl rfl rfl ?_
   exact k_met ⟨s10, ⟨(congrArg (fun b => some (Value.bool b)) (by first | exact decide_eq_decide.2 ⟨fun h => ⟨c12, h⟩, fun h => h.2⟩ | exact (decide_eq_false (fun h => c12 h.1)).symm | (simp [c12]; done) | exact dec_andT c12 | exact dec_andF c12 | exact dec_orF c12 | exact dec_orT c12 | (simp [c12, i64] <;> omega))), trivial⟩, ⟨rfl, rfl, rfl, rfl, rfl, rfl, rfl, rfl, rfl, trivial⟩, rfl, hE11⟩
 ·
  rintro s13 wL ⟨rfl, hE11⟩
  have szs13 := hE11.size
  have hS := hS.trans0 hE11
  replace h1 := h1.up2 hE11
  replace h3 := h3.up2 hE11
  replace h4 := h4.up2 hE11
  replace h9 := h9.up2 hE11
  replace tb2 := tb2.up2 hE11
  refine k_move rfl rfl ?_
  obtain ⟨x2, hx2, h⟩ := ob h
  have hE14 := Step.r0 K0 s13
  refine k_cutl (X := St) 5 [(2, .pointer (some ⟨b1, 0, none⟩)), (3, .int .i64 0), (4, S x1.1), (5, .pointer (some ⟨b3, 0, none⟩)), (6, .pointer (some ⟨b4, 0, none⟩)), (7, .int .u64 (((parseUintR x1.1).1).toNat : Int)), (8, ev8), (9, .pointer (some ⟨b9, 0, none⟩)), (25, .bool x1.2.2), (29, .bool (decide ((x1.2.2 = true) ∧ ((!(parseUintR x1.1).2) = true))))] (fun _ => [(35, .bool x2)]) (fun sl wL => sl.w = wL ∧ Step K0 s13 sl) ?_ ?_
  ·
   refine k_again 30 rfl ?_
   refine k_split (fun c15 => ?_) (fun c15 => ?_)
   ·
    have hx2 := itT hx2 c15
    refine k_yes rfl rfl ?_
    refine k_move rfl rfl ?_
    refine k_yes rfl rfl ?_
    obtain ⟨x3, hx3, hx2⟩ := ob hx2
    refine k_call cal28 rfl (strconv_FormatUint_p_w  tb2 hx3) rfl ?_
    rintro s16 vr16 st16 rfl
    have szs16 := st16.size
    have hS := hS.trans0 st16
    have hE14 := hE14.trans0 st16
    refine k_yes rfl rfl ?_
    refine k_move rfl rfl ?_
    refine k_yes rfl rfl ?_
    refine k_eql_str rfl rfl rfl ?_
    refine k_pickT rfl rfl rfl rfl ?_
    exact k_met ⟨s16, ⟨(congrArg (fun b => some (Value.bool b)) (Option.some.inj hx2)), trivial⟩, ⟨rfl, rfl, rfl, rfl, rfl, rfl, rfl, rfl, rfl, rfl, trivial⟩, rfl, hE14⟩
   ·
    have hx2 := itF hx2 c15
    refine k_no rfl rfl rfl rfl ?_
    refine k_no rfl rfl rfl rfl ?_
    refine k_no rfl rfl rfl rfl ?_
    refine k_no rfl rfl rfl rfl ?_
    refine k_pickF rfl rfl rfl rfl ?_
    exact k_met ⟨s13, ⟨(congrArg (fun b => some (Value.bool b)) (Option.some.inj hx2)), trivial⟩, ⟨rfl, rfl, rfl, rfl, rfl, rfl, rfl, rfl, rfl, rfl, trivial⟩, rfl, hE14⟩
  ·
   rintro s17 wL ⟨rfl, hE14⟩
   have szs17 := hE14.size
   have hS := hS.trans0 hE14
   replace h1 := h1.up2 hE14
   replace h3 := h3.up2 hE14
   replace h4 := h4.up2 hE14
   replace h9 := h9.up2 hE14
   refine k_move rfl rfl ?_
   have hE18 := Step.r0 K0 s17
   refine k_cutl (X := St) 4 [(2, .pointer (some ⟨b1, 0, none⟩)), (3, .int .i64 0), (4, S x1.1), (5, .pointer (some ⟨b3, 0, none⟩)), (6, .pointer (some ⟨b4, 0, none⟩)), (7, .int .u64 (((parseUintR x1.1).1).toNat : Int)), (8, ev8), (9, .pointer (some ⟨b9, 0, none⟩)), (25, .bool x1.2.2), (29, .bool (decide ((x1.2.2 = true) ∧ ((!(parseUintR x1.1).2) = true)))), (35, .bool x2)] (fun _ => [(40, .bool (decide ((x2 = true) ∧ ((x1.2.1.length : Int) = 32))))]) (fun sl wL => sl.w = wL ∧ Step K0 s17 sl) ?_ ?_
   ·
    refine k_again 36 rfl ?_
    refine k_splitb (fun c19 => ?_) (fun c19 => ?_)
    ·
     refine k_yes rfl rfl ?_
     refine k_load_blk one9 rfl h3 rfl rfl ?_
     refine k_yes rfl rfl ?_
     refine k_len_str Tryd.underlying9 rfl rfl ?_
     refine k_yes rfl rfl ?_
     refine k_eql rfl rfl rfl ?_
     refine k_pickT rfl rfl rfl rfl ?_
     exact k_met ⟨s17, ⟨(congrArg (fun b => some (Value.bool b)) (by first | exact decide_eq_decide.2 ⟨fun h => ⟨c19, h⟩, fun h => h.2⟩ | exact (decide_eq_false (fun h => c19 h.1)).symm | (simp [c19]; done) | exact dec_andT c19 | exact dec_andF c19 | exact dec_orF c19 | exact dec_orT c19 | (simp [c19, i64] <;> omega))), trivial⟩, ⟨rfl, rfl, rfl, rfl, rfl, rfl, rfl, rfl, rfl, rfl, rfl, trivial⟩, rfl, hE18⟩
    ·
     refine k_no rfl rfl rfl rfl ?_
     refine k_no rfl rfl rfl rfl ?_
     refine k_no rfl rfl rfl rfl ?_
     refine k_pickF rfl rfl rfl rfl ?_
     exact k_met ⟨s17, ⟨(congrArg (fun b => some (Value.bool b)) (by first | exact decide_eq_decide.2 ⟨fun h => ⟨c19, h⟩, fun h => h.2⟩ | exact (decide_eq_false (fun h => c19 h.1)).symm | (simp [c19]; done) | exact dec_andT c19 | exact dec_andF c19 | exact dec_orF c19 | exact dec_orT c19 | (simp [c19, i64] <;> omega))), trivial⟩, ⟨rfl, rfl, rfl, rfl, rfl, rfl, rfl, rfl, rfl, rfl, rfl, trivial⟩, rfl, hE18⟩
   ·
    rintro s20 wL ⟨rfl, hE18⟩
    have szs20 := hE18.size
    have hS := hS.trans0 hE18
    replace h1 := h1.up2 hE18
    replace h3 := h3.up2 hE18
    replace h4 := h4.up2 hE18
    replace h9 := h9.up2 hE18
    refine k_move rfl rfl ?_
    obtain ⟨x4, hx4, h⟩ := ob h
    have hE21 := Step.r0 K0 s20
    refine k_cutl (X := St) 3 [(2, .pointer (some ⟨b1, 0, none⟩)), (3, .int .i64 0), (4, S x1.1), (5, .pointer (some ⟨b3, 0, none⟩)), (6, .pointer (some ⟨b4, 0, none⟩)), (7, .int .u64 (((parseUintR x1.1).1).toNat : Int)), (8, ev8), (9, .pointer (some ⟨b9, 0, none⟩)), (25, .bool x1.2.2), (29, .bool (decide ((x1.2.2 = true) ∧ ((!(parseUintR x1.1).2) = true)))), (35, .bool x2), (40, .bool (decide ((x2 = true) ∧ ((x1.2.1.length : Int) = 32))))] (fun _ => [(44, .bool x4)]) (fun sl wL => sl.w = wL ∧ Step K0 s20 sl) ?_ ?_
    ·
     refine k_again 41 rfl ?_
     refine k_split (fun c22 => ?_) (fun c22 => ?_)
     ·
      have hx4 := itT hx4 c22
      refine k_yes rfl rfl ?_
      refine k_load_blka (cs := [.int .u64 (((parseUintR x1.1).1).toNat : Int), .int .u8 0, .int .u8 0, .int .u8 0, .int .u8 0, .int .u8 0, .int .u8 0, .int .u8 0, .int .u8 0, .int .u8 0, .int .u8 0, .int .u8 0, .int .u8 0, .int .u8 0, .int .u8 0, .int .u8 0, .int .u8 0]) agg29 rfl h9 rfl ?_
      refine k_yes rfl rfl ?_
      obtain ⟨x5, hx5, hx4⟩ := ob hx4
      refine k_call cal13 rfl (rev_May_w  (clsApiRev (⟨(parseUintR x1.1).1, (⟨(0 : UInt8), (0 : UInt8), (0 : UInt8), (0 : UInt8), (0 : UInt8), (0 : UInt8), (0 : UInt8), (0 : UInt8), (0 : UInt8), (0 : UInt8), (0 : UInt8), (0 : UInt8), (0 : UInt8), (0 : UInt8), (0 : UInt8), (0 : UInt8)⟩ : St27)⟩ : ApiRev)) hx5) rfl ?_
      rintro s23 vr23 st23 rfl
      have szs23 := st23.size
      have hS := hS.trans0 st23
      have hE21 := hE21.trans0 st23
      refine k_pickT rfl rfl rfl rfl ?_
      exact k_met ⟨s23, ⟨(congrArg (fun b => some (Value.bool b)) (Option.some.inj hx4)), trivial⟩, ⟨rfl, rfl, rfl, rfl, rfl, rfl, rfl, rfl, rfl, rfl, rfl, rfl, trivial⟩, rfl, hE21⟩
     ·
      have hx4 := itF hx4 c22
      refine k_no rfl rfl rfl rfl ?_
      refine k_no rfl rfl rfl rfl ?_
      refine k_pickF rfl rfl rfl rfl ?_
      exact k_met ⟨s20, ⟨(congrArg (fun b => some (Value.bool b)) (Option.some.inj hx4)), trivial⟩, ⟨rfl, rfl, rfl, rfl, rfl, rfl, rfl, rfl, rfl, rfl, rfl, rfl, trivial⟩, rfl, hE21⟩
    ·
     rintro s24 wL ⟨rfl, hE21⟩
     have szs24 := hE21.size
     have hS := hS.trans0 hE21
     replace h1 := h1.up2 hE21
     replace h3 := h3.up2 hE21
     replace h4 := h4.up2 hE21
     replace h9 := h9.up2 hE21
     refine k_store_c (cs' := [.bool x4]) size4 rfl rfl h4 (by first | (simp; done) | omega | (dsimp only; omega)) (CellsOf.lit rfl rfl) rfl (by first | rfl | (simp; done) | (simp; omega)) rfl ?_
     intro s25 st25 h4
     have szs25 := st25.size
     have hS := hS.c0 st25
     replace h1 := h1.up2 st25
     replace h3 := h3.up2 st25
     replace h9 := h9.up2 st25
     refine k_nil ?_
     refine k_keep [(2, _), (3, _), (5, _), (6, _), (9, _)] ⟨rfl, rfl, rfl, rfl, rfl, trivial⟩ ?_
     refine k_seq ?_
     refine k_region ?_
     refine k_makeFunc rfl rfl rfl ?_
     refine k_assign rfl rfl ?_
     refine k_nil ?_
     refine k_keep [(2, _), (3, _), (6, _), (9, _), (10, _)] ⟨rfl, rfl, rfl, rfl, rfl, trivial⟩ ?_
     refine k_seq ?_
     obtain ⟨kj6, hK26, h⟩ := jn_out h
     have hE26 := Step.r0 (KU (KC (b4 + 1) 0) (KC (b9 + 1) 0)) s25
     refine k_cutc (X := St × Bool × UInt8 × UInt8 × UInt8 × UInt8 × UInt8 × UInt8 × UInt8 × UInt8 × UInt8 × UInt8 × UInt8 × UInt8 × UInt8 × UInt8 × UInt8 × UInt8) [(2, .pointer (some ⟨b1, 0, none⟩)), (3, .int .i64 0), (6, .pointer (some ⟨b4, 0, none⟩)), (9, .pointer (some ⟨b9, 0, none⟩))] (fun (xL : St × Bool × UInt8 × UInt8 × UInt8 × UInt8 × UInt8 × UInt8 × UInt8 × UInt8 × UInt8 × UInt8 × UInt8 × UInt8 × UInt8 × UInt8 × UInt8 × UInt8) => match xL with | (sl, x7, x8, x9, x10, x11, x12, x13, x14, x15, x16, x17, x18, x19, x20, x21, x22, x23) => []) (fun (xL : St × Bool × UInt8 × UInt8 × UInt8 × UInt8 × UInt8 × UInt8 × UInt8 × UInt8 × UInt8 × UInt8 × UInt8 × UInt8 × UInt8 × UInt8 × UInt8 × UInt8) (wL : World) => match xL with | (sl, x7, x8, x9, x10, x11, x12, x13, x14, x15, x16, x17, x18, x19, x20, x21, x22, x23) => sl.w = wL ∧ Step (KU (KC (b4 + 1) 0) (KC (b9 + 1) 0)) s25 sl ∧ (Blk sl b4 ⟨b4 + 1, 0⟩ [.bool x7] 4) ∧ (Blk sl b9 ⟨b9 + 1, 0⟩ [.int .u64 (((parseUintR x1.1).1).toNat : Int), .int .u8 (x8.toNat : Int), .int .u8 (x9.toNat : Int), .int .u8 (x10.toNat : Int), .int .u8 (x11.toNat : Int), .int .u8 (x12.toNat : Int), .int .u8 (x13.toNat : Int), .int .u8 (x14.toNat : Int), .int .u8 (x15.toNat : Int), .int .u8 (x16.toNat : Int), .int .u8 (x17.toNat : Int), .int .u8 (x18.toNat : Int), .int .u8 (x19.toNat : Int), .int .u8 (x20.toNat : Int), .int .u8 (x21.toNat : Int), .int .u8 (x22.toNat : Int), .int .u8 (x23.toNat : Int)] 29) ∧ kj6 x7 x8 x9 x10 x11 x12 x13 x14 x15 x16 x17 x18 x19 x20 x21 x22 x23 = some r) ?_ ?_
     ·
      refine k_seq ?_
      refine k_region ?_
      refine k_assign rfl rfl ?_
      refine k_nil ?_
      refine k_block ?_
      refine k_loopc (X := St × Int × Bool × UInt8 × UInt8 × UInt8 × UInt8 × UInt8 × UInt8 × UInt8 × UInt8 × UInt8 × UInt8 × UInt8 × UInt8 × UInt8 × UInt8 × UInt8 × UInt8 × Nat) [(2, _), (3, _), (6, _), (9, _), (10, _)] (fun (xL : St × Int × Bool × UInt8 × UInt8 × UInt8 × UInt8 × UInt8 × UInt8 × UInt8 × UInt8 × UInt8 × UInt8 × UInt8 × UInt8 × UInt8 × UInt8 × UInt8 × UInt8 × Nat) => match xL with | (sl, x24, x25, x26, x27, x28, x29, x30, x31, x32, x33, x34, x35, x36, x37, x38, x39, x40, x41, j) => [(11, .int .i64 x24)]) (fun (xL : St × Int × Bool × UInt8 × UInt8 × UInt8 × UInt8 × UInt8 × UInt8 × UInt8 × UInt8 × UInt8 × UInt8 × UInt8 × UInt8 × UInt8 × UInt8 × UInt8 × UInt8 × Nat) (wL : World) => match xL with | (sl, x24, x25, x26, x27, x28, x29, x30, x31, x32, x33, x34, x35, x36, x37, x38, x39, x40, x41, j) => sl.w = wL ∧ Step (KU (KC (b4 + 1) 0) (KC (b9 + 1) 0)) s25 sl ∧ (Blk sl b4 ⟨b4 + 1, 0⟩ [.bool x25] 4) ∧ (Blk sl b9 ⟨b9 + 1, 0⟩ [.int .u64 (((parseUintR x1.1).1).toNat : Int), .int .u8 (x26.toNat : Int), .int .u8 (x27.toNat : Int), .int .u8 (x28.toNat : Int), .int .u8 (x29.toNat : Int), .int .u8 (x30.toNat : Int), .int .u8 (x31.toNat : Int), .int .u8 (x32.toNat : Int), .int .u8 (x33.toNat : Int), .int .u8 (x34.toNat : Int), .int .u8 (x35.toNat : Int), .int .u8 (x36.toNat : Int), .int .u8 (x37.toNat : Int), .int .u8 (x38.toNat : Int), .int .u8 (x39.toNat : Int), .int .u8 (x40.toNat : Int), .int .u8 (x41.toNat : Int)] 29) ∧ rev_Parse_l1 x1 kj6 j x24 x25 x26 x27 x28 x29 x30 x31 x32 x33 x34 x35 x36 x37 x38 x39 x40 x41 = some r) (fun (xL : St × Int × Bool × UInt8 × UInt8 × UInt8 × UInt8 × UInt8 × UInt8 × UInt8 × UInt8 × UInt8 × UInt8 × UInt8 × UInt8 × UInt8 × UInt8 × UInt8 × UInt8 × Nat) => match xL with | (sl, x24, x25, x26, x27, x28, x29, x30, x31, x32, x33, x34, x35, x36, x37, x38, x39, x40, x41, j) => j) (s25, 0, x4, (0 : UInt8), (0 : UInt8), (0 : UInt8), (0 : UInt8), (0 : UInt8), (0 : UInt8), (0 : UInt8), (0 : UInt8), (0 : UInt8), (0 : UInt8), (0 : UInt8), (0 : UInt8), (0 : UInt8), (0 : UInt8), (0 : UInt8), (0 : UInt8), FU) ⟨rfl, rfl, rfl, rfl, rfl, trivial⟩ ⟨(by first | rfl | (simp <;> rfl)), trivial⟩ ⟨rfl, (Step.refl _).of0 (by first | exact fun _ h => h | (intro c h; simp [KC, KO, KU, KN, KB] at h <;> omega)), h4, h9, h⟩ ?_
      rintro ⟨s28, x24, x25, x26, x27, x28, x29, x30, x31, x32, x33, x34, x35, x36, x37, x38, x39, x40, x41, j⟩ wL ⟨rfl, hE27, h4, h9, h⟩
      cases j with
      | zero => rw [rev_Parse_l1] at h; exact (noneNe h).elim
      | succ j =>
      rw [rev_Parse_l1] at h
      have szs28 := hE27.size
      have hS := hS.c0 hE27
      have hE26 := hE26.c0 hE27
      replace h3 := h3.up2 hE27
      refine k_seq ?_
      refine k_seq ?_
      refine k_region ?_
      refine k_load_blk one4 rfl h4 rfl rfl ?_
      refine k_move rfl rfl ?_
      have hE29 := Step.r0 K0 s28
      refine k_cutl (X := St) 3 [(2, .pointer (some ⟨b1, 0, none⟩)), (3, .int .i64 0), (6, .pointer (some ⟨b4, 0, none⟩)), (9, .pointer (some ⟨b9, 0, none⟩)), (10, .func (.func 29) #[] #[.pointer (some ⟨b3, 0, none⟩), .pointer (some ⟨b4, 0, none⟩)]), (11, .int .i64 x24), (46, .bool x25)] (fun _ => [(50, .bool (decide ((x25 = true) ∧ (x24 < 16))))]) (fun sl wL => sl.w = wL ∧ Step K0 s28 sl) ?_ ?_
      ·
       refine k_again 47 rfl ?_
       refine k_splitb (fun c30 => ?_) (fun c30 => ?_)
       ·
        refine k_yes rfl rfl ?_
        refine k_move rfl rfl ?_
        refine k_yes rfl rfl ?_
        refine k_lss rfl rfl rfl ?_
        refine k_pickT rfl rfl rfl rfl ?_
        exact k_met ⟨s28, ⟨(congrArg (fun b => some (Value.bool b)) (by first | exact decide_eq_decide.2 ⟨fun h => ⟨c30, h⟩, fun h => h.2⟩ | exact (decide_eq_false (fun h => c30 h.1)).symm | (simp [c30]; done) | exact dec_andT c30 | exact dec_andF c30 | exact dec_orF c30 | exact dec_orT c30 | (simp [c30, i64] <;> omega))), trivial⟩, ⟨rfl, rfl, rfl, rfl, rfl, rfl, rfl, trivial⟩, rfl, hE29⟩
       ·
        refine k_no rfl rfl rfl rfl ?_
        refine k_no rfl rfl rfl rfl ?_
        refine k_pickF rfl rfl rfl rfl ?_
        exact k_met ⟨s28, ⟨(congrArg (fun b => some (Value.bool b)) (by first | exact decide_eq_decide.2 ⟨fun h => ⟨c30, h⟩, fun h => h.2⟩ | exact (decide_eq_false (fun h => c30 h.1)).symm | (simp [c30]; done) | exact dec_andT c30 | exact dec_andF c30 | exact dec_orF c30 | exact dec_orT c30 | (simp [c30, i64] <;> omega))), trivial⟩, ⟨rfl, rfl, rfl, rfl, rfl, rfl, rfl, trivial⟩, rfl, hE29⟩
      ·
       rintro s31 wL ⟨rfl, hE29⟩
       have szs31 := hE29.size
       have hS := hS.trans0 hE29
       have hE26 := hE26.trans0 hE29
       have hE27 := hE27.trans0 hE29
       replace h3 := h3.up2 hE29
       replace h4 := h4.up2 hE29
       replace h9 := h9.up2 hE29
       refine k_nil ?_
       refine k_keep [(2, _), (3, _), (6, _), (9, _), (10, _), (11, _), (50, _)] ⟨rfl, rfl, rfl, rfl, rfl, rfl, rfl, trivial⟩ ?_
       refine k_cond_dec rfl (fun c32 => ?_) (fun c32 => ?_)
       ·
        have h := itT h c32
        refine k_skip ?_
        refine k_seq ?_
        refine k_block ?_
        refine k_region ?_
        refine k_move rfl rfl ?_
        refine k_move rfl rfl ?_
        refine k_move rfl rfl ?_
        refine k_mul rfl rfl rfl ?_
        refine k_callv_in cal29 rfl rfl rfl ?_
        refine k_fn (rs := [4]) (args := [.int .i64 (i64 (2 * x24)), .pointer (some ⟨b3, 0, none⟩), .pointer (some ⟨b4, 0, none⟩)]) Tryd.func29 rfl rfl rfl rfl ?_
        refine k_seq ?_
        refine k_region ?_
        refine k_assign rfl rfl ?_
        refine k_nil ?_
        refine k_seq ?_
        refine k_region ?_
        refine k_load_blk one9 rfl h3 rfl rfl ?_
        refine k_move rfl rfl ?_
        obtain ⟨x42, hx42, h⟩ := ob h
        refine k_index_str Tryd.underlying9 rfl rfl (geti_out hx42).1 (geti_out hx42).2.1 rfl ?_
        refine k_as (congrArg (fun c : UInt8 => Value.int .u8 (c.toNat : Int)) (geti_getD hx42)) ?_
        refine k_call cal30 rfl (indexByte_w (a0 := ([48, 49, 50, 51, 52, 53, 54, 55, 56, 57, 97, 98, 99, 100, 101, 102] : List UInt8)) (a1 := x42)) rfl ?_
        rintro s33 _ st33 rfl
        have szs33 := st33.size
        have hS := hS.trans0 st33
        have hE26 := hE26.trans0 st33
        have hE27 := hE27.trans0 st33
        replace h3 := h3.up2 st33
        replace h4 := h4.up2 st33
        replace h9 := h9.up2 st33
        refine k_assign rfl rfl ?_
        refine k_nil ?_
        refine k_keep [(2, _), (4, _), (5, _)] ⟨rfl, rfl, rfl, trivial⟩ ?_
        refine k_seq ?_
        refine k_region ?_
        refine k_load_blk one4 rfl h4 rfl rfl ?_
        refine k_move rfl rfl ?_
        have hE34 := Step.r0 K0 s33
        refine k_cutl (X := St) 3 [(2, .pointer (some ⟨b4, 0, none⟩)), (4, .int .u8 0), (5, .int .i64 (Lib.indexByte ([48, 49, 50, 51, 52, 53, 54, 55, 56, 57, 97, 98, 99, 100, 101, 102] : List UInt8) x42)), (10, .bool x25)] (fun _ => [(14, .bool (decide ((x25 = true) ∧ (0 ≤ Lib.indexByte ([48, 49, 50, 51, 52, 53, 54, 55, 56, 57, 97, 98, 99, 100, 101, 102] : List UInt8) x42))))]) (fun sl wL => sl.w = wL ∧ Step K0 s33 sl) ?_ ?_
        ·
         refine k_again 11 rfl ?_
         refine k_splitb (fun c35 => ?_) (fun c35 => ?_)
         ·
          refine k_yes rfl rfl ?_
          refine k_move rfl rfl ?_
          refine k_yes rfl rfl ?_
          refine k_geq rfl rfl rfl ?_
          refine k_pickT rfl rfl rfl rfl ?_
          exact k_met ⟨s33, ⟨(congrArg (fun b => some (Value.bool b)) (by first | exact decide_eq_decide.2 ⟨fun h => ⟨c35, h⟩, fun h => h.2⟩ | exact (decide_eq_false (fun h => c35 h.1)).symm | (simp [c35]; done) | exact dec_andT c35 | exact dec_andF c35 | exact dec_orF c35 | exact dec_orT c35 | (simp [c35, i64] <;> omega))), trivial⟩, ⟨rfl, rfl, rfl, rfl, trivial⟩, rfl, hE34⟩
         ·
          refine k_no rfl rfl rfl rfl ?_
          refine k_no rfl rfl rfl rfl ?_
          refine k_pickF rfl rfl rfl rfl ?_
          exact k_met ⟨s33, ⟨(congrArg (fun b => some (Value.bool b)) (by first | exact decide_eq_decide.2 ⟨fun h => ⟨c35, h⟩, fun h => h.2⟩ | exact (decide_eq_false (fun h => c35 h.1)).symm | (simp [c35]; done) | exact dec_andT c35 | exact dec_andF c35 | exact dec_orF c35 | exact dec_orT c35 | (simp [c35, i64] <;> omega))), trivial⟩, ⟨rfl, rfl, rfl, rfl, trivial⟩, rfl, hE34⟩
        ·
         rintro s36 wL ⟨rfl, hE34⟩
         have szs36 := hE34.size
         have hS := hS.trans0 hE34
         have hE26 := hE26.trans0 hE34
         have hE27 := hE27.trans0 hE34
         replace h3 := h3.up2 hE34
         replace h4 := h4.up2 hE34
         replace h9 := h9.up2 hE34
         refine k_store_c (cs' := [.bool (decide ((x25 = true) ∧ (0 ≤ Lib.indexByte ([48, 49, 50, 51, 52, 53, 54, 55, 56, 57, 97, 98, 99, 100, 101, 102] : List UInt8) x42)))]) size4 rfl rfl h4 (by first | (simp; done) | omega | (dsimp only; omega)) (CellsOf.lit rfl rfl) rfl (by first | rfl | (simp; done) | (simp; omega)) rfl ?_
         intro s37 st37 h4
         have szs37 := st37.size
         have hS := hS.c0 st37
         have hE26 := hE26.c0 st37
         have hE27 := hE27.c0 st37
         replace h3 := h3.up2 st37
         replace h9 := h9.up2 st37
         refine k_nil ?_
         refine k_keep [(4, _), (5, _)] ⟨rfl, rfl, trivial⟩ ?_
         refine k_seq ?_
         refine k_region ?_
         refine k_move rfl rfl ?_
         refine k_conv (p := Lib.indexByte ([48, 49, 50, 51, 52, 53, 54, 55, 56, 57, 97, 98, 99, 100, 101, 102] : List UInt8) x42) Tryd.underlying3 Tryd.underlying5 rfl rfl ?_
         refine k_as (congrArg (Value.int .u8) (w8 _)) ?_
         refine k_assign rfl rfl ?_
         refine k_nil ?_
         refine k_keep [(4, _)] ⟨rfl, trivial⟩ ?_
         refine k_ret ?_
         refine ⟨_, rfl, _, rfl, ?_⟩
         refine k_shl rfl rfl (by decide) rfl ?_
         refine k_as (congrArg (Value.int .u8) (w8 _)) ?_
         refine k_move rfl rfl ?_
         refine k_move rfl rfl ?_
         refine k_mul rfl rfl rfl ?_
         refine k_add rfl rfl rfl ?_
         refine k_callv_in cal29 rfl rfl rfl ?_
         refine k_fn (rs := [4]) (args := [.int .i64 (i64 ((i64 (2 * x24)) + 1)), .pointer (some ⟨b3, 0, none⟩), .pointer (some ⟨b4, 0, none⟩)]) Tryd.func29 rfl rfl rfl rfl ?_
         refine k_seq ?_
         refine k_region ?_
         refine k_assign rfl rfl ?_
         refine k_nil ?_
         refine k_seq ?_
         refine k_region ?_
         refine k_load_blk one9 rfl h3 rfl rfl ?_
         refine k_move rfl rfl ?_
         obtain ⟨x43, hx43, h⟩ := ob h
         refine k_index_str Tryd.underlying9 rfl rfl (geti_out hx43).1 (geti_out hx43).2.1 rfl ?_
         refine k_as (congrArg (fun c : UInt8 => Value.int .u8 (c.toNat : Int)) (geti_getD hx43)) ?_
         refine k_call cal30 rfl (indexByte_w (a0 := ([48, 49, 50, 51, 52, 53, 54, 55, 56, 57, 97, 98, 99, 100, 101, 102] : List UInt8)) (a1 := x43)) rfl ?_
         rintro s38 _ st38 rfl
         have szs38 := st38.size
         have hS := hS.trans0 st38
         have hE26 := hE26.trans0 st38
         have hE27 := hE27.trans0 st38
         replace h4 := h4.up2 st38
         replace h9 := h9.up2 st38
         refine k_assign rfl rfl ?_
         refine k_nil ?_
         refine k_keep [(2, _), (4, _), (5, _)] ⟨rfl, rfl, rfl, trivial⟩ ?_
         refine k_seq ?_
         refine k_region ?_
         refine k_load_blk one4 rfl h4 rfl rfl ?_
         refine k_move rfl rfl ?_
         have hE39 := Step.r0 K0 s38
         refine k_cutl (X := St) 3 [(2, .pointer (some ⟨b4, 0, none⟩)), (4, .int .u8 0), (5, .int .i64 (Lib.indexByte ([48, 49, 50, 51, 52, 53, 54, 55, 56, 57, 97, 98, 99, 100, 101, 102] : List UInt8) x43)), (10, .bool (decide ((x25 = true) ∧ (0 ≤ Lib.indexByte ([48, 49, 50, 51, 52, 53, 54, 55, 56, 57, 97, 98, 99, 100, 101, 102] : List UInt8) x42))))] (fun _ => [(14, .bool (decide (((x25 = true) ∧ (0 ≤ Lib.indexByte ([48, 49, 50, 51, 52, 53, 54, 55, 56, 57, 97, 98, 99, 100, 101, 102] : List UInt8) x42)) ∧ (0 ≤ Lib.indexByte ([48, 49, 50, 51, 52, 53, 54, 55, 56, 57, 97, 98, 99, 100, 101, 102] : List UInt8) x43))))]) (fun sl wL => sl.w = wL ∧ Step K0 s38 sl) ?_ ?_
         ·
          refine k_again 11 rfl ?_
          refine k_split (fun c40 => ?_) (fun c40 => ?_)
          ·
           refine k_yes rfl rfl ?_
           refine k_move rfl rfl ?_
           refine k_yes rfl rfl ?_
           refine k_geq rfl rfl rfl ?_
           refine k_pickT rfl rfl rfl rfl ?_
           exact k_met ⟨s38, ⟨(congrArg (fun b => some (Value.bool b)) (by first | exact decide_eq_decide.2 ⟨fun h => ⟨c40, h⟩, fun h => h.2⟩ | exact (decide_eq_false (fun h => c40 h.1)).symm | (simp [c40]; done) | exact dec_andT c40 | exact dec_andF c40 | exact dec_orF c40 | exact dec_orT c40 | (simp [c40, i64] <;> omega))), trivial⟩, ⟨rfl, rfl, rfl, rfl, trivial⟩, rfl, hE39⟩
          ·
           refine k_no rfl rfl rfl rfl ?_
           refine k_no rfl rfl rfl rfl ?_
           refine k_pickF rfl rfl rfl rfl ?_
           exact k_met ⟨s38, ⟨(congrArg (fun b => some (Value.bool b)) (by first | exact decide_eq_decide.2 ⟨fun h => ⟨c40, h⟩, fun h => h.2⟩ | exact (decide_eq_false (fun h => c40 h.1)).symm | (simp [c40]; done) | exact dec_andT c40 | exact dec_andF c40 | exact dec_orF c40 | exact dec_orT c40 | (simp [c40, i64] <;> omega))), trivial⟩, ⟨rfl, rfl, rfl, rfl, trivial⟩, rfl, hE39⟩
         ·
          rintro s41 wL ⟨rfl, hE39⟩
          have szs41 := hE39.size
          have hS := hS.trans0 hE39
          have hE26 := hE26.trans0 hE39
          have hE27 := hE27.trans0 hE39
          replace h4 := h4.up2 hE39
          replace h9 := h9.up2 hE39
          refine k_store_c (cs' := [.bool (decide (((x25 = true) ∧ (0 ≤ Lib.indexByte ([48, 49, 50, 51, 52, 53, 54, 55, 56, 57, 97, 98, 99, 100, 101, 102] : List UInt8) x42)) ∧ (0 ≤ Lib.indexByte ([48, 49, 50, 51, 52, 53, 54, 55, 56, 57, 97, 98, 99, 100, 101, 102] : List UInt8) x43)))]) size4 rfl rfl h4 (by first | (simp; done) | omega | (dsimp only; omega)) (CellsOf.lit rfl rfl) rfl (by first | rfl | (simp; done) | (simp; omega)) rfl ?_
          intro s42 st42 h4
          have szs42 := st42.size
          have hS := hS.c0 st42
          have hE26 := hE26.c0 st42
          have hE27 := hE27.c0 st42
          replace h9 := h9.up2 st42
          refine k_nil ?_
          refine k_keep [(4, _), (5, _)] ⟨rfl, rfl, trivial⟩ ?_
          refine k_seq ?_
          refine k_region ?_
          refine k_move rfl rfl ?_
          refine k_conv (p := Lib.indexByte ([48, 49, 50, 51, 52, 53, 54, 55, 56, 57, 97, 98, 99, 100, 101, 102] : List UInt8) x43) Tryd.underlying3 Tryd.underlying5 rfl rfl ?_
          refine k_as (congrArg (Value.int .u8) (w8 _)) ?_
          refine k_assign rfl rfl ?_
          refine k_nil ?_
          refine k_keep [(4, _)] ⟨rfl, trivial⟩ ?_
          refine k_ret ?_
          refine ⟨_, rfl, _, rfl, ?_⟩
          refine k_bits (p := ((ofI8 (((ofI8 (Lib.indexByte ([48, 49, 50, 51, 52, 53, 54, 55, 56, 57, 97, 98, 99, 100, 101, 102] : List UInt8) x42)).toNat : Int) * 2 ^ (min (4 : Int).toNat 8))).toNat : Int)) (q := ((ofI8 (Lib.indexByte ([48, 49, 50, 51, 52, 53, 54, 55, 56, 57, 97, 98, 99, 100, 101, 102] : List UInt8) x43)).toNat : Int)) (.inr (.inl ⟨rfl, rfl⟩)) rfl rfl rfl ?_
          refine k_as (congrArg (Value.int .u8) (or8 _ _)) ?_
          refine k_field_addr fld29_1 rfl rfl ?_
          obtain ⟨x44, hx44, h⟩ := ob h
          refine k_ixarr (m := 1) (xs := ([x26, x27, x28, x29, x30, x31, x32, x33, x34, x35, x36, x37, x38, x39, x40, x41] : List UInt8)) arr27 rfl rfl rfl hx44 rfl ?_
          obtain ⟨x45, hx45, h⟩ := ob h
          refine k_store_el2 cB (fun _ => rfl) (v := (ofI8 (((ofI8 (Lib.indexByte ([48, 49, 50, 51, 52, 53, 54, 55, 56, 57, 97, 98, 99, 100, 101, 102] : List UInt8) x42)).toNat : Int) * 2 ^ (min (4 : Int).toNat 8))) ||| (ofI8 (Lib.indexByte ([48, 49, 50, 51, 52, 53, 54, 55, 56, 57, 97, 98, 99, 100, 101, 102] : List UInt8) x43))) (pre := [.int .u64 (((parseUintR x1.1).1).toNat : Int)]) (post := []) (xs := ([x26, x27, x28, x29, x30, x31, x32, x33, x34, x35, x36, x37, x38, x39, x40, x41] : List UInt8)) size5 rfl rfl h9 (by first | (simp; done) | omega | (dsimp only; omega)) rfl hx45 ?_
          intro s43 st43 h9
          replace h9 := h9.litE (lit16 (show x45.length = 16 by rw [(seti_out hx45).2.2.2]; rfl) (0 : UInt8))
          have szs43 := st43.size
          have hS := hS.c0 st43
          have hE26 := hE26.c0 st43
          have hE27 := hE27.c0 st43
          replace h4 := h4.up2 st43
          refine k_nil ?_
          refine k_blk ?_
          refine k_region ?_
          refine k_move rfl rfl ?_
          refine k_add rfl rfl rfl ?_
          refine k_assign rfl rfl ?_
          refine k_nil ?_
          exact k_stop ⟨(s43, i64 (x24 + 1), decide (((x25 = true) ∧ (0 ≤ Lib.indexByte ([48, 49, 50, 51, 52, 53, 54, 55, 56, 57, 97, 98, 99, 100, 101, 102] : List UInt8) x42)) ∧ (0 ≤ Lib.indexByte ([48, 49, 50, 51, 52, 53, 54, 55, 56, 57, 97, 98, 99, 100, 101, 102] : List UInt8) x43)), (x45.getD 0 0), (x45.getD 1 0), (x45.getD 2 0), (x45.getD 3 0), (x45.getD 4 0), (x45.getD 5 0), (x45.getD 6 0), (x45.getD 7 0), (x45.getD 8 0), (x45.getD 9 0), (x45.getD 10 0), (x45.getD 11 0), (x45.getD 12 0), (x45.getD 13 0), (x45.getD 14 0), (x45.getD 15 0), j), ⟨(by first | rfl | (simp <;> rfl)), trivial⟩, ⟨rfl, rfl, rfl, rfl, rfl, trivial⟩, ⟨rfl, hE27, h4, h9, h⟩, (by simp)⟩
       ·
        have h := itF h c32
        refine k_exit rfl ?_
        exact k_stop ⟨(s31, x25, x26, x27, x28, x29, x30, x31, x32, x33, x34, x35, x36, x37, x38, x39, x40, x41), trivial, ⟨rfl, rfl, rfl, rfl, trivial⟩, ⟨rfl, hE26, h4, h9, h⟩⟩
     ·
      rintro ⟨s44, x7, x8, x9, x10, x11, x12, x13, x14, x15, x16, x17, x18, x19, x20, x21, x22, x23⟩ wL ⟨rfl, hE26, h4, h9, h⟩
      rw [hK26] at h
      have szs44 := hE26.size
      have hS := hS.c0 hE26
      replace h1 := h1.up2 hE26
      refine k_seq ?_
      refine k_seq ?_
      refine k_region ?_
      refine k_load_blk one4 rfl h4 rfl rfl ?_
      refine k_not rfl rfl ?_
      refine k_nil ?_
      refine k_keep [(2, _), (3, _), (9, _), (68, _)] ⟨rfl, rfl, rfl, rfl, trivial⟩ ?_
      refine k_cond rfl (fun c45 => ?_) (fun c45 => ?_)
      ·
       have h := ibT h c45
       refine k_seq ?_
       refine k_region ?_
       refine k_build plc29 zero29 rfl Parts.nil (by rfl) rfl ?_
       refine k_as (v := .agg #[.int .u64 0, .int .u8 0, .int .u8 0, .int .u8 0, .int .u8 0, .int .u8 0, .int .u8 0, .int .u8 0, .int .u8 0, .int .u8 0, .int .u8 0, .int .u8 0, .int .u8 0, .int .u8 0, .int .u8 0, .int .u8 0, .int .u8 0]) rfl ?_
       refine k_store_c (cs' := [.int .u64 0, .int .u8 0, .int .u8 0, .int .u8 0, .int .u8 0, .int .u8 0, .int .u8 0, .int .u8 0, .int .u8 0, .int .u8 0, .int .u8 0, .int .u8 0, .int .u8 0, .int .u8 0, .int .u8 0, .int .u8 0, .int .u8 0]) size29 rfl rfl h1 (by first | (simp; done) | omega | (dsimp only; omega)) (CellsOf.lit rfl rfl) rfl (by first | rfl | (simp; done) | (simp; omega)) rfl ?_
       intro s46 st46 h1
       have szs46 := st46.size
       have hS := hS.c0 st46
       refine k_assign rfl rfl ?_
       refine k_nil ?_
       refine k_keep [(2, _), (3, _), (9, _)] ⟨rfl, rfl, rfl, trivial⟩ ?_
       refine k_ret ?_
       obtain rfl := Option.some.inj h
       refine ⟨[.agg [.int .u64 0, .int .u8 0, .int .u8 0, .int .u8 0, .int .u8 0, .int .u8 0, .int .u8 0, .int .u8 0, .int .u8 0, .int .u8 0, .int .u8 0, .int .u8 0, .int .u8 0, .int .u8 0, .int .u8 0, .int .u8 0, .int .u8 0].toArray, .int .i64 2], ⟨res_blk (cs := [.int .u64 0, .int .u8 0, .int .u8 0, .int .u8 0, .int .u8 0, .int .u8 0, .int .u8 0, .int .u8 0, .int .u8 0, .int .u8 0, .int .u8 0, .int .u8 0, .int .u8 0, .int .u8 0, .int .u8 0, .int .u8 0, .int .u8 0]) rfl agg29 h1, rfl, trivial⟩, Ret.mk hS ?_⟩
       exact ⟨_, rfl, (clsApiRev (⟨(0 : UInt64), (⟨(0 : UInt8), (0 : UInt8), (0 : UInt8), (0 : UInt8), (0 : UInt8), (0 : UInt8), (0 : UInt8), (0 : UInt8), (0 : UInt8), (0 : UInt8), (0 : UInt8), (0 : UInt8), (0 : UInt8), (0 : UInt8), (0 : UInt8), (0 : UInt8)⟩ : St27)⟩ : ApiRev))⟩
      ·
       have h := ibF h c45
       refine k_skip ?_
       refine k_seq ?_
       refine k_region ?_
       refine k_load_blka (cs := [.int .u64 (((parseUintR x1.1).1).toNat : Int), .int .u8 (x8.toNat : Int), .int .u8 (x9.toNat : Int), .int .u8 (x10.toNat : Int), .int .u8 (x11.toNat : Int), .int .u8 (x12.toNat : Int), .int .u8 (x13.toNat : Int), .int .u8 (x14.toNat : Int), .int .u8 (x15.toNat : Int), .int .u8 (x16.toNat : Int), .int .u8 (x17.toNat : Int), .int .u8 (x18.toNat : Int), .int .u8 (x19.toNat : Int), .int .u8 (x20.toNat : Int), .int .u8 (x21.toNat : Int), .int .u8 (x22.toNat : Int), .int .u8 (x23.toNat : Int)]) agg29 rfl h9 rfl ?_
       refine k_store_c (cs' := [.int .u64 (((parseUintR x1.1).1).toNat : Int), .int .u8 (x8.toNat : Int), .int .u8 (x9.toNat : Int), .int .u8 (x10.toNat : Int), .int .u8 (x11.toNat : Int), .int .u8 (x12.toNat : Int), .int .u8 (x13.toNat : Int), .int .u8 (x14.toNat : Int), .int .u8 (x15.toNat : Int), .int .u8 (x16.toNat : Int), .int .u8 (x17.toNat : Int), .int .u8 (x18.toNat : Int), .int .u8 (x19.toNat : Int), .int .u8 (x20.toNat : Int), .int .u8 (x21.toNat : Int), .int .u8 (x22.toNat : Int), .int .u8 (x23.toNat : Int)]) size29 rfl rfl h1 (by first | (simp; done) | omega | (dsimp only; omega)) (CellsOf.lit rfl rfl) rfl (by first | rfl | (simp; done) | (simp; omega)) rfl ?_
       intro s47 st47 h1
       have szs47 := st47.size
       have hS := hS.c0 st47
       refine k_assign rfl rfl ?_
       refine k_nil ?_
       refine k_keep [(2, _), (3, _)] ⟨rfl, rfl, trivial⟩ ?_
       refine k_ret ?_
       obtain rfl := Option.some.inj h
       refine ⟨[.agg [.int .u64 (((parseUintR x1.1).1).toNat : Int), .int .u8 (x8.toNat : Int), .int .u8 (x9.toNat : Int), .int .u8 (x10.toNat : Int), .int .u8 (x11.toNat : Int), .int .u8 (x12.toNat : Int), .int .u8 (x13.toNat : Int), .int .u8 (x14.toNat : Int), .int .u8 (x15.toNat : Int), .int .u8 (x16.toNat : Int), .int .u8 (x17.toNat : Int), .int .u8 (x18.toNat : Int), .int .u8 (x19.toNat : Int), .int .u8 (x20.toNat : Int), .int .u8 (x21.toNat : Int), .int .u8 (x22.toNat : Int), .int .u8 (x23.toNat : Int)].toArray, .int .i64 0], ⟨res_blk (cs := [.int .u64 (((parseUintR x1.1).1).toNat : Int), .int .u8 (x8.toNat : Int), .int .u8 (x9.toNat : Int), .int .u8 (x10.toNat : Int), .int .u8 (x11.toNat : Int), .int .u8 (x12.toNat : Int), .int .u8 (x13.toNat : Int), .int .u8 (x14.toNat : Int), .int .u8 (x15.toNat : Int), .int .u8 (x16.toNat : Int), .int .u8 (x17.toNat : Int), .int .u8 (x18.toNat : Int), .int .u8 (x19.toNat : Int), .int .u8 (x20.toNat : Int), .int .u8 (x21.toNat : Int), .int .u8 (x22.toNat : Int), .int .u8 (x23.toNat : Int)]) rfl agg29 h1, rfl, trivial⟩, Ret.mk hS ?_⟩
       exact ⟨_, rfl, (clsApiRev (⟨(parseUintR x1.1).1, (⟨x8, x9, x10, x11, x12, x13, x14, x15, x16, x17, x18, x19, x20, x21, x22, x23⟩ : St27)⟩ : ApiRev))⟩

set_option maxHeartbeats 20000000 in
set_option maxRecDepth 100000 in
theorem cmp_isNaN_uint64_w {s : St} {a0 : UInt64} {r : Bool}  (h : cmp_isNaN_uint64 a0 = some r) : Calls Tryd.prog 34 #[.int .u64 (a0.toNat : Int)] s.w (Ret s K0 (fun s1 v => v = .bool r)) := by
 unfold cmp_isNaN_uint64 at h
 have hS := Step.r0 K0 s
 refine k_fn (rs := [2]) (args := [.int .u64 (a0.toNat : Int)]) Tryd.func34 rfl rfl rfl rfl ?_
 refine k_seq ?_
 refine k_region ?_
 refine k_assign rfl rfl ?_
 refine k_nil ?_
 refine k_seq ?_
 refine k_region ?_
 refine k_move rfl rfl ?_
 refine k_move rfl rfl ?_
 refine k_neq rfl rfl rfl ?_
 refine k_assign rfl rfl ?_
 refine k_nil ?_
 refine k_keep [(2, _)] ⟨rfl, trivial⟩ ?_
 refine k_ret ?_
 obtain rfl := Option.some.inj h
 refine ⟨_, rfl, Ret.mk hS ?_⟩
 exact rfl

set_option maxHeartbeats 20000000 in
set_option maxRecDepth 100000 in
theorem cmp_Compare_uint64_w {s : St} {a0 : UInt64} {a1 : UInt64} {r : Int}  (h : cmp_Compare_uint64 a0 a1 = some r) : Calls Tryd.prog 23 #[.int .u64 (a0.toNat : Int), .int .u64 (a1.toNat : Int)] s.w (Ret s K0 (fun s1 v => v = .int .i64 r)) := by
 unfold cmp_Compare_uint64 at h
 have hS := Step.r0 K0 s
 refine k_fn (rs := [4]) (args := [.int .u64 (a0.toNat : Int), .int .u64 (a1.toNat : Int)]) Tryd.func23 rfl rfl rfl rfl ?_
 refine k_seq ?_
 refine k_region ?_
 refine k_assign rfl rfl ?_
 refine k_nil ?_
 refine k_seq ?_
 refine k_region ?_
 refine k_move rfl rfl ?_
 obtain ⟨x1, hx1, h⟩ := ob h
 refine k_call cal34 rfl (cmp_isNaN_uint64_w   hx1) rfl ?_
 rintro s1 vr1 st1 rfl
 have szs1 := st1.size
 have hS := hS.trans0 st1
 refine k_assign rfl rfl ?_
 refine k_nil ?_
 refine k_keep [(0, _), (1, _), (4, _), (5, _)] ⟨rfl, rfl, rfl, rfl, trivial⟩ ?_
 refine k_seq ?_
 refine k_region ?_
 refine k_move rfl rfl ?_
 obtain ⟨x2, hx2, h⟩ := ob h
 refine k_call cal34 rfl (cmp_isNaN_uint64_w   hx2) rfl ?_
 rintro s2 vr2 st2 rfl
 have szs2 := st2.size
 have hS := hS.trans0 st2
 refine k_assign rfl rfl ?_
 refine k_nil ?_
 refine k_keep [(0, _), (1, _), (4, _), (5, _), (6, _)] ⟨rfl, rfl, rfl, rfl, rfl, trivial⟩ ?_
 refine k_seq ?_
 refine k_seq ?_
 refine k_region ?_
 refine k_move rfl rfl ?_
 refine k_nil ?_
 refine k_keep [(0, _), (1, _), (4, _), (6, _), (11, _)] ⟨rfl, rfl, rfl, rfl, rfl, trivial⟩ ?_
 refine k_cond rfl (fun c3 => ?_) (fun c3 => ?_)
 ·
  have h := ibT h c3
  refine k_seq ?_
  refine k_seq ?_
  refine k_region ?_
  refine k_move rfl rfl ?_
  refine k_nil ?_
  refine k_keep [(0, _), (1, _), (4, _), (6, _), (12, _)] ⟨rfl, rfl, rfl, rfl, rfl, trivial⟩ ?_
  refine k_cond rfl (fun c4 => ?_) (fun c4 => ?_)
  ·
   have h := ibT h c4
   refine k_seq ?_
   refine k_region ?_
   refine k_assign rfl rfl ?_
   refine k_nil ?_
   refine k_keep [(0, _), (1, _), (4, _), (6, _)] ⟨rfl, rfl, rfl, rfl, trivial⟩ ?_
   refine k_ret ?_
   obtain rfl := Option.some.inj h
   refine ⟨_, rfl, Ret.mk hS ?_⟩
   exact rfl
  ·
   have h := ibF h c4
   refine k_skip ?_
   refine k_seq ?_
   refine k_region ?_
   refine k_assign rfl rfl ?_
   refine k_nil ?_
   refine k_keep [(0, _), (1, _), (4, _), (6, _)] ⟨rfl, rfl, rfl, rfl, trivial⟩ ?_
   refine k_ret ?_
   obtain rfl := Option.some.inj h
   refine ⟨_, rfl, Ret.mk hS ?_⟩
   exact rfl
 ·
  have h := ibF h c3
  refine k_skip ?_
  refine k_seq ?_
  refine k_seq ?_
  refine k_region ?_
  refine k_move rfl rfl ?_
  refine k_nil ?_
  refine k_keep [(0, _), (1, _), (4, _), (13, _)] ⟨rfl, rfl, rfl, rfl, trivial⟩ ?_
  refine k_cond rfl (fun c5 => ?_) (fun c5 => ?_)
  ·
   have h := ibT h c5
   refine k_seq ?_
   refine k_region ?_
   refine k_assign rfl rfl ?_
   refine k_nil ?_
   refine k_keep [(0, _), (1, _), (4, _)] ⟨rfl, rfl, rfl, trivial⟩ ?_
   refine k_ret ?_
   obtain rfl := Option.some.inj h
   refine ⟨_, rfl, Ret.mk hS ?_⟩
   exact rfl
  ·
   have h := ibF h c5
   refine k_skip ?_
   refine k_seq ?_
   refine k_seq ?_
   refine k_region ?_
   refine k_move rfl rfl ?_
   refine k_move rfl rfl ?_
   refine k_lss rfl rfl rfl ?_
   refine k_nil ?_
   refine k_keep [(0, _), (1, _), (4, _), (16, _)] ⟨rfl, rfl, rfl, rfl, trivial⟩ ?_
   refine k_cond_dec rfl (fun c6 => ?_) (fun c6 => ?_)
   ·
    have h := itT h c6
    refine k_seq ?_
    refine k_region ?_
    refine k_assign rfl rfl ?_
    refine k_nil ?_
    refine k_keep [(0, _), (1, _), (4, _)] ⟨rfl, rfl, rfl, trivial⟩ ?_
    refine k_ret ?_
    obtain rfl := Option.some.inj h
    refine ⟨_, rfl, Ret.mk hS ?_⟩
    exact rfl
   ·
    have h := itF h c6
    refine k_skip ?_
    refine k_seq ?_
    refine k_seq ?_
    refine k_region ?_
    refine k_move rfl rfl ?_
    refine k_move rfl rfl ?_
    refine k_gtr rfl rfl rfl ?_
    refine k_nil ?_
    refine k_keep [(4, _), (19, _)] ⟨rfl, rfl, trivial⟩ ?_
    refine k_cond_dec rfl (fun c7 => ?_) (fun c7 => ?_)
    ·
     have h := itT h c7
     refine k_seq ?_
     refine k_region ?_
     refine k_assign rfl rfl ?_
     refine k_nil ?_
     refine k_keep [(4, _)] ⟨rfl, trivial⟩ ?_
     refine k_ret ?_
     obtain rfl := Option.some.inj h
     refine ⟨_, rfl, Ret.mk hS ?_⟩
     exact rfl
    ·
     have h := itF h c7
     refine k_skip ?_
     refine k_seq ?_
     refine k_region ?_
     refine k_assign rfl rfl ?_
     refine k_nil ?_
     refine k_keep [(4, _)] ⟨rfl, trivial⟩ ?_
     refine k_ret ?_
     obtain rfl := Option.some.inj h
     refine ⟨_, rfl, Ret.mk hS ?_⟩
     exact rfl

set_option maxHeartbeats 20000000 in
set_option maxRecDepth 100000 in
theorem cmp_Or_int_w {s : St} {l0 : Lab} {v0 : Value} {a0 : (List Int)} {r : Int} (hp0 : SL s l0 v0 1 (a0.map dI64)) (h : cmp_Or_int a0 = some r) : Calls Tryd.prog 22 #[v0] s.w (Ret s K0 (fun s1 v => v = .int .i64 r)) := by
 unfold cmp_Or_int at h
 obtain ⟨lf0, lf0le, lf0ne, hp0⟩ := hp0.fix
 have hS := Step.r0 K0 s
 refine k_fn (rs := [2]) (args := [v0]) Tryd.func22 rfl rfl rfl rfl ?_
 refine k_seq ?_
 refine k_region ?_
 refine k_assign rfl rfl ?_
 refine k_nil ?_
 refine k_seq ?_
 refine k_region ?_
 refine k_assign rfl rfl ?_
 refine k_nil ?_
 refine k_seq ?_
 obtain ⟨kj1, hK1, h⟩ := jn_out h
 have hE1 := Step.r0 K0 s
 refine k_cutc (X := St) [(2, .int .i64 0), (3, .int .i64 0)] (fun (xL : St) => match xL with | sl => []) (fun (xL : St) (wL : World) => match xL with | sl => sl.w = wL ∧ Step K0 s sl ∧ kj1 () = some r) ?_ ?_
 ·
  refine k_seq ?_
  refine k_region ?_
  refine k_move rfl rfl ?_
  refine k_len Tryd.underlying71 rfl hp0.hasLen rfl ?_
  refine k_as (v := .int .i64 (a0.length : Int)) (by simp only [List.length_map]) ?_
  refine k_move rfl rfl ?_
  refine k_nil ?_
  refine k_keep [(2, _), (3, _), (6, _), (7, _), (8, _)] ⟨rfl, rfl, rfl, rfl, rfl, trivial⟩ ?_
  refine k_block ?_
  refine k_loopc (X := St × Int × Nat) [(2, _), (3, _), (6, _), (7, _)] (fun (xL : St × Int × Nat) => match xL with | (sl, x2, j) => [(8, .int .i64 x2)]) (fun (xL : St × Int × Nat) (wL : World) => match xL with | (sl, x2, j) => sl.w = wL ∧ Step K0 s sl ∧ cmp_Or_int_l1 a0 kj1 j x2 = some r) (fun (xL : St × Int × Nat) => match xL with | (sl, x2, j) => j) (s, 0, FU) ⟨rfl, rfl, rfl, rfl, trivial⟩ ⟨(by first | rfl | (simp <;> rfl)), trivial⟩ ⟨rfl, (Step.refl _).of0 (by first | exact fun _ h => h | (intro c h; simp [KC, KO, KU, KN, KB] at h <;> omega)), h⟩ ?_
  rintro ⟨s3, x2, j⟩ wL ⟨rfl, hE2, h⟩
  cases j with
  | zero => rw [cmp_Or_int_l1] at h; exact (noneNe h).elim
  | succ j =>
  rw [cmp_Or_int_l1] at h
  have szs3 := hE2.size
  have hS := hS.trans0 hE2
  have hE1 := hE1.trans0 hE2
  replace hp0 := hp0.up2 hE2
  refine k_seq ?_
  refine k_region ?_
  refine k_lss rfl rfl rfl ?_
  refine k_nil ?_
  refine k_seq ?_
  refine k_cond_dec rfl (fun c4 => ?_) (fun c4 => ?_)
  ·
   have h := itT h c4
   refine k_skip ?_
   refine k_seq ?_
   refine k_block ?_
   refine k_seq ?_
   refine k_region ?_
   obtain ⟨x3, hx3, h⟩ := ob h
   refine k_ixaddr Tryd.underlying71 size3 rfl rfl hp0 (geti_out hx3).1 (geti_map hx3) rfl ?_
   intro qx3 hqx3
   refine k_load_val one3 rfl hqx3 rfl ?_
   refine k_assign rfl rfl ?_
   refine k_nil ?_
   refine k_keep [(2, _), (3, _), (5, _), (6, _), (7, _), (8, _)] ⟨rfl, rfl, rfl, rfl, rfl, rfl, trivial⟩ ?_
   refine k_seq ?_
   refine k_region ?_
   refine k_move rfl rfl ?_
   refine k_move rfl rfl ?_
   refine k_neq rfl rfl rfl ?_
   refine k_nil ?_
   refine k_keep [(2, _), (3, _), (5, _), (6, _), (7, _), (8, _), (14, _)] ⟨rfl, rfl, rfl, rfl, rfl, rfl, rfl, trivial⟩ ?_
   refine k_cond_dec rfl (fun c5 => ?_) (fun c5 => ?_)
   ·
    have h := itT h c5
    refine k_seq ?_
    refine k_region ?_
    refine k_move rfl rfl ?_
    refine k_assign rfl rfl ?_
    refine k_nil ?_
    refine k_keep [(2, _), (3, _), (6, _), (7, _), (8, _)] ⟨rfl, rfl, rfl, rfl, rfl, trivial⟩ ?_
    refine k_ret ?_
    obtain rfl := Option.some.inj h
    refine ⟨_, rfl, Ret.mk hS ?_⟩
    exact rfl
   ·
    have h := itF h c5
    refine k_skip ?_
    refine k_blk ?_
    refine k_region ?_
    refine k_add rfl rfl rfl ?_
    refine k_move rfl rfl ?_
    refine k_nil ?_
    exact k_stop ⟨(s3, i64 (x2 + 1), j), ⟨(by first | rfl | (simp <;> rfl)), trivial⟩, ⟨rfl, rfl, rfl, rfl, trivial⟩, ⟨rfl, hE2, h⟩, (by simp)⟩
  ·
   have h := itF h c4
   refine k_exit rfl ?_
   exact k_stop ⟨s3, trivial, ⟨rfl, rfl, trivial⟩, ⟨rfl, hE1, h⟩⟩
 ·
  rintro s6 wL ⟨rfl, hE1, h⟩
  rw [hK1] at h
  have szs6 := hE1.size
  have hS := hS.trans0 hE1
  refine k_seq ?_
  refine k_region ?_
  refine k_move rfl rfl ?_
  refine k_assign rfl rfl ?_
  refine k_nil ?_
  refine k_keep [(2, _)] ⟨rfl, trivial⟩ ?_
  refine k_ret ?_
  obtain rfl := Option.some.inj h
  refine ⟨_, rfl, Ret.mk hS ?_⟩
  exact rfl

set_option maxHeartbeats 20000000 in
set_option maxRecDepth 100000 in
theorem rev_Cmp_w {s : St} {cs0 : List Value} {a0 : ApiRev} {cs1 : List Value} {a1 : ApiRev} {r : Int} (hp0 : RC s cs0 (dApiRev a0)) (hp1 : RC s cs1 (dApiRev a1)) (h : rev_Cmp a0 a1 = some r) : Calls Tryd.prog 12 #[.agg cs0.toArray, .agg cs1.toArray] s.w (Ret s K0 (fun s1 v => v = .int .i64 r)) := by
 unfold rev_Cmp at h
 obtain rfl := opnApiRev hp0
 obtain rfl := opnApiRev hp1
 have hS := Step.r0 K0 s
 refine k_fn (rs := [4]) (args := [.agg #[.int .u64 (a0.Gen.toNat : Int), .int .u8 (a0.Sum.e0.toNat : Int), .int .u8 (a0.Sum.e1.toNat : Int), .int .u8 (a0.Sum.e2.toNat : Int), .int .u8 (a0.Sum.e3.toNat : Int), .int .u8 (a0.Sum.e4.toNat : Int), .int .u8 (a0.Sum.e5.toNat : Int), .int .u8 (a0.Sum.e6.toNat : Int), .int .u8 (a0.Sum.e7.toNat : Int), .int .u8 (a0.Sum.e8.toNat : Int), .int .u8 (a0.Sum.e9.toNat : Int), .int .u8 (a0.Sum.e10.toNat : Int), .int .u8 (a0.Sum.e11.toNat : Int), .int .u8 (a0.Sum.e12.toNat : Int), .int .u8 (a0.Sum.e13.toNat : Int), .int .u8 (a0.Sum.e14.toNat : Int), .int .u8 (a0.Sum.e15.toNat : Int)], .agg #[.int .u64 (a1.Gen.toNat : Int), .int .u8 (a1.Sum.e0.toNat : Int), .int .u8 (a1.Sum.e1.toNat : Int), .int .u8 (a1.Sum.e2.toNat : Int), .int .u8 (a1.Sum.e3.toNat : Int), .int .u8 (a1.Sum.e4.toNat : Int), .int .u8 (a1.Sum.e5.toNat : Int), .int .u8 (a1.Sum.e6.toNat : Int), .int .u8 (a1.Sum.e7.toNat : Int), .int .u8 (a1.Sum.e8.toNat : Int), .int .u8 (a1.Sum.e9.toNat : Int), .int .u8 (a1.Sum.e10.toNat : Int), .int .u8 (a1.Sum.e11.toNat : Int), .int .u8 (a1.Sum.e12.toNat : Int), .int .u8 (a1.Sum.e13.toNat : Int), .int .u8 (a1.Sum.e14.toNat : Int), .int .u8 (a1.Sum.e15.toNat : Int)]]) Tryd.func12 rfl rfl rfl rfl ?_
 refine k_seq ?_
 refine k_region ?_
 refine k_box rfl rfl ?_
 intro s1 b1 st1 h1 ge1
 have szs1 := st1.size
 have hS := hS.trans0 st1
 have lt1 := h1.lt
 refine k_box rfl rfl ?_
 intro s2 b2 st2 h2 ge2
 have szs2 := st2.size
 have hS := hS.trans0 st2
 replace h1 := h1.up2 st2
 have lt2 := h2.lt
 refine k_assign rfl rfl ?_
 refine k_nil ?_
 refine k_keep [(2, _), (3, _), (4, _)] ⟨rfl, rfl, rfl, trivial⟩ ?_
 refine k_seq ?_
 obtain ⟨x1, hx1, h⟩ := ob h
 refine k_drawT (KN s2.n) 9 (.read 0 (.read 1 (.read 2 (.read 3 (.read 5 (.read 7 (.alt 4 (.alt 6 (.alt 8 .fin .no) (.alt 8 (.alt 6 .fin .no) .no)) (.alt 6 (.alt 4 (.alt 8 .fin .no) (.alt 8 (.alt 4 .fin .no) .no)) (.alt 8 (.alt 4 (.alt 6 .fin .no) (.alt 6 (.alt 4 .fin .no) .no)) .no))))))))) mixed (by intro c h; (try simp only [KC, KO, KU, KN, KB] at h) <;> omega) rfl rfl rfl ?_
 intro s3 st3
 have szs3 := st3.size
 have hS := hS.trans0 st3
 replace h1 := h1.up2 st3
 replace h2 := h2.up2 st3
 refine rt_read (.pointer (some ⟨b1, 0, none⟩)) rfl rfl (fun s4 st4 => ?_) ?_
 ·refine k_field_addr fld29_0 rfl rfl ?_
  exact fq_end
 refine rt_read (.int .u64 (a0.Gen.toNat : Int)) rfl rfl (fun s5 st5 => ?_) ?_
 ·try replace h1 := h1.up2 st5
  refine k_load_blk one26 rfl h1 rfl rfl ?_
  exact fq_end
 refine rt_read (.pointer (some ⟨b2, 0, none⟩)) rfl rfl (fun s6 st6 => ?_) ?_
 ·refine k_field_addr fld29_0 rfl rfl ?_
  exact fq_end
 refine rt_read (.int .u64 (a1.Gen.toNat : Int)) rfl rfl (fun s7 st7 => ?_) ?_
 ·try replace h2 := h2.up2 st7
  refine k_load_blk one26 rfl h2 rfl rfl ?_
  exact fq_end
 refine rt_read (.pointer (some ⟨b1, 1, none⟩)) rfl rfl (fun s8 st8 => ?_) ?_
 ·refine k_field_addr fld29_1 rfl rfl ?_
  exact fq_end
 refine rt_read (.pointer (some ⟨b2, 1, none⟩)) rfl rfl (fun s9 st9 => ?_) ?_
 ·refine k_field_addr fld29_1 rfl rfl ?_
  exact fq_end
 refine rt_alt rfl rfl ?_ ?_
 ·
  have hA10 := Step.r0 (KN s2.n) s3
  refine k_call cal23 rfl (cmp_Compare_uint64_w   hx1) rfl ?_
  rintro s11 vr11 st11 rfl
  have szs11 := st11.size
  have hS := hS.trans0 st11
  have hA10 := hA10.trans0 st11
  replace h1 := h1.up2 st11
  replace h2 := h2.up2 st11
  refine rt_cont hA10 ?_
  refine rt_alt rfl rfl ?_ ?_
  ·
   have hA12 := Step.r0 (KN s2.n) s11
   refine k_cut_pt (g := bD) (i := 0) (j := 16) (pre := [.int .u64 (a0.Gen.toNat : Int)]) (post := []) (xs := ([a0.Sum.e0, a0.Sum.e1, a0.Sum.e2, a0.Sum.e3, a0.Sum.e4, a0.Sum.e5, a0.Sum.e6, a0.Sum.e7, a0.Sum.e8, a0.Sum.e9, a0.Sum.e10, a0.Sum.e11, a0.Sum.e12, a0.Sum.e13, a0.Sum.e14, a0.Sum.e15] : List UInt8)) cB (fun _ => rfl) (fun _ => rfl) arr27 rfl h1 rfl rfl CutAt.none CutAt.none (by decide) (by decide) (by decide) rfl ?_
   intro h13
   replace h13 : SL s11 ⟨b1 + 1, 0⟩ (.slice (some ⟨b1, 1 + 0, none⟩) (16 - 0) (16 - 0)) 1 (([a0.Sum.e0, a0.Sum.e1, a0.Sum.e2, a0.Sum.e3, a0.Sum.e4, a0.Sum.e5, a0.Sum.e6, a0.Sum.e7, a0.Sum.e8, a0.Sum.e9, a0.Sum.e10, a0.Sum.e11, a0.Sum.e12, a0.Sum.e13, a0.Sum.e14, a0.Sum.e15] : List UInt8).map bD) := h13
   refine rt_cont hA12 ?_
   refine rt_act rfl rfl ?_
   have hA14 := Step.r0 (KN s2.n) s11
   refine k_cut_pt (g := bD) (i := 0) (j := 16) (pre := [.int .u64 (a1.Gen.toNat : Int)]) (post := []) (xs := ([a1.Sum.e0, a1.Sum.e1, a1.Sum.e2, a1.Sum.e3, a1.Sum.e4, a1.Sum.e5, a1.Sum.e6, a1.Sum.e7, a1.Sum.e8, a1.Sum.e9, a1.Sum.e10, a1.Sum.e11, a1.Sum.e12, a1.Sum.e13, a1.Sum.e14, a1.Sum.e15] : List UInt8)) cB (fun _ => rfl) (fun _ => rfl) arr27 rfl h2 rfl rfl CutAt.none CutAt.none (by decide) (by decide) (by decide) rfl ?_
   intro h15
   replace h15 : SL s11 ⟨b2 + 1, 0⟩ (.slice (some ⟨b2, 1 + 0, none⟩) (16 - 0) (16 - 0)) 1 (([a1.Sum.e0, a1.Sum.e1, a1.Sum.e2, a1.Sum.e3, a1.Sum.e4, a1.Sum.e5, a1.Sum.e6, a1.Sum.e7, a1.Sum.e8, a1.Sum.e9, a1.Sum.e10, a1.Sum.e11, a1.Sum.e12, a1.Sum.e13, a1.Sum.e14, a1.Sum.e15] : List UInt8).map bD) := h15
   refine rt_cont hA14 ?_
   refine rt_fin ?_
   refine k_call cal24 rfl (bcompare_w (a0 := ([a0.Sum.e0, a0.Sum.e1, a0.Sum.e2, a0.Sum.e3, a0.Sum.e4, a0.Sum.e5, a0.Sum.e6, a0.Sum.e7, a0.Sum.e8, a0.Sum.e9, a0.Sum.e10, a0.Sum.e11, a0.Sum.e12, a0.Sum.e13, a0.Sum.e14, a0.Sum.e15] : List UInt8)) (a1 := ([a1.Sum.e0, a1.Sum.e1, a1.Sum.e2, a1.Sum.e3, a1.Sum.e4, a1.Sum.e5, a1.Sum.e6, a1.Sum.e7, a1.Sum.e8, a1.Sum.e9, a1.Sum.e10, a1.Sum.e11, a1.Sum.e12, a1.Sum.e13, a1.Sum.e14, a1.Sum.e15] : List UInt8)) h13 h15) rfl ?_
   rintro s16 _ st16 rfl
   have szs16 := st16.size
   have hS := hS.trans0 st16
   refine k_bslice2 (ds := ([x1, Lib.compareBytes ([a0.Sum.e0, a0.Sum.e1, a0.Sum.e2, a0.Sum.e3, a0.Sum.e4, a0.Sum.e5, a0.Sum.e6, a0.Sum.e7, a0.Sum.e8, a0.Sum.e9, a0.Sum.e10, a0.Sum.e11, a0.Sum.e12, a0.Sum.e13, a0.Sum.e14, a0.Sum.e15] : List UInt8) ([a1.Sum.e0, a1.Sum.e1, a1.Sum.e2, a1.Sum.e3, a1.Sum.e4, a1.Sum.e5, a1.Sum.e6, a1.Sum.e7, a1.Sum.e8, a1.Sum.e9, a1.Sum.e10, a1.Sum.e11, a1.Sum.e12, a1.Sum.e13, a1.Sum.e14, a1.Sum.e15] : List UInt8)] : List Int).map dI64) slc71 rfl (RVs.cons (R.val rfl) (RVs.cons (R.val rfl) RVs.nil)) (by rfl) (by rfl) rfl rfl ?_
   intro s17 v17 b17 st17 ge17 bl17 h17
   have szs17 := st17.size
   have hS := hS.trans0 st17
   have lt17 := Own.le1 h17
   obtain ⟨x2, hx2, h⟩ := ob h
   refine k_call cal22 rfl (cmp_Or_int_w  (h17.sl) hx2) rfl ?_
   rintro s18 vr18 st18 rfl
   have szs18 := st18.size
   have hS := hS.trans0 st18
   refine k_assign rfl rfl ?_
   refine k_nil ?_
   refine k_keep [(4, _)] ⟨rfl, trivial⟩ ?_
   refine k_ret ?_
   obtain rfl := Option.some.inj h
   refine ⟨_, rfl, Ret.mk hS ?_⟩
   exact rfl
  ·
   refine rt_act rfl rfl ?_
   have hA19 := Step.r0 (KN s2.n) s11
   refine k_cut_pt (g := bD) (i := 0) (j := 16) (pre := [.int .u64 (a1.Gen.toNat : Int)]) (post := []) (xs := ([a1.Sum.e0, a1.Sum.e1, a1.Sum.e2, a1.Sum.e3, a1.Sum.e4, a1.Sum.e5, a1.Sum.e6, a1.Sum.e7, a1.Sum.e8, a1.Sum.e9, a1.Sum.e10, a1.Sum.e11, a1.Sum.e12, a1.Sum.e13, a1.Sum.e14, a1.Sum.e15] : List UInt8)) cB (fun _ => rfl) (fun _ => rfl) arr27 rfl h2 rfl rfl CutAt.none CutAt.none (by decide) (by decide) (by decide) rfl ?_
   intro h20
   replace h20 : SL s11 ⟨b2 + 1, 0⟩ (.slice (some ⟨b2, 1 + 0, none⟩) (16 - 0) (16 - 0)) 1 (([a1.Sum.e0, a1.Sum.e1, a1.Sum.e2, a1.Sum.e3, a1.Sum.e4, a1.Sum.e5, a1.Sum.e6, a1.Sum.e7, a1.Sum.e8, a1.Sum.e9, a1.Sum.e10, a1.Sum.e11, a1.Sum.e12, a1.Sum.e13, a1.Sum.e14, a1.Sum.e15] : List UInt8).map bD) := h20
   refine rt_cont hA19 ?_
   refine rt_act rfl rfl ?_
   have hA21 := Step.r0 (KN s2.n) s11
   refine k_cut_pt (g := bD) (i := 0) (j := 16) (pre := [.int .u64 (a0.Gen.toNat : Int)]) (post := []) (xs := ([a0.Sum.e0, a0.Sum.e1, a0.Sum.e2, a0.Sum.e3, a0.Sum.e4, a0.Sum.e5, a0.Sum.e6, a0.Sum.e7, a0.Sum.e8, a0.Sum.e9, a0.Sum.e10, a0.Sum.e11, a0.Sum.e12, a0.Sum.e13, a0.Sum.e14, a0.Sum.e15] : List UInt8)) cB (fun _ => rfl) (fun _ => rfl) arr27 rfl h1 rfl rfl CutAt.none CutAt.none (by decide) (by decide) (by decide) rfl ?_
   intro h22
   replace h22 : SL s11 ⟨b1 + 1, 0⟩ (.slice (some ⟨b1, 1 + 0, none⟩) (16 - 0) (16 - 0)) 1 (([a0.Sum.e0, a0.Sum.e1, a0.Sum.e2, a0.Sum.e3, a0.Sum.e4, a0.Sum.e5, a0.Sum.e6, a0.Sum.e7, a0.Sum.e8, a0.Sum.e9, a0.Sum.e10, a0.Sum.e11, a0.Sum.e12, a0.Sum.e13, a0.Sum.e14, a0.Sum.e15] : List UInt8).map bD) := h22
   refine rt_cont hA21 ?_
   refine rt_fin ?_
   refine k_call cal24 rfl (bcompare_w (a0 := ([a0.Sum.e0, a0.Sum.e1, a0.Sum.e2, a0.Sum.e3, a0.Sum.e4, a0.Sum.e5, a0.Sum.e6, a0.Sum.e7, a0.Sum.e8, a0.Sum.e9, a0.Sum.e10, a0.Sum.e11, a0.Sum.e12, a0.Sum.e13, a0.Sum.e14, a0.Sum.e15] : List UInt8)) (a1 := ([a1.Sum.e0, a1.Sum.e1, a1.Sum.e2, a1.Sum.e3, a1.Sum.e4, a1.Sum.e5, a1.Sum.e6, a1.Sum.e7, a1.Sum.e8, a1.Sum.e9, a1.Sum.e10, a1.Sum.e11, a1.Sum.e12, a1.Sum.e13, a1.Sum.e14, a1.Sum.e15] : List UInt8)) h22 h20) rfl ?_
   rintro s23 _ st23 rfl
   have szs23 := st23.size
   have hS := hS.trans0 st23
   refine k_bslice2 (ds := ([x1, Lib.compareBytes ([a0.Sum.e0, a0.Sum.e1, a0.Sum.e2, a0.Sum.e3, a0.Sum.e4, a0.Sum.e5, a0.Sum.e6, a0.Sum.e7, a0.Sum.e8, a0.Sum.e9, a0.Sum.e10, a0.Sum.e11, a0.Sum.e12, a0.Sum.e13, a0.Sum.e14, a0.Sum.e15] : List UInt8) ([a1.Sum.e0, a1.Sum.e1, a1.Sum.e2, a1.Sum.e3, a1.Sum.e4, a1.Sum.e5, a1.Sum.e6, a1.Sum.e7, a1.Sum.e8, a1.Sum.e9, a1.Sum.e10, a1.Sum.e11, a1.Sum.e12, a1.Sum.e13, a1.Sum.e14, a1.Sum.e15] : List UInt8)] : List Int).map dI64) slc71 rfl (RVs.cons (R.val rfl) (RVs.cons (R.val rfl) RVs.nil)) (by rfl) (by rfl) rfl rfl ?_
   intro s24 v24 b24 st24 ge24 bl24 h24
   have szs24 := st24.size
   have hS := hS.trans0 st24
   have lt24 := Own.le1 h24
   obtain ⟨x3, hx3, h⟩ := ob h
   refine k_call cal22 rfl (cmp_Or_int_w  (h24.sl) hx3) rfl ?_
   rintro s25 vr25 st25 rfl
   have szs25 := st25.size
   have hS := hS.trans0 st25
   refine k_assign rfl rfl ?_
   refine k_nil ?_
   refine k_keep [(4, _)] ⟨rfl, trivial⟩ ?_
   refine k_ret ?_
   obtain rfl := Option.some.inj h
   refine ⟨_, rfl, Ret.mk hS ?_⟩
   exact rfl
 ·
  refine rt_alt rfl rfl ?_ ?_
  ·
   have hA26 := Step.r0 (KN s2.n) s3
   refine k_cut_pt (g := bD) (i := 0) (j := 16) (pre := [.int .u64 (a0.Gen.toNat : Int)]) (post := []) (xs := ([a0.Sum.e0, a0.Sum.e1, a0.Sum.e2, a0.Sum.e3, a0.Sum.e4, a0.Sum.e5, a0.Sum.e6, a0.Sum.e7, a0.Sum.e8, a0.Sum.e9, a0.Sum.e10, a0.Sum.e11, a0.Sum.e12, a0.Sum.e13, a0.Sum.e14, a0.Sum.e15] : List UInt8)) cB (fun _ => rfl) (fun _ => rfl) arr27 rfl h1 rfl rfl CutAt.none CutAt.none (by decide) (by decide) (by decide) rfl ?_
   intro h27
   replace h27 : SL s3 ⟨b1 + 1, 0⟩ (.slice (some ⟨b1, 1 + 0, none⟩) (16 - 0) (16 - 0)) 1 (([a0.Sum.e0, a0.Sum.e1, a0.Sum.e2, a0.Sum.e3, a0.Sum.e4, a0.Sum.e5, a0.Sum.e6, a0.Sum.e7, a0.Sum.e8, a0.Sum.e9, a0.Sum.e10, a0.Sum.e11, a0.Sum.e12, a0.Sum.e13, a0.Sum.e14, a0.Sum.e15] : List UInt8).map bD) := h27
   refine rt_cont hA26 ?_
   refine rt_alt rfl rfl ?_ ?_
   ·
    have hA28 := Step.r0 (KN s2.n) s3
    refine k_call cal23 rfl (cmp_Compare_uint64_w   hx1) rfl ?_
    rintro s29 vr29 st29 rfl
    have szs29 := st29.size
    have hS := hS.trans0 st29
    have hA28 := hA28.trans0 st29
    replace h27 := h27.up2 st29
    replace h2 := h2.up2 st29
    refine rt_cont hA28 ?_
    refine rt_act rfl rfl ?_
    have hA30 := Step.r0 (KN s2.n) s29
    refine k_cut_pt (g := bD) (i := 0) (j := 16) (pre := [.int .u64 (a1.Gen.toNat : Int)]) (post := []) (xs := ([a1.Sum.e0, a1.Sum.e1, a1.Sum.e2, a1.Sum.e3, a1.Sum.e4, a1.Sum.e5, a1.Sum.e6, a1.Sum.e7, a1.Sum.e8, a1.Sum.e9, a1.Sum.e10, a1.Sum.e11, a1.Sum.e12, a1.Sum.e13, a1.Sum.e14, a1.Sum.e15] : List UInt8)) cB (fun _ => rfl) (fun _ => rfl) arr27 rfl h2 rfl rfl CutAt.none CutAt.none (by decide) (by decide) (by decide) rfl ?_
    intro h31
    replace h31 : SL s29 ⟨b2 + 1, 0⟩ (.slice (some ⟨b2, 1 + 0, none⟩) (16 - 0) (16 - 0)) 1 (([a1.Sum.e0, a1.Sum.e1, a1.Sum.e2, a1.Sum.e3, a1.Sum.e4, a1.Sum.e5, a1.Sum.e6, a1.Sum.e7, a1.Sum.e8, a1.Sum.e9, a1.Sum.e10, a1.Sum.e11, a1.Sum.e12, a1.Sum.e13, a1.Sum.e14, a1.Sum.e15] : List UInt8).map bD) := h31
    refine rt_cont hA30 ?_
    refine rt_fin ?_
    refine k_call cal24 rfl (bcompare_w (a0 := ([a0.Sum.e0, a0.Sum.e1, a0.Sum.e2, a0.Sum.e3, a0.Sum.e4, a0.Sum.e5, a0.Sum.e6, a0.Sum.e7, a0.Sum.e8, a0.Sum.e9, a0.Sum.e10, a0.Sum.e11, a0.Sum.e12, a0.Sum.e13, a0.Sum.e14, a0.Sum.e15] : List UInt8)) (a1 := ([a1.Sum.e0, a1.Sum.e1, a1.Sum.e2, a1.Sum.e3, a1.Sum.e4, a1.Sum.e5, a1.Sum.e6, a1.Sum.e7, a1.Sum.e8, a1.Sum.e9, a1.Sum.e10, a1.Sum.e11, a1.Sum.e12, a1.Sum.e13, a1.Sum.e14, a1.Sum.e15] : List UInt8)) h27 h31) rfl ?_
    rintro s32 _ st32 rfl
    have szs32 := st32.size
    have hS := hS.trans0 st32
    refine k_bslice2 (ds := ([x1, Lib.compareBytes ([a0.Sum.e0, a0.Sum.e1, a0.Sum.e2, a0.Sum.e3, a0.Sum.e4, a0.Sum.e5, a0.Sum.e6, a0.Sum.e7, a0.Sum.e8, a0.Sum.e9, a0.Sum.e10, a0.Sum.e11, a0.Sum.e12, a0.Sum.e13, a0.Sum.e14, a0.Sum.e15] : List UInt8) ([a1.Sum.e0, a1.Sum.e1, a1.Sum.e2, a1.Sum.e3, a1.Sum.e4, a1.Sum.e5, a1.Sum.e6, a1.Sum.e7, a1.Sum.e8, a1.Sum.e9, a1.Sum.e10, a1.Sum.e11, a1.Sum.e12, a1.Sum.e13, a1.Sum.e14, a1.Sum.e15] : List UInt8)] : List Int).map dI64) slc71 rfl (RVs.cons (R.val rfl) (RVs.cons (R.val rfl) RVs.nil)) (by rfl) (by rfl) rfl rfl ?_
    intro s33 v33 b33 st33 ge33 bl33 h33
    have szs33 := st33.size
    have hS := hS.trans0 st33
    have lt33 := Own.le1 h33
    obtain ⟨x4, hx4, h⟩ := ob h
    refine k_call cal22 rfl (cmp_Or_int_w  (h33.sl) hx4) rfl ?_
    rintro s34 vr34 st34 rfl
    have szs34 := st34.size
    have hS := hS.trans0 st34
    refine k_assign rfl rfl ?_
    refine k_nil ?_
    refine k_keep [(4, _)] ⟨rfl, trivial⟩ ?_
    refine k_ret ?_
    obtain rfl := Option.some.inj h
    refine ⟨_, rfl, Ret.mk hS ?_⟩
    exact rfl
   ·
    refine rt_act rfl rfl ?_
    have hA35 := Step.r0 (KN s2.n) s3
    refine k_cut_pt (g := bD) (i := 0) (j := 16) (pre := [.int .u64 (a1.Gen.toNat : Int)]) (post := []) (xs := ([a1.Sum.e0, a1.Sum.e1, a1.Sum.e2, a1.Sum.e3, a1.Sum.e4, a1.Sum.e5, a1.Sum.e6, a1.Sum.e7, a1.Sum.e8, a1.Sum.e9, a1.Sum.e10, a1.Sum.e11, a1.Sum.e12, a1.Sum.e13, a1.Sum.e14, a1.Sum.e15] : List UInt8)) cB (fun _ => rfl) (fun _ => rfl) arr27 rfl h2 rfl rfl CutAt.none CutAt.none (by decide) (by decide) (by decide) rfl ?_
    intro h36
    replace h36 : SL s3 ⟨b2 + 1, 0⟩ (.slice (some ⟨b2, 1 + 0, none⟩) (16 - 0) (16 - 0)) 1 (([a1.Sum.e0, a1.Sum.e1, a1.Sum.e2, a1.Sum.e3, a1.Sum.e4, a1.Sum.e5, a1.Sum.e6, a1.Sum.e7, a1.Sum.e8, a1.Sum.e9, a1.Sum.e10, a1.Sum.e11, a1.Sum.e12, a1.Sum.e13, a1.Sum.e14, a1.Sum.e15] : List UInt8).map bD) := h36
    refine rt_cont hA35 ?_
    refine rt_act rfl rfl ?_
    have hA37 := Step.r0 (KN s2.n) s3
    refine k_call cal23 rfl (cmp_Compare_uint64_w   hx1) rfl ?_
    rintro s38 vr38 st38 rfl
    have szs38 := st38.size
    have hS := hS.trans0 st38
    have hA37 := hA37.trans0 st38
    replace h27 := h27.up2 st38
    replace h36 := h36.up2 st38
    refine rt_cont hA37 ?_
    refine rt_fin ?_
    refine k_call cal24 rfl (bcompare_w (a0 := ([a0.Sum.e0, a0.Sum.e1, a0.Sum.e2, a0.Sum.e3, a0.Sum.e4, a0.Sum.e5, a0.Sum.e6, a0.Sum.e7, a0.Sum.e8, a0.Sum.e9, a0.Sum.e10, a0.Sum.e11, a0.Sum.e12, a0.Sum.e13, a0.Sum.e14, a0.Sum.e15] : List UInt8)) (a1 := ([a1.Sum.e0, a1.Sum.e1, a1.Sum.e2, a1.Sum.e3, a1.Sum.e4, a1.Sum.e5, a1.Sum.e6, a1.Sum.e7, a1.Sum.e8, a1.Sum.e9, a1.Sum.e10, a1.Sum.e11, a1.Sum.e12, a1.Sum.e13, a1.Sum.e14, a1.Sum.e15] : List UInt8)) h27 h36) rfl ?_
    rintro s39 _ st39 rfl
    have szs39 := st39.size
    have hS := hS.trans0 st39
    refine k_bslice2 (ds := ([x1, Lib.compareBytes ([a0.Sum.e0, a0.Sum.e1, a0.Sum.e2, a0.Sum.e3, a0.Sum.e4, a0.Sum.e5, a0.Sum.e6, a0.Sum.e7, a0.Sum.e8, a0.Sum.e9, a0.Sum.e10, a0.Sum.e11, a0.Sum.e12, a0.Sum.e13, a0.Sum.e14, a0.Sum.e15] : List UInt8) ([a1.Sum.e0, a1.Sum.e1, a1.Sum.e2, a1.Sum.e3, a1.Sum.e4, a1.Sum.e5, a1.Sum.e6, a1.Sum.e7, a1.Sum.e8, a1.Sum.e9, a1.Sum.e10, a1.Sum.e11, a1.Sum.e12, a1.Sum.e13, a1.Sum.e14, a1.Sum.e15] : List UInt8)] : List Int).map dI64) slc71 rfl (RVs.cons (R.val rfl) (RVs.cons (R.val rfl) RVs.nil)) (by rfl) (by rfl) rfl rfl ?_
    intro s40 v40 b40 st40 ge40 bl40 h40
    have szs40 := st40.size
    have hS := hS.trans0 st40
    have lt40 := Own.le1 h40
    obtain ⟨x5, hx5, h⟩ := ob h
    refine k_call cal22 rfl (cmp_Or_int_w  (h40.sl) hx5) rfl ?_
    rintro s41 vr41 st41 rfl
    have szs41 := st41.size
    have hS := hS.trans0 st41
    refine k_assign rfl rfl ?_
    refine k_nil ?_
    refine k_keep [(4, _)] ⟨rfl, trivial⟩ ?_
    refine k_ret ?_
    obtain rfl := Option.some.inj h
    refine ⟨_, rfl, Ret.mk hS ?_⟩
    exact rfl
  ·
   refine rt_act rfl rfl ?_
   have hA42 := Step.r0 (KN s2.n) s3
   refine k_cut_pt (g := bD) (i := 0) (j := 16) (pre := [.int .u64 (a1.Gen.toNat : Int)]) (post := []) (xs := ([a1.Sum.e0, a1.Sum.e1, a1.Sum.e2, a1.Sum.e3, a1.Sum.e4, a1.Sum.e5, a1.Sum.e6, a1.Sum.e7, a1.Sum.e8, a1.Sum.e9, a1.Sum.e10, a1.Sum.e11, a1.Sum.e12, a1.Sum.e13, a1.Sum.e14, a1.Sum.e15] : List UInt8)) cB (fun _ => rfl) (fun _ => rfl) arr27 rfl h2 rfl rfl CutAt.none CutAt.none (by decide) (by decide) (by decide) rfl ?_
   intro h43
   replace h43 : SL s3 ⟨b2 + 1, 0⟩ (.slice (some ⟨b2, 1 + 0, none⟩) (16 - 0) (16 - 0)) 1 (([a1.Sum.e0, a1.Sum.e1, a1.Sum.e2, a1.Sum.e3, a1.Sum.e4, a1.Sum.e5, a1.Sum.e6, a1.Sum.e7, a1.Sum.e8, a1.Sum.e9, a1.Sum.e10, a1.Sum.e11, a1.Sum.e12, a1.Sum.e13, a1.Sum.e14, a1.Sum.e15] : List UInt8).map bD) := h43
   refine rt_cont hA42 ?_
   refine rt_alt rfl rfl ?_ ?_
   ·
    have hA44 := Step.r0 (KN s2.n) s3
    refine k_call cal23 rfl (cmp_Compare_uint64_w   hx1) rfl ?_
    rintro s45 vr45 st45 rfl
    have szs45 := st45.size
    have hS := hS.trans0 st45
    have hA44 := hA44.trans0 st45
    replace h43 := h43.up2 st45
    replace h1 := h1.up2 st45
    refine rt_cont hA44 ?_
    refine rt_act rfl rfl ?_
    have hA46 := Step.r0 (KN s2.n) s45
    refine k_cut_pt (g := bD) (i := 0) (j := 16) (pre := [.int .u64 (a0.Gen.toNat : Int)]) (post := []) (xs := ([a0.Sum.e0, a0.Sum.e1, a0.Sum.e2, a0.Sum.e3, a0.Sum.e4, a0.Sum.e5, a0.Sum.e6, a0.Sum.e7, a0.Sum.e8, a0.Sum.e9, a0.Sum.e10, a0.Sum.e11, a0.Sum.e12, a0.Sum.e13, a0.Sum.e14, a0.Sum.e15] : List UInt8)) cB (fun _ => rfl) (fun _ => rfl) arr27 rfl h1 rfl rfl CutAt.none CutAt.none (by decide) (by decide) (by decide) rfl ?_
    intro h47
    replace h47 : SL s45 ⟨b1 + 1, 0⟩ (.slice (some ⟨b1, 1 + 0, none⟩) (16 - 0) (16 - 0)) 1 (([a0.Sum.e0, a0.Sum.e1, a0.Sum.e2, a0.Sum.e3, a0.Sum.e4, a0.Sum.e5, a0.Sum.e6, a0.Sum.e7, a0.Sum.e8, a0.Sum.e9, a0.Sum.e10, a0.Sum.e11, a0.Sum.e12, a0.Sum.e13, a0.Sum.e14, a0.Sum.e15] : List UInt8).map bD) := h47
    refine rt_cont hA46 ?_
    refine rt_fin ?_
    refine k_call cal24 rfl (bcompare_w (a0 := ([a0.Sum.e0, a0.Sum.e1, a0.Sum.e2, a0.Sum.e3, a0.Sum.e4, a0.Sum.e5, a0.Sum.e6, a0.Sum.e7, a0.Sum.e8, a0.Sum.e9, a0.Sum.e10, a0.Sum.e11, a0.Sum.e12, a0.Sum.e13, a0.Sum.e14, a0.Sum.e15] : List UInt8)) (a1 := ([a1.Sum.e0, a1.Sum.e1, a1.Sum.e2, a1.Sum.e3, a1.Sum.e4, a1.Sum.e5, a1.Sum.e6, a1.Sum.e7, a1.Sum.e8, a1.Sum.e9, a1.Sum.e10, a1.Sum.e11, a1.Sum.e12, a1.Sum.e13, a1.Sum.e14, a1.Sum.e15] : List UInt8)) h47 h43) rfl ?_
    rintro s48 _ st48 rfl
    have szs48 := st48.size
    have hS := hS.trans0 st48
    refine k_bslice2 (ds := ([x1, Lib.compareBytes ([a0.Sum.e0, a0.Sum.e1, a0.Sum.e2, a0.Sum.e3, a0.Sum.e4, a0.Sum.e5, a0.Sum.e6, a0.Sum.e7, a0.Sum.e8, a0.Sum.e9, a0.Sum.e10, a0.Sum.e11, a0.Sum.e12, a0.Sum.e13, a0.Sum.e14, a0.Sum.e15] : List UInt8) ([a1.Sum.e0, a1.Sum.e1, a1.Sum.e2, a1.Sum.e3, a1.Sum.e4, a1.Sum.e5, a1.Sum.e6, a1.Sum.e7, a1.Sum.e8, a1.Sum.e9, a1.Sum.e10, a1.Sum.e11, a1.Sum.e12, a1.Sum.e13, a1.Sum.e14, a1.Sum.e15] : List UInt8)] : List Int).map dI64) slc71 rfl (RVs.cons (R.val rfl) (RVs.cons (R.val rfl) RVs.nil)) (by rfl) (by rfl) rfl rfl ?_
    intro s49 v49 b49 st49 ge49 bl49 h49
    have szs49 := st49.size
    have hS := hS.trans0 st49
    have lt49 := Own.le1 h49
    obtain ⟨x6, hx6, h⟩ := ob h
    refine k_call cal22 rfl (cmp_Or_int_w  (h49.sl) hx6) rfl ?_
    rintro s50 vr50 st50 rfl
    have szs50 := st50.size
    have hS := hS.trans0 st50
    refine k_assign rfl rfl ?_
    refine k_nil ?_
    refine k_keep [(4, _)] ⟨rfl, trivial⟩ ?_
    refine k_ret ?_
    obtain rfl := Option.some.inj h
    refine ⟨_, rfl, Ret.mk hS ?_⟩
    exact rfl
   ·
    refine rt_act rfl rfl ?_
    have hA51 := Step.r0 (KN s2.n) s3
    refine k_cut_pt (g := bD) (i := 0) (j := 16) (pre := [.int .u64 (a0.Gen.toNat : Int)]) (post := []) (xs := ([a0.Sum.e0, a0.Sum.e1, a0.Sum.e2, a0.Sum.e3, a0.Sum.e4, a0.Sum.e5, a0.Sum.e6, a0.Sum.e7, a0.Sum.e8, a0.Sum.e9, a0.Sum.e10, a0.Sum.e11, a0.Sum.e12, a0.Sum.e13, a0.Sum.e14, a0.Sum.e15] : List UInt8)) cB (fun _ => rfl) (fun _ => rfl) arr27 rfl h1 rfl rfl CutAt.none CutAt.none (by decide) (by decide) (by decide) rfl ?_
    intro h52
    replace h52 : SL s3 ⟨b1 + 1, 0⟩ (.slice (some ⟨b1, 1 + 0, none⟩) (16 - 0) (16 - 0)) 1 (([a0.Sum.e0, a0.Sum.e1, a0.Sum.e2, a0.Sum.e3, a0.Sum.e4, a0.Sum.e5, a0.Sum.e6, a0.Sum.e7, a0.Sum.e8, a0.Sum.e9, a0.Sum.e10, a0.Sum.e11, a0.Sum.e12, a0.Sum.e13, a0.Sum.e14, a0.Sum.e15] : List UInt8).map bD) := h52
    refine rt_cont hA51 ?_
    refine rt_act rfl rfl ?_
    have hA53 := Step.r0 (KN s2.n) s3
    refine k_call cal23 rfl (cmp_Compare_uint64_w   hx1) rfl ?_
    rintro s54 vr54 st54 rfl
    have szs54 := st54.size
    have hS := hS.trans0 st54
    have hA53 := hA53.trans0 st54
    replace h43 := h43.up2 st54
    replace h52 := h52.up2 st54
    refine rt_cont hA53 ?_
    refine rt_fin ?_
    refine k_call cal24 rfl (bcompare_w (a0 := ([a0.Sum.e0, a0.Sum.e1, a0.Sum.e2, a0.Sum.e3, a0.Sum.e4, a0.Sum.e5, a0.Sum.e6, a0.Sum.e7, a0.Sum.e8, a0.Sum.e9, a0.Sum.e10, a0.Sum.e11, a0.Sum.e12, a0.Sum.e13, a0.Sum.e14, a0.Sum.e15] : List UInt8)) (a1 := ([a1.Sum.e0, a1.Sum.e1, a1.Sum.e2, a1.Sum.e3, a1.Sum.e4, a1.Sum.e5, a1.Sum.e6, a1.Sum.e7, a1.Sum.e8, a1.Sum.e9, a1.Sum.e10, a1.Sum.e11, a1.Sum.e12, a1.Sum.e13, a1.Sum.e14, a1.Sum.e15] : List UInt8)) h52 h43) rfl ?_
    rintro s55 _ st55 rfl
    have szs55 := st55.size
    have hS := hS.trans0 st55
    refine k_bslice2 (ds := ([x1, Lib.compareBytes ([a0.Sum.e0, a0.Sum.e1, a0.Sum.e2, a0.Sum.e3, a0.Sum.e4, a0.Sum.e5, a0.Sum.e6, a0.Sum.e7, a0.Sum.e8, a0.Sum.e9, a0.Sum.e10, a0.Sum.e11, a0.Sum.e12, a0.Sum.e13, a0.Sum.e14, a0.Sum.e15] : List UInt8) ([a1.Sum.e0, a1.Sum.e1, a1.Sum.e2, a1.Sum.e3, a1.Sum.e4, a1.Sum.e5, a1.Sum.e6, a1.Sum.e7, a1.Sum.e8, a1.Sum.e9, a1.Sum.e10, a1.Sum.e11, a1.Sum.e12, a1.Sum.e13, a1.Sum.e14, a1.Sum.e15] : List UInt8)] : List Int).map dI64) slc71 rfl (RVs.cons (R.val rfl) (RVs.cons (R.val rfl) RVs.nil)) (by rfl) (by rfl) rfl rfl ?_
    intro s56 v56 b56 st56 ge56 bl56 h56
    have szs56 := st56.size
    have hS := hS.trans0 st56
    have lt56 := Own.le1 h56
    obtain ⟨x7, hx7, h⟩ := ob h
    refine k_call cal22 rfl (cmp_Or_int_w  (h56.sl) hx7) rfl ?_
    rintro s57 vr57 st57 rfl
    have szs57 := st57.size
    have hS := hS.trans0 st57
    refine k_assign rfl rfl ?_
    refine k_nil ?_
    refine k_keep [(4, _)] ⟨rfl, trivial⟩ ?_
    refine k_ret ?_
    obtain rfl := Option.some.inj h
    refine ⟨_, rfl, Ret.mk hS ?_⟩
    exact rfl

set_option maxHeartbeats 20000000 in
set_option maxRecDepth 100000 in
theorem rev_Chain_w {s : St} {l0 : Lab} {v0 : Value} {a0 : (List ApiRev)} {r : Bool} (hp0 : SL s l0 v0 17 (a0.map dApiRev)) (h : rev_Chain a0 = some r) : Calls Tryd.prog 8 #[v0] s.w (Ret s K0 (fun s1 v => v = .bool r)) := by
 unfold rev_Chain at h
 obtain ⟨lf0, lf0le, lf0ne, hp0⟩ := hp0.fix
 have hS := Step.r0 K0 s
 refine k_fn (rs := [2]) (args := [v0]) Tryd.func8 rfl rfl rfl rfl ?_
 refine k_seq ?_
 refine k_region ?_
 refine k_assign rfl rfl ?_
 refine k_nil ?_
 refine k_seq ?_
 obtain ⟨kj1, hK1, h⟩ := jn_out h
 have hE1 := Step.r0 K0 s
 refine k_cutc (X := St) [(0, v0), (2, .bool false)] (fun (xL : St) => match xL with | sl => []) (fun (xL : St) (wL : World) => match xL with | sl => sl.w = wL ∧ Step K0 s sl ∧ kj1 () = some r) ?_ ?_
 ·
  refine k_seq ?_
  refine k_region ?_
  refine k_move rfl rfl ?_
  refine k_len Tryd.underlying22 rfl hp0.hasLen rfl ?_
  refine k_as (v := .int .i64 (a0.length : Int)) (by simp only [List.length_map]) ?_
  refine k_move rfl rfl ?_
  refine k_nil ?_
  refine k_block ?_
  refine k_loopc (X := St × Int × Nat) [(0, _), (2, _), (5, _), (6, _)] (fun (xL : St × Int × Nat) => match xL with | (sl, x2, j) => [(7, .int .i64 x2)]) (fun (xL : St × Int × Nat) (wL : World) => match xL with | (sl, x2, j) => sl.w = wL ∧ Step K0 s sl ∧ rev_Chain_l1 a0 kj1 j x2 = some r) (fun (xL : St × Int × Nat) => match xL with | (sl, x2, j) => j) (s, 0, FU) ⟨rfl, rfl, rfl, rfl, trivial⟩ ⟨(by first | rfl | (simp <;> rfl)), trivial⟩ ⟨rfl, (Step.refl _).of0 (by first | exact fun _ h => h | (intro c h; simp [KC, KO, KU, KN, KB] at h <;> omega)), h⟩ ?_
  rintro ⟨s3, x2, j⟩ wL ⟨rfl, hE2, h⟩
  cases j with
  | zero => rw [rev_Chain_l1] at h; exact (noneNe h).elim
  | succ j =>
  rw [rev_Chain_l1] at h
  have szs3 := hE2.size
  have hS := hS.trans0 hE2
  have hE1 := hE1.trans0 hE2
  replace hp0 := hp0.up2 hE2
  refine k_seq ?_
  refine k_region ?_
  refine k_lss rfl rfl rfl ?_
  refine k_nil ?_
  refine k_seq ?_
  refine k_cond_dec rfl (fun c4 => ?_) (fun c4 => ?_)
  ·
   have h := itT h c4
   refine k_skip ?_
   refine k_seq ?_
   refine k_block ?_
   refine k_seq ?_
   refine k_region ?_
   refine k_move rfl rfl ?_
   obtain ⟨x3, hx3, h⟩ := ob h
   refine k_ixaddr Tryd.underlying22 size29 rfl rfl hp0 (geti_out hx3).1 (geti_map hx3) rfl ?_
   intro qx3 hqx3
   refine k_load_agg (by exact agg29) rfl hqx3 rfl ?_
   intro cs5 h5
   obtain rfl := opnApiRev h5
   refine k_alloc zero29 rfl ?_
   intro s6 b6 st6 h6 ge6
   have szs6 := st6.size
   have hS := hS.trans0 st6
   have hE1 := hE1.trans0 st6
   have hE2 := hE2.trans0 st6
   replace hp0 := hp0.up2 st6
   have lt6 := h6.lt
   refine k_assign rfl rfl ?_
   refine k_store_c (cs' := [.int .u64 (x3.Gen.toNat : Int), .int .u8 (x3.Sum.e0.toNat : Int), .int .u8 (x3.Sum.e1.toNat : Int), .int .u8 (x3.Sum.e2.toNat : Int), .int .u8 (x3.Sum.e3.toNat : Int), .int .u8 (x3.Sum.e4.toNat : Int), .int .u8 (x3.Sum.e5.toNat : Int), .int .u8 (x3.Sum.e6.toNat : Int), .int .u8 (x3.Sum.e7.toNat : Int), .int .u8 (x3.Sum.e8.toNat : Int), .int .u8 (x3.Sum.e9.toNat : Int), .int .u8 (x3.Sum.e10.toNat : Int), .int .u8 (x3.Sum.e11.toNat : Int), .int .u8 (x3.Sum.e12.toNat : Int), .int .u8 (x3.Sum.e13.toNat : Int), .int .u8 (x3.Sum.e14.toNat : Int), .int .u8 (x3.Sum.e15.toNat : Int)]) size29 rfl rfl h6 (by first | (simp; done) | omega | (dsimp only; omega)) (CellsOf.lit rfl rfl) rfl (by first | rfl | (simp; done) | (simp; omega)) rfl ?_
   intro s7 st7 h6
   have szs7 := st7.size
   have hS := hS.c0 st7
   have hE1 := hE1.c0 st7
   have hE2 := hE2.c0 st7
   replace hp0 := hp0.up2 st7
   refine k_nil ?_
   refine k_keep [(0, _), (2, _), (3, _), (4, _), (5, _), (6, _), (7, _)] ⟨rfl, rfl, rfl, rfl, rfl, rfl, rfl, trivial⟩ ?_
   refine k_seq ?_
   refine k_drawT (KN s7.n) 19 (.read 0 (.alt 1 (.read 2 (.read 3 (.read 4 (.read 5 (.read 6 (.read 7 (.read 8 (.read 9 (.read 10 (.read 11 (.read 12 (.read 13 (.read 14 (.read 15 (.read 16 (.read 17 (.read 18 .fin))))))))))))))))) .no)) mixed (by intro c h; (try simp only [KC, KO, KU, KN, KB] at h) <;> omega) rfl rfl rfl ?_
   intro s8 st8
   have szs8 := st8.size
   have hS := hS.trans0 st8
   have hE1 := hE1.trans0 st8
   have hE2 := hE2.trans0 st8
   replace hp0 := hp0.up2 st8
   replace h6 := h6.up2 st8
   refine rt_read (.agg #[.int .u64 (x3.Gen.toNat : Int), .int .u8 (x3.Sum.e0.toNat : Int), .int .u8 (x3.Sum.e1.toNat : Int), .int .u8 (x3.Sum.e2.toNat : Int), .int .u8 (x3.Sum.e3.toNat : Int), .int .u8 (x3.Sum.e4.toNat : Int), .int .u8 (x3.Sum.e5.toNat : Int), .int .u8 (x3.Sum.e6.toNat : Int), .int .u8 (x3.Sum.e7.toNat : Int), .int .u8 (x3.Sum.e8.toNat : Int), .int .u8 (x3.Sum.e9.toNat : Int), .int .u8 (x3.Sum.e10.toNat : Int), .int .u8 (x3.Sum.e11.toNat : Int), .int .u8 (x3.Sum.e12.toNat : Int), .int .u8 (x3.Sum.e13.toNat : Int), .int .u8 (x3.Sum.e14.toNat : Int), .int .u8 (x3.Sum.e15.toNat : Int)]) rfl rfl (fun s9 st9 => ?_) ?_
   ·try replace h6 := h6.up2 st9
    refine k_load_blka (cs := [.int .u64 (x3.Gen.toNat : Int), .int .u8 (x3.Sum.e0.toNat : Int), .int .u8 (x3.Sum.e1.toNat : Int), .int .u8 (x3.Sum.e2.toNat : Int), .int .u8 (x3.Sum.e3.toNat : Int), .int .u8 (x3.Sum.e4.toNat : Int), .int .u8 (x3.Sum.e5.toNat : Int), .int .u8 (x3.Sum.e6.toNat : Int), .int .u8 (x3.Sum.e7.toNat : Int), .int .u8 (x3.Sum.e8.toNat : Int), .int .u8 (x3.Sum.e9.toNat : Int), .int .u8 (x3.Sum.e10.toNat : Int), .int .u8 (x3.Sum.e11.toNat : Int), .int .u8 (x3.Sum.e12.toNat : Int), .int .u8 (x3.Sum.e13.toNat : Int), .int .u8 (x3.Sum.e14.toNat : Int), .int .u8 (x3.Sum.e15.toNat : Int)]) agg29 rfl h6 rfl ?_
    exact fq_end
   refine rt_act rfl rfl ?_
   have hA10 := Step.r0 (KN s7.n) s8
   obtain ⟨x4, hx4, h⟩ := ob h
   refine k_call cal13 rfl (rev_May_w  (clsApiRev x3) hx4) rfl ?_
   rintro s11 vr11 st11 rfl
   have szs11 := st11.size
   have hS := hS.trans0 st11
   have hE1 := hE1.trans0 st11
   have hE2 := hE2.trans0 st11
   have hA10 := hA10.trans0 st11
   replace hp0 := hp0.up2 st11
   replace h6 := h6.up2 st11
   refine rt_cont hA10 ?_
   refine rt_read (.bool (!x4)) rfl rfl (fun s12 st12 => ?_) ?_
   ·refine k_not rfl rfl ?_
    exact fq_end
   refine rt_read (.bool (!x4)) rfl rfl (fun s13 st13 => ?_) ?_
   ·refine k_move rfl rfl ?_
    exact fq_end
   refine rt_splitb (fun c14 => ?_) (fun c14 => ?_)
   ·
    have h := ibT h c14
    refine rt_read undef rfl rfl (fun s15 st15 => ?_) ?_
    ·refine k_no rfl rfl rfl rfl ?_
     exact fq_end
    refine rt_read undef rfl rfl (fun s16 st16 => ?_) ?_
    ·refine k_no rfl rfl rfl rfl ?_
     exact fq_end
    refine rt_read undef rfl rfl (fun s17 st17 => ?_) ?_
    ·refine k_no rfl rfl rfl rfl ?_
     exact fq_end
    refine rt_read undef rfl rfl (fun s18 st18 => ?_) ?_
    ·refine k_nou rfl rfl rfl rfl ?_
     exact fq_end
    refine rt_read undef rfl rfl (fun s19 st19 => ?_) ?_
    ·refine k_nou rfl rfl rfl rfl ?_
     exact fq_end
    refine rt_read undef rfl rfl (fun s20 st20 => ?_) ?_
    ·refine k_nou rfl rfl rfl rfl ?_
     exact fq_end
    refine rt_read undef rfl rfl (fun s21 st21 => ?_) ?_
    ·refine k_nou rfl rfl rfl rfl ?_
     exact fq_end
    refine rt_read undef rfl rfl (fun s22 st22 => ?_) ?_
    ·refine k_nou rfl rfl rfl rfl ?_
     exact fq_end
    refine rt_read undef rfl rfl (fun s23 st23 => ?_) ?_
    ·refine k_nou rfl rfl rfl rfl ?_
     exact fq_end
    refine rt_read undef rfl rfl (fun s24 st24 => ?_) ?_
    ·refine k_nou rfl rfl rfl rfl ?_
     exact fq_end
    refine rt_read undef rfl rfl (fun s25 st25 => ?_) ?_
    ·refine k_nou rfl rfl rfl rfl ?_
     exact fq_end
    refine rt_read undef rfl rfl (fun s26 st26 => ?_) ?_
    ·refine k_nou rfl rfl rfl rfl ?_
     exact fq_end
    refine rt_read undef rfl rfl (fun s27 st27 => ?_) ?_
    ·refine k_nou rfl rfl rfl rfl ?_
     exact fq_end
    refine rt_read undef rfl rfl (fun s28 st28 => ?_) ?_
    ·refine k_no rfl rfl rfl rfl ?_
     exact fq_end
    refine rt_read (.bool true) rfl rfl (fun s29 st29 => ?_) ?_
    ·refine k_pickT rfl rfl rfl rfl ?_
     exact fq_end
    refine rt_fin ?_
    refine k_nil ?_
    refine k_keep [(0, _), (2, _), (5, _), (6, _), (7, _), (30, _)] ⟨rfl, rfl, rfl, rfl, rfl, rfl, trivial⟩ ?_
    refine k_cond_true rfl ?_
    refine k_seq ?_
    refine k_region ?_
    refine k_assign rfl rfl ?_
    refine k_nil ?_
    refine k_keep [(0, _), (2, _), (5, _), (6, _), (7, _)] ⟨rfl, rfl, rfl, rfl, rfl, trivial⟩ ?_
    refine k_ret ?_
    obtain rfl := Option.some.inj h
    refine ⟨_, rfl, Ret.mk hS ?_⟩
    exact rfl
   ·
    have h := ibF h c14
    refine rt_read (.int .i64 x2) rfl rfl (fun s30 st30 => ?_) ?_
    ·refine k_yes rfl rfl ?_
     refine k_move rfl rfl ?_
     exact fq_end
    refine rt_read (.bool (decide (0 < x2))) rfl rfl (fun s31 st31 => ?_) ?_
    ·refine k_yes rfl rfl ?_
     refine k_gtr rfl rfl rfl ?_
     exact fq_end
    refine rt_read (.bool (decide (0 < x2))) rfl rfl (fun s32 st32 => ?_) ?_
    ·refine k_yes rfl rfl ?_
     refine k_move rfl rfl ?_
     exact fq_end
    refine rt_split (fun c33 => ?_) (fun c33 => ?_)
    ·
     have h := itT h c33
     refine rt_read (.pointer (some ⟨b6, 0, none⟩)) rfl rfl (fun s34 st34 => ?_) ?_
     ·refine k_yes rfl rfl ?_
      refine k_field_addr fld29_0 rfl rfl ?_
      exact fq_end
     refine rt_read (.int .u64 (x3.Gen.toNat : Int)) rfl rfl (fun s35 st35 => ?_) ?_
     ·try replace h6 := h6.up2 st35
      refine k_yes rfl rfl ?_
      refine k_load_blk one26 rfl h6 rfl rfl ?_
      exact fq_end
     refine rt_read (.int .u64 ((ofI64 ((x3.Gen.toNat : Int) + 1)).toNat : Int)) rfl rfl (fun s36 st36 => ?_) ?_
     ·refine k_yes rfl rfl ?_
      refine k_add rfl rfl rfl ?_
      refine k_as (congrArg (Value.int .u64) (w64 _)) ?_
      exact fq_end
     refine rt_read (v0) rfl rfl (fun s37 st37 => ?_) ?_
     ·refine k_yes rfl rfl ?_
      refine k_move rfl rfl ?_
      exact fq_end
     refine rt_read (.int .i64 x2) rfl rfl (fun s38 st38 => ?_) ?_
     ·refine k_yes rfl rfl ?_
      refine k_move rfl rfl ?_
      exact fq_end
     refine rt_read (.int .i64 (i64 (x2 - 1))) rfl rfl (fun s39 st39 => ?_) ?_
     ·refine k_yes rfl rfl ?_
      refine k_sub_ rfl rfl rfl ?_
      exact fq_end
     obtain ⟨x5, hx5, h⟩ := ob h
     refine rt_ix rfl (wanted_yes rfl rfl rfl) Tryd.underlying22 size29 rfl rfl hp0 (geti_out hx5).1 (geti_map hx5) rfl ?_
     intro q40 hq40
     refine rt_fa rfl (wanted_yes rfl rfl rfl) rfl hq40 (by rfl) fld29_0 rfl ?_
     intro q41 h41
     refine rt_read (.int .u64 (x5.Gen.toNat : Int)) rfl rfl (fun s42 st42 => ?_) ?_
     ·try replace h41 := h41.up2 st42
      refine k_yes rfl rfl ?_
      refine k_load_val one26 rfl h41 rfl ?_
      exact fq_end
     refine rt_read (.bool (decide (((ofI64 ((x3.Gen.toNat : Int) + 1)).toNat : Int) ≠ (x5.Gen.toNat : Int)))) rfl rfl (fun s43 st43 => ?_) ?_
     ·refine k_yes rfl rfl ?_
      refine k_neq rfl rfl rfl ?_
      exact fq_end
     refine rt_read (.bool (decide (((ofI64 ((x3.Gen.toNat : Int) + 1)).toNat : Int) ≠ (x5.Gen.toNat : Int)))) rfl rfl (fun s44 st44 => ?_) ?_
     ·refine k_yes rfl rfl ?_
      refine k_pickT rfl rfl rfl rfl ?_
      exact fq_end
     refine rt_read (.bool (decide (((ofI64 ((x3.Gen.toNat : Int) + 1)).toNat : Int) ≠ (x5.Gen.toNat : Int)))) rfl rfl (fun s45 st45 => ?_) ?_
     ·refine k_pickF rfl rfl rfl rfl ?_
      exact fq_end
     refine rt_fin ?_
     refine k_nil ?_
     refine k_keep [(0, _), (2, _), (5, _), (6, _), (7, _), (30, _)] ⟨rfl, rfl, rfl, rfl, rfl, rfl, trivial⟩ ?_
     refine k_cond_dec rfl (fun c46 => ?_) (fun c46 => ?_)
     ·
      have h := itT h c46
      refine k_seq ?_
      refine k_region ?_
      refine k_assign rfl rfl ?_
      refine k_nil ?_
      refine k_keep [(0, _), (2, _), (5, _), (6, _), (7, _)] ⟨rfl, rfl, rfl, rfl, rfl, trivial⟩ ?_
      refine k_ret ?_
      obtain rfl := Option.some.inj h
      refine ⟨_, rfl, Ret.mk hS ?_⟩
      exact rfl
     ·
      have h := itF h c46
      refine k_skip ?_
      refine k_blk ?_
      refine k_region ?_
      refine k_add rfl rfl rfl ?_
      refine k_move rfl rfl ?_
      refine k_nil ?_
      exact k_stop ⟨(s11, i64 (x2 + 1), j), ⟨(by first | rfl | (simp <;> rfl)), trivial⟩, ⟨rfl, rfl, rfl, rfl, trivial⟩, ⟨rfl, hE2, h⟩, (by simp)⟩
    ·
     have h := itF h c33
     refine rt_read undef rfl rfl (fun s47 st47 => ?_) ?_
     ·refine k_no rfl rfl rfl rfl ?_
      exact fq_end
     refine rt_read undef rfl rfl (fun s48 st48 => ?_) ?_
     ·refine k_no rfl rfl rfl rfl ?_
      exact fq_end
     refine rt_read undef rfl rfl (fun s49 st49 => ?_) ?_
     ·refine k_no rfl rfl rfl rfl ?_
      exact fq_end
     refine rt_read undef rfl rfl (fun s50 st50 => ?_) ?_
     ·refine k_no rfl rfl rfl rfl ?_
      exact fq_end
     refine rt_read undef rfl rfl (fun s51 st51 => ?_) ?_
     ·refine k_no rfl rfl rfl rfl ?_
      exact fq_end
     refine rt_read undef rfl rfl (fun s52 st52 => ?_) ?_
     ·refine k_no rfl rfl rfl rfl ?_
      exact fq_end
     refine rt_read undef rfl rfl (fun s53 st53 => ?_) ?_
     ·refine k_no rfl rfl rfl rfl ?_
      exact fq_end
     refine rt_read undef rfl rfl (fun s54 st54 => ?_) ?_
     ·refine k_no rfl rfl rfl rfl ?_
      exact fq_end
     refine rt_read undef rfl rfl (fun s55 st55 => ?_) ?_
     ·refine k_no rfl rfl rfl rfl ?_
      exact fq_end
     refine rt_read undef rfl rfl (fun s56 st56 => ?_) ?_
     ·refine k_no rfl rfl rfl rfl ?_
      exact fq_end
     refine rt_read (.bool false) rfl rfl (fun s57 st57 => ?_) ?_
     ·refine k_yes rfl rfl ?_
      refine k_pickF rfl rfl rfl rfl ?_
      exact fq_end
     refine rt_read (.bool false) rfl rfl (fun s58 st58 => ?_) ?_
     ·refine k_pickF rfl rfl rfl rfl ?_
      exact fq_end
     refine rt_fin ?_
     refine k_nil ?_
     refine k_keep [(0, _), (2, _), (5, _), (6, _), (7, _), (30, _)] ⟨rfl, rfl, rfl, rfl, rfl, rfl, trivial⟩ ?_
     refine k_cond_false rfl ?_
     refine k_skip ?_
     refine k_blk ?_
     refine k_region ?_
     refine k_add rfl rfl rfl ?_
     refine k_move rfl rfl ?_
     refine k_nil ?_
     exact k_stop ⟨(s11, i64 (x2 + 1), j), ⟨(by first | rfl | (simp <;> rfl)), trivial⟩, ⟨rfl, rfl, rfl, rfl, trivial⟩, ⟨rfl, hE2, h⟩, (by simp)⟩
  ·
   have h := itF h c4
   refine k_exit rfl ?_
   exact k_stop ⟨s3, trivial, ⟨rfl, rfl, trivial⟩, ⟨rfl, hE1, h⟩⟩
 ·
  rintro s59 wL ⟨rfl, hE1, h⟩
  rw [hK1] at h
  have szs59 := hE1.size
  have hS := hS.trans0 hE1
  replace hp0 := hp0.up2 hE1
  refine k_seq ?_
  refine k_region ?_
  refine k_move rfl rfl ?_
  refine k_len Tryd.underlying22 rfl hp0.hasLen rfl ?_
  refine k_as (v := .int .i64 (a0.length : Int)) (by simp only [List.length_map]) ?_
  refine k_geq rfl rfl rfl ?_
  refine k_move rfl rfl ?_
  have hE60 := Step.r0 K0 s59
  refine k_cutl (X := St) 4 [(0, v0), (2, .bool false), (32, v0), (33, .int .i64 (a0.length : Int)), (34, .bool (decide (1 ≤ (a0.length : Int))))] (fun _ => [(39, .bool (decide ((1 ≤ (a0.length : Int)) ∧ ((a0.length : Int) ≤ 16))))]) (fun sl wL => sl.w = wL ∧ Step K0 s59 sl) ?_ ?_
  ·
   refine k_again 35 rfl ?_
   refine k_split (fun c61 => ?_) (fun c61 => ?_)
   ·
    refine k_yes rfl rfl ?_
    refine k_move rfl rfl ?_
    refine k_yes rfl rfl ?_
    refine k_len Tryd.underlying22 rfl hp0.hasLen rfl ?_
    refine k_as (v := .int .i64 (a0.length : Int)) (by simp only [List.length_map]) ?_
    refine k_yes rfl rfl ?_
    refine k_leq rfl rfl rfl ?_
    refine k_pickT rfl rfl rfl rfl ?_
    exact k_met ⟨s59, ⟨(congrArg (fun b => some (Value.bool b)) (by first | exact decide_eq_decide.2 ⟨fun h => ⟨c61, h⟩, fun h => h.2⟩ | exact (decide_eq_false (fun h => c61 h.1)).symm | (simp [c61]; done) | exact dec_andT c61 | exact dec_andF c61 | exact dec_orF c61 | exact dec_orT c61 | (simp [c61, i64] <;> omega))), trivial⟩, ⟨rfl, rfl, rfl, rfl, rfl, trivial⟩, rfl, hE60⟩
   ·
    refine k_no rfl rfl rfl rfl ?_
    refine k_no rfl rfl rfl rfl ?_
    refine k_no rfl rfl rfl rfl ?_
    refine k_pickF rfl rfl rfl rfl ?_
    exact k_met ⟨s59, ⟨(congrArg (fun b => some (Value.bool b)) (by first | exact decide_eq_decide.2 ⟨fun h => ⟨c61, h⟩, fun h => h.2⟩ | exact (decide_eq_false (fun h => c61 h.1)).symm | (simp [c61]; done) | exact dec_andT c61 | exact dec_andF c61 | exact dec_orF c61 | exact dec_orT c61 | (simp [c61, i64] <;> omega))), trivial⟩, ⟨rfl, rfl, rfl, rfl, rfl, trivial⟩, rfl, hE60⟩
  ·
   rintro s62 wL ⟨rfl, hE60⟩
   have szs62 := hE60.size
   have hS := hS.trans0 hE60
   refine k_assign rfl rfl ?_
   refine k_nil ?_
   refine k_keep [(2, _)] ⟨rfl, trivial⟩ ?_
   refine k_ret ?_
   obtain rfl := Option.some.inj h
   refine ⟨_, rfl, Ret.mk hS ?_⟩
   exact rfl
end Go.Proofs
