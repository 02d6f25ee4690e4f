import Derived.Test.YtcjcpmfnolhclaaDoorW11DLogfileFull1
set_option linter.unusedSimpArgs false
set_option linter.unusedVariables false
namespace Go.Proofs
open Go.Fw
set_option maxHeartbeats 1000000 in
set_option maxRecDepth 100000 in
theorem logfile_Log_Append_r2_w {s : St} {k0 : Nat} {p0 : Value} {a0 : LogfileLog} {v1 : Value} {a1 : (List UInt8)} {k2 : Nat} {p2 : Value} {a2 : DiskDisk} {r : (Int × LogfileLog × DiskDisk)} (ho0 : OLogfileLog p2 s k0 p0 a0) (hp1 : R s v1 (.sl 1 (a1.map bD))) (ho2 : ODiskDisk s k2 p2 a2) (hk0_2 : k0 ≠ k2) (h : logfile_Log_Append_r2 a0 a1 a2 = some r) : Calls Tryd.prog 11 #[p0, v1] s.w (Ret s (KU (KO k0) (KO k2)) (fun s1 v => v = .int .i64 r.1 ∧ OLogfileLog p2 s1 k0 p0 r.2.1 ∧ ODiskDisk s1 k2 p2 r.2.2)) := by
 unfold logfile_Log_Append_r2 at h
 have le0 := ho0.le
 have ne0 := ho0.ne
 have le2 := ho2.le
 have ne2 := ho2.ne
 obtain ⟨bo2, rfl⟩ := ho2.ptr
 obtain ⟨bo0, rfl⟩ := ho0.ptr
 obtain ⟨wo0_0, hb_o0, hwo0_0⟩ := ho0.at_
 have hS := Step.r0 (KU (KO k0) (KO k2)) s
 refine k_fn (rs := [4]) (args := [.pointer (some ⟨bo0, 0, none⟩), v1]) Tryd.func11 rfl rfl rfl rfl ?_
 refine k_seq ?_
 refine k_region ?_
 refine k_assign rfl rfl ?_
 refine k_nil ?_
 refine k_seq ?_
 refine k_seq ?_
 refine k_region ?_
 refine k_move rfl rfl ?_
 obtain ⟨x1, hx1, h⟩ := ob h
 obtain rfl := Option.some.inj (show some false = some x1 from hx1)
 refine k_call cal31 rfl (logfile_Log_none_r1_w  (OLogfileLog.mk_ a0 (by omega) hwo0_0 hb_o0) ho2 hx1) rfl ?_
 rintro s1 vr1 st1 rfl
 have szs1 := st1.size
 have hS := hS.trans0 st1
 replace hp1 := hp1.up2 st1
 replace ho2 := ho2.up2 st1
 replace hwo0_0 := hwo0_0.up2 st1
 replace hb_o0 := hb_o0.up2 st1
 refine k_move rfl rfl ?_
 refine k_yes rfl rfl ?_
 refine k_move rfl rfl ?_
 refine k_yes rfl rfl ?_
 refine k_nilCheck rfl rfl ?_
 refine k_yes rfl rfl ?_
 refine k_field_addr fld53_0 rfl rfl ?_
 refine k_yes rfl rfl ?_
 refine k_field_addr fld48_0 rfl rfl ?_
 refine k_yes rfl rfl ?_
 refine k_load_blk one23 rfl hb_o0 rfl rfl ?_
 refine k_yes rfl rfl ?_
 obtain ⟨x2, hx2, h⟩ := ob h
 refine k_call cal10 rfl (disk_Disk_Down_w  ho2 hx2) rfl ?_
 rintro s2 vr2 st2 rfl
 have szs2 := st2.size
 have hS := hS.trans0 st2
 replace hp1 := hp1.up2 st2
 replace ho2 := ho2.up2 st2
 replace hwo0_0 := hwo0_0.up2 st2
 replace hb_o0 := hb_o0.up2 st2
 refine k_pickF rfl rfl rfl rfl ?_
 refine k_nil ?_
 refine k_keep [(0, _), (1, _), (4, _), (18, _)] ⟨rfl, rfl, rfl, rfl, trivial⟩ ?_
 refine k_cond rfl (fun c3 => ?_) (fun c3 => ?_)
 ·
  have h := ibT h c3
  refine k_seq ?_
  refine k_region ?_
  refine k_assign rfl rfl ?_
  refine k_nil ?_
  refine k_keep [(0, _), (1, _), (4, _)] ⟨rfl, rfl, rfl, trivial⟩ ?_
  refine k_ret ?_
  obtain rfl := Option.some.inj h
  refine ⟨_, rfl, Ret.mk hS ?_⟩
  exact ⟨rfl, (OLogfileLog.mk_ a0 (by omega) hwo0_0 hb_o0), ho2⟩
 ·
  have h := ibF h c3
  refine k_skip ?_
  refine k_seq ?_
  refine k_region ?_
  refine k_move rfl rfl ?_
  refine k_nilCheck rfl rfl ?_
  refine k_field_addr fld53_3 rfl rfl ?_
  refine k_load_sub (cs' := [.int .i64 a0.tail.Count, .int .i64 a0.tail.Size, .int .u32 (a0.tail.Sum.toNat : Int)]) agg51 rfl hb_o0 rfl rfl rfl ?_
  refine k_move rfl rfl ?_
  obtain ⟨x3, hx3, h⟩ := ob h
  refine k_call cal32 rfl (frame_Put_w  (clsApiTail a0.tail) (show R s2 v1 (.sl 1 (a1.map bD)) from hp1) hx3) rfl ?_
  rintro s4 vr4 st4 ⟨v4_0, cs4_1, rfl, h4_0, h4_1⟩
  have szs4 := st4.size
  have hS := hS.trans0 st4
  replace hp1 := hp1.up2 st4
  replace ho2 := ho2.up2 st4
  replace hwo0_0 := hwo0_0.up2 st4
  replace hb_o0 := hb_o0.up2 st4
  obtain rfl := opnApiTail h4_1
  refine k_move rfl rfl ?_
  refine k_extract rfl rfl rfl ?_
  refine k_extract rfl rfl rfl ?_
  refine k_extract rfl rfl rfl ?_
  refine k_alloc zero51 rfl ?_
  intro s5 b5 st5 h5 ge5
  have szs5 := st5.size
  have hS := hS.trans0 st5
  replace hp1 := hp1.up2 st5
  replace h4_0 := h4_0.up2 st5
  replace ho2 := ho2.up2 st5
  replace hwo0_0 := hwo0_0.up2 st5
  replace hb_o0 := hb_o0.up2 st5
  have lt5 := h5.lt
  refine k_assign rfl rfl ?_
  refine k_store_c (cs' := [.int .i64 x3.2.1.Count, .int .i64 x3.2.1.Size, .int .u32 (x3.2.1.Sum.toNat : Int)]) size51 rfl rfl h5 (by first | (simp; done) | omega | (dsimp only; omega)) (CellsOf.lit rfl rfl) rfl (by first | rfl | (simp; done) | (simp; omega)) rfl ?_
  intro s6 st6 h5
  have szs6 := st6.size
  have hS := hS.c0 st6
  replace hp1 := hp1.up2 st6
  replace h4_0 := h4_0.up2 st6
  replace ho2 := ho2.up2 st6
  replace hwo0_0 := hwo0_0.up2 st6
  replace hb_o0 := hb_o0.up2 st6
  refine k_assign rfl rfl ?_
  refine k_nil ?_
  refine k_keep [(0, _), (1, _), (4, _), (5, _), (6, _), (7, _)] ⟨rfl, rfl, rfl, rfl, rfl, rfl, trivial⟩ ?_
  refine k_seq ?_
  refine k_seq ?_
  refine k_region ?_
  refine k_move rfl rfl ?_
  refine k_neq rfl rfl rfl ?_
  refine k_nil ?_
  refine k_keep [(0, _), (1, _), (4, _), (5, _), (6, _), (7, _), (30, _)] ⟨rfl, rfl, rfl, rfl, rfl, rfl, rfl, trivial⟩ ?_
  refine k_cond_dec rfl (fun c7 => ?_) (fun c7 => ?_)
  ·
   have h := itT h c7
   refine k_seq ?_
   refine k_region ?_
   refine k_move rfl rfl ?_
   refine k_assign rfl rfl ?_
   refine k_nil ?_
   refine k_keep [(0, _), (1, _), (4, _), (5, _), (6, _)] ⟨rfl, rfl, rfl, rfl, rfl, trivial⟩ ?_
   refine k_ret ?_
   obtain rfl := Option.some.inj h
   refine ⟨_, rfl, Ret.mk hS ?_⟩
   exact ⟨rfl, (OLogfileLog.mk_ a0 (by omega) hwo0_0 hb_o0), ho2⟩
  ·
   have h := itF h c7
   refine k_skip ?_
   refine k_seq ?_
   refine k_seq ?_
   refine k_keep [(0, _), (1, _), (4, _), (5, _), (6, _)] ⟨rfl, rfl, rfl, rfl, rfl, trivial⟩ ?_
   refine k_drawT (KN s6.n) 10 (.read 0 (.read 1 (.read 2 (.read 3 (.read 4 (.read 5 (.read 6 (.read 7 (.read 8 (.read 9 .fin)))))))))) mixed (by intro c h; (try simp only [KC, KO, KU, KN, KB] at h) <;> omega) rfl rfl rfl ?_
   intro s8 st8
   have szs8 := st8.size
   have hS := hS.trans0 st8
   replace hp1 := hp1.up2 st8
   replace h4_0 := h4_0.up2 st8
   replace ho2 := ho2.up2 st8
   replace hwo0_0 := hwo0_0.up2 st8
   replace hb_o0 := hb_o0.up2 st8
   replace h5 := h5.up2 st8
   refine rt_read (.pointer (some ⟨bo0, 0, none⟩)) rfl rfl (fun s9 st9 => ?_) ?_
   ·refine k_move rfl rfl ?_
    exact fq_end
   refine rt_read (.pointer (some ⟨bo0, 0, none⟩)) rfl rfl (fun s10 st10 => ?_) ?_
   ·refine k_nilCheck rfl rfl ?_
    exact fq_end
   refine rt_read (.pointer (some ⟨bo0, 0, none⟩)) rfl rfl (fun s11 st11 => ?_) ?_
   ·refine k_field_addr fld53_0 rfl rfl ?_
    exact fq_end
   refine rt_read (.pointer (some ⟨bo0, 0, none⟩)) rfl rfl (fun s12 st12 => ?_) ?_
   ·refine k_field_addr fld48_0 rfl rfl ?_
    exact fq_end
   refine rt_read ((.pointer (some ⟨bo2, 0, none⟩))) rfl rfl (fun s13 st13 => ?_) ?_
   ·try replace hb_o0 := hb_o0.up2 st13
    refine k_load_blk one23 rfl hb_o0 rfl rfl ?_
    exact fq_end
   refine rt_read (.pointer (some ⟨bo0, 0, none⟩)) rfl rfl (fun s14 st14 => ?_) ?_
   ·refine k_move rfl rfl ?_
    exact fq_end
   refine rt_read (.pointer (some ⟨bo0, 0, none⟩)) rfl rfl (fun s15 st15 => ?_) ?_
   ·refine k_nilCheck rfl rfl ?_
    exact fq_end
   refine rt_read (.pointer (some ⟨bo0, 1, none⟩)) rfl rfl (fun s16 st16 => ?_) ?_
   ·refine k_field_addr fld53_1 rfl rfl ?_
    exact fq_end
   refine rt_read (S a0.name) rfl rfl (fun s17 st17 => ?_) ?_
   ·try replace hb_o0 := hb_o0.up2 st17
    refine k_load_blk one9 rfl hb_o0 rfl rfl ?_
    exact fq_end
   refine rt_read (v4_0) rfl rfl (fun s18 st18 => ?_) ?_
   ·refine k_move rfl rfl ?_
    exact fq_end
   refine rt_fin ?_
   obtain ⟨x4, hx4, h⟩ := ob h
   refine k_call cal33 rfl (disk_Disk_Append_w  ho2 (SL.of_R h4_0) (by first | assumption | omega | (dsimp only; omega) | (simp <;> omega)) hx4) rfl ?_
   rintro s19 vr19 st19 ⟨rfl, ho2⟩
   have szs19 := st19.size
   have hS := hS.c0 st19
   replace hp1 := hp1.up2 st19
   replace hwo0_0 := hwo0_0.up2 st19
   replace hb_o0 := hb_o0.up2 st19
   replace h5 := h5.up2 st19
   refine k_assign rfl rfl ?_
   refine k_nil ?_
   refine k_keep [(0, _), (1, _), (4, _), (6, _), (8, _)] ⟨rfl, rfl, rfl, rfl, rfl, trivial⟩ ?_
   refine k_seq ?_
   refine k_region ?_
   refine k_move rfl rfl ?_
   refine k_neq rfl rfl rfl ?_
   refine k_nil ?_
   refine k_keep [(0, _), (1, _), (4, _), (6, _), (8, _), (44, _)] ⟨rfl, rfl, rfl, rfl, rfl, rfl, trivial⟩ ?_
   refine k_cond_dec rfl (fun c20 => ?_) (fun c20 => ?_)
   ·
    have h := itT h c20
    refine k_seq ?_
    refine k_region ?_
    refine k_move rfl rfl ?_
    refine k_assign rfl rfl ?_
    refine k_nil ?_
    refine k_keep [(0, _), (1, _), (4, _), (6, _)] ⟨rfl, rfl, rfl, rfl, trivial⟩ ?_
    refine k_ret ?_
    obtain rfl := Option.some.inj h
    refine ⟨_, rfl, Ret.mk hS ?_⟩
    exact ⟨rfl, (OLogfileLog.mk_ a0 (by omega) hwo0_0 hb_o0), ho2⟩
   ·
    have h := itF h c20
    refine k_skip ?_
    refine k_seq ?_
    refine k_keep [(0, _), (1, _), (4, _), (6, _)] ⟨rfl, rfl, rfl, rfl, trivial⟩ ?_
    refine k_drawT (KU (KN s19.n) (KC k0 4)) 9 (.read 0 (.read 1 (.read 2 (.read 3 (.read 4 (.read 5 (.alt 6 (.alt 7 (.alt 8 .fin .no) .no) .no))))))) mixed (by intro c h; (try simp only [KC, KO, KU, KN, KB] at h) <;> omega) rfl rfl rfl ?_
    intro s21 st21
    have szs21 := st21.size
    have hS := hS.trans0 st21
    replace hp1 := hp1.up2 st21
    replace ho2 := ho2.up2 st21
    replace hwo0_0 := hwo0_0.up2 st21
    replace hb_o0 := hb_o0.up2 st21
    replace h5 := h5.up2 st21
    refine rt_read (.pointer (some ⟨bo0, 0, none⟩)) rfl rfl (fun s22 st22 => ?_) ?_
    ·refine k_move rfl rfl ?_
     exact fq_end
    refine rt_read (.pointer (some ⟨bo0, 0, none⟩)) rfl rfl (fun s23 st23 => ?_) ?_
    ·refine k_move rfl rfl ?_
     exact fq_end
    refine rt_read (.pointer (some ⟨bo0, 0, none⟩)) rfl rfl (fun s24 st24 => ?_) ?_
    ·refine k_nilCheck rfl rfl ?_
     exact fq_end
    refine rt_read (.pointer (some ⟨bo0, 2, none⟩)) rfl rfl (fun s25 st25 => ?_) ?_
    ·refine k_field_addr fld53_2 rfl rfl ?_
     exact fq_end
    refine rt_read (wo0_0) rfl rfl (fun s26 st26 => ?_) ?_
    ·try replace hb_o0 := hb_o0.up2 st26
     refine k_load_blk one32 rfl hb_o0 rfl rfl ?_
     exact fq_end
    refine rt_read (v1) rfl rfl (fun s27 st27 => ?_) ?_
    ·refine k_move rfl rfl ?_
     exact fq_end
    refine rt_act rfl rfl ?_
    have hA28 := Step.r0 (KU (KN s19.n) (KC k0 4)) s21
    obtain ⟨x5, hx5, h⟩ := ob h
    refine k_call cal34 rfl (slices_Clone_byte_byte_w  (SL.of_R hp1) hx5) rfl ?_
    rintro s29 v29_0 st29 ⟨_, rfl, h29_0⟩
    have szs29 := st29.size
    have hS := hS.trans0 st29
    have hA28 := hA28.trans0 st29
    replace ho2 := ho2.up2 st29
    replace hwo0_0 := hwo0_0.up2 st29
    replace hb_o0 := hb_o0.up2 st29
    replace h5 := h5.up2 st29
    refine rt_cont hA28 ?_
    refine rt_act rfl rfl ?_
    have hA30 := Step.r0 (KU (KN s19.n) (KC k0 4)) s29
    refine k_bslice2 (ds := ([x5] : List (List UInt8)).map (dL 1 bD)) slc32 rfl (RVs.cons h29_0 RVs.nil) (by rfl) (by rfl) rfl rfl ?_
    intro s31 v31 b31 st31 ge31 bl31 h31
    have szs31 := st31.size
    have hS := hS.trans0 st31
    have hA30 := hA30.trans0 st31
    replace ho2 := ho2.up2 st31
    replace hwo0_0 := hwo0_0.up2 st31
    replace hb_o0 := hb_o0.up2 st31
    replace h5 := h5.up2 st31
    have lt31 := Own.le1 h31
    refine rt_cont hA30 ?_
    refine rt_act rfl rfl ?_
    have hA32 := Step.r0 (KU (KN s19.n) (KC k0 4)) s31
    obtain ⟨x6, hx6, h⟩ := ob h
    refine k_append (es := ([x5] : List (List UInt8)).map (dL 1 bD)) elem32 rfl rfl hwo0_0 (h31.sl) (by have := (app_out hx6).1; simp only [List.length_map] at *; omega) (by have := (app_out hx6).1; simp only [List.length_map] at *; omega) rfl ?_
    intro s33 v33 st33 h33
    rw [← List.map_append, ← (app_out hx6).2] at h33
    have szs33 := st33.size
    have hS := hS.c0 st33
    have hA32 := hA32.c0 st33
    replace ho2 := ho2.up2 st33
    replace hb_o0 := hb_o0.up2 st33
    replace h5 := h5.up2 st33
    refine rt_cont hA32 ?_
    refine rt_fin ?_
    refine k_nilCheck rfl rfl ?_
    refine k_field_addr fld53_2 rfl rfl ?_
    refine k_store_c (cs' := [(.pointer (some ⟨bo2, 0, none⟩)), S a0.name, v33, .int .i64 a0.tail.Count, .int .i64 a0.tail.Size, .int .u32 (a0.tail.Sum.toNat : Int)]) size32 rfl rfl hb_o0 (by first | (simp; done) | omega | (dsimp only; omega)) (CellsOf.sl (h33.sl)) rfl (by first | rfl | (simp; done) | (simp; omega)) rfl ?_
    intro s34 st34 hb_o0
    have szs34 := st34.size
    have hS := hS.c0 st34
    replace ho2 := ho2.up2 st34
    replace h5 := h5.up2 st34
    replace h33 := h33.up2 st34
    refine k_nil ?_
    refine k_keep [(0, _), (4, _), (6, _)] ⟨rfl, rfl, rfl, trivial⟩ ?_
    refine k_seq ?_
    refine k_region ?_
    refine k_move rfl rfl ?_
    refine k_load_blka (cs := [.int .i64 x3.2.1.Count, .int .i64 x3.2.1.Size, .int .u32 (x3.2.1.Sum.toNat : Int)]) agg51 rfl h5 rfl ?_
    refine k_nilCheck rfl rfl ?_
    refine k_field_addr fld53_3 rfl rfl ?_
    refine k_store_c (cs' := [(.pointer (some ⟨bo2, 0, none⟩)), S a0.name, v33, .int .i64 x3.2.1.Count, .int .i64 x3.2.1.Size, .int .u32 (x3.2.1.Sum.toNat : Int)]) size51 rfl rfl hb_o0 (by first | (simp; done) | omega | (dsimp only; omega)) (CellsOf.lit rfl rfl) rfl (by first | rfl | (simp; done) | (simp; omega)) rfl ?_
    intro s35 st35 hb_o0
    have szs35 := st35.size
    have hS := hS.c0 st35
    replace ho2 := ho2.up2 st35
    replace h33 := h33.up2 st35
    refine k_nil ?_
    refine k_keep [(4, _)] ⟨rfl, trivial⟩ ?_
    refine k_seq ?_
    refine k_region ?_
    refine k_assign rfl rfl ?_
    refine k_nil ?_
    refine k_ret ?_
    obtain rfl := Option.some.inj h
    refine ⟨_, rfl, Ret.mk hS ?_⟩
    exact ⟨rfl, (OLogfileLog.mk_ (⟨a0.on, a0.name, x6, x3.2.1⟩ : LogfileLog) (by omega) h33 hb_o0), ho2⟩

set_option maxHeartbeats 1000000 in
set_option maxRecDepth 100000 in
theorem logfile_Log_Size_r1_w {s : St} {k0 : Nat} {p0 : Value} {a0 : LogfileLog} {k1 : Nat} {p1 : Value} {a1 : DiskDisk} {r : Int} (ho0 : OLogfileLog p1 s k0 p0 a0) (ho1 : ODiskDisk s k1 p1 a1) (h : logfile_Log_Size_r1 a0 a1 = some r) : Calls Tryd.prog 18 #[p0] s.w (Ret s K0 (fun s1 v => v = .int .i64 r)) := by
 unfold logfile_Log_Size_r1 at h
 have le0 := ho0.le
 have ne0 := ho0.ne
 have le1 := ho1.le
 have ne1 := ho1.ne
 obtain ⟨bo1, rfl⟩ := ho1.ptr
 obtain ⟨bo0, rfl⟩ := ho0.ptr
 obtain ⟨wo0_0, hb_o0, hwo0_0⟩ := ho0.at_
 have hS := Step.r0 K0 s
 refine k_fn (rs := [2]) (args := [.pointer (some ⟨bo0, 0, none⟩)]) Tryd.func18 rfl rfl rfl rfl ?_
 refine k_seq ?_
 refine k_region ?_
 refine k_assign rfl rfl ?_
 refine k_nil ?_
 refine k_seq ?_
 refine k_seq ?_
 refine k_region ?_
 refine k_move rfl rfl ?_
 obtain ⟨x1, hx1, h⟩ := ob h
 obtain rfl := Option.some.inj (show some false = some x1 from hx1)
 refine k_call cal31 rfl (logfile_Log_none_r1_w  (OLogfileLog.mk_ a0 (by omega) hwo0_0 hb_o0) ho1 hx1) rfl ?_
 rintro s1 vr1 st1 rfl
 have szs1 := st1.size
 have hS := hS.trans0 st1
 replace hb_o0 := hb_o0.up2 st1
 refine k_nil ?_
 refine k_keep [(0, _), (2, _), (4, _)] ⟨rfl, rfl, rfl, trivial⟩ ?_
 refine k_cond_false rfl ?_
 refine k_skip ?_
 refine k_seq ?_
 refine k_region ?_
 refine k_move rfl rfl ?_
 refine k_nilCheck rfl rfl ?_
 refine k_field_addr fld53_3 rfl rfl ?_
 refine k_field_addr fld51_1 rfl rfl ?_
 refine k_load_blk one3 rfl hb_o0 rfl rfl ?_
 refine k_assign rfl rfl ?_
 refine k_nil ?_
 refine k_keep [(2, _)] ⟨rfl, trivial⟩ ?_
 refine k_ret ?_
 obtain rfl := Option.some.inj h
 refine ⟨_, rfl, Ret.mk hS ?_⟩
 exact rfl

set_option maxHeartbeats 1000000 in
set_option maxRecDepth 100000 in
theorem logfile_Log_Count_r1_w {s : St} {k0 : Nat} {p0 : Value} {a0 : LogfileLog} {k1 : Nat} {p1 : Value} {a1 : DiskDisk} {r : Int} (ho0 : OLogfileLog p1 s k0 p0 a0) (ho1 : ODiskDisk s k1 p1 a1) (h : logfile_Log_Count_r1 a0 a1 = some r) : Calls Tryd.prog 20 #[p0] s.w (Ret s K0 (fun s1 v => v = .int .i64 r)) := by
 unfold logfile_Log_Count_r1 at h
 have le0 := ho0.le
 have ne0 := ho0.ne
 have le1 := ho1.le
 have ne1 := ho1.ne
 obtain ⟨bo1, rfl⟩ := ho1.ptr
 obtain ⟨bo0, rfl⟩ := ho0.ptr
 obtain ⟨wo0_0, hb_o0, hwo0_0⟩ := ho0.at_
 have hS := Step.r0 K0 s
 refine k_fn (rs := [2]) (args := [.pointer (some ⟨bo0, 0, none⟩)]) Tryd.func20 rfl rfl rfl rfl ?_
 refine k_seq ?_
 refine k_region ?_
 refine k_assign rfl rfl ?_
 refine k_nil ?_
 refine k_seq ?_
 refine k_seq ?_
 refine k_region ?_
 refine k_move rfl rfl ?_
 obtain ⟨x1, hx1, h⟩ := ob h
 obtain rfl := Option.some.inj (show some false = some x1 from hx1)
 refine k_call cal31 rfl (logfile_Log_none_r1_w  (OLogfileLog.mk_ a0 (by omega) hwo0_0 hb_o0) ho1 hx1) rfl ?_
 rintro s1 vr1 st1 rfl
 have szs1 := st1.size
 have hS := hS.trans0 st1
 replace hwo0_0 := hwo0_0.up2 st1
 replace hb_o0 := hb_o0.up2 st1
 refine k_nil ?_
 refine k_keep [(0, _), (2, _), (4, _)] ⟨rfl, rfl, rfl, trivial⟩ ?_
 refine k_cond_false rfl ?_
 refine k_skip ?_
 refine k_seq ?_
 refine k_region ?_
 refine k_move rfl rfl ?_
 refine k_nilCheck rfl rfl ?_
 refine k_field_addr fld53_2 rfl rfl ?_
 refine k_load_blk one32 rfl hb_o0 rfl rfl ?_
 refine k_len Tryd.underlying32 rfl (hwo0_0.sl).hasLen rfl ?_
 refine k_as (v := .int .i64 (a0.all_.length : Int)) (by simp only [List.length_map]) ?_
 refine k_assign rfl rfl ?_
 refine k_nil ?_
 refine k_keep [(2, _)] ⟨rfl, trivial⟩ ?_
 refine k_ret ?_
 obtain rfl := Option.some.inj h
 refine ⟨_, rfl, Ret.mk hS ?_⟩
 exact rfl

set_option maxHeartbeats 1000000 in
set_option maxRecDepth 100000 in
theorem disk_Disk_Sync_w {s : St} {k0 : Nat} {p0 : Value} {a0 : DiskDisk} {r : (Int × DiskDisk)} (ho0 : ODiskDisk s k0 p0 a0) (h : disk_Disk_Sync a0 = some r) : Calls Tryd.prog 35 #[p0] s.w (Ret s (KO k0) (fun s1 v => v = .int .i64 r.1 ∧ ODiskDisk s1 k0 p0 r.2)) := by
 unfold disk_Disk_Sync at h
 have le0 := ho0.le
 have ne0 := ho0.ne
 have hS := Step.r0 (KO k0) s
 refine k_fn (rs := [2]) (args := [p0]) Tryd.func35 rfl rfl rfl rfl ?_
 refine k_seq ?_
 refine k_region ?_
 refine k_assign rfl rfl ?_
 refine k_nil ?_
 refine k_seq ?_
 refine k_seq ?_
 refine k_region ?_
 refine k_move rfl rfl ?_
 obtain ⟨pb1, rfl⟩ := ho0.ptr
 obtain ⟨x1, hx1, h⟩ := ob h
 refine k_call cal10 rfl (disk_Disk_Down_w  ho0 hx1) rfl ?_
 rintro s2 vr2 st2 rfl
 have szs2 := st2.size
 have hS := hS.trans0 st2
 replace ho0 := ho0.up2 st2
 refine k_nil ?_
 refine k_keep [(0, _), (2, _), (5, _)] ⟨rfl, rfl, rfl, trivial⟩ ?_
 refine k_cond rfl (fun c3 => ?_) (fun c3 => ?_)
 ·
  have h := ibT h c3
  refine k_seq ?_
  refine k_region ?_
  refine k_assign rfl rfl ?_
  refine k_nil ?_
  refine k_keep [(0, _), (2, _)] ⟨rfl, rfl, trivial⟩ ?_
  refine k_ret ?_
  obtain rfl := Option.some.inj h
  refine ⟨_, rfl, Ret.mk hS ?_⟩
  exact ⟨rfl, ho0⟩
 ·
  have h := ibF h c3
  refine k_skip ?_
  refine k_seq ?_
  refine k_region ?_
  refine k_move rfl rfl ?_
  obtain ⟨x2, hx2, h⟩ := ob h
  refine k_call cal50 rfl (disk_Disk_burn_w  ho0 hx2) rfl ?_
  rintro s4 vr4 st4 ⟨rfl, ho0⟩
  have szs4 := st4.size
  have hS := hS.c0 st4
  refine k_assign rfl rfl ?_
  refine k_nil ?_
  refine k_keep [(0, _), (2, _), (3, _)] ⟨rfl, rfl, rfl, trivial⟩ ?_
  refine k_seq ?_
  refine k_seq ?_
  refine k_region ?_
  refine k_move rfl rfl ?_
  refine k_eql rfl rfl rfl ?_
  refine k_nil ?_
  refine k_keep [(0, _), (2, _), (3, _), (9, _)] ⟨rfl, rfl, rfl, rfl, trivial⟩ ?_
  refine k_cond_dec rfl (fun c5 => ?_) (fun c5 => ?_)
  ·
   have h := itT h c5
   refine k_region ?_
   refine k_move rfl rfl ?_
   refine k_move rfl rfl ?_
   obtain ⟨x3, hx3, h⟩ := ob h
   refine k_call cal38 rfl (disk_Disk_seen_w  ho0 hx3) rfl ?_
   rintro s6 v6_0 st6 ⟨_, rfl, h6_0⟩
   have szs6 := st6.size
   have hS := hS.trans0 st6
   replace ho0 := ho0.up2 st6
   obtain ⟨x4, hx4, h⟩ := ob h
   refine k_call cal42 rfl (disk_Disk_only_w  ho0 (show R s6 v6_0 (.sl 2 (x3.map dDiskFile)) from h6_0) hx4) rfl ?_
   rintro s7 vr7 st7 ⟨rfl, ho0⟩
   have szs7 := st7.size
   have hS := hS.c0 st7
   refine k_nil ?_
   refine k_keep [(2, _), (3, _)] ⟨rfl, rfl, trivial⟩ ?_
   refine k_seq ?_
   refine k_region ?_
   refine k_move rfl rfl ?_
   refine k_assign rfl rfl ?_
   refine k_nil ?_
   refine k_keep [(2, _)] ⟨rfl, trivial⟩ ?_
   refine k_ret ?_
   obtain rfl := Option.some.inj h
   refine ⟨_, rfl, Ret.mk hS ?_⟩
   exact ⟨rfl, ho0⟩
  ·
   have h := itF h c5
   refine k_skip ?_
   refine k_seq ?_
   refine k_region ?_
   refine k_move rfl rfl ?_
   refine k_assign rfl rfl ?_
   refine k_nil ?_
   refine k_keep [(2, _)] ⟨rfl, trivial⟩ ?_
   refine k_ret ?_
   obtain rfl := Option.some.inj h
   refine ⟨_, rfl, Ret.mk hS ?_⟩
   exact ⟨rfl, ho0⟩

set_option maxHeartbeats 1000000 in
set_option maxRecDepth 100000 in
theorem logfile_Log_Sync_r1_w {s : St} {k0 : Nat} {p0 : Value} {a0 : LogfileLog} {k1 : Nat} {p1 : Value} {a1 : DiskDisk} {r : (Int × DiskDisk)} (ho0 : OLogfileLog p1 s k0 p0 a0) (ho1 : ODiskDisk s k1 p1 a1) (hk0_1 : k0 ≠ k1) (h : logfile_Log_Sync_r1 a0 a1 = some r) : Calls Tryd.prog 12 #[p0] s.w (Ret s (KO k1) (fun s1 v => v = .int .i64 r.1 ∧ ODiskDisk s1 k1 p1 r.2)) := by
 unfold logfile_Log_Sync_r1 at h
 have le0 := ho0.le
 have ne0 := ho0.ne
 have le1 := ho1.le
 have ne1 := ho1.ne
 obtain ⟨bo1, rfl⟩ := ho1.ptr
 obtain ⟨bo0, rfl⟩ := ho0.ptr
 obtain ⟨wo0_0, hb_o0, hwo0_0⟩ := ho0.at_
 have hS := Step.r0 (KO k1) s
 refine k_fn (rs := [2]) (args := [.pointer (some ⟨bo0, 0, none⟩)]) Tryd.func12 rfl rfl rfl rfl ?_
 refine k_seq ?_
 refine k_region ?_
 refine k_assign rfl rfl ?_
 refine k_nil ?_
 refine k_seq ?_
 refine k_seq ?_
 refine k_region ?_
 refine k_move rfl rfl ?_
 obtain ⟨x1, hx1, h⟩ := ob h
 obtain rfl := Option.some.inj (show some false = some x1 from hx1)
 refine k_call cal31 rfl (logfile_Log_none_r1_w  (OLogfileLog.mk_ a0 (by omega) hwo0_0 hb_o0) ho1 hx1) rfl ?_
 rintro s1 vr1 st1 rfl
 have szs1 := st1.size
 have hS := hS.trans0 st1
 replace ho1 := ho1.up2 st1
 replace hb_o0 := hb_o0.up2 st1
 refine k_nil ?_
 refine k_keep [(0, _), (2, _), (4, _)] ⟨rfl, rfl, rfl, trivial⟩ ?_
 refine k_cond_false rfl ?_
 refine k_skip ?_
 refine k_seq ?_
 refine k_region ?_
 refine k_move rfl rfl ?_
 refine k_nilCheck rfl rfl ?_
 refine k_field_addr fld53_0 rfl rfl ?_
 refine k_field_addr fld48_0 rfl rfl ?_
 refine k_load_blk one23 rfl hb_o0 rfl rfl ?_
 obtain ⟨x2, hx2, h⟩ := ob h
 refine k_call cal35 rfl (disk_Disk_Sync_w  ho1 hx2) rfl ?_
 rintro s2 vr2 st2 ⟨rfl, ho1⟩
 have szs2 := st2.size
 have hS := hS.c0 st2
 refine k_assign rfl rfl ?_
 refine k_nil ?_
 refine k_keep [(2, _)] ⟨rfl, trivial⟩ ?_
 refine k_ret ?_
 obtain rfl := Option.some.inj h
 refine ⟨_, rfl, Ret.mk hS ?_⟩
 exact ⟨rfl, ho1⟩

set_option maxHeartbeats 1000000 in
set_option maxRecDepth 100000 in
theorem disk_Disk_Start_w {s : St} {k0 : Nat} {p0 : Value} {a0 : DiskDisk} {r : (Int × DiskDisk)} (ho0 : ODiskDisk s k0 p0 a0) (h : disk_Disk_Start a0 = some r) : Calls Tryd.prog 25 #[p0] s.w (Ret s (KO k0) (fun s1 v => v = .int .i64 r.1 ∧ ODiskDisk s1 k0 p0 r.2)) := by
 unfold disk_Disk_Start at h
 have le0 := ho0.le
 have ne0 := ho0.ne
 obtain ⟨bo0, rfl⟩ := ho0.ptr
 obtain ⟨wo0_0, wo0_1, hb_o0, hwo0_0, hwo0_1⟩ := ho0.at_
 have hS := Step.r0 (KO k0) s
 refine k_fn (rs := [2]) (args := [.pointer (some ⟨bo0, 0, none⟩)]) Tryd.func25 rfl rfl rfl rfl ?_
 refine k_seq ?_
 refine k_region ?_
 refine k_assign rfl rfl ?_
 refine k_nil ?_
 refine k_seq ?_
 refine k_block ?_
 refine k_seq ?_
 refine k_region ?_
 refine k_move rfl rfl ?_
 obtain ⟨x1, hx1, h⟩ := ob h
 refine k_call cal30 rfl (disk_Disk_none_w  (ODiskDisk.mk_ a0 (by omega) hwo0_0 hwo0_1 hb_o0) hx1) rfl ?_
 rintro s1 vr1 st1 rfl
 have szs1 := st1.size
 have hS := hS.trans0 st1
 replace hwo0_0 := hwo0_0.up2 st1
 replace hwo0_1 := hwo0_1.up2 st1
 replace hb_o0 := hb_o0.up2 st1
 refine k_assign rfl rfl ?_
 refine k_nil ?_
 refine k_keep [(0, _), (2, _), (3, _)] ⟨rfl, rfl, rfl, trivial⟩ ?_
 refine k_cond rfl (fun c2 => ?_) (fun c2 => ?_)
 ·
  have h := ibT h c2
  refine k_seq ?_
  refine k_region ?_
  refine k_assign rfl rfl ?_
  refine k_nil ?_
  refine k_keep [(0, _), (2, _)] ⟨rfl, rfl, trivial⟩ ?_
  refine k_ret ?_
  obtain rfl := Option.some.inj h
  refine ⟨_, rfl, Ret.mk hS ?_⟩
  exact ⟨rfl, (ODiskDisk.mk_ a0 (by omega) hwo0_0 hwo0_1 hb_o0)⟩
 ·
  have h := ibF h c2
  refine k_seq ?_
  refine k_region ?_
  refine k_move rfl rfl ?_
  refine k_nilCheck rfl rfl ?_
  refine k_field_addr fld64_2 rfl rfl ?_
  refine k_load_blk one4 rfl hb_o0 rfl rfl ?_
  refine k_not rfl rfl ?_
  refine k_assign rfl rfl ?_
  refine k_nil ?_
  refine k_keep [(0, _), (2, _), (6, _)] ⟨rfl, rfl, rfl, trivial⟩ ?_
  refine k_cond rfl (fun c3 => ?_) (fun c3 => ?_)
  ·
   have h := ibT h c3
   refine k_seq ?_
   refine k_region ?_
   refine k_assign rfl rfl ?_
   refine k_nil ?_
   refine k_keep [(0, _), (2, _)] ⟨rfl, rfl, trivial⟩ ?_
   refine k_ret ?_
   obtain rfl := Option.some.inj h
   refine ⟨_, rfl, Ret.mk hS ?_⟩
   exact ⟨rfl, (ODiskDisk.mk_ a0 (by omega) hwo0_0 hwo0_1 hb_o0)⟩
  ·
   have h := ibF h c3
   refine k_skip ?_
   refine k_blk ?_
   refine k_seq ?_
   refine k_region ?_
   refine k_move rfl rfl ?_
   refine k_nilCheck rfl rfl ?_
   refine k_field_addr fld64_2 rfl rfl ?_
   refine k_store_c (cs' := [.int .i64 a0.capacity, .bool a0.made, .bool false, wo0_0, wo0_1, .int .i64 a0.fuse.n, .int .i64 a0.fuse.keep, .int .i64 a0.fuse.torn]) size4 rfl rfl hb_o0 (by first | (simp; done) | omega | (dsimp only; omega)) (CellsOf.lit rfl rfl) rfl (by first | rfl | (simp; done) | (simp; omega)) rfl ?_
   intro s4 st4 hb_o0
   have szs4 := st4.size
   have hS := hS.c0 st4
   replace hwo0_0 := hwo0_0.up2 st4
   replace hwo0_1 := hwo0_1.up2 st4
   refine k_nil ?_
   refine k_keep [(2, _)] ⟨rfl, trivial⟩ ?_
   refine k_seq ?_
   refine k_region ?_
   refine k_assign rfl rfl ?_
   refine k_nil ?_
   refine k_ret ?_
   obtain rfl := Option.some.inj h
   refine ⟨_, rfl, Ret.mk hS ?_⟩
   exact ⟨rfl, (ODiskDisk.mk_ (⟨a0.capacity, a0.made, false, a0.pictures, a0.calls, a0.fuse⟩ : DiskDisk) (by omega) hwo0_0 hwo0_1 hb_o0)⟩

set_option maxHeartbeats 1000000 in
set_option maxRecDepth 100000 in
theorem slices_Clone_byte_byte_o_own_w {s : St} {l0 : Lab} {v0 : Value} {a0 : (List (List UInt8))} {r : (List (List UInt8))} (hp0 : SL s l0 v0 1 (a0.map (dL 1 bD))) (h : slices_Clone_byte_byte_o a0 = some r) : Calls Tryd.prog 36 #[v0] s.w (Ret s K0 (fun s1 v => ∃ (u0 : Value), ∃ (lu0 : Lab), v = u0 ∧ (s.n < lu0.o ∧ lu0.c = 0) ∧ Own s1 lu0 33 1 u0 (r.map (dL 1 bD)))) := by
 unfold slices_Clone_byte_byte_o at h
 obtain ⟨lf0, lf0le, lf0ne, hp0⟩ := hp0.fix
 have hS := Step.r0 K0 s
 refine k_fn (rs := [2]) (args := [v0]) Tryd.func36 rfl rfl rfl rfl ?_
 refine k_seq ?_
 refine k_region ?_
 refine k_assign rfl rfl ?_
 refine k_nil ?_
 refine k_seq ?_
 refine k_seq ?_
 refine k_region ?_
 refine k_move rfl rfl ?_
 refine k_eql_snilv Tryd.underlying32 rfl rfl hp0 rfl ?_
 refine k_nil ?_
 refine k_keep [(0, _), (2, _), (4, _)] ⟨rfl, rfl, rfl, trivial⟩ ?_
 refine k_cond rfl (fun c1 => ?_) (fun c1 => ?_)
 ·
  have hz4 := SL.nilS_nil hp0 c1
  obtain rfl : a0 = [] := by simpa using hz4
  replace h : some ([]) = some r := by simpa [app] using h
  refine k_seq ?_
  refine k_region ?_
  refine k_assign rfl rfl ?_
  refine k_nil ?_
  refine k_keep [(0, _), (2, _)] ⟨rfl, rfl, trivial⟩ ?_
  refine k_ret ?_
  obtain rfl := Option.some.inj h
  refine ⟨_, rfl, Ret.mk hS ?_⟩
  exact ⟨_, ⟨s.n + 1, 0⟩, rfl, ⟨by show s.n < s.n + 1; omega, rfl⟩, Own.nil (by simp) (Nat.le_refl _)⟩
 ·
  refine k_skip ?_
  refine k_seq ?_
  refine k_region ?_
  refine k_bslice2 (ds := ([] : List (List UInt8)).map (dL 1 bD)) slc32 rfl RVs.nil (by rfl) (by rfl) rfl rfl ?_
  intro s2 v2 b2 st2 ge2 bl2 h2
  have szs2 := st2.size
  have hS := hS.trans0 st2
  replace hp0 := hp0.up2 st2
  have lt2 := Own.le1 h2
  refine k_move rfl rfl ?_
  obtain ⟨x1, hx1, h⟩ := ob h
  refine k_append (es := a0.map (dL 1 bD)) elem32 rfl rfl h2 hp0 (by have := (app_out hx1).1; simp only [List.length_map] at *; omega) (by have := (app_out hx1).1; simp only [List.length_map] at *; omega) rfl ?_
  intro s3 v3 st3 h3
  rw [← List.map_append, ← (app_out hx1).2] at h3
  have szs3 := st3.size
  have hS := hS.c0 st3
  refine k_assign rfl rfl ?_
  refine k_nil ?_
  refine k_keep [(2, _)] ⟨rfl, trivial⟩ ?_
  refine k_ret ?_
  obtain rfl := Option.some.inj h
  refine ⟨_, rfl, Ret.mk hS ?_⟩
  exact ⟨_, ⟨b2 + 1, 0⟩, rfl, ⟨by (try dsimp only); omega, rfl⟩, h3⟩

set_option maxHeartbeats 1000000 in
set_option maxRecDepth 100000 in
theorem logfile_Log_Records_r1_w {s : St} {k0 : Nat} {p0 : Value} {a0 : LogfileLog} {k1 : Nat} {p1 : Value} {a1 : DiskDisk} {r : (List (List UInt8))} (ho0 : OLogfileLog p1 s k0 p0 a0) (ho1 : ODiskDisk s k1 p1 a1) (h : logfile_Log_Records_r1 a0 a1 = some r) : Calls Tryd.prog 15 #[p0] s.w (Ret s K0 (fun s1 v => ∃ (u0 : Value), v = u0 ∧ R s1 u0 (.sl 1 (r.map (dL 1 bD))))) := by
 unfold logfile_Log_Records_r1 at h
 have le0 := ho0.le
 have ne0 := ho0.ne
 have le1 := ho1.le
 have ne1 := ho1.ne
 obtain ⟨bo1, rfl⟩ := ho1.ptr
 obtain ⟨bo0, rfl⟩ := ho0.ptr
 obtain ⟨wo0_0, hb_o0, hwo0_0⟩ := ho0.at_
 have hS := Step.r0 K0 s
 refine k_fn (rs := [2]) (args := [.pointer (some ⟨bo0, 0, none⟩)]) Tryd.func15 rfl rfl rfl rfl ?_
 refine k_seq ?_
 refine k_region ?_
 refine k_assign rfl rfl ?_
 refine k_nil ?_
 refine k_seq ?_
 refine k_seq ?_
 refine k_region ?_
 refine k_move rfl rfl ?_
 obtain ⟨x1, hx1, h⟩ := ob h
 obtain rfl := Option.some.inj (show some false = some x1 from hx1)
 refine k_call cal31 rfl (logfile_Log_none_r1_w  (OLogfileLog.mk_ a0 (by omega) hwo0_0 hb_o0) ho1 hx1) rfl ?_
 rintro s1 vr1 st1 rfl
 have szs1 := st1.size
 have hS := hS.trans0 st1
 replace hwo0_0 := hwo0_0.up2 st1
 replace hb_o0 := hb_o0.up2 st1
 refine k_nil ?_
 refine k_keep [(0, _), (2, _), (7, _)] ⟨rfl, rfl, rfl, trivial⟩ ?_
 refine k_cond_false rfl ?_
 refine k_skip ?_
 refine k_seq ?_
 refine k_region ?_
 refine k_move rfl rfl ?_
 refine k_nilCheck rfl rfl ?_
 refine k_field_addr fld53_2 rfl rfl ?_
 refine k_load_blk one32 rfl hb_o0 rfl rfl ?_
 obtain ⟨x2, hx2, h⟩ := ob h
 refine k_call cal36 rfl (slices_Clone_byte_byte_o_own_w  (hwo0_0.sl) hx2) rfl ?_
 rintro s2 v2_0 st2 ⟨_, l2_0, rfl, hl2_0, h2_0⟩
 have szs2 := st2.size
 have hS := hS.trans0 st2
 replace hwo0_0 := hwo0_0.up2 st2
 replace hb_o0 := hb_o0.up2 st2
 obtain ⟨l2_0, hl2_0, h2_0⟩ := Own.anew 2020 h2_0 hl2_0 szs2
 have lt2_0 := Own.le1 h2_0
 refine k_assign rfl rfl ?_
 refine k_nil ?_
 refine k_keep [(2, _), (3, _)] ⟨rfl, rfl, trivial⟩ ?_
 refine k_seq ?_
 have hz3 : OLogfileLog (.pointer (some ⟨bo1, 0, none⟩)) s2 k0 (.pointer (some ⟨bo0, 0, none⟩)) a0 := (OLogfileLog.mk_ a0 (by omega) hwo0_0 hb_o0)
 have lehz3 := hz3.le
 have nehz3 := hz3.ne
 obtain ⟨kj3, hK4, h⟩ := jn_out h
 have hE4 := Step.r0 (KC l2_0.o l2_0.c) s2
 refine k_cutc (X := St × (List (List UInt8))) [(2, .slice none 0 0), (3, v2_0)] (fun (xL : St × (List (List UInt8))) => match xL with | (sl, x4) => []) (fun (xL : St × (List (List UInt8))) (wL : World) => match xL with | (sl, x4) => sl.w = wL ∧ Step (KC l2_0.o l2_0.c) s2 sl ∧ (Own sl ⟨l2_0.o, l2_0.c⟩ 33 1 v2_0 (x4.map (dL 1 bD))) ∧ kj3 x4 = some r) ?_ ?_
 ·
  refine k_seq ?_
  refine k_region ?_
  refine k_move rfl rfl ?_
  refine k_len Tryd.underlying32 rfl (h2_0.sl).hasLen rfl ?_
  refine k_as (v := .int .i64 (x2.length : Int)) (by simp only [List.length_map]) ?_
  refine k_move rfl rfl ?_
  refine k_nil ?_
  refine k_block ?_
  refine k_loopc (X := St × Int × (List (List UInt8)) × Nat) [(2, _), (3, _), (13, _), (14, _)] (fun (xL : St × Int × (List (List UInt8)) × Nat) => match xL with | (sl, x5, x6, j) => [(15, .int .i64 x5)]) (fun (xL : St × Int × (List (List UInt8)) × Nat) (wL : World) => match xL with | (sl, x5, x6, j) => sl.w = wL ∧ Step (KC l2_0.o l2_0.c) s2 sl ∧ (Own sl ⟨l2_0.o, l2_0.c⟩ 33 1 v2_0 (x6.map (dL 1 bD))) ∧ logfile_Log_Records_r1_l1 x2 kj3 j x5 x6 = some r) (fun (xL : St × Int × (List (List UInt8)) × Nat) => match xL with | (sl, x5, x6, j) => j) (s2, 0, x2, FU) ⟨rfl, rfl, rfl, rfl, trivial⟩ ⟨(by first | rfl | (simp <;> rfl)), trivial⟩ ⟨rfl, (Step.refl _).of0 (by first | exact fun _ h => h | (intro c h; simp [KC, KO, KU, KN, KB] at h <;> omega)), h2_0, h⟩ ?_
  rintro ⟨s6, x5, x6, j⟩ wL ⟨rfl, hE5, h2_0, h⟩
  cases j with
  | zero => rw [logfile_Log_Records_r1_l1] at h; exact (noneNe h).elim
  | succ j =>
  rw [logfile_Log_Records_r1_l1] at h
  have szs6 := hE5.size
  have hS := hS.c0 hE5
  have hE4 := hE4.c0 hE5
  refine k_seq ?_
  refine k_region ?_
  refine k_lss rfl rfl rfl ?_
  refine k_nil ?_
  refine k_seq ?_
  refine k_cond_dec rfl (fun c7 => ?_) (fun c7 => ?_)
  ·
   have h := itT h c7
   refine k_skip ?_
   refine k_seq ?_
   refine k_block ?_
   refine k_seq ?_
   refine k_region ?_
   refine k_move rfl rfl ?_
   obtain ⟨x7, hx7, h⟩ := ob h
   refine k_ixaddr_own Tryd.underlying32 size33 rfl rfl h2_0 (geti_out hx7).1 (geti_map hx7) rfl ?_
   intro qx7 hqx7 heqx7
   refine k_load_sl one33 rfl hqx7 rfl ?_
   intro v8 h8
   refine k_assign rfl rfl ?_
   refine k_assign rfl rfl ?_
   refine k_nil ?_
   refine k_keep [(2, _), (3, _), (4, _), (5, _), (13, _), (14, _), (15, _)] ⟨rfl, rfl, rfl, rfl, rfl, rfl, rfl, trivial⟩ ?_
   refine k_region ?_
   refine k_move rfl rfl ?_
   refine k_move rfl rfl ?_
   refine k_move rfl rfl ?_
   obtain ⟨x8, hx8, h⟩ := ob h
   refine k_call cal34 rfl (slices_Clone_byte_byte_w  (SL.of_R h8) hx8) rfl ?_
   rintro s9 v9_0 st9 ⟨_, rfl, h9_0⟩
   have szs9 := st9.size
   have hS := hS.trans0 st9
   have hE4 := hE4.trans0 st9
   have hE5 := hE5.trans0 st9
   replace h2_0 := h2_0.up2 st9
   obtain ⟨x9, hx9, h⟩ := ob h
   refine k_ixaddr_own Tryd.underlying32 size33 rfl rfl h2_0 (geti_out hx9).1 (geti_map hx9) rfl ?_
   intro qx9 hqx9 heqx9
   refine k_store_elt (dd := (dL 1 bD) x8) size33 rfl rfl h2_0 heqx9 (by rw [List.length_map]; exact (List.getElem?_eq_some_iff.1 (geti_out hx9).2.2).1) (h9_0) rfl ?_
   intro s10 st10 h2_0
   rw [← List.map_set] at h2_0
   have szs10 := st10.size
   have hS := hS.c0 st10
   have hE4 := hE4.c0 st10
   have hE5 := hE5.c0 st10
   refine k_nil ?_
   refine k_blk ?_
   refine k_region ?_
   refine k_add rfl rfl rfl ?_
   refine k_move rfl rfl ?_
   refine k_nil ?_
   exact k_stop ⟨(s10, i64 (x5 + 1), x6.set (x5 : Int).toNat x8, j), ⟨(by first | rfl | (simp <;> rfl)), trivial⟩, ⟨rfl, rfl, rfl, rfl, trivial⟩, ⟨rfl, hE5, h2_0, h⟩, (by simp)⟩
  ·
   have h := itF h c7
   refine k_exit rfl ?_
   exact k_stop ⟨(s6, x6), trivial, ⟨rfl, rfl, trivial⟩, ⟨rfl, hE4, h2_0, h⟩⟩
 ·
  rintro ⟨s11, x4⟩ wL ⟨rfl, hE4, h2_0, h⟩
  rw [hK4] at h
  have szs11 := hE4.size
  have hS := hS.c0 hE4
  refine k_seq ?_
  refine k_region ?_
  refine k_move rfl rfl ?_
  refine k_assign rfl rfl ?_
  refine k_nil ?_
  refine k_keep [(2, _)] ⟨rfl, trivial⟩ ?_
  refine k_ret ?_
  obtain ⟨s12, e12, st12, h12⟩ := h2_0.freeze
  rw [← e12]
  have szs12 := st12.size
  have hS := hS.c0 st12
  obtain rfl := Option.some.inj h
  refine ⟨_, rfl, Ret.mk hS ?_⟩
  exact ⟨_, rfl, h12⟩

set_option maxHeartbeats 1000000 in
set_option maxRecDepth 100000 in
theorem disk_Disk_Size_w {s : St} {k0 : Nat} {p0 : Value} {a0 : DiskDisk} {a1 : (List UInt8)} {r : Int} (ho0 : ODiskDisk s k0 p0 a0) (h : disk_Disk_Size a0 a1 = some r) : Calls Tryd.prog 26 #[p0, S a1] s.w (Ret s K0 (fun s1 v => v = .int .i64 r)) := by
 unfold disk_Disk_Size at h
 have le0 := ho0.le
 have ne0 := ho0.ne
 have hS := Step.r0 K0 s
 refine k_fn (rs := [4]) (args := [p0, S a1]) Tryd.func26 rfl rfl rfl rfl ?_
 refine k_seq ?_
 refine k_region ?_
 refine k_assign rfl rfl ?_
 refine k_nil ?_
 refine k_seq ?_
 refine k_region ?_
 refine k_move rfl rfl ?_
 obtain ⟨pb1, rfl⟩ := ho0.ptr
 obtain ⟨x1, hx1, h⟩ := ob h
 refine k_call cal38 rfl (disk_Disk_seen_w  ho0 hx1) rfl ?_
 rintro s2 v2_0 st2 ⟨_, rfl, h2_0⟩
 have szs2 := st2.size
 have hS := hS.trans0 st2
 refine k_move rfl rfl ?_
 obtain ⟨x2, hx2, h⟩ := ob h
 refine k_call cal39 rfl (disk_picture_bytes_w  (SL.of_R h2_0) hx2) rfl ?_
 rintro s3 v3_0 st3 ⟨_, rfl, h3_0⟩
 have szs3 := st3.size
 have hS := hS.trans0 st3
 refine k_len Tryd.underlying33 rfl (SL.of_R h3_0).hasLen rfl ?_
 refine k_as (v := .int .i64 (x2.length : Int)) (by simp only [List.length_map]) ?_
 refine k_assign rfl rfl ?_
 refine k_nil ?_
 refine k_keep [(4, _)] ⟨rfl, trivial⟩ ?_
 refine k_ret ?_
 obtain rfl := Option.some.inj h
 refine ⟨_, rfl, Ret.mk hS ?_⟩
 exact rfl

set_option maxHeartbeats 1000000 in
set_option maxRecDepth 100000 in
theorem law11_awake_w {s : St}  {r : Bool}  (h : law11_awake = some r) : Calls Tryd.prog 8 #[] s.w (Ret s K0 (fun s1 v => v = .bool r)) := by
 unfold law11_awake at h
 have hS := Step.r0 K0 s
 refine k_fn (rs := [0]) (args := []) Tryd.func8 rfl rfl rfl rfl ?_
 refine k_seq ?_
 refine k_region ?_
 refine k_assign rfl rfl ?_
 refine k_nil ?_
 refine k_seq ?_
 refine k_region ?_
 obtain ⟨x1, hx1, h⟩ := ob h
 refine k_call cal6 rfl (disk_New_w   hx1) rfl ?_
 rintro s1 vr1 st1 ⟨ku1_0, v1_0, rfl, hk1_0, h1_0⟩
 have szs1 := st1.size
 have hS := hS.trans0 st1
 have ol1_0 := OptODiskDisk.le (k := ku1_0) h1_0
 refine k_move rfl rfl ?_
 refine k_extract rfl rfl rfl ?_
 refine k_extract rfl rfl rfl ?_
 refine k_assign rfl rfl ?_
 refine k_assign rfl rfl ?_
 refine k_nil ?_
 refine k_keep [(0, _), (1, _)] ⟨rfl, rfl, trivial⟩ ?_
 refine k_seq ?_
 refine k_region ?_
 refine k_move rfl rfl ?_
 obtain ⟨x2, hx2, h⟩ := ob h
 replace ol1_0 := ol1_0.resolve_left (fun e => by rw [e] at hx2; cases hx2)
 rw [hx2] at h1_0
 replace h1_0 : ODiskDisk s1 ku1_0 v1_0 x2 := h1_0
 have le2 := h1_0.le
 have ne2 := h1_0.ne
 obtain ⟨pb3, rfl⟩ := h1_0.ptr
 obtain ⟨x3, hx3, h⟩ := ob h
 refine k_call cal9 rfl (logfile_Open_w  h1_0 hx3) rfl ?_
 rintro s4 vr4 st4 ⟨ku4_0, v4_0, rfl, hk4_0, h4_0, h1_0⟩
 have szs4 := st4.size
 have hS := hS.c0 st4
 have ol4_0 := OptOLogfileLog.le (k := ku4_0) h4_0
 refine k_move rfl rfl ?_
 refine k_extract rfl rfl rfl ?_
 refine k_extract rfl rfl rfl ?_
 refine k_assign rfl rfl ?_
 refine k_assign rfl rfl ?_
 refine k_nil ?_
 refine k_keep [(0, _), (1, _), (3, _), (4, _)] ⟨rfl, rfl, rfl, rfl, trivial⟩ ?_
 refine k_seq ?_
 refine k_seq ?_
 refine k_region ?_
 refine k_move rfl rfl ?_
 refine k_neq rfl rfl rfl ?_
 refine k_move rfl rfl ?_
 rcases oc_out h with ⟨ho_5, h⟩ | ⟨x4, ho_5, h⟩
 ·
  rw [ho_5] at h4_0
  obtain rfl : v4_0 = .pointer none := h4_0
  have hE6 := Step.r0 K0 s4
  refine k_cutl (X := St) 3 [(0, .bool false), (1, (.pointer (some ⟨pb3, 0, none⟩))), (3, .pointer none), (4, .int .i64 x3.2.1), (21, .int .i64 x3.2.1), (22, .bool (decide (x3.2.1 ≠ 0)))] (fun _ => [(26, .bool true)]) (fun sl wL => sl.w = wL ∧ Step K0 s4 sl) ?_ ?_
  ·
   refine k_again 23 rfl ?_
   refine k_split (fun c7 => ?_) (fun c7 => ?_)
   ·
    refine k_no rfl rfl rfl rfl ?_
    refine k_no rfl rfl rfl rfl ?_
    refine k_pickT rfl rfl rfl rfl ?_
    exact k_met ⟨s4, ⟨rfl, trivial⟩, ⟨rfl, rfl, rfl, rfl, rfl, rfl, trivial⟩, rfl, hE6⟩
   ·
    refine k_yes rfl rfl ?_
    refine k_move rfl rfl ?_
    refine k_yes rfl rfl ?_
    refine k_eql_pnil Tryd.underlying29 rfl rfl rfl ?_
    refine k_pickF rfl rfl rfl rfl ?_
    exact k_met ⟨s4, ⟨rfl, trivial⟩, ⟨rfl, rfl, rfl, rfl, rfl, rfl, trivial⟩, rfl, hE6⟩
  ·
   rintro s8 wL ⟨rfl, hE6⟩
   have szs8 := hE6.size
   have hS := hS.trans0 hE6
   refine k_nil ?_
   refine k_keep [(0, _), (1, _), (3, _), (26, _)] ⟨rfl, rfl, rfl, rfl, trivial⟩ ?_
   refine k_cond_true rfl ?_
   refine k_seq ?_
   refine k_region ?_
   refine k_assign rfl rfl ?_
   refine k_nil ?_
   refine k_keep [(0, _), (1, _), (3, _)] ⟨rfl, rfl, rfl, trivial⟩ ?_
   refine k_ret ?_
   obtain rfl := Option.some.inj h
   refine ⟨_, rfl, Ret.mk hS ?_⟩
   exact rfl
 ·
  rw [ho_5] at h4_0
  replace h4_0 : OLogfileLog (.pointer (some ⟨pb3, 0, none⟩)) s4 ku4_0 v4_0 x4 := h4_0
  replace ol4_0 := ol4_0.resolve_left (fun e => by rw [e] at ho_5; cases ho_5)
  have le5 := h4_0.le
  have ne5 := h4_0.ne
  have hE9 := Step.r0 K0 s4
  refine k_cutl (X := St) 3 [(0, .bool false), (1, (.pointer (some ⟨pb3, 0, none⟩))), (3, v4_0), (4, .int .i64 x3.2.1), (21, .int .i64 x3.2.1), (22, .bool (decide (x3.2.1 ≠ 0)))] (fun _ => [(26, .bool (decide ((x3.2.1 ≠ 0) ∨ False)))]) (fun sl wL => sl.w = wL ∧ Step K0 s4 sl) ?_ ?_
  ·
   refine k_again 23 rfl ?_
   refine k_split (fun c10 => ?_) (fun c10 => ?_)
   ·
    refine k_no rfl rfl rfl rfl ?_
    refine k_no rfl rfl rfl rfl ?_
    refine k_pickT rfl rfl rfl rfl ?_
    exact k_met ⟨s4, ⟨(congrArg (fun b => some (Value.bool b)) (by first | exact decide_eq_decide.2 ⟨Or.inr, fun h => h.resolve_left c10⟩ | exact (decide_eq_true (Or.inl c10)).symm | (simp [c10]; done) | exact dec_andT c10 | exact dec_andF c10 | exact dec_orF c10 | exact dec_orT c10 | (simp [c10, i64] <;> omega))), trivial⟩, ⟨rfl, rfl, rfl, rfl, rfl, rfl, trivial⟩, rfl, hE9⟩
   ·
    refine k_yes rfl rfl ?_
    refine k_move rfl rfl ?_
    refine k_yes rfl rfl ?_
    obtain ⟨pb11, rfl⟩ := h4_0.ptr
    refine k_eql_pnil Tryd.underlying29 rfl rfl rfl ?_
    refine k_pickF rfl rfl rfl rfl ?_
    exact k_met ⟨s4, ⟨(congrArg (fun b => some (Value.bool b)) (by first | exact decide_eq_decide.2 ⟨Or.inr, fun h => h.resolve_left c10⟩ | exact (decide_eq_true (Or.inl c10)).symm | (simp [c10]; done) | exact dec_andT c10 | exact dec_andF c10 | exact dec_orF c10 | exact dec_orT c10 | (simp [c10, i64] <;> omega))), trivial⟩, ⟨rfl, rfl, rfl, rfl, rfl, rfl, trivial⟩, rfl, hE9⟩
  ·
   rintro s12 wL ⟨rfl, hE9⟩
   have szs12 := hE9.size
   have hS := hS.trans0 hE9
   replace h1_0 := h1_0.up2 hE9
   replace h4_0 := h4_0.up2 hE9
   refine k_nil ?_
   refine k_keep [(0, _), (1, _), (3, _), (26, _)] ⟨rfl, rfl, rfl, rfl, trivial⟩ ?_
   refine k_cond_dec rfl (fun c13 => ?_) (fun c13 => ?_)
   ·
    have h := itT h c13
    refine k_seq ?_
    refine k_region ?_
    refine k_assign rfl rfl ?_
    refine k_nil ?_
    refine k_keep [(0, _), (1, _), (3, _)] ⟨rfl, rfl, rfl, trivial⟩ ?_
    refine k_ret ?_
    obtain rfl := Option.some.inj h
    refine ⟨_, rfl, Ret.mk hS ?_⟩
    exact rfl
   ·
    have h := itF h c13
    refine k_skip ?_
    refine k_seq ?_
    refine k_region ?_
    refine k_move rfl rfl ?_
    refine k_bslice2 (ds := ([(97 : UInt8)] : List UInt8).map bD) slc33 rfl (RVs.cons (R.val rfl) RVs.nil) (by rfl) (by rfl) rfl rfl ?_
    intro s14 v14 b14 st14 ge14 bl14 h14
    have szs14 := st14.size
    have hS := hS.trans0 st14
    replace h1_0 := h1_0.up2 st14
    replace h4_0 := h4_0.up2 st14
    have lt14 := Own.le1 h14
    refine k_conv_sl Tryd.underlying33 Tryd.underlying5 rfl h14 (by simp) rfl ?_
    intro s15 st15 h15
    have szs15 := st15.size
    have hS := hS.c0 st15
    replace h1_0 := h1_0.up2 st15
    replace h4_0 := h4_0.up2 st15
    obtain ⟨pb16, rfl⟩ := h4_0.ptr
    obtain ⟨x5, hx5, h⟩ := ob h
    refine k_call cal11 rfl (logfile_Log_Append_r2_w  h4_0 (show R s15 v14 (.sl 1 (([(97 : UInt8)] : List UInt8).map bD)) from h15) h1_0 (by first | assumption | omega | (dsimp only; omega) | (simp <;> omega)) hx5) rfl ?_
    rintro s17 vr17 st17 ⟨rfl, h4_0, h1_0⟩
    have szs17 := st17.size
    have hS := hS.c0 st17
    refine k_move rfl rfl ?_
    refine k_bslice2 (ds := ([(98 : UInt8), (99 : UInt8)] : List UInt8).map bD) slc33 rfl (RVs.cons (R.val rfl) (RVs.cons (R.val rfl) RVs.nil)) (by rfl) (by rfl) rfl rfl ?_
    intro s18 v18 b18 st18 ge18 bl18 h18
    have szs18 := st18.size
    have hS := hS.trans0 st18
    replace h1_0 := h1_0.up2 st18
    replace h4_0 := h4_0.up2 st18
    have lt18 := Own.le1 h18
    refine k_conv_sl Tryd.underlying33 Tryd.underlying5 rfl h18 (by simp) rfl ?_
    intro s19 st19 h19
    have szs19 := st19.size
    have hS := hS.c0 st19
    replace h1_0 := h1_0.up2 st19
    replace h4_0 := h4_0.up2 st19
    obtain ⟨x6, hx6, h⟩ := ob h
    refine k_call cal11 rfl (logfile_Log_Append_r2_w  h4_0 (show R s19 v18 (.sl 1 (([(98 : UInt8), (99 : UInt8)] : List UInt8).map bD)) from h19) h1_0 (by first | assumption | omega | (dsimp only; omega) | (simp <;> omega)) hx6) rfl ?_
    rintro s20 vr20 st20 ⟨rfl, h4_0, h1_0⟩
    have szs20 := st20.size
    have hS := hS.c0 st20
    refine k_assign rfl rfl ?_
    refine k_assign rfl rfl ?_
    refine k_nil ?_
    refine k_keep [(0, _), (1, _), (3, _), (5, _), (6, _)] ⟨rfl, rfl, rfl, rfl, rfl, trivial⟩ ?_
    refine k_seq ?_
    refine k_region ?_
    refine k_move rfl rfl ?_
    obtain ⟨x7, hx7, h⟩ := ob h
    refine k_call cal18 rfl (logfile_Log_Size_r1_w  h4_0 h1_0 hx7) rfl ?_
    rintro s21 vr21 st21 rfl
    have szs21 := st21.size
    have hS := hS.trans0 st21
    replace h1_0 := h1_0.up2 st21
    replace h4_0 := h4_0.up2 st21
    refine k_move rfl rfl ?_
    obtain ⟨x8, hx8, h⟩ := ob h
    refine k_call cal20 rfl (logfile_Log_Count_r1_w  h4_0 h1_0 hx8) rfl ?_
    rintro s22 vr22 st22 rfl
    have szs22 := st22.size
    have hS := hS.trans0 st22
    replace h1_0 := h1_0.up2 st22
    replace h4_0 := h4_0.up2 st22
    refine k_assign rfl rfl ?_
    refine k_assign rfl rfl ?_
    refine k_nil ?_
    refine k_keep [(0, _), (1, _), (3, _), (5, _), (6, _), (7, _), (8, _)] ⟨rfl, rfl, rfl, rfl, rfl, rfl, rfl, trivial⟩ ?_
    refine k_seq ?_
    refine k_region ?_
    refine k_move rfl rfl ?_
    obtain ⟨x9, hx9, h⟩ := ob h
    refine k_call cal12 rfl (logfile_Log_Sync_r1_w  h4_0 h1_0 (by first | assumption | omega | (dsimp only; omega) | (simp <;> omega)) hx9) rfl ?_
    rintro s23 vr23 st23 ⟨rfl, h1_0⟩
    have szs23 := st23.size
    have hS := hS.c0 st23
    replace h4_0 := h4_0.up2 st23
    refine k_nil ?_
    refine k_keep [(0, _), (1, _), (3, _), (5, _), (6, _), (7, _), (8, _)] ⟨rfl, rfl, rfl, rfl, rfl, rfl, rfl, trivial⟩ ?_
    refine k_seq ?_
    refine k_region ?_
    refine k_move rfl rfl ?_
    refine k_bslice2 (ds := ([(100 : UInt8)] : List UInt8).map bD) slc33 rfl (RVs.cons (R.val rfl) RVs.nil) (by rfl) (by rfl) rfl rfl ?_
    intro s24 v24 b24 st24 ge24 bl24 h24
    have szs24 := st24.size
    have hS := hS.trans0 st24
    replace h1_0 := h1_0.up2 st24
    replace h4_0 := h4_0.up2 st24
    have lt24 := Own.le1 h24
    refine k_conv_sl Tryd.underlying33 Tryd.underlying5 rfl h24 (by simp) rfl ?_
    intro s25 st25 h25
    have szs25 := st25.size
    have hS := hS.c0 st25
    replace h1_0 := h1_0.up2 st25
    replace h4_0 := h4_0.up2 st25
    obtain ⟨x10, hx10, h⟩ := ob h
    refine k_call cal11 rfl (logfile_Log_Append_r2_w  h4_0 (show R s25 v24 (.sl 1 (([(100 : UInt8)] : List UInt8).map bD)) from h25) h1_0 (by first | assumption | omega | (dsimp only; omega) | (simp <;> omega)) hx10) rfl ?_
    rintro s26 vr26 st26 ⟨rfl, h4_0, h1_0⟩
    have szs26 := st26.size
    have hS := hS.c0 st26
    refine k_nil ?_
    refine k_keep [(0, _), (1, _), (5, _), (6, _), (7, _), (8, _)] ⟨rfl, rfl, rfl, rfl, rfl, rfl, trivial⟩ ?_
    refine k_seq ?_
    refine k_region ?_
    refine k_move rfl rfl ?_
    obtain ⟨x11, hx11, h⟩ := ob h
    refine k_call cal24 rfl (disk_Disk_Crash_w  h1_0 hx11) rfl ?_
    rintro s27 vr27 st27 ⟨rfl, h1_0⟩
    have szs27 := st27.size
    have hS := hS.c0 st27
    refine k_nil ?_
    refine k_keep [(0, _), (1, _), (5, _), (6, _), (7, _), (8, _)] ⟨rfl, rfl, rfl, rfl, rfl, rfl, trivial⟩ ?_
    refine k_seq ?_
    refine k_region ?_
    refine k_move rfl rfl ?_
    obtain ⟨x12, hx12, h⟩ := ob h
    refine k_call cal25 rfl (disk_Disk_Start_w  h1_0 hx12) rfl ?_
    rintro s28 vr28 st28 ⟨rfl, h1_0⟩
    have szs28 := st28.size
    have hS := hS.c0 st28
    refine k_nil ?_
    refine k_keep [(0, _), (1, _), (5, _), (6, _), (7, _), (8, _)] ⟨rfl, rfl, rfl, rfl, rfl, rfl, trivial⟩ ?_
    refine k_seq ?_
    refine k_region ?_
    refine k_move rfl rfl ?_
    obtain ⟨x13, hx13, h⟩ := ob h
    refine k_call cal9 rfl (logfile_Open_w  h1_0 hx13) rfl ?_
    rintro s29 vr29 st29 ⟨ku29_0, v29_0, rfl, hk29_0, h29_0, h1_0⟩
    have szs29 := st29.size
    have hS := hS.c0 st29
    have ol29_0 := OptOLogfileLog.le (k := ku29_0) h29_0
    refine k_move rfl rfl ?_
    refine k_extract rfl rfl rfl ?_
    refine k_extract rfl rfl rfl ?_
    refine k_assign rfl rfl ?_
    refine k_assign rfl rfl ?_
    refine k_nil ?_
    refine k_keep [(0, _), (1, _), (5, _), (6, _), (7, _), (8, _), (9, _), (10, _)] ⟨rfl, rfl, rfl, rfl, rfl, rfl, rfl, rfl, trivial⟩ ?_
    refine k_seq ?_
    refine k_seq ?_
    refine k_region ?_
    refine k_move rfl rfl ?_
    refine k_neq rfl rfl rfl ?_
    refine k_move rfl rfl ?_
    rcases oc_out h with ⟨ho_30, h⟩ | ⟨x14, ho_30, h⟩
    ·
     rw [ho_30] at h29_0
     obtain rfl : v29_0 = .pointer none := h29_0
     have hE31 := Step.r0 K0 s29
     refine k_cutl (X := St) 3 [(0, .bool false), (1, (.pointer (some ⟨pb3, 0, none⟩))), (5, .int .i64 x5.1), (6, .int .i64 x6.1), (7, .int .i64 x7), (8, .int .i64 x8), (9, .pointer none), (10, .int .i64 x13.2.1), (54, .int .i64 x13.2.1), (55, .bool (decide (x13.2.1 ≠ 0)))] (fun _ => [(59, .bool true)]) (fun sl wL => sl.w = wL ∧ Step K0 s29 sl) ?_ ?_
     ·
      refine k_again 56 rfl ?_
      refine k_split (fun c32 => ?_) (fun c32 => ?_)
      ·
       refine k_no rfl rfl rfl rfl ?_
       refine k_no rfl rfl rfl rfl ?_
       refine k_pickT rfl rfl rfl rfl ?_
       exact k_met ⟨s29, ⟨rfl, trivial⟩, ⟨rfl, rfl, rfl, rfl, rfl, rfl, rfl, rfl, rfl, rfl, trivial⟩, rfl, hE31⟩
      ·
       refine k_yes rfl rfl ?_
       refine k_move rfl rfl ?_
       refine k_yes rfl rfl ?_
       refine k_eql_pnil Tryd.underlying29 rfl rfl rfl ?_
       refine k_pickF rfl rfl rfl rfl ?_
       exact k_met ⟨s29, ⟨rfl, trivial⟩, ⟨rfl, rfl, rfl, rfl, rfl, rfl, rfl, rfl, rfl, rfl, trivial⟩, rfl, hE31⟩
     ·
      rintro s33 wL ⟨rfl, hE31⟩
      have szs33 := hE31.size
      have hS := hS.trans0 hE31
      refine k_nil ?_
      refine k_keep [(0, _), (1, _), (5, _), (6, _), (7, _), (8, _), (9, _), (59, _)] ⟨rfl, rfl, rfl, rfl, rfl, rfl, rfl, rfl, trivial⟩ ?_
      refine k_cond_true rfl ?_
      refine k_seq ?_
      refine k_region ?_
      refine k_assign rfl rfl ?_
      refine k_nil ?_
      refine k_keep [(0, _), (1, _), (5, _), (6, _), (7, _), (8, _), (9, _)] ⟨rfl, rfl, rfl, rfl, rfl, rfl, rfl, trivial⟩ ?_
      refine k_ret ?_
      obtain rfl := Option.some.inj h
      refine ⟨_, rfl, Ret.mk hS ?_⟩
      exact rfl
    ·
     rw [ho_30] at h29_0
     replace h29_0 : OLogfileLog (.pointer (some ⟨pb3, 0, none⟩)) s29 ku29_0 v29_0 x14 := h29_0
     replace ol29_0 := ol29_0.resolve_left (fun e => by rw [e] at ho_30; cases ho_30)
     have le30 := h29_0.le
     have ne30 := h29_0.ne
     have hE34 := Step.r0 K0 s29
     refine k_cutl (X := St) 3 [(0, .bool false), (1, (.pointer (some ⟨pb3, 0, none⟩))), (5, .int .i64 x5.1), (6, .int .i64 x6.1), (7, .int .i64 x7), (8, .int .i64 x8), (9, v29_0), (10, .int .i64 x13.2.1), (54, .int .i64 x13.2.1), (55, .bool (decide (x13.2.1 ≠ 0)))] (fun _ => [(59, .bool (decide ((x13.2.1 ≠ 0) ∨ False)))]) (fun sl wL => sl.w = wL ∧ Step K0 s29 sl) ?_ ?_
     ·
      refine k_again 56 rfl ?_
      refine k_split (fun c35 => ?_) (fun c35 => ?_)
      ·
       refine k_no rfl rfl rfl rfl ?_
       refine k_no rfl rfl rfl rfl ?_
       refine k_pickT rfl rfl rfl rfl ?_
       exact k_met ⟨s29, ⟨(congrArg (fun b => some (Value.bool b)) (by first | exact decide_eq_decide.2 ⟨Or.inr, fun h => h.resolve_left c35⟩ | exact (decide_eq_true (Or.inl c35)).symm | (simp [c35]; done) | exact dec_andT c35 | exact dec_andF c35 | exact dec_orF c35 | exact dec_orT c35 | (simp [c35, i64] <;> omega))), trivial⟩, ⟨rfl, rfl, rfl, rfl, rfl, rfl, rfl, rfl, rfl, rfl, trivial⟩, rfl, hE34⟩
      ·
       refine k_yes rfl rfl ?_
       refine k_move rfl rfl ?_
       refine k_yes rfl rfl ?_
       obtain ⟨pb36, rfl⟩ := h29_0.ptr
       refine k_eql_pnil Tryd.underlying29 rfl rfl rfl ?_
       refine k_pickF rfl rfl rfl rfl ?_
       exact k_met ⟨s29, ⟨(congrArg (fun b => some (Value.bool b)) (by first | exact decide_eq_decide.2 ⟨Or.inr, fun h => h.resolve_left c35⟩ | exact (decide_eq_true (Or.inl c35)).symm | (simp [c35]; done) | exact dec_andT c35 | exact dec_andF c35 | exact dec_orF c35 | exact dec_orT c35 | (simp [c35, i64] <;> omega))), trivial⟩, ⟨rfl, rfl, rfl, rfl, rfl, rfl, rfl, rfl, rfl, rfl, trivial⟩, rfl, hE34⟩
     ·
      rintro s37 wL ⟨rfl, hE34⟩
      have szs37 := hE34.size
      have hS := hS.trans0 hE34
      replace h1_0 := h1_0.up2 hE34
      replace h29_0 := h29_0.up2 hE34
      refine k_nil ?_
      refine k_keep [(0, _), (1, _), (5, _), (6, _), (7, _), (8, _), (9, _), (59, _)] ⟨rfl, rfl, rfl, rfl, rfl, rfl, rfl, rfl, trivial⟩ ?_
      refine k_cond_dec rfl (fun c38 => ?_) (fun c38 => ?_)
      ·
       have h := itT h c38
       refine k_seq ?_
       refine k_region ?_
       refine k_assign rfl rfl ?_
       refine k_nil ?_
       refine k_keep [(0, _), (1, _), (5, _), (6, _), (7, _), (8, _), (9, _)] ⟨rfl, rfl, rfl, rfl, rfl, rfl, rfl, trivial⟩ ?_
       refine k_ret ?_
       obtain rfl := Option.some.inj h
       refine ⟨_, rfl, Ret.mk hS ?_⟩
       exact rfl
      ·
       have h := itF h c38
       refine k_skip ?_
       refine k_seq ?_
       refine k_region ?_
       refine k_move rfl rfl ?_
       obtain ⟨pb39, rfl⟩ := h29_0.ptr
       obtain ⟨x15, hx15, h⟩ := ob h
       refine k_call cal15 rfl (logfile_Log_Records_r1_w  h29_0 h1_0 hx15) rfl ?_
       rintro s40 v40_0 st40 ⟨_, rfl, h40_0⟩
       have szs40 := st40.size
       have hS := hS.trans0 st40
       replace h1_0 := h1_0.up2 st40
       replace h29_0 := h29_0.up2 st40
       refine k_assign rfl rfl ?_
       refine k_nil ?_
       refine k_keep [(0, _), (1, _), (5, _), (6, _), (7, _), (8, _), (9, _), (11, _)] ⟨rfl, rfl, rfl, rfl, rfl, rfl, rfl, rfl, trivial⟩ ?_
       refine k_seq ?_
       refine k_region ?_
       refine k_move rfl rfl ?_
       refine k_eql rfl rfl rfl ?_
       refine k_move rfl rfl ?_
       have hE41 := Step.r0 K0 s40
       refine k_cutl (X := St) 3 [(0, .bool false), (1, (.pointer (some ⟨pb3, 0, none⟩))), (5, .int .i64 x5.1), (6, .int .i64 x6.1), (7, .int .i64 x7), (8, .int .i64 x8), (9, (.pointer (some ⟨pb39, 0, none⟩))), (11, v40_0), (62, .int .i64 x5.1), (63, .bool (decide (x5.1 = 0)))] (fun _ => [(67, .bool (decide ((x5.1 = 0) ∧ (x6.1 = 0))))]) (fun sl wL => sl.w = wL ∧ Step K0 s40 sl) ?_ ?_
       ·
        refine k_again 64 rfl ?_
        refine k_split (fun c42 => ?_) (fun c42 => ?_)
        ·
         refine k_yes rfl rfl ?_
         refine k_move rfl rfl ?_
         refine k_yes rfl rfl ?_
         refine k_eql rfl rfl rfl ?_
         refine k_pickT rfl rfl rfl rfl ?_
         exact k_met ⟨s40, ⟨(congrArg (fun b => some (Value.bool b)) (by first | exact decide_eq_decide.2 ⟨fun h => ⟨c42, h⟩, fun h => h.2⟩ | exact (decide_eq_false (fun h => c42 h.1)).symm | (simp [c42]; done) | exact dec_andT c42 | exact dec_andF c42 | exact dec_orF c42 | exact dec_orT c42 | (simp [c42, i64] <;> omega))), trivial⟩, ⟨rfl, rfl, rfl, rfl, rfl, rfl, rfl, rfl, rfl, rfl, trivial⟩, rfl, hE41⟩
        ·
         refine k_no rfl rfl rfl rfl ?_
         refine k_no rfl rfl rfl rfl ?_
         refine k_pickF rfl rfl rfl rfl ?_
         exact k_met ⟨s40, ⟨(congrArg (fun b => some (Value.bool b)) (by first | exact decide_eq_decide.2 ⟨fun h => ⟨c42, h⟩, fun h => h.2⟩ | exact (decide_eq_false (fun h => c42 h.1)).symm | (simp [c42]; done) | exact dec_andT c42 | exact dec_andF c42 | exact dec_orF c42 | exact dec_orT c42 | (simp [c42, i64] <;> omega))), trivial⟩, ⟨rfl, rfl, rfl, rfl, rfl, rfl, rfl, rfl, rfl, rfl, trivial⟩, rfl, hE41⟩
       ·
        rintro s43 wL ⟨rfl, hE41⟩
        have szs43 := hE41.size
        have hS := hS.trans0 hE41
        replace h40_0 := h40_0.up2 hE41
        replace h1_0 := h1_0.up2 hE41
        replace h29_0 := h29_0.up2 hE41
        refine k_move rfl rfl ?_
        have hE44 := Step.r0 K0 s43
        refine k_cutl (X := St) 3 [(0, .bool false), (1, (.pointer (some ⟨pb3, 0, none⟩))), (5, .int .i64 x5.1), (6, .int .i64 x6.1), (7, .int .i64 x7), (8, .int .i64 x8), (9, (.pointer (some ⟨pb39, 0, none⟩))), (11, v40_0), (62, .int .i64 x5.1), (63, .bool (decide (x5.1 = 0))), (67, .bool (decide ((x5.1 = 0) ∧ (x6.1 = 0))))] (fun _ => [(71, .bool (decide (((x5.1 = 0) ∧ (x6.1 = 0)) ∧ (x7 = 19))))]) (fun sl wL => sl.w = wL ∧ Step K0 s43 sl) ?_ ?_
        ·
         refine k_again 68 rfl ?_
         refine k_split (fun c45 => ?_) (fun c45 => ?_)
         ·
          refine k_yes rfl rfl ?_
          refine k_move rfl rfl ?_
          refine k_yes rfl rfl ?_
          refine k_eql rfl rfl rfl ?_
          refine k_pickT rfl rfl rfl rfl ?_
          exact k_met ⟨s43, ⟨(congrArg (fun b => some (Value.bool b)) (by first | exact decide_eq_decide.2 ⟨fun h => ⟨c45, h⟩, fun h => h.2⟩ | exact (decide_eq_false (fun h => c45 h.1)).symm | (simp [c45]; done) | exact dec_andT c45 | exact dec_andF c45 | exact dec_orF c45 | exact dec_orT c45 | (simp [c45, i64] <;> omega))), trivial⟩, ⟨rfl, rfl, rfl, rfl, rfl, rfl, rfl, rfl, rfl, rfl, rfl, trivial⟩, rfl, hE44⟩
         ·
          refine k_no rfl rfl rfl rfl ?_
          refine k_no rfl rfl rfl rfl ?_
          refine k_pickF rfl rfl rfl rfl ?_
          exact k_met ⟨s43, ⟨(congrArg (fun b => some (Value.bool b)) (by first | exact decide_eq_decide.2 ⟨fun h => ⟨c45, h⟩, fun h => h.2⟩ | exact (decide_eq_false (fun h => c45 h.1)).symm | (simp [c45]; done) | exact dec_andT c45 | exact dec_andF c45 | exact dec_orF c45 | exact dec_orT c45 | (simp [c45, i64] <;> omega))), trivial⟩, ⟨rfl, rfl, rfl, rfl, rfl, rfl, rfl, rfl, rfl, rfl, rfl, trivial⟩, rfl, hE44⟩
        ·
         rintro s46 wL ⟨rfl, hE44⟩
         have szs46 := hE44.size
         have hS := hS.trans0 hE44
         replace h40_0 := h40_0.up2 hE44
         replace h1_0 := h1_0.up2 hE44
         replace h29_0 := h29_0.up2 hE44
         refine k_move rfl rfl ?_
         have hE47 := Step.r0 K0 s46
         refine k_cutl (X := St) 3 [(0, .bool false), (1, (.pointer (some ⟨pb3, 0, none⟩))), (5, .int .i64 x5.1), (6, .int .i64 x6.1), (7, .int .i64 x7), (8, .int .i64 x8), (9, (.pointer (some ⟨pb39, 0, none⟩))), (11, v40_0), (62, .int .i64 x5.1), (63, .bool (decide (x5.1 = 0))), (67, .bool (decide ((x5.1 = 0) ∧ (x6.1 = 0)))), (71, .bool (decide (((x5.1 = 0) ∧ (x6.1 = 0)) ∧ (x7 = 19))))] (fun _ => [(75, .bool (decide ((((x5.1 = 0) ∧ (x6.1 = 0)) ∧ (x7 = 19)) ∧ (x8 = 2))))]) (fun sl wL => sl.w = wL ∧ Step K0 s46 sl) ?_ ?_
         ·
          refine k_again 72 rfl ?_
          refine k_split (fun c48 => ?_) (fun c48 => ?_)
          ·
           refine k_yes rfl rfl ?_
           refine k_move rfl rfl ?_
           refine k_yes rfl rfl ?_
           refine k_eql rfl rfl rfl ?_
           refine k_pickT rfl rfl rfl rfl ?_
           exact k_met ⟨s46, ⟨(congrArg (fun b => some (Value.bool b)) (by first | exact decide_eq_decide.2 ⟨fun h => ⟨c48, h⟩, fun h => h.2⟩ | exact (decide_eq_false (fun h => c48 h.1)).symm | (simp [c48]; done) | exact dec_andT c48 | exact dec_andF c48 | exact dec_orF c48 | exact dec_orT c48 | (simp [c48, i64] <;> omega))), trivial⟩, ⟨rfl, rfl, rfl, rfl, rfl, rfl, rfl, rfl, rfl, rfl, rfl, rfl, trivial⟩, rfl, hE47⟩
          ·
           refine k_no rfl rfl rfl rfl ?_
           refine k_no rfl rfl rfl rfl ?_
           refine k_pickF rfl rfl rfl rfl ?_
           exact k_met ⟨s46, ⟨(congrArg (fun b => some (Value.bool b)) (by first | exact decide_eq_decide.2 ⟨fun h => ⟨c48, h⟩, fun h => h.2⟩ | exact (decide_eq_false (fun h => c48 h.1)).symm | (simp [c48]; done) | exact dec_andT c48 | exact dec_andF c48 | exact dec_orF c48 | exact dec_orT c48 | (simp [c48, i64] <;> omega))), trivial⟩, ⟨rfl, rfl, rfl, rfl, rfl, rfl, rfl, rfl, rfl, rfl, rfl, rfl, trivial⟩, rfl, hE47⟩
         ·
          rintro s49 wL ⟨rfl, hE47⟩
          have szs49 := hE47.size
          have hS := hS.trans0 hE47
          replace h40_0 := h40_0.up2 hE47
          replace h1_0 := h1_0.up2 hE47
          replace h29_0 := h29_0.up2 hE47
          refine k_move rfl rfl ?_
          have hE50 := Step.r0 K0 s49
          refine k_cutl (X := St) 4 [(0, .bool false), (1, (.pointer (some ⟨pb3, 0, none⟩))), (5, .int .i64 x5.1), (6, .int .i64 x6.1), (7, .int .i64 x7), (8, .int .i64 x8), (9, (.pointer (some ⟨pb39, 0, none⟩))), (11, v40_0), (62, .int .i64 x5.1), (63, .bool (decide (x5.1 = 0))), (67, .bool (decide ((x5.1 = 0) ∧ (x6.1 = 0)))), (71, .bool (decide (((x5.1 = 0) ∧ (x6.1 = 0)) ∧ (x7 = 19)))), (75, .bool (decide ((((x5.1 = 0) ∧ (x6.1 = 0)) ∧ (x7 = 19)) ∧ (x8 = 2))))] (fun _ => [(80, .bool (decide (((((x5.1 = 0) ∧ (x6.1 = 0)) ∧ (x7 = 19)) ∧ (x8 = 2)) ∧ ((x15.length : Int) = 2))))]) (fun sl wL => sl.w = wL ∧ Step K0 s49 sl) ?_ ?_
          ·
           refine k_again 76 rfl ?_
           refine k_split (fun c51 => ?_) (fun c51 => ?_)
           ·
            refine k_yes rfl rfl ?_
            refine k_move rfl rfl ?_
            refine k_yes rfl rfl ?_
            refine k_len Tryd.underlying32 rfl (SL.of_R h40_0).hasLen rfl ?_
            refine k_as (v := .int .i64 (x15.length : Int)) (by simp only [List.length_map]) ?_
            refine k_yes rfl rfl ?_
            refine k_eql rfl rfl rfl ?_
            refine k_pickT rfl rfl rfl rfl ?_
            exact k_met ⟨s49, ⟨(congrArg (fun b => some (Value.bool b)) (by first | exact decide_eq_decide.2 ⟨fun h => ⟨c51, h⟩, fun h => h.2⟩ | exact (decide_eq_false (fun h => c51 h.1)).symm | (simp [c51]; done) | exact dec_andT c51 | exact dec_andF c51 | exact dec_orF c51 | exact dec_orT c51 | (simp [c51, i64] <;> omega))), trivial⟩, ⟨rfl, rfl, rfl, rfl, rfl, rfl, rfl, rfl, rfl, rfl, rfl, rfl, rfl, trivial⟩, rfl, hE50⟩
           ·
            refine k_no rfl rfl rfl rfl ?_
            refine k_no rfl rfl rfl rfl ?_
            refine k_no rfl rfl rfl rfl ?_
            refine k_pickF rfl rfl rfl rfl ?_
            exact k_met ⟨s49, ⟨(congrArg (fun b => some (Value.bool b)) (by first | exact decide_eq_decide.2 ⟨fun h => ⟨c51, h⟩, fun h => h.2⟩ | exact (decide_eq_false (fun h => c51 h.1)).symm | (simp [c51]; done) | exact dec_andT c51 | exact dec_andF c51 | exact dec_orF c51 | exact dec_orT c51 | (simp [c51, i64] <;> omega))), trivial⟩, ⟨rfl, rfl, rfl, rfl, rfl, rfl, rfl, rfl, rfl, rfl, rfl, rfl, rfl, trivial⟩, rfl, hE50⟩
          ·
           rintro s52 wL ⟨rfl, hE50⟩
           have szs52 := hE50.size
           have hS := hS.trans0 hE50
           replace h40_0 := h40_0.up2 hE50
           replace h1_0 := h1_0.up2 hE50
           replace h29_0 := h29_0.up2 hE50
           refine k_move rfl rfl ?_
           obtain ⟨x16, hx16, h⟩ := ob h
           have hE53 := Step.r0 K0 s52
           refine k_cutl (X := St) 6 [(0, .bool false), (1, (.pointer (some ⟨pb3, 0, none⟩))), (5, .int .i64 x5.1), (6, .int .i64 x6.1), (7, .int .i64 x7), (8, .int .i64 x8), (9, (.pointer (some ⟨pb39, 0, none⟩))), (11, v40_0), (62, .int .i64 x5.1), (63, .bool (decide (x5.1 = 0))), (67, .bool (decide ((x5.1 = 0) ∧ (x6.1 = 0)))), (71, .bool (decide (((x5.1 = 0) ∧ (x6.1 = 0)) ∧ (x7 = 19)))), (75, .bool (decide ((((x5.1 = 0) ∧ (x6.1 = 0)) ∧ (x7 = 19)) ∧ (x8 = 2)))), (80, .bool (decide (((((x5.1 = 0) ∧ (x6.1 = 0)) ∧ (x7 = 19)) ∧ (x8 = 2)) ∧ ((x15.length : Int) = 2))))] (fun _ => [(87, .bool x16)]) (fun sl wL => sl.w = wL ∧ Step K0 s52 sl) ?_ ?_
           ·
            refine k_again 81 rfl ?_
            refine k_split (fun c54 => ?_) (fun c54 => ?_)
            ·
             have hx16 := itT hx16 c54
             refine k_yes rfl rfl ?_
             refine k_move rfl rfl ?_
             refine k_yes rfl rfl ?_
             obtain ⟨x17, hx17, hx16⟩ := ob hx16
             refine k_ixaddr Tryd.underlying32 size33 rfl rfl (SL.of_R h40_0) (geti_out hx17).1 (geti_map hx17) rfl ?_
             intro qx17 hqx17
             refine k_yes rfl rfl ?_
             refine k_load_sl one33 rfl hqx17 rfl ?_
             intro v55 h55
             refine k_yes rfl rfl ?_
             refine k_bts (m := x17) Tryd.underlying33 Tryd.underlying5 Tryd.underlying9 rfl (SL.of_R h55) rfl ?_
             refine k_yes rfl rfl ?_
             refine k_eql_str rfl rfl rfl ?_
             refine k_pickT rfl rfl rfl rfl ?_
             exact k_met ⟨s52, ⟨(congrArg (fun b => some (Value.bool b)) (Option.some.inj hx16)), trivial⟩, ⟨rfl, rfl, rfl, rfl, rfl, rfl, rfl, rfl, rfl, rfl, rfl, rfl, rfl, rfl, trivial⟩, rfl, hE53⟩
            ·
             have hx16 := itF hx16 c54
             refine k_no rfl rfl rfl rfl ?_
             refine k_no rfl rfl rfl rfl ?_
             refine k_no rfl rfl rfl rfl ?_
             refine k_no rfl rfl rfl rfl ?_
             refine k_no rfl rfl rfl rfl ?_
             refine k_pickF rfl rfl rfl rfl ?_
             exact k_met ⟨s52, ⟨(congrArg (fun b => some (Value.bool b)) (Option.some.inj hx16)), trivial⟩, ⟨rfl, rfl, rfl, rfl, rfl, rfl, rfl, rfl, rfl, rfl, rfl, rfl, rfl, rfl, trivial⟩, rfl, hE53⟩
           ·
            rintro s56 wL ⟨rfl, hE53⟩
            have szs56 := hE53.size
            have hS := hS.trans0 hE53
            replace h1_0 := h1_0.up2 hE53
            replace h29_0 := h29_0.up2 hE53
            refine k_move rfl rfl ?_
            obtain ⟨x18, hx18, h⟩ := ob h
            have hE57 := Step.r0 K0 s56
            refine k_cutl (X := St) 4 [(0, .bool false), (1, (.pointer (some ⟨pb3, 0, none⟩))), (5, .int .i64 x5.1), (6, .int .i64 x6.1), (7, .int .i64 x7), (8, .int .i64 x8), (9, (.pointer (some ⟨pb39, 0, none⟩))), (11, v40_0), (62, .int .i64 x5.1), (63, .bool (decide (x5.1 = 0))), (67, .bool (decide ((x5.1 = 0) ∧ (x6.1 = 0)))), (71, .bool (decide (((x5.1 = 0) ∧ (x6.1 = 0)) ∧ (x7 = 19)))), (75, .bool (decide ((((x5.1 = 0) ∧ (x6.1 = 0)) ∧ (x7 = 19)) ∧ (x8 = 2)))), (80, .bool (decide (((((x5.1 = 0) ∧ (x6.1 = 0)) ∧ (x7 = 19)) ∧ (x8 = 2)) ∧ ((x15.length : Int) = 2)))), (87, .bool x16)] (fun _ => [(92, .bool x18)]) (fun sl wL => sl.w = wL ∧ Step K0 s56 sl) ?_ ?_
            ·
             refine k_again 88 rfl ?_
             refine k_splitb (fun c58 => ?_) (fun c58 => ?_)
             ·
              have hx18 := ibT hx18 c58
              refine k_yes rfl rfl ?_
              refine k_move rfl rfl ?_
              refine k_yes rfl rfl ?_
              obtain ⟨x19, hx19, hx18⟩ := ob hx18
              refine k_call cal26 rfl (disk_Disk_Size_w  h1_0 hx19) rfl ?_
              rintro s59 vr59 st59 rfl
              have szs59 := st59.size
              have hS := hS.trans0 st59
              have hE57 := hE57.trans0 st59
              refine k_yes rfl rfl ?_
              refine k_eql rfl rfl rfl ?_
              refine k_pickT rfl rfl rfl rfl ?_
              exact k_met ⟨s59, ⟨(congrArg (fun b => some (Value.bool b)) (Option.some.inj hx18)), trivial⟩, ⟨rfl, rfl, rfl, rfl, rfl, rfl, rfl, rfl, rfl, rfl, rfl, rfl, rfl, rfl, rfl, trivial⟩, rfl, hE57⟩
             ·
              have hx18 := ibF hx18 c58
              refine k_no rfl rfl rfl rfl ?_
              refine k_no rfl rfl rfl rfl ?_
              refine k_no rfl rfl rfl rfl ?_
              refine k_pickF rfl rfl rfl rfl ?_
              exact k_met ⟨s56, ⟨(congrArg (fun b => some (Value.bool b)) (Option.some.inj hx18)), trivial⟩, ⟨rfl, rfl, rfl, rfl, rfl, rfl, rfl, rfl, rfl, rfl, rfl, rfl, rfl, rfl, rfl, trivial⟩, rfl, hE57⟩
            ·
             rintro s60 wL ⟨rfl, hE57⟩
             have szs60 := hE57.size
             have hS := hS.trans0 hE57
             replace h1_0 := h1_0.up2 hE57
             replace h29_0 := h29_0.up2 hE57
             refine k_move rfl rfl ?_
             obtain ⟨x20, hx20, h⟩ := ob h
             have hE61 := Step.r0 (KU (KO ku29_0) (KO ku1_0)) s60
             refine k_cutl (X := St) 5 [(0, .bool false), (1, (.pointer (some ⟨pb3, 0, none⟩))), (5, .int .i64 x5.1), (6, .int .i64 x6.1), (7, .int .i64 x7), (8, .int .i64 x8), (9, (.pointer (some ⟨pb39, 0, none⟩))), (11, v40_0), (62, .int .i64 x5.1), (63, .bool (decide (x5.1 = 0))), (67, .bool (decide ((x5.1 = 0) ∧ (x6.1 = 0)))), (71, .bool (decide (((x5.1 = 0) ∧ (x6.1 = 0)) ∧ (x7 = 19)))), (75, .bool (decide ((((x5.1 = 0) ∧ (x6.1 = 0)) ∧ (x7 = 19)) ∧ (x8 = 2)))), (80, .bool (decide (((((x5.1 = 0) ∧ (x6.1 = 0)) ∧ (x7 = 19)) ∧ (x8 = 2)) ∧ ((x15.length : Int) = 2)))), (87, .bool x16), (92, .bool x18)] (fun _ => [(98, .bool x20.1)]) (fun sl wL => sl.w = wL ∧ Step (KU (KO ku29_0) (KO ku1_0)) s60 sl ∧ ODiskDisk sl ku1_0 (.pointer (some ⟨pb3, 0, none⟩)) x20.2.1 ∧ OLogfileLog (.pointer (some ⟨pb3, 0, none⟩)) sl ku29_0 (.pointer (some ⟨pb39, 0, none⟩)) x20.2.2) ?_ ?_
             ·
              refine k_again 93 rfl ?_
              refine k_splitb (fun c62 => ?_) (fun c62 => ?_)
              ·
               have hx20 := ibT hx20 c62
               refine k_yes rfl rfl ?_
               refine k_move rfl rfl ?_
               refine k_yes rfl rfl ?_
               obtain ⟨x21, hx21, hx20⟩ := ob hx20
               refine k_makeI2 (dz := bD (0 : UInt8)) (p := 80) elem33 rfl rfl (makel_out hx21).1 (RC.val _ rfl) rfl (by have := (makel_out hx21).2.1; omega) (by have := (makel_out hx21).2.1; omega) rfl ?_
               intro s63 v63 b63 st63 ge63 bl63 h63
               rw [← List.map_replicate, ← (makel_out hx21).2.2] at h63
               have szs63 := st63.size
               have hS := hS.trans0 st63
               have hE61 := hE61.trans0 st63
               replace h1_0 := h1_0.up2 st63
               replace h29_0 := h29_0.up2 st63
               have lt63 := Own.le1 h63
               refine k_yes rfl rfl ?_
               obtain ⟨s64, e64, st64, h64⟩ := h63.freeze
               rw [← e64]
               have szs64 := st64.size
               have hS := hS.c0 st64
               have hE61 := hE61.c0 st64
               replace h1_0 := h1_0.up2 st64
               replace h29_0 := h29_0.up2 st64
               obtain ⟨x22, hx22, hx20⟩ := ob hx20
               refine k_call cal11 rfl (logfile_Log_Append_r2_w  h29_0 (show R s64 v63 (.sl 1 (x21.map bD)) from h64) h1_0 (by first | assumption | omega | (dsimp only; omega) | (simp <;> omega)) hx22) rfl ?_
               rintro s65 vr65 st65 ⟨rfl, h29_0, h1_0⟩
               have szs65 := st65.size
               have hS := hS.c0 st65
               have hE61 := hE61.c0 st65
               refine k_yes rfl rfl ?_
               refine k_eql rfl rfl rfl ?_
               refine k_pickT rfl rfl rfl rfl ?_
               obtain rfl := Option.some.inj hx20
               exact k_met ⟨s65, ⟨rfl, trivial⟩, ⟨rfl, rfl, rfl, rfl, rfl, rfl, rfl, rfl, rfl, rfl, rfl, rfl, rfl, rfl, rfl, rfl, trivial⟩, rfl, hE61, h1_0, h29_0⟩
              ·
               have hx20 := ibF hx20 c62
               refine k_no rfl rfl rfl rfl ?_
               refine k_no rfl rfl rfl rfl ?_
               refine k_no rfl rfl rfl rfl ?_
               refine k_no rfl rfl rfl rfl ?_
               refine k_pickF rfl rfl rfl rfl ?_
               obtain rfl := Option.some.inj hx20
               exact k_met ⟨s60, ⟨rfl, trivial⟩, ⟨rfl, rfl, rfl, rfl, rfl, rfl, rfl, rfl, rfl, rfl, rfl, rfl, rfl, rfl, rfl, rfl, trivial⟩, rfl, hE61, h1_0, h29_0⟩
             ·
              rintro s66 wL ⟨rfl, hE61, h1_0, h29_0⟩
              have szs66 := hE61.size
              have hS := hS.c0 hE61
              refine k_move rfl rfl ?_
              obtain ⟨x23, hx23, h⟩ := ob h
              have hE67 := Step.r0 (KU (KO ku29_0) (KO ku1_0)) s66
              refine k_cutl (X := St) 5 [(0, .bool false), (1, (.pointer (some ⟨pb3, 0, none⟩))), (5, .int .i64 x5.1), (6, .int .i64 x6.1), (7, .int .i64 x7), (8, .int .i64 x8), (9, (.pointer (some ⟨pb39, 0, none⟩))), (11, v40_0), (62, .int .i64 x5.1), (63, .bool (decide (x5.1 = 0))), (67, .bool (decide ((x5.1 = 0) ∧ (x6.1 = 0)))), (71, .bool (decide (((x5.1 = 0) ∧ (x6.1 = 0)) ∧ (x7 = 19)))), (75, .bool (decide ((((x5.1 = 0) ∧ (x6.1 = 0)) ∧ (x7 = 19)) ∧ (x8 = 2)))), (80, .bool (decide (((((x5.1 = 0) ∧ (x6.1 = 0)) ∧ (x7 = 19)) ∧ (x8 = 2)) ∧ ((x15.length : Int) = 2)))), (87, .bool x16), (92, .bool x18), (98, .bool x20.1)] (fun _ => [(104, .bool x23.1)]) (fun sl wL => sl.w = wL ∧ Step (KU (KO ku29_0) (KO ku1_0)) s66 sl ∧ ODiskDisk sl ku1_0 (.pointer (some ⟨pb3, 0, none⟩)) x23.2.1 ∧ OLogfileLog (.pointer (some ⟨pb3, 0, none⟩)) sl ku29_0 (.pointer (some ⟨pb39, 0, none⟩)) x23.2.2) ?_ ?_
              ·
               refine k_again 99 rfl ?_
               refine k_splitb (fun c68 => ?_) (fun c68 => ?_)
               ·
                have hx23 := ibT hx23 c68
                refine k_yes rfl rfl ?_
                refine k_move rfl rfl ?_
                refine k_yes rfl rfl ?_
                obtain ⟨x24, hx24, hx23⟩ := ob hx23
                refine k_makeI2 (dz := bD (0 : UInt8)) (p := 16385) elem33 rfl rfl (makel_out hx24).1 (RC.val _ rfl) rfl (by have := (makel_out hx24).2.1; omega) (by have := (makel_out hx24).2.1; omega) rfl ?_
                intro s69 v69 b69 st69 ge69 bl69 h69
                rw [← List.map_replicate, ← (makel_out hx24).2.2] at h69
                have szs69 := st69.size
                have hS := hS.trans0 st69
                have hE67 := hE67.trans0 st69
                replace h1_0 := h1_0.up2 st69
                replace h29_0 := h29_0.up2 st69
                have lt69 := Own.le1 h69
                refine k_yes rfl rfl ?_
                obtain ⟨s70, e70, st70, h70⟩ := h69.freeze
                rw [← e70]
                have szs70 := st70.size
                have hS := hS.c0 st70
                have hE67 := hE67.c0 st70
                replace h1_0 := h1_0.up2 st70
                replace h29_0 := h29_0.up2 st70
                obtain ⟨x25, hx25, hx23⟩ := ob hx23
                refine k_call cal11 rfl (logfile_Log_Append_r2_w  h29_0 (show R s70 v69 (.sl 1 (x24.map bD)) from h70) h1_0 (by first | assumption | omega | (dsimp only; omega) | (simp <;> omega)) hx25) rfl ?_
                rintro s71 vr71 st71 ⟨rfl, h29_0, h1_0⟩
                have szs71 := st71.size
                have hS := hS.c0 st71
                have hE67 := hE67.c0 st71
                refine k_yes rfl rfl ?_
                refine k_eql rfl rfl rfl ?_
                refine k_pickT rfl rfl rfl rfl ?_
                obtain rfl := Option.some.inj hx23
                exact k_met ⟨s71, ⟨rfl, trivial⟩, ⟨rfl, rfl, rfl, rfl, rfl, rfl, rfl, rfl, rfl, rfl, rfl, rfl, rfl, rfl, rfl, rfl, rfl, trivial⟩, rfl, hE67, h1_0, h29_0⟩
               ·
                have hx23 := ibF hx23 c68
                refine k_no rfl rfl rfl rfl ?_
                refine k_no rfl rfl rfl rfl ?_
                refine k_no rfl rfl rfl rfl ?_
                refine k_no rfl rfl rfl rfl ?_
                refine k_pickF rfl rfl rfl rfl ?_
                obtain rfl := Option.some.inj hx23
                exact k_met ⟨s66, ⟨rfl, trivial⟩, ⟨rfl, rfl, rfl, rfl, rfl, rfl, rfl, rfl, rfl, rfl, rfl, rfl, rfl, rfl, rfl, rfl, rfl, trivial⟩, rfl, hE67, h1_0, h29_0⟩
              ·
               rintro s72 wL ⟨rfl, hE67, h1_0, h29_0⟩
               have szs72 := hE67.size
               have hS := hS.c0 hE67
               refine k_assign rfl rfl ?_
               refine k_nil ?_
               refine k_keep [(0, _)] ⟨rfl, trivial⟩ ?_
               refine k_ret ?_
               obtain rfl := Option.some.inj h
               refine ⟨_, rfl, Ret.mk hS ?_⟩
               exact rfl

set_option maxHeartbeats 1000000 in
set_option maxRecDepth 100000 in
theorem law11_many_w {s : St} {l0 : Lab} {v0 : Value} {a0 : (List Law11Act)} {r : Bool} (hp0 : SL s l0 v0 5 (a0.map dLaw11Act)) (h : law11_many a0 = some r) : Calls Tryd.prog 7 #[v0] s.w (Ret s K0 (fun s1 v => v = .bool r)) := by
 unfold law11_many at h
 obtain ⟨lf0, lf0le, lf0ne, hp0⟩ := hp0.fix
 have hS := Step.r0 K0 s
 refine k_fn (rs := [2]) (args := [v0]) Tryd.func7 rfl rfl rfl rfl ?_
 refine k_seq ?_
 refine k_region ?_
 refine k_assign rfl rfl ?_
 refine k_nil ?_
 refine k_seq ?_
 refine k_region ?_
 refine k_assign rfl rfl ?_
 refine k_nil ?_
 refine k_seq ?_
 obtain ⟨kj1, hK1, h⟩ := jn_out h
 have hE1 := Step.r0 K0 s
 refine k_cutc (X := St) [(2, .bool false)] (fun (xL : St) => match xL with | sl => []) (fun (xL : St) (wL : World) => match xL with | sl => sl.w = wL ∧ Step K0 s sl ∧ kj1 () = some r) ?_ ?_
 ·
  refine k_seq ?_
  refine k_region ?_
  refine k_assign rfl rfl ?_
  refine k_nil ?_
  refine k_block ?_
  refine k_loopc (X := St × Int × Int × Nat) [(0, _), (2, _)] (fun (xL : St × Int × Int × Nat) => match xL with | (sl, x2, x3, j) => [(3, .int .i64 x2), (4, .int .i64 x3)]) (fun (xL : St × Int × Int × Nat) (wL : World) => match xL with | (sl, x2, x3, j) => sl.w = wL ∧ Step K0 s sl ∧ law11_many_l1 a0 kj1 j x2 x3 = some r) (fun (xL : St × Int × Int × Nat) => match xL with | (sl, x2, x3, j) => j) (s, 0, 0, FU) ⟨rfl, rfl, trivial⟩ ⟨(by first | rfl | (simp <;> rfl)), (by first | rfl | (simp <;> rfl)), trivial⟩ ⟨rfl, (Step.refl _).of0 (by first | exact fun _ h => h | (intro c h; simp [KC, KO, KU, KN, KB] at h <;> omega)), h⟩ ?_
  rintro ⟨s3, x2, x3, j⟩ wL ⟨rfl, hE2, h⟩
  cases j with
  | zero => rw [law11_many_l1] at h; exact (noneNe h).elim
  | succ j =>
  rw [law11_many_l1] at h
  have szs3 := hE2.size
  have hS := hS.trans0 hE2
  have hE1 := hE1.trans0 hE2
  replace hp0 := hp0.up2 hE2
  refine k_seq ?_
  refine k_seq ?_
  refine k_region ?_
  refine k_move rfl rfl ?_
  refine k_move rfl rfl ?_
  refine k_len Tryd.underlying22 rfl hp0.hasLen rfl ?_
  refine k_as (v := .int .i64 (a0.length : Int)) (by simp only [List.length_map]) ?_
  refine k_lss rfl rfl rfl ?_
  refine k_nil ?_
  refine k_keep [(0, _), (2, _), (3, _), (4, _), (8, _)] ⟨rfl, rfl, rfl, rfl, rfl, trivial⟩ ?_
  refine k_cond_dec rfl (fun c4 => ?_) (fun c4 => ?_)
  ·
   have h := itT h c4
   refine k_skip ?_
   refine k_seq ?_
   refine k_block ?_
   refine k_seq ?_
   refine k_region ?_
   refine k_move rfl rfl ?_
   refine k_move rfl rfl ?_
   refine k_move rfl rfl ?_
   obtain ⟨x4, hx4, h⟩ := ob h
   refine k_ixaddr Tryd.underlying22 size35 rfl rfl hp0 (geti_out hx4).1 (geti_map hx4) rfl ?_
   intro qx4 hqx4
   refine k_field_at (o := 0) rfl hqx4 (by rfl) fld35_4 rfl ?_
   intro q5 h5
   refine k_load_sl one33 rfl h5 rfl ?_
   intro v6 h6
   refine k_len Tryd.underlying33 rfl (SL.of_R h6).hasLen rfl ?_
   refine k_as (v := .int .i64 (x4.Bytes.length : Int)) (by simp only [List.length_map]) ?_
   refine k_quo rfl rfl (by decide) rfl ?_
   refine k_add rfl rfl rfl ?_
   refine k_add rfl rfl rfl ?_
   refine k_assign rfl rfl ?_
   refine k_nil ?_
   refine k_keep [(0, _), (2, _), (3, _), (4, _)] ⟨rfl, rfl, rfl, rfl, trivial⟩ ?_
   refine k_seq ?_
   refine k_region ?_
   refine k_move rfl rfl ?_
   refine k_gtr rfl rfl rfl ?_
   refine k_nil ?_
   refine k_keep [(0, _), (2, _), (3, _), (4, _), (22, _)] ⟨rfl, rfl, rfl, rfl, rfl, trivial⟩ ?_
   refine k_cond_dec rfl (fun c7 => ?_) (fun c7 => ?_)
   ·
    have h := itT h c7
    refine k_seq ?_
    refine k_region ?_
    refine k_assign rfl rfl ?_
    refine k_nil ?_
    refine k_keep [(0, _), (2, _), (3, _), (4, _)] ⟨rfl, rfl, rfl, rfl, trivial⟩ ?_
    refine k_ret ?_
    obtain rfl := Option.some.inj h
    refine ⟨_, rfl, Ret.mk hS ?_⟩
    exact rfl
   ·
    have h := itF h c7
    refine k_skip ?_
    refine k_blk ?_
    refine k_region ?_
    refine k_move rfl rfl ?_
    refine k_add rfl rfl rfl ?_
    refine k_assign rfl rfl ?_
    refine k_nil ?_
    exact k_stop ⟨(s3, i64 (x2 + (i64 (1 + (i64 ((x4.Bytes.length : Int).tdiv 128))))), i64 (x3 + 1), j), ⟨(by first | rfl | (simp <;> rfl)), (by first | rfl | (simp <;> rfl)), trivial⟩, ⟨rfl, rfl, trivial⟩, ⟨rfl, hE2, h⟩, (by simp)⟩
  ·
   have h := itF h c4
   refine k_exit rfl ?_
   exact k_stop ⟨s3, trivial, ⟨rfl, trivial⟩, ⟨rfl, hE1, h⟩⟩
 ·
  rintro s8 wL ⟨rfl, hE1, h⟩
  rw [hK1] at h
  have szs8 := hE1.size
  have hS := hS.trans0 hE1
  refine k_seq ?_
  refine k_region ?_
  refine k_assign rfl rfl ?_
  refine k_nil ?_
  refine k_ret ?_
  obtain rfl := Option.some.inj h
  refine ⟨_, rfl, Ret.mk hS ?_⟩
  exact rfl

set_option maxHeartbeats 1000000 in
set_option maxRecDepth 100000 in
theorem disk_Disk_Bytes_w {s : St} {k0 : Nat} {p0 : Value} {a0 : DiskDisk} {r : Int} (ho0 : ODiskDisk s k0 p0 a0) (h : disk_Disk_Bytes a0 = some r) : Calls Tryd.prog 22 #[p0] s.w (Ret s K0 (fun s1 v => v = .int .i64 r)) := by
 unfold disk_Disk_Bytes at h
 have le0 := ho0.le
 have ne0 := ho0.ne
 have hS := Step.r0 K0 s
 refine k_fn (rs := [2]) (args := [p0]) Tryd.func22 rfl rfl rfl rfl ?_
 refine k_seq ?_
 refine k_region ?_
 refine k_assign rfl rfl ?_
 refine k_nil ?_
 refine k_seq ?_
 refine k_region ?_
 refine k_move rfl rfl ?_
 obtain ⟨pb1, rfl⟩ := ho0.ptr
 obtain ⟨x1, hx1, h⟩ := ob h
 refine k_call cal38 rfl (disk_Disk_seen_w  ho0 hx1) rfl ?_
 rintro s2 v2_0 st2 ⟨_, rfl, h2_0⟩
 have szs2 := st2.size
 have hS := hS.trans0 st2
 obtain ⟨x2, hx2, h⟩ := ob h
 refine k_call cal40 rfl (disk_picture_size_w  (show R s2 v2_0 (.sl 2 (x1.map dDiskFile)) from h2_0) hx2) rfl ?_
 rintro s3 vr3 st3 rfl
 have szs3 := st3.size
 have hS := hS.trans0 st3
 refine k_assign rfl rfl ?_
 refine k_nil ?_
 refine k_keep [(2, _)] ⟨rfl, trivial⟩ ?_
 refine k_ret ?_
 obtain rfl := Option.some.inj h
 refine ⟨_, rfl, Ret.mk hS ?_⟩
 exact rfl

set_option maxHeartbeats 1000000 in
set_option maxRecDepth 100000 in
theorem disk_Disk_Waits_w {s : St} {k0 : Nat} {p0 : Value} {a0 : DiskDisk} {r : Int} (ho0 : ODiskDisk s k0 p0 a0) (h : disk_Disk_Waits a0 = some r) : Calls Tryd.prog 23 #[p0] s.w (Ret s K0 (fun s1 v => v = .int .i64 r)) := by
 unfold disk_Disk_Waits at h
 have le0 := ho0.le
 have ne0 := ho0.ne
 obtain ⟨bo0, rfl⟩ := ho0.ptr
 obtain ⟨wo0_0, wo0_1, hb_o0, hwo0_0, hwo0_1⟩ := ho0.at_
 have hS := Step.r0 K0 s
 refine k_fn (rs := [2]) (args := [.pointer (some ⟨bo0, 0, none⟩)]) Tryd.func23 rfl rfl rfl rfl ?_
 refine k_seq ?_
 refine k_region ?_
 refine k_assign rfl rfl ?_
 refine k_nil ?_
 refine k_seq ?_
 refine k_seq ?_
 refine k_region ?_
 refine k_move rfl rfl ?_
 obtain ⟨x1, hx1, h⟩ := ob h
 refine k_call cal10 rfl (disk_Disk_Down_w  (ODiskDisk.mk_ a0 (by omega) hwo0_0 hwo0_1 hb_o0) hx1) rfl ?_
 rintro s1 vr1 st1 rfl
 have szs1 := st1.size
 have hS := hS.trans0 st1
 replace hwo0_1 := hwo0_1.up2 st1
 replace hb_o0 := hb_o0.up2 st1
 refine k_nil ?_
 refine k_keep [(0, _), (2, _), (4, _)] ⟨rfl, rfl, rfl, trivial⟩ ?_
 refine k_cond rfl (fun c2 => ?_) (fun c2 => ?_)
 ·
  have h := ibT h c2
  refine k_seq ?_
  refine k_region ?_
  refine k_assign rfl rfl ?_
  refine k_nil ?_
  refine k_keep [(0, _), (2, _)] ⟨rfl, rfl, trivial⟩ ?_
  refine k_ret ?_
  obtain rfl := Option.some.inj h
  refine ⟨_, rfl, Ret.mk hS ?_⟩
  exact rfl
 ·
  have h := ibF h c2
  refine k_skip ?_
  refine k_seq ?_
  refine k_region ?_
  refine k_move rfl rfl ?_
  refine k_nilCheck rfl rfl ?_
  refine k_field_addr fld64_4 rfl rfl ?_
  refine k_load_blk one60 rfl hb_o0 rfl rfl ?_
  refine k_len Tryd.underlying60 rfl (hwo0_1.sl).hasLen rfl ?_
  refine k_as (v := .int .i64 (a0.calls.length : Int)) (by simp only [List.length_map]) ?_
  refine k_assign rfl rfl ?_
  refine k_nil ?_
  refine k_keep [(2, _)] ⟨rfl, trivial⟩ ?_
  refine k_ret ?_
  obtain rfl := Option.some.inj h
  refine ⟨_, rfl, Ret.mk hS ?_⟩
  exact rfl

set_option maxHeartbeats 1000000 in
set_option maxRecDepth 100000 in
theorem logfile_Log_At_r2_w {s : St} {k0 : Nat} {p0 : Value} {a0 : LogfileLog} {a1 : Int} {k2 : Nat} {p2 : Value} {a2 : DiskDisk} {r : ((List UInt8) × Bool)} (ho0 : OLogfileLog p2 s k0 p0 a0) (ho2 : ODiskDisk s k2 p2 a2) (h : logfile_Log_At_r2 a0 a1 a2 = some r) : Calls Tryd.prog 19 #[p0, .int .i64 a1] s.w (Ret s K0 (fun s1 v => ∃ (u0 : Value), v = .tuple #[u0, .bool r.2] ∧ R s1 u0 (.sl 1 (r.1.map bD)))) := by
 unfold logfile_Log_At_r2 at h
 have le0 := ho0.le
 have ne0 := ho0.ne
 have le2 := ho2.le
 have ne2 := ho2.ne
 obtain ⟨bo2, rfl⟩ := ho2.ptr
 obtain ⟨bo0, rfl⟩ := ho0.ptr
 obtain ⟨wo0_0, hb_o0, hwo0_0⟩ := ho0.at_
 have hS := Step.r0 K0 s
 refine k_fn (rs := [4, 5]) (args := [.pointer (some ⟨bo0, 0, none⟩), .int .i64 a1]) Tryd.func19 rfl rfl rfl rfl ?_
 refine k_seq ?_
 refine k_region ?_
 refine k_assign rfl rfl ?_
 refine k_assign rfl rfl ?_
 refine k_nil ?_
 refine k_seq ?_
 refine k_seq ?_
 refine k_region ?_
 refine k_move rfl rfl ?_
 obtain ⟨x1, hx1, h⟩ := ob h
 obtain rfl := Option.some.inj (show some false = some x1 from hx1)
 refine k_call cal31 rfl (logfile_Log_none_r1_w  (OLogfileLog.mk_ a0 (by omega) hwo0_0 hb_o0) ho2 hx1) rfl ?_
 rintro s1 vr1 st1 rfl
 have szs1 := st1.size
 have hS := hS.trans0 st1
 replace hwo0_0 := hwo0_0.up2 st1
 replace hb_o0 := hb_o0.up2 st1
 refine k_move rfl rfl ?_
 refine k_yes rfl rfl ?_
 refine k_move rfl rfl ?_
 refine k_yes rfl rfl ?_
 refine k_lss rfl rfl rfl ?_
 refine k_pickF rfl rfl rfl rfl ?_
 refine k_move rfl rfl ?_
 have hE2 := Step.r0 K0 s1
 refine k_cutl (X := St) 8 [(0, .pointer (some ⟨bo0, 0, none⟩)), (1, .int .i64 a1), (4, .slice none 0 0), (5, .bool false), (6, .pointer (some ⟨bo0, 0, none⟩)), (7, .bool false), (8, .bool false), (9, .int .i64 a1), (10, .bool (decide (a1 < 0))), (11, .bool (decide (a1 < 0)))] (fun _ => [(20, .bool (decide ((a1 < 0) ∨ ((a0.all_.length : Int) ≤ a1))))]) (fun sl wL => sl.w = wL ∧ Step K0 s1 sl) ?_ ?_
 ·
  refine k_again 12 rfl ?_
  refine k_split (fun c3 => ?_) (fun c3 => ?_)
  ·
   refine k_no rfl rfl rfl rfl ?_
   refine k_no rfl rfl rfl rfl ?_
   refine k_no rfl rfl rfl rfl ?_
   refine k_no rfl rfl rfl rfl ?_
   refine k_no rfl rfl rfl rfl ?_
   refine k_no rfl rfl rfl rfl ?_
   refine k_no rfl rfl rfl rfl ?_
   refine k_pickT rfl rfl rfl rfl ?_
   exact k_met ⟨s1, ⟨(congrArg (fun b => some (Value.bool b)) (by first | exact decide_eq_decide.2 ⟨Or.inr, fun h => h.resolve_left c3⟩ | exact (decide_eq_true (Or.inl c3)).symm | (simp [c3]; done) | exact dec_andT c3 | exact dec_andF c3 | exact dec_orF c3 | exact dec_orT c3 | (simp [c3, i64] <;> omega))), trivial⟩, ⟨rfl, rfl, rfl, rfl, rfl, rfl, rfl, rfl, rfl, rfl, trivial⟩, rfl, hE2⟩
  ·
   refine k_yes rfl rfl ?_
   refine k_move rfl rfl ?_
   refine k_yes rfl rfl ?_
   refine k_move rfl rfl ?_
   refine k_yes rfl rfl ?_
   refine k_nilCheck rfl rfl ?_
   refine k_yes rfl rfl ?_
   refine k_field_addr fld53_2 rfl rfl ?_
   refine k_yes rfl rfl ?_
   refine k_load_blk one32 rfl hb_o0 rfl rfl ?_
   refine k_yes rfl rfl ?_
   refine k_len Tryd.underlying32 rfl (hwo0_0.sl).hasLen rfl ?_
   refine k_as (v := .int .i64 (a0.all_.length : Int)) (by simp only [List.length_map]) ?_
   refine k_yes rfl rfl ?_
   refine k_geq rfl rfl rfl ?_
   refine k_pickF rfl rfl rfl rfl ?_
   exact k_met ⟨s1, ⟨(congrArg (fun b => some (Value.bool b)) (by first | exact decide_eq_decide.2 ⟨Or.inr, fun h => h.resolve_left c3⟩ | exact (decide_eq_true (Or.inl c3)).symm | (simp [c3]; done) | exact dec_andT c3 | exact dec_andF c3 | exact dec_orF c3 | exact dec_orT c3 | (simp [c3, i64] <;> omega))), trivial⟩, ⟨rfl, rfl, rfl, rfl, rfl, rfl, rfl, rfl, rfl, rfl, trivial⟩, rfl, hE2⟩
 ·
  rintro s4 wL ⟨rfl, hE2⟩
  have szs4 := hE2.size
  have hS := hS.trans0 hE2
  replace hwo0_0 := hwo0_0.up2 hE2
  replace hb_o0 := hb_o0.up2 hE2
  refine k_nil ?_
  refine k_keep [(0, _), (1, _), (4, _), (5, _), (20, _)] ⟨rfl, rfl, rfl, rfl, rfl, trivial⟩ ?_
  refine k_cond_dec rfl (fun c5 => ?_) (fun c5 => ?_)
  ·
   have h := itT h c5
   refine k_seq ?_
   refine k_region ?_
   refine k_assign rfl rfl ?_
   refine k_assign rfl rfl ?_
   refine k_nil ?_
   refine k_keep [(0, _), (1, _), (4, _), (5, _)] ⟨rfl, rfl, rfl, rfl, trivial⟩ ?_
   refine k_ret ?_
   obtain rfl := Option.some.inj h
   refine ⟨_, rfl, Ret.mk hS ?_⟩
   exact ⟨_, rfl, (R.of_SL (.inl ⟨rfl, none, 0, rfl, fun _ => rfl⟩))⟩
  ·
   have h := itF h c5
   refine k_skip ?_
   refine k_seq ?_
   refine k_region ?_
   refine k_move rfl rfl ?_
   refine k_nilCheck rfl rfl ?_
   refine k_field_addr fld53_2 rfl rfl ?_
   refine k_load_blk one32 rfl hb_o0 rfl rfl ?_
   refine k_move rfl rfl ?_
   obtain ⟨x2, hx2, h⟩ := ob h
   refine k_ixaddr_own Tryd.underlying32 size33 rfl rfl hwo0_0 (geti_out hx2).1 (geti_map hx2) rfl ?_
   intro qx2 hqx2 heqx2
   refine k_load_sl one33 rfl hqx2 rfl ?_
   intro v6 h6
   obtain ⟨x3, hx3, h⟩ := ob h
   refine k_call cal34 rfl (slices_Clone_byte_byte_w  (SL.of_R h6) hx3) rfl ?_
   rintro s7 v7_0 st7 ⟨_, rfl, h7_0⟩
   have szs7 := st7.size
   have hS := hS.trans0 st7
   refine k_assign rfl rfl ?_
   refine k_assign rfl rfl ?_
   refine k_nil ?_
   refine k_keep [(4, _), (5, _)] ⟨rfl, rfl, trivial⟩ ?_
   refine k_ret ?_
   obtain rfl := Option.some.inj h
   refine ⟨_, rfl, Ret.mk hS ?_⟩
   exact ⟨_, rfl, h7_0⟩

set_option maxHeartbeats 1000000 in
set_option maxRecDepth 100000 in
theorem law11_LogfileFull_w {s : St} {a0 : Int} {l1 : Lab} {v1 : Value} {a1 : (List Law11Act)} {r : Bool} (hp1 : SL s l1 v1 5 (a1.map dLaw11Act)) (h : law11_LogfileFull a0 a1 = some r) : Calls Tryd.prog 5 #[.int .i64 a0, v1] s.w (Ret s K0 (fun s1 v => v = .bool r)) := by
 unfold law11_LogfileFull at h
 obtain ⟨lf1, lf1le, lf1ne, hp1⟩ := hp1.fix
 have hS := Step.r0 K0 s
 refine k_fn (rs := [4]) (args := [.int .i64 a0, v1]) Tryd.func5 rfl rfl rfl rfl ?_
 refine k_seq ?_
 refine k_region ?_
 refine k_assign rfl rfl ?_
 refine k_nil ?_
 refine k_seq ?_
 refine k_region ?_
 refine k_move rfl rfl ?_
 obtain ⟨x1, hx1, h⟩ := ob h
 refine k_call cal6 rfl (disk_New_w   hx1) rfl ?_
 rintro s1 vr1 st1 ⟨ku1_0, v1_0, rfl, hk1_0, h1_0⟩
 have szs1 := st1.size
 have hS := hS.trans0 st1
 replace hp1 := hp1.up2 st1
 have ol1_0 := OptODiskDisk.le (k := ku1_0) h1_0
 refine k_move rfl rfl ?_
 refine k_extract rfl rfl rfl ?_
 refine k_extract rfl rfl rfl ?_
 refine k_assign rfl rfl ?_
 refine k_assign rfl rfl ?_
 refine k_nil ?_
 refine k_keep [(0, _), (1, _), (4, _), (5, _), (6, _)] ⟨rfl, rfl, rfl, rfl, rfl, trivial⟩ ?_
 refine k_seq ?_
 refine k_seq ?_
 refine k_region ?_
 refine k_move rfl rfl ?_
 refine k_neq rfl rfl rfl ?_
 refine k_move rfl rfl ?_
 obtain ⟨x2, hx2, h⟩ := ob h
 have hE2 := Step.r0 K0 s1
 refine k_cutl (X := St) 3 [(0, .int .i64 a0), (1, v1), (4, .bool false), (5, v1_0), (6, .int .i64 x1.2), (21, .int .i64 x1.2), (22, .bool (decide (x1.2 ≠ 0)))] (fun _ => [(26, .bool x2)]) (fun sl wL => sl.w = wL ∧ Step K0 s1 sl) ?_ ?_
 ·
  refine k_again 23 rfl ?_
  refine k_split (fun c3 => ?_) (fun c3 => ?_)
  ·
   have hx2 := itT hx2 c3
   refine k_no rfl rfl rfl rfl ?_
   refine k_no rfl rfl rfl rfl ?_
   refine k_pickT rfl rfl rfl rfl ?_
   exact k_met ⟨s1, ⟨(congrArg (fun b => some (Value.bool b)) (Option.some.inj hx2)), trivial⟩, ⟨rfl, rfl, rfl, rfl, rfl, rfl, rfl, trivial⟩, rfl, hE2⟩
  ·
   have hx2 := itF hx2 c3
   refine k_yes rfl rfl ?_
   refine k_move rfl rfl ?_
   refine k_yes rfl rfl ?_
   obtain ⟨x3, hx3, hx2⟩ := ob hx2
   refine k_call cal7 rfl (law11_many_w  hp1 hx3) rfl ?_
   rintro s4 vr4 st4 rfl
   have szs4 := st4.size
   have hS := hS.trans0 st4
   have hE2 := hE2.trans0 st4
   replace h1_0 : OptODiskDisk s4 ku1_0 v1_0 x1.1 := OptODiskDisk.up3 h1_0 ol1_0 st4
   refine k_pickF rfl rfl rfl rfl ?_
   exact k_met ⟨s4, ⟨(congrArg (fun b => some (Value.bool b)) (Option.some.inj hx2)), trivial⟩, ⟨rfl, rfl, rfl, rfl, rfl, rfl, rfl, trivial⟩, rfl, hE2⟩
 ·
  rintro s5 wL ⟨rfl, hE2⟩
  have szs5 := hE2.size
  have hS := hS.trans0 hE2
  replace hp1 := hp1.up2 hE2
  replace h1_0 : OptODiskDisk s5 ku1_0 v1_0 x1.1 := OptODiskDisk.up3 h1_0 ol1_0 hE2
  refine k_nil ?_
  refine k_keep [(0, _), (1, _), (4, _), (5, _), (26, _)] ⟨rfl, rfl, rfl, rfl, rfl, trivial⟩ ?_
  refine k_cond rfl (fun c6 => ?_) (fun c6 => ?_)
  ·
   have h := ibT h c6
   refine k_seq ?_
   refine k_region ?_
   obtain ⟨x4, hx4, h⟩ := ob h
   refine k_call cal8 rfl (law11_awake_w   hx4) rfl ?_
   rintro s7 vr7 st7 rfl
   have szs7 := st7.size
   have hS := hS.trans0 st7
   replace h1_0 : OptODiskDisk s7 ku1_0 v1_0 x1.1 := OptODiskDisk.up3 h1_0 ol1_0 st7
   refine k_assign rfl rfl ?_
   refine k_nil ?_
   refine k_keep [(0, _), (1, _), (4, _), (5, _)] ⟨rfl, rfl, rfl, rfl, trivial⟩ ?_
   refine k_ret ?_
   obtain rfl := Option.some.inj h
   refine ⟨_, rfl, Ret.mk hS ?_⟩
   exact rfl
  ·
   have h := ibF h c6
   refine k_skip ?_
   refine k_seq ?_
   refine k_region ?_
   refine k_move rfl rfl ?_
   obtain ⟨x5, hx5, h⟩ := ob h
   replace ol1_0 := ol1_0.resolve_left (fun e => by rw [e] at hx5; cases hx5)
   rw [hx5] at h1_0
   replace h1_0 : ODiskDisk s5 ku1_0 v1_0 x5 := h1_0
   have le8 := h1_0.le
   have ne8 := h1_0.ne
   obtain ⟨pb9, rfl⟩ := h1_0.ptr
   obtain ⟨x6, hx6, h⟩ := ob h
   refine k_call cal9 rfl (logfile_Open_w  h1_0 hx6) rfl ?_
   rintro s10 vr10 st10 ⟨ku10_0, v10_0, rfl, hk10_0, h10_0, h1_0⟩
   have szs10 := st10.size
   have hS := hS.c0 st10
   replace hp1 := hp1.up2 st10
   have ol10_0 := OptOLogfileLog.le (k := ku10_0) h10_0
   refine k_move rfl rfl ?_
   refine k_extract rfl rfl rfl ?_
   refine k_extract rfl rfl rfl ?_
   refine k_assign rfl rfl ?_
   refine k_assign rfl rfl ?_
   refine k_nil ?_
   refine k_keep [(0, _), (1, _), (4, _), (5, _), (7, _), (8, _)] ⟨rfl, rfl, rfl, rfl, rfl, rfl, trivial⟩ ?_
   refine k_seq ?_
   refine k_seq ?_
   refine k_region ?_
   refine k_move rfl rfl ?_
   refine k_neq rfl rfl rfl ?_
   refine k_move rfl rfl ?_
   rcases oc_out h with ⟨ho_11, h⟩ | ⟨x7, ho_11, h⟩
   ·
    rw [ho_11] at h10_0
    obtain rfl : v10_0 = .pointer none := h10_0
    have hE12 := Step.r0 K0 s10
    refine k_cutl (X := St) 3 [(0, .int .i64 a0), (1, v1), (4, .bool false), (5, (.pointer (some ⟨pb9, 0, none⟩))), (7, .pointer none), (8, .int .i64 x6.2.1), (33, .int .i64 x6.2.1), (34, .bool (decide (x6.2.1 ≠ 0)))] (fun _ => [(38, .bool true)]) (fun sl wL => sl.w = wL ∧ Step K0 s10 sl) ?_ ?_
    ·
     refine k_again 35 rfl ?_
     refine k_split (fun c13 => ?_) (fun c13 => ?_)
     ·
      refine k_no rfl rfl rfl rfl ?_
      refine k_no rfl rfl rfl rfl ?_
      refine k_pickT rfl rfl rfl rfl ?_
      exact k_met ⟨s10, ⟨rfl, trivial⟩, ⟨rfl, rfl, rfl, rfl, rfl, rfl, rfl, rfl, trivial⟩, rfl, hE12⟩
     ·
      refine k_yes rfl rfl ?_
      refine k_move rfl rfl ?_
      refine k_yes rfl rfl ?_
      refine k_eql_pnil Tryd.underlying29 rfl rfl rfl ?_
      refine k_pickF rfl rfl rfl rfl ?_
      exact k_met ⟨s10, ⟨rfl, trivial⟩, ⟨rfl, rfl, rfl, rfl, rfl, rfl, rfl, rfl, trivial⟩, rfl, hE12⟩
    ·
     rintro s14 wL ⟨rfl, hE12⟩
     have szs14 := hE12.size
     have hS := hS.trans0 hE12
     refine k_nil ?_
     refine k_keep [(0, _), (1, _), (4, _), (5, _), (7, _), (38, _)] ⟨rfl, rfl, rfl, rfl, rfl, rfl, trivial⟩ ?_
     refine k_cond_true rfl ?_
     refine k_seq ?_
     refine k_region ?_
     refine k_assign rfl rfl ?_
     refine k_nil ?_
     refine k_keep [(0, _), (1, _), (4, _), (5, _), (7, _)] ⟨rfl, rfl, rfl, rfl, rfl, trivial⟩ ?_
     refine k_ret ?_
     obtain rfl := Option.some.inj h
     refine ⟨_, rfl, Ret.mk hS ?_⟩
     exact rfl
   ·
    rw [ho_11] at h10_0
    replace h10_0 : OLogfileLog (.pointer (some ⟨pb9, 0, none⟩)) s10 ku10_0 v10_0 x7 := h10_0
    replace ol10_0 := ol10_0.resolve_left (fun e => by rw [e] at ho_11; cases ho_11)
    have le11 := h10_0.le
    have ne11 := h10_0.ne
    have hE15 := Step.r0 K0 s10
    refine k_cutl (X := St) 3 [(0, .int .i64 a0), (1, v1), (4, .bool false), (5, (.pointer (some ⟨pb9, 0, none⟩))), (7, v10_0), (8, .int .i64 x6.2.1), (33, .int .i64 x6.2.1), (34, .bool (decide (x6.2.1 ≠ 0)))] (fun _ => [(38, .bool (decide ((x6.2.1 ≠ 0) ∨ False)))]) (fun sl wL => sl.w = wL ∧ Step K0 s10 sl) ?_ ?_
    ·
     refine k_again 35 rfl ?_
     refine k_split (fun c16 => ?_) (fun c16 => ?_)
     ·
      refine k_no rfl rfl rfl rfl ?_
      refine k_no rfl rfl rfl rfl ?_
      refine k_pickT rfl rfl rfl rfl ?_
      exact k_met ⟨s10, ⟨(congrArg (fun b => some (Value.bool b)) (by first | exact decide_eq_decide.2 ⟨Or.inr, fun h => h.resolve_left c16⟩ | exact (decide_eq_true (Or.inl c16)).symm | (simp [c16]; done) | exact dec_andT c16 | exact dec_andF c16 | exact dec_orF c16 | exact dec_orT c16 | (simp [c16, i64] <;> omega))), trivial⟩, ⟨rfl, rfl, rfl, rfl, rfl, rfl, rfl, rfl, trivial⟩, rfl, hE15⟩
     ·
      refine k_yes rfl rfl ?_
      refine k_move rfl rfl ?_
      refine k_yes rfl rfl ?_
      obtain ⟨pb17, rfl⟩ := h10_0.ptr
      refine k_eql_pnil Tryd.underlying29 rfl rfl rfl ?_
      refine k_pickF rfl rfl rfl rfl ?_
      exact k_met ⟨s10, ⟨(congrArg (fun b => some (Value.bool b)) (by first | exact decide_eq_decide.2 ⟨Or.inr, fun h => h.resolve_left c16⟩ | exact (decide_eq_true (Or.inl c16)).symm | (simp [c16]; done) | exact dec_andT c16 | exact dec_andF c16 | exact dec_orF c16 | exact dec_orT c16 | (simp [c16, i64] <;> omega))), trivial⟩, ⟨rfl, rfl, rfl, rfl, rfl, rfl, rfl, rfl, trivial⟩, rfl, hE15⟩
    ·
     rintro s18 wL ⟨rfl, hE15⟩
     have szs18 := hE15.size
     have hS := hS.trans0 hE15
     replace hp1 := hp1.up2 hE15
     replace h1_0 := h1_0.up2 hE15
     replace h10_0 := h10_0.up2 hE15
     refine k_nil ?_
     refine k_keep [(0, _), (1, _), (4, _), (5, _), (7, _), (38, _)] ⟨rfl, rfl, rfl, rfl, rfl, rfl, trivial⟩ ?_
     refine k_cond_dec rfl (fun c19 => ?_) (fun c19 => ?_)
     ·
      have h := itT h c19
      refine k_seq ?_
      refine k_region ?_
      refine k_assign rfl rfl ?_
      refine k_nil ?_
      refine k_keep [(0, _), (1, _), (4, _), (5, _), (7, _)] ⟨rfl, rfl, rfl, rfl, rfl, trivial⟩ ?_
      refine k_ret ?_
      obtain rfl := Option.some.inj h
      refine ⟨_, rfl, Ret.mk hS ?_⟩
      exact rfl
     ·
      have h := itF h c19
      refine k_skip ?_
      refine k_seq ?_
      refine k_keep [(0, _), (1, _), (4, _), (5, _), (7, _)] ⟨rfl, rfl, rfl, rfl, rfl, trivial⟩ ?_
      obtain ⟨kj8, hK20, h⟩ := jn_out h
      have hE20 := Step.r0 (KU (KO ku10_0) (KO ku1_0)) s18
      refine k_cutc (X := St × DiskDisk × LogfileLog) [(4, .bool false)] (fun (xL : St × DiskDisk × LogfileLog) => match xL with | (sl, x9, x10) => []) (fun (xL : St × DiskDisk × LogfileLog) (wL : World) => match xL with | (sl, x9, x10) => sl.w = wL ∧ Step (KU (KO ku10_0) (KO ku1_0)) s18 sl ∧ (ODiskDisk sl ku1_0 (.pointer (some ⟨pb9, 0, none⟩)) x9) ∧ (OLogfileLog (.pointer (some ⟨pb9, 0, none⟩)) sl ku10_0 v10_0 x10) ∧ kj8 x9 x10 = some r) ?_ ?_
      ·
       refine k_seq ?_
       refine k_region ?_
       refine k_assign rfl rfl ?_
       refine k_nil ?_
       refine k_block ?_
       refine k_loopc (X := St × Int × DiskDisk × LogfileLog × Nat) [(0, _), (1, _), (4, _), (5, _), (7, _)] (fun (xL : St × Int × DiskDisk × LogfileLog × Nat) => match xL with | (sl, x11, x12, x13, j) => [(9, .int .i64 x11)]) (fun (xL : St × Int × DiskDisk × LogfileLog × Nat) (wL : World) => match xL with | (sl, x11, x12, x13, j) => sl.w = wL ∧ Step (KU (KO ku10_0) (KO ku1_0)) s18 sl ∧ (ODiskDisk sl ku1_0 (.pointer (some ⟨pb9, 0, none⟩)) x12) ∧ (OLogfileLog (.pointer (some ⟨pb9, 0, none⟩)) sl ku10_0 v10_0 x13) ∧ law11_LogfileFull_l1 a1 a0 kj8 j x11 x12 x13 = some r) (fun (xL : St × Int × DiskDisk × LogfileLog × Nat) => match xL with | (sl, x11, x12, x13, j) => j) (s18, 0, x6.2.2, x7, FU) ⟨rfl, rfl, rfl, rfl, rfl, trivial⟩ ⟨(by first | rfl | (simp <;> rfl)), trivial⟩ ⟨rfl, (Step.refl _).of0 (by first | exact fun _ h => h | (intro c h; simp [KC, KO, KU, KN, KB] at h <;> omega)), h1_0, h10_0, h⟩ ?_
       rintro ⟨s22, x11, x12, x13, j⟩ wL ⟨rfl, hE21, h1_0, h10_0, h⟩
       cases j with
       | zero => rw [law11_LogfileFull_l1] at h; exact (noneNe h).elim
       | succ j =>
       rw [law11_LogfileFull_l1] at h
       have szs22 := hE21.size
       have hS := hS.c0 hE21
       have hE20 := hE20.c0 hE21
       replace hp1 := hp1.up2 hE21
       refine k_seq ?_
       refine k_seq ?_
       refine k_region ?_
       refine k_move rfl rfl ?_
       refine k_move rfl rfl ?_
       refine k_len Tryd.underlying22 rfl hp1.hasLen rfl ?_
       refine k_as (v := .int .i64 (a1.length : Int)) (by simp only [List.length_map]) ?_
       refine k_lss rfl rfl rfl ?_
       refine k_nil ?_
       refine k_keep [(0, _), (1, _), (4, _), (5, _), (7, _), (9, _), (42, _)] ⟨rfl, rfl, rfl, rfl, rfl, rfl, rfl, trivial⟩ ?_
       refine k_cond_dec rfl (fun c23 => ?_) (fun c23 => ?_)
       ·
        have h := itT h c23
        refine k_skip ?_
        refine k_seq ?_
        refine k_block ?_
        refine k_seq ?_
        refine k_region ?_
        refine k_move rfl rfl ?_
        obtain ⟨pb24, rfl⟩ := h10_0.ptr
        obtain ⟨x14, hx14, h⟩ := ob h
        refine k_call cal18 rfl (logfile_Log_Size_r1_w  h10_0 h1_0 hx14) rfl ?_
        rintro s25 vr25 st25 rfl
        have szs25 := st25.size
        have hS := hS.trans0 st25
        have hE20 := hE20.trans0 st25
        have hE21 := hE21.trans0 st25
        replace hp1 := hp1.up2 st25
        replace h1_0 := h1_0.up2 st25
        replace h10_0 := h10_0.up2 st25
        refine k_move rfl rfl ?_
        obtain ⟨x15, hx15, h⟩ := ob h
        refine k_call cal20 rfl (logfile_Log_Count_r1_w  h10_0 h1_0 hx15) rfl ?_
        rintro s26 vr26 st26 rfl
        have szs26 := st26.size
        have hS := hS.trans0 st26
        have hE20 := hE20.trans0 st26
        have hE21 := hE21.trans0 st26
        replace hp1 := hp1.up2 st26
        replace h1_0 := h1_0.up2 st26
        replace h10_0 := h10_0.up2 st26
        refine k_move rfl rfl ?_
        obtain ⟨x16, hx16, h⟩ := ob h
        refine k_call cal22 rfl (disk_Disk_Bytes_w  h1_0 hx16) rfl ?_
        rintro s27 vr27 st27 rfl
        have szs27 := st27.size
        have hS := hS.trans0 st27
        have hE20 := hE20.trans0 st27
        have hE21 := hE21.trans0 st27
        replace hp1 := hp1.up2 st27
        replace h1_0 := h1_0.up2 st27
        replace h10_0 := h10_0.up2 st27
        refine k_move rfl rfl ?_
        obtain ⟨x17, hx17, h⟩ := ob h
        refine k_call cal23 rfl (disk_Disk_Waits_w  h1_0 hx17) rfl ?_
        rintro s28 vr28 st28 rfl
        have szs28 := st28.size
        have hS := hS.trans0 st28
        have hE20 := hE20.trans0 st28
        have hE21 := hE21.trans0 st28
        replace hp1 := hp1.up2 st28
        replace h1_0 := h1_0.up2 st28
        replace h10_0 := h10_0.up2 st28
        refine k_assign rfl rfl ?_
        refine k_assign rfl rfl ?_
        refine k_assign rfl rfl ?_
        refine k_assign rfl rfl ?_
        refine k_nil ?_
        refine k_keep [(0, _), (1, _), (4, _), (5, _), (7, _), (9, _), (10, _), (11, _), (12, _), (13, _)] ⟨rfl, rfl, rfl, rfl, rfl, rfl, rfl, rfl, rfl, rfl, trivial⟩ ?_
        refine k_seq ?_
        refine k_region ?_
        refine k_move rfl rfl ?_
        refine k_move rfl rfl ?_
        refine k_move rfl rfl ?_
        obtain ⟨x18, hx18, h⟩ := ob h
        refine k_ixaddr Tryd.underlying22 size35 rfl rfl hp1 (geti_out hx18).1 (geti_map hx18) rfl ?_
        intro qx18 hqx18
        refine k_field_at (o := 0) rfl hqx18 (by rfl) fld35_4 rfl ?_
        intro q29 h29
        refine k_load_sl one33 rfl h29 rfl ?_
        intro v30 h30
        obtain ⟨x19, hx19, h⟩ := ob h
        refine k_call cal11 rfl (logfile_Log_Append_r2_w  h10_0 (show R s28 v30 (.sl 1 (x18.Bytes.map bD)) from h30) h1_0 (by first | assumption | omega | (dsimp only; omega) | (simp <;> omega)) hx19) rfl ?_
        rintro s31 vr31 st31 ⟨rfl, h10_0, h1_0⟩
        have szs31 := st31.size
        have hS := hS.c0 st31
        have hE20 := hE20.c0 st31
        have hE21 := hE21.c0 st31
        replace hp1 := hp1.up2 st31
        refine k_nil ?_
        refine k_keep [(0, _), (1, _), (4, _), (5, _), (7, _), (9, _), (10, _), (11, _), (12, _), (13, _), (59, _)] ⟨rfl, rfl, rfl, rfl, rfl, rfl, rfl, rfl, rfl, rfl, rfl, trivial⟩ ?_
        refine k_block ?_
        refine k_seq ?_
        refine k_region ?_
        refine k_eql rfl rfl rfl ?_
        refine k_assign rfl rfl ?_
        refine k_nil ?_
        refine k_keep [(0, _), (1, _), (4, _), (5, _), (7, _), (9, _), (10, _), (11, _), (12, _), (13, _), (59, _), (60, _)] ⟨rfl, rfl, rfl, rfl, rfl, rfl, rfl, rfl, rfl, rfl, rfl, rfl, trivial⟩ ?_
        refine k_cond_dec rfl (fun c32 => ?_) (fun c32 => ?_)
        ·
         have h := itT h c32
         refine k_seq ?_
         refine k_region ?_
         refine k_move rfl rfl ?_
         refine k_move rfl rfl ?_
         obtain ⟨x20, hx20, h⟩ := ob h
         refine k_call cal19 rfl (logfile_Log_At_r2_w  h10_0 h1_0 hx20) rfl ?_
         rintro s33 vr33 st33 ⟨v33_0, rfl, h33_0⟩
         have szs33 := st33.size
         have hS := hS.trans0 st33
         have hE20 := hE20.trans0 st33
         have hE21 := hE21.trans0 st33
         replace hp1 := hp1.up2 st33
         replace h1_0 := h1_0.up2 st33
         replace h10_0 := h10_0.up2 st33
         refine k_move rfl rfl ?_
         refine k_extract rfl rfl rfl ?_
         refine k_extract rfl rfl rfl ?_
         refine k_assign rfl rfl ?_
         refine k_assign rfl rfl ?_
         refine k_nil ?_
         refine k_keep [(0, _), (1, _), (4, _), (5, _), (7, _), (9, _), (10, _), (11, _), (12, _), (13, _), (14, _), (15, _)] ⟨rfl, rfl, rfl, rfl, rfl, rfl, rfl, rfl, rfl, rfl, rfl, rfl, trivial⟩ ?_
         refine k_seq ?_
         refine k_drawT (KN s33.n) 44 (.read 0 (.read 1 (.read 2 (.read 3 (.read 4 (.read 5 (.read 6 (.read 7 (.read 8 (.read 9 (.read 10 (.read 11 (.read 12 (.read 13 (.read 14 (.read 16 (.read 17 (.alt 15 (.read 18 (.read 19 (.read 20 (.read 21 (.read 23 (.read 25 (.read 27 (.alt 22 (.read 24 (.alt 26 (.read 28 (.read 29 (.read 30 (.read 31 (.read 32 (.read 34 (.read 35 (.alt 33 (.read 36 (.read 37 (.read 38 (.read 39 (.read 41 (.alt 40 (.read 42 (.read 43 .fin)) .no)))))) .no)))))))) .no)) .no)))))))) .no)))))))))))))))))) mixed (by intro c h; (try simp only [KC, KO, KU, KN, KB] at h) <;> omega) rfl rfl rfl ?_
         intro s34 st34
         have szs34 := st34.size
         have hS := hS.trans0 st34
         have hE20 := hE20.trans0 st34
         have hE21 := hE21.trans0 st34
         replace hp1 := hp1.up2 st34
         replace h33_0 := h33_0.up2 st34
         replace h1_0 := h1_0.up2 st34
         replace h10_0 := h10_0.up2 st34
         refine rt_read (.bool x20.2) rfl rfl (fun s35 st35 => ?_) ?_
         ·refine k_move rfl rfl ?_
          exact fq_end
         refine rt_read (.bool (!x20.2)) rfl rfl (fun s36 st36 => ?_) ?_
         ·refine k_not rfl rfl ?_
          exact fq_end
         refine rt_read (.bool (!x20.2)) rfl rfl (fun s37 st37 => ?_) ?_
         ·refine k_move rfl rfl ?_
          exact fq_end
         refine rt_splitb (fun c38 => ?_) (fun c38 => ?_)
         ·
          have h := ibT h c38
          refine rt_read undef rfl rfl (fun s39 st39 => ?_) ?_
          ·refine k_no rfl rfl rfl rfl ?_
           exact fq_end
          refine rt_read undef rfl rfl (fun s40 st40 => ?_) ?_
          ·refine k_no rfl rfl rfl rfl ?_
           exact fq_end
          refine rt_read undef rfl rfl (fun s41 st41 => ?_) ?_
          ·refine k_no rfl rfl rfl rfl ?_
           exact fq_end
          refine rt_read undef rfl rfl (fun s42 st42 => ?_) ?_
          ·refine k_no rfl rfl rfl rfl ?_
           exact fq_end
          refine rt_read undef rfl rfl (fun s43 st43 => ?_) ?_
          ·refine k_no rfl rfl rfl rfl ?_
           exact fq_end
          refine rt_read undef rfl rfl (fun s44 st44 => ?_) ?_
          ·refine k_no rfl rfl rfl rfl ?_
           exact fq_end
          refine rt_read undef rfl rfl (fun s45 st45 => ?_) ?_
          ·refine k_no rfl rfl rfl rfl ?_
           exact fq_end
          refine rt_read undef rfl rfl (fun s46 st46 => ?_) ?_
          ·refine k_no rfl rfl rfl rfl ?_
           exact fq_end
          refine rt_read undef rfl rfl (fun s47 st47 => ?_) ?_
          ·refine k_no rfl rfl rfl rfl ?_
           exact fq_end
          refine rt_read (.bool true) rfl rfl (fun s48 st48 => ?_) ?_
          ·refine k_pickT rfl rfl rfl rfl ?_
           exact fq_end
          refine rt_read (.bool true) rfl rfl (fun s49 st49 => ?_) ?_
          ·refine k_move rfl rfl ?_
           exact fq_end
          refine rt_read undef rfl rfl (fun s50 st50 => ?_) ?_
          ·refine k_no rfl rfl rfl rfl ?_
           exact fq_end
          refine rt_read undef rfl rfl (fun s51 st51 => ?_) ?_
          ·refine k_no rfl rfl rfl rfl ?_
           exact fq_end
          refine rt_read undef rfl rfl (fun s52 st52 => ?_) ?_
          ·refine k_no rfl rfl rfl rfl ?_
           exact fq_end
          refine rt_act rfl rfl ?_
          refine k_no rfl rfl rfl rfl ?_
          refine rt_cont ((Step.refl _).of0 (by first | exact fun _ h => h | (intro c h; simp [KC, KO, KU, KN, KB] at h <;> omega))) ?_
          refine rt_read undef rfl rfl (fun s53 st53 => ?_) ?_
          ·refine k_no rfl rfl rfl rfl ?_
           exact fq_end
          refine rt_read (.bool true) rfl rfl (fun s54 st54 => ?_) ?_
          ·refine k_pickT rfl rfl rfl rfl ?_
           exact fq_end
          refine rt_read (.bool true) rfl rfl (fun s55 st55 => ?_) ?_
          ·refine k_move rfl rfl ?_
           exact fq_end
          refine rt_read undef rfl rfl (fun s56 st56 => ?_) ?_
          ·refine k_no rfl rfl rfl rfl ?_
           exact fq_end
          refine rt_read undef rfl rfl (fun s57 st57 => ?_) ?_
          ·refine k_no rfl rfl rfl rfl ?_
           exact fq_end
          refine rt_read undef rfl rfl (fun s58 st58 => ?_) ?_
          ·refine k_no rfl rfl rfl rfl ?_
           exact fq_end
          refine rt_read undef rfl rfl (fun s59 st59 => ?_) ?_
          ·refine k_no rfl rfl rfl rfl ?_
           exact fq_end
          refine rt_act rfl rfl ?_
          refine k_no rfl rfl rfl rfl ?_
          refine rt_cont ((Step.refl _).of0 (by first | exact fun _ h => h | (intro c h; simp [KC, KO, KU, KN, KB] at h <;> omega))) ?_
          refine rt_read undef rfl rfl (fun s60 st60 => ?_) ?_
          ·refine k_no rfl rfl rfl rfl ?_
           exact fq_end
          refine rt_act rfl rfl ?_
          refine k_no rfl rfl rfl rfl ?_
          refine rt_cont ((Step.refl _).of0 (by first | exact fun _ h => h | (intro c h; simp [KC, KO, KU, KN, KB] at h <;> omega))) ?_
          refine rt_read undef rfl rfl (fun s61 st61 => ?_) ?_
          ·refine k_no rfl rfl rfl rfl ?_
           exact fq_end
          refine rt_read undef rfl rfl (fun s62 st62 => ?_) ?_
          ·refine k_no rfl rfl rfl rfl ?_
           exact fq_end
          refine rt_read (.bool true) rfl rfl (fun s63 st63 => ?_) ?_
          ·refine k_pickT rfl rfl rfl rfl ?_
           exact fq_end
          refine rt_read (.bool true) rfl rfl (fun s64 st64 => ?_) ?_
          ·refine k_move rfl rfl ?_
           exact fq_end
          refine rt_read undef rfl rfl (fun s65 st65 => ?_) ?_
          ·refine k_no rfl rfl rfl rfl ?_
           exact fq_end
          refine rt_read undef rfl rfl (fun s66 st66 => ?_) ?_
          ·refine k_no rfl rfl rfl rfl ?_
           exact fq_end
          refine rt_read undef rfl rfl (fun s67 st67 => ?_) ?_
          ·refine k_no rfl rfl rfl rfl ?_
           exact fq_end
          refine rt_act rfl rfl ?_
          refine k_no rfl rfl rfl rfl ?_
          refine rt_cont ((Step.refl _).of0 (by first | exact fun _ h => h | (intro c h; simp [KC, KO, KU, KN, KB] at h <;> omega))) ?_
          refine rt_read undef rfl rfl (fun s68 st68 => ?_) ?_
          ·refine k_no rfl rfl rfl rfl ?_
           exact fq_end
          refine rt_read (.bool true) rfl rfl (fun s69 st69 => ?_) ?_
          ·refine k_pickT rfl rfl rfl rfl ?_
           exact fq_end
          refine rt_read (.bool true) rfl rfl (fun s70 st70 => ?_) ?_
          ·refine k_move rfl rfl ?_
           exact fq_end
          refine rt_read undef rfl rfl (fun s71 st71 => ?_) ?_
          ·refine k_no rfl rfl rfl rfl ?_
           exact fq_end
          refine rt_read undef rfl rfl (fun s72 st72 => ?_) ?_
          ·refine k_no rfl rfl rfl rfl ?_
           exact fq_end
          refine rt_act rfl rfl ?_
          refine k_no rfl rfl rfl rfl ?_
          refine rt_cont ((Step.refl _).of0 (by first | exact fun _ h => h | (intro c h; simp [KC, KO, KU, KN, KB] at h <;> omega))) ?_
          refine rt_read undef rfl rfl (fun s73 st73 => ?_) ?_
          ·refine k_no rfl rfl rfl rfl ?_
           exact fq_end
          refine rt_read (.bool true) rfl rfl (fun s74 st74 => ?_) ?_
          ·refine k_pickT rfl rfl rfl rfl ?_
           exact fq_end
          refine rt_fin ?_
          refine k_nil ?_
          refine k_keep [(0, _), (1, _), (4, _), (5, _), (7, _), (9, _), (111, _)] ⟨rfl, rfl, rfl, rfl, rfl, rfl, rfl, trivial⟩ ?_
          refine k_cond_true rfl ?_
          refine k_seq ?_
          refine k_region ?_
          refine k_assign rfl rfl ?_
          refine k_nil ?_
          refine k_keep [(0, _), (1, _), (4, _), (5, _), (7, _), (9, _)] ⟨rfl, rfl, rfl, rfl, rfl, rfl, trivial⟩ ?_
          refine k_ret ?_
          obtain rfl := Option.some.inj h
          refine ⟨_, rfl, Ret.mk hS ?_⟩
          exact rfl
         ·
          have h := ibF h c38
          refine rt_read (v33_0) rfl rfl (fun s75 st75 => ?_) ?_
          ·refine k_yes rfl rfl ?_
           refine k_move rfl rfl ?_
           exact fq_end
          refine rt_read (S x20.1) rfl rfl (fun s76 st76 => ?_) ?_
          ·try replace h33_0 := h33_0.up2 st76
           refine k_yes rfl rfl ?_
           refine k_bts (m := x20.1) Tryd.underlying33 Tryd.underlying5 Tryd.underlying9 rfl (SL.of_R h33_0) rfl ?_
           exact fq_end
          refine rt_read (v1) rfl rfl (fun s77 st77 => ?_) ?_
          ·refine k_yes rfl rfl ?_
           refine k_move rfl rfl ?_
           exact fq_end
          refine rt_read (.int .i64 x11) rfl rfl (fun s78 st78 => ?_) ?_
          ·refine k_yes rfl rfl ?_
           refine k_move rfl rfl ?_
           exact fq_end
          obtain ⟨x21, hx21, h⟩ := ob h
          refine rt_ix rfl (wanted_yes rfl rfl rfl) Tryd.underlying22 size35 rfl rfl hp1 (geti_out hx21).1 (geti_map hx21) rfl ?_
          intro q79 hq79
          refine rt_fa rfl (wanted_yes rfl rfl rfl) rfl hq79 (by rfl) fld35_4 rfl ?_
          intro q80 h80
          refine rt_ldsl rfl (wanted_yes rfl rfl rfl) one33 rfl h80 (by first | exact id | (simp only [KC, KO, KU, KN, KB] <;> omega)) rfl ?_
          intro v81 h81
          refine rt_read (S x21.Bytes) rfl rfl (fun s82 st82 => ?_) ?_
          ·try replace h81 := h81.up2 st82
           refine k_yes rfl rfl ?_
           refine k_bts (m := x21.Bytes) Tryd.underlying33 Tryd.underlying5 Tryd.underlying9 rfl (SL.of_R h81) rfl ?_
           exact fq_end
          refine rt_read (.bool (decide (x20.1 ≠ x21.Bytes))) rfl rfl (fun s83 st83 => ?_) ?_
          ·refine k_yes rfl rfl ?_
           refine k_neq_str rfl rfl rfl ?_
           exact fq_end
          refine rt_read (.bool (decide (x20.1 ≠ x21.Bytes))) rfl rfl (fun s84 st84 => ?_) ?_
          ·refine k_pickF rfl rfl rfl rfl ?_
           exact fq_end
          refine rt_read (.bool (decide (x20.1 ≠ x21.Bytes))) rfl rfl (fun s85 st85 => ?_) ?_
          ·refine k_move rfl rfl ?_
           exact fq_end
          refine rt_split (fun c86 => ?_) (fun c86 => ?_)
          ·
           have h := itT h c86
           refine rt_read undef rfl rfl (fun s87 st87 => ?_) ?_
           ·refine k_no rfl rfl rfl rfl ?_
            exact fq_end
           refine rt_read undef rfl rfl (fun s88 st88 => ?_) ?_
           ·refine k_no rfl rfl rfl rfl ?_
            exact fq_end
           refine rt_read undef rfl rfl (fun s89 st89 => ?_) ?_
           ·refine k_no rfl rfl rfl rfl ?_
            exact fq_end
           refine rt_act rfl rfl ?_
           refine k_no rfl rfl rfl rfl ?_
           refine rt_cont ((Step.refl _).of0 (by first | exact fun _ h => h | (intro c h; simp [KC, KO, KU, KN, KB] at h <;> omega))) ?_
           refine rt_read undef rfl rfl (fun s90 st90 => ?_) ?_
           ·refine k_no rfl rfl rfl rfl ?_
            exact fq_end
           refine rt_read (.bool true) rfl rfl (fun s91 st91 => ?_) ?_
           ·refine k_pickT rfl rfl rfl rfl ?_
            exact fq_end
           refine rt_read (.bool true) rfl rfl (fun s92 st92 => ?_) ?_
           ·refine k_move rfl rfl ?_
            exact fq_end
           refine rt_read undef rfl rfl (fun s93 st93 => ?_) ?_
           ·refine k_no rfl rfl rfl rfl ?_
            exact fq_end
           refine rt_read undef rfl rfl (fun s94 st94 => ?_) ?_
           ·refine k_no rfl rfl rfl rfl ?_
            exact fq_end
           refine rt_read undef rfl rfl (fun s95 st95 => ?_) ?_
           ·refine k_no rfl rfl rfl rfl ?_
            exact fq_end
           refine rt_read undef rfl rfl (fun s96 st96 => ?_) ?_
           ·refine k_no rfl rfl rfl rfl ?_
            exact fq_end
           refine rt_act rfl rfl ?_
           refine k_no rfl rfl rfl rfl ?_
           refine rt_cont ((Step.refl _).of0 (by first | exact fun _ h => h | (intro c h; simp [KC, KO, KU, KN, KB] at h <;> omega))) ?_
           refine rt_read undef rfl rfl (fun s97 st97 => ?_) ?_
           ·refine k_no rfl rfl rfl rfl ?_
            exact fq_end
           refine rt_act rfl rfl ?_
           refine k_no rfl rfl rfl rfl ?_
           refine rt_cont ((Step.refl _).of0 (by first | exact fun _ h => h | (intro c h; simp [KC, KO, KU, KN, KB] at h <;> omega))) ?_
           refine rt_read undef rfl rfl (fun s98 st98 => ?_) ?_
           ·refine k_no rfl rfl rfl rfl ?_
            exact fq_end
           refine rt_read undef rfl rfl (fun s99 st99 => ?_) ?_
           ·refine k_no rfl rfl rfl rfl ?_
            exact fq_end
           refine rt_read (.bool true) rfl rfl (fun s100 st100 => ?_) ?_
           ·refine k_pickT rfl rfl rfl rfl ?_
            exact fq_end
           refine rt_read (.bool true) rfl rfl (fun s101 st101 => ?_) ?_
           ·refine k_move rfl rfl ?_
            exact fq_end
           refine rt_read undef rfl rfl (fun s102 st102 => ?_) ?_
           ·refine k_no rfl rfl rfl rfl ?_
            exact fq_end
           refine rt_read undef rfl rfl (fun s103 st103 => ?_) ?_
           ·refine k_no rfl rfl rfl rfl ?_
            exact fq_end
           refine rt_read undef rfl rfl (fun s104 st104 => ?_) ?_
           ·refine k_no rfl rfl rfl rfl ?_
            exact fq_end
           refine rt_act rfl rfl ?_
           refine k_no rfl rfl rfl rfl ?_
           refine rt_cont ((Step.refl _).of0 (by first | exact fun _ h => h | (intro c h; simp [KC, KO, KU, KN, KB] at h <;> omega))) ?_
           refine rt_read undef rfl rfl (fun s105 st105 => ?_) ?_
           ·refine k_no rfl rfl rfl rfl ?_
            exact fq_end
           refine rt_read (.bool true) rfl rfl (fun s106 st106 => ?_) ?_
           ·refine k_pickT rfl rfl rfl rfl ?_
            exact fq_end
           refine rt_read (.bool true) rfl rfl (fun s107 st107 => ?_) ?_
           ·refine k_move rfl rfl ?_
            exact fq_end
           refine rt_read undef rfl rfl (fun s108 st108 => ?_) ?_
           ·refine k_no rfl rfl rfl rfl ?_
            exact fq_end
           refine rt_read undef rfl rfl (fun s109 st109 => ?_) ?_
           ·refine k_no rfl rfl rfl rfl ?_
            exact fq_end
           refine rt_act rfl rfl ?_
           refine k_no rfl rfl rfl rfl ?_
           refine rt_cont ((Step.refl _).of0 (by first | exact fun _ h => h | (intro c h; simp [KC, KO, KU, KN, KB] at h <;> omega))) ?_
           refine rt_read undef rfl rfl (fun s110 st110 => ?_) ?_
           ·refine k_no rfl rfl rfl rfl ?_
            exact fq_end
           refine rt_read (.bool true) rfl rfl (fun s111 st111 => ?_) ?_
           ·refine k_pickT rfl rfl rfl rfl ?_
            exact fq_end
           refine rt_fin ?_
           refine k_nil ?_
           refine k_keep [(0, _), (1, _), (4, _), (5, _), (7, _), (9, _), (111, _)] ⟨rfl, rfl, rfl, rfl, rfl, rfl, rfl, trivial⟩ ?_
           refine k_cond_true rfl ?_
           refine k_seq ?_
           refine k_region ?_
           refine k_assign rfl rfl ?_
           refine k_nil ?_
           refine k_keep [(0, _), (1, _), (4, _), (5, _), (7, _), (9, _)] ⟨rfl, rfl, rfl, rfl, rfl, rfl, trivial⟩ ?_
           refine k_ret ?_
           obtain rfl := Option.some.inj h
           refine ⟨_, rfl, Ret.mk hS ?_⟩
           exact rfl
          ·
           have h := itF h c86
           refine rt_read ((.pointer (some ⟨pb24, 0, none⟩))) rfl rfl (fun s112 st112 => ?_) ?_
           ·refine k_yes rfl rfl ?_
            refine k_move rfl rfl ?_
            exact fq_end
           refine rt_read (.int .i64 x15) rfl rfl (fun s113 st113 => ?_) ?_
           ·refine k_yes rfl rfl ?_
            refine k_move rfl rfl ?_
            exact fq_end
           refine rt_read (.int .i64 (i64 (x15 + 1))) rfl rfl (fun s114 st114 => ?_) ?_
           ·refine k_yes rfl rfl ?_
            refine k_add rfl rfl rfl ?_
            exact fq_end
           refine rt_act rfl rfl ?_
           refine k_yes rfl rfl ?_
           have hA115 := Step.r0 (KN s33.n) s34
           obtain ⟨x22, hx22, h⟩ := ob h
           refine k_call cal20 rfl (logfile_Log_Count_r1_w  h10_0 h1_0 hx22) rfl ?_
           rintro s116 vr116 st116 rfl
           have szs116 := st116.size
           have hS := hS.trans0 st116
           have hE20 := hE20.trans0 st116
           have hE21 := hE21.trans0 st116
           have hA115 := hA115.trans0 st116
           replace h1_0 := h1_0.up2 st116
           replace h10_0 := h10_0.up2 st116
           refine rt_cont hA115 ?_
           refine rt_read (.bool (decide (x22 ≠ i64 (x15 + 1)))) rfl rfl (fun s117 st117 => ?_) ?_
           ·refine k_yes rfl rfl ?_
            refine k_neq rfl rfl rfl ?_
            exact fq_end
           refine rt_read (.bool (decide (x22 ≠ i64 (x15 + 1)))) rfl rfl (fun s118 st118 => ?_) ?_
           ·refine k_pickF rfl rfl rfl rfl ?_
            exact fq_end
           refine rt_read (.bool (decide (x22 ≠ i64 (x15 + 1)))) rfl rfl (fun s119 st119 => ?_) ?_
           ·refine k_move rfl rfl ?_
            exact fq_end
           refine rt_split (fun c120 => ?_) (fun c120 => ?_)
           ·
            have h := itT h c120
            refine rt_read undef rfl rfl (fun s121 st121 => ?_) ?_
            ·refine k_no rfl rfl rfl rfl ?_
             exact fq_end
            refine rt_read undef rfl rfl (fun s122 st122 => ?_) ?_
            ·refine k_no rfl rfl rfl rfl ?_
             exact fq_end
            refine rt_read undef rfl rfl (fun s123 st123 => ?_) ?_
            ·refine k_no rfl rfl rfl rfl ?_
             exact fq_end
            refine rt_read undef rfl rfl (fun s124 st124 => ?_) ?_
            ·refine k_no rfl rfl rfl rfl ?_
             exact fq_end
            refine rt_act rfl rfl ?_
            refine k_no rfl rfl rfl rfl ?_
            refine rt_cont ((Step.refl _).of0 (by first | exact fun _ h => h | (intro c h; simp [KC, KO, KU, KN, KB] at h <;> omega))) ?_
            refine rt_read undef rfl rfl (fun s125 st125 => ?_) ?_
            ·refine k_no rfl rfl rfl rfl ?_
             exact fq_end
            refine rt_act rfl rfl ?_
            refine k_no rfl rfl rfl rfl ?_
            refine rt_cont ((Step.refl _).of0 (by first | exact fun _ h => h | (intro c h; simp [KC, KO, KU, KN, KB] at h <;> omega))) ?_
            refine rt_read undef rfl rfl (fun s126 st126 => ?_) ?_
            ·refine k_no rfl rfl rfl rfl ?_
             exact fq_end
            refine rt_read undef rfl rfl (fun s127 st127 => ?_) ?_
            ·refine k_no rfl rfl rfl rfl ?_
             exact fq_end
            refine rt_read (.bool true) rfl rfl (fun s128 st128 => ?_) ?_
            ·refine k_pickT rfl rfl rfl rfl ?_
             exact fq_end
            refine rt_read (.bool true) rfl rfl (fun s129 st129 => ?_) ?_
            ·refine k_move rfl rfl ?_
             exact fq_end
            refine rt_read undef rfl rfl (fun s130 st130 => ?_) ?_
            ·refine k_no rfl rfl rfl rfl ?_
             exact fq_end
            refine rt_read undef rfl rfl (fun s131 st131 => ?_) ?_
            ·refine k_no rfl rfl rfl rfl ?_
             exact fq_end
            refine rt_read undef rfl rfl (fun s132 st132 => ?_) ?_
            ·refine k_no rfl rfl rfl rfl ?_
             exact fq_end
            refine rt_act rfl rfl ?_
            refine k_no rfl rfl rfl rfl ?_
            refine rt_cont ((Step.refl _).of0 (by first | exact fun _ h => h | (intro c h; simp [KC, KO, KU, KN, KB] at h <;> omega))) ?_
            refine rt_read undef rfl rfl (fun s133 st133 => ?_) ?_
            ·refine k_no rfl rfl rfl rfl ?_
             exact fq_end
            refine rt_read (.bool true) rfl rfl (fun s134 st134 => ?_) ?_
            ·refine k_pickT rfl rfl rfl rfl ?_
             exact fq_end
            refine rt_read (.bool true) rfl rfl (fun s135 st135 => ?_) ?_
            ·refine k_move rfl rfl ?_
             exact fq_end
            refine rt_read undef rfl rfl (fun s136 st136 => ?_) ?_
            ·refine k_no rfl rfl rfl rfl ?_
             exact fq_end
            refine rt_read undef rfl rfl (fun s137 st137 => ?_) ?_
            ·refine k_no rfl rfl rfl rfl ?_
             exact fq_end
            refine rt_act rfl rfl ?_
            refine k_no rfl rfl rfl rfl ?_
            refine rt_cont ((Step.refl _).of0 (by first | exact fun _ h => h | (intro c h; simp [KC, KO, KU, KN, KB] at h <;> omega))) ?_
            refine rt_read undef rfl rfl (fun s138 st138 => ?_) ?_
            ·refine k_no rfl rfl rfl rfl ?_
             exact fq_end
            refine rt_read (.bool true) rfl rfl (fun s139 st139 => ?_) ?_
            ·refine k_pickT rfl rfl rfl rfl ?_
             exact fq_end
            refine rt_fin ?_
            refine k_nil ?_
            refine k_keep [(0, _), (1, _), (4, _), (5, _), (7, _), (9, _), (111, _)] ⟨rfl, rfl, rfl, rfl, rfl, rfl, rfl, trivial⟩ ?_
            refine k_cond_true rfl ?_
            refine k_seq ?_
            refine k_region ?_
            refine k_assign rfl rfl ?_
            refine k_nil ?_
            refine k_keep [(0, _), (1, _), (4, _), (5, _), (7, _), (9, _)] ⟨rfl, rfl, rfl, rfl, rfl, rfl, trivial⟩ ?_
            refine k_ret ?_
            obtain rfl := Option.some.inj h
            refine ⟨_, rfl, Ret.mk hS ?_⟩
            exact rfl
           ·
            have h := itF h c120
            refine rt_read ((.pointer (some ⟨pb9, 0, none⟩))) rfl rfl (fun s140 st140 => ?_) ?_
            ·refine k_yes rfl rfl ?_
             refine k_move rfl rfl ?_
             exact fq_end
            refine rt_read (.int .i64 x16) rfl rfl (fun s141 st141 => ?_) ?_
            ·refine k_yes rfl rfl ?_
             refine k_move rfl rfl ?_
             exact fq_end
            refine rt_read ((.pointer (some ⟨pb24, 0, none⟩))) rfl rfl (fun s142 st142 => ?_) ?_
            ·refine k_yes rfl rfl ?_
             refine k_move rfl rfl ?_
             exact fq_end
            refine rt_read (.int .i64 x14) rfl rfl (fun s143 st143 => ?_) ?_
            ·refine k_yes rfl rfl ?_
             refine k_move rfl rfl ?_
             exact fq_end
            refine rt_act rfl rfl ?_
            refine k_yes rfl rfl ?_
            have hA144 := Step.r0 (KN s33.n) s116
            obtain ⟨x23, hx23, h⟩ := ob h
            refine k_call cal22 rfl (disk_Disk_Bytes_w  h1_0 hx23) rfl ?_
            rintro s145 vr145 st145 rfl
            have szs145 := st145.size
            have hS := hS.trans0 st145
            have hE20 := hE20.trans0 st145
            have hE21 := hE21.trans0 st145
            have hA144 := hA144.trans0 st145
            replace h1_0 := h1_0.up2 st145
            replace h10_0 := h10_0.up2 st145
            refine rt_cont hA144 ?_
            refine rt_read (.int .i64 (i64 (x23 - x16))) rfl rfl (fun s146 st146 => ?_) ?_
            ·refine k_yes rfl rfl ?_
             refine k_sub_ rfl rfl rfl ?_
             exact fq_end
            refine rt_act rfl rfl ?_
            refine k_yes rfl rfl ?_
            have hA147 := Step.r0 (KN s33.n) s145
            obtain ⟨x24, hx24, h⟩ := ob h
            refine k_call cal18 rfl (logfile_Log_Size_r1_w  h10_0 h1_0 hx24) rfl ?_
            rintro s148 vr148 st148 rfl
            have szs148 := st148.size
            have hS := hS.trans0 st148
            have hE20 := hE20.trans0 st148
            have hE21 := hE21.trans0 st148
            have hA147 := hA147.trans0 st148
            replace h1_0 := h1_0.up2 st148
            replace h10_0 := h10_0.up2 st148
            refine rt_cont hA147 ?_
            refine rt_read (.int .i64 (i64 (x24 - x14))) rfl rfl (fun s149 st149 => ?_) ?_
            ·refine k_yes rfl rfl ?_
             refine k_sub_ rfl rfl rfl ?_
             exact fq_end
            refine rt_read (.bool (decide (i64 (x23 - x16) ≠ i64 (x24 - x14)))) rfl rfl (fun s150 st150 => ?_) ?_
            ·refine k_yes rfl rfl ?_
             refine k_neq rfl rfl rfl ?_
             exact fq_end
            refine rt_read (.bool (decide (i64 (x23 - x16) ≠ i64 (x24 - x14)))) rfl rfl (fun s151 st151 => ?_) ?_
            ·refine k_pickF rfl rfl rfl rfl ?_
             exact fq_end
            refine rt_read (.bool (decide (i64 (x23 - x16) ≠ i64 (x24 - x14)))) rfl rfl (fun s152 st152 => ?_) ?_
            ·refine k_move rfl rfl ?_
             exact fq_end
            refine rt_split (fun c153 => ?_) (fun c153 => ?_)
            ·
             have h := itT h c153
             refine rt_read undef rfl rfl (fun s154 st154 => ?_) ?_
             ·refine k_no rfl rfl rfl rfl ?_
              exact fq_end
             refine rt_read undef rfl rfl (fun s155 st155 => ?_) ?_
             ·refine k_no rfl rfl rfl rfl ?_
              exact fq_end
             refine rt_read undef rfl rfl (fun s156 st156 => ?_) ?_
             ·refine k_no rfl rfl rfl rfl ?_
              exact fq_end
             refine rt_act rfl rfl ?_
             refine k_no rfl rfl rfl rfl ?_
             refine rt_cont ((Step.refl _).of0 (by first | exact fun _ h => h | (intro c h; simp [KC, KO, KU, KN, KB] at h <;> omega))) ?_
             refine rt_read undef rfl rfl (fun s157 st157 => ?_) ?_
             ·refine k_no rfl rfl rfl rfl ?_
              exact fq_end
             refine rt_read (.bool true) rfl rfl (fun s158 st158 => ?_) ?_
             ·refine k_pickT rfl rfl rfl rfl ?_
              exact fq_end
             refine rt_read (.bool true) rfl rfl (fun s159 st159 => ?_) ?_
             ·refine k_move rfl rfl ?_
              exact fq_end
             refine rt_read undef rfl rfl (fun s160 st160 => ?_) ?_
             ·refine k_no rfl rfl rfl rfl ?_
              exact fq_end
             refine rt_read undef rfl rfl (fun s161 st161 => ?_) ?_
             ·refine k_no rfl rfl rfl rfl ?_
              exact fq_end
             refine rt_act rfl rfl ?_
             refine k_no rfl rfl rfl rfl ?_
             refine rt_cont ((Step.refl _).of0 (by first | exact fun _ h => h | (intro c h; simp [KC, KO, KU, KN, KB] at h <;> omega))) ?_
             refine rt_read undef rfl rfl (fun s162 st162 => ?_) ?_
             ·refine k_no rfl rfl rfl rfl ?_
              exact fq_end
             refine rt_read (.bool true) rfl rfl (fun s163 st163 => ?_) ?_
             ·refine k_pickT rfl rfl rfl rfl ?_
              exact fq_end
             refine rt_fin ?_
             refine k_nil ?_
             refine k_keep [(0, _), (1, _), (4, _), (5, _), (7, _), (9, _), (111, _)] ⟨rfl, rfl, rfl, rfl, rfl, rfl, rfl, trivial⟩ ?_
             refine k_cond_true rfl ?_
             refine k_seq ?_
             refine k_region ?_
             refine k_assign rfl rfl ?_
             refine k_nil ?_
             refine k_keep [(0, _), (1, _), (4, _), (5, _), (7, _), (9, _)] ⟨rfl, rfl, rfl, rfl, rfl, rfl, trivial⟩ ?_
             refine k_ret ?_
             obtain rfl := Option.some.inj h
             refine ⟨_, rfl, Ret.mk hS ?_⟩
             exact rfl
            ·
             have h := itF h c153
             refine rt_read ((.pointer (some ⟨pb9, 0, none⟩))) rfl rfl (fun s164 st164 => ?_) ?_
             ·refine k_yes rfl rfl ?_
              refine k_move rfl rfl ?_
              exact fq_end
             refine rt_read (.int .i64 x17) rfl rfl (fun s165 st165 => ?_) ?_
             ·refine k_yes rfl rfl ?_
              refine k_move rfl rfl ?_
              exact fq_end
             refine rt_read (.int .i64 (i64 (x17 + 1))) rfl rfl (fun s166 st166 => ?_) ?_
             ·refine k_yes rfl rfl ?_
              refine k_add rfl rfl rfl ?_
              exact fq_end
             refine rt_act rfl rfl ?_
             refine k_yes rfl rfl ?_
             have hA167 := Step.r0 (KN s33.n) s148
             obtain ⟨x25, hx25, h⟩ := ob h
             refine k_call cal23 rfl (disk_Disk_Waits_w  h1_0 hx25) rfl ?_
             rintro s168 vr168 st168 rfl
             have szs168 := st168.size
             have hS := hS.trans0 st168
             have hE20 := hE20.trans0 st168
             have hE21 := hE21.trans0 st168
             have hA167 := hA167.trans0 st168
             replace h1_0 := h1_0.up2 st168
             replace h10_0 := h10_0.up2 st168
             refine rt_cont hA167 ?_
             refine rt_read (.bool (decide (x25 ≠ i64 (x17 + 1)))) rfl rfl (fun s169 st169 => ?_) ?_
             ·refine k_yes rfl rfl ?_
              refine k_neq rfl rfl rfl ?_
              exact fq_end
             refine rt_read (.bool (decide (x25 ≠ i64 (x17 + 1)))) rfl rfl (fun s170 st170 => ?_) ?_
             ·refine k_pickF rfl rfl rfl rfl ?_
              exact fq_end
             refine rt_read (.bool (decide (x25 ≠ i64 (x17 + 1)))) rfl rfl (fun s171 st171 => ?_) ?_
             ·refine k_move rfl rfl ?_
              exact fq_end
             refine rt_split (fun c172 => ?_) (fun c172 => ?_)
             ·
              have h := itT h c172
              refine rt_read undef rfl rfl (fun s173 st173 => ?_) ?_
              ·refine k_no rfl rfl rfl rfl ?_
               exact fq_end
              refine rt_read undef rfl rfl (fun s174 st174 => ?_) ?_
              ·refine k_no rfl rfl rfl rfl ?_
               exact fq_end
              refine rt_act rfl rfl ?_
              refine k_no rfl rfl rfl rfl ?_
              refine rt_cont ((Step.refl _).of0 (by first | exact fun _ h => h | (intro c h; simp [KC, KO, KU, KN, KB] at h <;> omega))) ?_
              refine rt_read undef rfl rfl (fun s175 st175 => ?_) ?_
              ·refine k_no rfl rfl rfl rfl ?_
               exact fq_end
              refine rt_read (.bool true) rfl rfl (fun s176 st176 => ?_) ?_
              ·refine k_pickT rfl rfl rfl rfl ?_
               exact fq_end
              refine rt_fin ?_
              refine k_nil ?_
              refine k_keep [(0, _), (1, _), (4, _), (5, _), (7, _), (9, _), (111, _)] ⟨rfl, rfl, rfl, rfl, rfl, rfl, rfl, trivial⟩ ?_
              refine k_cond_true rfl ?_
              refine k_seq ?_
              refine k_region ?_
              refine k_assign rfl rfl ?_
              refine k_nil ?_
              refine k_keep [(0, _), (1, _), (4, _), (5, _), (7, _), (9, _)] ⟨rfl, rfl, rfl, rfl, rfl, rfl, trivial⟩ ?_
              refine k_ret ?_
              obtain rfl := Option.some.inj h
              refine ⟨_, rfl, Ret.mk hS ?_⟩
              exact rfl
             ·
              have h := itF h c172
              refine rt_read ((.pointer (some ⟨pb9, 0, none⟩))) rfl rfl (fun s177 st177 => ?_) ?_
              ·refine k_yes rfl rfl ?_
               refine k_move rfl rfl ?_
               exact fq_end
              refine rt_read (.int .i64 a0) rfl rfl (fun s178 st178 => ?_) ?_
              ·refine k_yes rfl rfl ?_
               refine k_move rfl rfl ?_
               exact fq_end
              refine rt_act rfl rfl ?_
              refine k_yes rfl rfl ?_
              have hA179 := Step.r0 (KN s33.n) s168
              obtain ⟨x26, hx26, h⟩ := ob h
              refine k_call cal22 rfl (disk_Disk_Bytes_w  h1_0 hx26) rfl ?_
              rintro s180 vr180 st180 rfl
              have szs180 := st180.size
              have hS := hS.trans0 st180
              have hE20 := hE20.trans0 st180
              have hE21 := hE21.trans0 st180
              have hA179 := hA179.trans0 st180
              replace h1_0 := h1_0.up2 st180
              replace h10_0 := h10_0.up2 st180
              refine rt_cont hA179 ?_
              refine rt_read (.bool (decide (a0 < x26))) rfl rfl (fun s181 st181 => ?_) ?_
              ·refine k_yes rfl rfl ?_
               refine k_gtr rfl rfl rfl ?_
               exact fq_end
              refine rt_read (.bool (decide (a0 < x26))) rfl rfl (fun s182 st182 => ?_) ?_
              ·refine k_pickF rfl rfl rfl rfl ?_
               exact fq_end
              refine rt_fin ?_
              refine k_nil ?_
              refine k_keep [(0, _), (1, _), (4, _), (5, _), (7, _), (9, _), (111, _)] ⟨rfl, rfl, rfl, rfl, rfl, rfl, rfl, trivial⟩ ?_
              refine k_cond_dec rfl (fun c183 => ?_) (fun c183 => ?_)
              ·
               have h := itT h c183
               refine k_seq ?_
               refine k_region ?_
               refine k_assign rfl rfl ?_
               refine k_nil ?_
               refine k_keep [(0, _), (1, _), (4, _), (5, _), (7, _), (9, _)] ⟨rfl, rfl, rfl, rfl, rfl, rfl, trivial⟩ ?_
               refine k_ret ?_
               obtain rfl := Option.some.inj h
               refine ⟨_, rfl, Ret.mk hS ?_⟩
               exact rfl
              ·
               have h := itF h c183
               refine k_skip ?_
               refine k_blk ?_
               refine k_blk ?_
               refine k_region ?_
               refine k_move rfl rfl ?_
               refine k_add rfl rfl rfl ?_
               refine k_assign rfl rfl ?_
               refine k_nil ?_
               exact k_stop ⟨(s180, i64 (x11 + 1), x19.2.2, x19.2.1, j), ⟨(by first | rfl | (simp <;> rfl)), trivial⟩, ⟨rfl, rfl, rfl, rfl, rfl, trivial⟩, ⟨rfl, hE21, h1_0, h10_0, h⟩, (by simp)⟩
        ·
         have h := itF h c32
         refine k_seq ?_
         refine k_keep [(0, _), (1, _), (4, _), (5, _), (7, _), (9, _), (10, _), (11, _), (12, _), (13, _), (59, _)] ⟨rfl, rfl, rfl, rfl, rfl, rfl, rfl, rfl, rfl, rfl, rfl, trivial⟩ ?_
         obtain ⟨kj27, hK184, h⟩ := jn_out h
         have hE184 := Step.r0 K0 s31
         refine k_cutc (X := St × Bool) [(0, .int .i64 a0), (1, v1), (4, .bool false), (5, (.pointer (some ⟨pb9, 0, none⟩))), (7, (.pointer (some ⟨pb24, 0, none⟩))), (9, .int .i64 x11), (10, .int .i64 x14), (11, .int .i64 x15), (12, .int .i64 x16), (13, .int .i64 x17)] (fun (xL : St × Bool) => match xL with | (sl, x28) => [(112, .bool x28)]) (fun (xL : St × Bool) (wL : World) => match xL with | (sl, x28) => sl.w = wL ∧ Step K0 s31 sl ∧ kj27 x28 = some r) ?_ ?_
         ·
          refine k_seq ?_
          refine k_region ?_
          refine k_eql rfl rfl rfl ?_
          refine k_assign rfl rfl ?_
          refine k_nil ?_
          refine k_keep [(0, _), (1, _), (4, _), (5, _), (7, _), (9, _), (10, _), (11, _), (12, _), (13, _), (59, _), (112, _)] ⟨rfl, rfl, rfl, rfl, rfl, rfl, rfl, rfl, rfl, rfl, rfl, rfl, trivial⟩ ?_
          refine k_cond_dec rfl (fun c185 => ?_) (fun c185 => ?_)
          ·
           have h := itT h c185
           refine k_skip ?_
           exact k_stop ⟨(s31, decide (x19.1 = 3)), ⟨(by first | rfl | (simp <;> rfl)), trivial⟩, ⟨rfl, rfl, rfl, rfl, rfl, rfl, rfl, rfl, rfl, rfl, trivial⟩, ⟨rfl, hE184, h⟩⟩
          ·
           have h := itF h c185
           refine k_region ?_
           refine k_eql rfl rfl rfl ?_
           refine k_assign rfl rfl ?_
           refine k_nil ?_
           exact k_stop ⟨(s31, decide (x19.1 = 6)), ⟨(by first | rfl | (simp <;> rfl)), trivial⟩, ⟨rfl, rfl, rfl, rfl, rfl, rfl, rfl, rfl, rfl, rfl, trivial⟩, ⟨rfl, hE184, h⟩⟩
         ·
          rintro ⟨s186, x28⟩ wL ⟨rfl, hE184, h⟩
          rw [hK184] at h
          have szs186 := hE184.size
          have hS := hS.trans0 hE184
          have hE20 := hE20.trans0 hE184
          have hE21 := hE21.trans0 hE184
          replace h1_0 := h1_0.up2 hE184
          replace h10_0 := h10_0.up2 hE184
          refine k_cond rfl (fun c187 => ?_) (fun c187 => ?_)
          ·
           have h := ibT h c187
           refine k_seq ?_
           refine k_region ?_
           refine k_move rfl rfl ?_
           obtain ⟨x29, hx29, h⟩ := ob h
           refine k_call cal18 rfl (logfile_Log_Size_r1_w  h10_0 h1_0 hx29) rfl ?_
           rintro s188 vr188 st188 rfl
           have szs188 := st188.size
           have hS := hS.trans0 st188
           have hE20 := hE20.trans0 st188
           have hE21 := hE21.trans0 st188
           replace h1_0 := h1_0.up2 st188
           replace h10_0 := h10_0.up2 st188
           refine k_move rfl rfl ?_
           refine k_neq rfl rfl rfl ?_
           refine k_move rfl rfl ?_
           obtain ⟨x30, hx30, h⟩ := ob h
           have hE189 := Step.r0 K0 s188
           refine k_cutl (X := St) 5 [(0, .int .i64 a0), (1, v1), (4, .bool false), (5, (.pointer (some ⟨pb9, 0, none⟩))), (7, (.pointer (some ⟨pb24, 0, none⟩))), (9, .int .i64 x11), (10, .int .i64 x14), (11, .int .i64 x15), (12, .int .i64 x16), (13, .int .i64 x17), (112, .bool x28), (115, (.pointer (some ⟨pb24, 0, none⟩))), (116, .int .i64 x29), (117, .int .i64 x14), (118, .bool (decide (x29 ≠ x14)))] (fun _ => [(124, .bool x30)]) (fun sl wL => sl.w = wL ∧ Step K0 s188 sl) ?_ ?_
           ·
            refine k_again 119 rfl ?_
            refine k_split (fun c190 => ?_) (fun c190 => ?_)
            ·
             have hx30 := itT hx30 c190
             refine k_no rfl rfl rfl rfl ?_
             refine k_no rfl rfl rfl rfl ?_
             refine k_no rfl rfl rfl rfl ?_
             refine k_no rfl rfl rfl rfl ?_
             refine k_pickT rfl rfl rfl rfl ?_
             exact k_met ⟨s188, ⟨(congrArg (fun b => some (Value.bool b)) (Option.some.inj hx30)), trivial⟩, ⟨rfl, rfl, rfl, rfl, rfl, rfl, rfl, rfl, rfl, rfl, rfl, rfl, rfl, rfl, rfl, trivial⟩, rfl, hE189⟩
            ·
             have hx30 := itF hx30 c190
             refine k_yes rfl rfl ?_
             refine k_move rfl rfl ?_
             refine k_yes rfl rfl ?_
             obtain ⟨x31, hx31, hx30⟩ := ob hx30
             refine k_call cal20 rfl (logfile_Log_Count_r1_w  h10_0 h1_0 hx31) rfl ?_
             rintro s191 vr191 st191 rfl
             have szs191 := st191.size
             have hS := hS.trans0 st191
             have hE20 := hE20.trans0 st191
             have hE21 := hE21.trans0 st191
             have hE189 := hE189.trans0 st191
             refine k_yes rfl rfl ?_
             refine k_move rfl rfl ?_
             refine k_yes rfl rfl ?_
             refine k_neq rfl rfl rfl ?_
             refine k_pickF rfl rfl rfl rfl ?_
             exact k_met ⟨s191, ⟨(congrArg (fun b => some (Value.bool b)) (Option.some.inj hx30)), trivial⟩, ⟨rfl, rfl, rfl, rfl, rfl, rfl, rfl, rfl, rfl, rfl, rfl, rfl, rfl, rfl, rfl, trivial⟩, rfl, hE189⟩
           ·
            rintro s192 wL ⟨rfl, hE189⟩
            have szs192 := hE189.size
            have hS := hS.trans0 hE189
            have hE20 := hE20.trans0 hE189
            have hE21 := hE21.trans0 hE189
            replace h1_0 := h1_0.up2 hE189
            replace h10_0 := h10_0.up2 hE189
            refine k_move rfl rfl ?_
            obtain ⟨x32, hx32, h⟩ := ob h
            have hE193 := Step.r0 K0 s192
            refine k_cutl (X := St) 5 [(0, .int .i64 a0), (1, v1), (4, .bool false), (5, (.pointer (some ⟨pb9, 0, none⟩))), (7, (.pointer (some ⟨pb24, 0, none⟩))), (9, .int .i64 x11), (10, .int .i64 x14), (11, .int .i64 x15), (12, .int .i64 x16), (13, .int .i64 x17), (112, .bool x28), (115, (.pointer (some ⟨pb24, 0, none⟩))), (116, .int .i64 x29), (117, .int .i64 x14), (118, .bool (decide (x29 ≠ x14))), (124, .bool x30)] (fun _ => [(130, .bool x32)]) (fun sl wL => sl.w = wL ∧ Step K0 s192 sl) ?_ ?_
            ·
             refine k_again 125 rfl ?_
             refine k_splitb (fun c194 => ?_) (fun c194 => ?_)
             ·
              have hx32 := ibT hx32 c194
              refine k_no rfl rfl rfl rfl ?_
              refine k_no rfl rfl rfl rfl ?_
              refine k_no rfl rfl rfl rfl ?_
              refine k_no rfl rfl rfl rfl ?_
              refine k_pickT rfl rfl rfl rfl ?_
              exact k_met ⟨s192, ⟨(congrArg (fun b => some (Value.bool b)) (Option.some.inj hx32)), trivial⟩, ⟨rfl, rfl, rfl, rfl, rfl, rfl, rfl, rfl, rfl, rfl, rfl, rfl, rfl, rfl, rfl, rfl, trivial⟩, rfl, hE193⟩
             ·
              have hx32 := ibF hx32 c194
              refine k_yes rfl rfl ?_
              refine k_move rfl rfl ?_
              refine k_yes rfl rfl ?_
              obtain ⟨x33, hx33, hx32⟩ := ob hx32
              refine k_call cal22 rfl (disk_Disk_Bytes_w  h1_0 hx33) rfl ?_
              rintro s195 vr195 st195 rfl
              have szs195 := st195.size
              have hS := hS.trans0 st195
              have hE20 := hE20.trans0 st195
              have hE21 := hE21.trans0 st195
              have hE193 := hE193.trans0 st195
              refine k_yes rfl rfl ?_
              refine k_move rfl rfl ?_
              refine k_yes rfl rfl ?_
              refine k_neq rfl rfl rfl ?_
              refine k_pickF rfl rfl rfl rfl ?_
              exact k_met ⟨s195, ⟨(congrArg (fun b => some (Value.bool b)) (Option.some.inj hx32)), trivial⟩, ⟨rfl, rfl, rfl, rfl, rfl, rfl, rfl, rfl, rfl, rfl, rfl, rfl, rfl, rfl, rfl, rfl, trivial⟩, rfl, hE193⟩
            ·
             rintro s196 wL ⟨rfl, hE193⟩
             have szs196 := hE193.size
             have hS := hS.trans0 hE193
             have hE20 := hE20.trans0 hE193
             have hE21 := hE21.trans0 hE193
             replace h1_0 := h1_0.up2 hE193
             replace h10_0 := h10_0.up2 hE193
             refine k_move rfl rfl ?_
             obtain ⟨x34, hx34, h⟩ := ob h
             have hE197 := Step.r0 K0 s196
             refine k_cutl (X := St) 5 [(0, .int .i64 a0), (1, v1), (4, .bool false), (5, (.pointer (some ⟨pb9, 0, none⟩))), (7, (.pointer (some ⟨pb24, 0, none⟩))), (9, .int .i64 x11), (10, .int .i64 x14), (11, .int .i64 x15), (12, .int .i64 x16), (13, .int .i64 x17), (112, .bool x28), (115, (.pointer (some ⟨pb24, 0, none⟩))), (116, .int .i64 x29), (117, .int .i64 x14), (118, .bool (decide (x29 ≠ x14))), (124, .bool x30), (130, .bool x32)] (fun _ => [(136, .bool x34)]) (fun sl wL => sl.w = wL ∧ Step K0 s196 sl) ?_ ?_
             ·
              refine k_again 131 rfl ?_
              refine k_splitb (fun c198 => ?_) (fun c198 => ?_)
              ·
               have hx34 := ibT hx34 c198
               refine k_no rfl rfl rfl rfl ?_
               refine k_no rfl rfl rfl rfl ?_
               refine k_no rfl rfl rfl rfl ?_
               refine k_no rfl rfl rfl rfl ?_
               refine k_pickT rfl rfl rfl rfl ?_
               exact k_met ⟨s196, ⟨(congrArg (fun b => some (Value.bool b)) (Option.some.inj hx34)), trivial⟩, ⟨rfl, rfl, rfl, rfl, rfl, rfl, rfl, rfl, rfl, rfl, rfl, rfl, rfl, rfl, rfl, rfl, rfl, trivial⟩, rfl, hE197⟩
              ·
               have hx34 := ibF hx34 c198
               refine k_yes rfl rfl ?_
               refine k_move rfl rfl ?_
               refine k_yes rfl rfl ?_
               obtain ⟨x35, hx35, hx34⟩ := ob hx34
               refine k_call cal23 rfl (disk_Disk_Waits_w  h1_0 hx35) rfl ?_
               rintro s199 vr199 st199 rfl
               have szs199 := st199.size
               have hS := hS.trans0 st199
               have hE20 := hE20.trans0 st199
               have hE21 := hE21.trans0 st199
               have hE197 := hE197.trans0 st199
               refine k_yes rfl rfl ?_
               refine k_move rfl rfl ?_
               refine k_yes rfl rfl ?_
               refine k_neq rfl rfl rfl ?_
               refine k_pickF rfl rfl rfl rfl ?_
               exact k_met ⟨s199, ⟨(congrArg (fun b => some (Value.bool b)) (Option.some.inj hx34)), trivial⟩, ⟨rfl, rfl, rfl, rfl, rfl, rfl, rfl, rfl, rfl, rfl, rfl, rfl, rfl, rfl, rfl, rfl, rfl, trivial⟩, rfl, hE197⟩
             ·
              rintro s200 wL ⟨rfl, hE197⟩
              have szs200 := hE197.size
              have hS := hS.trans0 hE197
              have hE20 := hE20.trans0 hE197
              have hE21 := hE21.trans0 hE197
              replace h1_0 := h1_0.up2 hE197
              replace h10_0 := h10_0.up2 hE197
              refine k_nil ?_
              refine k_keep [(0, _), (1, _), (4, _), (5, _), (7, _), (9, _), (136, _)] ⟨rfl, rfl, rfl, rfl, rfl, rfl, rfl, trivial⟩ ?_
              refine k_cond rfl (fun c201 => ?_) (fun c201 => ?_)
              ·
               have h := ibT h c201
               refine k_seq ?_
               refine k_region ?_
               refine k_assign rfl rfl ?_
               refine k_nil ?_
               refine k_keep [(0, _), (1, _), (4, _), (5, _), (7, _), (9, _)] ⟨rfl, rfl, rfl, rfl, rfl, rfl, trivial⟩ ?_
               refine k_ret ?_
               obtain rfl := Option.some.inj h
               refine ⟨_, rfl, Ret.mk hS ?_⟩
               exact rfl
              ·
               have h := ibF h c201
               refine k_skip ?_
               refine k_blk ?_
               refine k_blk ?_
               refine k_region ?_
               refine k_move rfl rfl ?_
               refine k_add rfl rfl rfl ?_
               refine k_assign rfl rfl ?_
               refine k_nil ?_
               exact k_stop ⟨(s200, i64 (x11 + 1), x19.2.2, x19.2.1, j), ⟨(by first | rfl | (simp <;> rfl)), trivial⟩, ⟨rfl, rfl, rfl, rfl, rfl, trivial⟩, ⟨rfl, hE21, h1_0, h10_0, h⟩, (by simp)⟩
          ·
           have h := ibF h c187
           refine k_seq ?_
           refine k_region ?_
           refine k_assign rfl rfl ?_
           refine k_nil ?_
           refine k_keep [(0, _), (1, _), (4, _), (5, _), (7, _), (9, _)] ⟨rfl, rfl, rfl, rfl, rfl, rfl, trivial⟩ ?_
           refine k_ret ?_
           obtain rfl := Option.some.inj h
           refine ⟨_, rfl, Ret.mk hS ?_⟩
           exact rfl
       ·
        have h := itF h c23
        refine k_exit rfl ?_
        exact k_stop ⟨(s22, x12, x13), trivial, ⟨rfl, trivial⟩, ⟨rfl, hE20, h1_0, h10_0, h⟩⟩
      ·
       rintro ⟨s202, x9, x10⟩ wL ⟨rfl, hE20, h1_0, h10_0, h⟩
       rw [hK20] at h
       have szs202 := hE20.size
       have hS := hS.c0 hE20
       refine k_seq ?_
       refine k_region ?_
       obtain ⟨x36, hx36, h⟩ := ob h
       refine k_call cal8 rfl (law11_awake_w   hx36) rfl ?_
       rintro s203 vr203 st203 rfl
       have szs203 := st203.size
       have hS := hS.trans0 st203
       refine k_assign rfl rfl ?_
       refine k_nil ?_
       refine k_keep [(4, _)] ⟨rfl, trivial⟩ ?_
       refine k_ret ?_
       obtain rfl := Option.some.inj h
       refine ⟨_, rfl, Ret.mk hS ?_⟩
       exact rfl
end Go.Proofs
