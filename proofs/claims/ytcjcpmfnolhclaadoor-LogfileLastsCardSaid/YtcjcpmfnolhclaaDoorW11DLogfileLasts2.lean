import Derived.Test.YtcjcpmfnolhclaaDoorW11DLogfileLasts1
set_option linter.unusedSimpArgs false
set_option linter.unusedVariables false
namespace Go.Proofs
open Go.Fw
set_option maxHeartbeats 1000000 in
set_option maxRecDepth 100000 in
theorem logfile_Log_Append_r2_w {s : St} {k0 : Nat} {p0 : Value} {a0 : LogfileLog} {v1 : Value} {a1 : (List UInt8)} {k2 : Nat} {p2 : Value} {a2 : DiskDisk} {r : (Int × LogfileLog × DiskDisk)} (ho0 : OLogfileLog p2 s k0 p0 a0) (hp1 : R s v1 (.sl 1 (a1.map bD))) (ho2 : ODiskDisk s k2 p2 a2) (hk0_2 : k0 ≠ k2) (h : logfile_Log_Append_r2 a0 a1 a2 = some r) : Calls Tryd.prog 11 #[p0, v1] s.w (Ret s (KU (KO k0) (KO k2)) (fun s1 v => v = .int .i64 r.1 ∧ OLogfileLog p2 s1 k0 p0 r.2.1 ∧ ODiskDisk s1 k2 p2 r.2.2)) := by
 unfold logfile_Log_Append_r2 at h
 have le0 := ho0.le
 have ne0 := ho0.ne
 have le2 := ho2.le
 have ne2 := ho2.ne
 obtain ⟨bo2, rfl⟩ := ho2.ptr
 obtain ⟨bo0, rfl⟩ := ho0.ptr
 obtain ⟨wo0_0, hb_o0, hwo0_0⟩ := ho0.at_
 have hS := Step.r0 (KU (KO k0) (KO k2)) s
 refine k_fn (rs := [4]) (args := [.pointer (some ⟨bo0, 0, none⟩), v1]) Tryd.func11 rfl rfl rfl rfl ?_
 refine k_seq ?_
 refine k_region ?_
 refine k_assign rfl rfl ?_
 refine k_nil ?_
 refine k_seq ?_
 refine k_seq ?_
 refine k_region ?_
 refine k_move rfl rfl ?_
 obtain ⟨x1, hx1, h⟩ := ob h
 obtain rfl := Option.some.inj (show some false = some x1 from hx1)
 refine k_call cal31 rfl (logfile_Log_none_r1_w  (OLogfileLog.mk_ a0 (by omega) hwo0_0 hb_o0) ho2 hx1) rfl ?_
 rintro s1 vr1 st1 rfl
 have szs1 := st1.size
 have hS := hS.trans0 st1
 replace hp1 := hp1.up2 st1
 replace ho2 := ho2.up2 st1
 replace hwo0_0 := hwo0_0.up2 st1
 replace hb_o0 := hb_o0.up2 st1
 refine k_move rfl rfl ?_
 refine k_yes rfl rfl ?_
 refine k_move rfl rfl ?_
 refine k_yes rfl rfl ?_
 refine k_nilCheck rfl rfl ?_
 refine k_yes rfl rfl ?_
 refine k_field_addr fld53_0 rfl rfl ?_
 refine k_yes rfl rfl ?_
 refine k_field_addr fld48_0 rfl rfl ?_
 refine k_yes rfl rfl ?_
 refine k_load_blk one23 rfl hb_o0 rfl rfl ?_
 refine k_yes rfl rfl ?_
 obtain ⟨x2, hx2, h⟩ := ob h
 refine k_call cal10 rfl (disk_Disk_Down_w  ho2 hx2) rfl ?_
 rintro s2 vr2 st2 rfl
 have szs2 := st2.size
 have hS := hS.trans0 st2
 replace hp1 := hp1.up2 st2
 replace ho2 := ho2.up2 st2
 replace hwo0_0 := hwo0_0.up2 st2
 replace hb_o0 := hb_o0.up2 st2
 refine k_pickF rfl rfl rfl rfl ?_
 refine k_nil ?_
 refine k_keep [(0, _), (1, _), (4, _), (18, _)] ⟨rfl, rfl, rfl, rfl, trivial⟩ ?_
 refine k_cond rfl (fun c3 => ?_) (fun c3 => ?_)
 ·
  have h := ibT h c3
  refine k_seq ?_
  refine k_region ?_
  refine k_assign rfl rfl ?_
  refine k_nil ?_
  refine k_keep [(0, _), (1, _), (4, _)] ⟨rfl, rfl, rfl, trivial⟩ ?_
  refine k_ret ?_
  obtain rfl := Option.some.inj h
  refine ⟨_, rfl, Ret.mk hS ?_⟩
  exact ⟨rfl, (OLogfileLog.mk_ a0 (by omega) hwo0_0 hb_o0), ho2⟩
 ·
  have h := ibF h c3
  refine k_skip ?_
  refine k_seq ?_
  refine k_region ?_
  refine k_move rfl rfl ?_
  refine k_nilCheck rfl rfl ?_
  refine k_field_addr fld53_3 rfl rfl ?_
  refine k_load_sub (cs' := [.int .i64 a0.tail.Count, .int .i64 a0.tail.Size, .int .u32 (a0.tail.Sum.toNat : Int)]) agg51 rfl hb_o0 rfl rfl rfl ?_
  refine k_move rfl rfl ?_
  obtain ⟨x3, hx3, h⟩ := ob h
  refine k_call cal32 rfl (frame_Put_w  (clsApiTail a0.tail) (show R s2 v1 (.sl 1 (a1.map bD)) from hp1) hx3) rfl ?_
  rintro s4 vr4 st4 ⟨v4_0, cs4_1, rfl, h4_0, h4_1⟩
  have szs4 := st4.size
  have hS := hS.trans0 st4
  replace hp1 := hp1.up2 st4
  replace ho2 := ho2.up2 st4
  replace hwo0_0 := hwo0_0.up2 st4
  replace hb_o0 := hb_o0.up2 st4
  obtain rfl := opnApiTail h4_1
  refine k_move rfl rfl ?_
  refine k_extract rfl rfl rfl ?_
  refine k_extract rfl rfl rfl ?_
  refine k_extract rfl rfl rfl ?_
  refine k_alloc zero51 rfl ?_
  intro s5 b5 st5 h5 ge5
  have szs5 := st5.size
  have hS := hS.trans0 st5
  replace hp1 := hp1.up2 st5
  replace h4_0 := h4_0.up2 st5
  replace ho2 := ho2.up2 st5
  replace hwo0_0 := hwo0_0.up2 st5
  replace hb_o0 := hb_o0.up2 st5
  have lt5 := h5.lt
  refine k_assign rfl rfl ?_
  refine k_store_c (cs' := [.int .i64 x3.2.1.Count, .int .i64 x3.2.1.Size, .int .u32 (x3.2.1.Sum.toNat : Int)]) size51 rfl rfl h5 (by first | (simp; done) | omega | (dsimp only; omega)) (CellsOf.lit rfl rfl) rfl (by first | rfl | (simp; done) | (simp; omega)) rfl ?_
  intro s6 st6 h5
  have szs6 := st6.size
  have hS := hS.c0 st6
  replace hp1 := hp1.up2 st6
  replace h4_0 := h4_0.up2 st6
  replace ho2 := ho2.up2 st6
  replace hwo0_0 := hwo0_0.up2 st6
  replace hb_o0 := hb_o0.up2 st6
  refine k_assign rfl rfl ?_
  refine k_nil ?_
  refine k_keep [(0, _), (1, _), (4, _), (5, _), (6, _), (7, _)] ⟨rfl, rfl, rfl, rfl, rfl, rfl, trivial⟩ ?_
  refine k_seq ?_
  refine k_seq ?_
  refine k_region ?_
  refine k_move rfl rfl ?_
  refine k_neq rfl rfl rfl ?_
  refine k_nil ?_
  refine k_keep [(0, _), (1, _), (4, _), (5, _), (6, _), (7, _), (30, _)] ⟨rfl, rfl, rfl, rfl, rfl, rfl, rfl, trivial⟩ ?_
  refine k_cond_dec rfl (fun c7 => ?_) (fun c7 => ?_)
  ·
   have h := itT h c7
   refine k_seq ?_
   refine k_region ?_
   refine k_move rfl rfl ?_
   refine k_assign rfl rfl ?_
   refine k_nil ?_
   refine k_keep [(0, _), (1, _), (4, _), (5, _), (6, _)] ⟨rfl, rfl, rfl, rfl, rfl, trivial⟩ ?_
   refine k_ret ?_
   obtain rfl := Option.some.inj h
   refine ⟨_, rfl, Ret.mk hS ?_⟩
   exact ⟨rfl, (OLogfileLog.mk_ a0 (by omega) hwo0_0 hb_o0), ho2⟩
  ·
   have h := itF h c7
   refine k_skip ?_
   refine k_seq ?_
   refine k_seq ?_
   refine k_keep [(0, _), (1, _), (4, _), (5, _), (6, _)] ⟨rfl, rfl, rfl, rfl, rfl, trivial⟩ ?_
   refine k_drawT (KN s6.n) 10 (.read 0 (.read 1 (.read 2 (.read 3 (.read 4 (.read 5 (.read 6 (.read 7 (.read 8 (.read 9 .fin)))))))))) mixed (by intro c h; (try simp only [KC, KO, KU, KN, KB] at h) <;> omega) rfl rfl rfl ?_
   intro s8 st8
   have szs8 := st8.size
   have hS := hS.trans0 st8
   replace hp1 := hp1.up2 st8
   replace h4_0 := h4_0.up2 st8
   replace ho2 := ho2.up2 st8
   replace hwo0_0 := hwo0_0.up2 st8
   replace hb_o0 := hb_o0.up2 st8
   replace h5 := h5.up2 st8
   refine rt_read (.pointer (some ⟨bo0, 0, none⟩)) rfl rfl (fun s9 st9 => ?_) ?_
   ·refine k_move rfl rfl ?_
    exact fq_end
   refine rt_read (.pointer (some ⟨bo0, 0, none⟩)) rfl rfl (fun s10 st10 => ?_) ?_
   ·refine k_nilCheck rfl rfl ?_
    exact fq_end
   refine rt_read (.pointer (some ⟨bo0, 0, none⟩)) rfl rfl (fun s11 st11 => ?_) ?_
   ·refine k_field_addr fld53_0 rfl rfl ?_
    exact fq_end
   refine rt_read (.pointer (some ⟨bo0, 0, none⟩)) rfl rfl (fun s12 st12 => ?_) ?_
   ·refine k_field_addr fld48_0 rfl rfl ?_
    exact fq_end
   refine rt_read ((.pointer (some ⟨bo2, 0, none⟩))) rfl rfl (fun s13 st13 => ?_) ?_
   ·try replace hb_o0 := hb_o0.up2 st13
    refine k_load_blk one23 rfl hb_o0 rfl rfl ?_
    exact fq_end
   refine rt_read (.pointer (some ⟨bo0, 0, none⟩)) rfl rfl (fun s14 st14 => ?_) ?_
   ·refine k_move rfl rfl ?_
    exact fq_end
   refine rt_read (.pointer (some ⟨bo0, 0, none⟩)) rfl rfl (fun s15 st15 => ?_) ?_
   ·refine k_nilCheck rfl rfl ?_
    exact fq_end
   refine rt_read (.pointer (some ⟨bo0, 1, none⟩)) rfl rfl (fun s16 st16 => ?_) ?_
   ·refine k_field_addr fld53_1 rfl rfl ?_
    exact fq_end
   refine rt_read (S a0.name) rfl rfl (fun s17 st17 => ?_) ?_
   ·try replace hb_o0 := hb_o0.up2 st17
    refine k_load_blk one9 rfl hb_o0 rfl rfl ?_
    exact fq_end
   refine rt_read (v4_0) rfl rfl (fun s18 st18 => ?_) ?_
   ·refine k_move rfl rfl ?_
    exact fq_end
   refine rt_fin ?_
   obtain ⟨x4, hx4, h⟩ := ob h
   refine k_call cal33 rfl (disk_Disk_Append_w  ho2 (SL.of_R h4_0) (by first | assumption | omega | (dsimp only; omega) | (simp <;> omega)) hx4) rfl ?_
   rintro s19 vr19 st19 ⟨rfl, ho2⟩
   have szs19 := st19.size
   have hS := hS.c0 st19
   replace hp1 := hp1.up2 st19
   replace hwo0_0 := hwo0_0.up2 st19
   replace hb_o0 := hb_o0.up2 st19
   replace h5 := h5.up2 st19
   refine k_assign rfl rfl ?_
   refine k_nil ?_
   refine k_keep [(0, _), (1, _), (4, _), (6, _), (8, _)] ⟨rfl, rfl, rfl, rfl, rfl, trivial⟩ ?_
   refine k_seq ?_
   refine k_region ?_
   refine k_move rfl rfl ?_
   refine k_neq rfl rfl rfl ?_
   refine k_nil ?_
   refine k_keep [(0, _), (1, _), (4, _), (6, _), (8, _), (44, _)] ⟨rfl, rfl, rfl, rfl, rfl, rfl, trivial⟩ ?_
   refine k_cond_dec rfl (fun c20 => ?_) (fun c20 => ?_)
   ·
    have h := itT h c20
    refine k_seq ?_
    refine k_region ?_
    refine k_move rfl rfl ?_
    refine k_assign rfl rfl ?_
    refine k_nil ?_
    refine k_keep [(0, _), (1, _), (4, _), (6, _)] ⟨rfl, rfl, rfl, rfl, trivial⟩ ?_
    refine k_ret ?_
    obtain rfl := Option.some.inj h
    refine ⟨_, rfl, Ret.mk hS ?_⟩
    exact ⟨rfl, (OLogfileLog.mk_ a0 (by omega) hwo0_0 hb_o0), ho2⟩
   ·
    have h := itF h c20
    refine k_skip ?_
    refine k_seq ?_
    refine k_keep [(0, _), (1, _), (4, _), (6, _)] ⟨rfl, rfl, rfl, rfl, trivial⟩ ?_
    refine k_drawT (KU (KN s19.n) (KC k0 4)) 9 (.read 0 (.read 1 (.read 2 (.read 3 (.read 4 (.read 5 (.alt 6 (.alt 7 (.alt 8 .fin .no) .no) .no))))))) mixed (by intro c h; (try simp only [KC, KO, KU, KN, KB] at h) <;> omega) rfl rfl rfl ?_
    intro s21 st21
    have szs21 := st21.size
    have hS := hS.trans0 st21
    replace hp1 := hp1.up2 st21
    replace ho2 := ho2.up2 st21
    replace hwo0_0 := hwo0_0.up2 st21
    replace hb_o0 := hb_o0.up2 st21
    replace h5 := h5.up2 st21
    refine rt_read (.pointer (some ⟨bo0, 0, none⟩)) rfl rfl (fun s22 st22 => ?_) ?_
    ·refine k_move rfl rfl ?_
     exact fq_end
    refine rt_read (.pointer (some ⟨bo0, 0, none⟩)) rfl rfl (fun s23 st23 => ?_) ?_
    ·refine k_move rfl rfl ?_
     exact fq_end
    refine rt_read (.pointer (some ⟨bo0, 0, none⟩)) rfl rfl (fun s24 st24 => ?_) ?_
    ·refine k_nilCheck rfl rfl ?_
     exact fq_end
    refine rt_read (.pointer (some ⟨bo0, 2, none⟩)) rfl rfl (fun s25 st25 => ?_) ?_
    ·refine k_field_addr fld53_2 rfl rfl ?_
     exact fq_end
    refine rt_read (wo0_0) rfl rfl (fun s26 st26 => ?_) ?_
    ·try replace hb_o0 := hb_o0.up2 st26
     refine k_load_blk one32 rfl hb_o0 rfl rfl ?_
     exact fq_end
    refine rt_read (v1) rfl rfl (fun s27 st27 => ?_) ?_
    ·refine k_move rfl rfl ?_
     exact fq_end
    refine rt_act rfl rfl ?_
    have hA28 := Step.r0 (KU (KN s19.n) (KC k0 4)) s21
    obtain ⟨x5, hx5, h⟩ := ob h
    refine k_call cal34 rfl (slices_Clone_byte_byte_w  (SL.of_R hp1) hx5) rfl ?_
    rintro s29 v29_0 st29 ⟨_, rfl, h29_0⟩
    have szs29 := st29.size
    have hS := hS.trans0 st29
    have hA28 := hA28.trans0 st29
    replace ho2 := ho2.up2 st29
    replace hwo0_0 := hwo0_0.up2 st29
    replace hb_o0 := hb_o0.up2 st29
    replace h5 := h5.up2 st29
    refine rt_cont hA28 ?_
    refine rt_act rfl rfl ?_
    have hA30 := Step.r0 (KU (KN s19.n) (KC k0 4)) s29
    refine k_bslice2 (ds := ([x5] : List (List UInt8)).map (dL 1 bD)) slc32 rfl (RVs.cons h29_0 RVs.nil) (by rfl) (by rfl) rfl rfl ?_
    intro s31 v31 b31 st31 ge31 bl31 h31
    have szs31 := st31.size
    have hS := hS.trans0 st31
    have hA30 := hA30.trans0 st31
    replace ho2 := ho2.up2 st31
    replace hwo0_0 := hwo0_0.up2 st31
    replace hb_o0 := hb_o0.up2 st31
    replace h5 := h5.up2 st31
    have lt31 := Own.le1 h31
    refine rt_cont hA30 ?_
    refine rt_act rfl rfl ?_
    have hA32 := Step.r0 (KU (KN s19.n) (KC k0 4)) s31
    obtain ⟨x6, hx6, h⟩ := ob h
    refine k_append (es := ([x5] : List (List UInt8)).map (dL 1 bD)) elem32 rfl rfl hwo0_0 (h31.sl) (by have := (app_out hx6).1; simp only [List.length_map] at *; omega) (by have := (app_out hx6).1; simp only [List.length_map] at *; omega) rfl ?_
    intro s33 v33 st33 h33
    rw [← List.map_append, ← (app_out hx6).2] at h33
    have szs33 := st33.size
    have hS := hS.c0 st33
    have hA32 := hA32.c0 st33
    replace ho2 := ho2.up2 st33
    replace hb_o0 := hb_o0.up2 st33
    replace h5 := h5.up2 st33
    refine rt_cont hA32 ?_
    refine rt_fin ?_
    refine k_nilCheck rfl rfl ?_
    refine k_field_addr fld53_2 rfl rfl ?_
    refine k_store_c (cs' := [(.pointer (some ⟨bo2, 0, none⟩)), S a0.name, v33, .int .i64 a0.tail.Count, .int .i64 a0.tail.Size, .int .u32 (a0.tail.Sum.toNat : Int)]) size32 rfl rfl hb_o0 (by first | (simp; done) | omega | (dsimp only; omega)) (CellsOf.sl (h33.sl)) rfl (by first | rfl | (simp; done) | (simp; omega)) rfl ?_
    intro s34 st34 hb_o0
    have szs34 := st34.size
    have hS := hS.c0 st34
    replace ho2 := ho2.up2 st34
    replace h5 := h5.up2 st34
    replace h33 := h33.up2 st34
    refine k_nil ?_
    refine k_keep [(0, _), (4, _), (6, _)] ⟨rfl, rfl, rfl, trivial⟩ ?_
    refine k_seq ?_
    refine k_region ?_
    refine k_move rfl rfl ?_
    refine k_load_blka (cs := [.int .i64 x3.2.1.Count, .int .i64 x3.2.1.Size, .int .u32 (x3.2.1.Sum.toNat : Int)]) agg51 rfl h5 rfl ?_
    refine k_nilCheck rfl rfl ?_
    refine k_field_addr fld53_3 rfl rfl ?_
    refine k_store_c (cs' := [(.pointer (some ⟨bo2, 0, none⟩)), S a0.name, v33, .int .i64 x3.2.1.Count, .int .i64 x3.2.1.Size, .int .u32 (x3.2.1.Sum.toNat : Int)]) size51 rfl rfl hb_o0 (by first | (simp; done) | omega | (dsimp only; omega)) (CellsOf.lit rfl rfl) rfl (by first | rfl | (simp; done) | (simp; omega)) rfl ?_
    intro s35 st35 hb_o0
    have szs35 := st35.size
    have hS := hS.c0 st35
    replace ho2 := ho2.up2 st35
    replace h33 := h33.up2 st35
    refine k_nil ?_
    refine k_keep [(4, _)] ⟨rfl, trivial⟩ ?_
    refine k_seq ?_
    refine k_region ?_
    refine k_assign rfl rfl ?_
    refine k_nil ?_
    refine k_ret ?_
    obtain rfl := Option.some.inj h
    refine ⟨_, rfl, Ret.mk hS ?_⟩
    exact ⟨rfl, (OLogfileLog.mk_ (⟨a0.on, a0.name, x6, x3.2.1⟩ : LogfileLog) (by omega) h33 hb_o0), ho2⟩

set_option maxHeartbeats 1000000 in
set_option maxRecDepth 100000 in
theorem logfile_Log_Size_r1_w {s : St} {k0 : Nat} {p0 : Value} {a0 : LogfileLog} {k1 : Nat} {p1 : Value} {a1 : DiskDisk} {r : Int} (ho0 : OLogfileLog p1 s k0 p0 a0) (ho1 : ODiskDisk s k1 p1 a1) (h : logfile_Log_Size_r1 a0 a1 = some r) : Calls Tryd.prog 18 #[p0] s.w (Ret s K0 (fun s1 v => v = .int .i64 r)) := by
 unfold logfile_Log_Size_r1 at h
 have le0 := ho0.le
 have ne0 := ho0.ne
 have le1 := ho1.le
 have ne1 := ho1.ne
 obtain ⟨bo1, rfl⟩ := ho1.ptr
 obtain ⟨bo0, rfl⟩ := ho0.ptr
 obtain ⟨wo0_0, hb_o0, hwo0_0⟩ := ho0.at_
 have hS := Step.r0 K0 s
 refine k_fn (rs := [2]) (args := [.pointer (some ⟨bo0, 0, none⟩)]) Tryd.func18 rfl rfl rfl rfl ?_
 refine k_seq ?_
 refine k_region ?_
 refine k_assign rfl rfl ?_
 refine k_nil ?_
 refine k_seq ?_
 refine k_seq ?_
 refine k_region ?_
 refine k_move rfl rfl ?_
 obtain ⟨x1, hx1, h⟩ := ob h
 obtain rfl := Option.some.inj (show some false = some x1 from hx1)
 refine k_call cal31 rfl (logfile_Log_none_r1_w  (OLogfileLog.mk_ a0 (by omega) hwo0_0 hb_o0) ho1 hx1) rfl ?_
 rintro s1 vr1 st1 rfl
 have szs1 := st1.size
 have hS := hS.trans0 st1
 replace hb_o0 := hb_o0.up2 st1
 refine k_nil ?_
 refine k_keep [(0, _), (2, _), (4, _)] ⟨rfl, rfl, rfl, trivial⟩ ?_
 refine k_cond_false rfl ?_
 refine k_skip ?_
 refine k_seq ?_
 refine k_region ?_
 refine k_move rfl rfl ?_
 refine k_nilCheck rfl rfl ?_
 refine k_field_addr fld53_3 rfl rfl ?_
 refine k_field_addr fld51_1 rfl rfl ?_
 refine k_load_blk one3 rfl hb_o0 rfl rfl ?_
 refine k_assign rfl rfl ?_
 refine k_nil ?_
 refine k_keep [(2, _)] ⟨rfl, trivial⟩ ?_
 refine k_ret ?_
 obtain rfl := Option.some.inj h
 refine ⟨_, rfl, Ret.mk hS ?_⟩
 exact rfl

set_option maxHeartbeats 1000000 in
set_option maxRecDepth 100000 in
theorem logfile_Log_Count_r1_w {s : St} {k0 : Nat} {p0 : Value} {a0 : LogfileLog} {k1 : Nat} {p1 : Value} {a1 : DiskDisk} {r : Int} (ho0 : OLogfileLog p1 s k0 p0 a0) (ho1 : ODiskDisk s k1 p1 a1) (h : logfile_Log_Count_r1 a0 a1 = some r) : Calls Tryd.prog 20 #[p0] s.w (Ret s K0 (fun s1 v => v = .int .i64 r)) := by
 unfold logfile_Log_Count_r1 at h
 have le0 := ho0.le
 have ne0 := ho0.ne
 have le1 := ho1.le
 have ne1 := ho1.ne
 obtain ⟨bo1, rfl⟩ := ho1.ptr
 obtain ⟨bo0, rfl⟩ := ho0.ptr
 obtain ⟨wo0_0, hb_o0, hwo0_0⟩ := ho0.at_
 have hS := Step.r0 K0 s
 refine k_fn (rs := [2]) (args := [.pointer (some ⟨bo0, 0, none⟩)]) Tryd.func20 rfl rfl rfl rfl ?_
 refine k_seq ?_
 refine k_region ?_
 refine k_assign rfl rfl ?_
 refine k_nil ?_
 refine k_seq ?_
 refine k_seq ?_
 refine k_region ?_
 refine k_move rfl rfl ?_
 obtain ⟨x1, hx1, h⟩ := ob h
 obtain rfl := Option.some.inj (show some false = some x1 from hx1)
 refine k_call cal31 rfl (logfile_Log_none_r1_w  (OLogfileLog.mk_ a0 (by omega) hwo0_0 hb_o0) ho1 hx1) rfl ?_
 rintro s1 vr1 st1 rfl
 have szs1 := st1.size
 have hS := hS.trans0 st1
 replace hwo0_0 := hwo0_0.up2 st1
 replace hb_o0 := hb_o0.up2 st1
 refine k_nil ?_
 refine k_keep [(0, _), (2, _), (4, _)] ⟨rfl, rfl, rfl, trivial⟩ ?_
 refine k_cond_false rfl ?_
 refine k_skip ?_
 refine k_seq ?_
 refine k_region ?_
 refine k_move rfl rfl ?_
 refine k_nilCheck rfl rfl ?_
 refine k_field_addr fld53_2 rfl rfl ?_
 refine k_load_blk one32 rfl hb_o0 rfl rfl ?_
 refine k_len Tryd.underlying32 rfl (hwo0_0.sl).hasLen rfl ?_
 refine k_as (v := .int .i64 (a0.all_.length : Int)) (by simp only [List.length_map]) ?_
 refine k_assign rfl rfl ?_
 refine k_nil ?_
 refine k_keep [(2, _)] ⟨rfl, trivial⟩ ?_
 refine k_ret ?_
 obtain rfl := Option.some.inj h
 refine ⟨_, rfl, Ret.mk hS ?_⟩
 exact rfl

set_option maxHeartbeats 1000000 in
set_option maxRecDepth 100000 in
theorem disk_Disk_Sync_w {s : St} {k0 : Nat} {p0 : Value} {a0 : DiskDisk} {r : (Int × DiskDisk)} (ho0 : ODiskDisk s k0 p0 a0) (h : disk_Disk_Sync a0 = some r) : Calls Tryd.prog 35 #[p0] s.w (Ret s (KO k0) (fun s1 v => v = .int .i64 r.1 ∧ ODiskDisk s1 k0 p0 r.2)) := by
 unfold disk_Disk_Sync at h
 have le0 := ho0.le
 have ne0 := ho0.ne
 have hS := Step.r0 (KO k0) s
 refine k_fn (rs := [2]) (args := [p0]) Tryd.func35 rfl rfl rfl rfl ?_
 refine k_seq ?_
 refine k_region ?_
 refine k_assign rfl rfl ?_
 refine k_nil ?_
 refine k_seq ?_
 refine k_seq ?_
 refine k_region ?_
 refine k_move rfl rfl ?_
 obtain ⟨pb1, rfl⟩ := ho0.ptr
 obtain ⟨x1, hx1, h⟩ := ob h
 refine k_call cal10 rfl (disk_Disk_Down_w  ho0 hx1) rfl ?_
 rintro s2 vr2 st2 rfl
 have szs2 := st2.size
 have hS := hS.trans0 st2
 replace ho0 := ho0.up2 st2
 refine k_nil ?_
 refine k_keep [(0, _), (2, _), (5, _)] ⟨rfl, rfl, rfl, trivial⟩ ?_
 refine k_cond rfl (fun c3 => ?_) (fun c3 => ?_)
 ·
  have h := ibT h c3
  refine k_seq ?_
  refine k_region ?_
  refine k_assign rfl rfl ?_
  refine k_nil ?_
  refine k_keep [(0, _), (2, _)] ⟨rfl, rfl, trivial⟩ ?_
  refine k_ret ?_
  obtain rfl := Option.some.inj h
  refine ⟨_, rfl, Ret.mk hS ?_⟩
  exact ⟨rfl, ho0⟩
 ·
  have h := ibF h c3
  refine k_skip ?_
  refine k_seq ?_
  refine k_region ?_
  refine k_move rfl rfl ?_
  obtain ⟨x2, hx2, h⟩ := ob h
  refine k_call cal50 rfl (disk_Disk_burn_w  ho0 hx2) rfl ?_
  rintro s4 vr4 st4 ⟨rfl, ho0⟩
  have szs4 := st4.size
  have hS := hS.c0 st4
  refine k_assign rfl rfl ?_
  refine k_nil ?_
  refine k_keep [(0, _), (2, _), (3, _)] ⟨rfl, rfl, rfl, trivial⟩ ?_
  refine k_seq ?_
  refine k_seq ?_
  refine k_region ?_
  refine k_move rfl rfl ?_
  refine k_eql rfl rfl rfl ?_
  refine k_nil ?_
  refine k_keep [(0, _), (2, _), (3, _), (9, _)] ⟨rfl, rfl, rfl, rfl, trivial⟩ ?_
  refine k_cond_dec rfl (fun c5 => ?_) (fun c5 => ?_)
  ·
   have h := itT h c5
   refine k_region ?_
   refine k_move rfl rfl ?_
   refine k_move rfl rfl ?_
   obtain ⟨x3, hx3, h⟩ := ob h
   refine k_call cal38 rfl (disk_Disk_seen_w  ho0 hx3) rfl ?_
   rintro s6 v6_0 st6 ⟨_, rfl, h6_0⟩
   have szs6 := st6.size
   have hS := hS.trans0 st6
   replace ho0 := ho0.up2 st6
   obtain ⟨x4, hx4, h⟩ := ob h
   refine k_call cal42 rfl (disk_Disk_only_w  ho0 (show R s6 v6_0 (.sl 2 (x3.map dDiskFile)) from h6_0) hx4) rfl ?_
   rintro s7 vr7 st7 ⟨rfl, ho0⟩
   have szs7 := st7.size
   have hS := hS.c0 st7
   refine k_nil ?_
   refine k_keep [(2, _), (3, _)] ⟨rfl, rfl, trivial⟩ ?_
   refine k_seq ?_
   refine k_region ?_
   refine k_move rfl rfl ?_
   refine k_assign rfl rfl ?_
   refine k_nil ?_
   refine k_keep [(2, _)] ⟨rfl, trivial⟩ ?_
   refine k_ret ?_
   obtain rfl := Option.some.inj h
   refine ⟨_, rfl, Ret.mk hS ?_⟩
   exact ⟨rfl, ho0⟩
  ·
   have h := itF h c5
   refine k_skip ?_
   refine k_seq ?_
   refine k_region ?_
   refine k_move rfl rfl ?_
   refine k_assign rfl rfl ?_
   refine k_nil ?_
   refine k_keep [(2, _)] ⟨rfl, trivial⟩ ?_
   refine k_ret ?_
   obtain rfl := Option.some.inj h
   refine ⟨_, rfl, Ret.mk hS ?_⟩
   exact ⟨rfl, ho0⟩

set_option maxHeartbeats 1000000 in
set_option maxRecDepth 100000 in
theorem logfile_Log_Sync_r1_w {s : St} {k0 : Nat} {p0 : Value} {a0 : LogfileLog} {k1 : Nat} {p1 : Value} {a1 : DiskDisk} {r : (Int × DiskDisk)} (ho0 : OLogfileLog p1 s k0 p0 a0) (ho1 : ODiskDisk s k1 p1 a1) (hk0_1 : k0 ≠ k1) (h : logfile_Log_Sync_r1 a0 a1 = some r) : Calls Tryd.prog 12 #[p0] s.w (Ret s (KO k1) (fun s1 v => v = .int .i64 r.1 ∧ ODiskDisk s1 k1 p1 r.2)) := by
 unfold logfile_Log_Sync_r1 at h
 have le0 := ho0.le
 have ne0 := ho0.ne
 have le1 := ho1.le
 have ne1 := ho1.ne
 obtain ⟨bo1, rfl⟩ := ho1.ptr
 obtain ⟨bo0, rfl⟩ := ho0.ptr
 obtain ⟨wo0_0, hb_o0, hwo0_0⟩ := ho0.at_
 have hS := Step.r0 (KO k1) s
 refine k_fn (rs := [2]) (args := [.pointer (some ⟨bo0, 0, none⟩)]) Tryd.func12 rfl rfl rfl rfl ?_
 refine k_seq ?_
 refine k_region ?_
 refine k_assign rfl rfl ?_
 refine k_nil ?_
 refine k_seq ?_
 refine k_seq ?_
 refine k_region ?_
 refine k_move rfl rfl ?_
 obtain ⟨x1, hx1, h⟩ := ob h
 obtain rfl := Option.some.inj (show some false = some x1 from hx1)
 refine k_call cal31 rfl (logfile_Log_none_r1_w  (OLogfileLog.mk_ a0 (by omega) hwo0_0 hb_o0) ho1 hx1) rfl ?_
 rintro s1 vr1 st1 rfl
 have szs1 := st1.size
 have hS := hS.trans0 st1
 replace ho1 := ho1.up2 st1
 replace hb_o0 := hb_o0.up2 st1
 refine k_nil ?_
 refine k_keep [(0, _), (2, _), (4, _)] ⟨rfl, rfl, rfl, trivial⟩ ?_
 refine k_cond_false rfl ?_
 refine k_skip ?_
 refine k_seq ?_
 refine k_region ?_
 refine k_move rfl rfl ?_
 refine k_nilCheck rfl rfl ?_
 refine k_field_addr fld53_0 rfl rfl ?_
 refine k_field_addr fld48_0 rfl rfl ?_
 refine k_load_blk one23 rfl hb_o0 rfl rfl ?_
 obtain ⟨x2, hx2, h⟩ := ob h
 refine k_call cal35 rfl (disk_Disk_Sync_w  ho1 hx2) rfl ?_
 rintro s2 vr2 st2 ⟨rfl, ho1⟩
 have szs2 := st2.size
 have hS := hS.c0 st2
 refine k_assign rfl rfl ?_
 refine k_nil ?_
 refine k_keep [(2, _)] ⟨rfl, trivial⟩ ?_
 refine k_ret ?_
 obtain rfl := Option.some.inj h
 refine ⟨_, rfl, Ret.mk hS ?_⟩
 exact ⟨rfl, ho1⟩

set_option maxHeartbeats 1000000 in
set_option maxRecDepth 100000 in
theorem disk_Disk_Start_w {s : St} {k0 : Nat} {p0 : Value} {a0 : DiskDisk} {r : (Int × DiskDisk)} (ho0 : ODiskDisk s k0 p0 a0) (h : disk_Disk_Start a0 = some r) : Calls Tryd.prog 25 #[p0] s.w (Ret s (KO k0) (fun s1 v => v = .int .i64 r.1 ∧ ODiskDisk s1 k0 p0 r.2)) := by
 unfold disk_Disk_Start at h
 have le0 := ho0.le
 have ne0 := ho0.ne
 obtain ⟨bo0, rfl⟩ := ho0.ptr
 obtain ⟨wo0_0, wo0_1, hb_o0, hwo0_0, hwo0_1⟩ := ho0.at_
 have hS := Step.r0 (KO k0) s
 refine k_fn (rs := [2]) (args := [.pointer (some ⟨bo0, 0, none⟩)]) Tryd.func25 rfl rfl rfl rfl ?_
 refine k_seq ?_
 refine k_region ?_
 refine k_assign rfl rfl ?_
 refine k_nil ?_
 refine k_seq ?_
 refine k_block ?_
 refine k_seq ?_
 refine k_region ?_
 refine k_move rfl rfl ?_
 obtain ⟨x1, hx1, h⟩ := ob h
 refine k_call cal30 rfl (disk_Disk_none_w  (ODiskDisk.mk_ a0 (by omega) hwo0_0 hwo0_1 hb_o0) hx1) rfl ?_
 rintro s1 vr1 st1 rfl
 have szs1 := st1.size
 have hS := hS.trans0 st1
 replace hwo0_0 := hwo0_0.up2 st1
 replace hwo0_1 := hwo0_1.up2 st1
 replace hb_o0 := hb_o0.up2 st1
 refine k_assign rfl rfl ?_
 refine k_nil ?_
 refine k_keep [(0, _), (2, _), (3, _)] ⟨rfl, rfl, rfl, trivial⟩ ?_
 refine k_cond rfl (fun c2 => ?_) (fun c2 => ?_)
 ·
  have h := ibT h c2
  refine k_seq ?_
  refine k_region ?_
  refine k_assign rfl rfl ?_
  refine k_nil ?_
  refine k_keep [(0, _), (2, _)] ⟨rfl, rfl, trivial⟩ ?_
  refine k_ret ?_
  obtain rfl := Option.some.inj h
  refine ⟨_, rfl, Ret.mk hS ?_⟩
  exact ⟨rfl, (ODiskDisk.mk_ a0 (by omega) hwo0_0 hwo0_1 hb_o0)⟩
 ·
  have h := ibF h c2
  refine k_seq ?_
  refine k_region ?_
  refine k_move rfl rfl ?_
  refine k_nilCheck rfl rfl ?_
  refine k_field_addr fld64_2 rfl rfl ?_
  refine k_load_blk one4 rfl hb_o0 rfl rfl ?_
  refine k_not rfl rfl ?_
  refine k_assign rfl rfl ?_
  refine k_nil ?_
  refine k_keep [(0, _), (2, _), (6, _)] ⟨rfl, rfl, rfl, trivial⟩ ?_
  refine k_cond rfl (fun c3 => ?_) (fun c3 => ?_)
  ·
   have h := ibT h c3
   refine k_seq ?_
   refine k_region ?_
   refine k_assign rfl rfl ?_
   refine k_nil ?_
   refine k_keep [(0, _), (2, _)] ⟨rfl, rfl, trivial⟩ ?_
   refine k_ret ?_
   obtain rfl := Option.some.inj h
   refine ⟨_, rfl, Ret.mk hS ?_⟩
   exact ⟨rfl, (ODiskDisk.mk_ a0 (by omega) hwo0_0 hwo0_1 hb_o0)⟩
  ·
   have h := ibF h c3
   refine k_skip ?_
   refine k_blk ?_
   refine k_seq ?_
   refine k_region ?_
   refine k_move rfl rfl ?_
   refine k_nilCheck rfl rfl ?_
   refine k_field_addr fld64_2 rfl rfl ?_
   refine k_store_c (cs' := [.int .i64 a0.capacity, .bool a0.made, .bool false, wo0_0, wo0_1, .int .i64 a0.fuse.n, .int .i64 a0.fuse.keep, .int .i64 a0.fuse.torn]) size4 rfl rfl hb_o0 (by first | (simp; done) | omega | (dsimp only; omega)) (CellsOf.lit rfl rfl) rfl (by first | rfl | (simp; done) | (simp; omega)) rfl ?_
   intro s4 st4 hb_o0
   have szs4 := st4.size
   have hS := hS.c0 st4
   replace hwo0_0 := hwo0_0.up2 st4
   replace hwo0_1 := hwo0_1.up2 st4
   refine k_nil ?_
   refine k_keep [(2, _)] ⟨rfl, trivial⟩ ?_
   refine k_seq ?_
   refine k_region ?_
   refine k_assign rfl rfl ?_
   refine k_nil ?_
   refine k_ret ?_
   obtain rfl := Option.some.inj h
   refine ⟨_, rfl, Ret.mk hS ?_⟩
   exact ⟨rfl, (ODiskDisk.mk_ (⟨a0.capacity, a0.made, false, a0.pictures, a0.calls, a0.fuse⟩ : DiskDisk) (by omega) hwo0_0 hwo0_1 hb_o0)⟩

set_option maxHeartbeats 1000000 in
set_option maxRecDepth 100000 in
theorem slices_Clone_byte_byte_o_own_w {s : St} {l0 : Lab} {v0 : Value} {a0 : (List (List UInt8))} {r : (List (List UInt8))} (hp0 : SL s l0 v0 1 (a0.map (dL 1 bD))) (h : slices_Clone_byte_byte_o a0 = some r) : Calls Tryd.prog 36 #[v0] s.w (Ret s K0 (fun s1 v => ∃ (u0 : Value), ∃ (lu0 : Lab), v = u0 ∧ (s.n < lu0.o ∧ lu0.c = 0) ∧ Own s1 lu0 33 1 u0 (r.map (dL 1 bD)))) := by
 unfold slices_Clone_byte_byte_o at h
 obtain ⟨lf0, lf0le, lf0ne, hp0⟩ := hp0.fix
 have hS := Step.r0 K0 s
 refine k_fn (rs := [2]) (args := [v0]) Tryd.func36 rfl rfl rfl rfl ?_
 refine k_seq ?_
 refine k_region ?_
 refine k_assign rfl rfl ?_
 refine k_nil ?_
 refine k_seq ?_
 refine k_seq ?_
 refine k_region ?_
 refine k_move rfl rfl ?_
 refine k_eql_snilv Tryd.underlying32 rfl rfl hp0 rfl ?_
 refine k_nil ?_
 refine k_keep [(0, _), (2, _), (4, _)] ⟨rfl, rfl, rfl, trivial⟩ ?_
 refine k_cond rfl (fun c1 => ?_) (fun c1 => ?_)
 ·
  have hz4 := SL.nilS_nil hp0 c1
  obtain rfl : a0 = [] := by simpa using hz4
  replace h : some ([]) = some r := by simpa [app] using h
  refine k_seq ?_
  refine k_region ?_
  refine k_assign rfl rfl ?_
  refine k_nil ?_
  refine k_keep [(0, _), (2, _)] ⟨rfl, rfl, trivial⟩ ?_
  refine k_ret ?_
  obtain rfl := Option.some.inj h
  refine ⟨_, rfl, Ret.mk hS ?_⟩
  exact ⟨_, ⟨s.n + 1, 0⟩, rfl, ⟨by show s.n < s.n + 1; omega, rfl⟩, Own.nil (by simp) (Nat.le_refl _)⟩
 ·
  refine k_skip ?_
  refine k_seq ?_
  refine k_region ?_
  refine k_bslice2 (ds := ([] : List (List UInt8)).map (dL 1 bD)) slc32 rfl RVs.nil (by rfl) (by rfl) rfl rfl ?_
  intro s2 v2 b2 st2 ge2 bl2 h2
  have szs2 := st2.size
  have hS := hS.trans0 st2
  replace hp0 := hp0.up2 st2
  have lt2 := Own.le1 h2
  refine k_move rfl rfl ?_
  obtain ⟨x1, hx1, h⟩ := ob h
  refine k_append (es := a0.map (dL 1 bD)) elem32 rfl rfl h2 hp0 (by have := (app_out hx1).1; simp only [List.length_map] at *; omega) (by have := (app_out hx1).1; simp only [List.length_map] at *; omega) rfl ?_
  intro s3 v3 st3 h3
  rw [← List.map_append, ← (app_out hx1).2] at h3
  have szs3 := st3.size
  have hS := hS.c0 st3
  refine k_assign rfl rfl ?_
  refine k_nil ?_
  refine k_keep [(2, _)] ⟨rfl, trivial⟩ ?_
  refine k_ret ?_
  obtain rfl := Option.some.inj h
  refine ⟨_, rfl, Ret.mk hS ?_⟩
  exact ⟨_, ⟨b2 + 1, 0⟩, rfl, ⟨by (try dsimp only); omega, rfl⟩, h3⟩

set_option maxHeartbeats 1000000 in
set_option maxRecDepth 100000 in
theorem logfile_Log_Records_r1_w {s : St} {k0 : Nat} {p0 : Value} {a0 : LogfileLog} {k1 : Nat} {p1 : Value} {a1 : DiskDisk} {r : (List (List UInt8))} (ho0 : OLogfileLog p1 s k0 p0 a0) (ho1 : ODiskDisk s k1 p1 a1) (h : logfile_Log_Records_r1 a0 a1 = some r) : Calls Tryd.prog 15 #[p0] s.w (Ret s K0 (fun s1 v => ∃ (u0 : Value), v = u0 ∧ R s1 u0 (.sl 1 (r.map (dL 1 bD))))) := by
 unfold logfile_Log_Records_r1 at h
 have le0 := ho0.le
 have ne0 := ho0.ne
 have le1 := ho1.le
 have ne1 := ho1.ne
 obtain ⟨bo1, rfl⟩ := ho1.ptr
 obtain ⟨bo0, rfl⟩ := ho0.ptr
 obtain ⟨wo0_0, hb_o0, hwo0_0⟩ := ho0.at_
 have hS := Step.r0 K0 s
 refine k_fn (rs := [2]) (args := [.pointer (some ⟨bo0, 0, none⟩)]) Tryd.func15 rfl rfl rfl rfl ?_
 refine k_seq ?_
 refine k_region ?_
 refine k_assign rfl rfl ?_
 refine k_nil ?_
 refine k_seq ?_
 refine k_seq ?_
 refine k_region ?_
 refine k_move rfl rfl ?_
 obtain ⟨x1, hx1, h⟩ := ob h
 obtain rfl := Option.some.inj (show some false = some x1 from hx1)
 refine k_call cal31 rfl (logfile_Log_none_r1_w  (OLogfileLog.mk_ a0 (by omega) hwo0_0 hb_o0) ho1 hx1) rfl ?_
 rintro s1 vr1 st1 rfl
 have szs1 := st1.size
 have hS := hS.trans0 st1
 replace hwo0_0 := hwo0_0.up2 st1
 replace hb_o0 := hb_o0.up2 st1
 refine k_nil ?_
 refine k_keep [(0, _), (2, _), (7, _)] ⟨rfl, rfl, rfl, trivial⟩ ?_
 refine k_cond_false rfl ?_
 refine k_skip ?_
 refine k_seq ?_
 refine k_region ?_
 refine k_move rfl rfl ?_
 refine k_nilCheck rfl rfl ?_
 refine k_field_addr fld53_2 rfl rfl ?_
 refine k_load_blk one32 rfl hb_o0 rfl rfl ?_
 obtain ⟨x2, hx2, h⟩ := ob h
 refine k_call cal36 rfl (slices_Clone_byte_byte_o_own_w  (hwo0_0.sl) hx2) rfl ?_
 rintro s2 v2_0 st2 ⟨_, l2_0, rfl, hl2_0, h2_0⟩
 have szs2 := st2.size
 have hS := hS.trans0 st2
 replace hwo0_0 := hwo0_0.up2 st2
 replace hb_o0 := hb_o0.up2 st2
 obtain ⟨l2_0, hl2_0, h2_0⟩ := Own.anew 2020 h2_0 hl2_0 szs2
 have lt2_0 := Own.le1 h2_0
 refine k_assign rfl rfl ?_
 refine k_nil ?_
 refine k_keep [(2, _), (3, _)] ⟨rfl, rfl, trivial⟩ ?_
 refine k_seq ?_
 have hz3 : OLogfileLog (.pointer (some ⟨bo1, 0, none⟩)) s2 k0 (.pointer (some ⟨bo0, 0, none⟩)) a0 := (OLogfileLog.mk_ a0 (by omega) hwo0_0 hb_o0)
 have lehz3 := hz3.le
 have nehz3 := hz3.ne
 obtain ⟨kj3, hK4, h⟩ := jn_out h
 have hE4 := Step.r0 (KC l2_0.o l2_0.c) s2
 refine k_cutc (X := St × (List (List UInt8))) [(2, .slice none 0 0), (3, v2_0)] (fun (xL : St × (List (List UInt8))) => match xL with | (sl, x4) => []) (fun (xL : St × (List (List UInt8))) (wL : World) => match xL with | (sl, x4) => sl.w = wL ∧ Step (KC l2_0.o l2_0.c) s2 sl ∧ (Own sl ⟨l2_0.o, l2_0.c⟩ 33 1 v2_0 (x4.map (dL 1 bD))) ∧ kj3 x4 = some r) ?_ ?_
 ·
  refine k_seq ?_
  refine k_region ?_
  refine k_move rfl rfl ?_
  refine k_len Tryd.underlying32 rfl (h2_0.sl).hasLen rfl ?_
  refine k_as (v := .int .i64 (x2.length : Int)) (by simp only [List.length_map]) ?_
  refine k_move rfl rfl ?_
  refine k_nil ?_
  refine k_block ?_
  refine k_loopc (X := St × Int × (List (List UInt8)) × Nat) [(2, _), (3, _), (13, _), (14, _)] (fun (xL : St × Int × (List (List UInt8)) × Nat) => match xL with | (sl, x5, x6, j) => [(15, .int .i64 x5)]) (fun (xL : St × Int × (List (List UInt8)) × Nat) (wL : World) => match xL with | (sl, x5, x6, j) => sl.w = wL ∧ Step (KC l2_0.o l2_0.c) s2 sl ∧ (Own sl ⟨l2_0.o, l2_0.c⟩ 33 1 v2_0 (x6.map (dL 1 bD))) ∧ logfile_Log_Records_r1_l1 x2 kj3 j x5 x6 = some r) (fun (xL : St × Int × (List (List UInt8)) × Nat) => match xL with | (sl, x5, x6, j) => j) (s2, 0, x2, FU) ⟨rfl, rfl, rfl, rfl, trivial⟩ ⟨(by first | rfl | (simp <;> rfl)), trivial⟩ ⟨rfl, (Step.refl _).of0 (by first | exact fun _ h => h | (intro c h; simp [KC, KO, KU, KN, KB] at h <;> omega)), h2_0, h⟩ ?_
  rintro ⟨s6, x5, x6, j⟩ wL ⟨rfl, hE5, h2_0, h⟩
  cases j with
  | zero => rw [logfile_Log_Records_r1_l1] at h; exact (noneNe h).elim
  | succ j =>
  rw [logfile_Log_Records_r1_l1] at h
  have szs6 := hE5.size
  have hS := hS.c0 hE5
  have hE4 := hE4.c0 hE5
  refine k_seq ?_
  refine k_region ?_
  refine k_lss rfl rfl rfl ?_
  refine k_nil ?_
  refine k_seq ?_
  refine k_cond_dec rfl (fun c7 => ?_) (fun c7 => ?_)
  ·
   have h := itT h c7
   refine k_skip ?_
   refine k_seq ?_
   refine k_block ?_
   refine k_seq ?_
   refine k_region ?_
   refine k_move rfl rfl ?_
   obtain ⟨x7, hx7, h⟩ := ob h
   refine k_ixaddr_own Tryd.underlying32 size33 rfl rfl h2_0 (geti_out hx7).1 (geti_map hx7) rfl ?_
   intro qx7 hqx7 heqx7
   refine k_load_sl one33 rfl hqx7 rfl ?_
   intro v8 h8
   refine k_assign rfl rfl ?_
   refine k_assign rfl rfl ?_
   refine k_nil ?_
   refine k_keep [(2, _), (3, _), (4, _), (5, _), (13, _), (14, _), (15, _)] ⟨rfl, rfl, rfl, rfl, rfl, rfl, rfl, trivial⟩ ?_
   refine k_region ?_
   refine k_move rfl rfl ?_
   refine k_move rfl rfl ?_
   refine k_move rfl rfl ?_
   obtain ⟨x8, hx8, h⟩ := ob h
   refine k_call cal34 rfl (slices_Clone_byte_byte_w  (SL.of_R h8) hx8) rfl ?_
   rintro s9 v9_0 st9 ⟨_, rfl, h9_0⟩
   have szs9 := st9.size
   have hS := hS.trans0 st9
   have hE4 := hE4.trans0 st9
   have hE5 := hE5.trans0 st9
   replace h2_0 := h2_0.up2 st9
   obtain ⟨x9, hx9, h⟩ := ob h
   refine k_ixaddr_own Tryd.underlying32 size33 rfl rfl h2_0 (geti_out hx9).1 (geti_map hx9) rfl ?_
   intro qx9 hqx9 heqx9
   refine k_store_elt (dd := (dL 1 bD) x8) size33 rfl rfl h2_0 heqx9 (by rw [List.length_map]; exact (List.getElem?_eq_some_iff.1 (geti_out hx9).2.2).1) (h9_0) rfl ?_
   intro s10 st10 h2_0
   rw [← List.map_set] at h2_0
   have szs10 := st10.size
   have hS := hS.c0 st10
   have hE4 := hE4.c0 st10
   have hE5 := hE5.c0 st10
   refine k_nil ?_
   refine k_blk ?_
   refine k_region ?_
   refine k_add rfl rfl rfl ?_
   refine k_move rfl rfl ?_
   refine k_nil ?_
   exact k_stop ⟨(s10, i64 (x5 + 1), x6.set (x5 : Int).toNat x8, j), ⟨(by first | rfl | (simp <;> rfl)), trivial⟩, ⟨rfl, rfl, rfl, rfl, trivial⟩, ⟨rfl, hE5, h2_0, h⟩, (by simp)⟩
  ·
   have h := itF h c7
   refine k_exit rfl ?_
   exact k_stop ⟨(s6, x6), trivial, ⟨rfl, rfl, trivial⟩, ⟨rfl, hE4, h2_0, h⟩⟩
 ·
  rintro ⟨s11, x4⟩ wL ⟨rfl, hE4, h2_0, h⟩
  rw [hK4] at h
  have szs11 := hE4.size
  have hS := hS.c0 hE4
  refine k_seq ?_
  refine k_region ?_
  refine k_move rfl rfl ?_
  refine k_assign rfl rfl ?_
  refine k_nil ?_
  refine k_keep [(2, _)] ⟨rfl, trivial⟩ ?_
  refine k_ret ?_
  obtain ⟨s12, e12, st12, h12⟩ := h2_0.freeze
  rw [← e12]
  have szs12 := st12.size
  have hS := hS.c0 st12
  obtain rfl := Option.some.inj h
  refine ⟨_, rfl, Ret.mk hS ?_⟩
  exact ⟨_, rfl, h12⟩

set_option maxHeartbeats 1000000 in
set_option maxRecDepth 100000 in
theorem disk_Disk_Size_w {s : St} {k0 : Nat} {p0 : Value} {a0 : DiskDisk} {a1 : (List UInt8)} {r : Int} (ho0 : ODiskDisk s k0 p0 a0) (h : disk_Disk_Size a0 a1 = some r) : Calls Tryd.prog 26 #[p0, S a1] s.w (Ret s K0 (fun s1 v => v = .int .i64 r)) := by
 unfold disk_Disk_Size at h
 have le0 := ho0.le
 have ne0 := ho0.ne
 have hS := Step.r0 K0 s
 refine k_fn (rs := [4]) (args := [p0, S a1]) Tryd.func26 rfl rfl rfl rfl ?_
 refine k_seq ?_
 refine k_region ?_
 refine k_assign rfl rfl ?_
 refine k_nil ?_
 refine k_seq ?_
 refine k_region ?_
 refine k_move rfl rfl ?_
 obtain ⟨pb1, rfl⟩ := ho0.ptr
 obtain ⟨x1, hx1, h⟩ := ob h
 refine k_call cal38 rfl (disk_Disk_seen_w  ho0 hx1) rfl ?_
 rintro s2 v2_0 st2 ⟨_, rfl, h2_0⟩
 have szs2 := st2.size
 have hS := hS.trans0 st2
 refine k_move rfl rfl ?_
 obtain ⟨x2, hx2, h⟩ := ob h
 refine k_call cal39 rfl (disk_picture_bytes_w  (SL.of_R h2_0) hx2) rfl ?_
 rintro s3 v3_0 st3 ⟨_, rfl, h3_0⟩
 have szs3 := st3.size
 have hS := hS.trans0 st3
 refine k_len Tryd.underlying33 rfl (SL.of_R h3_0).hasLen rfl ?_
 refine k_as (v := .int .i64 (x2.length : Int)) (by simp only [List.length_map]) ?_
 refine k_assign rfl rfl ?_
 refine k_nil ?_
 refine k_keep [(4, _)] ⟨rfl, trivial⟩ ?_
 refine k_ret ?_
 obtain rfl := Option.some.inj h
 refine ⟨_, rfl, Ret.mk hS ?_⟩
 exact rfl

set_option maxHeartbeats 1000000 in
set_option maxRecDepth 100000 in
theorem law11_awake_w {s : St}  {r : Bool}  (h : law11_awake = some r) : Calls Tryd.prog 8 #[] s.w (Ret s K0 (fun s1 v => v = .bool r)) := by
 unfold law11_awake at h
 have hS := Step.r0 K0 s
 refine k_fn (rs := [0]) (args := []) Tryd.func8 rfl rfl rfl rfl ?_
 refine k_seq ?_
 refine k_region ?_
 refine k_assign rfl rfl ?_
 refine k_nil ?_
 refine k_seq ?_
 refine k_region ?_
 obtain ⟨x1, hx1, h⟩ := ob h
 refine k_call cal6 rfl (disk_New_w   hx1) rfl ?_
 rintro s1 vr1 st1 ⟨ku1_0, v1_0, rfl, hk1_0, h1_0⟩
 have szs1 := st1.size
 have hS := hS.trans0 st1
 have ol1_0 := OptODiskDisk.le (k := ku1_0) h1_0
 refine k_move rfl rfl ?_
 refine k_extract rfl rfl rfl ?_
 refine k_extract rfl rfl rfl ?_
 refine k_assign rfl rfl ?_
 refine k_assign rfl rfl ?_
 refine k_nil ?_
 refine k_keep [(0, _), (1, _)] ⟨rfl, rfl, trivial⟩ ?_
 refine k_seq ?_
 refine k_region ?_
 refine k_move rfl rfl ?_
 obtain ⟨x2, hx2, h⟩ := ob h
 replace ol1_0 := ol1_0.resolve_left (fun e => by rw [e] at hx2; cases hx2)
 rw [hx2] at h1_0
 replace h1_0 : ODiskDisk s1 ku1_0 v1_0 x2 := h1_0
 have le2 := h1_0.le
 have ne2 := h1_0.ne
 obtain ⟨pb3, rfl⟩ := h1_0.ptr
 obtain ⟨x3, hx3, h⟩ := ob h
 refine k_call cal9 rfl (logfile_Open_w  h1_0 hx3) rfl ?_
 rintro s4 vr4 st4 ⟨ku4_0, v4_0, rfl, hk4_0, h4_0, h1_0⟩
 have szs4 := st4.size
 have hS := hS.c0 st4
 have ol4_0 := OptOLogfileLog.le (k := ku4_0) h4_0
 refine k_move rfl rfl ?_
 refine k_extract rfl rfl rfl ?_
 refine k_extract rfl rfl rfl ?_
 refine k_assign rfl rfl ?_
 refine k_assign rfl rfl ?_
 refine k_nil ?_
 refine k_keep [(0, _), (1, _), (3, _), (4, _)] ⟨rfl, rfl, rfl, rfl, trivial⟩ ?_
 refine k_seq ?_
 refine k_seq ?_
 refine k_region ?_
 refine k_move rfl rfl ?_
 refine k_neq rfl rfl rfl ?_
 refine k_move rfl rfl ?_
 rcases oc_out h with ⟨ho_5, h⟩ | ⟨x4, ho_5, h⟩
 ·
  rw [ho_5] at h4_0
  obtain rfl : v4_0 = .pointer none := h4_0
  have hE6 := Step.r0 K0 s4
  refine k_cutl (X := St) 3 [(0, .bool false), (1, (.pointer (some ⟨pb3, 0, none⟩))), (3, .pointer none), (4, .int .i64 x3.2.1), (21, .int .i64 x3.2.1), (22, .bool (decide (x3.2.1 ≠ 0)))] (fun _ => [(26, .bool true)]) (fun sl wL => sl.w = wL ∧ Step K0 s4 sl) ?_ ?_
  ·
   refine k_again 23 rfl ?_
   refine k_split (fun c7 => ?_) (fun c7 => ?_)
   ·
    refine k_no rfl rfl rfl rfl ?_
    refine k_no rfl rfl rfl rfl ?_
    refine k_pickT rfl rfl rfl rfl ?_
    exact k_met ⟨s4, ⟨rfl, trivial⟩, ⟨rfl, rfl, rfl, rfl, rfl, rfl, trivial⟩, rfl, hE6⟩
   ·
    refine k_yes rfl rfl ?_
    refine k_move rfl rfl ?_
    refine k_yes rfl rfl ?_
    refine k_eql_pnil Tryd.underlying29 rfl rfl rfl ?_
    refine k_pickF rfl rfl rfl rfl ?_
    exact k_met ⟨s4, ⟨rfl, trivial⟩, ⟨rfl, rfl, rfl, rfl, rfl, rfl, trivial⟩, rfl, hE6⟩
  ·
   rintro s8 wL ⟨rfl, hE6⟩
   have szs8 := hE6.size
   have hS := hS.trans0 hE6
   refine k_nil ?_
   refine k_keep [(0, _), (1, _), (3, _), (26, _)] ⟨rfl, rfl, rfl, rfl, trivial⟩ ?_
   refine k_cond_true rfl ?_
   refine k_seq ?_
   refine k_region ?_
   refine k_assign rfl rfl ?_
   refine k_nil ?_
   refine k_keep [(0, _), (1, _), (3, _)] ⟨rfl, rfl, rfl, trivial⟩ ?_
   refine k_ret ?_
   obtain rfl := Option.some.inj h
   refine ⟨_, rfl, Ret.mk hS ?_⟩
   exact rfl
 ·
  rw [ho_5] at h4_0
  replace h4_0 : OLogfileLog (.pointer (some ⟨pb3, 0, none⟩)) s4 ku4_0 v4_0 x4 := h4_0
  replace ol4_0 := ol4_0.resolve_left (fun e => by rw [e] at ho_5; cases ho_5)
  have le5 := h4_0.le
  have ne5 := h4_0.ne
  have hE9 := Step.r0 K0 s4
  refine k_cutl (X := St) 3 [(0, .bool false), (1, (.pointer (some ⟨pb3, 0, none⟩))), (3, v4_0), (4, .int .i64 x3.2.1), (21, .int .i64 x3.2.1), (22, .bool (decide (x3.2.1 ≠ 0)))] (fun _ => [(26, .bool (decide ((x3.2.1 ≠ 0) ∨ False)))]) (fun sl wL => sl.w = wL ∧ Step K0 s4 sl) ?_ ?_
  ·
   refine k_again 23 rfl ?_
   refine k_split (fun c10 => ?_) (fun c10 => ?_)
   ·
    refine k_no rfl rfl rfl rfl ?_
    refine k_no rfl rfl rfl rfl ?_
    refine k_pickT rfl rfl rfl rfl ?_
    exact k_met ⟨s4, ⟨(congrArg (fun b => some (Value.bool b)) (by first | exact decide_eq_decide.2 ⟨Or.inr, fun h => h.resolve_left c10⟩ | exact (decide_eq_true (Or.inl c10)).symm | (simp [c10]; done) | exact dec_andT c10 | exact dec_andF c10 | exact dec_orF c10 | exact dec_orT c10 | (simp [c10, i64] <;> omega))), trivial⟩, ⟨rfl, rfl, rfl, rfl, rfl, rfl, trivial⟩, rfl, hE9⟩
   ·
    refine k_yes rfl rfl ?_
    refine k_move rfl rfl ?_
    refine k_yes rfl rfl ?_
    obtain ⟨pb11, rfl⟩ := h4_0.ptr
    refine k_eql_pnil Tryd.underlying29 rfl rfl rfl ?_
    refine k_pickF rfl rfl rfl rfl ?_
    exact k_met ⟨s4, ⟨(congrArg (fun b => some (Value.bool b)) (by first | exact decide_eq_decide.2 ⟨Or.inr, fun h => h.resolve_left c10⟩ | exact (decide_eq_true (Or.inl c10)).symm | (simp [c10]; done) | exact dec_andT c10 | exact dec_andF c10 | exact dec_orF c10 | exact dec_orT c10 | (simp [c10, i64] <;> omega))), trivial⟩, ⟨rfl, rfl, rfl, rfl, rfl, rfl, trivial⟩, rfl, hE9⟩
  ·
   rintro s12 wL ⟨rfl, hE9⟩
   have szs12 := hE9.size
   have hS := hS.trans0 hE9
   replace h1_0 := h1_0.up2 hE9
   replace h4_0 := h4_0.up2 hE9
   refine k_nil ?_
   refine k_keep [(0, _), (1, _), (3, _), (26, _)] ⟨rfl, rfl, rfl, rfl, trivial⟩ ?_
   refine k_cond_dec rfl (fun c13 => ?_) (fun c13 => ?_)
   ·
    have h := itT h c13
    refine k_seq ?_
    refine k_region ?_
    refine k_assign rfl rfl ?_
    refine k_nil ?_
    refine k_keep [(0, _), (1, _), (3, _)] ⟨rfl, rfl, rfl, trivial⟩ ?_
    refine k_ret ?_
    obtain rfl := Option.some.inj h
    refine ⟨_, rfl, Ret.mk hS ?_⟩
    exact rfl
   ·
    have h := itF h c13
    refine k_skip ?_
    refine k_seq ?_
    refine k_region ?_
    refine k_move rfl rfl ?_
    refine k_bslice2 (ds := ([(97 : UInt8)] : List UInt8).map bD) slc33 rfl (RVs.cons (R.val rfl) RVs.nil) (by rfl) (by rfl) rfl rfl ?_
    intro s14 v14 b14 st14 ge14 bl14 h14
    have szs14 := st14.size
    have hS := hS.trans0 st14
    replace h1_0 := h1_0.up2 st14
    replace h4_0 := h4_0.up2 st14
    have lt14 := Own.le1 h14
    refine k_conv_sl Tryd.underlying33 Tryd.underlying5 rfl h14 (by simp) rfl ?_
    intro s15 st15 h15
    have szs15 := st15.size
    have hS := hS.c0 st15
    replace h1_0 := h1_0.up2 st15
    replace h4_0 := h4_0.up2 st15
    obtain ⟨pb16, rfl⟩ := h4_0.ptr
    obtain ⟨x5, hx5, h⟩ := ob h
    refine k_call cal11 rfl (logfile_Log_Append_r2_w  h4_0 (show R s15 v14 (.sl 1 (([(97 : UInt8)] : List UInt8).map bD)) from h15) h1_0 (by first | assumption | omega | (dsimp only; omega) | (simp <;> omega)) hx5) rfl ?_
    rintro s17 vr17 st17 ⟨rfl, h4_0, h1_0⟩
    have szs17 := st17.size
    have hS := hS.c0 st17
    refine k_move rfl rfl ?_
    refine k_bslice2 (ds := ([(98 : UInt8), (99 : UInt8)] : List UInt8).map bD) slc33 rfl (RVs.cons (R.val rfl) (RVs.cons (R.val rfl) RVs.nil)) (by rfl) (by rfl) rfl rfl ?_
    intro s18 v18 b18 st18 ge18 bl18 h18
    have szs18 := st18.size
    have hS := hS.trans0 st18
    replace h1_0 := h1_0.up2 st18
    replace h4_0 := h4_0.up2 st18
    have lt18 := Own.le1 h18
    refine k_conv_sl Tryd.underlying33 Tryd.underlying5 rfl h18 (by simp) rfl ?_
    intro s19 st19 h19
    have szs19 := st19.size
    have hS := hS.c0 st19
    replace h1_0 := h1_0.up2 st19
    replace h4_0 := h4_0.up2 st19
    obtain ⟨x6, hx6, h⟩ := ob h
    refine k_call cal11 rfl (logfile_Log_Append_r2_w  h4_0 (show R s19 v18 (.sl 1 (([(98 : UInt8), (99 : UInt8)] : List UInt8).map bD)) from h19) h1_0 (by first | assumption | omega | (dsimp only; omega) | (simp <;> omega)) hx6) rfl ?_
    rintro s20 vr20 st20 ⟨rfl, h4_0, h1_0⟩
    have szs20 := st20.size
    have hS := hS.c0 st20
    refine k_assign rfl rfl ?_
    refine k_assign rfl rfl ?_
    refine k_nil ?_
    refine k_keep [(0, _), (1, _), (3, _), (5, _), (6, _)] ⟨rfl, rfl, rfl, rfl, rfl, trivial⟩ ?_
    refine k_seq ?_
    refine k_region ?_
    refine k_move rfl rfl ?_
    obtain ⟨x7, hx7, h⟩ := ob h
    refine k_call cal18 rfl (logfile_Log_Size_r1_w  h4_0 h1_0 hx7) rfl ?_
    rintro s21 vr21 st21 rfl
    have szs21 := st21.size
    have hS := hS.trans0 st21
    replace h1_0 := h1_0.up2 st21
    replace h4_0 := h4_0.up2 st21
    refine k_move rfl rfl ?_
    obtain ⟨x8, hx8, h⟩ := ob h
    refine k_call cal20 rfl (logfile_Log_Count_r1_w  h4_0 h1_0 hx8) rfl ?_
    rintro s22 vr22 st22 rfl
    have szs22 := st22.size
    have hS := hS.trans0 st22
    replace h1_0 := h1_0.up2 st22
    replace h4_0 := h4_0.up2 st22
    refine k_assign rfl rfl ?_
    refine k_assign rfl rfl ?_
    refine k_nil ?_
    refine k_keep [(0, _), (1, _), (3, _), (5, _), (6, _), (7, _), (8, _)] ⟨rfl, rfl, rfl, rfl, rfl, rfl, rfl, trivial⟩ ?_
    refine k_seq ?_
    refine k_region ?_
    refine k_move rfl rfl ?_
    obtain ⟨x9, hx9, h⟩ := ob h
    refine k_call cal12 rfl (logfile_Log_Sync_r1_w  h4_0 h1_0 (by first | assumption | omega | (dsimp only; omega) | (simp <;> omega)) hx9) rfl ?_
    rintro s23 vr23 st23 ⟨rfl, h1_0⟩
    have szs23 := st23.size
    have hS := hS.c0 st23
    replace h4_0 := h4_0.up2 st23
    refine k_nil ?_
    refine k_keep [(0, _), (1, _), (3, _), (5, _), (6, _), (7, _), (8, _)] ⟨rfl, rfl, rfl, rfl, rfl, rfl, rfl, trivial⟩ ?_
    refine k_seq ?_
    refine k_region ?_
    refine k_move rfl rfl ?_
    refine k_bslice2 (ds := ([(100 : UInt8)] : List UInt8).map bD) slc33 rfl (RVs.cons (R.val rfl) RVs.nil) (by rfl) (by rfl) rfl rfl ?_
    intro s24 v24 b24 st24 ge24 bl24 h24
    have szs24 := st24.size
    have hS := hS.trans0 st24
    replace h1_0 := h1_0.up2 st24
    replace h4_0 := h4_0.up2 st24
    have lt24 := Own.le1 h24
    refine k_conv_sl Tryd.underlying33 Tryd.underlying5 rfl h24 (by simp) rfl ?_
    intro s25 st25 h25
    have szs25 := st25.size
    have hS := hS.c0 st25
    replace h1_0 := h1_0.up2 st25
    replace h4_0 := h4_0.up2 st25
    obtain ⟨x10, hx10, h⟩ := ob h
    refine k_call cal11 rfl (logfile_Log_Append_r2_w  h4_0 (show R s25 v24 (.sl 1 (([(100 : UInt8)] : List UInt8).map bD)) from h25) h1_0 (by first | assumption | omega | (dsimp only; omega) | (simp <;> omega)) hx10) rfl ?_
    rintro s26 vr26 st26 ⟨rfl, h4_0, h1_0⟩
    have szs26 := st26.size
    have hS := hS.c0 st26
    refine k_nil ?_
    refine k_keep [(0, _), (1, _), (5, _), (6, _), (7, _), (8, _)] ⟨rfl, rfl, rfl, rfl, rfl, rfl, trivial⟩ ?_
    refine k_seq ?_
    refine k_region ?_
    refine k_move rfl rfl ?_
    obtain ⟨x11, hx11, h⟩ := ob h
    refine k_call cal24 rfl (disk_Disk_Crash_w  h1_0 hx11) rfl ?_
    rintro s27 vr27 st27 ⟨rfl, h1_0⟩
    have szs27 := st27.size
    have hS := hS.c0 st27
    refine k_nil ?_
    refine k_keep [(0, _), (1, _), (5, _), (6, _), (7, _), (8, _)] ⟨rfl, rfl, rfl, rfl, rfl, rfl, trivial⟩ ?_
    refine k_seq ?_
    refine k_region ?_
    refine k_move rfl rfl ?_
    obtain ⟨x12, hx12, h⟩ := ob h
    refine k_call cal25 rfl (disk_Disk_Start_w  h1_0 hx12) rfl ?_
    rintro s28 vr28 st28 ⟨rfl, h1_0⟩
    have szs28 := st28.size
    have hS := hS.c0 st28
    refine k_nil ?_
    refine k_keep [(0, _), (1, _), (5, _), (6, _), (7, _), (8, _)] ⟨rfl, rfl, rfl, rfl, rfl, rfl, trivial⟩ ?_
    refine k_seq ?_
    refine k_region ?_
    refine k_move rfl rfl ?_
    obtain ⟨x13, hx13, h⟩ := ob h
    refine k_call cal9 rfl (logfile_Open_w  h1_0 hx13) rfl ?_
    rintro s29 vr29 st29 ⟨ku29_0, v29_0, rfl, hk29_0, h29_0, h1_0⟩
    have szs29 := st29.size
    have hS := hS.c0 st29
    have ol29_0 := OptOLogfileLog.le (k := ku29_0) h29_0
    refine k_move rfl rfl ?_
    refine k_extract rfl rfl rfl ?_
    refine k_extract rfl rfl rfl ?_
    refine k_assign rfl rfl ?_
    refine k_assign rfl rfl ?_
    refine k_nil ?_
    refine k_keep [(0, _), (1, _), (5, _), (6, _), (7, _), (8, _), (9, _), (10, _)] ⟨rfl, rfl, rfl, rfl, rfl, rfl, rfl, rfl, trivial⟩ ?_
    refine k_seq ?_
    refine k_seq ?_
    refine k_region ?_
    refine k_move rfl rfl ?_
    refine k_neq rfl rfl rfl ?_
    refine k_move rfl rfl ?_
    rcases oc_out h with ⟨ho_30, h⟩ | ⟨x14, ho_30, h⟩
    ·
     rw [ho_30] at h29_0
     obtain rfl : v29_0 = .pointer none := h29_0
     have hE31 := Step.r0 K0 s29
     refine k_cutl (X := St) 3 [(0, .bool false), (1, (.pointer (some ⟨pb3, 0, none⟩))), (5, .int .i64 x5.1), (6, .int .i64 x6.1), (7, .int .i64 x7), (8, .int .i64 x8), (9, .pointer none), (10, .int .i64 x13.2.1), (54, .int .i64 x13.2.1), (55, .bool (decide (x13.2.1 ≠ 0)))] (fun _ => [(59, .bool true)]) (fun sl wL => sl.w = wL ∧ Step K0 s29 sl) ?_ ?_
     ·
      refine k_again 56 rfl ?_
      refine k_split (fun c32 => ?_) (fun c32 => ?_)
      ·
       refine k_no rfl rfl rfl rfl ?_
       refine k_no rfl rfl rfl rfl ?_
       refine k_pickT rfl rfl rfl rfl ?_
       exact k_met ⟨s29, ⟨rfl, trivial⟩, ⟨rfl, rfl, rfl, rfl, rfl, rfl, rfl, rfl, rfl, rfl, trivial⟩, rfl, hE31⟩
      ·
       refine k_yes rfl rfl ?_
       refine k_move rfl rfl ?_
       refine k_yes rfl rfl ?_
       refine k_eql_pnil Tryd.underlying29 rfl rfl rfl ?_
       refine k_pickF rfl rfl rfl rfl ?_
       exact k_met ⟨s29, ⟨rfl, trivial⟩, ⟨rfl, rfl, rfl, rfl, rfl, rfl, rfl, rfl, rfl, rfl, trivial⟩, rfl, hE31⟩
     ·
      rintro s33 wL ⟨rfl, hE31⟩
      have szs33 := hE31.size
      have hS := hS.trans0 hE31
      refine k_nil ?_
      refine k_keep [(0, _), (1, _), (5, _), (6, _), (7, _), (8, _), (9, _), (59, _)] ⟨rfl, rfl, rfl, rfl, rfl, rfl, rfl, rfl, trivial⟩ ?_
      refine k_cond_true rfl ?_
      refine k_seq ?_
      refine k_region ?_
      refine k_assign rfl rfl ?_
      refine k_nil ?_
      refine k_keep [(0, _), (1, _), (5, _), (6, _), (7, _), (8, _), (9, _)] ⟨rfl, rfl, rfl, rfl, rfl, rfl, rfl, trivial⟩ ?_
      refine k_ret ?_
      obtain rfl := Option.some.inj h
      refine ⟨_, rfl, Ret.mk hS ?_⟩
      exact rfl
    ·
     rw [ho_30] at h29_0
     replace h29_0 : OLogfileLog (.pointer (some ⟨pb3, 0, none⟩)) s29 ku29_0 v29_0 x14 := h29_0
     replace ol29_0 := ol29_0.resolve_left (fun e => by rw [e] at ho_30; cases ho_30)
     have le30 := h29_0.le
     have ne30 := h29_0.ne
     have hE34 := Step.r0 K0 s29
     refine k_cutl (X := St) 3 [(0, .bool false), (1, (.pointer (some ⟨pb3, 0, none⟩))), (5, .int .i64 x5.1), (6, .int .i64 x6.1), (7, .int .i64 x7), (8, .int .i64 x8), (9, v29_0), (10, .int .i64 x13.2.1), (54, .int .i64 x13.2.1), (55, .bool (decide (x13.2.1 ≠ 0)))] (fun _ => [(59, .bool (decide ((x13.2.1 ≠ 0) ∨ False)))]) (fun sl wL => sl.w = wL ∧ Step K0 s29 sl) ?_ ?_
     ·
      refine k_again 56 rfl ?_
      refine k_split (fun c35 => ?_) (fun c35 => ?_)
      ·
       refine k_no rfl rfl rfl rfl ?_
       refine k_no rfl rfl rfl rfl ?_
       refine k_pickT rfl rfl rfl rfl ?_
       exact k_met ⟨s29, ⟨(congrArg (fun b => some (Value.bool b)) (by first | exact decide_eq_decide.2 ⟨Or.inr, fun h => h.resolve_left c35⟩ | exact (decide_eq_true (Or.inl c35)).symm | (simp [c35]; done) | exact dec_andT c35 | exact dec_andF c35 | exact dec_orF c35 | exact dec_orT c35 | (simp [c35, i64] <;> omega))), trivial⟩, ⟨rfl, rfl, rfl, rfl, rfl, rfl, rfl, rfl, rfl, rfl, trivial⟩, rfl, hE34⟩
      ·
       refine k_yes rfl rfl ?_
       refine k_move rfl rfl ?_
       refine k_yes rfl rfl ?_
       obtain ⟨pb36, rfl⟩ := h29_0.ptr
       refine k_eql_pnil Tryd.underlying29 rfl rfl rfl ?_
       refine k_pickF rfl rfl rfl rfl ?_
       exact k_met ⟨s29, ⟨(congrArg (fun b => some (Value.bool b)) (by first | exact decide_eq_decide.2 ⟨Or.inr, fun h => h.resolve_left c35⟩ | exact (decide_eq_true (Or.inl c35)).symm | (simp [c35]; done) | exact dec_andT c35 | exact dec_andF c35 | exact dec_orF c35 | exact dec_orT c35 | (simp [c35, i64] <;> omega))), trivial⟩, ⟨rfl, rfl, rfl, rfl, rfl, rfl, rfl, rfl, rfl, rfl, trivial⟩, rfl, hE34⟩
     ·
      rintro s37 wL ⟨rfl, hE34⟩
      have szs37 := hE34.size
      have hS := hS.trans0 hE34
      replace h1_0 := h1_0.up2 hE34
      replace h29_0 := h29_0.up2 hE34
      refine k_nil ?_
      refine k_keep [(0, _), (1, _), (5, _), (6, _), (7, _), (8, _), (9, _), (59, _)] ⟨rfl, rfl, rfl, rfl, rfl, rfl, rfl, rfl, trivial⟩ ?_
      refine k_cond_dec rfl (fun c38 => ?_) (fun c38 => ?_)
      ·
       have h := itT h c38
       refine k_seq ?_
       refine k_region ?_
       refine k_assign rfl rfl ?_
       refine k_nil ?_
       refine k_keep [(0, _), (1, _), (5, _), (6, _), (7, _), (8, _), (9, _)] ⟨rfl, rfl, rfl, rfl, rfl, rfl, rfl, trivial⟩ ?_
       refine k_ret ?_
       obtain rfl := Option.some.inj h
       refine ⟨_, rfl, Ret.mk hS ?_⟩
       exact rfl
      ·
       have h := itF h c38
       refine k_skip ?_
       refine k_seq ?_
       refine k_region ?_
       refine k_move rfl rfl ?_
       obtain ⟨pb39, rfl⟩ := h29_0.ptr
       obtain ⟨x15, hx15, h⟩ := ob h
       refine k_call cal15 rfl (logfile_Log_Records_r1_w  h29_0 h1_0 hx15) rfl ?_
       rintro s40 v40_0 st40 ⟨_, rfl, h40_0⟩
       have szs40 := st40.size
       have hS := hS.trans0 st40
       replace h1_0 := h1_0.up2 st40
       replace h29_0 := h29_0.up2 st40
       refine k_assign rfl rfl ?_
       refine k_nil ?_
       refine k_keep [(0, _), (1, _), (5, _), (6, _), (7, _), (8, _), (9, _), (11, _)] ⟨rfl, rfl, rfl, rfl, rfl, rfl, rfl, rfl, trivial⟩ ?_
       refine k_seq ?_
       refine k_region ?_
       refine k_move rfl rfl ?_
       refine k_eql rfl rfl rfl ?_
       refine k_move rfl rfl ?_
       have hE41 := Step.r0 K0 s40
       refine k_cutl (X := St) 3 [(0, .bool false), (1, (.pointer (some ⟨pb3, 0, none⟩))), (5, .int .i64 x5.1), (6, .int .i64 x6.1), (7, .int .i64 x7), (8, .int .i64 x8), (9, (.pointer (some ⟨pb39, 0, none⟩))), (11, v40_0), (62, .int .i64 x5.1), (63, .bool (decide (x5.1 = 0)))] (fun _ => [(67, .bool (decide ((x5.1 = 0) ∧ (x6.1 = 0))))]) (fun sl wL => sl.w = wL ∧ Step K0 s40 sl) ?_ ?_
       ·
        refine k_again 64 rfl ?_
        refine k_split (fun c42 => ?_) (fun c42 => ?_)
        ·
         refine k_yes rfl rfl ?_
         refine k_move rfl rfl ?_
         refine k_yes rfl rfl ?_
         refine k_eql rfl rfl rfl ?_
         refine k_pickT rfl rfl rfl rfl ?_
         exact k_met ⟨s40, ⟨(congrArg (fun b => some (Value.bool b)) (by first | exact decide_eq_decide.2 ⟨fun h => ⟨c42, h⟩, fun h => h.2⟩ | exact (decide_eq_false (fun h => c42 h.1)).symm | (simp [c42]; done) | exact dec_andT c42 | exact dec_andF c42 | exact dec_orF c42 | exact dec_orT c42 | (simp [c42, i64] <;> omega))), trivial⟩, ⟨rfl, rfl, rfl, rfl, rfl, rfl, rfl, rfl, rfl, rfl, trivial⟩, rfl, hE41⟩
        ·
         refine k_no rfl rfl rfl rfl ?_
         refine k_no rfl rfl rfl rfl ?_
         refine k_pickF rfl rfl rfl rfl ?_
         exact k_met ⟨s40, ⟨(congrArg (fun b => some (Value.bool b)) (by first | exact decide_eq_decide.2 ⟨fun h => ⟨c42, h⟩, fun h => h.2⟩ | exact (decide_eq_false (fun h => c42 h.1)).symm | (simp [c42]; done) | exact dec_andT c42 | exact dec_andF c42 | exact dec_orF c42 | exact dec_orT c42 | (simp [c42, i64] <;> omega))), trivial⟩, ⟨rfl, rfl, rfl, rfl, rfl, rfl, rfl, rfl, rfl, rfl, trivial⟩, rfl, hE41⟩
       ·
        rintro s43 wL ⟨rfl, hE41⟩
        have szs43 := hE41.size
        have hS := hS.trans0 hE41
        replace h40_0 := h40_0.up2 hE41
        replace h1_0 := h1_0.up2 hE41
        replace h29_0 := h29_0.up2 hE41
        refine k_move rfl rfl ?_
        have hE44 := Step.r0 K0 s43
        refine k_cutl (X := St) 3 [(0, .bool false), (1, (.pointer (some ⟨pb3, 0, none⟩))), (5, .int .i64 x5.1), (6, .int .i64 x6.1), (7, .int .i64 x7), (8, .int .i64 x8), (9, (.pointer (some ⟨pb39, 0, none⟩))), (11, v40_0), (62, .int .i64 x5.1), (63, .bool (decide (x5.1 = 0))), (67, .bool (decide ((x5.1 = 0) ∧ (x6.1 = 0))))] (fun _ => [(71, .bool (decide (((x5.1 = 0) ∧ (x6.1 = 0)) ∧ (x7 = 19))))]) (fun sl wL => sl.w = wL ∧ Step K0 s43 sl) ?_ ?_
        ·
         refine k_again 68 rfl ?_
         refine k_split (fun c45 => ?_) (fun c45 => ?_)
         ·
          refine k_yes rfl rfl ?_
          refine k_move rfl rfl ?_
          refine k_yes rfl rfl ?_
          refine k_eql rfl rfl rfl ?_
          refine k_pickT rfl rfl rfl rfl ?_
          exact k_met ⟨s43, ⟨(congrArg (fun b => some (Value.bool b)) (by first | exact decide_eq_decide.2 ⟨fun h => ⟨c45, h⟩, fun h => h.2⟩ | exact (decide_eq_false (fun h => c45 h.1)).symm | (simp [c45]; done) | exact dec_andT c45 | exact dec_andF c45 | exact dec_orF c45 | exact dec_orT c45 | (simp [c45, i64] <;> omega))), trivial⟩, ⟨rfl, rfl, rfl, rfl, rfl, rfl, rfl, rfl, rfl, rfl, rfl, trivial⟩, rfl, hE44⟩
         ·
          refine k_no rfl rfl rfl rfl ?_
          refine k_no rfl rfl rfl rfl ?_
          refine k_pickF rfl rfl rfl rfl ?_
          exact k_met ⟨s43, ⟨(congrArg (fun b => some (Value.bool b)) (by first | exact decide_eq_decide.2 ⟨fun h => ⟨c45, h⟩, fun h => h.2⟩ | exact (decide_eq_false (fun h => c45 h.1)).symm | (simp [c45]; done) | exact dec_andT c45 | exact dec_andF c45 | exact dec_orF c45 | exact dec_orT c45 | (simp [c45, i64] <;> omega))), trivial⟩, ⟨rfl, rfl, rfl, rfl, rfl, rfl, rfl, rfl, rfl, rfl, rfl, trivial⟩, rfl, hE44⟩
        ·
         rintro s46 wL ⟨rfl, hE44⟩
         have szs46 := hE44.size
         have hS := hS.trans0 hE44
         replace h40_0 := h40_0.up2 hE44
         replace h1_0 := h1_0.up2 hE44
         replace h29_0 := h29_0.up2 hE44
         refine k_move rfl rfl ?_
         have hE47 := Step.r0 K0 s46
         refine k_cutl (X := St) 3 [(0, .bool false), (1, (.pointer (some ⟨pb3, 0, none⟩))), (5, .int .i64 x5.1), (6, .int .i64 x6.1), (7, .int .i64 x7), (8, .int .i64 x8), (9, (.pointer (some ⟨pb39, 0, none⟩))), (11, v40_0), (62, .int .i64 x5.1), (63, .bool (decide (x5.1 = 0))), (67, .bool (decide ((x5.1 = 0) ∧ (x6.1 = 0)))), (71, .bool (decide (((x5.1 = 0) ∧ (x6.1 = 0)) ∧ (x7 = 19))))] (fun _ => [(75, .bool (decide ((((x5.1 = 0) ∧ (x6.1 = 0)) ∧ (x7 = 19)) ∧ (x8 = 2))))]) (fun sl wL => sl.w = wL ∧ Step K0 s46 sl) ?_ ?_
         ·
          refine k_again 72 rfl ?_
          refine k_split (fun c48 => ?_) (fun c48 => ?_)
          ·
           refine k_yes rfl rfl ?_
           refine k_move rfl rfl ?_
           refine k_yes rfl rfl ?_
           refine k_eql rfl rfl rfl ?_
           refine k_pickT rfl rfl rfl rfl ?_
           exact k_met ⟨s46, ⟨(congrArg (fun b => some (Value.bool b)) (by first | exact decide_eq_decide.2 ⟨fun h => ⟨c48, h⟩, fun h => h.2⟩ | exact (decide_eq_false (fun h => c48 h.1)).symm | (simp [c48]; done) | exact dec_andT c48 | exact dec_andF c48 | exact dec_orF c48 | exact dec_orT c48 | (simp [c48, i64] <;> omega))), trivial⟩, ⟨rfl, rfl, rfl, rfl, rfl, rfl, rfl, rfl, rfl, rfl, rfl, rfl, trivial⟩, rfl, hE47⟩
          ·
           refine k_no rfl rfl rfl rfl ?_
           refine k_no rfl rfl rfl rfl ?_
           refine k_pickF rfl rfl rfl rfl ?_
           exact k_met ⟨s46, ⟨(congrArg (fun b => some (Value.bool b)) (by first | exact decide_eq_decide.2 ⟨fun h => ⟨c48, h⟩, fun h => h.2⟩ | exact (decide_eq_false (fun h => c48 h.1)).symm | (simp [c48]; done) | exact dec_andT c48 | exact dec_andF c48 | exact dec_orF c48 | exact dec_orT c48 | (simp [c48, i64] <;> omega))), trivial⟩, ⟨rfl, rfl, rfl, rfl, rfl, rfl, rfl, rfl, rfl, rfl, rfl, rfl, trivial⟩, rfl, hE47⟩
         ·
          rintro s49 wL ⟨rfl, hE47⟩
          have szs49 := hE47.size
          have hS := hS.trans0 hE47
          replace h40_0 := h40_0.up2 hE47
          replace h1_0 := h1_0.up2 hE47
          replace h29_0 := h29_0.up2 hE47
          refine k_move rfl rfl ?_
          have hE50 := Step.r0 K0 s49
          refine k_cutl (X := St) 4 [(0, .bool false), (1, (.pointer (some ⟨pb3, 0, none⟩))), (5, .int .i64 x5.1), (6, .int .i64 x6.1), (7, .int .i64 x7), (8, .int .i64 x8), (9, (.pointer (some ⟨pb39, 0, none⟩))), (11, v40_0), (62, .int .i64 x5.1), (63, .bool (decide (x5.1 = 0))), (67, .bool (decide ((x5.1 = 0) ∧ (x6.1 = 0)))), (71, .bool (decide (((x5.1 = 0) ∧ (x6.1 = 0)) ∧ (x7 = 19)))), (75, .bool (decide ((((x5.1 = 0) ∧ (x6.1 = 0)) ∧ (x7 = 19)) ∧ (x8 = 2))))] (fun _ => [(80, .bool (decide (((((x5.1 = 0) ∧ (x6.1 = 0)) ∧ (x7 = 19)) ∧ (x8 = 2)) ∧ ((x15.length : Int) = 2))))]) (fun sl wL => sl.w = wL ∧ Step K0 s49 sl) ?_ ?_
          ·
           refine k_again 76 rfl ?_
           refine k_split (fun c51 => ?_) (fun c51 => ?_)
           ·
            refine k_yes rfl rfl ?_
            refine k_move rfl rfl ?_
            refine k_yes rfl rfl ?_
            refine k_len Tryd.underlying32 rfl (SL.of_R h40_0).hasLen rfl ?_
            refine k_as (v := .int .i64 (x15.length : Int)) (by simp only [List.length_map]) ?_
            refine k_yes rfl rfl ?_
            refine k_eql rfl rfl rfl ?_
            refine k_pickT rfl rfl rfl rfl ?_
            exact k_met ⟨s49, ⟨(congrArg (fun b => some (Value.bool b)) (by first | exact decide_eq_decide.2 ⟨fun h => ⟨c51, h⟩, fun h => h.2⟩ | exact (decide_eq_false (fun h => c51 h.1)).symm | (simp [c51]; done) | exact dec_andT c51 | exact dec_andF c51 | exact dec_orF c51 | exact dec_orT c51 | (simp [c51, i64] <;> omega))), trivial⟩, ⟨rfl, rfl, rfl, rfl, rfl, rfl, rfl, rfl, rfl, rfl, rfl, rfl, rfl, trivial⟩, rfl, hE50⟩
           ·
            refine k_no rfl rfl rfl rfl ?_
            refine k_no rfl rfl rfl rfl ?_
            refine k_no rfl rfl rfl rfl ?_
            refine k_pickF rfl rfl rfl rfl ?_
            exact k_met ⟨s49, ⟨(congrArg (fun b => some (Value.bool b)) (by first | exact decide_eq_decide.2 ⟨fun h => ⟨c51, h⟩, fun h => h.2⟩ | exact (decide_eq_false (fun h => c51 h.1)).symm | (simp [c51]; done) | exact dec_andT c51 | exact dec_andF c51 | exact dec_orF c51 | exact dec_orT c51 | (simp [c51, i64] <;> omega))), trivial⟩, ⟨rfl, rfl, rfl, rfl, rfl, rfl, rfl, rfl, rfl, rfl, rfl, rfl, rfl, trivial⟩, rfl, hE50⟩
          ·
           rintro s52 wL ⟨rfl, hE50⟩
           have szs52 := hE50.size
           have hS := hS.trans0 hE50
           replace h40_0 := h40_0.up2 hE50
           replace h1_0 := h1_0.up2 hE50
           replace h29_0 := h29_0.up2 hE50
           refine k_move rfl rfl ?_
           obtain ⟨x16, hx16, h⟩ := ob h
           have hE53 := Step.r0 K0 s52
           refine k_cutl (X := St) 6 [(0, .bool false), (1, (.pointer (some ⟨pb3, 0, none⟩))), (5, .int .i64 x5.1), (6, .int .i64 x6.1), (7, .int .i64 x7), (8, .int .i64 x8), (9, (.pointer (some ⟨pb39, 0, none⟩))), (11, v40_0), (62, .int .i64 x5.1), (63, .bool (decide (x5.1 = 0))), (67, .bool (decide ((x5.1 = 0) ∧ (x6.1 = 0)))), (71, .bool (decide (((x5.1 = 0) ∧ (x6.1 = 0)) ∧ (x7 = 19)))), (75, .bool (decide ((((x5.1 = 0) ∧ (x6.1 = 0)) ∧ (x7 = 19)) ∧ (x8 = 2)))), (80, .bool (decide (((((x5.1 = 0) ∧ (x6.1 = 0)) ∧ (x7 = 19)) ∧ (x8 = 2)) ∧ ((x15.length : Int) = 2))))] (fun _ => [(87, .bool x16)]) (fun sl wL => sl.w = wL ∧ Step K0 s52 sl) ?_ ?_
           ·
            refine k_again 81 rfl ?_
            refine k_split (fun c54 => ?_) (fun c54 => ?_)
            ·
             have hx16 := itT hx16 c54
             refine k_yes rfl rfl ?_
             refine k_move rfl rfl ?_
             refine k_yes rfl rfl ?_
             obtain ⟨x17, hx17, hx16⟩ := ob hx16
             refine k_ixaddr Tryd.underlying32 size33 rfl rfl (SL.of_R h40_0) (geti_out hx17).1 (geti_map hx17) rfl ?_
             intro qx17 hqx17
             refine k_yes rfl rfl ?_
             refine k_load_sl one33 rfl hqx17 rfl ?_
             intro v55 h55
             refine k_yes rfl rfl ?_
             refine k_bts (m := x17) Tryd.underlying33 Tryd.underlying5 Tryd.underlying9 rfl (SL.of_R h55) rfl ?_
             refine k_yes rfl rfl ?_
             refine k_eql_str rfl rfl rfl ?_
             refine k_pickT rfl rfl rfl rfl ?_
             exact k_met ⟨s52, ⟨(congrArg (fun b => some (Value.bool b)) (Option.some.inj hx16)), trivial⟩, ⟨rfl, rfl, rfl, rfl, rfl, rfl, rfl, rfl, rfl, rfl, rfl, rfl, rfl, rfl, trivial⟩, rfl, hE53⟩
            ·
             have hx16 := itF hx16 c54
             refine k_no rfl rfl rfl rfl ?_
             refine k_no rfl rfl rfl rfl ?_
             refine k_no rfl rfl rfl rfl ?_
             refine k_no rfl rfl rfl rfl ?_
             refine k_no rfl rfl rfl rfl ?_
             refine k_pickF rfl rfl rfl rfl ?_
             exact k_met ⟨s52, ⟨(congrArg (fun b => some (Value.bool b)) (Option.some.inj hx16)), trivial⟩, ⟨rfl, rfl, rfl, rfl, rfl, rfl, rfl, rfl, rfl, rfl, rfl, rfl, rfl, rfl, trivial⟩, rfl, hE53⟩
           ·
            rintro s56 wL ⟨rfl, hE53⟩
            have szs56 := hE53.size
            have hS := hS.trans0 hE53
            replace h1_0 := h1_0.up2 hE53
            replace h29_0 := h29_0.up2 hE53
            refine k_move rfl rfl ?_
            obtain ⟨x18, hx18, h⟩ := ob h
            have hE57 := Step.r0 K0 s56
            refine k_cutl (X := St) 4 [(0, .bool false), (1, (.pointer (some ⟨pb3, 0, none⟩))), (5, .int .i64 x5.1), (6, .int .i64 x6.1), (7, .int .i64 x7), (8, .int .i64 x8), (9, (.pointer (some ⟨pb39, 0, none⟩))), (11, v40_0), (62, .int .i64 x5.1), (63, .bool (decide (x5.1 = 0))), (67, .bool (decide ((x5.1 = 0) ∧ (x6.1 = 0)))), (71, .bool (decide (((x5.1 = 0) ∧ (x6.1 = 0)) ∧ (x7 = 19)))), (75, .bool (decide ((((x5.1 = 0) ∧ (x6.1 = 0)) ∧ (x7 = 19)) ∧ (x8 = 2)))), (80, .bool (decide (((((x5.1 = 0) ∧ (x6.1 = 0)) ∧ (x7 = 19)) ∧ (x8 = 2)) ∧ ((x15.length : Int) = 2)))), (87, .bool x16)] (fun _ => [(92, .bool x18)]) (fun sl wL => sl.w = wL ∧ Step K0 s56 sl) ?_ ?_
            ·
             refine k_again 88 rfl ?_
             refine k_splitb (fun c58 => ?_) (fun c58 => ?_)
             ·
              have hx18 := ibT hx18 c58
              refine k_yes rfl rfl ?_
              refine k_move rfl rfl ?_
              refine k_yes rfl rfl ?_
              obtain ⟨x19, hx19, hx18⟩ := ob hx18
              refine k_call cal26 rfl (disk_Disk_Size_w  h1_0 hx19) rfl ?_
              rintro s59 vr59 st59 rfl
              have szs59 := st59.size
              have hS := hS.trans0 st59
              have hE57 := hE57.trans0 st59
              refine k_yes rfl rfl ?_
              refine k_eql rfl rfl rfl ?_
              refine k_pickT rfl rfl rfl rfl ?_
              exact k_met ⟨s59, ⟨(congrArg (fun b => some (Value.bool b)) (Option.some.inj hx18)), trivial⟩, ⟨rfl, rfl, rfl, rfl, rfl, rfl, rfl, rfl, rfl, rfl, rfl, rfl, rfl, rfl, rfl, trivial⟩, rfl, hE57⟩
             ·
              have hx18 := ibF hx18 c58
              refine k_no rfl rfl rfl rfl ?_
              refine k_no rfl rfl rfl rfl ?_
              refine k_no rfl rfl rfl rfl ?_
              refine k_pickF rfl rfl rfl rfl ?_
              exact k_met ⟨s56, ⟨(congrArg (fun b => some (Value.bool b)) (Option.some.inj hx18)), trivial⟩, ⟨rfl, rfl, rfl, rfl, rfl, rfl, rfl, rfl, rfl, rfl, rfl, rfl, rfl, rfl, rfl, trivial⟩, rfl, hE57⟩
            ·
             rintro s60 wL ⟨rfl, hE57⟩
             have szs60 := hE57.size
             have hS := hS.trans0 hE57
             replace h1_0 := h1_0.up2 hE57
             replace h29_0 := h29_0.up2 hE57
             refine k_move rfl rfl ?_
             obtain ⟨x20, hx20, h⟩ := ob h
             have hE61 := Step.r0 (KU (KO ku29_0) (KO ku1_0)) s60
             refine k_cutl (X := St) 5 [(0, .bool false), (1, (.pointer (some ⟨pb3, 0, none⟩))), (5, .int .i64 x5.1), (6, .int .i64 x6.1), (7, .int .i64 x7), (8, .int .i64 x8), (9, (.pointer (some ⟨pb39, 0, none⟩))), (11, v40_0), (62, .int .i64 x5.1), (63, .bool (decide (x5.1 = 0))), (67, .bool (decide ((x5.1 = 0) ∧ (x6.1 = 0)))), (71, .bool (decide (((x5.1 = 0) ∧ (x6.1 = 0)) ∧ (x7 = 19)))), (75, .bool (decide ((((x5.1 = 0) ∧ (x6.1 = 0)) ∧ (x7 = 19)) ∧ (x8 = 2)))), (80, .bool (decide (((((x5.1 = 0) ∧ (x6.1 = 0)) ∧ (x7 = 19)) ∧ (x8 = 2)) ∧ ((x15.length : Int) = 2)))), (87, .bool x16), (92, .bool x18)] (fun _ => [(98, .bool x20.1)]) (fun sl wL => sl.w = wL ∧ Step (KU (KO ku29_0) (KO ku1_0)) s60 sl ∧ ODiskDisk sl ku1_0 (.pointer (some ⟨pb3, 0, none⟩)) x20.2.1 ∧ OLogfileLog (.pointer (some ⟨pb3, 0, none⟩)) sl ku29_0 (.pointer (some ⟨pb39, 0, none⟩)) x20.2.2) ?_ ?_
             ·
              refine k_again 93 rfl ?_
              refine k_splitb (fun c62 => ?_) (fun c62 => ?_)
              ·
               have hx20 := ibT hx20 c62
               refine k_yes rfl rfl ?_
               refine k_move rfl rfl ?_
               refine k_yes rfl rfl ?_
               obtain ⟨x21, hx21, hx20⟩ := ob hx20
               refine k_makeI2 (dz := bD (0 : UInt8)) (p := 80) elem33 rfl rfl (makel_out hx21).1 (RC.val _ rfl) rfl (by have := (makel_out hx21).2.1; omega) (by have := (makel_out hx21).2.1; omega) rfl ?_
               intro s63 v63 b63 st63 ge63 bl63 h63
               rw [← List.map_replicate, ← (makel_out hx21).2.2] at h63
               have szs63 := st63.size
               have hS := hS.trans0 st63
               have hE61 := hE61.trans0 st63
               replace h1_0 := h1_0.up2 st63
               replace h29_0 := h29_0.up2 st63
               have lt63 := Own.le1 h63
               refine k_yes rfl rfl ?_
               obtain ⟨s64, e64, st64, h64⟩ := h63.freeze
               rw [← e64]
               have szs64 := st64.size
               have hS := hS.c0 st64
               have hE61 := hE61.c0 st64
               replace h1_0 := h1_0.up2 st64
               replace h29_0 := h29_0.up2 st64
               obtain ⟨x22, hx22, hx20⟩ := ob hx20
               refine k_call cal11 rfl (logfile_Log_Append_r2_w  h29_0 (show R s64 v63 (.sl 1 (x21.map bD)) from h64) h1_0 (by first | assumption | omega | (dsimp only; omega) | (simp <;> omega)) hx22) rfl ?_
               rintro s65 vr65 st65 ⟨rfl, h29_0, h1_0⟩
               have szs65 := st65.size
               have hS := hS.c0 st65
               have hE61 := hE61.c0 st65
               refine k_yes rfl rfl ?_
               refine k_eql rfl rfl rfl ?_
               refine k_pickT rfl rfl rfl rfl ?_
               obtain rfl := Option.some.inj hx20
               exact k_met ⟨s65, ⟨rfl, trivial⟩, ⟨rfl, rfl, rfl, rfl, rfl, rfl, rfl, rfl, rfl, rfl, rfl, rfl, rfl, rfl, rfl, rfl, trivial⟩, rfl, hE61, h1_0, h29_0⟩
              ·
               have hx20 := ibF hx20 c62
               refine k_no rfl rfl rfl rfl ?_
               refine k_no rfl rfl rfl rfl ?_
               refine k_no rfl rfl rfl rfl ?_
               refine k_no rfl rfl rfl rfl ?_
               refine k_pickF rfl rfl rfl rfl ?_
               obtain rfl := Option.some.inj hx20
               exact k_met ⟨s60, ⟨rfl, trivial⟩, ⟨rfl, rfl, rfl, rfl, rfl, rfl, rfl, rfl, rfl, rfl, rfl, rfl, rfl, rfl, rfl, rfl, trivial⟩, rfl, hE61, h1_0, h29_0⟩
             ·
              rintro s66 wL ⟨rfl, hE61, h1_0, h29_0⟩
              have szs66 := hE61.size
              have hS := hS.c0 hE61
              refine k_move rfl rfl ?_
              obtain ⟨x23, hx23, h⟩ := ob h
              have hE67 := Step.r0 (KU (KO ku29_0) (KO ku1_0)) s66
              refine k_cutl (X := St) 5 [(0, .bool false), (1, (.pointer (some ⟨pb3, 0, none⟩))), (5, .int .i64 x5.1), (6, .int .i64 x6.1), (7, .int .i64 x7), (8, .int .i64 x8), (9, (.pointer (some ⟨pb39, 0, none⟩))), (11, v40_0), (62, .int .i64 x5.1), (63, .bool (decide (x5.1 = 0))), (67, .bool (decide ((x5.1 = 0) ∧ (x6.1 = 0)))), (71, .bool (decide (((x5.1 = 0) ∧ (x6.1 = 0)) ∧ (x7 = 19)))), (75, .bool (decide ((((x5.1 = 0) ∧ (x6.1 = 0)) ∧ (x7 = 19)) ∧ (x8 = 2)))), (80, .bool (decide (((((x5.1 = 0) ∧ (x6.1 = 0)) ∧ (x7 = 19)) ∧ (x8 = 2)) ∧ ((x15.length : Int) = 2)))), (87, .bool x16), (92, .bool x18), (98, .bool x20.1)] (fun _ => [(104, .bool x23.1)]) (fun sl wL => sl.w = wL ∧ Step (KU (KO ku29_0) (KO ku1_0)) s66 sl ∧ ODiskDisk sl ku1_0 (.pointer (some ⟨pb3, 0, none⟩)) x23.2.1 ∧ OLogfileLog (.pointer (some ⟨pb3, 0, none⟩)) sl ku29_0 (.pointer (some ⟨pb39, 0, none⟩)) x23.2.2) ?_ ?_
              ·
               refine k_again 99 rfl ?_
               refine k_splitb (fun c68 => ?_) (fun c68 => ?_)
               ·
                have hx23 := ibT hx23 c68
                refine k_yes rfl rfl ?_
                refine k_move rfl rfl ?_
                refine k_yes rfl rfl ?_
                obtain ⟨x24, hx24, hx23⟩ := ob hx23
                refine k_makeI2 (dz := bD (0 : UInt8)) (p := 16385) elem33 rfl rfl (makel_out hx24).1 (RC.val _ rfl) rfl (by have := (makel_out hx24).2.1; omega) (by have := (makel_out hx24).2.1; omega) rfl ?_
                intro s69 v69 b69 st69 ge69 bl69 h69
                rw [← List.map_replicate, ← (makel_out hx24).2.2] at h69
                have szs69 := st69.size
                have hS := hS.trans0 st69
                have hE67 := hE67.trans0 st69
                replace h1_0 := h1_0.up2 st69
                replace h29_0 := h29_0.up2 st69
                have lt69 := Own.le1 h69
                refine k_yes rfl rfl ?_
                obtain ⟨s70, e70, st70, h70⟩ := h69.freeze
                rw [← e70]
                have szs70 := st70.size
                have hS := hS.c0 st70
                have hE67 := hE67.c0 st70
                replace h1_0 := h1_0.up2 st70
                replace h29_0 := h29_0.up2 st70
                obtain ⟨x25, hx25, hx23⟩ := ob hx23
                refine k_call cal11 rfl (logfile_Log_Append_r2_w  h29_0 (show R s70 v69 (.sl 1 (x24.map bD)) from h70) h1_0 (by first | assumption | omega | (dsimp only; omega) | (simp <;> omega)) hx25) rfl ?_
                rintro s71 vr71 st71 ⟨rfl, h29_0, h1_0⟩
                have szs71 := st71.size
                have hS := hS.c0 st71
                have hE67 := hE67.c0 st71
                refine k_yes rfl rfl ?_
                refine k_eql rfl rfl rfl ?_
                refine k_pickT rfl rfl rfl rfl ?_
                obtain rfl := Option.some.inj hx23
                exact k_met ⟨s71, ⟨rfl, trivial⟩, ⟨rfl, rfl, rfl, rfl, rfl, rfl, rfl, rfl, rfl, rfl, rfl, rfl, rfl, rfl, rfl, rfl, rfl, trivial⟩, rfl, hE67, h1_0, h29_0⟩
               ·
                have hx23 := ibF hx23 c68
                refine k_no rfl rfl rfl rfl ?_
                refine k_no rfl rfl rfl rfl ?_
                refine k_no rfl rfl rfl rfl ?_
                refine k_no rfl rfl rfl rfl ?_
                refine k_pickF rfl rfl rfl rfl ?_
                obtain rfl := Option.some.inj hx23
                exact k_met ⟨s66, ⟨rfl, trivial⟩, ⟨rfl, rfl, rfl, rfl, rfl, rfl, rfl, rfl, rfl, rfl, rfl, rfl, rfl, rfl, rfl, rfl, rfl, trivial⟩, rfl, hE67, h1_0, h29_0⟩
              ·
               rintro s72 wL ⟨rfl, hE67, h1_0, h29_0⟩
               have szs72 := hE67.size
               have hS := hS.c0 hE67
               refine k_assign rfl rfl ?_
               refine k_nil ?_
               refine k_keep [(0, _)] ⟨rfl, trivial⟩ ?_
               refine k_ret ?_
               obtain rfl := Option.some.inj h
               refine ⟨_, rfl, Ret.mk hS ?_⟩
               exact rfl

set_option maxHeartbeats 1000000 in
set_option maxRecDepth 100000 in
theorem law11_many_w {s : St} {l0 : Lab} {v0 : Value} {a0 : (List Law11Act)} {r : Bool} (hp0 : SL s l0 v0 5 (a0.map dLaw11Act)) (h : law11_many a0 = some r) : Calls Tryd.prog 7 #[v0] s.w (Ret s K0 (fun s1 v => v = .bool r)) := by
 unfold law11_many at h
 obtain ⟨lf0, lf0le, lf0ne, hp0⟩ := hp0.fix
 have hS := Step.r0 K0 s
 refine k_fn (rs := [2]) (args := [v0]) Tryd.func7 rfl rfl rfl rfl ?_
 refine k_seq ?_
 refine k_region ?_
 refine k_assign rfl rfl ?_
 refine k_nil ?_
 refine k_seq ?_
 refine k_region ?_
 refine k_assign rfl rfl ?_
 refine k_nil ?_
 refine k_seq ?_
 obtain ⟨kj1, hK1, h⟩ := jn_out h
 have hE1 := Step.r0 K0 s
 refine k_cutc (X := St) [(2, .bool false)] (fun (xL : St) => match xL with | sl => []) (fun (xL : St) (wL : World) => match xL with | sl => sl.w = wL ∧ Step K0 s sl ∧ kj1 () = some r) ?_ ?_
 ·
  refine k_seq ?_
  refine k_region ?_
  refine k_assign rfl rfl ?_
  refine k_nil ?_
  refine k_block ?_
  refine k_loopc (X := St × Int × Int × Nat) [(0, _), (2, _)] (fun (xL : St × Int × Int × Nat) => match xL with | (sl, x2, x3, j) => [(3, .int .i64 x2), (4, .int .i64 x3)]) (fun (xL : St × Int × Int × Nat) (wL : World) => match xL with | (sl, x2, x3, j) => sl.w = wL ∧ Step K0 s sl ∧ law11_many_l1 a0 kj1 j x2 x3 = some r) (fun (xL : St × Int × Int × Nat) => match xL with | (sl, x2, x3, j) => j) (s, 0, 0, FU) ⟨rfl, rfl, trivial⟩ ⟨(by first | rfl | (simp <;> rfl)), (by first | rfl | (simp <;> rfl)), trivial⟩ ⟨rfl, (Step.refl _).of0 (by first | exact fun _ h => h | (intro c h; simp [KC, KO, KU, KN, KB] at h <;> omega)), h⟩ ?_
  rintro ⟨s3, x2, x3, j⟩ wL ⟨rfl, hE2, h⟩
  cases j with
  | zero => rw [law11_many_l1] at h; exact (noneNe h).elim
  | succ j =>
  rw [law11_many_l1] at h
  have szs3 := hE2.size
  have hS := hS.trans0 hE2
  have hE1 := hE1.trans0 hE2
  replace hp0 := hp0.up2 hE2
  refine k_seq ?_
  refine k_seq ?_
  refine k_region ?_
  refine k_move rfl rfl ?_
  refine k_move rfl rfl ?_
  refine k_len Tryd.underlying22 rfl hp0.hasLen rfl ?_
  refine k_as (v := .int .i64 (a0.length : Int)) (by simp only [List.length_map]) ?_
  refine k_lss rfl rfl rfl ?_
  refine k_nil ?_
  refine k_keep [(0, _), (2, _), (3, _), (4, _), (8, _)] ⟨rfl, rfl, rfl, rfl, rfl, trivial⟩ ?_
  refine k_cond_dec rfl (fun c4 => ?_) (fun c4 => ?_)
  ·
   have h := itT h c4
   refine k_skip ?_
   refine k_seq ?_
   refine k_block ?_
   refine k_seq ?_
   refine k_region ?_
   refine k_move rfl rfl ?_
   refine k_move rfl rfl ?_
   refine k_move rfl rfl ?_
   obtain ⟨x4, hx4, h⟩ := ob h
   refine k_ixaddr Tryd.underlying22 size35 rfl rfl hp0 (geti_out hx4).1 (geti_map hx4) rfl ?_
   intro qx4 hqx4
   refine k_field_at (o := 0) rfl hqx4 (by rfl) fld35_4 rfl ?_
   intro q5 h5
   refine k_load_sl one33 rfl h5 rfl ?_
   intro v6 h6
   refine k_len Tryd.underlying33 rfl (SL.of_R h6).hasLen rfl ?_
   refine k_as (v := .int .i64 (x4.Bytes.length : Int)) (by simp only [List.length_map]) ?_
   refine k_quo rfl rfl (by decide) rfl ?_
   refine k_add rfl rfl rfl ?_
   refine k_add rfl rfl rfl ?_
   refine k_assign rfl rfl ?_
   refine k_nil ?_
   refine k_keep [(0, _), (2, _), (3, _), (4, _)] ⟨rfl, rfl, rfl, rfl, trivial⟩ ?_
   refine k_seq ?_
   refine k_region ?_
   refine k_move rfl rfl ?_
   refine k_gtr rfl rfl rfl ?_
   refine k_nil ?_
   refine k_keep [(0, _), (2, _), (3, _), (4, _), (22, _)] ⟨rfl, rfl, rfl, rfl, rfl, trivial⟩ ?_
   refine k_cond_dec rfl (fun c7 => ?_) (fun c7 => ?_)
   ·
    have h := itT h c7
    refine k_seq ?_
    refine k_region ?_
    refine k_assign rfl rfl ?_
    refine k_nil ?_
    refine k_keep [(0, _), (2, _), (3, _), (4, _)] ⟨rfl, rfl, rfl, rfl, trivial⟩ ?_
    refine k_ret ?_
    obtain rfl := Option.some.inj h
    refine ⟨_, rfl, Ret.mk hS ?_⟩
    exact rfl
   ·
    have h := itF h c7
    refine k_skip ?_
    refine k_blk ?_
    refine k_region ?_
    refine k_move rfl rfl ?_
    refine k_add rfl rfl rfl ?_
    refine k_assign rfl rfl ?_
    refine k_nil ?_
    exact k_stop ⟨(s3, i64 (x2 + (i64 (1 + (i64 ((x4.Bytes.length : Int).tdiv 128))))), i64 (x3 + 1), j), ⟨(by first | rfl | (simp <;> rfl)), (by first | rfl | (simp <;> rfl)), trivial⟩, ⟨rfl, rfl, trivial⟩, ⟨rfl, hE2, h⟩, (by simp)⟩
  ·
   have h := itF h c4
   refine k_exit rfl ?_
   exact k_stop ⟨s3, trivial, ⟨rfl, trivial⟩, ⟨rfl, hE1, h⟩⟩
 ·
  rintro s8 wL ⟨rfl, hE1, h⟩
  rw [hK1] at h
  have szs8 := hE1.size
  have hS := hS.trans0 hE1
  refine k_seq ?_
  refine k_region ?_
  refine k_assign rfl rfl ?_
  refine k_nil ?_
  refine k_ret ?_
  obtain rfl := Option.some.inj h
  refine ⟨_, rfl, Ret.mk hS ?_⟩
  exact rfl

set_option maxHeartbeats 1000000 in
set_option maxRecDepth 100000 in
theorem disk_Disk_Fuse_w {s : St} {k0 : Nat} {p0 : Value} {a0 : DiskDisk} {a1 : Int} {a2 : Int} {a3 : Int} {r : (Int × DiskDisk)} (ho0 : ODiskDisk s k0 p0 a0) (h : disk_Disk_Fuse a0 a1 a2 a3 = some r) : Calls Tryd.prog 13 #[p0, .int .i64 a1, .int .i64 a2, .int .i64 a3] s.w (Ret s (KO k0) (fun s1 v => v = .int .i64 r.1 ∧ ODiskDisk s1 k0 p0 r.2)) := by
 unfold disk_Disk_Fuse at h
 have le0 := ho0.le
 have ne0 := ho0.ne
 obtain ⟨bo0, rfl⟩ := ho0.ptr
 obtain ⟨wo0_0, wo0_1, hb_o0, hwo0_0, hwo0_1⟩ := ho0.at_
 have hS := Step.r0 (KO k0) s
 refine k_fn (rs := [8]) (args := [.pointer (some ⟨bo0, 0, none⟩), .int .i64 a1, .int .i64 a2, .int .i64 a3]) Tryd.func13 rfl rfl rfl rfl ?_
 refine k_seq ?_
 refine k_region ?_
 refine k_assign rfl rfl ?_
 refine k_nil ?_
 refine k_seq ?_
 refine k_block ?_
 refine k_seq ?_
 refine k_region ?_
 refine k_move rfl rfl ?_
 obtain ⟨x1, hx1, h⟩ := ob h
 refine k_call cal10 rfl (disk_Disk_Down_w  (ODiskDisk.mk_ a0 (by omega) hwo0_0 hwo0_1 hb_o0) hx1) rfl ?_
 rintro s1 vr1 st1 rfl
 have szs1 := st1.size
 have hS := hS.trans0 st1
 replace hwo0_0 := hwo0_0.up2 st1
 replace hwo0_1 := hwo0_1.up2 st1
 replace hb_o0 := hb_o0.up2 st1
 refine k_assign rfl rfl ?_
 refine k_nil ?_
 refine k_keep [(0, _), (1, _), (2, _), (3, _), (8, _), (9, _)] ⟨rfl, rfl, rfl, rfl, rfl, rfl, trivial⟩ ?_
 refine k_cond rfl (fun c2 => ?_) (fun c2 => ?_)
 ·
  have h := ibT h c2
  refine k_seq ?_
  refine k_region ?_
  refine k_assign rfl rfl ?_
  refine k_nil ?_
  refine k_keep [(0, _), (1, _), (2, _), (3, _), (8, _)] ⟨rfl, rfl, rfl, rfl, rfl, trivial⟩ ?_
  refine k_ret ?_
  obtain rfl := Option.some.inj h
  refine ⟨_, rfl, Ret.mk hS ?_⟩
  exact ⟨rfl, (ODiskDisk.mk_ a0 (by omega) hwo0_0 hwo0_1 hb_o0)⟩
 ·
  have h := ibF h c2
  refine k_seq ?_
  refine k_region ?_
  refine k_move rfl rfl ?_
  refine k_lss rfl rfl rfl ?_
  refine k_assign rfl rfl ?_
  refine k_nil ?_
  refine k_keep [(0, _), (1, _), (2, _), (3, _), (8, _), (12, _)] ⟨rfl, rfl, rfl, rfl, rfl, rfl, trivial⟩ ?_
  refine k_cond_dec rfl (fun c3 => ?_) (fun c3 => ?_)
  ·
   have h := itT h c3
   refine k_seq ?_
   refine k_region ?_
   refine k_assign rfl rfl ?_
   refine k_nil ?_
   refine k_keep [(0, _), (1, _), (2, _), (3, _), (8, _)] ⟨rfl, rfl, rfl, rfl, rfl, trivial⟩ ?_
   refine k_ret ?_
   obtain rfl := Option.some.inj h
   refine ⟨_, rfl, Ret.mk hS ?_⟩
   exact ⟨rfl, (ODiskDisk.mk_ a0 (by omega) hwo0_0 hwo0_1 hb_o0)⟩
  ·
   have h := itF h c3
   refine k_skip ?_
   refine k_blk ?_
   refine k_seq ?_
   refine k_region ?_
   refine k_move rfl rfl ?_
   refine k_move rfl rfl ?_
   refine k_move rfl rfl ?_
   refine k_move rfl rfl ?_
   refine k_build plc62 zero62 rfl (Parts.cons (CellsOf.lit rfl rfl).1 (Parts.cons (CellsOf.lit rfl rfl).1 (Parts.cons (CellsOf.lit rfl rfl).1 Parts.nil))) (by rfl) rfl ?_
   refine k_as (v := .agg #[.int .i64 a1, .int .i64 a2, .int .i64 a3]) rfl ?_
   refine k_nilCheck rfl rfl ?_
   refine k_field_addr fld64_5 rfl rfl ?_
   refine k_store_c (cs' := [.int .i64 a0.capacity, .bool a0.made, .bool a0.down, wo0_0, wo0_1, .int .i64 a1, .int .i64 a2, .int .i64 a3]) size62 rfl rfl hb_o0 (by first | (simp; done) | omega | (dsimp only; omega)) (CellsOf.lit rfl rfl) rfl (by first | rfl | (simp; done) | (simp; omega)) rfl ?_
   intro s4 st4 hb_o0
   have szs4 := st4.size
   have hS := hS.c0 st4
   replace hwo0_0 := hwo0_0.up2 st4
   replace hwo0_1 := hwo0_1.up2 st4
   refine k_nil ?_
   refine k_keep [(8, _)] ⟨rfl, trivial⟩ ?_
   refine k_seq ?_
   refine k_region ?_
   refine k_assign rfl rfl ?_
   refine k_nil ?_
   refine k_ret ?_
   obtain rfl := Option.some.inj h
   refine ⟨_, rfl, Ret.mk hS ?_⟩
   exact ⟨rfl, (ODiskDisk.mk_ (⟨a0.capacity, a0.made, a0.down, a0.pictures, a0.calls, (⟨a1, a2, a3⟩ : DiskFuse)⟩ : DiskDisk) (by omega) hwo0_0 hwo0_1 hb_o0)⟩

set_option maxHeartbeats 1000000 in
set_option maxRecDepth 100000 in
theorem law11_opens_w {s : St} {k0 : Nat} {p0 : Value} {a0 : DiskDisk} {a1 : Int} {a2 : Int} {r : ((Option LogfileLog) × Bool × DiskDisk)} (ho0 : ODiskDisk s k0 p0 a0) (h : law11_opens a0 a1 a2 = some r) : Calls Tryd.prog 14 #[p0, .int .i64 a1, .int .i64 a2] s.w (Ret s (KO k0) (fun s1 v => ∃ (ku0 : Nat), ∃ (u0 : Value), v = .tuple #[u0, .bool r.2.1] ∧ s.n < ku0 ∧ OptOLogfileLog p0 s1 ku0 u0 r.1 ∧ ODiskDisk s1 k0 p0 r.2.2)) := by
 unfold law11_opens at h
 have le0 := ho0.le
 have ne0 := ho0.ne
 have hS := Step.r0 (KO k0) s
 refine k_fn (rs := [6, 7]) (args := [p0, .int .i64 a1, .int .i64 a2]) Tryd.func14 rfl rfl rfl rfl ?_
 refine k_seq ?_
 refine k_region ?_
 refine k_assign rfl rfl ?_
 refine k_assign rfl rfl ?_
 refine k_nil ?_
 refine k_seq ?_
 refine k_region ?_
 refine k_move rfl rfl ?_
 refine k_move rfl rfl ?_
 refine k_move rfl rfl ?_
 obtain ⟨pb1, rfl⟩ := ho0.ptr
 obtain ⟨x1, hx1, h⟩ := ob h
 refine k_call cal24 rfl (disk_Disk_Crash_w  ho0 hx1) rfl ?_
 rintro s2 vr2 st2 ⟨rfl, ho0⟩
 have szs2 := st2.size
 have hS := hS.c0 st2
 refine k_nil ?_
 refine k_keep [(0, _), (6, _), (7, _)] ⟨rfl, rfl, rfl, trivial⟩ ?_
 refine k_seq ?_
 refine k_region ?_
 refine k_move rfl rfl ?_
 obtain ⟨x2, hx2, h⟩ := ob h
 refine k_call cal25 rfl (disk_Disk_Start_w  ho0 hx2) rfl ?_
 rintro s3 vr3 st3 ⟨rfl, ho0⟩
 have szs3 := st3.size
 have hS := hS.c0 st3
 refine k_nil ?_
 refine k_keep [(0, _), (6, _), (7, _)] ⟨rfl, rfl, rfl, trivial⟩ ?_
 refine k_seq ?_
 refine k_region ?_
 refine k_move rfl rfl ?_
 obtain ⟨x3, hx3, h⟩ := ob h
 refine k_call cal9 rfl (logfile_Open_w  ho0 hx3) rfl ?_
 rintro s4 vr4 st4 ⟨ku4_0, v4_0, rfl, hk4_0, h4_0, ho0⟩
 have szs4 := st4.size
 have hS := hS.c0 st4
 have ol4_0 := OptOLogfileLog.le (k := ku4_0) h4_0
 refine k_move rfl rfl ?_
 refine k_extract rfl rfl rfl ?_
 refine k_extract rfl rfl rfl ?_
 refine k_assign rfl rfl ?_
 refine k_assign rfl rfl ?_
 refine k_nil ?_
 refine k_keep [(0, _), (6, _), (7, _), (8, _), (9, _)] ⟨rfl, rfl, rfl, rfl, rfl, trivial⟩ ?_
 refine k_seq ?_
 obtain ⟨kj4, hK5, h⟩ := jn_out h
 have hE5 := Step.r0 (KO k0) s4
 refine k_cutc (X := St × Nat × Value × (Option LogfileLog) × Int × DiskDisk) [(6, .pointer none), (7, .bool false)] (fun (xL : St × Nat × Value × (Option LogfileLog) × Int × DiskDisk) => match xL with | (sl, kv6, pv6, x5, x6, x7) => [(8, pv6), (9, .int .i64 x6)]) (fun (xL : St × Nat × Value × (Option LogfileLog) × Int × DiskDisk) (wL : World) => match xL with | (sl, kv6, pv6, x5, x6, x7) => sl.w = wL ∧ Step (KO k0) s4 sl ∧ (OptOLogfileLog (.pointer (some ⟨pb1, 0, none⟩)) sl kv6 pv6 x5) ∧ (kv6 = ku4_0 ∨ s4.n < kv6) ∧ (ODiskDisk sl k0 (.pointer (some ⟨pb1, 0, none⟩)) x7) ∧ kj4 x5 x6 x7 = some r) ?_ ?_
 ·
  refine k_seq ?_
  refine k_region ?_
  refine k_move rfl rfl ?_
  refine k_eql rfl rfl rfl ?_
  refine k_nil ?_
  refine k_keep [(0, _), (6, _), (7, _), (8, _), (9, _), (22, _)] ⟨rfl, rfl, rfl, rfl, rfl, rfl, trivial⟩ ?_
  refine k_cond_dec rfl (fun c7 => ?_) (fun c7 => ?_)
  ·
   have h := itT h c7
   refine k_seq ?_
   refine k_region ?_
   refine k_move rfl rfl ?_
   obtain ⟨x8, hx8, h⟩ := ob h
   refine k_call cal25 rfl (disk_Disk_Start_w  ho0 hx8) rfl ?_
   rintro s8 vr8 st8 ⟨rfl, ho0⟩
   have szs8 := st8.size
   have hS := hS.c0 st8
   have hE5 := hE5.c0 st8
   replace h4_0 : OptOLogfileLog (.pointer (some ⟨pb1, 0, none⟩)) s8 ku4_0 v4_0 x3.1 := OptOLogfileLog.up3 h4_0 ol4_0 st8
   refine k_nil ?_
   refine k_keep [(0, _), (6, _), (7, _), (8, _), (9, _)] ⟨rfl, rfl, rfl, rfl, rfl, trivial⟩ ?_
   refine k_region ?_
   refine k_move rfl rfl ?_
   obtain ⟨x9, hx9, h⟩ := ob h
   refine k_call cal9 rfl (logfile_Open_w  ho0 hx9) rfl ?_
   rintro s9 vr9 st9 ⟨ku9_0, v9_0, rfl, hk9_0, h9_0, ho0⟩
   have szs9 := st9.size
   have hS := hS.c0 st9
   have hE5 := hE5.c0 st9
   replace h4_0 : OptOLogfileLog (.pointer (some ⟨pb1, 0, none⟩)) s9 ku4_0 v4_0 x3.1 := OptOLogfileLog.up3 h4_0 ol4_0 st9
   have ol9_0 := OptOLogfileLog.le (k := ku9_0) h9_0
   refine k_move rfl rfl ?_
   refine k_extract rfl rfl rfl ?_
   refine k_extract rfl rfl rfl ?_
   refine k_assign rfl rfl ?_
   refine k_assign rfl rfl ?_
   refine k_nil ?_
   exact k_stop ⟨(s9, ku9_0, v9_0, x9.1, x9.2.1, x9.2.2), ⟨(by first | rfl | (simp <;> rfl)), (by first | rfl | (simp <;> rfl)), trivial⟩, ⟨rfl, rfl, trivial⟩, ⟨rfl, hE5, h9_0, (by first | omega | (simp <;> omega)), ho0, h⟩⟩
  ·
   have h := itF h c7
   refine k_skip ?_
   exact k_stop ⟨(s4, ku4_0, v4_0, x3.1, x3.2.1, x3.2.2), ⟨(by first | rfl | (simp <;> rfl)), (by first | rfl | (simp <;> rfl)), trivial⟩, ⟨rfl, rfl, trivial⟩, ⟨rfl, hE5, h4_0, (by first | omega | (simp <;> omega)), ho0, h⟩⟩
 ·
  rintro ⟨s10, kv6, pv6, x5, x6, x7⟩ wL ⟨rfl, hE5, h6, hd6, ho0, h⟩
  have leh6 := h6.le
  rw [hK5] at h
  have szs10 := hE5.size
  have hS := hS.c0 hE5
  refine k_seq ?_
  refine k_region ?_
  refine k_move rfl rfl ?_
  refine k_move rfl rfl ?_
  refine k_eql rfl rfl rfl ?_
  refine k_move rfl rfl ?_
  rcases oc_out h with ⟨ho_11, h⟩ | ⟨x10, ho_11, h⟩
  ·
   rw [ho_11] at h6
   obtain rfl : pv6 = .pointer none := h6
   have hE12 := Step.r0 K0 s10
   refine k_cutl (X := St) 3 [(6, .pointer none), (7, .bool false), (8, .pointer none), (9, .int .i64 x6), (30, .pointer none), (31, .int .i64 x6), (32, .bool (decide (x6 = 0)))] (fun _ => [(36, .bool false)]) (fun sl wL => sl.w = wL ∧ Step K0 s10 sl) ?_ ?_
   ·
    refine k_again 33 rfl ?_
    refine k_split (fun c13 => ?_) (fun c13 => ?_)
    ·
     refine k_yes rfl rfl ?_
     refine k_move rfl rfl ?_
     refine k_yes rfl rfl ?_
     refine k_neq_pnil Tryd.underlying29 rfl rfl rfl ?_
     refine k_pickT rfl rfl rfl rfl ?_
     exact k_met ⟨s10, ⟨rfl, trivial⟩, ⟨rfl, rfl, rfl, rfl, rfl, rfl, rfl, trivial⟩, rfl, hE12⟩
    ·
     refine k_no rfl rfl rfl rfl ?_
     refine k_no rfl rfl rfl rfl ?_
     refine k_pickF rfl rfl rfl rfl ?_
     exact k_met ⟨s10, ⟨rfl, trivial⟩, ⟨rfl, rfl, rfl, rfl, rfl, rfl, rfl, trivial⟩, rfl, hE12⟩
   ·
    rintro s14 wL ⟨rfl, hE12⟩
    have szs14 := hE12.size
    have hS := hS.trans0 hE12
    replace ho0 := ho0.up2 hE12
    refine k_assign rfl rfl ?_
    refine k_assign rfl rfl ?_
    refine k_nil ?_
    refine k_keep [(6, _), (7, _)] ⟨rfl, rfl, trivial⟩ ?_
    refine k_ret ?_
    obtain rfl := Option.some.inj h
    refine ⟨_, rfl, Ret.mk hS ?_⟩
    exact ⟨s14.n + 1, _, rfl, by omega, rfl, ho0⟩
  ·
   rw [ho_11] at h6
   replace h6 : OLogfileLog (.pointer (some ⟨pb1, 0, none⟩)) s10 kv6 pv6 x10 := h6
   replace leh6 := leh6.resolve_left (fun e => by rw [e] at ho_11; cases ho_11)
   have le11 := h6.le
   have ne11 := h6.ne
   have hE15 := Step.r0 K0 s10
   refine k_cutl (X := St) 3 [(6, .pointer none), (7, .bool false), (8, pv6), (9, .int .i64 x6), (30, pv6), (31, .int .i64 x6), (32, .bool (decide (x6 = 0)))] (fun _ => [(36, .bool (decide ((x6 = 0) ∧ True)))]) (fun sl wL => sl.w = wL ∧ Step K0 s10 sl) ?_ ?_
   ·
    refine k_again 33 rfl ?_
    refine k_split (fun c16 => ?_) (fun c16 => ?_)
    ·
     refine k_yes rfl rfl ?_
     refine k_move rfl rfl ?_
     refine k_yes rfl rfl ?_
     obtain ⟨pb17, rfl⟩ := h6.ptr
     refine k_neq_pnil Tryd.underlying29 rfl rfl rfl ?_
     refine k_pickT rfl rfl rfl rfl ?_
     exact k_met ⟨s10, ⟨(congrArg (fun b => some (Value.bool b)) (by first | exact decide_eq_decide.2 ⟨fun h => ⟨c16, h⟩, fun h => h.2⟩ | exact (decide_eq_false (fun h => c16 h.1)).symm | (simp [c16]; done) | exact dec_andT c16 | exact dec_andF c16 | exact dec_orF c16 | exact dec_orT c16 | (simp [c16, i64] <;> omega))), trivial⟩, ⟨rfl, rfl, rfl, rfl, rfl, rfl, rfl, trivial⟩, rfl, hE15⟩
    ·
     refine k_no rfl rfl rfl rfl ?_
     refine k_no rfl rfl rfl rfl ?_
     refine k_pickF rfl rfl rfl rfl ?_
     exact k_met ⟨s10, ⟨(congrArg (fun b => some (Value.bool b)) (by first | exact decide_eq_decide.2 ⟨fun h => ⟨c16, h⟩, fun h => h.2⟩ | exact (decide_eq_false (fun h => c16 h.1)).symm | (simp [c16]; done) | exact dec_andT c16 | exact dec_andF c16 | exact dec_orF c16 | exact dec_orT c16 | (simp [c16, i64] <;> omega))), trivial⟩, ⟨rfl, rfl, rfl, rfl, rfl, rfl, rfl, trivial⟩, rfl, hE15⟩
   ·
    rintro s18 wL ⟨rfl, hE15⟩
    have szs18 := hE15.size
    have hS := hS.trans0 hE15
    replace ho0 := ho0.up2 hE15
    replace h6 := h6.up2 hE15
    refine k_assign rfl rfl ?_
    refine k_assign rfl rfl ?_
    refine k_nil ?_
    refine k_keep [(6, _), (7, _)] ⟨rfl, rfl, trivial⟩ ?_
    refine k_ret ?_
    obtain rfl := Option.some.inj h
    refine ⟨_, rfl, Ret.mk hS ?_⟩
    exact ⟨kv6, _, rfl, by omega, h6, ho0⟩

set_option maxHeartbeats 1000000 in
set_option maxRecDepth 100000 in
theorem ref11_Same_w {s : St} {l0 : Lab} {v0 : Value} {a0 : (List (List UInt8))} {l1 : Lab} {v1 : Value} {a1 : (List (List UInt8))} {r : Bool} (hp0 : SL s l0 v0 1 (a0.map (dL 1 bD))) (hp1 : SL s l1 v1 1 (a1.map (dL 1 bD))) (h : ref11_Same a0 a1 = some r) : Calls Tryd.prog 16 #[v0, v1] s.w (Ret s K0 (fun s1 v => v = .bool r)) := by
 unfold ref11_Same at h
 obtain ⟨lf0, lf0le, lf0ne, hp0⟩ := hp0.fix
 obtain ⟨lf1, lf1le, lf1ne, hp1⟩ := hp1.fix
 have hS := Step.r0 K0 s
 refine k_fn (rs := [4]) (args := [v0, v1]) Tryd.func16 rfl rfl rfl rfl ?_
 refine k_seq ?_
 refine k_region ?_
 refine k_assign rfl rfl ?_
 refine k_nil ?_
 refine k_seq ?_
 refine k_seq ?_
 refine k_region ?_
 refine k_move rfl rfl ?_
 refine k_len Tryd.underlying32 rfl hp0.hasLen rfl ?_
 refine k_as (v := .int .i64 (a0.length : Int)) (by simp only [List.length_map]) ?_
 refine k_move rfl rfl ?_
 refine k_len Tryd.underlying32 rfl hp1.hasLen rfl ?_
 refine k_as (v := .int .i64 (a1.length : Int)) (by simp only [List.length_map]) ?_
 refine k_neq rfl rfl rfl ?_
 refine k_nil ?_
 refine k_keep [(0, _), (1, _), (4, _), (10, _)] ⟨rfl, rfl, rfl, rfl, trivial⟩ ?_
 refine k_cond_dec rfl (fun c1 => ?_) (fun c1 => ?_)
 ·
  have h := itT h c1
  refine k_seq ?_
  refine k_region ?_
  refine k_assign rfl rfl ?_
  refine k_nil ?_
  refine k_keep [(0, _), (1, _), (4, _)] ⟨rfl, rfl, rfl, trivial⟩ ?_
  refine k_ret ?_
  obtain rfl := Option.some.inj h
  refine ⟨_, rfl, Ret.mk hS ?_⟩
  exact rfl
 ·
  have h := itF h c1
  refine k_skip ?_
  refine k_seq ?_
  refine k_keep [(0, _), (1, _), (4, _)] ⟨rfl, rfl, rfl, trivial⟩ ?_
  obtain ⟨kj1, hK2, h⟩ := jn_out h
  have hE2 := Step.r0 K0 s
  refine k_cutc (X := St) [(4, .bool false)] (fun (xL : St) => match xL with | sl => []) (fun (xL : St) (wL : World) => match xL with | sl => sl.w = wL ∧ Step K0 s sl ∧ kj1 () = some r) ?_ ?_
  ·
   refine k_seq ?_
   refine k_region ?_
   refine k_assign rfl rfl ?_
   refine k_nil ?_
   refine k_block ?_
   refine k_loopc (X := St × Int × Nat) [(0, _), (1, _), (4, _)] (fun (xL : St × Int × Nat) => match xL with | (sl, x2, j) => [(5, .int .i64 x2)]) (fun (xL : St × Int × Nat) (wL : World) => match xL with | (sl, x2, j) => sl.w = wL ∧ Step K0 s sl ∧ ref11_Same_l1 a0 a1 kj1 j x2 = some r) (fun (xL : St × Int × Nat) => match xL with | (sl, x2, j) => j) (s, 0, FU) ⟨rfl, rfl, rfl, trivial⟩ ⟨(by first | rfl | (simp <;> rfl)), trivial⟩ ⟨rfl, (Step.refl _).of0 (by first | exact fun _ h => h | (intro c h; simp [KC, KO, KU, KN, KB] at h <;> omega)), h⟩ ?_
   rintro ⟨s4, x2, j⟩ wL ⟨rfl, hE3, h⟩
   cases j with
   | zero => rw [ref11_Same_l1] at h; exact (noneNe h).elim
   | succ j =>
   rw [ref11_Same_l1] at h
   have szs4 := hE3.size
   have hS := hS.trans0 hE3
   have hE2 := hE2.trans0 hE3
   replace hp0 := hp0.up2 hE3
   replace hp1 := hp1.up2 hE3
   refine k_seq ?_
   refine k_seq ?_
   refine k_region ?_
   refine k_move rfl rfl ?_
   refine k_move rfl rfl ?_
   refine k_len Tryd.underlying32 rfl hp0.hasLen rfl ?_
   refine k_as (v := .int .i64 (a0.length : Int)) (by simp only [List.length_map]) ?_
   refine k_lss rfl rfl rfl ?_
   refine k_nil ?_
   refine k_keep [(0, _), (1, _), (4, _), (5, _), (14, _)] ⟨rfl, rfl, rfl, rfl, rfl, trivial⟩ ?_
   refine k_cond_dec rfl (fun c5 => ?_) (fun c5 => ?_)
   ·
    have h := itT h c5
    refine k_skip ?_
    refine k_seq ?_
    refine k_block ?_
    refine k_seq ?_
    refine k_keep [(0, _), (1, _), (4, _), (5, _)] ⟨rfl, rfl, rfl, rfl, trivial⟩ ?_
    refine k_drawT (KN s4.n) 10 (.read 0 (.read 1 (.read 2 (.read 3 (.read 4 (.read 5 (.read 6 (.read 7 (.read 8 (.read 9 .fin)))))))))) mixed (by intro c h; (try simp only [KC, KO, KU, KN, KB] at h) <;> omega) rfl rfl rfl ?_
    intro s6 st6
    have szs6 := st6.size
    have hS := hS.trans0 st6
    have hE2 := hE2.trans0 st6
    have hE3 := hE3.trans0 st6
    replace hp0 := hp0.up2 st6
    replace hp1 := hp1.up2 st6
    refine rt_read (v0) rfl rfl (fun s7 st7 => ?_) ?_
    ·refine k_move rfl rfl ?_
     exact fq_end
    refine rt_read (.int .i64 x2) rfl rfl (fun s8 st8 => ?_) ?_
    ·refine k_move rfl rfl ?_
     exact fq_end
    obtain ⟨x3, hx3, h⟩ := ob h
    refine rt_ix rfl (wanted_none rfl) Tryd.underlying32 size33 rfl rfl hp0 (geti_out hx3).1 (geti_map hx3) rfl ?_
    intro q9 hq9
    refine rt_ldsl rfl (wanted_none rfl) one33 rfl hq9 (by first | exact id | (simp only [KC, KO, KU, KN, KB] <;> omega)) rfl ?_
    intro v10 h10
    refine rt_read (S x3) rfl rfl (fun s11 st11 => ?_) ?_
    ·try replace h10 := h10.up2 st11
     refine k_bts (m := x3) Tryd.underlying33 Tryd.underlying5 Tryd.underlying9 rfl (SL.of_R h10) rfl ?_
     exact fq_end
    refine rt_read (v1) rfl rfl (fun s12 st12 => ?_) ?_
    ·refine k_move rfl rfl ?_
     exact fq_end
    refine rt_read (.int .i64 x2) rfl rfl (fun s13 st13 => ?_) ?_
    ·refine k_move rfl rfl ?_
     exact fq_end
    obtain ⟨x4, hx4, h⟩ := ob h
    refine rt_ix rfl (wanted_none rfl) Tryd.underlying32 size33 rfl rfl hp1 (geti_out hx4).1 (geti_map hx4) rfl ?_
    intro q14 hq14
    refine rt_ldsl rfl (wanted_none rfl) one33 rfl hq14 (by first | exact id | (simp only [KC, KO, KU, KN, KB] <;> omega)) rfl ?_
    intro v15 h15
    refine rt_read (S x4) rfl rfl (fun s16 st16 => ?_) ?_
    ·try replace h15 := h15.up2 st16
     refine k_bts (m := x4) Tryd.underlying33 Tryd.underlying5 Tryd.underlying9 rfl (SL.of_R h15) rfl ?_
     exact fq_end
    refine rt_fin ?_
    refine k_neq_str rfl rfl rfl ?_
    refine k_nil ?_
    refine k_keep [(0, _), (1, _), (4, _), (5, _), (27, _)] ⟨rfl, rfl, rfl, rfl, rfl, trivial⟩ ?_
    refine k_cond_dec rfl (fun c17 => ?_) (fun c17 => ?_)
    ·
     have h := itT h c17
     refine k_seq ?_
     refine k_region ?_
     refine k_assign rfl rfl ?_
     refine k_nil ?_
     refine k_keep [(0, _), (1, _), (4, _), (5, _)] ⟨rfl, rfl, rfl, rfl, trivial⟩ ?_
     refine k_ret ?_
     obtain rfl := Option.some.inj h
     refine ⟨_, rfl, Ret.mk hS ?_⟩
     exact rfl
    ·
     have h := itF h c17
     refine k_skip ?_
     refine k_blk ?_
     refine k_region ?_
     refine k_move rfl rfl ?_
     refine k_add rfl rfl rfl ?_
     refine k_assign rfl rfl ?_
     refine k_nil ?_
     exact k_stop ⟨(s6, i64 (x2 + 1), j), ⟨(by first | rfl | (simp <;> rfl)), trivial⟩, ⟨rfl, rfl, rfl, trivial⟩, ⟨rfl, hE3, h⟩, (by simp)⟩
   ·
    have h := itF h c5
    refine k_exit rfl ?_
    exact k_stop ⟨s4, trivial, ⟨rfl, trivial⟩, ⟨rfl, hE2, h⟩⟩
  ·
   rintro s18 wL ⟨rfl, hE2, h⟩
   rw [hK2] at h
   have szs18 := hE2.size
   have hS := hS.trans0 hE2
   refine k_seq ?_
   refine k_region ?_
   refine k_assign rfl rfl ?_
   refine k_nil ?_
   refine k_ret ?_
   obtain rfl := Option.some.inj h
   refine ⟨_, rfl, Ret.mk hS ?_⟩
   exact rfl

set_option maxHeartbeats 1000000 in
set_option maxRecDepth 100000 in
theorem law11_LogfileLasts_w {s : St} {a0 : Int} {l1 : Lab} {v1 : Value} {a1 : (List Law11Act)} {r : Bool} (hp1 : SL s l1 v1 5 (a1.map dLaw11Act)) (h : law11_LogfileLasts a0 a1 = some r) : Calls Tryd.prog 3 #[.int .i64 a0, v1] s.w (Ret s K0 (fun s1 v => v = .bool r)) := by
 unfold law11_LogfileLasts at h
 obtain ⟨lf1, lf1le, lf1ne, hp1⟩ := hp1.fix
 have hS := Step.r0 K0 s
 refine k_fn (rs := [4]) (args := [.int .i64 a0, v1]) Tryd.func3 rfl rfl rfl rfl ?_
 refine k_seq ?_
 refine k_region ?_
 refine k_assign rfl rfl ?_
 refine k_nil ?_
 refine k_seq ?_
 refine k_region ?_
 refine k_move rfl rfl ?_
 obtain ⟨x1, hx1, h⟩ := ob h
 refine k_call cal6 rfl (disk_New_w   hx1) rfl ?_
 rintro s1 vr1 st1 ⟨ku1_0, v1_0, rfl, hk1_0, h1_0⟩
 have szs1 := st1.size
 have hS := hS.trans0 st1
 replace hp1 := hp1.up2 st1
 have ol1_0 := OptODiskDisk.le (k := ku1_0) h1_0
 refine k_move rfl rfl ?_
 refine k_extract rfl rfl rfl ?_
 refine k_extract rfl rfl rfl ?_
 refine k_assign rfl rfl ?_
 refine k_assign rfl rfl ?_
 refine k_nil ?_
 refine k_keep [(1, _), (4, _), (5, _), (6, _)] ⟨rfl, rfl, rfl, rfl, trivial⟩ ?_
 refine k_seq ?_
 refine k_seq ?_
 refine k_region ?_
 refine k_move rfl rfl ?_
 refine k_neq rfl rfl rfl ?_
 refine k_move rfl rfl ?_
 obtain ⟨x2, hx2, h⟩ := ob h
 have hE2 := Step.r0 K0 s1
 refine k_cutl (X := St) 3 [(1, v1), (4, .bool false), (5, v1_0), (6, .int .i64 x1.2), (29, .int .i64 x1.2), (30, .bool (decide (x1.2 ≠ 0)))] (fun _ => [(34, .bool x2)]) (fun sl wL => sl.w = wL ∧ Step K0 s1 sl) ?_ ?_
 ·
  refine k_again 31 rfl ?_
  refine k_split (fun c3 => ?_) (fun c3 => ?_)
  ·
   have hx2 := itT hx2 c3
   refine k_no rfl rfl rfl rfl ?_
   refine k_no rfl rfl rfl rfl ?_
   refine k_pickT rfl rfl rfl rfl ?_
   exact k_met ⟨s1, ⟨(congrArg (fun b => some (Value.bool b)) (Option.some.inj hx2)), trivial⟩, ⟨rfl, rfl, rfl, rfl, rfl, rfl, trivial⟩, rfl, hE2⟩
  ·
   have hx2 := itF hx2 c3
   refine k_yes rfl rfl ?_
   refine k_move rfl rfl ?_
   refine k_yes rfl rfl ?_
   obtain ⟨x3, hx3, hx2⟩ := ob hx2
   refine k_call cal7 rfl (law11_many_w  hp1 hx3) rfl ?_
   rintro s4 vr4 st4 rfl
   have szs4 := st4.size
   have hS := hS.trans0 st4
   have hE2 := hE2.trans0 st4
   replace h1_0 : OptODiskDisk s4 ku1_0 v1_0 x1.1 := OptODiskDisk.up3 h1_0 ol1_0 st4
   refine k_pickF rfl rfl rfl rfl ?_
   exact k_met ⟨s4, ⟨(congrArg (fun b => some (Value.bool b)) (Option.some.inj hx2)), trivial⟩, ⟨rfl, rfl, rfl, rfl, rfl, rfl, trivial⟩, rfl, hE2⟩
 ·
  rintro s5 wL ⟨rfl, hE2⟩
  have szs5 := hE2.size
  have hS := hS.trans0 hE2
  replace hp1 := hp1.up2 hE2
  replace h1_0 : OptODiskDisk s5 ku1_0 v1_0 x1.1 := OptODiskDisk.up3 h1_0 ol1_0 hE2
  refine k_nil ?_
  refine k_keep [(1, _), (4, _), (5, _), (34, _)] ⟨rfl, rfl, rfl, rfl, trivial⟩ ?_
  refine k_cond rfl (fun c6 => ?_) (fun c6 => ?_)
  ·
   have h := ibT h c6
   refine k_seq ?_
   refine k_region ?_
   obtain ⟨x4, hx4, h⟩ := ob h
   refine k_call cal8 rfl (law11_awake_w   hx4) rfl ?_
   rintro s7 vr7 st7 rfl
   have szs7 := st7.size
   have hS := hS.trans0 st7
   replace h1_0 : OptODiskDisk s7 ku1_0 v1_0 x1.1 := OptODiskDisk.up3 h1_0 ol1_0 st7
   refine k_assign rfl rfl ?_
   refine k_nil ?_
   refine k_keep [(1, _), (4, _), (5, _)] ⟨rfl, rfl, rfl, trivial⟩ ?_
   refine k_ret ?_
   obtain rfl := Option.some.inj h
   refine ⟨_, rfl, Ret.mk hS ?_⟩
   exact rfl
  ·
   have h := ibF h c6
   refine k_skip ?_
   refine k_seq ?_
   refine k_region ?_
   refine k_move rfl rfl ?_
   obtain ⟨x5, hx5, h⟩ := ob h
   replace ol1_0 := ol1_0.resolve_left (fun e => by rw [e] at hx5; cases hx5)
   rw [hx5] at h1_0
   replace h1_0 : ODiskDisk s5 ku1_0 v1_0 x5 := h1_0
   have le8 := h1_0.le
   have ne8 := h1_0.ne
   obtain ⟨pb9, rfl⟩ := h1_0.ptr
   obtain ⟨x6, hx6, h⟩ := ob h
   refine k_call cal9 rfl (logfile_Open_w  h1_0 hx6) rfl ?_
   rintro s10 vr10 st10 ⟨ku10_0, v10_0, rfl, hk10_0, h10_0, h1_0⟩
   have szs10 := st10.size
   have hS := hS.c0 st10
   replace hp1 := hp1.up2 st10
   have ol10_0 := OptOLogfileLog.le (k := ku10_0) h10_0
   refine k_move rfl rfl ?_
   refine k_extract rfl rfl rfl ?_
   refine k_extract rfl rfl rfl ?_
   refine k_assign rfl rfl ?_
   refine k_assign rfl rfl ?_
   refine k_nil ?_
   refine k_keep [(1, _), (4, _), (5, _), (7, _), (8, _)] ⟨rfl, rfl, rfl, rfl, rfl, trivial⟩ ?_
   refine k_seq ?_
   refine k_seq ?_
   refine k_region ?_
   refine k_move rfl rfl ?_
   refine k_neq rfl rfl rfl ?_
   refine k_move rfl rfl ?_
   rcases oc_out h with ⟨ho_11, h⟩ | ⟨x7, ho_11, h⟩
   ·
    rw [ho_11] at h10_0
    obtain rfl : v10_0 = .pointer none := h10_0
    have hE12 := Step.r0 K0 s10
    refine k_cutl (X := St) 3 [(1, v1), (4, .bool false), (5, (.pointer (some ⟨pb9, 0, none⟩))), (7, .pointer none), (8, .int .i64 x6.2.1), (41, .int .i64 x6.2.1), (42, .bool (decide (x6.2.1 ≠ 0)))] (fun _ => [(46, .bool true)]) (fun sl wL => sl.w = wL ∧ Step K0 s10 sl) ?_ ?_
    ·
     refine k_again 43 rfl ?_
     refine k_split (fun c13 => ?_) (fun c13 => ?_)
     ·
      refine k_no rfl rfl rfl rfl ?_
      refine k_no rfl rfl rfl rfl ?_
      refine k_pickT rfl rfl rfl rfl ?_
      exact k_met ⟨s10, ⟨rfl, trivial⟩, ⟨rfl, rfl, rfl, rfl, rfl, rfl, rfl, trivial⟩, rfl, hE12⟩
     ·
      refine k_yes rfl rfl ?_
      refine k_move rfl rfl ?_
      refine k_yes rfl rfl ?_
      refine k_eql_pnil Tryd.underlying29 rfl rfl rfl ?_
      refine k_pickF rfl rfl rfl rfl ?_
      exact k_met ⟨s10, ⟨rfl, trivial⟩, ⟨rfl, rfl, rfl, rfl, rfl, rfl, rfl, trivial⟩, rfl, hE12⟩
    ·
     rintro s14 wL ⟨rfl, hE12⟩
     have szs14 := hE12.size
     have hS := hS.trans0 hE12
     refine k_nil ?_
     refine k_keep [(1, _), (4, _), (5, _), (7, _), (46, _)] ⟨rfl, rfl, rfl, rfl, rfl, trivial⟩ ?_
     refine k_cond_true rfl ?_
     refine k_seq ?_
     refine k_region ?_
     refine k_assign rfl rfl ?_
     refine k_nil ?_
     refine k_keep [(1, _), (4, _), (5, _), (7, _)] ⟨rfl, rfl, rfl, rfl, trivial⟩ ?_
     refine k_ret ?_
     obtain rfl := Option.some.inj h
     refine ⟨_, rfl, Ret.mk hS ?_⟩
     exact rfl
   ·
    rw [ho_11] at h10_0
    replace h10_0 : OLogfileLog (.pointer (some ⟨pb9, 0, none⟩)) s10 ku10_0 v10_0 x7 := h10_0
    replace ol10_0 := ol10_0.resolve_left (fun e => by rw [e] at ho_11; cases ho_11)
    have le11 := h10_0.le
    have ne11 := h10_0.ne
    have hE15 := Step.r0 K0 s10
    refine k_cutl (X := St) 3 [(1, v1), (4, .bool false), (5, (.pointer (some ⟨pb9, 0, none⟩))), (7, v10_0), (8, .int .i64 x6.2.1), (41, .int .i64 x6.2.1), (42, .bool (decide (x6.2.1 ≠ 0)))] (fun _ => [(46, .bool (decide ((x6.2.1 ≠ 0) ∨ False)))]) (fun sl wL => sl.w = wL ∧ Step K0 s10 sl) ?_ ?_
    ·
     refine k_again 43 rfl ?_
     refine k_split (fun c16 => ?_) (fun c16 => ?_)
     ·
      refine k_no rfl rfl rfl rfl ?_
      refine k_no rfl rfl rfl rfl ?_
      refine k_pickT rfl rfl rfl rfl ?_
      exact k_met ⟨s10, ⟨(congrArg (fun b => some (Value.bool b)) (by first | exact decide_eq_decide.2 ⟨Or.inr, fun h => h.resolve_left c16⟩ | exact (decide_eq_true (Or.inl c16)).symm | (simp [c16]; done) | exact dec_andT c16 | exact dec_andF c16 | exact dec_orF c16 | exact dec_orT c16 | (simp [c16, i64] <;> omega))), trivial⟩, ⟨rfl, rfl, rfl, rfl, rfl, rfl, rfl, trivial⟩, rfl, hE15⟩
     ·
      refine k_yes rfl rfl ?_
      refine k_move rfl rfl ?_
      refine k_yes rfl rfl ?_
      obtain ⟨pb17, rfl⟩ := h10_0.ptr
      refine k_eql_pnil Tryd.underlying29 rfl rfl rfl ?_
      refine k_pickF rfl rfl rfl rfl ?_
      exact k_met ⟨s10, ⟨(congrArg (fun b => some (Value.bool b)) (by first | exact decide_eq_decide.2 ⟨Or.inr, fun h => h.resolve_left c16⟩ | exact (decide_eq_true (Or.inl c16)).symm | (simp [c16]; done) | exact dec_andT c16 | exact dec_andF c16 | exact dec_orF c16 | exact dec_orT c16 | (simp [c16, i64] <;> omega))), trivial⟩, ⟨rfl, rfl, rfl, rfl, rfl, rfl, rfl, trivial⟩, rfl, hE15⟩
    ·
     rintro s18 wL ⟨rfl, hE15⟩
     have szs18 := hE15.size
     have hS := hS.trans0 hE15
     replace hp1 := hp1.up2 hE15
     replace h1_0 := h1_0.up2 hE15
     replace h10_0 := h10_0.up2 hE15
     refine k_nil ?_
     refine k_keep [(1, _), (4, _), (5, _), (7, _), (46, _)] ⟨rfl, rfl, rfl, rfl, rfl, trivial⟩ ?_
     refine k_cond_dec rfl (fun c19 => ?_) (fun c19 => ?_)
     ·
      have h := itT h c19
      refine k_seq ?_
      refine k_region ?_
      refine k_assign rfl rfl ?_
      refine k_nil ?_
      refine k_keep [(1, _), (4, _), (5, _), (7, _)] ⟨rfl, rfl, rfl, rfl, trivial⟩ ?_
      refine k_ret ?_
      obtain rfl := Option.some.inj h
      refine ⟨_, rfl, Ret.mk hS ?_⟩
      exact rfl
     ·
      have h := itF h c19
      refine k_skip ?_
      refine k_seq ?_
      refine k_region ?_
      refine k_assign rfl rfl ?_
      refine k_nil ?_
      refine k_keep [(1, _), (4, _), (5, _), (7, _), (9, _)] ⟨rfl, rfl, rfl, rfl, rfl, trivial⟩ ?_
      refine k_seq ?_
      refine k_region ?_
      refine k_assign rfl rfl ?_
      refine k_nil ?_
      refine k_seq ?_
      obtain ⟨kj8, hK20, h⟩ := jn_out h
      have hE20 := Step.r0 (KU (KO ku10_0) (KO ku1_0)) s18
      refine k_cutc (X := St × DiskDisk) [(4, .bool false)] (fun (xL : St × DiskDisk) => match xL with | (sl, x9) => []) (fun (xL : St × DiskDisk) (wL : World) => match xL with | (sl, x9) => sl.w = wL ∧ Step (KU (KO ku10_0) (KO ku1_0)) s18 sl ∧ (ODiskDisk sl ku1_0 (.pointer (some ⟨pb9, 0, none⟩)) x9) ∧ kj8 x9 = some r) ?_ ?_
      ·
       refine k_seq ?_
       refine k_region ?_
       refine k_assign rfl rfl ?_
       refine k_nil ?_
       refine k_block ?_
       have h21 : Own s18 ⟨s18.n + 1, 3010⟩ 33 1 (.slice none 0 0) (([] : List (List UInt8)).map (dL 1 bD)) := Own.nil (by first | (simp; done) | omega | (dsimp only; omega)) (by first | (simp; done) | omega | (dsimp only; omega))
       refine k_loopc (X := St × Nat × Value × LogfileLog × Int × (List (List UInt8)) × Value × Int × DiskDisk × Nat) [(1, _), (4, _), (5, _)] (fun (xL : St × Nat × Value × LogfileLog × Int × (List (List UInt8)) × Value × Int × DiskDisk × Nat) => match xL with | (sl, kv23, pv23, x10, x11, x12, v24, x13, x14, j) => [(7, pv23), (9, .int .i64 x11), (10, v24), (11, .int .i64 x13)]) (fun (xL : St × Nat × Value × LogfileLog × Int × (List (List UInt8)) × Value × Int × DiskDisk × Nat) (wL : World) => match xL with | (sl, kv23, pv23, x10, x11, x12, v24, x13, x14, j) => sl.w = wL ∧ Step (KU (KO ku10_0) (KU (KO ku1_0) (KC (s18.n + 1) 3010))) s18 sl ∧ (OLogfileLog (.pointer (some ⟨pb9, 0, none⟩)) sl kv23 pv23 x10) ∧ (kv23 = ku10_0 ∨ s18.n < kv23) ∧ (Own sl ⟨s18.n + 1, 3010⟩ 33 1 v24 (x12.map (dL 1 bD))) ∧ (ODiskDisk sl ku1_0 (.pointer (some ⟨pb9, 0, none⟩)) x14) ∧ law11_LogfileLasts_l1 a1 kj8 j x10 x11 x12 x13 x14 = some r) (fun (xL : St × Nat × Value × LogfileLog × Int × (List (List UInt8)) × Value × Int × DiskDisk × Nat) => match xL with | (sl, kv23, pv23, x10, x11, x12, v24, x13, x14, j) => j) (s18, ku10_0, v10_0, x7, 0, [], (.slice none 0 0), 0, x6.2.2, FU) ⟨rfl, rfl, rfl, trivial⟩ ⟨(by first | rfl | (simp <;> rfl)), (by first | rfl | (simp <;> rfl)), (by first | rfl | (simp <;> rfl)), (by first | rfl | (simp <;> rfl)), trivial⟩ ⟨rfl, (Step.refl _).of0 (by first | exact fun _ h => h | (intro c h; simp [KC, KO, KU, KN, KB] at h <;> omega)), h10_0, (by first | omega | (simp <;> omega)), h21, h1_0, h⟩ ?_
       rintro ⟨s25, kv23, pv23, x10, x11, x12, v24, x13, x14, j⟩ wL ⟨rfl, hE22, h23, hd23, h24, h1_0, h⟩
       have leh23 := h23.le
       have neh23 := h23.ne
       cases j with
       | zero => rw [law11_LogfileLasts_l1] at h; exact (noneNe h).elim
       | succ j =>
       rw [law11_LogfileLasts_l1] at h
       have szs25 := hE22.size
       have hS := hS.c0 hE22
       have hE20 := hE20.c0 hE22
       replace hp1 := hp1.up2 hE22
       refine k_seq ?_
       refine k_seq ?_
       refine k_region ?_
       refine k_move rfl rfl ?_
       refine k_move rfl rfl ?_
       refine k_len Tryd.underlying22 rfl hp1.hasLen rfl ?_
       refine k_as (v := .int .i64 (a1.length : Int)) (by simp only [List.length_map]) ?_
       refine k_lss rfl rfl rfl ?_
       refine k_nil ?_
       refine k_keep [(1, _), (4, _), (5, _), (7, _), (9, _), (10, _), (11, _), (50, _)] ⟨rfl, rfl, rfl, rfl, rfl, rfl, rfl, rfl, trivial⟩ ?_
       refine k_cond_dec rfl (fun c26 => ?_) (fun c26 => ?_)
       ·
        have h := itT h c26
        refine k_skip ?_
        refine k_seq ?_
        refine k_block ?_
        refine k_seq ?_
        refine k_region ?_
        refine k_move rfl rfl ?_
        refine k_move rfl rfl ?_
        obtain ⟨x15, hx15, h⟩ := ob h
        refine k_ixaddr Tryd.underlying22 size35 rfl rfl hp1 (geti_out hx15).1 (geti_map hx15) rfl ?_
        intro qx15 hqx15
        refine k_load_agg (by exact agg35) rfl hqx15 rfl ?_
        intro cs27 h27
        obtain ⟨q27_0, rfl, hq27_0⟩ := opnLaw11Act h27
        refine k_alloc zero35 rfl ?_
        intro s28 b28 st28 h28 ge28
        have szs28 := st28.size
        have hS := hS.trans0 st28
        have hE20 := hE20.trans0 st28
        have hE22 := hE22.trans0 st28
        replace hq27_0 := hq27_0.up2 st28
        replace h1_0 := h1_0.up2 st28
        replace h23 := h23.up2 st28
        replace h24 := h24.up2 st28
        have lt28 := h28.lt
        refine k_store_c (cs' := [.int .i64 x15.Do, .int .i64 x15.N, .int .i64 x15.Keep, .int .i64 x15.Torn, q27_0]) size35 rfl rfl h28 (by first | (simp; done) | omega | (dsimp only; omega)) (CellsOf.lit (vs := [.int .i64 x15.Do, .int .i64 x15.N, .int .i64 x15.Keep, .int .i64 x15.Torn, q27_0]) rfl (ones.cons rfl (ones.cons rfl (ones.cons rfl (ones.cons rfl (ones.cons ((SL.of_R hq27_0)).one1 ones.nil)))))) rfl (by first | rfl | (simp; done) | (simp; omega)) rfl ?_
        intro s29 st29 h28
        have szs29 := st29.size
        have hS := hS.c0 st29
        have hE20 := hE20.c0 st29
        have hE22 := hE22.c0 st29
        replace hq27_0 := hq27_0.up2 st29
        replace h1_0 := h1_0.up2 st29
        replace h23 := h23.up2 st29
        replace h24 := h24.up2 st29
        refine k_nil ?_
        refine k_keep [(1, _), (4, _), (5, _), (7, _), (9, _), (10, _), (11, _), (12, _)] ⟨rfl, rfl, rfl, rfl, rfl, rfl, rfl, rfl, trivial⟩ ?_
        refine k_seq ?_
        refine k_region ?_
        refine k_move rfl rfl ?_
        obtain ⟨x16, hx16, h⟩ := ob h
        refine k_call cal10 rfl (disk_Disk_Down_w  h1_0 hx16) rfl ?_
        rintro s30 vr30 st30 rfl
        have szs30 := st30.size
        have hS := hS.trans0 st30
        have hE20 := hE20.trans0 st30
        have hE22 := hE22.trans0 st30
        replace h1_0 := h1_0.up2 st30
        replace h23 := h23.up2 st30
        replace h24 := h24.up2 st30
        replace hq27_0 := hq27_0.up2 st30
        replace h28 := h28.up2 st30
        refine k_not rfl rfl ?_
        refine k_assign rfl rfl ?_
        refine k_nil ?_
        refine k_keep [(1, _), (4, _), (5, _), (7, _), (9, _), (10, _), (11, _), (12, _), (13, _)] ⟨rfl, rfl, rfl, rfl, rfl, rfl, rfl, rfl, rfl, trivial⟩ ?_
        refine k_seq ?_
        obtain ⟨kj17, hK31, h⟩ := jn_out h
        have hE31 := Step.r0 (KU (KO kv23) (KU (KO ku1_0) (KC (s18.n + 1) 3010))) s30
        refine k_cutc (X := St × Int × (List (List UInt8)) × Value × DiskDisk × LogfileLog) [(1, v1), (4, .bool false), (5, (.pointer (some ⟨pb9, 0, none⟩))), (7, pv23), (11, .int .i64 x13), (12, .pointer (some ⟨b28, 0, none⟩))] (fun (xL : St × Int × (List (List UInt8)) × Value × DiskDisk × LogfileLog) => match xL with | (sl, x18, x19, v32, x20, x21) => [(9, .int .i64 x18), (10, v32)]) (fun (xL : St × Int × (List (List UInt8)) × Value × DiskDisk × LogfileLog) (wL : World) => match xL with | (sl, x18, x19, v32, x20, x21) => sl.w = wL ∧ Step (KU (KO kv23) (KU (KO ku1_0) (KC (s18.n + 1) 3010))) s30 sl ∧ (Own sl ⟨s18.n + 1, 3010⟩ 33 1 v32 (x19.map (dL 1 bD))) ∧ (ODiskDisk sl ku1_0 (.pointer (some ⟨pb9, 0, none⟩)) x20) ∧ (OLogfileLog (.pointer (some ⟨pb9, 0, none⟩)) sl kv23 pv23 x21) ∧ (Blk sl b28 ⟨b28 + 1, 0⟩ [.int .i64 x15.Do, .int .i64 x15.N, .int .i64 x15.Keep, .int .i64 x15.Torn, q27_0] 35) ∧ kj17 x18 x19 x20 x21 = some r) ?_ ?_
        ·
         refine k_seq ?_
         refine k_region ?_
         refine k_field_addr fld35_0 rfl rfl ?_
         refine k_load_blk one3 rfl h28 rfl rfl ?_
         refine k_nil ?_
         refine k_keep [(1, _), (4, _), (5, _), (7, _), (9, _), (10, _), (11, _), (12, _), (13, _), (61, _)] ⟨rfl, rfl, rfl, rfl, rfl, rfl, rfl, rfl, rfl, rfl, trivial⟩ ?_
         refine k_block ?_
         refine k_seq ?_
         refine k_region ?_
         refine k_eql rfl rfl rfl ?_
         refine k_assign rfl rfl ?_
         refine k_nil ?_
         refine k_keep [(1, _), (4, _), (5, _), (7, _), (9, _), (10, _), (11, _), (12, _), (13, _), (61, _), (62, _)] ⟨rfl, rfl, rfl, rfl, rfl, rfl, rfl, rfl, rfl, rfl, rfl, trivial⟩ ?_
         refine k_cond_dec rfl (fun c33 => ?_) (fun c33 => ?_)
         ·
          have h := itT h c33
          refine k_seq ?_
          refine k_region ?_
          refine k_move rfl rfl ?_
          refine k_field_addr fld35_4 rfl rfl ?_
          refine k_load_blk one33 rfl h28 rfl rfl ?_
          obtain ⟨pb34, rfl⟩ := h23.ptr
          obtain ⟨x22, hx22, h⟩ := ob h
          refine k_call cal11 rfl (logfile_Log_Append_r2_w  h23 (show R s30 q27_0 (.sl 1 (x15.Bytes.map bD)) from hq27_0) h1_0 (by first | assumption | omega | (dsimp only; omega) | (simp <;> omega)) hx22) rfl ?_
          rintro s35 vr35 st35 ⟨rfl, h23, h1_0⟩
          have szs35 := st35.size
          have hS := hS.c0 st35
          have hE20 := hE20.c0 st35
          have hE22 := hE22.c0 st35
          have hE31 := hE31.c0 st35
          replace hq27_0 := hq27_0.up2 st35
          replace h24 := h24.up2 st35
          replace h28 := h28.up2 st35
          refine k_assign rfl rfl ?_
          refine k_nil ?_
          refine k_keep [(1, _), (4, _), (5, _), (7, _), (9, _), (10, _), (11, _), (12, _), (13, _), (14, _)] ⟨rfl, rfl, rfl, rfl, rfl, rfl, rfl, rfl, rfl, rfl, trivial⟩ ?_
          refine k_seq ?_
          refine k_region ?_
          refine k_move rfl rfl ?_
          refine k_eql rfl rfl rfl ?_
          refine k_move rfl rfl ?_
          have hE36 := Step.r0 K0 s35
          refine k_cutl (X := St) 6 [(1, v1), (4, .bool false), (5, (.pointer (some ⟨pb9, 0, none⟩))), (7, (.pointer (some ⟨pb34, 0, none⟩))), (9, .int .i64 x11), (10, v24), (11, .int .i64 x13), (12, .pointer (some ⟨b28, 0, none⟩)), (13, .bool (!x16)), (14, .int .i64 x22.1), (68, .int .i64 x22.1), (69, .bool (decide (x22.1 = 0)))] (fun _ => [(76, .bool (decide ((x22.1 = 0) ∨ (((!x16) = true) ∧ (x22.1 = 12)))))]) (fun sl wL => sl.w = wL ∧ Step K0 s35 sl) ?_ ?_
          ·
           refine k_again 70 rfl ?_
           refine k_split (fun c37 => ?_) (fun c37 => ?_)
           ·
            refine k_no rfl rfl rfl rfl ?_
            refine k_no rfl rfl rfl rfl ?_
            refine k_nou rfl rfl rfl rfl ?_
            refine k_nou rfl rfl rfl rfl ?_
            refine k_no rfl rfl rfl rfl ?_
            refine k_pickT rfl rfl rfl rfl ?_
            exact k_met ⟨s35, ⟨(congrArg (fun b => some (Value.bool b)) (by first | exact decide_eq_decide.2 ⟨Or.inr, fun h => h.resolve_left c37⟩ | exact (decide_eq_true (Or.inl c37)).symm | (simp [c37]; done) | exact dec_andT c37 | exact dec_andF c37 | exact dec_orF c37 | exact dec_orT c37 | (simp [c37, i64] <;> omega))), trivial⟩, ⟨rfl, rfl, rfl, rfl, rfl, rfl, rfl, rfl, rfl, rfl, rfl, rfl, trivial⟩, rfl, hE36⟩
           ·
            refine k_yes rfl rfl ?_
            refine k_move rfl rfl ?_
            refine k_yes rfl rfl ?_
            refine k_move rfl rfl ?_
            have hE38 := Step.r0 K0 s35
            refine k_cutl (X := St) 3 [(1, v1), (4, .bool false), (5, (.pointer (some ⟨pb9, 0, none⟩))), (7, (.pointer (some ⟨pb34, 0, none⟩))), (9, .int .i64 x11), (10, v24), (11, .int .i64 x13), (12, .pointer (some ⟨b28, 0, none⟩)), (13, .bool (!x16)), (14, .int .i64 x22.1), (68, .int .i64 x22.1), (69, .bool (decide (x22.1 = 0))), (70, .bool false), (71, .bool (!x16))] (fun _ => [(75, .bool (decide (((!x16) = true) ∧ (x22.1 = 12))))]) (fun sl wL => sl.w = wL ∧ Step K0 s35 sl) ?_ ?_
            ·
             refine k_again 72 rfl ?_
             refine k_splitb (fun c39 => ?_) (fun c39 => ?_)
             ·
              refine k_yes rfl rfl ?_
              refine k_move rfl rfl ?_
              refine k_yes rfl rfl ?_
              refine k_eql rfl rfl rfl ?_
              refine k_yes rfl rfl ?_
              refine k_pickT rfl rfl rfl rfl ?_
              exact k_met ⟨s35, ⟨(congrArg (fun b => some (Value.bool b)) (by first | exact decide_eq_decide.2 ⟨fun h => ⟨c39, h⟩, fun h => h.2⟩ | exact (decide_eq_false (fun h => c39 h.1)).symm | (simp [c39]; done) | exact dec_andT c39 | exact dec_andF c39 | exact dec_orF c39 | exact dec_orT c39 | (simp [c39, i64] <;> omega))), trivial⟩, ⟨rfl, rfl, rfl, rfl, rfl, rfl, rfl, rfl, rfl, rfl, rfl, rfl, rfl, rfl, trivial⟩, rfl, hE38⟩
             ·
              refine k_no rfl rfl rfl rfl ?_
              refine k_no rfl rfl rfl rfl ?_
              refine k_yes rfl rfl ?_
              refine k_pickF rfl rfl rfl rfl ?_
              exact k_met ⟨s35, ⟨(congrArg (fun b => some (Value.bool b)) (by first | exact decide_eq_decide.2 ⟨fun h => ⟨c39, h⟩, fun h => h.2⟩ | exact (decide_eq_false (fun h => c39 h.1)).symm | (simp [c39]; done) | exact dec_andT c39 | exact dec_andF c39 | exact dec_orF c39 | exact dec_orT c39 | (simp [c39, i64] <;> omega))), trivial⟩, ⟨rfl, rfl, rfl, rfl, rfl, rfl, rfl, rfl, rfl, rfl, rfl, rfl, rfl, rfl, trivial⟩, rfl, hE38⟩
            ·
             rintro s40 wL ⟨rfl, hE38⟩
             have szs40 := hE38.size
             have hS := hS.trans0 hE38
             have hE20 := hE20.trans0 hE38
             have hE22 := hE22.trans0 hE38
             have hE31 := hE31.trans0 hE38
             have hE36 := hE36.trans0 hE38
             refine k_pickF rfl rfl rfl rfl ?_
             exact k_met ⟨s40, ⟨(congrArg (fun b => some (Value.bool b)) (by first | exact decide_eq_decide.2 ⟨Or.inr, fun h => h.resolve_left c37⟩ | exact (decide_eq_true (Or.inl c37)).symm | (simp [c37]; done) | exact dec_andT c37 | exact dec_andF c37 | exact dec_orF c37 | exact dec_orT c37 | (simp [c37, i64] <;> omega))), trivial⟩, ⟨rfl, rfl, rfl, rfl, rfl, rfl, rfl, rfl, rfl, rfl, rfl, rfl, trivial⟩, rfl, hE36⟩
          ·
           rintro s41 wL ⟨rfl, hE36⟩
           have szs41 := hE36.size
           have hS := hS.trans0 hE36
           have hE20 := hE20.trans0 hE36
           have hE22 := hE22.trans0 hE36
           have hE31 := hE31.trans0 hE36
           replace h1_0 := h1_0.up2 hE36
           replace h23 := h23.up2 hE36
           replace h24 := h24.up2 hE36
           replace hq27_0 := hq27_0.up2 hE36
           replace h28 := h28.up2 hE36
           refine k_nil ?_
           refine k_keep [(1, _), (4, _), (5, _), (7, _), (9, _), (10, _), (11, _), (12, _), (76, _)] ⟨rfl, rfl, rfl, rfl, rfl, rfl, rfl, rfl, rfl, trivial⟩ ?_
           refine k_cond_dec rfl (fun c42 => ?_) (fun c42 => ?_)
           ·
            have h := itT h c42
            refine k_region ?_
            refine k_move rfl rfl ?_
            refine k_bslice2 (ds := ([] : List UInt8).map bD) slc33 rfl RVs.nil (by rfl) (by rfl) rfl rfl ?_
            intro s43 v43 b43 st43 ge43 bl43 h43
            have szs43 := st43.size
            have hS := hS.trans0 st43
            have hE20 := hE20.trans0 st43
            have hE22 := hE22.trans0 st43
            have hE31 := hE31.trans0 st43
            replace h1_0 := h1_0.up2 st43
            replace h23 := h23.up2 st43
            replace h24 := h24.up2 st43
            replace hq27_0 := hq27_0.up2 st43
            replace h28 := h28.up2 st43
            have lt43 := Own.le1 h43
            refine k_field_addr fld35_4 rfl rfl ?_
            refine k_load_blk one33 rfl h28 rfl rfl ?_
            obtain ⟨x23, hx23, h⟩ := ob h
            refine k_append (es := x15.Bytes.map bD) elem33 rfl rfl h43 (SL.of_R hq27_0) (by have := (app_out hx23).1; simp only [List.length_map] at *; omega) (by have := (app_out hx23).1; simp only [List.length_map] at *; omega) rfl ?_
            intro s44 v44 st44 h44
            rw [← List.map_append, ← (app_out hx23).2] at h44
            have szs44 := st44.size
            have hS := hS.c0 st44
            have hE20 := hE20.c0 st44
            have hE22 := hE22.c0 st44
            have hE31 := hE31.c0 st44
            replace h1_0 := h1_0.up2 st44
            replace h23 := h23.up2 st44
            replace h24 := h24.up2 st44
            replace h28 := h28.up2 st44
            obtain ⟨s45, e45, st45, h45⟩ := h44.freeze
            rw [← e45]
            have szs45 := st45.size
            have hS := hS.c0 st45
            have hE20 := hE20.c0 st45
            have hE22 := hE22.c0 st45
            have hE31 := hE31.c0 st45
            replace h1_0 := h1_0.up2 st45
            replace h23 := h23.up2 st45
            replace h24 := h24.up2 st45
            replace h28 := h28.up2 st45
            refine k_bslice2 (ds := ([x23] : List (List UInt8)).map (dL 1 bD)) slc32 rfl (RVs.cons h45 RVs.nil) (by rfl) (by rfl) rfl rfl ?_
            intro s46 v46 b46 st46 ge46 bl46 h46
            have szs46 := st46.size
            have hS := hS.trans0 st46
            have hE20 := hE20.trans0 st46
            have hE22 := hE22.trans0 st46
            have hE31 := hE31.trans0 st46
            replace h1_0 := h1_0.up2 st46
            replace h23 := h23.up2 st46
            replace h24 := h24.up2 st46
            replace h28 := h28.up2 st46
            have lt46 := Own.le1 h46
            obtain ⟨x24, hx24, h⟩ := ob h
            refine k_append (es := ([x23] : List (List UInt8)).map (dL 1 bD)) elem32 rfl rfl h24 (h46.sl) (by have := (app_out hx24).1; simp only [List.length_map] at *; omega) (by have := (app_out hx24).1; simp only [List.length_map] at *; omega) rfl ?_
            intro s47 v47 st47 h47
            rw [← List.map_append, ← (app_out hx24).2] at h47
            have szs47 := st47.size
            have hS := hS.c0 st47
            have hE20 := hE20.c0 st47
            have hE22 := hE22.c0 st47
            have hE31 := hE31.c0 st47
            replace h1_0 := h1_0.up2 st47
            replace h23 := h23.up2 st47
            replace h28 := h28.up2 st47
            refine k_assign rfl rfl ?_
            refine k_nil ?_
            refine k_blk ?_
            exact k_stop ⟨(s47, x11, x24, v47, x22.2.2, x22.2.1), ⟨(by first | rfl | (simp <;> rfl)), (by first | rfl | (simp <;> rfl)), trivial⟩, ⟨rfl, rfl, rfl, rfl, rfl, rfl, trivial⟩, ⟨rfl, hE31, h47, h1_0, h23, h28, h⟩⟩
           ·
            have h := itF h c42
            refine k_skip ?_
            refine k_blk ?_
            exact k_stop ⟨(s41, x11, x12, v24, x22.2.2, x22.2.1), ⟨(by first | rfl | (simp <;> rfl)), (by first | rfl | (simp <;> rfl)), trivial⟩, ⟨rfl, rfl, rfl, rfl, rfl, rfl, trivial⟩, ⟨rfl, hE31, h24, h1_0, h23, h28, h⟩⟩
         ·
          have h := itF h c33
          refine k_seq ?_
          refine k_region ?_
          refine k_eql rfl rfl rfl ?_
          refine k_assign rfl rfl ?_
          refine k_nil ?_
          refine k_keep [(1, _), (4, _), (5, _), (7, _), (9, _), (10, _), (11, _), (12, _), (61, _), (84, _)] ⟨rfl, rfl, rfl, rfl, rfl, rfl, rfl, rfl, rfl, rfl, trivial⟩ ?_
          refine k_cond_dec rfl (fun c48 => ?_) (fun c48 => ?_)
          ·
           have h := itT h c48
           refine k_seq ?_
           refine k_region ?_
           refine k_move rfl rfl ?_
           obtain ⟨pb49, rfl⟩ := h23.ptr
           obtain ⟨x25, hx25, h⟩ := ob h
           refine k_call cal12 rfl (logfile_Log_Sync_r1_w  h23 h1_0 (by first | assumption | omega | (dsimp only; omega) | (simp <;> omega)) hx25) rfl ?_
           rintro s50 vr50 st50 ⟨rfl, h1_0⟩
           have szs50 := st50.size
           have hS := hS.c0 st50
           have hE20 := hE20.c0 st50
           have hE22 := hE22.c0 st50
           have hE31 := hE31.c0 st50
           replace h23 := h23.up2 st50
           replace h24 := h24.up2 st50
           replace h28 := h28.up2 st50
           refine k_eql rfl rfl rfl ?_
           refine k_nil ?_
           refine k_keep [(1, _), (4, _), (5, _), (7, _), (9, _), (10, _), (11, _), (12, _), (88, _)] ⟨rfl, rfl, rfl, rfl, rfl, rfl, rfl, rfl, rfl, trivial⟩ ?_
           refine k_cond_dec rfl (fun c51 => ?_) (fun c51 => ?_)
           ·
            have h := itT h c51
            refine k_region ?_
            refine k_move rfl rfl ?_
            refine k_len Tryd.underlying32 rfl (h24.sl).hasLen rfl ?_
            refine k_as (v := .int .i64 (x12.length : Int)) (by simp only [List.length_map]) ?_
            refine k_assign rfl rfl ?_
            refine k_nil ?_
            refine k_blk ?_
            exact k_stop ⟨(s50, (x12.length : Int), x12, v24, x25.2, x10), ⟨(by first | rfl | (simp <;> rfl)), (by first | rfl | (simp <;> rfl)), trivial⟩, ⟨rfl, rfl, rfl, rfl, rfl, rfl, trivial⟩, ⟨rfl, hE31, h24, h1_0, h23, h28, h⟩⟩
           ·
            have h := itF h c51
            refine k_skip ?_
            refine k_blk ?_
            exact k_stop ⟨(s50, x11, x12, v24, x25.2, x10), ⟨(by first | rfl | (simp <;> rfl)), (by first | rfl | (simp <;> rfl)), trivial⟩, ⟨rfl, rfl, rfl, rfl, rfl, rfl, trivial⟩, ⟨rfl, hE31, h24, h1_0, h23, h28, h⟩⟩
          ·
           have h := itF h c48
           refine k_seq ?_
           refine k_region ?_
           refine k_eql rfl rfl rfl ?_
           refine k_assign rfl rfl ?_
           refine k_nil ?_
           refine k_keep [(1, _), (4, _), (5, _), (7, _), (9, _), (10, _), (11, _), (12, _), (91, _)] ⟨rfl, rfl, rfl, rfl, rfl, rfl, rfl, rfl, rfl, trivial⟩ ?_
           refine k_cond_dec rfl (fun c52 => ?_) (fun c52 => ?_)
           ·
            have h := itT h c52
            refine k_region ?_
            refine k_move rfl rfl ?_
            refine k_field_addr fld35_1 rfl rfl ?_
            refine k_load_blk one3 rfl h28 rfl rfl ?_
            refine k_field_addr fld35_2 rfl rfl ?_
            refine k_load_blk one3 rfl h28 rfl rfl ?_
            refine k_field_addr fld35_3 rfl rfl ?_
            refine k_load_blk one3 rfl h28 rfl rfl ?_
            obtain ⟨x26, hx26, h⟩ := ob h
            refine k_call cal13 rfl (disk_Disk_Fuse_w  h1_0 hx26) rfl ?_
            rintro s53 vr53 st53 ⟨rfl, h1_0⟩
            have szs53 := st53.size
            have hS := hS.c0 st53
            have hE20 := hE20.c0 st53
            have hE22 := hE22.c0 st53
            have hE31 := hE31.c0 st53
            replace h23 := h23.up2 st53
            replace h24 := h24.up2 st53
            replace h28 := h28.up2 st53
            refine k_nil ?_
            refine k_blk ?_
            exact k_stop ⟨(s53, x11, x12, v24, x26.2, x10), ⟨(by first | rfl | (simp <;> rfl)), (by first | rfl | (simp <;> rfl)), trivial⟩, ⟨rfl, rfl, rfl, rfl, rfl, rfl, trivial⟩, ⟨rfl, hE31, h24, h1_0, h23, h28, h⟩⟩
           ·
            have h := itF h c52
            refine k_skip ?_
            refine k_blk ?_
            exact k_stop ⟨(s30, x11, x12, v24, x14, x10), ⟨(by first | rfl | (simp <;> rfl)), (by first | rfl | (simp <;> rfl)), trivial⟩, ⟨rfl, rfl, rfl, rfl, rfl, rfl, trivial⟩, ⟨rfl, hE31, h24, h1_0, h23, h28, h⟩⟩
        ·
         rintro ⟨s54, x18, x19, v32, x20, x21⟩ wL ⟨rfl, hE31, h32, h1_0, h23, h28, h⟩
         rw [hK31] at h
         have szs54 := hE31.size
         have hS := hS.c0 hE31
         have hE20 := hE20.c0 hE31
         have hE22 := hE22.c0 hE31
         refine k_seq ?_
         obtain ⟨kj27, hK55, h⟩ := jn_out h
         have hE55 := Step.r0 (KO ku1_0) s54
         refine k_cutc (X := St × Nat × Value × LogfileLog × (List (List UInt8)) × Value × DiskDisk) [(1, v1), (4, .bool false), (5, (.pointer (some ⟨pb9, 0, none⟩))), (9, .int .i64 x18), (11, .int .i64 x13)] (fun (xL : St × Nat × Value × LogfileLog × (List (List UInt8)) × Value × DiskDisk) => match xL with | (sl, kv56, pv56, x28, x29, v57, x30) => [(7, pv56), (10, v57)]) (fun (xL : St × Nat × Value × LogfileLog × (List (List UInt8)) × Value × DiskDisk) (wL : World) => match xL with | (sl, kv56, pv56, x28, x29, v57, x30) => sl.w = wL ∧ Step (KO ku1_0) s54 sl ∧ (OLogfileLog (.pointer (some ⟨pb9, 0, none⟩)) sl kv56 pv56 x28) ∧ (kv56 = kv23 ∨ s54.n < kv56) ∧ (Own sl ⟨s18.n + 1, 3010⟩ 33 1 v57 (x29.map (dL 1 bD))) ∧ (ODiskDisk sl ku1_0 (.pointer (some ⟨pb9, 0, none⟩)) x30) ∧ kj27 x28 x29 x30 = some r) ?_ ?_
         ·
          refine k_seq ?_
          refine k_region ?_
          refine k_field_addr fld35_0 rfl rfl ?_
          refine k_load_blk one3 rfl h28 rfl rfl ?_
          refine k_eql rfl rfl rfl ?_
          refine k_move rfl rfl ?_
          obtain ⟨x31, hx31, h⟩ := ob h
          have hE58 := Step.r0 K0 s54
          refine k_cutl (X := St) 8 [(1, v1), (4, .bool false), (5, (.pointer (some ⟨pb9, 0, none⟩))), (7, pv23), (9, .int .i64 x18), (10, v32), (11, .int .i64 x13), (12, .pointer (some ⟨b28, 0, none⟩)), (101, .pointer (some ⟨b28, 0, none⟩)), (102, .int .i64 x15.Do), (103, .bool (decide (x15.Do = 2)))] (fun _ => [(112, .bool x31)]) (fun sl wL => sl.w = wL ∧ Step K0 s54 sl) ?_ ?_
          ·
           refine k_again 104 rfl ?_
           refine k_split (fun c59 => ?_) (fun c59 => ?_)
           ·
            have hx31 := itT hx31 c59
            refine k_no rfl rfl rfl rfl ?_
            refine k_no rfl rfl rfl rfl ?_
            refine k_no rfl rfl rfl rfl ?_
            refine k_nou rfl rfl rfl rfl ?_
            refine k_nou rfl rfl rfl rfl ?_
            refine k_nou rfl rfl rfl rfl ?_
            refine k_no rfl rfl rfl rfl ?_
            refine k_pickT rfl rfl rfl rfl ?_
            exact k_met ⟨s54, ⟨(congrArg (fun b => some (Value.bool b)) (Option.some.inj hx31)), trivial⟩, ⟨rfl, rfl, rfl, rfl, rfl, rfl, rfl, rfl, rfl, rfl, rfl, trivial⟩, rfl, hE58⟩
           ·
            have hx31 := itF hx31 c59
            refine k_yes rfl rfl ?_
            refine k_move rfl rfl ?_
            refine k_yes rfl rfl ?_
            obtain ⟨x32, hx32, hx31⟩ := ob hx31
            refine k_call cal10 rfl (disk_Disk_Down_w  h1_0 hx32) rfl ?_
            rintro s60 vr60 st60 rfl
            have szs60 := st60.size
            have hS := hS.trans0 st60
            have hE20 := hE20.trans0 st60
            have hE22 := hE22.trans0 st60
            have hE55 := hE55.trans0 st60
            have hE58 := hE58.trans0 st60
            refine k_yes rfl rfl ?_
            refine k_move rfl rfl ?_
            have hE61 := Step.r0 K0 s60
            refine k_cutl (X := St) 4 [(1, v1), (4, .bool false), (5, (.pointer (some ⟨pb9, 0, none⟩))), (7, pv23), (9, .int .i64 x18), (10, v32), (11, .int .i64 x13), (12, .pointer (some ⟨b28, 0, none⟩)), (101, .pointer (some ⟨b28, 0, none⟩)), (102, .int .i64 x15.Do), (103, .bool (decide (x15.Do = 2))), (104, .bool false), (105, (.pointer (some ⟨pb9, 0, none⟩))), (106, .bool x32)] (fun _ => [(111, .bool (decide ((x32 = true) ∧ (x13.tmod 3 = 0))))]) (fun sl wL => sl.w = wL ∧ Step K0 s60 sl) ?_ ?_
            ·
             refine k_again 107 rfl ?_
             refine k_splitb (fun c62 => ?_) (fun c62 => ?_)
             ·
              refine k_yes rfl rfl ?_
              refine k_move rfl rfl ?_
              refine k_yes rfl rfl ?_
              refine k_rem rfl rfl (by decide) rfl ?_
              refine k_yes rfl rfl ?_
              refine k_eql rfl rfl rfl ?_
              refine k_yes rfl rfl ?_
              refine k_pickT rfl rfl rfl rfl ?_
              exact k_met ⟨s60, ⟨(congrArg (fun b => some (Value.bool b)) (by first | exact decide_eq_decide.2 ⟨fun h => ⟨c62, h⟩, fun h => h.2⟩ | exact (decide_eq_false (fun h => c62 h.1)).symm | (simp [c62]; done) | exact dec_andT c62 | exact dec_andF c62 | exact dec_orF c62 | exact dec_orT c62 | (simp [c62, i64] <;> omega))), trivial⟩, ⟨rfl, rfl, rfl, rfl, rfl, rfl, rfl, rfl, rfl, rfl, rfl, rfl, rfl, rfl, trivial⟩, rfl, hE61⟩
             ·
              refine k_no rfl rfl rfl rfl ?_
              refine k_no rfl rfl rfl rfl ?_
              refine k_no rfl rfl rfl rfl ?_
              refine k_yes rfl rfl ?_
              refine k_pickF rfl rfl rfl rfl ?_
              exact k_met ⟨s60, ⟨(congrArg (fun b => some (Value.bool b)) (by first | exact decide_eq_decide.2 ⟨fun h => ⟨c62, h⟩, fun h => h.2⟩ | exact (decide_eq_false (fun h => c62 h.1)).symm | (simp [c62]; done) | exact dec_andT c62 | exact dec_andF c62 | exact dec_orF c62 | exact dec_orT c62 | (simp [c62, i64] <;> omega))), trivial⟩, ⟨rfl, rfl, rfl, rfl, rfl, rfl, rfl, rfl, rfl, rfl, rfl, rfl, rfl, rfl, trivial⟩, rfl, hE61⟩
            ·
             rintro s63 wL ⟨rfl, hE61⟩
             have szs63 := hE61.size
             have hS := hS.trans0 hE61
             have hE20 := hE20.trans0 hE61
             have hE22 := hE22.trans0 hE61
             have hE55 := hE55.trans0 hE61
             have hE58 := hE58.trans0 hE61
             refine k_pickF rfl rfl rfl rfl ?_
             exact k_met ⟨s63, ⟨(congrArg (fun b => some (Value.bool b)) (Option.some.inj hx31)), trivial⟩, ⟨rfl, rfl, rfl, rfl, rfl, rfl, rfl, rfl, rfl, rfl, rfl, trivial⟩, rfl, hE58⟩
          ·
           rintro s64 wL ⟨rfl, hE58⟩
           have szs64 := hE58.size
           have hS := hS.trans0 hE58
           have hE20 := hE20.trans0 hE58
           have hE22 := hE22.trans0 hE58
           have hE55 := hE55.trans0 hE58
           replace h1_0 := h1_0.up2 hE58
           replace h23 := h23.up2 hE58
           replace h28 := h28.up2 hE58
           replace h32 := h32.up2 hE58
           refine k_nil ?_
           refine k_keep [(1, _), (4, _), (5, _), (7, _), (9, _), (10, _), (11, _), (12, _), (112, _)] ⟨rfl, rfl, rfl, rfl, rfl, rfl, rfl, rfl, rfl, trivial⟩ ?_
           refine k_cond rfl (fun c65 => ?_) (fun c65 => ?_)
           ·
            have h := ibT h c65
            refine k_seq ?_
            refine k_region ?_
            refine k_move rfl rfl ?_
            refine k_field_addr fld35_2 rfl rfl ?_
            refine k_load_blk one3 rfl h28 rfl rfl ?_
            refine k_field_addr fld35_3 rfl rfl ?_
            refine k_load_blk one3 rfl h28 rfl rfl ?_
            obtain ⟨x33, hx33, h⟩ := ob h
            refine k_call cal14 rfl (law11_opens_w  h1_0 hx33) rfl ?_
            rintro s66 vr66 st66 ⟨ku66_0, v66_0, rfl, hk66_0, h66_0, h1_0⟩
            have szs66 := st66.size
            have hS := hS.c0 st66
            have hE20 := hE20.c0 st66
            have hE22 := hE22.c0 st66
            have hE55 := hE55.c0 st66
            replace h32 := h32.up2 st66
            have ol66_0 := OptOLogfileLog.le (k := ku66_0) h66_0
            refine k_move rfl rfl ?_
            refine k_extract rfl rfl rfl ?_
            refine k_extract rfl rfl rfl ?_
            refine k_assign rfl rfl ?_
            refine k_assign rfl rfl ?_
            refine k_nil ?_
            refine k_keep [(1, _), (4, _), (5, _), (7, _), (9, _), (10, _), (11, _), (15, _), (16, _)] ⟨rfl, rfl, rfl, rfl, rfl, rfl, rfl, rfl, rfl, trivial⟩ ?_
            refine k_seq ?_
            refine k_seq ?_
            refine k_region ?_
            refine k_move rfl rfl ?_
            refine k_not rfl rfl ?_
            refine k_nil ?_
            refine k_keep [(1, _), (4, _), (5, _), (7, _), (9, _), (10, _), (11, _), (15, _), (123, _)] ⟨rfl, rfl, rfl, rfl, rfl, rfl, rfl, rfl, rfl, trivial⟩ ?_
            refine k_cond rfl (fun c67 => ?_) (fun c67 => ?_)
            ·
             have h := ibT h c67
             refine k_seq ?_
             refine k_region ?_
             refine k_assign rfl rfl ?_
             refine k_nil ?_
             refine k_keep [(1, _), (4, _), (5, _), (7, _), (9, _), (10, _), (11, _), (15, _)] ⟨rfl, rfl, rfl, rfl, rfl, rfl, rfl, rfl, trivial⟩ ?_
             refine k_ret ?_
             obtain rfl := Option.some.inj h
             refine ⟨_, rfl, Ret.mk hS ?_⟩
             exact rfl
            ·
             have h := ibF h c67
             refine k_skip ?_
             refine k_seq ?_
             refine k_region ?_
             refine k_move rfl rfl ?_
             obtain ⟨x34, hx34, h⟩ := ob h
             replace ol66_0 := ol66_0.resolve_left (fun e => by rw [e] at hx34; cases hx34)
             rw [hx34] at h66_0
             replace h66_0 : OLogfileLog (.pointer (some ⟨pb9, 0, none⟩)) s66 ku66_0 v66_0 x34 := h66_0
             have le68 := h66_0.le
             have ne68 := h66_0.ne
             obtain ⟨pb69, rfl⟩ := h66_0.ptr
             obtain ⟨x35, hx35, h⟩ := ob h
             refine k_call cal15 rfl (logfile_Log_Records_r1_w  h66_0 h1_0 hx35) rfl ?_
             rintro s70 v70_0 st70 ⟨_, rfl, h70_0⟩
             have szs70 := st70.size
             have hS := hS.trans0 st70
             have hE20 := hE20.trans0 st70
             have hE22 := hE22.trans0 st70
             have hE55 := hE55.trans0 st70
             replace h1_0 := h1_0.up2 st70
             replace h32 := h32.up2 st70
             refine k_assign rfl rfl ?_
             refine k_nil ?_
             refine k_keep [(1, _), (4, _), (5, _), (7, _), (9, _), (10, _), (11, _), (17, _)] ⟨rfl, rfl, rfl, rfl, rfl, rfl, rfl, rfl, trivial⟩ ?_
             refine k_seq ?_
             refine k_seq ?_
             refine k_region ?_
             refine k_move rfl rfl ?_
             refine k_len Tryd.underlying32 rfl (SL.of_R h70_0).hasLen rfl ?_
             refine k_as (v := .int .i64 (x35.length : Int)) (by simp only [List.length_map]) ?_
             refine k_move rfl rfl ?_
             refine k_lss rfl rfl rfl ?_
             refine k_move rfl rfl ?_
             have hE71 := Step.r0 K0 s70
             refine k_cutl (X := St) 6 [(1, v1), (4, .bool false), (5, (.pointer (some ⟨pb9, 0, none⟩))), (7, pv23), (9, .int .i64 x18), (10, v32), (11, .int .i64 x13), (17, v70_0), (126, v70_0), (127, .int .i64 (x35.length : Int)), (128, .int .i64 x18), (129, .bool (decide ((x35.length : Int) < x18)))] (fun _ => [(136, .bool (decide (((x35.length : Int) < x18) ∨ ((x19.length : Int) < (x35.length : Int)))))]) (fun sl wL => sl.w = wL ∧ Step K0 s70 sl) ?_ ?_
             ·
              refine k_again 130 rfl ?_
              refine k_split (fun c72 => ?_) (fun c72 => ?_)
              ·
               refine k_no rfl rfl rfl rfl ?_
               refine k_no rfl rfl rfl rfl ?_
               refine k_no rfl rfl rfl rfl ?_
               refine k_no rfl rfl rfl rfl ?_
               refine k_no rfl rfl rfl rfl ?_
               refine k_pickT rfl rfl rfl rfl ?_
               exact k_met ⟨s70, ⟨(congrArg (fun b => some (Value.bool b)) (by first | exact decide_eq_decide.2 ⟨Or.inr, fun h => h.resolve_left c72⟩ | exact (decide_eq_true (Or.inl c72)).symm | (simp [c72]; done) | exact dec_andT c72 | exact dec_andF c72 | exact dec_orF c72 | exact dec_orT c72 | (simp [c72, i64] <;> omega))), trivial⟩, ⟨rfl, rfl, rfl, rfl, rfl, rfl, rfl, rfl, rfl, rfl, rfl, rfl, trivial⟩, rfl, hE71⟩
              ·
               refine k_yes rfl rfl ?_
               refine k_move rfl rfl ?_
               refine k_yes rfl rfl ?_
               refine k_len Tryd.underlying32 rfl (SL.of_R h70_0).hasLen rfl ?_
               refine k_as (v := .int .i64 (x35.length : Int)) (by simp only [List.length_map]) ?_
               refine k_yes rfl rfl ?_
               refine k_move rfl rfl ?_
               refine k_yes rfl rfl ?_
               refine k_len Tryd.underlying32 rfl (h32.sl).hasLen rfl ?_
               refine k_as (v := .int .i64 (x19.length : Int)) (by simp only [List.length_map]) ?_
               refine k_yes rfl rfl ?_
               refine k_gtr rfl rfl rfl ?_
               refine k_pickF rfl rfl rfl rfl ?_
               exact k_met ⟨s70, ⟨(congrArg (fun b => some (Value.bool b)) (by first | exact decide_eq_decide.2 ⟨Or.inr, fun h => h.resolve_left c72⟩ | exact (decide_eq_true (Or.inl c72)).symm | (simp [c72]; done) | exact dec_andT c72 | exact dec_andF c72 | exact dec_orF c72 | exact dec_orT c72 | (simp [c72, i64] <;> omega))), trivial⟩, ⟨rfl, rfl, rfl, rfl, rfl, rfl, rfl, rfl, rfl, rfl, rfl, rfl, trivial⟩, rfl, hE71⟩
             ·
              rintro s73 wL ⟨rfl, hE71⟩
              have szs73 := hE71.size
              have hS := hS.trans0 hE71
              have hE20 := hE20.trans0 hE71
              have hE22 := hE22.trans0 hE71
              have hE55 := hE55.trans0 hE71
              replace h70_0 := h70_0.up2 hE71
              replace h1_0 := h1_0.up2 hE71
              replace h32 := h32.up2 hE71
              refine k_move rfl rfl ?_
              obtain ⟨x36, hx36, h⟩ := ob h
              have hE74 := Step.r0 K0 s73
              refine k_cutl (X := St) 8 [(1, v1), (4, .bool false), (5, (.pointer (some ⟨pb9, 0, none⟩))), (7, pv23), (9, .int .i64 x18), (10, v32), (11, .int .i64 x13), (17, v70_0), (126, v70_0), (127, .int .i64 (x35.length : Int)), (128, .int .i64 x18), (129, .bool (decide ((x35.length : Int) < x18))), (136, .bool (decide (((x35.length : Int) < x18) ∨ ((x19.length : Int) < (x35.length : Int)))))] (fun _ => [(145, .bool x36)]) (fun sl wL => sl.w = wL ∧ Step K0 s73 sl) ?_ ?_
              ·
               refine k_again 137 rfl ?_
               refine k_split (fun c75 => ?_) (fun c75 => ?_)
               ·
                have hx36 := itT hx36 c75
                refine k_no rfl rfl rfl rfl ?_
                refine k_no rfl rfl rfl rfl ?_
                refine k_no rfl rfl rfl rfl ?_
                refine k_no rfl rfl rfl rfl ?_
                refine k_no rfl rfl rfl rfl ?_
                refine k_no rfl rfl rfl rfl ?_
                refine k_no rfl rfl rfl rfl ?_
                refine k_pickT rfl rfl rfl rfl ?_
                exact k_met ⟨s73, ⟨(congrArg (fun b => some (Value.bool b)) (Option.some.inj hx36)), trivial⟩, ⟨rfl, rfl, rfl, rfl, rfl, rfl, rfl, rfl, rfl, rfl, rfl, rfl, rfl, trivial⟩, rfl, hE74⟩
               ·
                have hx36 := itF hx36 c75
                refine k_yes rfl rfl ?_
                refine k_move rfl rfl ?_
                refine k_yes rfl rfl ?_
                refine k_move rfl rfl ?_
                refine k_yes rfl rfl ?_
                refine k_move rfl rfl ?_
                refine k_yes rfl rfl ?_
                refine k_len Tryd.underlying32 rfl (SL.of_R h70_0).hasLen rfl ?_
                refine k_as (v := .int .i64 (x35.length : Int)) (by simp only [List.length_map]) ?_
                refine k_yes rfl rfl ?_
                obtain ⟨x37, hx37, hx36⟩ := ob hx36
                refine k_cut_sl (i := (0 : Int).toNat) (j := ((x35.length : Int) : Int).toNat) Tryd.underlying32 size33 rfl (h32.sl) CutAt.none (CutAt.int rfl (Int.le_trans (subl_out hx37).1 (subl_out hx37).2.1)) (subl_ij hx37) (by rw [List.length_map]; exact subl_j hx37) rfl ?_
                intro vx37 hcx37
                rw [← List.map_drop, ← List.map_take, ← (subl_out hx37).2.2.2] at hcx37
                refine k_yes rfl rfl ?_
                obtain ⟨x38, hx38, hx36⟩ := ob hx36
                refine k_call cal16 rfl (ref11_Same_w  (SL.of_R h70_0) hcx37 hx38) rfl ?_
                rintro s76 vr76 st76 rfl
                have szs76 := st76.size
                have hS := hS.trans0 st76
                have hE20 := hE20.trans0 st76
                have hE22 := hE22.trans0 st76
                have hE55 := hE55.trans0 st76
                have hE74 := hE74.trans0 st76
                refine k_yes rfl rfl ?_
                refine k_not rfl rfl ?_
                refine k_pickF rfl rfl rfl rfl ?_
                exact k_met ⟨s76, ⟨(congrArg (fun b => some (Value.bool b)) (Option.some.inj hx36)), trivial⟩, ⟨rfl, rfl, rfl, rfl, rfl, rfl, rfl, rfl, rfl, rfl, rfl, rfl, rfl, trivial⟩, rfl, hE74⟩
              ·
               rintro s77 wL ⟨rfl, hE74⟩
               have szs77 := hE74.size
               have hS := hS.trans0 hE74
               have hE20 := hE20.trans0 hE74
               have hE22 := hE22.trans0 hE74
               have hE55 := hE55.trans0 hE74
               replace h70_0 := h70_0.up2 hE74
               replace h1_0 := h1_0.up2 hE74
               replace h32 := h32.up2 hE74
               refine k_nil ?_
               refine k_keep [(1, _), (4, _), (5, _), (7, _), (9, _), (10, _), (11, _), (17, _), (145, _)] ⟨rfl, rfl, rfl, rfl, rfl, rfl, rfl, rfl, rfl, trivial⟩ ?_
               refine k_cond rfl (fun c78 => ?_) (fun c78 => ?_)
               ·
                have h := ibT h c78
                refine k_seq ?_
                refine k_region ?_
                refine k_assign rfl rfl ?_
                refine k_nil ?_
                refine k_keep [(1, _), (4, _), (5, _), (7, _), (9, _), (10, _), (11, _), (17, _)] ⟨rfl, rfl, rfl, rfl, rfl, rfl, rfl, rfl, trivial⟩ ?_
                refine k_ret ?_
                obtain rfl := Option.some.inj h
                refine ⟨_, rfl, Ret.mk hS ?_⟩
                exact rfl
               ·
                have h := ibF h c78
                refine k_skip ?_
                refine k_seq ?_
                refine k_region ?_
                refine k_move rfl rfl ?_
                obtain ⟨x39, hx39, h⟩ := ob h
                refine k_call cal17 rfl (disk_Disk_Read_w  h1_0 hx39) rfl ?_
                rintro s79 vr79 st79 ⟨v79_0, rfl, h79_0⟩
                have szs79 := st79.size
                have hS := hS.trans0 st79
                have hE20 := hE20.trans0 st79
                have hE22 := hE22.trans0 st79
                have hE55 := hE55.trans0 st79
                replace h70_0 := h70_0.up2 st79
                replace h1_0 := h1_0.up2 st79
                replace h32 := h32.up2 st79
                refine k_move rfl rfl ?_
                refine k_extract rfl rfl rfl ?_
                refine k_extract rfl rfl rfl ?_
                refine k_assign rfl rfl ?_
                refine k_assign rfl rfl ?_
                refine k_nil ?_
                refine k_keep [(1, _), (4, _), (5, _), (7, _), (9, _), (10, _), (11, _), (17, _), (18, _)] ⟨rfl, rfl, rfl, rfl, rfl, rfl, rfl, rfl, rfl, trivial⟩ ?_
                refine k_seq ?_
                refine k_region ?_
                refine k_move rfl rfl ?_
                obtain ⟨x40, hx40, h⟩ := ob h
                refine k_call cal9 rfl (logfile_Open_w  h1_0 hx40) rfl ?_
                rintro s80 vr80 st80 ⟨ku80_0, v80_0, rfl, hk80_0, h80_0, h1_0⟩
                have szs80 := st80.size
                have hS := hS.c0 st80
                have hE20 := hE20.c0 st80
                have hE22 := hE22.c0 st80
                have hE55 := hE55.c0 st80
                replace h70_0 := h70_0.up2 st80
                replace h79_0 := h79_0.up2 st80
                replace h32 := h32.up2 st80
                have ol80_0 := OptOLogfileLog.le (k := ku80_0) h80_0
                refine k_move rfl rfl ?_
                refine k_extract rfl rfl rfl ?_
                refine k_extract rfl rfl rfl ?_
                refine k_assign rfl rfl ?_
                refine k_assign rfl rfl ?_
                refine k_nil ?_
                refine k_keep [(1, _), (4, _), (5, _), (7, _), (9, _), (10, _), (11, _), (17, _), (18, _), (20, _), (21, _)] ⟨rfl, rfl, rfl, rfl, rfl, rfl, rfl, rfl, rfl, rfl, rfl, trivial⟩ ?_
                refine k_seq ?_
                refine k_region ?_
                refine k_move rfl rfl ?_
                obtain ⟨x41, hx41, h⟩ := ob h
                refine k_call cal17 rfl (disk_Disk_Read_w  h1_0 hx41) rfl ?_
                rintro s81 vr81 st81 ⟨v81_0, rfl, h81_0⟩
                have szs81 := st81.size
                have hS := hS.trans0 st81
                have hE20 := hE20.trans0 st81
                have hE22 := hE22.trans0 st81
                have hE55 := hE55.trans0 st81
                replace h70_0 := h70_0.up2 st81
                replace h79_0 := h79_0.up2 st81
                replace h1_0 := h1_0.up2 st81
                replace h32 := h32.up2 st81
                replace h80_0 : OptOLogfileLog (.pointer (some ⟨pb9, 0, none⟩)) s81 ku80_0 v80_0 x40.1 := OptOLogfileLog.up3 h80_0 ol80_0 st81
                refine k_move rfl rfl ?_
                refine k_extract rfl rfl rfl ?_
                refine k_extract rfl rfl rfl ?_
                refine k_assign rfl rfl ?_
                refine k_assign rfl rfl ?_
                refine k_nil ?_
                refine k_keep [(1, _), (4, _), (5, _), (7, _), (9, _), (10, _), (11, _), (17, _), (18, _), (20, _), (21, _), (22, _)] ⟨rfl, rfl, rfl, rfl, rfl, rfl, rfl, rfl, rfl, rfl, rfl, rfl, trivial⟩ ?_
                refine k_seq ?_
                refine k_seq ?_
                refine k_region ?_
                refine k_move rfl rfl ?_
                refine k_neq rfl rfl rfl ?_
                refine k_move rfl rfl ?_
                rcases oc_out h with ⟨ho_82, h⟩ | ⟨x42, ho_82, h⟩
                ·
                 rw [ho_82] at h80_0
                 obtain rfl : v80_0 = .pointer none := h80_0
                 have hE83 := Step.r0 K0 s81
                 refine k_cutl (X := St) 3 [(1, v1), (4, .bool false), (5, (.pointer (some ⟨pb9, 0, none⟩))), (7, pv23), (9, .int .i64 x18), (10, v32), (11, .int .i64 x13), (17, v70_0), (18, v79_0), (20, .pointer none), (21, .int .i64 x40.2.1), (22, v81_0), (161, .int .i64 x40.2.1), (162, .bool (decide (x40.2.1 ≠ 0)))] (fun _ => [(166, .bool true)]) (fun sl wL => sl.w = wL ∧ Step K0 s81 sl) ?_ ?_
                 ·
                  refine k_again 163 rfl ?_
                  refine k_split (fun c84 => ?_) (fun c84 => ?_)
                  ·
                   refine k_no rfl rfl rfl rfl ?_
                   refine k_no rfl rfl rfl rfl ?_
                   refine k_pickT rfl rfl rfl rfl ?_
                   exact k_met ⟨s81, ⟨rfl, trivial⟩, ⟨rfl, rfl, rfl, rfl, rfl, rfl, rfl, rfl, rfl, rfl, rfl, rfl, rfl, rfl, trivial⟩, rfl, hE83⟩
                  ·
                   refine k_yes rfl rfl ?_
                   refine k_move rfl rfl ?_
                   refine k_yes rfl rfl ?_
                   refine k_eql_pnil Tryd.underlying29 rfl rfl rfl ?_
                   refine k_pickF rfl rfl rfl rfl ?_
                   exact k_met ⟨s81, ⟨rfl, trivial⟩, ⟨rfl, rfl, rfl, rfl, rfl, rfl, rfl, rfl, rfl, rfl, rfl, rfl, rfl, rfl, trivial⟩, rfl, hE83⟩
                 ·
                  rintro s85 wL ⟨rfl, hE83⟩
                  have szs85 := hE83.size
                  have hS := hS.trans0 hE83
                  have hE20 := hE20.trans0 hE83
                  have hE22 := hE22.trans0 hE83
                  have hE55 := hE55.trans0 hE83
                  refine k_move rfl rfl ?_
                  refine k_no rfl rfl rfl rfl ?_
                  refine k_no rfl rfl rfl rfl ?_
                  refine k_no rfl rfl rfl rfl ?_
                  refine k_no rfl rfl rfl rfl ?_
                  refine k_no rfl rfl rfl rfl ?_
                  refine k_pickT rfl rfl rfl rfl ?_
                  refine k_move rfl rfl ?_
                  refine k_no rfl rfl rfl rfl ?_
                  refine k_no rfl rfl rfl rfl ?_
                  refine k_no rfl rfl rfl rfl ?_
                  refine k_no rfl rfl rfl rfl ?_
                  refine k_no rfl rfl rfl rfl ?_
                  refine k_pickT rfl rfl rfl rfl ?_
                  refine k_move rfl rfl ?_
                  refine k_no rfl rfl rfl rfl ?_
                  refine k_no rfl rfl rfl rfl ?_
                  refine k_no rfl rfl rfl rfl ?_
                  refine k_no rfl rfl rfl rfl ?_
                  refine k_no rfl rfl rfl rfl ?_
                  refine k_pickT rfl rfl rfl rfl ?_
                  refine k_nil ?_
                  refine k_keep [(1, _), (4, _), (5, _), (7, _), (9, _), (10, _), (11, _), (17, _), (20, _), (187, _)] ⟨rfl, rfl, rfl, rfl, rfl, rfl, rfl, rfl, rfl, rfl, trivial⟩ ?_
                  refine k_cond_true rfl ?_
                  refine k_seq ?_
                  refine k_region ?_
                  refine k_assign rfl rfl ?_
                  refine k_nil ?_
                  refine k_keep [(1, _), (4, _), (5, _), (7, _), (9, _), (10, _), (11, _), (17, _), (20, _)] ⟨rfl, rfl, rfl, rfl, rfl, rfl, rfl, rfl, rfl, trivial⟩ ?_
                  refine k_ret ?_
                  obtain rfl := Option.some.inj h
                  refine ⟨_, rfl, Ret.mk hS ?_⟩
                  exact rfl
                ·
                 rw [ho_82] at h80_0
                 replace h80_0 : OLogfileLog (.pointer (some ⟨pb9, 0, none⟩)) s81 ku80_0 v80_0 x42 := h80_0
                 replace ol80_0 := ol80_0.resolve_left (fun e => by rw [e] at ho_82; cases ho_82)
                 have le82 := h80_0.le
                 have ne82 := h80_0.ne
                 have hE86 := Step.r0 K0 s81
                 refine k_cutl (X := St) 3 [(1, v1), (4, .bool false), (5, (.pointer (some ⟨pb9, 0, none⟩))), (7, pv23), (9, .int .i64 x18), (10, v32), (11, .int .i64 x13), (17, v70_0), (18, v79_0), (20, v80_0), (21, .int .i64 x40.2.1), (22, v81_0), (161, .int .i64 x40.2.1), (162, .bool (decide (x40.2.1 ≠ 0)))] (fun _ => [(166, .bool (decide ((x40.2.1 ≠ 0) ∨ False)))]) (fun sl wL => sl.w = wL ∧ Step K0 s81 sl) ?_ ?_
                 ·
                  refine k_again 163 rfl ?_
                  refine k_split (fun c87 => ?_) (fun c87 => ?_)
                  ·
                   refine k_no rfl rfl rfl rfl ?_
                   refine k_no rfl rfl rfl rfl ?_
                   refine k_pickT rfl rfl rfl rfl ?_
                   exact k_met ⟨s81, ⟨(congrArg (fun b => some (Value.bool b)) (by first | exact decide_eq_decide.2 ⟨Or.inr, fun h => h.resolve_left c87⟩ | exact (decide_eq_true (Or.inl c87)).symm | (simp [c87]; done) | exact dec_andT c87 | exact dec_andF c87 | exact dec_orF c87 | exact dec_orT c87 | (simp [c87, i64] <;> omega))), trivial⟩, ⟨rfl, rfl, rfl, rfl, rfl, rfl, rfl, rfl, rfl, rfl, rfl, rfl, rfl, rfl, trivial⟩, rfl, hE86⟩
                  ·
                   refine k_yes rfl rfl ?_
                   refine k_move rfl rfl ?_
                   refine k_yes rfl rfl ?_
                   obtain ⟨pb88, rfl⟩ := h80_0.ptr
                   refine k_eql_pnil Tryd.underlying29 rfl rfl rfl ?_
                   refine k_pickF rfl rfl rfl rfl ?_
                   exact k_met ⟨s81, ⟨(congrArg (fun b => some (Value.bool b)) (by first | exact decide_eq_decide.2 ⟨Or.inr, fun h => h.resolve_left c87⟩ | exact (decide_eq_true (Or.inl c87)).symm | (simp [c87]; done) | exact dec_andT c87 | exact dec_andF c87 | exact dec_orF c87 | exact dec_orT c87 | (simp [c87, i64] <;> omega))), trivial⟩, ⟨rfl, rfl, rfl, rfl, rfl, rfl, rfl, rfl, rfl, rfl, rfl, rfl, rfl, rfl, trivial⟩, rfl, hE86⟩
                 ·
                  rintro s89 wL ⟨rfl, hE86⟩
                  have szs89 := hE86.size
                  have hS := hS.trans0 hE86
                  have hE20 := hE20.trans0 hE86
                  have hE22 := hE22.trans0 hE86
                  have hE55 := hE55.trans0 hE86
                  replace h70_0 := h70_0.up2 hE86
                  replace h79_0 := h79_0.up2 hE86
                  replace h81_0 := h81_0.up2 hE86
                  replace h1_0 := h1_0.up2 hE86
                  replace h32 := h32.up2 hE86
                  replace h80_0 := h80_0.up2 hE86
                  refine k_move rfl rfl ?_
                  obtain ⟨x43, hx43, h⟩ := ob h
                  have hE90 := Step.r0 K0 s89
                  refine k_cutl (X := St) 6 [(1, v1), (4, .bool false), (5, (.pointer (some ⟨pb9, 0, none⟩))), (7, pv23), (9, .int .i64 x18), (10, v32), (11, .int .i64 x13), (17, v70_0), (18, v79_0), (20, v80_0), (21, .int .i64 x40.2.1), (22, v81_0), (161, .int .i64 x40.2.1), (162, .bool (decide (x40.2.1 ≠ 0))), (166, .bool (decide ((x40.2.1 ≠ 0) ∨ False)))] (fun _ => [(173, .bool x43)]) (fun sl wL => sl.w = wL ∧ Step K0 s89 sl) ?_ ?_
                  ·
                   refine k_again 167 rfl ?_
                   refine k_split (fun c91 => ?_) (fun c91 => ?_)
                   ·
                    have hx43 := itT hx43 c91
                    refine k_no rfl rfl rfl rfl ?_
                    refine k_no rfl rfl rfl rfl ?_
                    refine k_no rfl rfl rfl rfl ?_
                    refine k_no rfl rfl rfl rfl ?_
                    refine k_no rfl rfl rfl rfl ?_
                    refine k_pickT rfl rfl rfl rfl ?_
                    exact k_met ⟨s89, ⟨(congrArg (fun b => some (Value.bool b)) (Option.some.inj hx43)), trivial⟩, ⟨rfl, rfl, rfl, rfl, rfl, rfl, rfl, rfl, rfl, rfl, rfl, rfl, rfl, rfl, rfl, trivial⟩, rfl, hE90⟩
                   ·
                    have hx43 := itF hx43 c91
                    refine k_yes rfl rfl ?_
                    refine k_move rfl rfl ?_
                    refine k_yes rfl rfl ?_
                    obtain ⟨pb92, rfl⟩ := h80_0.ptr
                    obtain ⟨x44, hx44, hx43⟩ := ob hx43
                    refine k_call cal15 rfl (logfile_Log_Records_r1_w  h80_0 h1_0 hx44) rfl ?_
                    rintro s93 v93_0 st93 ⟨_, rfl, h93_0⟩
                    have szs93 := st93.size
                    have hS := hS.trans0 st93
                    have hE20 := hE20.trans0 st93
                    have hE22 := hE22.trans0 st93
                    have hE55 := hE55.trans0 st93
                    have hE90 := hE90.trans0 st93
                    replace h70_0 := h70_0.up2 st93
                    refine k_yes rfl rfl ?_
                    refine k_move rfl rfl ?_
                    refine k_yes rfl rfl ?_
                    obtain ⟨x45, hx45, hx43⟩ := ob hx43
                    refine k_call cal16 rfl (ref11_Same_w  (SL.of_R h93_0) (SL.of_R h70_0) hx45) rfl ?_
                    rintro s94 vr94 st94 rfl
                    have szs94 := st94.size
                    have hS := hS.trans0 st94
                    have hE20 := hE20.trans0 st94
                    have hE22 := hE22.trans0 st94
                    have hE55 := hE55.trans0 st94
                    have hE90 := hE90.trans0 st94
                    refine k_yes rfl rfl ?_
                    refine k_not rfl rfl ?_
                    refine k_pickF rfl rfl rfl rfl ?_
                    exact k_met ⟨s94, ⟨(congrArg (fun b => some (Value.bool b)) (Option.some.inj hx43)), trivial⟩, ⟨rfl, rfl, rfl, rfl, rfl, rfl, rfl, rfl, rfl, rfl, rfl, rfl, rfl, rfl, rfl, trivial⟩, rfl, hE90⟩
                  ·
                   rintro s95 wL ⟨rfl, hE90⟩
                   have szs95 := hE90.size
                   have hS := hS.trans0 hE90
                   have hE20 := hE20.trans0 hE90
                   have hE22 := hE22.trans0 hE90
                   have hE55 := hE55.trans0 hE90
                   replace h70_0 := h70_0.up2 hE90
                   replace h79_0 := h79_0.up2 hE90
                   replace h81_0 := h81_0.up2 hE90
                   replace h1_0 := h1_0.up2 hE90
                   replace h32 := h32.up2 hE90
                   replace h80_0 := h80_0.up2 hE90
                   refine k_move rfl rfl ?_
                   have hE96 := Step.r0 K0 s95
                   refine k_cutl (X := St) 6 [(1, v1), (4, .bool false), (5, (.pointer (some ⟨pb9, 0, none⟩))), (7, pv23), (9, .int .i64 x18), (10, v32), (11, .int .i64 x13), (17, v70_0), (18, v79_0), (20, v80_0), (21, .int .i64 x40.2.1), (22, v81_0), (161, .int .i64 x40.2.1), (162, .bool (decide (x40.2.1 ≠ 0))), (166, .bool (decide ((x40.2.1 ≠ 0) ∨ False))), (173, .bool x43)] (fun _ => [(180, .bool (decide ((x43 = true) ∨ (x39.1 ≠ x41.1))))]) (fun sl wL => sl.w = wL ∧ Step K0 s95 sl) ?_ ?_
                   ·
                    refine k_again 174 rfl ?_
                    refine k_splitb (fun c97 => ?_) (fun c97 => ?_)
                    ·
                     refine k_no rfl rfl rfl rfl ?_
                     refine k_no rfl rfl rfl rfl ?_
                     refine k_no rfl rfl rfl rfl ?_
                     refine k_no rfl rfl rfl rfl ?_
                     refine k_no rfl rfl rfl rfl ?_
                     refine k_pickT rfl rfl rfl rfl ?_
                     exact k_met ⟨s95, ⟨(congrArg (fun b => some (Value.bool b)) (by first | exact decide_eq_decide.2 ⟨Or.inr, fun h => h.resolve_left c97⟩ | exact (decide_eq_true (Or.inl c97)).symm | (simp [c97]; done) | exact dec_andT c97 | exact dec_andF c97 | exact dec_orF c97 | exact dec_orT c97 | (simp [c97, i64] <;> omega))), trivial⟩, ⟨rfl, rfl, rfl, rfl, rfl, rfl, rfl, rfl, rfl, rfl, rfl, rfl, rfl, rfl, rfl, rfl, trivial⟩, rfl, hE96⟩
                    ·
                     refine k_yes rfl rfl ?_
                     refine k_move rfl rfl ?_
                     refine k_yes rfl rfl ?_
                     refine k_bts (m := x39.1) Tryd.underlying33 Tryd.underlying5 Tryd.underlying9 rfl (SL.of_R h79_0) rfl ?_
                     refine k_yes rfl rfl ?_
                     refine k_move rfl rfl ?_
                     refine k_yes rfl rfl ?_
                     refine k_bts (m := x41.1) Tryd.underlying33 Tryd.underlying5 Tryd.underlying9 rfl (SL.of_R h81_0) rfl ?_
                     refine k_yes rfl rfl ?_
                     refine k_neq_str rfl rfl rfl ?_
                     refine k_pickF rfl rfl rfl rfl ?_
                     exact k_met ⟨s95, ⟨(congrArg (fun b => some (Value.bool b)) (by first | exact decide_eq_decide.2 ⟨Or.inr, fun h => h.resolve_left c97⟩ | exact (decide_eq_true (Or.inl c97)).symm | (simp [c97]; done) | exact dec_andT c97 | exact dec_andF c97 | exact dec_orF c97 | exact dec_orT c97 | (simp [c97, i64] <;> omega))), trivial⟩, ⟨rfl, rfl, rfl, rfl, rfl, rfl, rfl, rfl, rfl, rfl, rfl, rfl, rfl, rfl, rfl, rfl, trivial⟩, rfl, hE96⟩
                   ·
                    rintro s98 wL ⟨rfl, hE96⟩
                    have szs98 := hE96.size
                    have hS := hS.trans0 hE96
                    have hE20 := hE20.trans0 hE96
                    have hE22 := hE22.trans0 hE96
                    have hE55 := hE55.trans0 hE96
                    replace h70_0 := h70_0.up2 hE96
                    replace h81_0 := h81_0.up2 hE96
                    replace h1_0 := h1_0.up2 hE96
                    replace h32 := h32.up2 hE96
                    replace h80_0 := h80_0.up2 hE96
                    refine k_move rfl rfl ?_
                    obtain ⟨x46, hx46, h⟩ := ob h
                    have hE99 := Step.r0 K0 s98
                    refine k_cutl (X := St) 6 [(1, v1), (4, .bool false), (5, (.pointer (some ⟨pb9, 0, none⟩))), (7, pv23), (9, .int .i64 x18), (10, v32), (11, .int .i64 x13), (17, v70_0), (18, v79_0), (20, v80_0), (21, .int .i64 x40.2.1), (22, v81_0), (161, .int .i64 x40.2.1), (162, .bool (decide (x40.2.1 ≠ 0))), (166, .bool (decide ((x40.2.1 ≠ 0) ∨ False))), (173, .bool x43), (180, .bool (decide ((x43 = true) ∨ (x39.1 ≠ x41.1))))] (fun _ => [(187, .bool x46)]) (fun sl wL => sl.w = wL ∧ Step K0 s98 sl) ?_ ?_
                    ·
                     refine k_again 181 rfl ?_
                     refine k_split (fun c100 => ?_) (fun c100 => ?_)
                     ·
                      have hx46 := itT hx46 c100
                      refine k_no rfl rfl rfl rfl ?_
                      refine k_no rfl rfl rfl rfl ?_
                      refine k_no rfl rfl rfl rfl ?_
                      refine k_no rfl rfl rfl rfl ?_
                      refine k_no rfl rfl rfl rfl ?_
                      refine k_pickT rfl rfl rfl rfl ?_
                      exact k_met ⟨s98, ⟨(congrArg (fun b => some (Value.bool b)) (Option.some.inj hx46)), trivial⟩, ⟨rfl, rfl, rfl, rfl, rfl, rfl, rfl, rfl, rfl, rfl, rfl, rfl, rfl, rfl, rfl, rfl, rfl, trivial⟩, rfl, hE99⟩
                     ·
                      have hx46 := itF hx46 c100
                      refine k_yes rfl rfl ?_
                      refine k_move rfl rfl ?_
                      refine k_yes rfl rfl ?_
                      refine k_len Tryd.underlying33 rfl (SL.of_R h81_0).hasLen rfl ?_
                      refine k_as (v := .int .i64 (x41.1.length : Int)) (by simp only [List.length_map]) ?_
                      refine k_yes rfl rfl ?_
                      refine k_move rfl rfl ?_
                      refine k_yes rfl rfl ?_
                      obtain ⟨pb101, rfl⟩ := h80_0.ptr
                      obtain ⟨x47, hx47, hx46⟩ := ob hx46
                      refine k_call cal18 rfl (logfile_Log_Size_r1_w  h80_0 h1_0 hx47) rfl ?_
                      rintro s102 vr102 st102 rfl
                      have szs102 := st102.size
                      have hS := hS.trans0 st102
                      have hE20 := hE20.trans0 st102
                      have hE22 := hE22.trans0 st102
                      have hE55 := hE55.trans0 st102
                      have hE99 := hE99.trans0 st102
                      refine k_yes rfl rfl ?_
                      refine k_neq rfl rfl rfl ?_
                      refine k_pickF rfl rfl rfl rfl ?_
                      exact k_met ⟨s102, ⟨(congrArg (fun b => some (Value.bool b)) (Option.some.inj hx46)), trivial⟩, ⟨rfl, rfl, rfl, rfl, rfl, rfl, rfl, rfl, rfl, rfl, rfl, rfl, rfl, rfl, rfl, rfl, rfl, trivial⟩, rfl, hE99⟩
                    ·
                     rintro s103 wL ⟨rfl, hE99⟩
                     have szs103 := hE99.size
                     have hS := hS.trans0 hE99
                     have hE20 := hE20.trans0 hE99
                     have hE22 := hE22.trans0 hE99
                     have hE55 := hE55.trans0 hE99
                     replace h70_0 := h70_0.up2 hE99
                     replace h1_0 := h1_0.up2 hE99
                     replace h32 := h32.up2 hE99
                     replace h80_0 := h80_0.up2 hE99
                     refine k_nil ?_
                     refine k_keep [(1, _), (4, _), (5, _), (7, _), (9, _), (10, _), (11, _), (17, _), (20, _), (187, _)] ⟨rfl, rfl, rfl, rfl, rfl, rfl, rfl, rfl, rfl, rfl, trivial⟩ ?_
                     refine k_cond rfl (fun c104 => ?_) (fun c104 => ?_)
                     ·
                      have h := ibT h c104
                      refine k_seq ?_
                      refine k_region ?_
                      refine k_assign rfl rfl ?_
                      refine k_nil ?_
                      refine k_keep [(1, _), (4, _), (5, _), (7, _), (9, _), (10, _), (11, _), (17, _), (20, _)] ⟨rfl, rfl, rfl, rfl, rfl, rfl, rfl, rfl, rfl, trivial⟩ ?_
                      refine k_ret ?_
                      obtain rfl := Option.some.inj h
                      refine ⟨_, rfl, Ret.mk hS ?_⟩
                      exact rfl
                     ·
                      have h := ibF h c104
                      refine k_skip ?_
                      refine k_keep [(1, _), (4, _), (5, _), (9, _), (10, _), (11, _), (17, _), (20, _)] ⟨rfl, rfl, rfl, rfl, rfl, rfl, rfl, rfl, trivial⟩ ?_
                      refine k_drawT (KN s103.n) 6 (.read 0 (.read 1 (.read 2 (.read 3 (.read 5 (.alt 4 .fin .no)))))) mixed (by intro c h; (try simp only [KC, KO, KU, KN, KB] at h) <;> omega) rfl rfl rfl ?_
                      intro s105 st105
                      have szs105 := st105.size
                      have hS := hS.trans0 st105
                      have hE20 := hE20.trans0 st105
                      have hE22 := hE22.trans0 st105
                      have hE55 := hE55.trans0 st105
                      replace h70_0 := h70_0.up2 st105
                      replace h1_0 := h1_0.up2 st105
                      replace h32 := h32.up2 st105
                      replace h80_0 := h80_0.up2 st105
                      refine rt_read (v80_0) rfl rfl (fun s106 st106 => ?_) ?_
                      ·refine k_move rfl rfl ?_
                       exact fq_end
                      refine rt_read (v32) rfl rfl (fun s107 st107 => ?_) ?_
                      ·refine k_move rfl rfl ?_
                       exact fq_end
                      refine rt_read (v70_0) rfl rfl (fun s108 st108 => ?_) ?_
                      ·refine k_move rfl rfl ?_
                       exact fq_end
                      refine rt_read (.int .i64 (x35.length : Int)) rfl rfl (fun s109 st109 => ?_) ?_
                      ·try replace h70_0 := h70_0.up2 st109
                       refine k_len Tryd.underlying32 rfl (SL.of_R h70_0).hasLen rfl ?_
                       refine k_as (v := .int .i64 (x35.length : Int)) (by simp only [List.length_map]) ?_
                       exact fq_end
                      refine rt_read (v80_0) rfl rfl (fun s110 st110 => ?_) ?_
                      ·refine k_assign rfl rfl ?_
                       exact fq_end
                      refine rt_act rfl rfl ?_
                      have hA111 := Step.r0 (KN s103.n) s105
                      obtain ⟨x48, hx48, h⟩ := ob h
                      refine k_cut_own (j := ((x35.length : Int) : Int).toNat) Tryd.underlying32 size33 rfl h32 (CutAt.int rfl (Int.le_trans (subl_out hx48).1 (subl_out hx48).2.1)) (by rw [List.length_map]; exact subl_j hx48) rfl ?_
                      intro v112 h112
                      rw [← List.map_take, ← subl_take hx48] at h112
                      refine rt_cont hA111 ?_
                      refine rt_fin ?_
                      refine k_assign rfl rfl ?_
                      refine k_nil ?_
                      exact k_stop ⟨(s105, ku80_0, v80_0, x42, x48, v112, x40.2.2), ⟨(by first | rfl | (simp <;> rfl)), (by first | rfl | (simp <;> rfl)), trivial⟩, ⟨rfl, rfl, rfl, rfl, rfl, trivial⟩, ⟨rfl, hE55, h80_0, (by first | omega | (simp <;> omega)), h112, h1_0, h⟩⟩
           ·
            have h := ibF h c65
            refine k_skip ?_
            exact k_stop ⟨(s64, kv23, pv23, x21, x19, v32, x20), ⟨(by first | rfl | (simp <;> rfl)), (by first | rfl | (simp <;> rfl)), trivial⟩, ⟨rfl, rfl, rfl, rfl, rfl, trivial⟩, ⟨rfl, hE55, h23, (by first | omega | (simp <;> omega)), h32, h1_0, h⟩⟩
         ·
          rintro ⟨s113, kv56, pv56, x28, x29, v57, x30⟩ wL ⟨rfl, hE55, h56, hd56, h57, h1_0, h⟩
          have leh56 := h56.le
          have neh56 := h56.ne
          rw [hK55] at h
          have szs113 := hE55.size
          have hS := hS.c0 hE55
          have hE20 := hE20.c0 hE55
          have hE22 := hE22.c0 hE55
          refine k_seq ?_
          refine k_region ?_
          refine k_move rfl rfl ?_
          obtain ⟨x49, hx49, h⟩ := ob h
          refine k_call cal10 rfl (disk_Disk_Down_w  h1_0 hx49) rfl ?_
          rintro s114 vr114 st114 rfl
          have szs114 := st114.size
          have hS := hS.trans0 st114
          have hE20 := hE20.trans0 st114
          have hE22 := hE22.trans0 st114
          replace h1_0 := h1_0.up2 st114
          replace h56 := h56.up2 st114
          replace h57 := h57.up2 st114
          refine k_not rfl rfl ?_
          refine k_move rfl rfl ?_
          obtain ⟨x50, hx50, h⟩ := ob h
          have hE115 := Step.r0 K0 s114
          refine k_cutl (X := St) 6 [(1, v1), (4, .bool false), (5, (.pointer (some ⟨pb9, 0, none⟩))), (7, pv56), (9, .int .i64 x18), (10, v57), (11, .int .i64 x13), (193, (.pointer (some ⟨pb9, 0, none⟩))), (194, .bool x49), (195, .bool (!x49))] (fun _ => [(202, .bool x50)]) (fun sl wL => sl.w = wL ∧ Step K0 s114 sl) ?_ ?_
          ·
           refine k_again 196 rfl ?_
           refine k_splitb (fun c116 => ?_) (fun c116 => ?_)
           ·
            have hx50 := ibT hx50 c116
            refine k_yes rfl rfl ?_
            refine k_move rfl rfl ?_
            refine k_yes rfl rfl ?_
            obtain ⟨pb117, rfl⟩ := h56.ptr
            obtain ⟨x51, hx51, hx50⟩ := ob hx50
            refine k_call cal15 rfl (logfile_Log_Records_r1_w  h56 h1_0 hx51) rfl ?_
            rintro s118 v118_0 st118 ⟨_, rfl, h118_0⟩
            have szs118 := st118.size
            have hS := hS.trans0 st118
            have hE20 := hE20.trans0 st118
            have hE22 := hE22.trans0 st118
            have hE115 := hE115.trans0 st118
            replace h57 := h57.up2 st118
            refine k_yes rfl rfl ?_
            refine k_move rfl rfl ?_
            refine k_yes rfl rfl ?_
            obtain ⟨x52, hx52, hx50⟩ := ob hx50
            refine k_call cal16 rfl (ref11_Same_w  (SL.of_R h118_0) (h57.sl) hx52) rfl ?_
            rintro s119 vr119 st119 rfl
            have szs119 := st119.size
            have hS := hS.trans0 st119
            have hE20 := hE20.trans0 st119
            have hE22 := hE22.trans0 st119
            have hE115 := hE115.trans0 st119
            refine k_yes rfl rfl ?_
            refine k_not rfl rfl ?_
            refine k_pickT rfl rfl rfl rfl ?_
            exact k_met ⟨s119, ⟨(congrArg (fun b => some (Value.bool b)) (Option.some.inj hx50)), trivial⟩, ⟨rfl, rfl, rfl, rfl, rfl, rfl, rfl, rfl, rfl, rfl, trivial⟩, rfl, hE115⟩
           ·
            have hx50 := ibF hx50 c116
            refine k_no rfl rfl rfl rfl ?_
            refine k_no rfl rfl rfl rfl ?_
            refine k_no rfl rfl rfl rfl ?_
            refine k_no rfl rfl rfl rfl ?_
            refine k_no rfl rfl rfl rfl ?_
            refine k_pickF rfl rfl rfl rfl ?_
            exact k_met ⟨s114, ⟨(congrArg (fun b => some (Value.bool b)) (Option.some.inj hx50)), trivial⟩, ⟨rfl, rfl, rfl, rfl, rfl, rfl, rfl, rfl, rfl, rfl, trivial⟩, rfl, hE115⟩
          ·
           rintro s120 wL ⟨rfl, hE115⟩
           have szs120 := hE115.size
           have hS := hS.trans0 hE115
           have hE20 := hE20.trans0 hE115
           have hE22 := hE22.trans0 hE115
           replace h1_0 := h1_0.up2 hE115
           replace h56 := h56.up2 hE115
           replace h57 := h57.up2 hE115
           refine k_nil ?_
           refine k_keep [(1, _), (4, _), (5, _), (7, _), (9, _), (10, _), (11, _), (202, _)] ⟨rfl, rfl, rfl, rfl, rfl, rfl, rfl, rfl, trivial⟩ ?_
           refine k_cond rfl (fun c121 => ?_) (fun c121 => ?_)
           ·
            have h := ibT h c121
            refine k_seq ?_
            refine k_region ?_
            refine k_assign rfl rfl ?_
            refine k_nil ?_
            refine k_keep [(1, _), (4, _), (5, _), (7, _), (9, _), (10, _), (11, _)] ⟨rfl, rfl, rfl, rfl, rfl, rfl, rfl, trivial⟩ ?_
            refine k_ret ?_
            obtain rfl := Option.some.inj h
            refine ⟨_, rfl, Ret.mk hS ?_⟩
            exact rfl
           ·
            have h := ibF h c121
            refine k_skip ?_
            refine k_blk ?_
            refine k_region ?_
            refine k_move rfl rfl ?_
            refine k_add rfl rfl rfl ?_
            refine k_assign rfl rfl ?_
            refine k_nil ?_
            exact k_stop ⟨(s120, kv56, pv56, x28, x18, x29, v57, i64 (x13 + 1), x30, j), ⟨(by first | rfl | (simp <;> rfl)), (by first | rfl | (simp <;> rfl)), (by first | rfl | (simp <;> rfl)), (by first | rfl | (simp <;> rfl)), trivial⟩, ⟨rfl, rfl, rfl, trivial⟩, ⟨rfl, hE22, h56, (by first | omega | (simp <;> omega)), h57, h1_0, h⟩, (by simp)⟩
       ·
        have h := itF h c26
        refine k_exit rfl ?_
        exact k_stop ⟨(s25, x14), trivial, ⟨rfl, trivial⟩, ⟨rfl, hE20, h1_0, h⟩⟩
      ·
       rintro ⟨s122, x9⟩ wL ⟨rfl, hE20, h1_0, h⟩
       rw [hK20] at h
       have szs122 := hE20.size
       have hS := hS.c0 hE20
       refine k_seq ?_
       refine k_region ?_
       obtain ⟨x53, hx53, h⟩ := ob h
       refine k_call cal8 rfl (law11_awake_w   hx53) rfl ?_
       rintro s123 vr123 st123 rfl
       have szs123 := st123.size
       have hS := hS.trans0 st123
       refine k_assign rfl rfl ?_
       refine k_nil ?_
       refine k_keep [(4, _)] ⟨rfl, trivial⟩ ?_
       refine k_ret ?_
       obtain rfl := Option.some.inj h
       refine ⟨_, rfl, Ret.mk hS ?_⟩
       exact rfl
end Go.Proofs
