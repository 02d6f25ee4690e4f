import Derived.Test.YtcjcpmfnolhclaaDoorW11DLogfileNobody2
set_option linter.unusedSimpArgs false
set_option linter.unusedVariables false
namespace Go.Proofs
open Go.Fw
set_option maxHeartbeats 1000000 in
set_option maxRecDepth 100000 in
theorem logfile_Log_Append_r2_w {s : St} {k0 : Nat} {p0 : Value} {a0 : LogfileLog} {v1 : Value} {a1 : (List UInt8)} {k2 : Nat} {p2 : Value} {a2 : DiskDisk} {r : (Int × LogfileLog × DiskDisk)} (ho0 : OLogfileLog p2 s k0 p0 a0) (hp1 : R s v1 (.sl 1 (a1.map bD))) (ho2 : ODiskDisk s k2 p2 a2) (hk0_2 : k0 ≠ k2) (h : logfile_Log_Append_r2 a0 a1 a2 = some r) : Calls Tryd.prog 11 #[p0, v1] s.w (Ret s (KU (KO k0) (KO k2)) (fun s1 v => v = .int .i64 r.1 ∧ OLogfileLog p2 s1 k0 p0 r.2.1 ∧ ODiskDisk s1 k2 p2 r.2.2)) := by
 unfold logfile_Log_Append_r2 at h
 have le0 := ho0.le
 have ne0 := ho0.ne
 have le2 := ho2.le
 have ne2 := ho2.ne
 obtain ⟨bo2, rfl⟩ := ho2.ptr
 obtain ⟨bo0, rfl⟩ := ho0.ptr
 obtain ⟨wo0_0, hb_o0, hwo0_0⟩ := ho0.at_
 have hS := Step.r0 (KU (KO k0) (KO k2)) s
 refine k_fn (rs := [4]) (args := [.pointer (some ⟨bo0, 0, none⟩), v1]) Tryd.func11 rfl rfl rfl rfl ?_
 refine k_seq ?_
 refine k_region ?_
 refine k_assign rfl rfl ?_
 refine k_nil ?_
 refine k_seq ?_
 refine k_seq ?_
 refine k_region ?_
 refine k_move rfl rfl ?_
 obtain ⟨x1, hx1, h⟩ := ob h
 obtain rfl := Option.some.inj (show some false = some x1 from hx1)
 refine k_call cal31 rfl (logfile_Log_none_r1_w  (OLogfileLog.mk_ a0 (by omega) hwo0_0 hb_o0) ho2 hx1) rfl ?_
 rintro s1 vr1 st1 rfl
 have szs1 := st1.size
 have hS := hS.trans0 st1
 replace hp1 := hp1.up2 st1
 replace ho2 := ho2.up2 st1
 replace hwo0_0 := hwo0_0.up2 st1
 replace hb_o0 := hb_o0.up2 st1
 refine k_move rfl rfl ?_
 refine k_yes rfl rfl ?_
 refine k_move rfl rfl ?_
 refine k_yes rfl rfl ?_
 refine k_nilCheck rfl rfl ?_
 refine k_yes rfl rfl ?_
 refine k_field_addr fld53_0 rfl rfl ?_
 refine k_yes rfl rfl ?_
 refine k_field_addr fld48_0 rfl rfl ?_
 refine k_yes rfl rfl ?_
 refine k_load_blk one23 rfl hb_o0 rfl rfl ?_
 refine k_yes rfl rfl ?_
 obtain ⟨x2, hx2, h⟩ := ob h
 refine k_call cal10 rfl (disk_Disk_Down_w  ho2 hx2) rfl ?_
 rintro s2 vr2 st2 rfl
 have szs2 := st2.size
 have hS := hS.trans0 st2
 replace hp1 := hp1.up2 st2
 replace ho2 := ho2.up2 st2
 replace hwo0_0 := hwo0_0.up2 st2
 replace hb_o0 := hb_o0.up2 st2
 refine k_pickF rfl rfl rfl rfl ?_
 refine k_nil ?_
 refine k_keep [(0, _), (1, _), (4, _), (18, _)] ⟨rfl, rfl, rfl, rfl, trivial⟩ ?_
 refine k_cond rfl (fun c3 => ?_) (fun c3 => ?_)
 ·
  have h := ibT h c3
  refine k_seq ?_
  refine k_region ?_
  refine k_assign rfl rfl ?_
  refine k_nil ?_
  refine k_keep [(0, _), (1, _), (4, _)] ⟨rfl, rfl, rfl, trivial⟩ ?_
  refine k_ret ?_
  obtain rfl := Option.some.inj h
  refine ⟨_, rfl, Ret.mk hS ?_⟩
  exact ⟨rfl, (OLogfileLog.mk_ a0 (by omega) hwo0_0 hb_o0), ho2⟩
 ·
  have h := ibF h c3
  refine k_skip ?_
  refine k_seq ?_
  refine k_region ?_
  refine k_move rfl rfl ?_
  refine k_nilCheck rfl rfl ?_
  refine k_field_addr fld53_3 rfl rfl ?_
  refine k_load_sub (cs' := [.int .i64 a0.tail.Count, .int .i64 a0.tail.Size, .int .u32 (a0.tail.Sum.toNat : Int)]) agg51 rfl hb_o0 rfl rfl rfl ?_
  refine k_move rfl rfl ?_
  obtain ⟨x3, hx3, h⟩ := ob h
  refine k_call cal32 rfl (frame_Put_w  (clsApiTail a0.tail) (show R s2 v1 (.sl 1 (a1.map bD)) from hp1) hx3) rfl ?_
  rintro s4 vr4 st4 ⟨v4_0, cs4_1, rfl, h4_0, h4_1⟩
  have szs4 := st4.size
  have hS := hS.trans0 st4
  replace hp1 := hp1.up2 st4
  replace ho2 := ho2.up2 st4
  replace hwo0_0 := hwo0_0.up2 st4
  replace hb_o0 := hb_o0.up2 st4
  obtain rfl := opnApiTail h4_1
  refine k_move rfl rfl ?_
  refine k_extract rfl rfl rfl ?_
  refine k_extract rfl rfl rfl ?_
  refine k_extract rfl rfl rfl ?_
  refine k_alloc zero51 rfl ?_
  intro s5 b5 st5 h5 ge5
  have szs5 := st5.size
  have hS := hS.trans0 st5
  replace hp1 := hp1.up2 st5
  replace h4_0 := h4_0.up2 st5
  replace ho2 := ho2.up2 st5
  replace hwo0_0 := hwo0_0.up2 st5
  replace hb_o0 := hb_o0.up2 st5
  have lt5 := h5.lt
  refine k_assign rfl rfl ?_
  refine k_store_c (cs' := [.int .i64 x3.2.1.Count, .int .i64 x3.2.1.Size, .int .u32 (x3.2.1.Sum.toNat : Int)]) size51 rfl rfl h5 (by first | (simp; done) | omega | (dsimp only; omega)) (CellsOf.lit rfl rfl) rfl (by first | rfl | (simp; done) | (simp; omega)) rfl ?_
  intro s6 st6 h5
  have szs6 := st6.size
  have hS := hS.c0 st6
  replace hp1 := hp1.up2 st6
  replace h4_0 := h4_0.up2 st6
  replace ho2 := ho2.up2 st6
  replace hwo0_0 := hwo0_0.up2 st6
  replace hb_o0 := hb_o0.up2 st6
  refine k_assign rfl rfl ?_
  refine k_nil ?_
  refine k_keep [(0, _), (1, _), (4, _), (5, _), (6, _), (7, _)] ⟨rfl, rfl, rfl, rfl, rfl, rfl, trivial⟩ ?_
  refine k_seq ?_
  refine k_seq ?_
  refine k_region ?_
  refine k_move rfl rfl ?_
  refine k_neq rfl rfl rfl ?_
  refine k_nil ?_
  refine k_keep [(0, _), (1, _), (4, _), (5, _), (6, _), (7, _), (30, _)] ⟨rfl, rfl, rfl, rfl, rfl, rfl, rfl, trivial⟩ ?_
  refine k_cond_dec rfl (fun c7 => ?_) (fun c7 => ?_)
  ·
   have h := itT h c7
   refine k_seq ?_
   refine k_region ?_
   refine k_move rfl rfl ?_
   refine k_assign rfl rfl ?_
   refine k_nil ?_
   refine k_keep [(0, _), (1, _), (4, _), (5, _), (6, _)] ⟨rfl, rfl, rfl, rfl, rfl, trivial⟩ ?_
   refine k_ret ?_
   obtain rfl := Option.some.inj h
   refine ⟨_, rfl, Ret.mk hS ?_⟩
   exact ⟨rfl, (OLogfileLog.mk_ a0 (by omega) hwo0_0 hb_o0), ho2⟩
  ·
   have h := itF h c7
   refine k_skip ?_
   refine k_seq ?_
   refine k_seq ?_
   refine k_keep [(0, _), (1, _), (4, _), (5, _), (6, _)] ⟨rfl, rfl, rfl, rfl, rfl, trivial⟩ ?_
   refine k_drawT (KN s6.n) 10 (.read 0 (.read 1 (.read 2 (.read 3 (.read 4 (.read 5 (.read 6 (.read 7 (.read 8 (.read 9 .fin)))))))))) mixed (by intro c h; (try simp only [KC, KO, KU, KN, KB] at h) <;> omega) rfl rfl rfl ?_
   intro s8 st8
   have szs8 := st8.size
   have hS := hS.trans0 st8
   replace hp1 := hp1.up2 st8
   replace h4_0 := h4_0.up2 st8
   replace ho2 := ho2.up2 st8
   replace hwo0_0 := hwo0_0.up2 st8
   replace hb_o0 := hb_o0.up2 st8
   replace h5 := h5.up2 st8
   refine rt_read (.pointer (some ⟨bo0, 0, none⟩)) rfl rfl (fun s9 st9 => ?_) ?_
   ·refine k_move rfl rfl ?_
    exact fq_end
   refine rt_read (.pointer (some ⟨bo0, 0, none⟩)) rfl rfl (fun s10 st10 => ?_) ?_
   ·refine k_nilCheck rfl rfl ?_
    exact fq_end
   refine rt_read (.pointer (some ⟨bo0, 0, none⟩)) rfl rfl (fun s11 st11 => ?_) ?_
   ·refine k_field_addr fld53_0 rfl rfl ?_
    exact fq_end
   refine rt_read (.pointer (some ⟨bo0, 0, none⟩)) rfl rfl (fun s12 st12 => ?_) ?_
   ·refine k_field_addr fld48_0 rfl rfl ?_
    exact fq_end
   refine rt_read ((.pointer (some ⟨bo2, 0, none⟩))) rfl rfl (fun s13 st13 => ?_) ?_
   ·try replace hb_o0 := hb_o0.up2 st13
    refine k_load_blk one23 rfl hb_o0 rfl rfl ?_
    exact fq_end
   refine rt_read (.pointer (some ⟨bo0, 0, none⟩)) rfl rfl (fun s14 st14 => ?_) ?_
   ·refine k_move rfl rfl ?_
    exact fq_end
   refine rt_read (.pointer (some ⟨bo0, 0, none⟩)) rfl rfl (fun s15 st15 => ?_) ?_
   ·refine k_nilCheck rfl rfl ?_
    exact fq_end
   refine rt_read (.pointer (some ⟨bo0, 1, none⟩)) rfl rfl (fun s16 st16 => ?_) ?_
   ·refine k_field_addr fld53_1 rfl rfl ?_
    exact fq_end
   refine rt_read (S a0.name) rfl rfl (fun s17 st17 => ?_) ?_
   ·try replace hb_o0 := hb_o0.up2 st17
    refine k_load_blk one9 rfl hb_o0 rfl rfl ?_
    exact fq_end
   refine rt_read (v4_0) rfl rfl (fun s18 st18 => ?_) ?_
   ·refine k_move rfl rfl ?_
    exact fq_end
   refine rt_fin ?_
   obtain ⟨x4, hx4, h⟩ := ob h
   refine k_call cal33 rfl (disk_Disk_Append_w  ho2 (SL.of_R h4_0) (by first | assumption | omega | (dsimp only; omega) | (simp <;> omega)) hx4) rfl ?_
   rintro s19 vr19 st19 ⟨rfl, ho2⟩
   have szs19 := st19.size
   have hS := hS.c0 st19
   replace hp1 := hp1.up2 st19
   replace hwo0_0 := hwo0_0.up2 st19
   replace hb_o0 := hb_o0.up2 st19
   replace h5 := h5.up2 st19
   refine k_assign rfl rfl ?_
   refine k_nil ?_
   refine k_keep [(0, _), (1, _), (4, _), (6, _), (8, _)] ⟨rfl, rfl, rfl, rfl, rfl, trivial⟩ ?_
   refine k_seq ?_
   refine k_region ?_
   refine k_move rfl rfl ?_
   refine k_neq rfl rfl rfl ?_
   refine k_nil ?_
   refine k_keep [(0, _), (1, _), (4, _), (6, _), (8, _), (44, _)] ⟨rfl, rfl, rfl, rfl, rfl, rfl, trivial⟩ ?_
   refine k_cond_dec rfl (fun c20 => ?_) (fun c20 => ?_)
   ·
    have h := itT h c20
    refine k_seq ?_
    refine k_region ?_
    refine k_move rfl rfl ?_
    refine k_assign rfl rfl ?_
    refine k_nil ?_
    refine k_keep [(0, _), (1, _), (4, _), (6, _)] ⟨rfl, rfl, rfl, rfl, trivial⟩ ?_
    refine k_ret ?_
    obtain rfl := Option.some.inj h
    refine ⟨_, rfl, Ret.mk hS ?_⟩
    exact ⟨rfl, (OLogfileLog.mk_ a0 (by omega) hwo0_0 hb_o0), ho2⟩
   ·
    have h := itF h c20
    refine k_skip ?_
    refine k_seq ?_
    refine k_keep [(0, _), (1, _), (4, _), (6, _)] ⟨rfl, rfl, rfl, rfl, trivial⟩ ?_
    refine k_drawT (KU (KN s19.n) (KC k0 4)) 9 (.read 0 (.read 1 (.read 2 (.read 3 (.read 4 (.read 5 (.alt 6 (.alt 7 (.alt 8 .fin .no) .no) .no))))))) mixed (by intro c h; (try simp only [KC, KO, KU, KN, KB] at h) <;> omega) rfl rfl rfl ?_
    intro s21 st21
    have szs21 := st21.size
    have hS := hS.trans0 st21
    replace hp1 := hp1.up2 st21
    replace ho2 := ho2.up2 st21
    replace hwo0_0 := hwo0_0.up2 st21
    replace hb_o0 := hb_o0.up2 st21
    replace h5 := h5.up2 st21
    refine rt_read (.pointer (some ⟨bo0, 0, none⟩)) rfl rfl (fun s22 st22 => ?_) ?_
    ·refine k_move rfl rfl ?_
     exact fq_end
    refine rt_read (.pointer (some ⟨bo0, 0, none⟩)) rfl rfl (fun s23 st23 => ?_) ?_
    ·refine k_move rfl rfl ?_
     exact fq_end
    refine rt_read (.pointer (some ⟨bo0, 0, none⟩)) rfl rfl (fun s24 st24 => ?_) ?_
    ·refine k_nilCheck rfl rfl ?_
     exact fq_end
    refine rt_read (.pointer (some ⟨bo0, 2, none⟩)) rfl rfl (fun s25 st25 => ?_) ?_
    ·refine k_field_addr fld53_2 rfl rfl ?_
     exact fq_end
    refine rt_read (wo0_0) rfl rfl (fun s26 st26 => ?_) ?_
    ·try replace hb_o0 := hb_o0.up2 st26
     refine k_load_blk one32 rfl hb_o0 rfl rfl ?_
     exact fq_end
    refine rt_read (v1) rfl rfl (fun s27 st27 => ?_) ?_
    ·refine k_move rfl rfl ?_
     exact fq_end
    refine rt_act rfl rfl ?_
    have hA28 := Step.r0 (KU (KN s19.n) (KC k0 4)) s21
    obtain ⟨x5, hx5, h⟩ := ob h
    refine k_call cal34 rfl (slices_Clone_byte_byte_w  (SL.of_R hp1) hx5) rfl ?_
    rintro s29 v29_0 st29 ⟨_, rfl, h29_0⟩
    have szs29 := st29.size
    have hS := hS.trans0 st29
    have hA28 := hA28.trans0 st29
    replace ho2 := ho2.up2 st29
    replace hwo0_0 := hwo0_0.up2 st29
    replace hb_o0 := hb_o0.up2 st29
    replace h5 := h5.up2 st29
    refine rt_cont hA28 ?_
    refine rt_act rfl rfl ?_
    have hA30 := Step.r0 (KU (KN s19.n) (KC k0 4)) s29
    refine k_bslice2 (ds := ([x5] : List (List UInt8)).map (dL 1 bD)) slc32 rfl (RVs.cons h29_0 RVs.nil) (by rfl) (by rfl) rfl rfl ?_
    intro s31 v31 b31 st31 ge31 bl31 h31
    have szs31 := st31.size
    have hS := hS.trans0 st31
    have hA30 := hA30.trans0 st31
    replace ho2 := ho2.up2 st31
    replace hwo0_0 := hwo0_0.up2 st31
    replace hb_o0 := hb_o0.up2 st31
    replace h5 := h5.up2 st31
    have lt31 := Own.le1 h31
    refine rt_cont hA30 ?_
    refine rt_act rfl rfl ?_
    have hA32 := Step.r0 (KU (KN s19.n) (KC k0 4)) s31
    obtain ⟨x6, hx6, h⟩ := ob h
    refine k_append (es := ([x5] : List (List UInt8)).map (dL 1 bD)) elem32 rfl rfl hwo0_0 (h31.sl) (by have := (app_out hx6).1; simp only [List.length_map] at *; omega) (by have := (app_out hx6).1; simp only [List.length_map] at *; omega) rfl ?_
    intro s33 v33 st33 h33
    rw [← List.map_append, ← (app_out hx6).2] at h33
    have szs33 := st33.size
    have hS := hS.c0 st33
    have hA32 := hA32.c0 st33
    replace ho2 := ho2.up2 st33
    replace hb_o0 := hb_o0.up2 st33
    replace h5 := h5.up2 st33
    refine rt_cont hA32 ?_
    refine rt_fin ?_
    refine k_nilCheck rfl rfl ?_
    refine k_field_addr fld53_2 rfl rfl ?_
    refine k_store_c (cs' := [(.pointer (some ⟨bo2, 0, none⟩)), S a0.name, v33, .int .i64 a0.tail.Count, .int .i64 a0.tail.Size, .int .u32 (a0.tail.Sum.toNat : Int)]) size32 rfl rfl hb_o0 (by first | (simp; done) | omega | (dsimp only; omega)) (CellsOf.sl (h33.sl)) rfl (by first | rfl | (simp; done) | (simp; omega)) rfl ?_
    intro s34 st34 hb_o0
    have szs34 := st34.size
    have hS := hS.c0 st34
    replace ho2 := ho2.up2 st34
    replace h5 := h5.up2 st34
    replace h33 := h33.up2 st34
    refine k_nil ?_
    refine k_keep [(0, _), (4, _), (6, _)] ⟨rfl, rfl, rfl, trivial⟩ ?_
    refine k_seq ?_
    refine k_region ?_
    refine k_move rfl rfl ?_
    refine k_load_blka (cs := [.int .i64 x3.2.1.Count, .int .i64 x3.2.1.Size, .int .u32 (x3.2.1.Sum.toNat : Int)]) agg51 rfl h5 rfl ?_
    refine k_nilCheck rfl rfl ?_
    refine k_field_addr fld53_3 rfl rfl ?_
    refine k_store_c (cs' := [(.pointer (some ⟨bo2, 0, none⟩)), S a0.name, v33, .int .i64 x3.2.1.Count, .int .i64 x3.2.1.Size, .int .u32 (x3.2.1.Sum.toNat : Int)]) size51 rfl rfl hb_o0 (by first | (simp; done) | omega | (dsimp only; omega)) (CellsOf.lit rfl rfl) rfl (by first | rfl | (simp; done) | (simp; omega)) rfl ?_
    intro s35 st35 hb_o0
    have szs35 := st35.size
    have hS := hS.c0 st35
    replace ho2 := ho2.up2 st35
    replace h33 := h33.up2 st35
    refine k_nil ?_
    refine k_keep [(4, _)] ⟨rfl, trivial⟩ ?_
    refine k_seq ?_
    refine k_region ?_
    refine k_assign rfl rfl ?_
    refine k_nil ?_
    refine k_ret ?_
    obtain rfl := Option.some.inj h
    refine ⟨_, rfl, Ret.mk hS ?_⟩
    exact ⟨rfl, (OLogfileLog.mk_ (⟨a0.on, a0.name, x6, x3.2.1⟩ : LogfileLog) (by omega) h33 hb_o0), ho2⟩

set_option maxHeartbeats 1000000 in
set_option maxRecDepth 100000 in
theorem logfile_Log_Size_r1_w {s : St} {k0 : Nat} {p0 : Value} {a0 : LogfileLog} {k1 : Nat} {p1 : Value} {a1 : DiskDisk} {r : Int} (ho0 : OLogfileLog p1 s k0 p0 a0) (ho1 : ODiskDisk s k1 p1 a1) (h : logfile_Log_Size_r1 a0 a1 = some r) : Calls Tryd.prog 18 #[p0] s.w (Ret s K0 (fun s1 v => v = .int .i64 r)) := by
 unfold logfile_Log_Size_r1 at h
 have le0 := ho0.le
 have ne0 := ho0.ne
 have le1 := ho1.le
 have ne1 := ho1.ne
 obtain ⟨bo1, rfl⟩ := ho1.ptr
 obtain ⟨bo0, rfl⟩ := ho0.ptr
 obtain ⟨wo0_0, hb_o0, hwo0_0⟩ := ho0.at_
 have hS := Step.r0 K0 s
 refine k_fn (rs := [2]) (args := [.pointer (some ⟨bo0, 0, none⟩)]) Tryd.func18 rfl rfl rfl rfl ?_
 refine k_seq ?_
 refine k_region ?_
 refine k_assign rfl rfl ?_
 refine k_nil ?_
 refine k_seq ?_
 refine k_seq ?_
 refine k_region ?_
 refine k_move rfl rfl ?_
 obtain ⟨x1, hx1, h⟩ := ob h
 obtain rfl := Option.some.inj (show some false = some x1 from hx1)
 refine k_call cal31 rfl (logfile_Log_none_r1_w  (OLogfileLog.mk_ a0 (by omega) hwo0_0 hb_o0) ho1 hx1) rfl ?_
 rintro s1 vr1 st1 rfl
 have szs1 := st1.size
 have hS := hS.trans0 st1
 replace hb_o0 := hb_o0.up2 st1
 refine k_nil ?_
 refine k_keep [(0, _), (2, _), (4, _)] ⟨rfl, rfl, rfl, trivial⟩ ?_
 refine k_cond_false rfl ?_
 refine k_skip ?_
 refine k_seq ?_
 refine k_region ?_
 refine k_move rfl rfl ?_
 refine k_nilCheck rfl rfl ?_
 refine k_field_addr fld53_3 rfl rfl ?_
 refine k_field_addr fld51_1 rfl rfl ?_
 refine k_load_blk one3 rfl hb_o0 rfl rfl ?_
 refine k_assign rfl rfl ?_
 refine k_nil ?_
 refine k_keep [(2, _)] ⟨rfl, trivial⟩ ?_
 refine k_ret ?_
 obtain rfl := Option.some.inj h
 refine ⟨_, rfl, Ret.mk hS ?_⟩
 exact rfl

set_option maxHeartbeats 1000000 in
set_option maxRecDepth 100000 in
theorem logfile_Log_Count_r1_w {s : St} {k0 : Nat} {p0 : Value} {a0 : LogfileLog} {k1 : Nat} {p1 : Value} {a1 : DiskDisk} {r : Int} (ho0 : OLogfileLog p1 s k0 p0 a0) (ho1 : ODiskDisk s k1 p1 a1) (h : logfile_Log_Count_r1 a0 a1 = some r) : Calls Tryd.prog 20 #[p0] s.w (Ret s K0 (fun s1 v => v = .int .i64 r)) := by
 unfold logfile_Log_Count_r1 at h
 have le0 := ho0.le
 have ne0 := ho0.ne
 have le1 := ho1.le
 have ne1 := ho1.ne
 obtain ⟨bo1, rfl⟩ := ho1.ptr
 obtain ⟨bo0, rfl⟩ := ho0.ptr
 obtain ⟨wo0_0, hb_o0, hwo0_0⟩ := ho0.at_
 have hS := Step.r0 K0 s
 refine k_fn (rs := [2]) (args := [.pointer (some ⟨bo0, 0, none⟩)]) Tryd.func20 rfl rfl rfl rfl ?_
 refine k_seq ?_
 refine k_region ?_
 refine k_assign rfl rfl ?_
 refine k_nil ?_
 refine k_seq ?_
 refine k_seq ?_
 refine k_region ?_
 refine k_move rfl rfl ?_
 obtain ⟨x1, hx1, h⟩ := ob h
 obtain rfl := Option.some.inj (show some false = some x1 from hx1)
 refine k_call cal31 rfl (logfile_Log_none_r1_w  (OLogfileLog.mk_ a0 (by omega) hwo0_0 hb_o0) ho1 hx1) rfl ?_
 rintro s1 vr1 st1 rfl
 have szs1 := st1.size
 have hS := hS.trans0 st1
 replace hwo0_0 := hwo0_0.up2 st1
 replace hb_o0 := hb_o0.up2 st1
 refine k_nil ?_
 refine k_keep [(0, _), (2, _), (4, _)] ⟨rfl, rfl, rfl, trivial⟩ ?_
 refine k_cond_false rfl ?_
 refine k_skip ?_
 refine k_seq ?_
 refine k_region ?_
 refine k_move rfl rfl ?_
 refine k_nilCheck rfl rfl ?_
 refine k_field_addr fld53_2 rfl rfl ?_
 refine k_load_blk one32 rfl hb_o0 rfl rfl ?_
 refine k_len Tryd.underlying32 rfl (hwo0_0.sl).hasLen rfl ?_
 refine k_as (v := .int .i64 (a0.all_.length : Int)) (by simp only [List.length_map]) ?_
 refine k_assign rfl rfl ?_
 refine k_nil ?_
 refine k_keep [(2, _)] ⟨rfl, trivial⟩ ?_
 refine k_ret ?_
 obtain rfl := Option.some.inj h
 refine ⟨_, rfl, Ret.mk hS ?_⟩
 exact rfl

set_option maxHeartbeats 1000000 in
set_option maxRecDepth 100000 in
theorem disk_Disk_Sync_w {s : St} {k0 : Nat} {p0 : Value} {a0 : DiskDisk} {r : (Int × DiskDisk)} (ho0 : ODiskDisk s k0 p0 a0) (h : disk_Disk_Sync a0 = some r) : Calls Tryd.prog 35 #[p0] s.w (Ret s (KO k0) (fun s1 v => v = .int .i64 r.1 ∧ ODiskDisk s1 k0 p0 r.2)) := by
 unfold disk_Disk_Sync at h
 have le0 := ho0.le
 have ne0 := ho0.ne
 have hS := Step.r0 (KO k0) s
 refine k_fn (rs := [2]) (args := [p0]) Tryd.func35 rfl rfl rfl rfl ?_
 refine k_seq ?_
 refine k_region ?_
 refine k_assign rfl rfl ?_
 refine k_nil ?_
 refine k_seq ?_
 refine k_seq ?_
 refine k_region ?_
 refine k_move rfl rfl ?_
 obtain ⟨pb1, rfl⟩ := ho0.ptr
 obtain ⟨x1, hx1, h⟩ := ob h
 refine k_call cal10 rfl (disk_Disk_Down_w  ho0 hx1) rfl ?_
 rintro s2 vr2 st2 rfl
 have szs2 := st2.size
 have hS := hS.trans0 st2
 replace ho0 := ho0.up2 st2
 refine k_nil ?_
 refine k_keep [(0, _), (2, _), (5, _)] ⟨rfl, rfl, rfl, trivial⟩ ?_
 refine k_cond rfl (fun c3 => ?_) (fun c3 => ?_)
 ·
  have h := ibT h c3
  refine k_seq ?_
  refine k_region ?_
  refine k_assign rfl rfl ?_
  refine k_nil ?_
  refine k_keep [(0, _), (2, _)] ⟨rfl, rfl, trivial⟩ ?_
  refine k_ret ?_
  obtain rfl := Option.some.inj h
  refine ⟨_, rfl, Ret.mk hS ?_⟩
  exact ⟨rfl, ho0⟩
 ·
  have h := ibF h c3
  refine k_skip ?_
  refine k_seq ?_
  refine k_region ?_
  refine k_move rfl rfl ?_
  obtain ⟨x2, hx2, h⟩ := ob h
  refine k_call cal50 rfl (disk_Disk_burn_w  ho0 hx2) rfl ?_
  rintro s4 vr4 st4 ⟨rfl, ho0⟩
  have szs4 := st4.size
  have hS := hS.c0 st4
  refine k_assign rfl rfl ?_
  refine k_nil ?_
  refine k_keep [(0, _), (2, _), (3, _)] ⟨rfl, rfl, rfl, trivial⟩ ?_
  refine k_seq ?_
  refine k_seq ?_
  refine k_region ?_
  refine k_move rfl rfl ?_
  refine k_eql rfl rfl rfl ?_
  refine k_nil ?_
  refine k_keep [(0, _), (2, _), (3, _), (9, _)] ⟨rfl, rfl, rfl, rfl, trivial⟩ ?_
  refine k_cond_dec rfl (fun c5 => ?_) (fun c5 => ?_)
  ·
   have h := itT h c5
   refine k_region ?_
   refine k_move rfl rfl ?_
   refine k_move rfl rfl ?_
   obtain ⟨x3, hx3, h⟩ := ob h
   refine k_call cal38 rfl (disk_Disk_seen_w  ho0 hx3) rfl ?_
   rintro s6 v6_0 st6 ⟨_, rfl, h6_0⟩
   have szs6 := st6.size
   have hS := hS.trans0 st6
   replace ho0 := ho0.up2 st6
   obtain ⟨x4, hx4, h⟩ := ob h
   refine k_call cal42 rfl (disk_Disk_only_w  ho0 (show R s6 v6_0 (.sl 2 (x3.map dDiskFile)) from h6_0) hx4) rfl ?_
   rintro s7 vr7 st7 ⟨rfl, ho0⟩
   have szs7 := st7.size
   have hS := hS.c0 st7
   refine k_nil ?_
   refine k_keep [(2, _), (3, _)] ⟨rfl, rfl, trivial⟩ ?_
   refine k_seq ?_
   refine k_region ?_
   refine k_move rfl rfl ?_
   refine k_assign rfl rfl ?_
   refine k_nil ?_
   refine k_keep [(2, _)] ⟨rfl, trivial⟩ ?_
   refine k_ret ?_
   obtain rfl := Option.some.inj h
   refine ⟨_, rfl, Ret.mk hS ?_⟩
   exact ⟨rfl, ho0⟩
  ·
   have h := itF h c5
   refine k_skip ?_
   refine k_seq ?_
   refine k_region ?_
   refine k_move rfl rfl ?_
   refine k_assign rfl rfl ?_
   refine k_nil ?_
   refine k_keep [(2, _)] ⟨rfl, trivial⟩ ?_
   refine k_ret ?_
   obtain rfl := Option.some.inj h
   refine ⟨_, rfl, Ret.mk hS ?_⟩
   exact ⟨rfl, ho0⟩

set_option maxHeartbeats 1000000 in
set_option maxRecDepth 100000 in
theorem logfile_Log_Sync_r1_w {s : St} {k0 : Nat} {p0 : Value} {a0 : LogfileLog} {k1 : Nat} {p1 : Value} {a1 : DiskDisk} {r : (Int × DiskDisk)} (ho0 : OLogfileLog p1 s k0 p0 a0) (ho1 : ODiskDisk s k1 p1 a1) (hk0_1 : k0 ≠ k1) (h : logfile_Log_Sync_r1 a0 a1 = some r) : Calls Tryd.prog 12 #[p0] s.w (Ret s (KO k1) (fun s1 v => v = .int .i64 r.1 ∧ ODiskDisk s1 k1 p1 r.2)) := by
 unfold logfile_Log_Sync_r1 at h
 have le0 := ho0.le
 have ne0 := ho0.ne
 have le1 := ho1.le
 have ne1 := ho1.ne
 obtain ⟨bo1, rfl⟩ := ho1.ptr
 obtain ⟨bo0, rfl⟩ := ho0.ptr
 obtain ⟨wo0_0, hb_o0, hwo0_0⟩ := ho0.at_
 have hS := Step.r0 (KO k1) s
 refine k_fn (rs := [2]) (args := [.pointer (some ⟨bo0, 0, none⟩)]) Tryd.func12 rfl rfl rfl rfl ?_
 refine k_seq ?_
 refine k_region ?_
 refine k_assign rfl rfl ?_
 refine k_nil ?_
 refine k_seq ?_
 refine k_seq ?_
 refine k_region ?_
 refine k_move rfl rfl ?_
 obtain ⟨x1, hx1, h⟩ := ob h
 obtain rfl := Option.some.inj (show some false = some x1 from hx1)
 refine k_call cal31 rfl (logfile_Log_none_r1_w  (OLogfileLog.mk_ a0 (by omega) hwo0_0 hb_o0) ho1 hx1) rfl ?_
 rintro s1 vr1 st1 rfl
 have szs1 := st1.size
 have hS := hS.trans0 st1
 replace ho1 := ho1.up2 st1
 replace hb_o0 := hb_o0.up2 st1
 refine k_nil ?_
 refine k_keep [(0, _), (2, _), (4, _)] ⟨rfl, rfl, rfl, trivial⟩ ?_
 refine k_cond_false rfl ?_
 refine k_skip ?_
 refine k_seq ?_
 refine k_region ?_
 refine k_move rfl rfl ?_
 refine k_nilCheck rfl rfl ?_
 refine k_field_addr fld53_0 rfl rfl ?_
 refine k_field_addr fld48_0 rfl rfl ?_
 refine k_load_blk one23 rfl hb_o0 rfl rfl ?_
 obtain ⟨x2, hx2, h⟩ := ob h
 refine k_call cal35 rfl (disk_Disk_Sync_w  ho1 hx2) rfl ?_
 rintro s2 vr2 st2 ⟨rfl, ho1⟩
 have szs2 := st2.size
 have hS := hS.c0 st2
 refine k_assign rfl rfl ?_
 refine k_nil ?_
 refine k_keep [(2, _)] ⟨rfl, trivial⟩ ?_
 refine k_ret ?_
 obtain rfl := Option.some.inj h
 refine ⟨_, rfl, Ret.mk hS ?_⟩
 exact ⟨rfl, ho1⟩

set_option maxHeartbeats 1000000 in
set_option maxRecDepth 100000 in
theorem disk_Disk_Start_w {s : St} {k0 : Nat} {p0 : Value} {a0 : DiskDisk} {r : (Int × DiskDisk)} (ho0 : ODiskDisk s k0 p0 a0) (h : disk_Disk_Start a0 = some r) : Calls Tryd.prog 25 #[p0] s.w (Ret s (KO k0) (fun s1 v => v = .int .i64 r.1 ∧ ODiskDisk s1 k0 p0 r.2)) := by
 unfold disk_Disk_Start at h
 have le0 := ho0.le
 have ne0 := ho0.ne
 obtain ⟨bo0, rfl⟩ := ho0.ptr
 obtain ⟨wo0_0, wo0_1, hb_o0, hwo0_0, hwo0_1⟩ := ho0.at_
 have hS := Step.r0 (KO k0) s
 refine k_fn (rs := [2]) (args := [.pointer (some ⟨bo0, 0, none⟩)]) Tryd.func25 rfl rfl rfl rfl ?_
 refine k_seq ?_
 refine k_region ?_
 refine k_assign rfl rfl ?_
 refine k_nil ?_
 refine k_seq ?_
 refine k_block ?_
 refine k_seq ?_
 refine k_region ?_
 refine k_move rfl rfl ?_
 obtain ⟨x1, hx1, h⟩ := ob h
 refine k_call cal30 rfl (disk_Disk_none_w  (ODiskDisk.mk_ a0 (by omega) hwo0_0 hwo0_1 hb_o0) hx1) rfl ?_
 rintro s1 vr1 st1 rfl
 have szs1 := st1.size
 have hS := hS.trans0 st1
 replace hwo0_0 := hwo0_0.up2 st1
 replace hwo0_1 := hwo0_1.up2 st1
 replace hb_o0 := hb_o0.up2 st1
 refine k_assign rfl rfl ?_
 refine k_nil ?_
 refine k_keep [(0, _), (2, _), (3, _)] ⟨rfl, rfl, rfl, trivial⟩ ?_
 refine k_cond rfl (fun c2 => ?_) (fun c2 => ?_)
 ·
  have h := ibT h c2
  refine k_seq ?_
  refine k_region ?_
  refine k_assign rfl rfl ?_
  refine k_nil ?_
  refine k_keep [(0, _), (2, _)] ⟨rfl, rfl, trivial⟩ ?_
  refine k_ret ?_
  obtain rfl := Option.some.inj h
  refine ⟨_, rfl, Ret.mk hS ?_⟩
  exact ⟨rfl, (ODiskDisk.mk_ a0 (by omega) hwo0_0 hwo0_1 hb_o0)⟩
 ·
  have h := ibF h c2
  refine k_seq ?_
  refine k_region ?_
  refine k_move rfl rfl ?_
  refine k_nilCheck rfl rfl ?_
  refine k_field_addr fld64_2 rfl rfl ?_
  refine k_load_blk one4 rfl hb_o0 rfl rfl ?_
  refine k_not rfl rfl ?_
  refine k_assign rfl rfl ?_
  refine k_nil ?_
  refine k_keep [(0, _), (2, _), (6, _)] ⟨rfl, rfl, rfl, trivial⟩ ?_
  refine k_cond rfl (fun c3 => ?_) (fun c3 => ?_)
  ·
   have h := ibT h c3
   refine k_seq ?_
   refine k_region ?_
   refine k_assign rfl rfl ?_
   refine k_nil ?_
   refine k_keep [(0, _), (2, _)] ⟨rfl, rfl, trivial⟩ ?_
   refine k_ret ?_
   obtain rfl := Option.some.inj h
   refine ⟨_, rfl, Ret.mk hS ?_⟩
   exact ⟨rfl, (ODiskDisk.mk_ a0 (by omega) hwo0_0 hwo0_1 hb_o0)⟩
  ·
   have h := ibF h c3
   refine k_skip ?_
   refine k_blk ?_
   refine k_seq ?_
   refine k_region ?_
   refine k_move rfl rfl ?_
   refine k_nilCheck rfl rfl ?_
   refine k_field_addr fld64_2 rfl rfl ?_
   refine k_store_c (cs' := [.int .i64 a0.capacity, .bool a0.made, .bool false, wo0_0, wo0_1, .int .i64 a0.fuse.n, .int .i64 a0.fuse.keep, .int .i64 a0.fuse.torn]) size4 rfl rfl hb_o0 (by first | (simp; done) | omega | (dsimp only; omega)) (CellsOf.lit rfl rfl) rfl (by first | rfl | (simp; done) | (simp; omega)) rfl ?_
   intro s4 st4 hb_o0
   have szs4 := st4.size
   have hS := hS.c0 st4
   replace hwo0_0 := hwo0_0.up2 st4
   replace hwo0_1 := hwo0_1.up2 st4
   refine k_nil ?_
   refine k_keep [(2, _)] ⟨rfl, trivial⟩ ?_
   refine k_seq ?_
   refine k_region ?_
   refine k_assign rfl rfl ?_
   refine k_nil ?_
   refine k_ret ?_
   obtain rfl := Option.some.inj h
   refine ⟨_, rfl, Ret.mk hS ?_⟩
   exact ⟨rfl, (ODiskDisk.mk_ (⟨a0.capacity, a0.made, false, a0.pictures, a0.calls, a0.fuse⟩ : DiskDisk) (by omega) hwo0_0 hwo0_1 hb_o0)⟩

set_option maxHeartbeats 1000000 in
set_option maxRecDepth 100000 in
theorem slices_Clone_byte_byte_o_own_w {s : St} {l0 : Lab} {v0 : Value} {a0 : (List (List UInt8))} {r : (List (List UInt8))} (hp0 : SL s l0 v0 1 (a0.map (dL 1 bD))) (h : slices_Clone_byte_byte_o a0 = some r) : Calls Tryd.prog 36 #[v0] s.w (Ret s K0 (fun s1 v => ∃ (u0 : Value), ∃ (lu0 : Lab), v = u0 ∧ (s.n < lu0.o ∧ lu0.c = 0) ∧ Own s1 lu0 33 1 u0 (r.map (dL 1 bD)))) := by
 unfold slices_Clone_byte_byte_o at h
 obtain ⟨lf0, lf0le, lf0ne, hp0⟩ := hp0.fix
 have hS := Step.r0 K0 s
 refine k_fn (rs := [2]) (args := [v0]) Tryd.func36 rfl rfl rfl rfl ?_
 refine k_seq ?_
 refine k_region ?_
 refine k_assign rfl rfl ?_
 refine k_nil ?_
 refine k_seq ?_
 refine k_seq ?_
 refine k_region ?_
 refine k_move rfl rfl ?_
 refine k_eql_snilv Tryd.underlying32 rfl rfl hp0 rfl ?_
 refine k_nil ?_
 refine k_keep [(0, _), (2, _), (4, _)] ⟨rfl, rfl, rfl, trivial⟩ ?_
 refine k_cond rfl (fun c1 => ?_) (fun c1 => ?_)
 ·
  have hz4 := SL.nilS_nil hp0 c1
  obtain rfl : a0 = [] := by simpa using hz4
  replace h : some ([]) = some r := by simpa [app] using h
  refine k_seq ?_
  refine k_region ?_
  refine k_assign rfl rfl ?_
  refine k_nil ?_
  refine k_keep [(0, _), (2, _)] ⟨rfl, rfl, trivial⟩ ?_
  refine k_ret ?_
  obtain rfl := Option.some.inj h
  refine ⟨_, rfl, Ret.mk hS ?_⟩
  exact ⟨_, ⟨s.n + 1, 0⟩, rfl, ⟨by show s.n < s.n + 1; omega, rfl⟩, Own.nil (by simp) (Nat.le_refl _)⟩
 ·
  refine k_skip ?_
  refine k_seq ?_
  refine k_region ?_
  refine k_bslice2 (ds := ([] : List (List UInt8)).map (dL 1 bD)) slc32 rfl RVs.nil (by rfl) (by rfl) rfl rfl ?_
  intro s2 v2 b2 st2 ge2 bl2 h2
  have szs2 := st2.size
  have hS := hS.trans0 st2
  replace hp0 := hp0.up2 st2
  have lt2 := Own.le1 h2
  refine k_move rfl rfl ?_
  obtain ⟨x1, hx1, h⟩ := ob h
  refine k_append (es := a0.map (dL 1 bD)) elem32 rfl rfl h2 hp0 (by have := (app_out hx1).1; simp only [List.length_map] at *; omega) (by have := (app_out hx1).1; simp only [List.length_map] at *; omega) rfl ?_
  intro s3 v3 st3 h3
  rw [← List.map_append, ← (app_out hx1).2] at h3
  have szs3 := st3.size
  have hS := hS.c0 st3
  refine k_assign rfl rfl ?_
  refine k_nil ?_
  refine k_keep [(2, _)] ⟨rfl, trivial⟩ ?_
  refine k_ret ?_
  obtain rfl := Option.some.inj h
  refine ⟨_, rfl, Ret.mk hS ?_⟩
  exact ⟨_, ⟨b2 + 1, 0⟩, rfl, ⟨by (try dsimp only); omega, rfl⟩, h3⟩

set_option maxHeartbeats 1000000 in
set_option maxRecDepth 100000 in
theorem logfile_Log_Records_r1_w {s : St} {k0 : Nat} {p0 : Value} {a0 : LogfileLog} {k1 : Nat} {p1 : Value} {a1 : DiskDisk} {r : (List (List UInt8))} (ho0 : OLogfileLog p1 s k0 p0 a0) (ho1 : ODiskDisk s k1 p1 a1) (h : logfile_Log_Records_r1 a0 a1 = some r) : Calls Tryd.prog 15 #[p0] s.w (Ret s K0 (fun s1 v => ∃ (u0 : Value), v = u0 ∧ R s1 u0 (.sl 1 (r.map (dL 1 bD))))) := by
 unfold logfile_Log_Records_r1 at h
 have le0 := ho0.le
 have ne0 := ho0.ne
 have le1 := ho1.le
 have ne1 := ho1.ne
 obtain ⟨bo1, rfl⟩ := ho1.ptr
 obtain ⟨bo0, rfl⟩ := ho0.ptr
 obtain ⟨wo0_0, hb_o0, hwo0_0⟩ := ho0.at_
 have hS := Step.r0 K0 s
 refine k_fn (rs := [2]) (args := [.pointer (some ⟨bo0, 0, none⟩)]) Tryd.func15 rfl rfl rfl rfl ?_
 refine k_seq ?_
 refine k_region ?_
 refine k_assign rfl rfl ?_
 refine k_nil ?_
 refine k_seq ?_
 refine k_seq ?_
 refine k_region ?_
 refine k_move rfl rfl ?_
 obtain ⟨x1, hx1, h⟩ := ob h
 obtain rfl := Option.some.inj (show some false = some x1 from hx1)
 refine k_call cal31 rfl (logfile_Log_none_r1_w  (OLogfileLog.mk_ a0 (by omega) hwo0_0 hb_o0) ho1 hx1) rfl ?_
 rintro s1 vr1 st1 rfl
 have szs1 := st1.size
 have hS := hS.trans0 st1
 replace hwo0_0 := hwo0_0.up2 st1
 replace hb_o0 := hb_o0.up2 st1
 refine k_nil ?_
 refine k_keep [(0, _), (2, _), (7, _)] ⟨rfl, rfl, rfl, trivial⟩ ?_
 refine k_cond_false rfl ?_
 refine k_skip ?_
 refine k_seq ?_
 refine k_region ?_
 refine k_move rfl rfl ?_
 refine k_nilCheck rfl rfl ?_
 refine k_field_addr fld53_2 rfl rfl ?_
 refine k_load_blk one32 rfl hb_o0 rfl rfl ?_
 obtain ⟨x2, hx2, h⟩ := ob h
 refine k_call cal36 rfl (slices_Clone_byte_byte_o_own_w  (hwo0_0.sl) hx2) rfl ?_
 rintro s2 v2_0 st2 ⟨_, l2_0, rfl, hl2_0, h2_0⟩
 have szs2 := st2.size
 have hS := hS.trans0 st2
 replace hwo0_0 := hwo0_0.up2 st2
 replace hb_o0 := hb_o0.up2 st2
 obtain ⟨l2_0, hl2_0, h2_0⟩ := Own.anew 2020 h2_0 hl2_0 szs2
 have lt2_0 := Own.le1 h2_0
 refine k_assign rfl rfl ?_
 refine k_nil ?_
 refine k_keep [(2, _), (3, _)] ⟨rfl, rfl, trivial⟩ ?_
 refine k_seq ?_
 have hz3 : OLogfileLog (.pointer (some ⟨bo1, 0, none⟩)) s2 k0 (.pointer (some ⟨bo0, 0, none⟩)) a0 := (OLogfileLog.mk_ a0 (by omega) hwo0_0 hb_o0)
 have lehz3 := hz3.le
 have nehz3 := hz3.ne
 obtain ⟨kj3, hK4, h⟩ := jn_out h
 have hE4 := Step.r0 (KC l2_0.o l2_0.c) s2
 refine k_cutc (X := St × (List (List UInt8))) [(2, .slice none 0 0), (3, v2_0)] (fun (xL : St × (List (List UInt8))) => match xL with | (sl, x4) => []) (fun (xL : St × (List (List UInt8))) (wL : World) => match xL with | (sl, x4) => sl.w = wL ∧ Step (KC l2_0.o l2_0.c) s2 sl ∧ (Own sl ⟨l2_0.o, l2_0.c⟩ 33 1 v2_0 (x4.map (dL 1 bD))) ∧ kj3 x4 = some r) ?_ ?_
 ·
  refine k_seq ?_
  refine k_region ?_
  refine k_move rfl rfl ?_
  refine k_len Tryd.underlying32 rfl (h2_0.sl).hasLen rfl ?_
  refine k_as (v := .int .i64 (x2.length : Int)) (by simp only [List.length_map]) ?_
  refine k_move rfl rfl ?_
  refine k_nil ?_
  refine k_block ?_
  refine k_loopc (X := St × Int × (List (List UInt8)) × Nat) [(2, _), (3, _), (13, _), (14, _)] (fun (xL : St × Int × (List (List UInt8)) × Nat) => match xL with | (sl, x5, x6, j) => [(15, .int .i64 x5)]) (fun (xL : St × Int × (List (List UInt8)) × Nat) (wL : World) => match xL with | (sl, x5, x6, j) => sl.w = wL ∧ Step (KC l2_0.o l2_0.c) s2 sl ∧ (Own sl ⟨l2_0.o, l2_0.c⟩ 33 1 v2_0 (x6.map (dL 1 bD))) ∧ logfile_Log_Records_r1_l1 x2 kj3 j x5 x6 = some r) (fun (xL : St × Int × (List (List UInt8)) × Nat) => match xL with | (sl, x5, x6, j) => j) (s2, 0, x2, FU) ⟨rfl, rfl, rfl, rfl, trivial⟩ ⟨(by first | rfl | (simp <;> rfl)), trivial⟩ ⟨rfl, (Step.refl _).of0 (by first | exact fun _ h => h | (intro c h; simp [KC, KO, KU, KN, KB] at h <;> omega)), h2_0, h⟩ ?_
  rintro ⟨s6, x5, x6, j⟩ wL ⟨rfl, hE5, h2_0, h⟩
  cases j with
  | zero => rw [logfile_Log_Records_r1_l1] at h; exact (noneNe h).elim
  | succ j =>
  rw [logfile_Log_Records_r1_l1] at h
  have szs6 := hE5.size
  have hS := hS.c0 hE5
  have hE4 := hE4.c0 hE5
  refine k_seq ?_
  refine k_region ?_
  refine k_lss rfl rfl rfl ?_
  refine k_nil ?_
  refine k_seq ?_
  refine k_cond_dec rfl (fun c7 => ?_) (fun c7 => ?_)
  ·
   have h := itT h c7
   refine k_skip ?_
   refine k_seq ?_
   refine k_block ?_
   refine k_seq ?_
   refine k_region ?_
   refine k_move rfl rfl ?_
   obtain ⟨x7, hx7, h⟩ := ob h
   refine k_ixaddr_own Tryd.underlying32 size33 rfl rfl h2_0 (geti_out hx7).1 (geti_map hx7) rfl ?_
   intro qx7 hqx7 heqx7
   refine k_load_sl one33 rfl hqx7 rfl ?_
   intro v8 h8
   refine k_assign rfl rfl ?_
   refine k_assign rfl rfl ?_
   refine k_nil ?_
   refine k_keep [(2, _), (3, _), (4, _), (5, _), (13, _), (14, _), (15, _)] ⟨rfl, rfl, rfl, rfl, rfl, rfl, rfl, trivial⟩ ?_
   refine k_region ?_
   refine k_move rfl rfl ?_
   refine k_move rfl rfl ?_
   refine k_move rfl rfl ?_
   obtain ⟨x8, hx8, h⟩ := ob h
   refine k_call cal34 rfl (slices_Clone_byte_byte_w  (SL.of_R h8) hx8) rfl ?_
   rintro s9 v9_0 st9 ⟨_, rfl, h9_0⟩
   have szs9 := st9.size
   have hS := hS.trans0 st9
   have hE4 := hE4.trans0 st9
   have hE5 := hE5.trans0 st9
   replace h2_0 := h2_0.up2 st9
   obtain ⟨x9, hx9, h⟩ := ob h
   refine k_ixaddr_own Tryd.underlying32 size33 rfl rfl h2_0 (geti_out hx9).1 (geti_map hx9) rfl ?_
   intro qx9 hqx9 heqx9
   refine k_store_elt (dd := (dL 1 bD) x8) size33 rfl rfl h2_0 heqx9 (by rw [List.length_map]; exact (List.getElem?_eq_some_iff.1 (geti_out hx9).2.2).1) (h9_0) rfl ?_
   intro s10 st10 h2_0
   rw [← List.map_set] at h2_0
   have szs10 := st10.size
   have hS := hS.c0 st10
   have hE4 := hE4.c0 st10
   have hE5 := hE5.c0 st10
   refine k_nil ?_
   refine k_blk ?_
   refine k_region ?_
   refine k_add rfl rfl rfl ?_
   refine k_move rfl rfl ?_
   refine k_nil ?_
   exact k_stop ⟨(s10, i64 (x5 + 1), x6.set (x5 : Int).toNat x8, j), ⟨(by first | rfl | (simp <;> rfl)), trivial⟩, ⟨rfl, rfl, rfl, rfl, trivial⟩, ⟨rfl, hE5, h2_0, h⟩, (by simp)⟩
  ·
   have h := itF h c7
   refine k_exit rfl ?_
   exact k_stop ⟨(s6, x6), trivial, ⟨rfl, rfl, trivial⟩, ⟨rfl, hE4, h2_0, h⟩⟩
 ·
  rintro ⟨s11, x4⟩ wL ⟨rfl, hE4, h2_0, h⟩
  rw [hK4] at h
  have szs11 := hE4.size
  have hS := hS.c0 hE4
  refine k_seq ?_
  refine k_region ?_
  refine k_move rfl rfl ?_
  refine k_assign rfl rfl ?_
  refine k_nil ?_
  refine k_keep [(2, _)] ⟨rfl, trivial⟩ ?_
  refine k_ret ?_
  obtain ⟨s12, e12, st12, h12⟩ := h2_0.freeze
  rw [← e12]
  have szs12 := st12.size
  have hS := hS.c0 st12
  obtain rfl := Option.some.inj h
  refine ⟨_, rfl, Ret.mk hS ?_⟩
  exact ⟨_, rfl, h12⟩

set_option maxHeartbeats 1000000 in
set_option maxRecDepth 100000 in
theorem disk_Disk_Size_w {s : St} {k0 : Nat} {p0 : Value} {a0 : DiskDisk} {a1 : (List UInt8)} {r : Int} (ho0 : ODiskDisk s k0 p0 a0) (h : disk_Disk_Size a0 a1 = some r) : Calls Tryd.prog 26 #[p0, S a1] s.w (Ret s K0 (fun s1 v => v = .int .i64 r)) := by
 unfold disk_Disk_Size at h
 have le0 := ho0.le
 have ne0 := ho0.ne
 have hS := Step.r0 K0 s
 refine k_fn (rs := [4]) (args := [p0, S a1]) Tryd.func26 rfl rfl rfl rfl ?_
 refine k_seq ?_
 refine k_region ?_
 refine k_assign rfl rfl ?_
 refine k_nil ?_
 refine k_seq ?_
 refine k_region ?_
 refine k_move rfl rfl ?_
 obtain ⟨pb1, rfl⟩ := ho0.ptr
 obtain ⟨x1, hx1, h⟩ := ob h
 refine k_call cal38 rfl (disk_Disk_seen_w  ho0 hx1) rfl ?_
 rintro s2 v2_0 st2 ⟨_, rfl, h2_0⟩
 have szs2 := st2.size
 have hS := hS.trans0 st2
 refine k_move rfl rfl ?_
 obtain ⟨x2, hx2, h⟩ := ob h
 refine k_call cal39 rfl (disk_picture_bytes_w  (SL.of_R h2_0) hx2) rfl ?_
 rintro s3 v3_0 st3 ⟨_, rfl, h3_0⟩
 have szs3 := st3.size
 have hS := hS.trans0 st3
 refine k_len Tryd.underlying33 rfl (SL.of_R h3_0).hasLen rfl ?_
 refine k_as (v := .int .i64 (x2.length : Int)) (by simp only [List.length_map]) ?_
 refine k_assign rfl rfl ?_
 refine k_nil ?_
 refine k_keep [(4, _)] ⟨rfl, trivial⟩ ?_
 refine k_ret ?_
 obtain rfl := Option.some.inj h
 refine ⟨_, rfl, Ret.mk hS ?_⟩
 exact rfl

set_option maxHeartbeats 1000000 in
set_option maxRecDepth 100000 in
theorem law11_awake_w {s : St}  {r : Bool}  (h : law11_awake = some r) : Calls Tryd.prog 8 #[] s.w (Ret s K0 (fun s1 v => v = .bool r)) := by
 unfold law11_awake at h
 have hS := Step.r0 K0 s
 refine k_fn (rs := [0]) (args := []) Tryd.func8 rfl rfl rfl rfl ?_
 refine k_seq ?_
 refine k_region ?_
 refine k_assign rfl rfl ?_
 refine k_nil ?_
 refine k_seq ?_
 refine k_region ?_
 obtain ⟨x1, hx1, h⟩ := ob h
 refine k_call cal6 rfl (disk_New_w   hx1) rfl ?_
 rintro s1 vr1 st1 ⟨ku1_0, v1_0, rfl, hk1_0, h1_0⟩
 have szs1 := st1.size
 have hS := hS.trans0 st1
 have ol1_0 := OptODiskDisk.le (k := ku1_0) h1_0
 refine k_move rfl rfl ?_
 refine k_extract rfl rfl rfl ?_
 refine k_extract rfl rfl rfl ?_
 refine k_assign rfl rfl ?_
 refine k_assign rfl rfl ?_
 refine k_nil ?_
 refine k_keep [(0, _), (1, _)] ⟨rfl, rfl, trivial⟩ ?_
 refine k_seq ?_
 refine k_region ?_
 refine k_move rfl rfl ?_
 obtain ⟨x2, hx2, h⟩ := ob h
 replace ol1_0 := ol1_0.resolve_left (fun e => by rw [e] at hx2; cases hx2)
 rw [hx2] at h1_0
 replace h1_0 : ODiskDisk s1 ku1_0 v1_0 x2 := h1_0
 have le2 := h1_0.le
 have ne2 := h1_0.ne
 obtain ⟨pb3, rfl⟩ := h1_0.ptr
 obtain ⟨x3, hx3, h⟩ := ob h
 refine k_call cal9 rfl (logfile_Open_w  h1_0 hx3) rfl ?_
 rintro s4 vr4 st4 ⟨ku4_0, v4_0, rfl, hk4_0, h4_0, h1_0⟩
 have szs4 := st4.size
 have hS := hS.c0 st4
 have ol4_0 := OptOLogfileLog.le (k := ku4_0) h4_0
 refine k_move rfl rfl ?_
 refine k_extract rfl rfl rfl ?_
 refine k_extract rfl rfl rfl ?_
 refine k_assign rfl rfl ?_
 refine k_assign rfl rfl ?_
 refine k_nil ?_
 refine k_keep [(0, _), (1, _), (3, _), (4, _)] ⟨rfl, rfl, rfl, rfl, trivial⟩ ?_
 refine k_seq ?_
 refine k_seq ?_
 refine k_region ?_
 refine k_move rfl rfl ?_
 refine k_neq rfl rfl rfl ?_
 refine k_move rfl rfl ?_
 rcases oc_out h with ⟨ho_5, h⟩ | ⟨x4, ho_5, h⟩
 ·
  rw [ho_5] at h4_0
  obtain rfl : v4_0 = .pointer none := h4_0
  have hE6 := Step.r0 K0 s4
  refine k_cutl (X := St) 3 [(0, .bool false), (1, (.pointer (some ⟨pb3, 0, none⟩))), (3, .pointer none), (4, .int .i64 x3.2.1), (21, .int .i64 x3.2.1), (22, .bool (decide (x3.2.1 ≠ 0)))] (fun _ => [(26, .bool true)]) (fun sl wL => sl.w = wL ∧ Step K0 s4 sl) ?_ ?_
  ·
   refine k_again 23 rfl ?_
   refine k_split (fun c7 => ?_) (fun c7 => ?_)
   ·
    refine k_no rfl rfl rfl rfl ?_
    refine k_no rfl rfl rfl rfl ?_
    refine k_pickT rfl rfl rfl rfl ?_
    exact k_met ⟨s4, ⟨rfl, trivial⟩, ⟨rfl, rfl, rfl, rfl, rfl, rfl, trivial⟩, rfl, hE6⟩
   ·
    refine k_yes rfl rfl ?_
    refine k_move rfl rfl ?_
    refine k_yes rfl rfl ?_
    refine k_eql_pnil Tryd.underlying29 rfl rfl rfl ?_
    refine k_pickF rfl rfl rfl rfl ?_
    exact k_met ⟨s4, ⟨rfl, trivial⟩, ⟨rfl, rfl, rfl, rfl, rfl, rfl, trivial⟩, rfl, hE6⟩
  ·
   rintro s8 wL ⟨rfl, hE6⟩
   have szs8 := hE6.size
   have hS := hS.trans0 hE6
   refine k_nil ?_
   refine k_keep [(0, _), (1, _), (3, _), (26, _)] ⟨rfl, rfl, rfl, rfl, trivial⟩ ?_
   refine k_cond_true rfl ?_
   refine k_seq ?_
   refine k_region ?_
   refine k_assign rfl rfl ?_
   refine k_nil ?_
   refine k_keep [(0, _), (1, _), (3, _)] ⟨rfl, rfl, rfl, trivial⟩ ?_
   refine k_ret ?_
   obtain rfl := Option.some.inj h
   refine ⟨_, rfl, Ret.mk hS ?_⟩
   exact rfl
 ·
  rw [ho_5] at h4_0
  replace h4_0 : OLogfileLog (.pointer (some ⟨pb3, 0, none⟩)) s4 ku4_0 v4_0 x4 := h4_0
  replace ol4_0 := ol4_0.resolve_left (fun e => by rw [e] at ho_5; cases ho_5)
  have le5 := h4_0.le
  have ne5 := h4_0.ne
  have hE9 := Step.r0 K0 s4
  refine k_cutl (X := St) 3 [(0, .bool false), (1, (.pointer (some ⟨pb3, 0, none⟩))), (3, v4_0), (4, .int .i64 x3.2.1), (21, .int .i64 x3.2.1), (22, .bool (decide (x3.2.1 ≠ 0)))] (fun _ => [(26, .bool (decide ((x3.2.1 ≠ 0) ∨ False)))]) (fun sl wL => sl.w = wL ∧ Step K0 s4 sl) ?_ ?_
  ·
   refine k_again 23 rfl ?_
   refine k_split (fun c10 => ?_) (fun c10 => ?_)
   ·
    refine k_no rfl rfl rfl rfl ?_
    refine k_no rfl rfl rfl rfl ?_
    refine k_pickT rfl rfl rfl rfl ?_
    exact k_met ⟨s4, ⟨(congrArg (fun b => some (Value.bool b)) (by first | exact decide_eq_decide.2 ⟨Or.inr, fun h => h.resolve_left c10⟩ | exact (decide_eq_true (Or.inl c10)).symm | (simp [c10]; done) | exact dec_andT c10 | exact dec_andF c10 | exact dec_orF c10 | exact dec_orT c10 | (simp [c10, i64] <;> omega))), trivial⟩, ⟨rfl, rfl, rfl, rfl, rfl, rfl, trivial⟩, rfl, hE9⟩
   ·
    refine k_yes rfl rfl ?_
    refine k_move rfl rfl ?_
    refine k_yes rfl rfl ?_
    obtain ⟨pb11, rfl⟩ := h4_0.ptr
    refine k_eql_pnil Tryd.underlying29 rfl rfl rfl ?_
    refine k_pickF rfl rfl rfl rfl ?_
    exact k_met ⟨s4, ⟨(congrArg (fun b => some (Value.bool b)) (by first | exact decide_eq_decide.2 ⟨Or.inr, fun h => h.resolve_left c10⟩ | exact (decide_eq_true (Or.inl c10)).symm | (simp [c10]; done) | exact dec_andT c10 | exact dec_andF c10 | exact dec_orF c10 | exact dec_orT c10 | (simp [c10, i64] <;> omega))), trivial⟩, ⟨rfl, rfl, rfl, rfl, rfl, rfl, trivial⟩, rfl, hE9⟩
  ·
   rintro s12 wL ⟨rfl, hE9⟩
   have szs12 := hE9.size
   have hS := hS.trans0 hE9
   replace h1_0 := h1_0.up2 hE9
   replace h4_0 := h4_0.up2 hE9
   refine k_nil ?_
   refine k_keep [(0, _), (1, _), (3, _), (26, _)] ⟨rfl, rfl, rfl, rfl, trivial⟩ ?_
   refine k_cond_dec rfl (fun c13 => ?_) (fun c13 => ?_)
   ·
    have h := itT h c13
    refine k_seq ?_
    refine k_region ?_
    refine k_assign rfl rfl ?_
    refine k_nil ?_
    refine k_keep [(0, _), (1, _), (3, _)] ⟨rfl, rfl, rfl, trivial⟩ ?_
    refine k_ret ?_
    obtain rfl := Option.some.inj h
    refine ⟨_, rfl, Ret.mk hS ?_⟩
    exact rfl
   ·
    have h := itF h c13
    refine k_skip ?_
    refine k_seq ?_
    refine k_region ?_
    refine k_move rfl rfl ?_
    refine k_bslice2 (ds := ([(97 : UInt8)] : List UInt8).map bD) slc33 rfl (RVs.cons (R.val rfl) RVs.nil) (by rfl) (by rfl) rfl rfl ?_
    intro s14 v14 b14 st14 ge14 bl14 h14
    have szs14 := st14.size
    have hS := hS.trans0 st14
    replace h1_0 := h1_0.up2 st14
    replace h4_0 := h4_0.up2 st14
    have lt14 := Own.le1 h14
    refine k_conv_sl Tryd.underlying33 Tryd.underlying5 rfl h14 (by simp) rfl ?_
    intro s15 st15 h15
    have szs15 := st15.size
    have hS := hS.c0 st15
    replace h1_0 := h1_0.up2 st15
    replace h4_0 := h4_0.up2 st15
    obtain ⟨pb16, rfl⟩ := h4_0.ptr
    obtain ⟨x5, hx5, h⟩ := ob h
    refine k_call cal11 rfl (logfile_Log_Append_r2_w  h4_0 (show R s15 v14 (.sl 1 (([(97 : UInt8)] : List UInt8).map bD)) from h15) h1_0 (by first | assumption | omega | (dsimp only; omega) | (simp <;> omega)) hx5) rfl ?_
    rintro s17 vr17 st17 ⟨rfl, h4_0, h1_0⟩
    have szs17 := st17.size
    have hS := hS.c0 st17
    refine k_move rfl rfl ?_
    refine k_bslice2 (ds := ([(98 : UInt8), (99 : UInt8)] : List UInt8).map bD) slc33 rfl (RVs.cons (R.val rfl) (RVs.cons (R.val rfl) RVs.nil)) (by rfl) (by rfl) rfl rfl ?_
    intro s18 v18 b18 st18 ge18 bl18 h18
    have szs18 := st18.size
    have hS := hS.trans0 st18
    replace h1_0 := h1_0.up2 st18
    replace h4_0 := h4_0.up2 st18
    have lt18 := Own.le1 h18
    refine k_conv_sl Tryd.underlying33 Tryd.underlying5 rfl h18 (by simp) rfl ?_
    intro s19 st19 h19
    have szs19 := st19.size
    have hS := hS.c0 st19
    replace h1_0 := h1_0.up2 st19
    replace h4_0 := h4_0.up2 st19
    obtain ⟨x6, hx6, h⟩ := ob h
    refine k_call cal11 rfl (logfile_Log_Append_r2_w  h4_0 (show R s19 v18 (.sl 1 (([(98 : UInt8), (99 : UInt8)] : List UInt8).map bD)) from h19) h1_0 (by first | assumption | omega | (dsimp only; omega) | (simp <;> omega)) hx6) rfl ?_
    rintro s20 vr20 st20 ⟨rfl, h4_0, h1_0⟩
    have szs20 := st20.size
    have hS := hS.c0 st20
    refine k_assign rfl rfl ?_
    refine k_assign rfl rfl ?_
    refine k_nil ?_
    refine k_keep [(0, _), (1, _), (3, _), (5, _), (6, _)] ⟨rfl, rfl, rfl, rfl, rfl, trivial⟩ ?_
    refine k_seq ?_
    refine k_region ?_
    refine k_move rfl rfl ?_
    obtain ⟨x7, hx7, h⟩ := ob h
    refine k_call cal18 rfl (logfile_Log_Size_r1_w  h4_0 h1_0 hx7) rfl ?_
    rintro s21 vr21 st21 rfl
    have szs21 := st21.size
    have hS := hS.trans0 st21
    replace h1_0 := h1_0.up2 st21
    replace h4_0 := h4_0.up2 st21
    refine k_move rfl rfl ?_
    obtain ⟨x8, hx8, h⟩ := ob h
    refine k_call cal20 rfl (logfile_Log_Count_r1_w  h4_0 h1_0 hx8) rfl ?_
    rintro s22 vr22 st22 rfl
    have szs22 := st22.size
    have hS := hS.trans0 st22
    replace h1_0 := h1_0.up2 st22
    replace h4_0 := h4_0.up2 st22
    refine k_assign rfl rfl ?_
    refine k_assign rfl rfl ?_
    refine k_nil ?_
    refine k_keep [(0, _), (1, _), (3, _), (5, _), (6, _), (7, _), (8, _)] ⟨rfl, rfl, rfl, rfl, rfl, rfl, rfl, trivial⟩ ?_
    refine k_seq ?_
    refine k_region ?_
    refine k_move rfl rfl ?_
    obtain ⟨x9, hx9, h⟩ := ob h
    refine k_call cal12 rfl (logfile_Log_Sync_r1_w  h4_0 h1_0 (by first | assumption | omega | (dsimp only; omega) | (simp <;> omega)) hx9) rfl ?_
    rintro s23 vr23 st23 ⟨rfl, h1_0⟩
    have szs23 := st23.size
    have hS := hS.c0 st23
    replace h4_0 := h4_0.up2 st23
    refine k_nil ?_
    refine k_keep [(0, _), (1, _), (3, _), (5, _), (6, _), (7, _), (8, _)] ⟨rfl, rfl, rfl, rfl, rfl, rfl, rfl, trivial⟩ ?_
    refine k_seq ?_
    refine k_region ?_
    refine k_move rfl rfl ?_
    refine k_bslice2 (ds := ([(100 : UInt8)] : List UInt8).map bD) slc33 rfl (RVs.cons (R.val rfl) RVs.nil) (by rfl) (by rfl) rfl rfl ?_
    intro s24 v24 b24 st24 ge24 bl24 h24
    have szs24 := st24.size
    have hS := hS.trans0 st24
    replace h1_0 := h1_0.up2 st24
    replace h4_0 := h4_0.up2 st24
    have lt24 := Own.le1 h24
    refine k_conv_sl Tryd.underlying33 Tryd.underlying5 rfl h24 (by simp) rfl ?_
    intro s25 st25 h25
    have szs25 := st25.size
    have hS := hS.c0 st25
    replace h1_0 := h1_0.up2 st25
    replace h4_0 := h4_0.up2 st25
    obtain ⟨x10, hx10, h⟩ := ob h
    refine k_call cal11 rfl (logfile_Log_Append_r2_w  h4_0 (show R s25 v24 (.sl 1 (([(100 : UInt8)] : List UInt8).map bD)) from h25) h1_0 (by first | assumption | omega | (dsimp only; omega) | (simp <;> omega)) hx10) rfl ?_
    rintro s26 vr26 st26 ⟨rfl, h4_0, h1_0⟩
    have szs26 := st26.size
    have hS := hS.c0 st26
    refine k_nil ?_
    refine k_keep [(0, _), (1, _), (5, _), (6, _), (7, _), (8, _)] ⟨rfl, rfl, rfl, rfl, rfl, rfl, trivial⟩ ?_
    refine k_seq ?_
    refine k_region ?_
    refine k_move rfl rfl ?_
    obtain ⟨x11, hx11, h⟩ := ob h
    refine k_call cal24 rfl (disk_Disk_Crash_w  h1_0 hx11) rfl ?_
    rintro s27 vr27 st27 ⟨rfl, h1_0⟩
    have szs27 := st27.size
    have hS := hS.c0 st27
    refine k_nil ?_
    refine k_keep [(0, _), (1, _), (5, _), (6, _), (7, _), (8, _)] ⟨rfl, rfl, rfl, rfl, rfl, rfl, trivial⟩ ?_
    refine k_seq ?_
    refine k_region ?_
    refine k_move rfl rfl ?_
    obtain ⟨x12, hx12, h⟩ := ob h
    refine k_call cal25 rfl (disk_Disk_Start_w  h1_0 hx12) rfl ?_
    rintro s28 vr28 st28 ⟨rfl, h1_0⟩
    have szs28 := st28.size
    have hS := hS.c0 st28
    refine k_nil ?_
    refine k_keep [(0, _), (1, _), (5, _), (6, _), (7, _), (8, _)] ⟨rfl, rfl, rfl, rfl, rfl, rfl, trivial⟩ ?_
    refine k_seq ?_
    refine k_region ?_
    refine k_move rfl rfl ?_
    obtain ⟨x13, hx13, h⟩ := ob h
    refine k_call cal9 rfl (logfile_Open_w  h1_0 hx13) rfl ?_
    rintro s29 vr29 st29 ⟨ku29_0, v29_0, rfl, hk29_0, h29_0, h1_0⟩
    have szs29 := st29.size
    have hS := hS.c0 st29
    have ol29_0 := OptOLogfileLog.le (k := ku29_0) h29_0
    refine k_move rfl rfl ?_
    refine k_extract rfl rfl rfl ?_
    refine k_extract rfl rfl rfl ?_
    refine k_assign rfl rfl ?_
    refine k_assign rfl rfl ?_
    refine k_nil ?_
    refine k_keep [(0, _), (1, _), (5, _), (6, _), (7, _), (8, _), (9, _), (10, _)] ⟨rfl, rfl, rfl, rfl, rfl, rfl, rfl, rfl, trivial⟩ ?_
    refine k_seq ?_
    refine k_seq ?_
    refine k_region ?_
    refine k_move rfl rfl ?_
    refine k_neq rfl rfl rfl ?_
    refine k_move rfl rfl ?_
    rcases oc_out h with ⟨ho_30, h⟩ | ⟨x14, ho_30, h⟩
    ·
     rw [ho_30] at h29_0
     obtain rfl : v29_0 = .pointer none := h29_0
     have hE31 := Step.r0 K0 s29
     refine k_cutl (X := St) 3 [(0, .bool false), (1, (.pointer (some ⟨pb3, 0, none⟩))), (5, .int .i64 x5.1), (6, .int .i64 x6.1), (7, .int .i64 x7), (8, .int .i64 x8), (9, .pointer none), (10, .int .i64 x13.2.1), (54, .int .i64 x13.2.1), (55, .bool (decide (x13.2.1 ≠ 0)))] (fun _ => [(59, .bool true)]) (fun sl wL => sl.w = wL ∧ Step K0 s29 sl) ?_ ?_
     ·
      refine k_again 56 rfl ?_
      refine k_split (fun c32 => ?_) (fun c32 => ?_)
      ·
       refine k_no rfl rfl rfl rfl ?_
       refine k_no rfl rfl rfl rfl ?_
       refine k_pickT rfl rfl rfl rfl ?_
       exact k_met ⟨s29, ⟨rfl, trivial⟩, ⟨rfl, rfl, rfl, rfl, rfl, rfl, rfl, rfl, rfl, rfl, trivial⟩, rfl, hE31⟩
      ·
       refine k_yes rfl rfl ?_
       refine k_move rfl rfl ?_
       refine k_yes rfl rfl ?_
       refine k_eql_pnil Tryd.underlying29 rfl rfl rfl ?_
       refine k_pickF rfl rfl rfl rfl ?_
       exact k_met ⟨s29, ⟨rfl, trivial⟩, ⟨rfl, rfl, rfl, rfl, rfl, rfl, rfl, rfl, rfl, rfl, trivial⟩, rfl, hE31⟩
     ·
      rintro s33 wL ⟨rfl, hE31⟩
      have szs33 := hE31.size
      have hS := hS.trans0 hE31
      refine k_nil ?_
      refine k_keep [(0, _), (1, _), (5, _), (6, _), (7, _), (8, _), (9, _), (59, _)] ⟨rfl, rfl, rfl, rfl, rfl, rfl, rfl, rfl, trivial⟩ ?_
      refine k_cond_true rfl ?_
      refine k_seq ?_
      refine k_region ?_
      refine k_assign rfl rfl ?_
      refine k_nil ?_
      refine k_keep [(0, _), (1, _), (5, _), (6, _), (7, _), (8, _), (9, _)] ⟨rfl, rfl, rfl, rfl, rfl, rfl, rfl, trivial⟩ ?_
      refine k_ret ?_
      obtain rfl := Option.some.inj h
      refine ⟨_, rfl, Ret.mk hS ?_⟩
      exact rfl
    ·
     rw [ho_30] at h29_0
     replace h29_0 : OLogfileLog (.pointer (some ⟨pb3, 0, none⟩)) s29 ku29_0 v29_0 x14 := h29_0
     replace ol29_0 := ol29_0.resolve_left (fun e => by rw [e] at ho_30; cases ho_30)
     have le30 := h29_0.le
     have ne30 := h29_0.ne
     have hE34 := Step.r0 K0 s29
     refine k_cutl (X := St) 3 [(0, .bool false), (1, (.pointer (some ⟨pb3, 0, none⟩))), (5, .int .i64 x5.1), (6, .int .i64 x6.1), (7, .int .i64 x7), (8, .int .i64 x8), (9, v29_0), (10, .int .i64 x13.2.1), (54, .int .i64 x13.2.1), (55, .bool (decide (x13.2.1 ≠ 0)))] (fun _ => [(59, .bool (decide ((x13.2.1 ≠ 0) ∨ False)))]) (fun sl wL => sl.w = wL ∧ Step K0 s29 sl) ?_ ?_
     ·
      refine k_again 56 rfl ?_
      refine k_split (fun c35 => ?_) (fun c35 => ?_)
      ·
       refine k_no rfl rfl rfl rfl ?_
       refine k_no rfl rfl rfl rfl ?_
       refine k_pickT rfl rfl rfl rfl ?_
       exact k_met ⟨s29, ⟨(congrArg (fun b => some (Value.bool b)) (by first | exact decide_eq_decide.2 ⟨Or.inr, fun h => h.resolve_left c35⟩ | exact (decide_eq_true (Or.inl c35)).symm | (simp [c35]; done) | exact dec_andT c35 | exact dec_andF c35 | exact dec_orF c35 | exact dec_orT c35 | (simp [c35, i64] <;> omega))), trivial⟩, ⟨rfl, rfl, rfl, rfl, rfl, rfl, rfl, rfl, rfl, rfl, trivial⟩, rfl, hE34⟩
      ·
       refine k_yes rfl rfl ?_
       refine k_move rfl rfl ?_
       refine k_yes rfl rfl ?_
       obtain ⟨pb36, rfl⟩ := h29_0.ptr
       refine k_eql_pnil Tryd.underlying29 rfl rfl rfl ?_
       refine k_pickF rfl rfl rfl rfl ?_
       exact k_met ⟨s29, ⟨(congrArg (fun b => some (Value.bool b)) (by first | exact decide_eq_decide.2 ⟨Or.inr, fun h => h.resolve_left c35⟩ | exact (decide_eq_true (Or.inl c35)).symm | (simp [c35]; done) | exact dec_andT c35 | exact dec_andF c35 | exact dec_orF c35 | exact dec_orT c35 | (simp [c35, i64] <;> omega))), trivial⟩, ⟨rfl, rfl, rfl, rfl, rfl, rfl, rfl, rfl, rfl, rfl, trivial⟩, rfl, hE34⟩
     ·
      rintro s37 wL ⟨rfl, hE34⟩
      have szs37 := hE34.size
      have hS := hS.trans0 hE34
      replace h1_0 := h1_0.up2 hE34
      replace h29_0 := h29_0.up2 hE34
      refine k_nil ?_
      refine k_keep [(0, _), (1, _), (5, _), (6, _), (7, _), (8, _), (9, _), (59, _)] ⟨rfl, rfl, rfl, rfl, rfl, rfl, rfl, rfl, trivial⟩ ?_
      refine k_cond_dec rfl (fun c38 => ?_) (fun c38 => ?_)
      ·
       have h := itT h c38
       refine k_seq ?_
       refine k_region ?_
       refine k_assign rfl rfl ?_
       refine k_nil ?_
       refine k_keep [(0, _), (1, _), (5, _), (6, _), (7, _), (8, _), (9, _)] ⟨rfl, rfl, rfl, rfl, rfl, rfl, rfl, trivial⟩ ?_
       refine k_ret ?_
       obtain rfl := Option.some.inj h
       refine ⟨_, rfl, Ret.mk hS ?_⟩
       exact rfl
      ·
       have h := itF h c38
       refine k_skip ?_
       refine k_seq ?_
       refine k_region ?_
       refine k_move rfl rfl ?_
       obtain ⟨pb39, rfl⟩ := h29_0.ptr
       obtain ⟨x15, hx15, h⟩ := ob h
       refine k_call cal15 rfl (logfile_Log_Records_r1_w  h29_0 h1_0 hx15) rfl ?_
       rintro s40 v40_0 st40 ⟨_, rfl, h40_0⟩
       have szs40 := st40.size
       have hS := hS.trans0 st40
       replace h1_0 := h1_0.up2 st40
       replace h29_0 := h29_0.up2 st40
       refine k_assign rfl rfl ?_
       refine k_nil ?_
       refine k_keep [(0, _), (1, _), (5, _), (6, _), (7, _), (8, _), (9, _), (11, _)] ⟨rfl, rfl, rfl, rfl, rfl, rfl, rfl, rfl, trivial⟩ ?_
       refine k_seq ?_
       refine k_region ?_
       refine k_move rfl rfl ?_
       refine k_eql rfl rfl rfl ?_
       refine k_move rfl rfl ?_
       have hE41 := Step.r0 K0 s40
       refine k_cutl (X := St) 3 [(0, .bool false), (1, (.pointer (some ⟨pb3, 0, none⟩))), (5, .int .i64 x5.1), (6, .int .i64 x6.1), (7, .int .i64 x7), (8, .int .i64 x8), (9, (.pointer (some ⟨pb39, 0, none⟩))), (11, v40_0), (62, .int .i64 x5.1), (63, .bool (decide (x5.1 = 0)))] (fun _ => [(67, .bool (decide ((x5.1 = 0) ∧ (x6.1 = 0))))]) (fun sl wL => sl.w = wL ∧ Step K0 s40 sl) ?_ ?_
       ·
        refine k_again 64 rfl ?_
        refine k_split (fun c42 => ?_) (fun c42 => ?_)
        ·
         refine k_yes rfl rfl ?_
         refine k_move rfl rfl ?_
         refine k_yes rfl rfl ?_
         refine k_eql rfl rfl rfl ?_
         refine k_pickT rfl rfl rfl rfl ?_
         exact k_met ⟨s40, ⟨(congrArg (fun b => some (Value.bool b)) (by first | exact decide_eq_decide.2 ⟨fun h => ⟨c42, h⟩, fun h => h.2⟩ | exact (decide_eq_false (fun h => c42 h.1)).symm | (simp [c42]; done) | exact dec_andT c42 | exact dec_andF c42 | exact dec_orF c42 | exact dec_orT c42 | (simp [c42, i64] <;> omega))), trivial⟩, ⟨rfl, rfl, rfl, rfl, rfl, rfl, rfl, rfl, rfl, rfl, trivial⟩, rfl, hE41⟩
        ·
         refine k_no rfl rfl rfl rfl ?_
         refine k_no rfl rfl rfl rfl ?_
         refine k_pickF rfl rfl rfl rfl ?_
         exact k_met ⟨s40, ⟨(congrArg (fun b => some (Value.bool b)) (by first | exact decide_eq_decide.2 ⟨fun h => ⟨c42, h⟩, fun h => h.2⟩ | exact (decide_eq_false (fun h => c42 h.1)).symm | (simp [c42]; done) | exact dec_andT c42 | exact dec_andF c42 | exact dec_orF c42 | exact dec_orT c42 | (simp [c42, i64] <;> omega))), trivial⟩, ⟨rfl, rfl, rfl, rfl, rfl, rfl, rfl, rfl, rfl, rfl, trivial⟩, rfl, hE41⟩
       ·
        rintro s43 wL ⟨rfl, hE41⟩
        have szs43 := hE41.size
        have hS := hS.trans0 hE41
        replace h40_0 := h40_0.up2 hE41
        replace h1_0 := h1_0.up2 hE41
        replace h29_0 := h29_0.up2 hE41
        refine k_move rfl rfl ?_
        have hE44 := Step.r0 K0 s43
        refine k_cutl (X := St) 3 [(0, .bool false), (1, (.pointer (some ⟨pb3, 0, none⟩))), (5, .int .i64 x5.1), (6, .int .i64 x6.1), (7, .int .i64 x7), (8, .int .i64 x8), (9, (.pointer (some ⟨pb39, 0, none⟩))), (11, v40_0), (62, .int .i64 x5.1), (63, .bool (decide (x5.1 = 0))), (67, .bool (decide ((x5.1 = 0) ∧ (x6.1 = 0))))] (fun _ => [(71, .bool (decide (((x5.1 = 0) ∧ (x6.1 = 0)) ∧ (x7 = 19))))]) (fun sl wL => sl.w = wL ∧ Step K0 s43 sl) ?_ ?_
        ·
         refine k_again 68 rfl ?_
         refine k_split (fun c45 => ?_) (fun c45 => ?_)
         ·
          refine k_yes rfl rfl ?_
          refine k_move rfl rfl ?_
          refine k_yes rfl rfl ?_
          refine k_eql rfl rfl rfl ?_
          refine k_pickT rfl rfl rfl rfl ?_
          exact k_met ⟨s43, ⟨(congrArg (fun b => some (Value.bool b)) (by first | exact decide_eq_decide.2 ⟨fun h => ⟨c45, h⟩, fun h => h.2⟩ | exact (decide_eq_false (fun h => c45 h.1)).symm | (simp [c45]; done) | exact dec_andT c45 | exact dec_andF c45 | exact dec_orF c45 | exact dec_orT c45 | (simp [c45, i64] <;> omega))), trivial⟩, ⟨rfl, rfl, rfl, rfl, rfl, rfl, rfl, rfl, rfl, rfl, rfl, trivial⟩, rfl, hE44⟩
         ·
          refine k_no rfl rfl rfl rfl ?_
          refine k_no rfl rfl rfl rfl ?_
          refine k_pickF rfl rfl rfl rfl ?_
          exact k_met ⟨s43, ⟨(congrArg (fun b => some (Value.bool b)) (by first | exact decide_eq_decide.2 ⟨fun h => ⟨c45, h⟩, fun h => h.2⟩ | exact (decide_eq_false (fun h => c45 h.1)).symm | (simp [c45]; done) | exact dec_andT c45 | exact dec_andF c45 | exact dec_orF c45 | exact dec_orT c45 | (simp [c45, i64] <;> omega))), trivial⟩, ⟨rfl, rfl, rfl, rfl, rfl, rfl, rfl, rfl, rfl, rfl, rfl, trivial⟩, rfl, hE44⟩
        ·
         rintro s46 wL ⟨rfl, hE44⟩
         have szs46 := hE44.size
         have hS := hS.trans0 hE44
         replace h40_0 := h40_0.up2 hE44
         replace h1_0 := h1_0.up2 hE44
         replace h29_0 := h29_0.up2 hE44
         refine k_move rfl rfl ?_
         have hE47 := Step.r0 K0 s46
         refine k_cutl (X := St) 3 [(0, .bool false), (1, (.pointer (some ⟨pb3, 0, none⟩))), (5, .int .i64 x5.1), (6, .int .i64 x6.1), (7, .int .i64 x7), (8, .int .i64 x8), (9, (.pointer (some ⟨pb39, 0, none⟩))), (11, v40_0), (62, .int .i64 x5.1), (63, .bool (decide (x5.1 = 0))), (67, .bool (decide ((x5.1 = 0) ∧ (x6.1 = 0)))), (71, .bool (decide (((x5.1 = 0) ∧ (x6.1 = 0)) ∧ (x7 = 19))))] (fun _ => [(75, .bool (decide ((((x5.1 = 0) ∧ (x6.1 = 0)) ∧ (x7 = 19)) ∧ (x8 = 2))))]) (fun sl wL => sl.w = wL ∧ Step K0 s46 sl) ?_ ?_
         ·
          refine k_again 72 rfl ?_
          refine k_split (fun c48 => ?_) (fun c48 => ?_)
          ·
           refine k_yes rfl rfl ?_
           refine k_move rfl rfl ?_
           refine k_yes rfl rfl ?_
           refine k_eql rfl rfl rfl ?_
           refine k_pickT rfl rfl rfl rfl ?_
           exact k_met ⟨s46, ⟨(congrArg (fun b => some (Value.bool b)) (by first | exact decide_eq_decide.2 ⟨fun h => ⟨c48, h⟩, fun h => h.2⟩ | exact (decide_eq_false (fun h => c48 h.1)).symm | (simp [c48]; done) | exact dec_andT c48 | exact dec_andF c48 | exact dec_orF c48 | exact dec_orT c48 | (simp [c48, i64] <;> omega))), trivial⟩, ⟨rfl, rfl, rfl, rfl, rfl, rfl, rfl, rfl, rfl, rfl, rfl, rfl, trivial⟩, rfl, hE47⟩
          ·
           refine k_no rfl rfl rfl rfl ?_
           refine k_no rfl rfl rfl rfl ?_
           refine k_pickF rfl rfl rfl rfl ?_
           exact k_met ⟨s46, ⟨(congrArg (fun b => some (Value.bool b)) (by first | exact decide_eq_decide.2 ⟨fun h => ⟨c48, h⟩, fun h => h.2⟩ | exact (decide_eq_false (fun h => c48 h.1)).symm | (simp [c48]; done) | exact dec_andT c48 | exact dec_andF c48 | exact dec_orF c48 | exact dec_orT c48 | (simp [c48, i64] <;> omega))), trivial⟩, ⟨rfl, rfl, rfl, rfl, rfl, rfl, rfl, rfl, rfl, rfl, rfl, rfl, trivial⟩, rfl, hE47⟩
         ·
          rintro s49 wL ⟨rfl, hE47⟩
          have szs49 := hE47.size
          have hS := hS.trans0 hE47
          replace h40_0 := h40_0.up2 hE47
          replace h1_0 := h1_0.up2 hE47
          replace h29_0 := h29_0.up2 hE47
          refine k_move rfl rfl ?_
          have hE50 := Step.r0 K0 s49
          refine k_cutl (X := St) 4 [(0, .bool false), (1, (.pointer (some ⟨pb3, 0, none⟩))), (5, .int .i64 x5.1), (6, .int .i64 x6.1), (7, .int .i64 x7), (8, .int .i64 x8), (9, (.pointer (some ⟨pb39, 0, none⟩))), (11, v40_0), (62, .int .i64 x5.1), (63, .bool (decide (x5.1 = 0))), (67, .bool (decide ((x5.1 = 0) ∧ (x6.1 = 0)))), (71, .bool (decide (((x5.1 = 0) ∧ (x6.1 = 0)) ∧ (x7 = 19)))), (75, .bool (decide ((((x5.1 = 0) ∧ (x6.1 = 0)) ∧ (x7 = 19)) ∧ (x8 = 2))))] (fun _ => [(80, .bool (decide (((((x5.1 = 0) ∧ (x6.1 = 0)) ∧ (x7 = 19)) ∧ (x8 = 2)) ∧ ((x15.length : Int) = 2))))]) (fun sl wL => sl.w = wL ∧ Step K0 s49 sl) ?_ ?_
          ·
           refine k_again 76 rfl ?_
           refine k_split (fun c51 => ?_) (fun c51 => ?_)
           ·
            refine k_yes rfl rfl ?_
            refine k_move rfl rfl ?_
            refine k_yes rfl rfl ?_
            refine k_len Tryd.underlying32 rfl (SL.of_R h40_0).hasLen rfl ?_
            refine k_as (v := .int .i64 (x15.length : Int)) (by simp only [List.length_map]) ?_
            refine k_yes rfl rfl ?_
            refine k_eql rfl rfl rfl ?_
            refine k_pickT rfl rfl rfl rfl ?_
            exact k_met ⟨s49, ⟨(congrArg (fun b => some (Value.bool b)) (by first | exact decide_eq_decide.2 ⟨fun h => ⟨c51, h⟩, fun h => h.2⟩ | exact (decide_eq_false (fun h => c51 h.1)).symm | (simp [c51]; done) | exact dec_andT c51 | exact dec_andF c51 | exact dec_orF c51 | exact dec_orT c51 | (simp [c51, i64] <;> omega))), trivial⟩, ⟨rfl, rfl, rfl, rfl, rfl, rfl, rfl, rfl, rfl, rfl, rfl, rfl, rfl, trivial⟩, rfl, hE50⟩
           ·
            refine k_no rfl rfl rfl rfl ?_
            refine k_no rfl rfl rfl rfl ?_
            refine k_no rfl rfl rfl rfl ?_
            refine k_pickF rfl rfl rfl rfl ?_
            exact k_met ⟨s49, ⟨(congrArg (fun b => some (Value.bool b)) (by first | exact decide_eq_decide.2 ⟨fun h => ⟨c51, h⟩, fun h => h.2⟩ | exact (decide_eq_false (fun h => c51 h.1)).symm | (simp [c51]; done) | exact dec_andT c51 | exact dec_andF c51 | exact dec_orF c51 | exact dec_orT c51 | (simp [c51, i64] <;> omega))), trivial⟩, ⟨rfl, rfl, rfl, rfl, rfl, rfl, rfl, rfl, rfl, rfl, rfl, rfl, rfl, trivial⟩, rfl, hE50⟩
          ·
           rintro s52 wL ⟨rfl, hE50⟩
           have szs52 := hE50.size
           have hS := hS.trans0 hE50
           replace h40_0 := h40_0.up2 hE50
           replace h1_0 := h1_0.up2 hE50
           replace h29_0 := h29_0.up2 hE50
           refine k_move rfl rfl ?_
           obtain ⟨x16, hx16, h⟩ := ob h
           have hE53 := Step.r0 K0 s52
           refine k_cutl (X := St) 6 [(0, .bool false), (1, (.pointer (some ⟨pb3, 0, none⟩))), (5, .int .i64 x5.1), (6, .int .i64 x6.1), (7, .int .i64 x7), (8, .int .i64 x8), (9, (.pointer (some ⟨pb39, 0, none⟩))), (11, v40_0), (62, .int .i64 x5.1), (63, .bool (decide (x5.1 = 0))), (67, .bool (decide ((x5.1 = 0) ∧ (x6.1 = 0)))), (71, .bool (decide (((x5.1 = 0) ∧ (x6.1 = 0)) ∧ (x7 = 19)))), (75, .bool (decide ((((x5.1 = 0) ∧ (x6.1 = 0)) ∧ (x7 = 19)) ∧ (x8 = 2)))), (80, .bool (decide (((((x5.1 = 0) ∧ (x6.1 = 0)) ∧ (x7 = 19)) ∧ (x8 = 2)) ∧ ((x15.length : Int) = 2))))] (fun _ => [(87, .bool x16)]) (fun sl wL => sl.w = wL ∧ Step K0 s52 sl) ?_ ?_
           ·
            refine k_again 81 rfl ?_
            refine k_split (fun c54 => ?_) (fun c54 => ?_)
            ·
             have hx16 := itT hx16 c54
             refine k_yes rfl rfl ?_
             refine k_move rfl rfl ?_
             refine k_yes rfl rfl ?_
             obtain ⟨x17, hx17, hx16⟩ := ob hx16
             refine k_ixaddr Tryd.underlying32 size33 rfl rfl (SL.of_R h40_0) (geti_out hx17).1 (geti_map hx17) rfl ?_
             intro qx17 hqx17
             refine k_yes rfl rfl ?_
             refine k_load_sl one33 rfl hqx17 rfl ?_
             intro v55 h55
             refine k_yes rfl rfl ?_
             refine k_bts (m := x17) Tryd.underlying33 Tryd.underlying5 Tryd.underlying9 rfl (SL.of_R h55) rfl ?_
             refine k_yes rfl rfl ?_
             refine k_eql_str rfl rfl rfl ?_
             refine k_pickT rfl rfl rfl rfl ?_
             exact k_met ⟨s52, ⟨(congrArg (fun b => some (Value.bool b)) (Option.some.inj hx16)), trivial⟩, ⟨rfl, rfl, rfl, rfl, rfl, rfl, rfl, rfl, rfl, rfl, rfl, rfl, rfl, rfl, trivial⟩, rfl, hE53⟩
            ·
             have hx16 := itF hx16 c54
             refine k_no rfl rfl rfl rfl ?_
             refine k_no rfl rfl rfl rfl ?_
             refine k_no rfl rfl rfl rfl ?_
             refine k_no rfl rfl rfl rfl ?_
             refine k_no rfl rfl rfl rfl ?_
             refine k_pickF rfl rfl rfl rfl ?_
             exact k_met ⟨s52, ⟨(congrArg (fun b => some (Value.bool b)) (Option.some.inj hx16)), trivial⟩, ⟨rfl, rfl, rfl, rfl, rfl, rfl, rfl, rfl, rfl, rfl, rfl, rfl, rfl, rfl, trivial⟩, rfl, hE53⟩
           ·
            rintro s56 wL ⟨rfl, hE53⟩
            have szs56 := hE53.size
            have hS := hS.trans0 hE53
            replace h1_0 := h1_0.up2 hE53
            replace h29_0 := h29_0.up2 hE53
            refine k_move rfl rfl ?_
            obtain ⟨x18, hx18, h⟩ := ob h
            have hE57 := Step.r0 K0 s56
            refine k_cutl (X := St) 4 [(0, .bool false), (1, (.pointer (some ⟨pb3, 0, none⟩))), (5, .int .i64 x5.1), (6, .int .i64 x6.1), (7, .int .i64 x7), (8, .int .i64 x8), (9, (.pointer (some ⟨pb39, 0, none⟩))), (11, v40_0), (62, .int .i64 x5.1), (63, .bool (decide (x5.1 = 0))), (67, .bool (decide ((x5.1 = 0) ∧ (x6.1 = 0)))), (71, .bool (decide (((x5.1 = 0) ∧ (x6.1 = 0)) ∧ (x7 = 19)))), (75, .bool (decide ((((x5.1 = 0) ∧ (x6.1 = 0)) ∧ (x7 = 19)) ∧ (x8 = 2)))), (80, .bool (decide (((((x5.1 = 0) ∧ (x6.1 = 0)) ∧ (x7 = 19)) ∧ (x8 = 2)) ∧ ((x15.length : Int) = 2)))), (87, .bool x16)] (fun _ => [(92, .bool x18)]) (fun sl wL => sl.w = wL ∧ Step K0 s56 sl) ?_ ?_
            ·
             refine k_again 88 rfl ?_
             refine k_splitb (fun c58 => ?_) (fun c58 => ?_)
             ·
              have hx18 := ibT hx18 c58
              refine k_yes rfl rfl ?_
              refine k_move rfl rfl ?_
              refine k_yes rfl rfl ?_
              obtain ⟨x19, hx19, hx18⟩ := ob hx18
              refine k_call cal26 rfl (disk_Disk_Size_w  h1_0 hx19) rfl ?_
              rintro s59 vr59 st59 rfl
              have szs59 := st59.size
              have hS := hS.trans0 st59
              have hE57 := hE57.trans0 st59
              refine k_yes rfl rfl ?_
              refine k_eql rfl rfl rfl ?_
              refine k_pickT rfl rfl rfl rfl ?_
              exact k_met ⟨s59, ⟨(congrArg (fun b => some (Value.bool b)) (Option.some.inj hx18)), trivial⟩, ⟨rfl, rfl, rfl, rfl, rfl, rfl, rfl, rfl, rfl, rfl, rfl, rfl, rfl, rfl, rfl, trivial⟩, rfl, hE57⟩
             ·
              have hx18 := ibF hx18 c58
              refine k_no rfl rfl rfl rfl ?_
              refine k_no rfl rfl rfl rfl ?_
              refine k_no rfl rfl rfl rfl ?_
              refine k_pickF rfl rfl rfl rfl ?_
              exact k_met ⟨s56, ⟨(congrArg (fun b => some (Value.bool b)) (Option.some.inj hx18)), trivial⟩, ⟨rfl, rfl, rfl, rfl, rfl, rfl, rfl, rfl, rfl, rfl, rfl, rfl, rfl, rfl, rfl, trivial⟩, rfl, hE57⟩
            ·
             rintro s60 wL ⟨rfl, hE57⟩
             have szs60 := hE57.size
             have hS := hS.trans0 hE57
             replace h1_0 := h1_0.up2 hE57
             replace h29_0 := h29_0.up2 hE57
             refine k_move rfl rfl ?_
             obtain ⟨x20, hx20, h⟩ := ob h
             have hE61 := Step.r0 (KU (KO ku29_0) (KO ku1_0)) s60
             refine k_cutl (X := St) 5 [(0, .bool false), (1, (.pointer (some ⟨pb3, 0, none⟩))), (5, .int .i64 x5.1), (6, .int .i64 x6.1), (7, .int .i64 x7), (8, .int .i64 x8), (9, (.pointer (some ⟨pb39, 0, none⟩))), (11, v40_0), (62, .int .i64 x5.1), (63, .bool (decide (x5.1 = 0))), (67, .bool (decide ((x5.1 = 0) ∧ (x6.1 = 0)))), (71, .bool (decide (((x5.1 = 0) ∧ (x6.1 = 0)) ∧ (x7 = 19)))), (75, .bool (decide ((((x5.1 = 0) ∧ (x6.1 = 0)) ∧ (x7 = 19)) ∧ (x8 = 2)))), (80, .bool (decide (((((x5.1 = 0) ∧ (x6.1 = 0)) ∧ (x7 = 19)) ∧ (x8 = 2)) ∧ ((x15.length : Int) = 2)))), (87, .bool x16), (92, .bool x18)] (fun _ => [(98, .bool x20.1)]) (fun sl wL => sl.w = wL ∧ Step (KU (KO ku29_0) (KO ku1_0)) s60 sl ∧ ODiskDisk sl ku1_0 (.pointer (some ⟨pb3, 0, none⟩)) x20.2.1 ∧ OLogfileLog (.pointer (some ⟨pb3, 0, none⟩)) sl ku29_0 (.pointer (some ⟨pb39, 0, none⟩)) x20.2.2) ?_ ?_
             ·
              refine k_again 93 rfl ?_
              refine k_splitb (fun c62 => ?_) (fun c62 => ?_)
              ·
               have hx20 := ibT hx20 c62
               refine k_yes rfl rfl ?_
               refine k_move rfl rfl ?_
               refine k_yes rfl rfl ?_
               obtain ⟨x21, hx21, hx20⟩ := ob hx20
               refine k_makeI2 (dz := bD (0 : UInt8)) (p := 80) elem33 rfl rfl (makel_out hx21).1 (RC.val _ rfl) rfl (by have := (makel_out hx21).2.1; omega) (by have := (makel_out hx21).2.1; omega) rfl ?_
               intro s63 v63 b63 st63 ge63 bl63 h63
               rw [← List.map_replicate, ← (makel_out hx21).2.2] at h63
               have szs63 := st63.size
               have hS := hS.trans0 st63
               have hE61 := hE61.trans0 st63
               replace h1_0 := h1_0.up2 st63
               replace h29_0 := h29_0.up2 st63
               have lt63 := Own.le1 h63
               refine k_yes rfl rfl ?_
               obtain ⟨s64, e64, st64, h64⟩ := h63.freeze
               rw [← e64]
               have szs64 := st64.size
               have hS := hS.c0 st64
               have hE61 := hE61.c0 st64
               replace h1_0 := h1_0.up2 st64
               replace h29_0 := h29_0.up2 st64
               obtain ⟨x22, hx22, hx20⟩ := ob hx20
               refine k_call cal11 rfl (logfile_Log_Append_r2_w  h29_0 (show R s64 v63 (.sl 1 (x21.map bD)) from h64) h1_0 (by first | assumption | omega | (dsimp only; omega) | (simp <;> omega)) hx22) rfl ?_
               rintro s65 vr65 st65 ⟨rfl, h29_0, h1_0⟩
               have szs65 := st65.size
               have hS := hS.c0 st65
               have hE61 := hE61.c0 st65
               refine k_yes rfl rfl ?_
               refine k_eql rfl rfl rfl ?_
               refine k_pickT rfl rfl rfl rfl ?_
               obtain rfl := Option.some.inj hx20
               exact k_met ⟨s65, ⟨rfl, trivial⟩, ⟨rfl, rfl, rfl, rfl, rfl, rfl, rfl, rfl, rfl, rfl, rfl, rfl, rfl, rfl, rfl, rfl, trivial⟩, rfl, hE61, h1_0, h29_0⟩
              ·
               have hx20 := ibF hx20 c62
               refine k_no rfl rfl rfl rfl ?_
               refine k_no rfl rfl rfl rfl ?_
               refine k_no rfl rfl rfl rfl ?_
               refine k_no rfl rfl rfl rfl ?_
               refine k_pickF rfl rfl rfl rfl ?_
               obtain rfl := Option.some.inj hx20
               exact k_met ⟨s60, ⟨rfl, trivial⟩, ⟨rfl, rfl, rfl, rfl, rfl, rfl, rfl, rfl, rfl, rfl, rfl, rfl, rfl, rfl, rfl, rfl, trivial⟩, rfl, hE61, h1_0, h29_0⟩
             ·
              rintro s66 wL ⟨rfl, hE61, h1_0, h29_0⟩
              have szs66 := hE61.size
              have hS := hS.c0 hE61
              refine k_move rfl rfl ?_
              obtain ⟨x23, hx23, h⟩ := ob h
              have hE67 := Step.r0 (KU (KO ku29_0) (KO ku1_0)) s66
              refine k_cutl (X := St) 5 [(0, .bool false), (1, (.pointer (some ⟨pb3, 0, none⟩))), (5, .int .i64 x5.1), (6, .int .i64 x6.1), (7, .int .i64 x7), (8, .int .i64 x8), (9, (.pointer (some ⟨pb39, 0, none⟩))), (11, v40_0), (62, .int .i64 x5.1), (63, .bool (decide (x5.1 = 0))), (67, .bool (decide ((x5.1 = 0) ∧ (x6.1 = 0)))), (71, .bool (decide (((x5.1 = 0) ∧ (x6.1 = 0)) ∧ (x7 = 19)))), (75, .bool (decide ((((x5.1 = 0) ∧ (x6.1 = 0)) ∧ (x7 = 19)) ∧ (x8 = 2)))), (80, .bool (decide (((((x5.1 = 0) ∧ (x6.1 = 0)) ∧ (x7 = 19)) ∧ (x8 = 2)) ∧ ((x15.length : Int) = 2)))), (87, .bool x16), (92, .bool x18), (98, .bool x20.1)] (fun _ => [(104, .bool x23.1)]) (fun sl wL => sl.w = wL ∧ Step (KU (KO ku29_0) (KO ku1_0)) s66 sl ∧ ODiskDisk sl ku1_0 (.pointer (some ⟨pb3, 0, none⟩)) x23.2.1 ∧ OLogfileLog (.pointer (some ⟨pb3, 0, none⟩)) sl ku29_0 (.pointer (some ⟨pb39, 0, none⟩)) x23.2.2) ?_ ?_
              ·
               refine k_again 99 rfl ?_
               refine k_splitb (fun c68 => ?_) (fun c68 => ?_)
               ·
                have hx23 := ibT hx23 c68
                refine k_yes rfl rfl ?_
                refine k_move rfl rfl ?_
                refine k_yes rfl rfl ?_
                obtain ⟨x24, hx24, hx23⟩ := ob hx23
                refine k_makeI2 (dz := bD (0 : UInt8)) (p := 16385) elem33 rfl rfl (makel_out hx24).1 (RC.val _ rfl) rfl (by have := (makel_out hx24).2.1; omega) (by have := (makel_out hx24).2.1; omega) rfl ?_
                intro s69 v69 b69 st69 ge69 bl69 h69
                rw [← List.map_replicate, ← (makel_out hx24).2.2] at h69
                have szs69 := st69.size
                have hS := hS.trans0 st69
                have hE67 := hE67.trans0 st69
                replace h1_0 := h1_0.up2 st69
                replace h29_0 := h29_0.up2 st69
                have lt69 := Own.le1 h69
                refine k_yes rfl rfl ?_
                obtain ⟨s70, e70, st70, h70⟩ := h69.freeze
                rw [← e70]
                have szs70 := st70.size
                have hS := hS.c0 st70
                have hE67 := hE67.c0 st70
                replace h1_0 := h1_0.up2 st70
                replace h29_0 := h29_0.up2 st70
                obtain ⟨x25, hx25, hx23⟩ := ob hx23
                refine k_call cal11 rfl (logfile_Log_Append_r2_w  h29_0 (show R s70 v69 (.sl 1 (x24.map bD)) from h70) h1_0 (by first | assumption | omega | (dsimp only; omega) | (simp <;> omega)) hx25) rfl ?_
                rintro s71 vr71 st71 ⟨rfl, h29_0, h1_0⟩
                have szs71 := st71.size
                have hS := hS.c0 st71
                have hE67 := hE67.c0 st71
                refine k_yes rfl rfl ?_
                refine k_eql rfl rfl rfl ?_
                refine k_pickT rfl rfl rfl rfl ?_
                obtain rfl := Option.some.inj hx23
                exact k_met ⟨s71, ⟨rfl, trivial⟩, ⟨rfl, rfl, rfl, rfl, rfl, rfl, rfl, rfl, rfl, rfl, rfl, rfl, rfl, rfl, rfl, rfl, rfl, trivial⟩, rfl, hE67, h1_0, h29_0⟩
               ·
                have hx23 := ibF hx23 c68
                refine k_no rfl rfl rfl rfl ?_
                refine k_no rfl rfl rfl rfl ?_
                refine k_no rfl rfl rfl rfl ?_
                refine k_no rfl rfl rfl rfl ?_
                refine k_pickF rfl rfl rfl rfl ?_
                obtain rfl := Option.some.inj hx23
                exact k_met ⟨s66, ⟨rfl, trivial⟩, ⟨rfl, rfl, rfl, rfl, rfl, rfl, rfl, rfl, rfl, rfl, rfl, rfl, rfl, rfl, rfl, rfl, rfl, trivial⟩, rfl, hE67, h1_0, h29_0⟩
              ·
               rintro s72 wL ⟨rfl, hE67, h1_0, h29_0⟩
               have szs72 := hE67.size
               have hS := hS.c0 hE67
               refine k_assign rfl rfl ?_
               refine k_nil ?_
               refine k_keep [(0, _)] ⟨rfl, trivial⟩ ?_
               refine k_ret ?_
               obtain rfl := Option.some.inj h
               refine ⟨_, rfl, Ret.mk hS ?_⟩
               exact rfl

set_option maxHeartbeats 1000000 in
set_option maxRecDepth 100000 in
theorem law11_LogfileNobody_w {s : St} {a0 : (List UInt8)} {l1 : Lab} {v1 : Value} {a1 : (List UInt8)} {a2 : Int} {r : Bool} (hp1 : SL s l1 v1 1 (a1.map bD)) (h : law11_LogfileNobody a0 a1 a2 = some r) : Calls Tryd.prog 4 #[S a0, v1, .int .i64 a2] s.w (Ret s K0 (fun s1 v => v = .bool r)) := by
 unfold law11_LogfileNobody at h
 obtain ⟨lf1, lf1le, lf1ne, hp1⟩ := hp1.fix
 have hS := Step.r0 K0 s
 refine k_fn (rs := [6]) (args := [S a0, v1, .int .i64 a2]) Tryd.func4 rfl rfl rfl rfl ?_
 refine k_seq ?_
 refine k_region ?_
 refine k_assign rfl rfl ?_
 refine k_nil ?_
 refine k_seq ?_
 refine k_region ?_
 refine k_assign rfl rfl ?_
 refine k_nil ?_
 refine k_seq ?_
 refine k_region ?_
 refine k_move rfl rfl ?_
 refine k_build plc53 zero53 rfl Parts.nil (by rfl) rfl ?_
 refine k_as (v := .agg #[.pointer none, S ([] : List UInt8), .slice none 0 0, .int .i64 0, .int .i64 0, .int .u32 0]) rfl ?_
 refine k_box rfl rfl ?_
 intro s1 b1 st1 h1 ge1
 have szs1 := st1.size
 have hS := hS.trans0 st1
 replace hp1 := hp1.up2 st1
 have lt1 := h1.lt
 refine k_bslice_raw (vs := [.pointer none, .pointer (some ⟨b1, 0, none⟩)]) slc54 rfl rfl (List.forall_mem_cons.2 ⟨rfl, (List.forall_mem_cons.2 ⟨rfl, (fun _ h => nomatch h)⟩)⟩) rfl rfl ?_
 intro s2 b2 st2 ge2 bl2 h2
 have szs2 := st2.size
 have hS := hS.trans0 st2
 replace hp1 := hp1.up2 st2
 replace h1 := h1.up2 st2
 refine k_assign rfl rfl ?_
 refine k_nil ?_
 refine k_keep [(0, _), (1, _), (2, _), (6, _), (8, _)] ⟨rfl, rfl, rfl, rfl, rfl, trivial⟩ ?_
 refine k_seq ?_
 obtain ⟨kj1, hK3, h⟩ := jn_out h
 have hE3 := Step.r0 K0 s2
 refine k_cutc (X := St) [(0, S a0), (6, .bool false)] (fun (xL : St) => match xL with | sl => []) (fun (xL : St) (wL : World) => match xL with | sl => sl.w = wL ∧ Step K0 s2 sl ∧ kj1 () = some r) ?_ ?_
 ·
  refine k_seq ?_
  refine k_region ?_
  refine k_assign rfl rfl ?_
  refine k_nil ?_
  refine k_block ?_
  refine k_rounds 3 ?_
  refine k_round ?_
  refine k_seq ?_
  refine k_seq ?_
  refine k_region ?_
  refine k_move rfl rfl ?_
  refine k_move rfl rfl ?_
  refine k_len Tryd.underlying54 rfl ⟨_, _, rfl⟩ rfl ?_
  refine k_lss rfl rfl rfl ?_
  refine k_as (v := .bool true) rfl ?_
  refine k_nil ?_
  refine k_cond_true rfl ?_
  refine k_skip ?_
  refine k_seq ?_
  refine k_block ?_
  refine k_seq ?_
  refine k_region ?_
  refine k_move rfl rfl ?_
  refine k_move rfl rfl ?_
  refine k_ixaddr_raw (i := 0) Tryd.underlying54 size29 rfl rfl rfl rfl rfl ?_
  refine k_load_blk one29 rfl h2 rfl rfl ?_
  refine k_move rfl rfl ?_
  obtain ⟨x2, hx2, h⟩ := ob h
  refine k_call cal19 rfl (logfile_Log_At_nil_w   hx2) rfl ?_
  rintro s4 vr4 st4 ⟨v4_0, rfl, h4_0⟩
  have szs4 := st4.size
  have hS := hS.trans0 st4
  have hE3 := hE3.trans0 st4
  replace hp1 := hp1.up2 st4
  replace h1 := h1.up2 st4
  replace h2 := h2.up2 st4
  refine k_move rfl rfl ?_
  refine k_extract rfl rfl rfl ?_
  refine k_extract rfl rfl rfl ?_
  refine k_assign rfl rfl ?_
  refine k_assign rfl rfl ?_
  refine k_nil ?_
  refine k_seq ?_
  refine k_region ?_
  refine k_move rfl rfl ?_
  refine k_move rfl rfl ?_
  refine k_ixaddr_raw (i := 0) Tryd.underlying54 size29 rfl rfl rfl rfl rfl ?_
  refine k_load_blk one29 rfl h2 rfl rfl ?_
  refine k_move rfl rfl ?_
  obtain ⟨x3, hx3, h⟩ := ob h
  refine k_call cal11 rfl (logfile_Log_Append_nil_w  hp1 hx3) rfl ?_
  rintro s5 vr5 st5 rfl
  have szs5 := st5.size
  have hS := hS.trans0 st5
  have hE3 := hE3.trans0 st5
  replace hp1 := hp1.up2 st5
  replace h4_0 := h4_0.up2 st5
  replace h1 := h1.up2 st5
  replace h2 := h2.up2 st5
  refine k_neq rfl rfl rfl ?_
  refine k_move rfl rfl ?_
  obtain ⟨x4, hx4, h⟩ := ob h
  have hE6 := Step.r0 K0 s5
  refine k_cutl (X := St) 7 [(0, S a0), (1, v1), (2, .int .i64 a2), (6, .bool false), (8, .slice (some ⟨b2, 0, none⟩) 2 2), (9, .int .i64 0), (10, v4_0), (11, .bool x2.2), (19, .int .i64 0), (20, .slice (some ⟨b2, 0, none⟩) 2 2), (21, .int .i64 2), (22, .bool true), (25, .tuple #[v4_0, .bool x2.2]), (26, .slice (some ⟨b2, 0, none⟩) 2 2), (27, .int .i64 0), (28, .pointer (some ⟨b2, 0, none⟩)), (29, .pointer none), (30, .int .i64 a2), (31, .tuple #[v4_0, .bool x2.2]), (32, v4_0), (33, .bool x2.2), (34, .slice (some ⟨b2, 0, none⟩) 2 2), (35, .int .i64 0), (36, .pointer (some ⟨b2, 0, none⟩)), (37, .pointer none), (38, v1), (39, .int .i64 x3), (40, .bool (decide (x3 ≠ 12)))] (fun _ => [(48, .bool x4)]) (fun sl wL => sl.w = wL ∧ Step K0 s5 sl) ?_ ?_
  ·
   refine k_again 41 rfl ?_
   refine k_split (fun c7 => ?_) (fun c7 => ?_)
   ·
    have hx4 := itT hx4 c7
    refine k_no rfl rfl rfl rfl ?_
    refine k_no rfl rfl rfl rfl ?_
    refine k_no rfl rfl rfl rfl ?_
    refine k_no rfl rfl rfl rfl ?_
    refine k_no rfl rfl rfl rfl ?_
    refine k_no rfl rfl rfl rfl ?_
    refine k_pickT rfl rfl rfl rfl ?_
    exact k_met ⟨s5, ⟨(congrArg (fun b => some (Value.bool b)) (Option.some.inj hx4)), trivial⟩, ⟨rfl, rfl, rfl, rfl, rfl, rfl, rfl, rfl, rfl, rfl, rfl, rfl, rfl, rfl, rfl, rfl, rfl, rfl, rfl, rfl, rfl, rfl, rfl, rfl, rfl, rfl, rfl, rfl, trivial⟩, rfl, hE6⟩
   ·
    have hx4 := itF hx4 c7
    refine k_yes rfl rfl ?_
    refine k_move rfl rfl ?_
    refine k_yes rfl rfl ?_
    refine k_move rfl rfl ?_
    refine k_yes rfl rfl ?_
    refine k_ixaddr_raw (i := 0) Tryd.underlying54 size29 rfl rfl rfl rfl rfl ?_
    refine k_yes rfl rfl ?_
    refine k_load_blk one29 rfl h2 rfl rfl ?_
    refine k_yes rfl rfl ?_
    obtain ⟨x5, hx5, hx4⟩ := ob hx4
    refine k_call cal12 rfl (logfile_Log_Sync_nil_w   hx5) rfl ?_
    rintro s8 vr8 st8 rfl
    have szs8 := st8.size
    have hS := hS.trans0 st8
    have hE3 := hE3.trans0 st8
    have hE6 := hE6.trans0 st8
    refine k_yes rfl rfl ?_
    refine k_neq rfl rfl rfl ?_
    refine k_pickF rfl rfl rfl rfl ?_
    exact k_met ⟨s8, ⟨(congrArg (fun b => some (Value.bool b)) (Option.some.inj hx4)), trivial⟩, ⟨rfl, rfl, rfl, rfl, rfl, rfl, rfl, rfl, rfl, rfl, rfl, rfl, rfl, rfl, rfl, rfl, rfl, rfl, rfl, rfl, rfl, rfl, rfl, rfl, rfl, rfl, rfl, rfl, trivial⟩, rfl, hE6⟩
  ·
   rintro s9 wL ⟨rfl, hE6⟩
   have szs9 := hE6.size
   have hS := hS.trans0 hE6
   have hE3 := hE3.trans0 hE6
   replace hp1 := hp1.up2 hE6
   replace h4_0 := h4_0.up2 hE6
   replace h1 := h1.up2 hE6
   replace h2 := h2.up2 hE6
   refine k_move rfl rfl ?_
   obtain ⟨x6, hx6, h⟩ := ob h
   have hE10 := Step.r0 K0 s9
   refine k_cutl (X := St) 8 [(0, S a0), (1, v1), (2, .int .i64 a2), (6, .bool false), (8, .slice (some ⟨b2, 0, none⟩) 2 2), (9, .int .i64 0), (10, v4_0), (11, .bool x2.2), (19, .int .i64 0), (20, .slice (some ⟨b2, 0, none⟩) 2 2), (21, .int .i64 2), (22, .bool true), (25, .tuple #[v4_0, .bool x2.2]), (26, .slice (some ⟨b2, 0, none⟩) 2 2), (27, .int .i64 0), (28, .pointer (some ⟨b2, 0, none⟩)), (29, .pointer none), (30, .int .i64 a2), (31, .tuple #[v4_0, .bool x2.2]), (32, v4_0), (33, .bool x2.2), (34, .slice (some ⟨b2, 0, none⟩) 2 2), (35, .int .i64 0), (36, .pointer (some ⟨b2, 0, none⟩)), (37, .pointer none), (38, v1), (39, .int .i64 x3), (40, .bool (decide (x3 ≠ 12))), (48, .bool x4)] (fun _ => [(57, .bool x6)]) (fun sl wL => sl.w = wL ∧ Step K0 s9 sl) ?_ ?_
   ·
    refine k_again 49 rfl ?_
    refine k_splitb (fun c11 => ?_) (fun c11 => ?_)
    ·
     have hx6 := ibT hx6 c11
     refine k_no rfl rfl rfl rfl ?_
     refine k_no rfl rfl rfl rfl ?_
     refine k_no rfl rfl rfl rfl ?_
     refine k_no rfl rfl rfl rfl ?_
     refine k_no rfl rfl rfl rfl ?_
     refine k_no rfl rfl rfl rfl ?_
     refine k_no rfl rfl rfl rfl ?_
     refine k_pickT rfl rfl rfl rfl ?_
     exact k_met ⟨s9, ⟨(congrArg (fun b => some (Value.bool b)) (Option.some.inj hx6)), trivial⟩, ⟨rfl, rfl, rfl, rfl, rfl, rfl, rfl, rfl, rfl, rfl, rfl, rfl, rfl, rfl, rfl, rfl, rfl, rfl, rfl, rfl, rfl, rfl, rfl, rfl, rfl, rfl, rfl, rfl, rfl, trivial⟩, rfl, hE10⟩
    ·
     have hx6 := ibF hx6 c11
     refine k_yes rfl rfl ?_
     refine k_move rfl rfl ?_
     refine k_yes rfl rfl ?_
     refine k_move rfl rfl ?_
     refine k_yes rfl rfl ?_
     refine k_ixaddr_raw (i := 0) Tryd.underlying54 size29 rfl rfl rfl rfl rfl ?_
     refine k_yes rfl rfl ?_
     refine k_load_blk one29 rfl h2 rfl rfl ?_
     refine k_yes rfl rfl ?_
     obtain ⟨x7, hx7, hx6⟩ := ob hx6
     refine k_call cal15 rfl (logfile_Log_Records_nil_w   hx7) rfl ?_
     rintro s12 v12_0 st12 ⟨_, rfl, h12_0⟩
     have szs12 := st12.size
     have hS := hS.trans0 st12
     have hE3 := hE3.trans0 st12
     have hE10 := hE10.trans0 st12
     refine k_yes rfl rfl ?_
     refine k_len Tryd.underlying32 rfl (SL.of_R h12_0).hasLen rfl ?_
     refine k_as (v := .int .i64 (x7.length : Int)) (by simp only [List.length_map]) ?_
     refine k_yes rfl rfl ?_
     refine k_neq rfl rfl rfl ?_
     refine k_pickF rfl rfl rfl rfl ?_
     exact k_met ⟨s12, ⟨(congrArg (fun b => some (Value.bool b)) (Option.some.inj hx6)), trivial⟩, ⟨rfl, rfl, rfl, rfl, rfl, rfl, rfl, rfl, rfl, rfl, rfl, rfl, rfl, rfl, rfl, rfl, rfl, rfl, rfl, rfl, rfl, rfl, rfl, rfl, rfl, rfl, rfl, rfl, rfl, trivial⟩, rfl, hE10⟩
   ·
    rintro s13 wL ⟨rfl, hE10⟩
    have szs13 := hE10.size
    have hS := hS.trans0 hE10
    have hE3 := hE3.trans0 hE10
    replace hp1 := hp1.up2 hE10
    replace h4_0 := h4_0.up2 hE10
    replace h1 := h1.up2 hE10
    replace h2 := h2.up2 hE10
    refine k_move rfl rfl ?_
    have hE14 := Step.r0 K0 s13
    refine k_cutl (X := St) 4 [(0, S a0), (1, v1), (2, .int .i64 a2), (6, .bool false), (8, .slice (some ⟨b2, 0, none⟩) 2 2), (9, .int .i64 0), (10, v4_0), (11, .bool x2.2), (19, .int .i64 0), (20, .slice (some ⟨b2, 0, none⟩) 2 2), (21, .int .i64 2), (22, .bool true), (25, .tuple #[v4_0, .bool x2.2]), (26, .slice (some ⟨b2, 0, none⟩) 2 2), (27, .int .i64 0), (28, .pointer (some ⟨b2, 0, none⟩)), (29, .pointer none), (30, .int .i64 a2), (31, .tuple #[v4_0, .bool x2.2]), (32, v4_0), (33, .bool x2.2), (34, .slice (some ⟨b2, 0, none⟩) 2 2), (35, .int .i64 0), (36, .pointer (some ⟨b2, 0, none⟩)), (37, .pointer none), (38, v1), (39, .int .i64 x3), (40, .bool (decide (x3 ≠ 12))), (48, .bool x4), (57, .bool x6)] (fun _ => [(62, .bool (decide ((x6 = true) ∨ ((x2.1.length : Int) ≠ 0))))]) (fun sl wL => sl.w = wL ∧ Step K0 s13 sl) ?_ ?_
    ·
     refine k_again 58 rfl ?_
     refine k_splitb (fun c15 => ?_) (fun c15 => ?_)
     ·
      refine k_no rfl rfl rfl rfl ?_
      refine k_no rfl rfl rfl rfl ?_
      refine k_no rfl rfl rfl rfl ?_
      refine k_pickT rfl rfl rfl rfl ?_
      exact k_met ⟨s13, ⟨(congrArg (fun b => some (Value.bool b)) (by first | exact decide_eq_decide.2 ⟨Or.inr, fun h => h.resolve_left c15⟩ | exact (decide_eq_true (Or.inl c15)).symm | (simp [c15]; done) | exact dec_andT c15 | exact dec_andF c15 | exact dec_orF c15 | exact dec_orT c15 | (simp [c15, i64] <;> omega))), trivial⟩, ⟨rfl, rfl, rfl, rfl, rfl, rfl, rfl, rfl, rfl, rfl, rfl, rfl, rfl, rfl, rfl, rfl, rfl, rfl, rfl, rfl, rfl, rfl, rfl, rfl, rfl, rfl, rfl, rfl, rfl, rfl, trivial⟩, rfl, hE14⟩
     ·
      refine k_yes rfl rfl ?_
      refine k_move rfl rfl ?_
      refine k_yes rfl rfl ?_
      refine k_len Tryd.underlying33 rfl (SL.of_R h4_0).hasLen rfl ?_
      refine k_as (v := .int .i64 (x2.1.length : Int)) (by simp only [List.length_map]) ?_
      refine k_yes rfl rfl ?_
      refine k_neq rfl rfl rfl ?_
      refine k_pickF rfl rfl rfl rfl ?_
      exact k_met ⟨s13, ⟨(congrArg (fun b => some (Value.bool b)) (by first | exact decide_eq_decide.2 ⟨Or.inr, fun h => h.resolve_left c15⟩ | exact (decide_eq_true (Or.inl c15)).symm | (simp [c15]; done) | exact dec_andT c15 | exact dec_andF c15 | exact dec_orF c15 | exact dec_orT c15 | (simp [c15, i64] <;> omega))), trivial⟩, ⟨rfl, rfl, rfl, rfl, rfl, rfl, rfl, rfl, rfl, rfl, rfl, rfl, rfl, rfl, rfl, rfl, rfl, rfl, rfl, rfl, rfl, rfl, rfl, rfl, rfl, rfl, rfl, rfl, rfl, rfl, trivial⟩, rfl, hE14⟩
    ·
     rintro s16 wL ⟨rfl, hE14⟩
     have szs16 := hE14.size
     have hS := hS.trans0 hE14
     have hE3 := hE3.trans0 hE14
     replace hp1 := hp1.up2 hE14
     replace h1 := h1.up2 hE14
     replace h2 := h2.up2 hE14
     refine k_move rfl rfl ?_
     have hE17 := Step.r0 K0 s16
     refine k_cutl (X := St) 2 [(0, S a0), (1, v1), (2, .int .i64 a2), (6, .bool false), (8, .slice (some ⟨b2, 0, none⟩) 2 2), (9, .int .i64 0), (10, v4_0), (11, .bool x2.2), (19, .int .i64 0), (20, .slice (some ⟨b2, 0, none⟩) 2 2), (21, .int .i64 2), (22, .bool true), (25, .tuple #[v4_0, .bool x2.2]), (26, .slice (some ⟨b2, 0, none⟩) 2 2), (27, .int .i64 0), (28, .pointer (some ⟨b2, 0, none⟩)), (29, .pointer none), (30, .int .i64 a2), (31, .tuple #[v4_0, .bool x2.2]), (32, v4_0), (33, .bool x2.2), (34, .slice (some ⟨b2, 0, none⟩) 2 2), (35, .int .i64 0), (36, .pointer (some ⟨b2, 0, none⟩)), (37, .pointer none), (38, v1), (39, .int .i64 x3), (40, .bool (decide (x3 ≠ 12))), (48, .bool x4), (57, .bool x6), (62, .bool (decide ((x6 = true) ∨ ((x2.1.length : Int) ≠ 0))))] (fun _ => [(65, .bool (decide (((x6 = true) ∨ ((x2.1.length : Int) ≠ 0)) ∨ (x2.2 = true))))]) (fun sl wL => sl.w = wL ∧ Step K0 s16 sl) ?_ ?_
     ·
      refine k_again 63 rfl ?_
      refine k_split (fun c18 => ?_) (fun c18 => ?_)
      ·
       refine k_no rfl rfl rfl rfl ?_
       refine k_pickT rfl rfl rfl rfl ?_
       exact k_met ⟨s16, ⟨(congrArg (fun b => some (Value.bool b)) (by first | exact decide_eq_decide.2 ⟨Or.inr, fun h => h.resolve_left c18⟩ | exact (decide_eq_true (Or.inl c18)).symm | (simp [c18]; done) | exact dec_andT c18 | exact dec_andF c18 | exact dec_orF c18 | exact dec_orT c18 | (simp [c18, i64] <;> omega))), trivial⟩, ⟨rfl, rfl, rfl, rfl, rfl, rfl, rfl, rfl, rfl, rfl, rfl, rfl, rfl, rfl, rfl, rfl, rfl, rfl, rfl, rfl, rfl, rfl, rfl, rfl, rfl, rfl, rfl, rfl, rfl, rfl, rfl, trivial⟩, rfl, hE17⟩
      ·
       refine k_yes rfl rfl ?_
       refine k_move rfl rfl ?_
       refine k_pickF rfl rfl rfl rfl ?_
       exact k_met ⟨s16, ⟨(congrArg (fun b => some (Value.bool b)) (by first | exact decide_eq_decide.2 ⟨Or.inr, fun h => h.resolve_left c18⟩ | exact (decide_eq_true (Or.inl c18)).symm | (simp [c18]; done) | exact dec_andT c18 | exact dec_andF c18 | exact dec_orF c18 | exact dec_orT c18 | (simp [c18, i64] <;> omega))), trivial⟩, ⟨rfl, rfl, rfl, rfl, rfl, rfl, rfl, rfl, rfl, rfl, rfl, rfl, rfl, rfl, rfl, rfl, rfl, rfl, rfl, rfl, rfl, rfl, rfl, rfl, rfl, rfl, rfl, rfl, rfl, rfl, rfl, trivial⟩, rfl, hE17⟩
     ·
      rintro s19 wL ⟨rfl, hE17⟩
      have szs19 := hE17.size
      have hS := hS.trans0 hE17
      have hE3 := hE3.trans0 hE17
      replace hp1 := hp1.up2 hE17
      replace h1 := h1.up2 hE17
      replace h2 := h2.up2 hE17
      refine k_move rfl rfl ?_
      obtain ⟨x8, hx8, h⟩ := ob h
      have hE20 := Step.r0 K0 s19
      refine k_cutl (X := St) 7 [(0, S a0), (1, v1), (2, .int .i64 a2), (6, .bool false), (8, .slice (some ⟨b2, 0, none⟩) 2 2), (9, .int .i64 0), (10, v4_0), (11, .bool x2.2), (19, .int .i64 0), (20, .slice (some ⟨b2, 0, none⟩) 2 2), (21, .int .i64 2), (22, .bool true), (25, .tuple #[v4_0, .bool x2.2]), (26, .slice (some ⟨b2, 0, none⟩) 2 2), (27, .int .i64 0), (28, .pointer (some ⟨b2, 0, none⟩)), (29, .pointer none), (30, .int .i64 a2), (31, .tuple #[v4_0, .bool x2.2]), (32, v4_0), (33, .bool x2.2), (34, .slice (some ⟨b2, 0, none⟩) 2 2), (35, .int .i64 0), (36, .pointer (some ⟨b2, 0, none⟩)), (37, .pointer none), (38, v1), (39, .int .i64 x3), (40, .bool (decide (x3 ≠ 12))), (48, .bool x4), (57, .bool x6), (62, .bool (decide ((x6 = true) ∨ ((x2.1.length : Int) ≠ 0)))), (65, .bool (decide (((x6 = true) ∨ ((x2.1.length : Int) ≠ 0)) ∨ (x2.2 = true))))] (fun _ => [(73, .bool x8)]) (fun sl wL => sl.w = wL ∧ Step K0 s19 sl) ?_ ?_
      ·
       refine k_again 66 rfl ?_
       refine k_split (fun c21 => ?_) (fun c21 => ?_)
       ·
        have hx8 := itT hx8 c21
        refine k_no rfl rfl rfl rfl ?_
        refine k_no rfl rfl rfl rfl ?_
        refine k_no rfl rfl rfl rfl ?_
        refine k_no rfl rfl rfl rfl ?_
        refine k_no rfl rfl rfl rfl ?_
        refine k_no rfl rfl rfl rfl ?_
        refine k_pickT rfl rfl rfl rfl ?_
        exact k_met ⟨s19, ⟨(congrArg (fun b => some (Value.bool b)) (Option.some.inj hx8)), trivial⟩, ⟨rfl, rfl, rfl, rfl, rfl, rfl, rfl, rfl, rfl, rfl, rfl, rfl, rfl, rfl, rfl, rfl, rfl, rfl, rfl, rfl, rfl, rfl, rfl, rfl, rfl, rfl, rfl, rfl, rfl, rfl, rfl, rfl, trivial⟩, rfl, hE20⟩
       ·
        have hx8 := itF hx8 c21
        refine k_yes rfl rfl ?_
        refine k_move rfl rfl ?_
        refine k_yes rfl rfl ?_
        refine k_move rfl rfl ?_
        refine k_yes rfl rfl ?_
        refine k_ixaddr_raw (i := 0) Tryd.underlying54 size29 rfl rfl rfl rfl rfl ?_
        refine k_yes rfl rfl ?_
        refine k_load_blk one29 rfl h2 rfl rfl ?_
        refine k_yes rfl rfl ?_
        obtain ⟨x9, hx9, hx8⟩ := ob hx8
        refine k_call cal20 rfl (logfile_Log_Count_nil_w   hx9) rfl ?_
        rintro s22 vr22 st22 rfl
        have szs22 := st22.size
        have hS := hS.trans0 st22
        have hE3 := hE3.trans0 st22
        have hE20 := hE20.trans0 st22
        refine k_yes rfl rfl ?_
        refine k_neq rfl rfl rfl ?_
        refine k_pickF rfl rfl rfl rfl ?_
        exact k_met ⟨s22, ⟨(congrArg (fun b => some (Value.bool b)) (Option.some.inj hx8)), trivial⟩, ⟨rfl, rfl, rfl, rfl, rfl, rfl, rfl, rfl, rfl, rfl, rfl, rfl, rfl, rfl, rfl, rfl, rfl, rfl, rfl, rfl, rfl, rfl, rfl, rfl, rfl, rfl, rfl, rfl, rfl, rfl, rfl, rfl, trivial⟩, rfl, hE20⟩
      ·
       rintro s23 wL ⟨rfl, hE20⟩
       have szs23 := hE20.size
       have hS := hS.trans0 hE20
       have hE3 := hE3.trans0 hE20
       replace hp1 := hp1.up2 hE20
       replace h1 := h1.up2 hE20
       replace h2 := h2.up2 hE20
       refine k_move rfl rfl ?_
       obtain ⟨x10, hx10, h⟩ := ob h
       have hE24 := Step.r0 K0 s23
       refine k_cutl (X := St) 7 [(0, S a0), (1, v1), (2, .int .i64 a2), (6, .bool false), (8, .slice (some ⟨b2, 0, none⟩) 2 2), (9, .int .i64 0), (10, v4_0), (11, .bool x2.2), (19, .int .i64 0), (20, .slice (some ⟨b2, 0, none⟩) 2 2), (21, .int .i64 2), (22, .bool true), (25, .tuple #[v4_0, .bool x2.2]), (26, .slice (some ⟨b2, 0, none⟩) 2 2), (27, .int .i64 0), (28, .pointer (some ⟨b2, 0, none⟩)), (29, .pointer none), (30, .int .i64 a2), (31, .tuple #[v4_0, .bool x2.2]), (32, v4_0), (33, .bool x2.2), (34, .slice (some ⟨b2, 0, none⟩) 2 2), (35, .int .i64 0), (36, .pointer (some ⟨b2, 0, none⟩)), (37, .pointer none), (38, v1), (39, .int .i64 x3), (40, .bool (decide (x3 ≠ 12))), (48, .bool x4), (57, .bool x6), (62, .bool (decide ((x6 = true) ∨ ((x2.1.length : Int) ≠ 0)))), (65, .bool (decide (((x6 = true) ∨ ((x2.1.length : Int) ≠ 0)) ∨ (x2.2 = true)))), (73, .bool x8)] (fun _ => [(81, .bool x10)]) (fun sl wL => sl.w = wL ∧ Step K0 s23 sl) ?_ ?_
       ·
        refine k_again 74 rfl ?_
        refine k_splitb (fun c25 => ?_) (fun c25 => ?_)
        ·
         have hx10 := ibT hx10 c25
         refine k_no rfl rfl rfl rfl ?_
         refine k_no rfl rfl rfl rfl ?_
         refine k_no rfl rfl rfl rfl ?_
         refine k_no rfl rfl rfl rfl ?_
         refine k_no rfl rfl rfl rfl ?_
         refine k_no rfl rfl rfl rfl ?_
         refine k_pickT rfl rfl rfl rfl ?_
         exact k_met ⟨s23, ⟨(congrArg (fun b => some (Value.bool b)) (Option.some.inj hx10)), trivial⟩, ⟨rfl, rfl, rfl, rfl, rfl, rfl, rfl, rfl, rfl, rfl, rfl, rfl, rfl, rfl, rfl, rfl, rfl, rfl, rfl, rfl, rfl, rfl, rfl, rfl, rfl, rfl, rfl, rfl, rfl, rfl, rfl, rfl, rfl, trivial⟩, rfl, hE24⟩
        ·
         have hx10 := ibF hx10 c25
         refine k_yes rfl rfl ?_
         refine k_move rfl rfl ?_
         refine k_yes rfl rfl ?_
         refine k_move rfl rfl ?_
         refine k_yes rfl rfl ?_
         refine k_ixaddr_raw (i := 0) Tryd.underlying54 size29 rfl rfl rfl rfl rfl ?_
         refine k_yes rfl rfl ?_
         refine k_load_blk one29 rfl h2 rfl rfl ?_
         refine k_yes rfl rfl ?_
         obtain ⟨x11, hx11, hx10⟩ := ob hx10
         refine k_call cal18 rfl (logfile_Log_Size_nil_w   hx11) rfl ?_
         rintro s26 vr26 st26 rfl
         have szs26 := st26.size
         have hS := hS.trans0 st26
         have hE3 := hE3.trans0 st26
         have hE24 := hE24.trans0 st26
         refine k_yes rfl rfl ?_
         refine k_neq rfl rfl rfl ?_
         refine k_pickF rfl rfl rfl rfl ?_
         exact k_met ⟨s26, ⟨(congrArg (fun b => some (Value.bool b)) (Option.some.inj hx10)), trivial⟩, ⟨rfl, rfl, rfl, rfl, rfl, rfl, rfl, rfl, rfl, rfl, rfl, rfl, rfl, rfl, rfl, rfl, rfl, rfl, rfl, rfl, rfl, rfl, rfl, rfl, rfl, rfl, rfl, rfl, rfl, rfl, rfl, rfl, rfl, trivial⟩, rfl, hE24⟩
       ·
        rintro s27 wL ⟨rfl, hE24⟩
        have szs27 := hE24.size
        have hS := hS.trans0 hE24
        have hE3 := hE3.trans0 hE24
        replace hp1 := hp1.up2 hE24
        replace h1 := h1.up2 hE24
        replace h2 := h2.up2 hE24
        refine k_move rfl rfl ?_
        obtain ⟨x12, hx12, h⟩ := ob h
        have hE28 := Step.r0 K0 s27
        refine k_cutl (X := St) 7 [(0, S a0), (1, v1), (2, .int .i64 a2), (6, .bool false), (8, .slice (some ⟨b2, 0, none⟩) 2 2), (9, .int .i64 0), (10, v4_0), (11, .bool x2.2), (19, .int .i64 0), (20, .slice (some ⟨b2, 0, none⟩) 2 2), (21, .int .i64 2), (22, .bool true), (25, .tuple #[v4_0, .bool x2.2]), (26, .slice (some ⟨b2, 0, none⟩) 2 2), (27, .int .i64 0), (28, .pointer (some ⟨b2, 0, none⟩)), (29, .pointer none), (30, .int .i64 a2), (31, .tuple #[v4_0, .bool x2.2]), (32, v4_0), (33, .bool x2.2), (34, .slice (some ⟨b2, 0, none⟩) 2 2), (35, .int .i64 0), (36, .pointer (some ⟨b2, 0, none⟩)), (37, .pointer none), (38, v1), (39, .int .i64 x3), (40, .bool (decide (x3 ≠ 12))), (48, .bool x4), (57, .bool x6), (62, .bool (decide ((x6 = true) ∨ ((x2.1.length : Int) ≠ 0)))), (65, .bool (decide (((x6 = true) ∨ ((x2.1.length : Int) ≠ 0)) ∨ (x2.2 = true)))), (73, .bool x8), (81, .bool x10)] (fun _ => [(89, .bool x12)]) (fun sl wL => sl.w = wL ∧ Step K0 s27 sl) ?_ ?_
        ·
         refine k_again 82 rfl ?_
         refine k_splitb (fun c29 => ?_) (fun c29 => ?_)
         ·
          have hx12 := ibT hx12 c29
          refine k_no rfl rfl rfl rfl ?_
          refine k_no rfl rfl rfl rfl ?_
          refine k_no rfl rfl rfl rfl ?_
          refine k_no rfl rfl rfl rfl ?_
          refine k_no rfl rfl rfl rfl ?_
          refine k_no rfl rfl rfl rfl ?_
          refine k_pickT rfl rfl rfl rfl ?_
          exact k_met ⟨s27, ⟨(congrArg (fun b => some (Value.bool b)) (Option.some.inj hx12)), trivial⟩, ⟨rfl, rfl, rfl, rfl, rfl, rfl, rfl, rfl, rfl, rfl, rfl, rfl, rfl, rfl, rfl, rfl, rfl, rfl, rfl, rfl, rfl, rfl, rfl, rfl, rfl, rfl, rfl, rfl, rfl, rfl, rfl, rfl, rfl, rfl, trivial⟩, rfl, hE28⟩
         ·
          have hx12 := ibF hx12 c29
          refine k_yes rfl rfl ?_
          refine k_move rfl rfl ?_
          refine k_yes rfl rfl ?_
          refine k_move rfl rfl ?_
          refine k_yes rfl rfl ?_
          refine k_ixaddr_raw (i := 0) Tryd.underlying54 size29 rfl rfl rfl rfl rfl ?_
          refine k_yes rfl rfl ?_
          refine k_load_blk one29 rfl h2 rfl rfl ?_
          refine k_yes rfl rfl ?_
          obtain ⟨x13, hx13, hx12⟩ := ob hx12
          refine k_call cal21 rfl (logfile_Log_Name_nil_w   hx13) rfl ?_
          rintro s30 vr30 st30 rfl
          have szs30 := st30.size
          have hS := hS.trans0 st30
          have hE3 := hE3.trans0 st30
          have hE28 := hE28.trans0 st30
          refine k_yes rfl rfl ?_
          refine k_neq_str rfl rfl rfl ?_
          refine k_pickF rfl rfl rfl rfl ?_
          exact k_met ⟨s30, ⟨(congrArg (fun b => some (Value.bool b)) (Option.some.inj hx12)), trivial⟩, ⟨rfl, rfl, rfl, rfl, rfl, rfl, rfl, rfl, rfl, rfl, rfl, rfl, rfl, rfl, rfl, rfl, rfl, rfl, rfl, rfl, rfl, rfl, rfl, rfl, rfl, rfl, rfl, rfl, rfl, rfl, rfl, rfl, rfl, rfl, trivial⟩, rfl, hE28⟩
        ·
         rintro s31 wL ⟨rfl, hE28⟩
         have szs31 := hE28.size
         have hS := hS.trans0 hE28
         have hE3 := hE3.trans0 hE28
         replace hp1 := hp1.up2 hE28
         replace h1 := h1.up2 hE28
         replace h2 := h2.up2 hE28
         refine k_nil ?_
         refine k_cond rfl (fun c32 => ?_) (fun c32 => ?_)
         ·
          have h := ibT h c32
          refine k_seq ?_
          refine k_region ?_
          refine k_assign rfl rfl ?_
          refine k_nil ?_
          refine k_ret ?_
          obtain rfl := Option.some.inj h
          refine ⟨_, rfl, Ret.mk hS ?_⟩
          exact rfl
         ·
          have h := ibF h c32
          refine k_skip ?_
          refine k_blk ?_
          refine k_region ?_
          refine k_move rfl rfl ?_
          refine k_add rfl rfl rfl ?_
          refine k_as (v := .int .i64 1) (by first | rfl | decide) ?_
          refine k_assign rfl rfl ?_
          refine k_nil ?_
          refine k_stopr ?_
          refine k_round ?_
          refine k_seq ?_
          refine k_seq ?_
          refine k_region ?_
          refine k_move rfl rfl ?_
          refine k_move rfl rfl ?_
          refine k_len Tryd.underlying54 rfl ⟨_, _, rfl⟩ rfl ?_
          refine k_lss rfl rfl rfl ?_
          refine k_as (v := .bool true) rfl ?_
          refine k_nil ?_
          refine k_cond_true rfl ?_
          refine k_skip ?_
          refine k_seq ?_
          refine k_block ?_
          refine k_seq ?_
          refine k_region ?_
          refine k_move rfl rfl ?_
          refine k_move rfl rfl ?_
          refine k_ixaddr_raw (i := 1) Tryd.underlying54 size29 rfl rfl rfl rfl rfl ?_
          refine k_load_blk one29 rfl h2 rfl rfl ?_
          refine k_move rfl rfl ?_
          obtain ⟨x14, hx14, h⟩ := ob h
          refine k_call cal19 rfl (logfile_Log_At_rn_w  (OLogfileLog.mk_ (⟨(⟨()⟩ : LogfileHeld), ([] : List UInt8), [], (⟨0, 0, (0 : UInt32)⟩ : ApiTail)⟩ : LogfileLog) (by omega) (Own.nil (by first | omega | (dsimp only; omega)) (by first | omega | (dsimp only; omega))) h1) hx14) rfl ?_
          rintro s33 vr33 st33 ⟨v33_0, rfl, h33_0⟩
          have szs33 := st33.size
          have hS := hS.trans0 st33
          have hE3 := hE3.trans0 st33
          replace hp1 := hp1.up2 st33
          replace h1 := h1.up2 st33
          replace h2 := h2.up2 st33
          refine k_move rfl rfl ?_
          refine k_extract rfl rfl rfl ?_
          refine k_extract rfl rfl rfl ?_
          refine k_assign rfl rfl ?_
          refine k_assign rfl rfl ?_
          refine k_nil ?_
          refine k_seq ?_
          refine k_region ?_
          refine k_move rfl rfl ?_
          refine k_move rfl rfl ?_
          refine k_ixaddr_raw (i := 1) Tryd.underlying54 size29 rfl rfl rfl rfl rfl ?_
          refine k_load_blk one29 rfl h2 rfl rfl ?_
          refine k_move rfl rfl ?_
          obtain ⟨x15, hx15, h⟩ := ob h
          refine k_call cal11 rfl (logfile_Log_Append_rn_w  (OLogfileLog.mk_ (⟨(⟨()⟩ : LogfileHeld), ([] : List UInt8), [], (⟨0, 0, (0 : UInt32)⟩ : ApiTail)⟩ : LogfileLog) (by omega) (Own.nil (by first | omega | (dsimp only; omega)) (by first | omega | (dsimp only; omega))) h1) hp1 hx15) rfl ?_
          rintro s34 vr34 st34 rfl
          have szs34 := st34.size
          have hS := hS.trans0 st34
          have hE3 := hE3.trans0 st34
          replace h33_0 := h33_0.up2 st34
          replace h1 := h1.up2 st34
          replace h2 := h2.up2 st34
          refine k_neq rfl rfl rfl ?_
          refine k_move rfl rfl ?_
          obtain ⟨x16, hx16, h⟩ := ob h
          have hE35 := Step.r0 K0 s34
          refine k_cutl (X := St) 7 [(0, S a0), (1, v1), (2, .int .i64 a2), (6, .bool false), (8, .slice (some ⟨b2, 0, none⟩) 2 2), (9, .int .i64 1), (10, v33_0), (11, .bool x14.2), (19, .int .i64 1), (20, .slice (some ⟨b2, 0, none⟩) 2 2), (21, .int .i64 2), (22, .bool true), (23, .int .i64 0), (24, .int .i64 1), (25, .tuple #[v33_0, .bool x14.2]), (26, .slice (some ⟨b2, 0, none⟩) 2 2), (27, .int .i64 1), (28, .pointer (some ⟨b2, 1, none⟩)), (29, .pointer (some ⟨b1, 0, none⟩)), (30, .int .i64 a2), (31, .tuple #[v33_0, .bool x14.2]), (32, v33_0), (33, .bool x14.2), (34, .slice (some ⟨b2, 0, none⟩) 2 2), (35, .int .i64 1), (36, .pointer (some ⟨b2, 1, none⟩)), (37, .pointer (some ⟨b1, 0, none⟩)), (38, v1), (39, .int .i64 x15), (40, .bool (decide (x15 ≠ 12))), (57, .bool x6), (62, .bool (decide ((x6 = true) ∨ ((x2.1.length : Int) ≠ 0)))), (65, .bool (decide (((x6 = true) ∨ ((x2.1.length : Int) ≠ 0)) ∨ (x2.2 = true)))), (73, .bool x8), (81, .bool x10), (89, .bool x12)] (fun _ => [(48, .bool x16)]) (fun sl wL => sl.w = wL ∧ Step K0 s34 sl) ?_ ?_
          ·
           refine k_again 41 rfl ?_
           refine k_split (fun c36 => ?_) (fun c36 => ?_)
           ·
            have hx16 := itT hx16 c36
            refine k_no rfl rfl rfl rfl ?_
            refine k_no rfl rfl rfl rfl ?_
            refine k_no rfl rfl rfl rfl ?_
            refine k_no rfl rfl rfl rfl ?_
            refine k_no rfl rfl rfl rfl ?_
            refine k_no rfl rfl rfl rfl ?_
            refine k_pickT rfl rfl rfl rfl ?_
            exact k_met ⟨s34, ⟨(congrArg (fun b => some (Value.bool b)) (Option.some.inj hx16)), trivial⟩, ⟨rfl, rfl, rfl, rfl, rfl, rfl, rfl, rfl, rfl, rfl, rfl, rfl, rfl, rfl, rfl, rfl, rfl, rfl, rfl, rfl, rfl, rfl, rfl, rfl, rfl, rfl, rfl, rfl, rfl, rfl, rfl, rfl, rfl, rfl, rfl, rfl, trivial⟩, rfl, hE35⟩
           ·
            have hx16 := itF hx16 c36
            refine k_yes rfl rfl ?_
            refine k_move rfl rfl ?_
            refine k_yes rfl rfl ?_
            refine k_move rfl rfl ?_
            refine k_yes rfl rfl ?_
            refine k_ixaddr_raw (i := 1) Tryd.underlying54 size29 rfl rfl rfl rfl rfl ?_
            refine k_yes rfl rfl ?_
            refine k_load_blk one29 rfl h2 rfl rfl ?_
            refine k_yes rfl rfl ?_
            obtain ⟨x17, hx17, hx16⟩ := ob hx16
            refine k_call cal12 rfl (logfile_Log_Sync_rn_w  (OLogfileLog.mk_ (⟨(⟨()⟩ : LogfileHeld), ([] : List UInt8), [], (⟨0, 0, (0 : UInt32)⟩ : ApiTail)⟩ : LogfileLog) (by omega) (Own.nil (by first | omega | (dsimp only; omega)) (by first | omega | (dsimp only; omega))) h1) hx17) rfl ?_
            rintro s37 vr37 st37 rfl
            have szs37 := st37.size
            have hS := hS.trans0 st37
            have hE3 := hE3.trans0 st37
            have hE35 := hE35.trans0 st37
            refine k_yes rfl rfl ?_
            refine k_neq rfl rfl rfl ?_
            refine k_pickF rfl rfl rfl rfl ?_
            exact k_met ⟨s37, ⟨(congrArg (fun b => some (Value.bool b)) (Option.some.inj hx16)), trivial⟩, ⟨rfl, rfl, rfl, rfl, rfl, rfl, rfl, rfl, rfl, rfl, rfl, rfl, rfl, rfl, rfl, rfl, rfl, rfl, rfl, rfl, rfl, rfl, rfl, rfl, rfl, rfl, rfl, rfl, rfl, rfl, rfl, rfl, rfl, rfl, rfl, rfl, trivial⟩, rfl, hE35⟩
          ·
           rintro s38 wL ⟨rfl, hE35⟩
           have szs38 := hE35.size
           have hS := hS.trans0 hE35
           have hE3 := hE3.trans0 hE35
           replace h33_0 := h33_0.up2 hE35
           replace h1 := h1.up2 hE35
           replace h2 := h2.up2 hE35
           refine k_move rfl rfl ?_
           obtain ⟨x18, hx18, h⟩ := ob h
           have hE39 := Step.r0 K0 s38
           refine k_cutl (X := St) 8 [(0, S a0), (1, v1), (2, .int .i64 a2), (6, .bool false), (8, .slice (some ⟨b2, 0, none⟩) 2 2), (9, .int .i64 1), (10, v33_0), (11, .bool x14.2), (19, .int .i64 1), (20, .slice (some ⟨b2, 0, none⟩) 2 2), (21, .int .i64 2), (22, .bool true), (23, .int .i64 0), (24, .int .i64 1), (25, .tuple #[v33_0, .bool x14.2]), (26, .slice (some ⟨b2, 0, none⟩) 2 2), (27, .int .i64 1), (28, .pointer (some ⟨b2, 1, none⟩)), (29, .pointer (some ⟨b1, 0, none⟩)), (30, .int .i64 a2), (31, .tuple #[v33_0, .bool x14.2]), (32, v33_0), (33, .bool x14.2), (34, .slice (some ⟨b2, 0, none⟩) 2 2), (35, .int .i64 1), (36, .pointer (some ⟨b2, 1, none⟩)), (37, .pointer (some ⟨b1, 0, none⟩)), (38, v1), (39, .int .i64 x15), (40, .bool (decide (x15 ≠ 12))), (48, .bool x16), (62, .bool (decide ((x6 = true) ∨ ((x2.1.length : Int) ≠ 0)))), (65, .bool (decide (((x6 = true) ∨ ((x2.1.length : Int) ≠ 0)) ∨ (x2.2 = true)))), (73, .bool x8), (81, .bool x10), (89, .bool x12)] (fun _ => [(57, .bool x18)]) (fun sl wL => sl.w = wL ∧ Step K0 s38 sl) ?_ ?_
           ·
            refine k_again 49 rfl ?_
            refine k_splitb (fun c40 => ?_) (fun c40 => ?_)
            ·
             have hx18 := ibT hx18 c40
             refine k_no rfl rfl rfl rfl ?_
             refine k_no rfl rfl rfl rfl ?_
             refine k_no rfl rfl rfl rfl ?_
             refine k_no rfl rfl rfl rfl ?_
             refine k_no rfl rfl rfl rfl ?_
             refine k_no rfl rfl rfl rfl ?_
             refine k_no rfl rfl rfl rfl ?_
             refine k_pickT rfl rfl rfl rfl ?_
             exact k_met ⟨s38, ⟨(congrArg (fun b => some (Value.bool b)) (Option.some.inj hx18)), trivial⟩, ⟨rfl, rfl, rfl, rfl, rfl, rfl, rfl, rfl, rfl, rfl, rfl, rfl, rfl, rfl, rfl, rfl, rfl, rfl, rfl, rfl, rfl, rfl, rfl, rfl, rfl, rfl, rfl, rfl, rfl, rfl, rfl, rfl, rfl, rfl, rfl, rfl, trivial⟩, rfl, hE39⟩
            ·
             have hx18 := ibF hx18 c40
             refine k_yes rfl rfl ?_
             refine k_move rfl rfl ?_
             refine k_yes rfl rfl ?_
             refine k_move rfl rfl ?_
             refine k_yes rfl rfl ?_
             refine k_ixaddr_raw (i := 1) Tryd.underlying54 size29 rfl rfl rfl rfl rfl ?_
             refine k_yes rfl rfl ?_
             refine k_load_blk one29 rfl h2 rfl rfl ?_
             refine k_yes rfl rfl ?_
             obtain ⟨x19, hx19, hx18⟩ := ob hx18
             refine k_call cal15 rfl (logfile_Log_Records_rn_w  (OLogfileLog.mk_ (⟨(⟨()⟩ : LogfileHeld), ([] : List UInt8), [], (⟨0, 0, (0 : UInt32)⟩ : ApiTail)⟩ : LogfileLog) (by omega) (Own.nil (by first | omega | (dsimp only; omega)) (by first | omega | (dsimp only; omega))) h1) hx19) rfl ?_
             rintro s41 v41_0 st41 ⟨_, rfl, h41_0⟩
             have szs41 := st41.size
             have hS := hS.trans0 st41
             have hE3 := hE3.trans0 st41
             have hE39 := hE39.trans0 st41
             refine k_yes rfl rfl ?_
             refine k_len Tryd.underlying32 rfl (SL.of_R h41_0).hasLen rfl ?_
             refine k_as (v := .int .i64 (x19.length : Int)) (by simp only [List.length_map]) ?_
             refine k_yes rfl rfl ?_
             refine k_neq rfl rfl rfl ?_
             refine k_pickF rfl rfl rfl rfl ?_
             exact k_met ⟨s41, ⟨(congrArg (fun b => some (Value.bool b)) (Option.some.inj hx18)), trivial⟩, ⟨rfl, rfl, rfl, rfl, rfl, rfl, rfl, rfl, rfl, rfl, rfl, rfl, rfl, rfl, rfl, rfl, rfl, rfl, rfl, rfl, rfl, rfl, rfl, rfl, rfl, rfl, rfl, rfl, rfl, rfl, rfl, rfl, rfl, rfl, rfl, rfl, trivial⟩, rfl, hE39⟩
           ·
            rintro s42 wL ⟨rfl, hE39⟩
            have szs42 := hE39.size
            have hS := hS.trans0 hE39
            have hE3 := hE3.trans0 hE39
            replace h33_0 := h33_0.up2 hE39
            replace h1 := h1.up2 hE39
            replace h2 := h2.up2 hE39
            refine k_move rfl rfl ?_
            have hE43 := Step.r0 K0 s42
            refine k_cutl (X := St) 4 [(0, S a0), (1, v1), (2, .int .i64 a2), (6, .bool false), (8, .slice (some ⟨b2, 0, none⟩) 2 2), (9, .int .i64 1), (10, v33_0), (11, .bool x14.2), (19, .int .i64 1), (20, .slice (some ⟨b2, 0, none⟩) 2 2), (21, .int .i64 2), (22, .bool true), (23, .int .i64 0), (24, .int .i64 1), (25, .tuple #[v33_0, .bool x14.2]), (26, .slice (some ⟨b2, 0, none⟩) 2 2), (27, .int .i64 1), (28, .pointer (some ⟨b2, 1, none⟩)), (29, .pointer (some ⟨b1, 0, none⟩)), (30, .int .i64 a2), (31, .tuple #[v33_0, .bool x14.2]), (32, v33_0), (33, .bool x14.2), (34, .slice (some ⟨b2, 0, none⟩) 2 2), (35, .int .i64 1), (36, .pointer (some ⟨b2, 1, none⟩)), (37, .pointer (some ⟨b1, 0, none⟩)), (38, v1), (39, .int .i64 x15), (40, .bool (decide (x15 ≠ 12))), (48, .bool x16), (57, .bool x18), (65, .bool (decide (((x6 = true) ∨ ((x2.1.length : Int) ≠ 0)) ∨ (x2.2 = true)))), (73, .bool x8), (81, .bool x10), (89, .bool x12)] (fun _ => [(62, .bool (decide ((x18 = true) ∨ ((x14.1.length : Int) ≠ 0))))]) (fun sl wL => sl.w = wL ∧ Step K0 s42 sl) ?_ ?_
            ·
             refine k_again 58 rfl ?_
             refine k_splitb (fun c44 => ?_) (fun c44 => ?_)
             ·
              refine k_no rfl rfl rfl rfl ?_
              refine k_no rfl rfl rfl rfl ?_
              refine k_no rfl rfl rfl rfl ?_
              refine k_pickT rfl rfl rfl rfl ?_
              exact k_met ⟨s42, ⟨(congrArg (fun b => some (Value.bool b)) (by first | exact decide_eq_decide.2 ⟨Or.inr, fun h => h.resolve_left c44⟩ | exact (decide_eq_true (Or.inl c44)).symm | (simp [c44]; done) | exact dec_andT c44 | exact dec_andF c44 | exact dec_orF c44 | exact dec_orT c44 | (simp [c44, i64] <;> omega))), trivial⟩, ⟨rfl, rfl, rfl, rfl, rfl, rfl, rfl, rfl, rfl, rfl, rfl, rfl, rfl, rfl, rfl, rfl, rfl, rfl, rfl, rfl, rfl, rfl, rfl, rfl, rfl, rfl, rfl, rfl, rfl, rfl, rfl, rfl, rfl, rfl, rfl, rfl, trivial⟩, rfl, hE43⟩
             ·
              refine k_yes rfl rfl ?_
              refine k_move rfl rfl ?_
              refine k_yes rfl rfl ?_
              refine k_len Tryd.underlying33 rfl (SL.of_R h33_0).hasLen rfl ?_
              refine k_as (v := .int .i64 (x14.1.length : Int)) (by simp only [List.length_map]) ?_
              refine k_yes rfl rfl ?_
              refine k_neq rfl rfl rfl ?_
              refine k_pickF rfl rfl rfl rfl ?_
              exact k_met ⟨s42, ⟨(congrArg (fun b => some (Value.bool b)) (by first | exact decide_eq_decide.2 ⟨Or.inr, fun h => h.resolve_left c44⟩ | exact (decide_eq_true (Or.inl c44)).symm | (simp [c44]; done) | exact dec_andT c44 | exact dec_andF c44 | exact dec_orF c44 | exact dec_orT c44 | (simp [c44, i64] <;> omega))), trivial⟩, ⟨rfl, rfl, rfl, rfl, rfl, rfl, rfl, rfl, rfl, rfl, rfl, rfl, rfl, rfl, rfl, rfl, rfl, rfl, rfl, rfl, rfl, rfl, rfl, rfl, rfl, rfl, rfl, rfl, rfl, rfl, rfl, rfl, rfl, rfl, rfl, rfl, trivial⟩, rfl, hE43⟩
            ·
             rintro s45 wL ⟨rfl, hE43⟩
             have szs45 := hE43.size
             have hS := hS.trans0 hE43
             have hE3 := hE3.trans0 hE43
             replace h1 := h1.up2 hE43
             replace h2 := h2.up2 hE43
             refine k_move rfl rfl ?_
             have hE46 := Step.r0 K0 s45
             refine k_cutl (X := St) 2 [(0, S a0), (1, v1), (2, .int .i64 a2), (6, .bool false), (8, .slice (some ⟨b2, 0, none⟩) 2 2), (9, .int .i64 1), (10, v33_0), (11, .bool x14.2), (19, .int .i64 1), (20, .slice (some ⟨b2, 0, none⟩) 2 2), (21, .int .i64 2), (22, .bool true), (23, .int .i64 0), (24, .int .i64 1), (25, .tuple #[v33_0, .bool x14.2]), (26, .slice (some ⟨b2, 0, none⟩) 2 2), (27, .int .i64 1), (28, .pointer (some ⟨b2, 1, none⟩)), (29, .pointer (some ⟨b1, 0, none⟩)), (30, .int .i64 a2), (31, .tuple #[v33_0, .bool x14.2]), (32, v33_0), (33, .bool x14.2), (34, .slice (some ⟨b2, 0, none⟩) 2 2), (35, .int .i64 1), (36, .pointer (some ⟨b2, 1, none⟩)), (37, .pointer (some ⟨b1, 0, none⟩)), (38, v1), (39, .int .i64 x15), (40, .bool (decide (x15 ≠ 12))), (48, .bool x16), (57, .bool x18), (62, .bool (decide ((x18 = true) ∨ ((x14.1.length : Int) ≠ 0)))), (73, .bool x8), (81, .bool x10), (89, .bool x12)] (fun _ => [(65, .bool (decide (((x18 = true) ∨ ((x14.1.length : Int) ≠ 0)) ∨ (x14.2 = true))))]) (fun sl wL => sl.w = wL ∧ Step K0 s45 sl) ?_ ?_
             ·
              refine k_again 63 rfl ?_
              refine k_split (fun c47 => ?_) (fun c47 => ?_)
              ·
               refine k_no rfl rfl rfl rfl ?_
               refine k_pickT rfl rfl rfl rfl ?_
               exact k_met ⟨s45, ⟨(congrArg (fun b => some (Value.bool b)) (by first | exact decide_eq_decide.2 ⟨Or.inr, fun h => h.resolve_left c47⟩ | exact (decide_eq_true (Or.inl c47)).symm | (simp [c47]; done) | exact dec_andT c47 | exact dec_andF c47 | exact dec_orF c47 | exact dec_orT c47 | (simp [c47, i64] <;> omega))), trivial⟩, ⟨rfl, rfl, rfl, rfl, rfl, rfl, rfl, rfl, rfl, rfl, rfl, rfl, rfl, rfl, rfl, rfl, rfl, rfl, rfl, rfl, rfl, rfl, rfl, rfl, rfl, rfl, rfl, rfl, rfl, rfl, rfl, rfl, rfl, rfl, rfl, rfl, trivial⟩, rfl, hE46⟩
              ·
               refine k_yes rfl rfl ?_
               refine k_move rfl rfl ?_
               refine k_pickF rfl rfl rfl rfl ?_
               exact k_met ⟨s45, ⟨(congrArg (fun b => some (Value.bool b)) (by first | exact decide_eq_decide.2 ⟨Or.inr, fun h => h.resolve_left c47⟩ | exact (decide_eq_true (Or.inl c47)).symm | (simp [c47]; done) | exact dec_andT c47 | exact dec_andF c47 | exact dec_orF c47 | exact dec_orT c47 | (simp [c47, i64] <;> omega))), trivial⟩, ⟨rfl, rfl, rfl, rfl, rfl, rfl, rfl, rfl, rfl, rfl, rfl, rfl, rfl, rfl, rfl, rfl, rfl, rfl, rfl, rfl, rfl, rfl, rfl, rfl, rfl, rfl, rfl, rfl, rfl, rfl, rfl, rfl, rfl, rfl, rfl, rfl, trivial⟩, rfl, hE46⟩
             ·
              rintro s48 wL ⟨rfl, hE46⟩
              have szs48 := hE46.size
              have hS := hS.trans0 hE46
              have hE3 := hE3.trans0 hE46
              replace h1 := h1.up2 hE46
              replace h2 := h2.up2 hE46
              refine k_move rfl rfl ?_
              obtain ⟨x20, hx20, h⟩ := ob h
              have hE49 := Step.r0 K0 s48
              refine k_cutl (X := St) 7 [(0, S a0), (1, v1), (2, .int .i64 a2), (6, .bool false), (8, .slice (some ⟨b2, 0, none⟩) 2 2), (9, .int .i64 1), (10, v33_0), (11, .bool x14.2), (19, .int .i64 1), (20, .slice (some ⟨b2, 0, none⟩) 2 2), (21, .int .i64 2), (22, .bool true), (23, .int .i64 0), (24, .int .i64 1), (25, .tuple #[v33_0, .bool x14.2]), (26, .slice (some ⟨b2, 0, none⟩) 2 2), (27, .int .i64 1), (28, .pointer (some ⟨b2, 1, none⟩)), (29, .pointer (some ⟨b1, 0, none⟩)), (30, .int .i64 a2), (31, .tuple #[v33_0, .bool x14.2]), (32, v33_0), (33, .bool x14.2), (34, .slice (some ⟨b2, 0, none⟩) 2 2), (35, .int .i64 1), (36, .pointer (some ⟨b2, 1, none⟩)), (37, .pointer (some ⟨b1, 0, none⟩)), (38, v1), (39, .int .i64 x15), (40, .bool (decide (x15 ≠ 12))), (48, .bool x16), (57, .bool x18), (62, .bool (decide ((x18 = true) ∨ ((x14.1.length : Int) ≠ 0)))), (65, .bool (decide (((x18 = true) ∨ ((x14.1.length : Int) ≠ 0)) ∨ (x14.2 = true)))), (81, .bool x10), (89, .bool x12)] (fun _ => [(73, .bool x20)]) (fun sl wL => sl.w = wL ∧ Step K0 s48 sl) ?_ ?_
              ·
               refine k_again 66 rfl ?_
               refine k_split (fun c50 => ?_) (fun c50 => ?_)
               ·
                have hx20 := itT hx20 c50
                refine k_no rfl rfl rfl rfl ?_
                refine k_no rfl rfl rfl rfl ?_
                refine k_no rfl rfl rfl rfl ?_
                refine k_no rfl rfl rfl rfl ?_
                refine k_no rfl rfl rfl rfl ?_
                refine k_no rfl rfl rfl rfl ?_
                refine k_pickT rfl rfl rfl rfl ?_
                exact k_met ⟨s48, ⟨(congrArg (fun b => some (Value.bool b)) (Option.some.inj hx20)), trivial⟩, ⟨rfl, rfl, rfl, rfl, rfl, rfl, rfl, rfl, rfl, rfl, rfl, rfl, rfl, rfl, rfl, rfl, rfl, rfl, rfl, rfl, rfl, rfl, rfl, rfl, rfl, rfl, rfl, rfl, rfl, rfl, rfl, rfl, rfl, rfl, rfl, rfl, trivial⟩, rfl, hE49⟩
               ·
                have hx20 := itF hx20 c50
                refine k_yes rfl rfl ?_
                refine k_move rfl rfl ?_
                refine k_yes rfl rfl ?_
                refine k_move rfl rfl ?_
                refine k_yes rfl rfl ?_
                refine k_ixaddr_raw (i := 1) Tryd.underlying54 size29 rfl rfl rfl rfl rfl ?_
                refine k_yes rfl rfl ?_
                refine k_load_blk one29 rfl h2 rfl rfl ?_
                refine k_yes rfl rfl ?_
                obtain ⟨x21, hx21, hx20⟩ := ob hx20
                refine k_call cal20 rfl (logfile_Log_Count_rn_w  (OLogfileLog.mk_ (⟨(⟨()⟩ : LogfileHeld), ([] : List UInt8), [], (⟨0, 0, (0 : UInt32)⟩ : ApiTail)⟩ : LogfileLog) (by omega) (Own.nil (by first | omega | (dsimp only; omega)) (by first | omega | (dsimp only; omega))) h1) hx21) rfl ?_
                rintro s51 vr51 st51 rfl
                have szs51 := st51.size
                have hS := hS.trans0 st51
                have hE3 := hE3.trans0 st51
                have hE49 := hE49.trans0 st51
                refine k_yes rfl rfl ?_
                refine k_neq rfl rfl rfl ?_
                refine k_pickF rfl rfl rfl rfl ?_
                exact k_met ⟨s51, ⟨(congrArg (fun b => some (Value.bool b)) (Option.some.inj hx20)), trivial⟩, ⟨rfl, rfl, rfl, rfl, rfl, rfl, rfl, rfl, rfl, rfl, rfl, rfl, rfl, rfl, rfl, rfl, rfl, rfl, rfl, rfl, rfl, rfl, rfl, rfl, rfl, rfl, rfl, rfl, rfl, rfl, rfl, rfl, rfl, rfl, rfl, rfl, trivial⟩, rfl, hE49⟩
              ·
               rintro s52 wL ⟨rfl, hE49⟩
               have szs52 := hE49.size
               have hS := hS.trans0 hE49
               have hE3 := hE3.trans0 hE49
               replace h1 := h1.up2 hE49
               replace h2 := h2.up2 hE49
               refine k_move rfl rfl ?_
               obtain ⟨x22, hx22, h⟩ := ob h
               have hE53 := Step.r0 K0 s52
               refine k_cutl (X := St) 7 [(0, S a0), (1, v1), (2, .int .i64 a2), (6, .bool false), (8, .slice (some ⟨b2, 0, none⟩) 2 2), (9, .int .i64 1), (10, v33_0), (11, .bool x14.2), (19, .int .i64 1), (20, .slice (some ⟨b2, 0, none⟩) 2 2), (21, .int .i64 2), (22, .bool true), (23, .int .i64 0), (24, .int .i64 1), (25, .tuple #[v33_0, .bool x14.2]), (26, .slice (some ⟨b2, 0, none⟩) 2 2), (27, .int .i64 1), (28, .pointer (some ⟨b2, 1, none⟩)), (29, .pointer (some ⟨b1, 0, none⟩)), (30, .int .i64 a2), (31, .tuple #[v33_0, .bool x14.2]), (32, v33_0), (33, .bool x14.2), (34, .slice (some ⟨b2, 0, none⟩) 2 2), (35, .int .i64 1), (36, .pointer (some ⟨b2, 1, none⟩)), (37, .pointer (some ⟨b1, 0, none⟩)), (38, v1), (39, .int .i64 x15), (40, .bool (decide (x15 ≠ 12))), (48, .bool x16), (57, .bool x18), (62, .bool (decide ((x18 = true) ∨ ((x14.1.length : Int) ≠ 0)))), (65, .bool (decide (((x18 = true) ∨ ((x14.1.length : Int) ≠ 0)) ∨ (x14.2 = true)))), (73, .bool x20), (89, .bool x12)] (fun _ => [(81, .bool x22)]) (fun sl wL => sl.w = wL ∧ Step K0 s52 sl) ?_ ?_
               ·
                refine k_again 74 rfl ?_
                refine k_splitb (fun c54 => ?_) (fun c54 => ?_)
                ·
                 have hx22 := ibT hx22 c54
                 refine k_no rfl rfl rfl rfl ?_
                 refine k_no rfl rfl rfl rfl ?_
                 refine k_no rfl rfl rfl rfl ?_
                 refine k_no rfl rfl rfl rfl ?_
                 refine k_no rfl rfl rfl rfl ?_
                 refine k_no rfl rfl rfl rfl ?_
                 refine k_pickT rfl rfl rfl rfl ?_
                 exact k_met ⟨s52, ⟨(congrArg (fun b => some (Value.bool b)) (Option.some.inj hx22)), trivial⟩, ⟨rfl, rfl, rfl, rfl, rfl, rfl, rfl, rfl, rfl, rfl, rfl, rfl, rfl, rfl, rfl, rfl, rfl, rfl, rfl, rfl, rfl, rfl, rfl, rfl, rfl, rfl, rfl, rfl, rfl, rfl, rfl, rfl, rfl, rfl, rfl, rfl, trivial⟩, rfl, hE53⟩
                ·
                 have hx22 := ibF hx22 c54
                 refine k_yes rfl rfl ?_
                 refine k_move rfl rfl ?_
                 refine k_yes rfl rfl ?_
                 refine k_move rfl rfl ?_
                 refine k_yes rfl rfl ?_
                 refine k_ixaddr_raw (i := 1) Tryd.underlying54 size29 rfl rfl rfl rfl rfl ?_
                 refine k_yes rfl rfl ?_
                 refine k_load_blk one29 rfl h2 rfl rfl ?_
                 refine k_yes rfl rfl ?_
                 obtain ⟨x23, hx23, hx22⟩ := ob hx22
                 refine k_call cal18 rfl (logfile_Log_Size_rn_w  (OLogfileLog.mk_ (⟨(⟨()⟩ : LogfileHeld), ([] : List UInt8), [], (⟨0, 0, (0 : UInt32)⟩ : ApiTail)⟩ : LogfileLog) (by omega) (Own.nil (by first | omega | (dsimp only; omega)) (by first | omega | (dsimp only; omega))) h1) hx23) rfl ?_
                 rintro s55 vr55 st55 rfl
                 have szs55 := st55.size
                 have hS := hS.trans0 st55
                 have hE3 := hE3.trans0 st55
                 have hE53 := hE53.trans0 st55
                 refine k_yes rfl rfl ?_
                 refine k_neq rfl rfl rfl ?_
                 refine k_pickF rfl rfl rfl rfl ?_
                 exact k_met ⟨s55, ⟨(congrArg (fun b => some (Value.bool b)) (Option.some.inj hx22)), trivial⟩, ⟨rfl, rfl, rfl, rfl, rfl, rfl, rfl, rfl, rfl, rfl, rfl, rfl, rfl, rfl, rfl, rfl, rfl, rfl, rfl, rfl, rfl, rfl, rfl, rfl, rfl, rfl, rfl, rfl, rfl, rfl, rfl, rfl, rfl, rfl, rfl, rfl, trivial⟩, rfl, hE53⟩
               ·
                rintro s56 wL ⟨rfl, hE53⟩
                have szs56 := hE53.size
                have hS := hS.trans0 hE53
                have hE3 := hE3.trans0 hE53
                replace h1 := h1.up2 hE53
                replace h2 := h2.up2 hE53
                refine k_move rfl rfl ?_
                obtain ⟨x24, hx24, h⟩ := ob h
                have hE57 := Step.r0 K0 s56
                refine k_cutl (X := St) 7 [(0, S a0), (1, v1), (2, .int .i64 a2), (6, .bool false), (8, .slice (some ⟨b2, 0, none⟩) 2 2), (9, .int .i64 1), (10, v33_0), (11, .bool x14.2), (19, .int .i64 1), (20, .slice (some ⟨b2, 0, none⟩) 2 2), (21, .int .i64 2), (22, .bool true), (23, .int .i64 0), (24, .int .i64 1), (25, .tuple #[v33_0, .bool x14.2]), (26, .slice (some ⟨b2, 0, none⟩) 2 2), (27, .int .i64 1), (28, .pointer (some ⟨b2, 1, none⟩)), (29, .pointer (some ⟨b1, 0, none⟩)), (30, .int .i64 a2), (31, .tuple #[v33_0, .bool x14.2]), (32, v33_0), (33, .bool x14.2), (34, .slice (some ⟨b2, 0, none⟩) 2 2), (35, .int .i64 1), (36, .pointer (some ⟨b2, 1, none⟩)), (37, .pointer (some ⟨b1, 0, none⟩)), (38, v1), (39, .int .i64 x15), (40, .bool (decide (x15 ≠ 12))), (48, .bool x16), (57, .bool x18), (62, .bool (decide ((x18 = true) ∨ ((x14.1.length : Int) ≠ 0)))), (65, .bool (decide (((x18 = true) ∨ ((x14.1.length : Int) ≠ 0)) ∨ (x14.2 = true)))), (73, .bool x20), (81, .bool x22)] (fun _ => [(89, .bool x24)]) (fun sl wL => sl.w = wL ∧ Step K0 s56 sl) ?_ ?_
                ·
                 refine k_again 82 rfl ?_
                 refine k_splitb (fun c58 => ?_) (fun c58 => ?_)
                 ·
                  have hx24 := ibT hx24 c58
                  refine k_no rfl rfl rfl rfl ?_
                  refine k_no rfl rfl rfl rfl ?_
                  refine k_no rfl rfl rfl rfl ?_
                  refine k_no rfl rfl rfl rfl ?_
                  refine k_no rfl rfl rfl rfl ?_
                  refine k_no rfl rfl rfl rfl ?_
                  refine k_pickT rfl rfl rfl rfl ?_
                  exact k_met ⟨s56, ⟨(congrArg (fun b => some (Value.bool b)) (Option.some.inj hx24)), trivial⟩, ⟨rfl, rfl, rfl, rfl, rfl, rfl, rfl, rfl, rfl, rfl, rfl, rfl, rfl, rfl, rfl, rfl, rfl, rfl, rfl, rfl, rfl, rfl, rfl, rfl, rfl, rfl, rfl, rfl, rfl, rfl, rfl, rfl, rfl, rfl, rfl, rfl, trivial⟩, rfl, hE57⟩
                 ·
                  have hx24 := ibF hx24 c58
                  refine k_yes rfl rfl ?_
                  refine k_move rfl rfl ?_
                  refine k_yes rfl rfl ?_
                  refine k_move rfl rfl ?_
                  refine k_yes rfl rfl ?_
                  refine k_ixaddr_raw (i := 1) Tryd.underlying54 size29 rfl rfl rfl rfl rfl ?_
                  refine k_yes rfl rfl ?_
                  refine k_load_blk one29 rfl h2 rfl rfl ?_
                  refine k_yes rfl rfl ?_
                  obtain ⟨x25, hx25, hx24⟩ := ob hx24
                  refine k_call cal21 rfl (logfile_Log_Name_rn_w  (OLogfileLog.mk_ (⟨(⟨()⟩ : LogfileHeld), ([] : List UInt8), [], (⟨0, 0, (0 : UInt32)⟩ : ApiTail)⟩ : LogfileLog) (by omega) (Own.nil (by first | omega | (dsimp only; omega)) (by first | omega | (dsimp only; omega))) h1) hx25) rfl ?_
                  rintro s59 vr59 st59 rfl
                  have szs59 := st59.size
                  have hS := hS.trans0 st59
                  have hE3 := hE3.trans0 st59
                  have hE57 := hE57.trans0 st59
                  refine k_yes rfl rfl ?_
                  refine k_neq_str rfl rfl rfl ?_
                  refine k_pickF rfl rfl rfl rfl ?_
                  exact k_met ⟨s59, ⟨(congrArg (fun b => some (Value.bool b)) (Option.some.inj hx24)), trivial⟩, ⟨rfl, rfl, rfl, rfl, rfl, rfl, rfl, rfl, rfl, rfl, rfl, rfl, rfl, rfl, rfl, rfl, rfl, rfl, rfl, rfl, rfl, rfl, rfl, rfl, rfl, rfl, rfl, rfl, rfl, rfl, rfl, rfl, rfl, rfl, rfl, rfl, trivial⟩, rfl, hE57⟩
                ·
                 rintro s60 wL ⟨rfl, hE57⟩
                 have szs60 := hE57.size
                 have hS := hS.trans0 hE57
                 have hE3 := hE3.trans0 hE57
                 refine k_nil ?_
                 refine k_cond rfl (fun c61 => ?_) (fun c61 => ?_)
                 ·
                  have h := ibT h c61
                  refine k_seq ?_
                  refine k_region ?_
                  refine k_assign rfl rfl ?_
                  refine k_nil ?_
                  refine k_ret ?_
                  obtain rfl := Option.some.inj h
                  refine ⟨_, rfl, Ret.mk hS ?_⟩
                  exact rfl
                 ·
                  have h := ibF h c61
                  refine k_skip ?_
                  refine k_blk ?_
                  refine k_region ?_
                  refine k_move rfl rfl ?_
                  refine k_add rfl rfl rfl ?_
                  refine k_as (v := .int .i64 2) (by first | rfl | decide) ?_
                  refine k_assign rfl rfl ?_
                  refine k_nil ?_
                  refine k_stopr ?_
                  refine k_round ?_
                  refine k_seq ?_
                  refine k_seq ?_
                  refine k_region ?_
                  refine k_move rfl rfl ?_
                  refine k_move rfl rfl ?_
                  refine k_len Tryd.underlying54 rfl ⟨_, _, rfl⟩ rfl ?_
                  refine k_lss rfl rfl rfl ?_
                  refine k_as (v := .bool false) rfl ?_
                  refine k_nil ?_
                  refine k_cond_false rfl ?_
                  refine k_exit rfl ?_
                  exact k_stop ⟨s60, trivial, ⟨rfl, rfl, trivial⟩, ⟨rfl, hE3, h⟩⟩
 ·
  rintro s62 wL ⟨rfl, hE3, h⟩
  rw [hK3] at h
  have szs62 := hE3.size
  have hS := hS.trans0 hE3
  refine k_seq ?_
  refine k_region ?_
  refine k_assign rfl rfl ?_
  refine k_nil ?_
  refine k_seq ?_
  refine k_region ?_
  refine k_move rfl rfl ?_
  refine k_move rfl rfl ?_
  obtain ⟨x26, hx26, h⟩ := ob h
  refine k_call cal9 rfl (logfile_Open_nil_w   hx26) rfl ?_
  rintro s63 vr63 st63 ⟨ku63_0, v63_0, rfl, hk63_0, h63_0⟩
  have szs63 := st63.size
  have hS := hS.trans0 st63
  have ol63_0 := OptOLogfileLog.le (k := ku63_0) h63_0
  refine k_move rfl rfl ?_
  refine k_extract rfl rfl rfl ?_
  refine k_extract rfl rfl rfl ?_
  refine k_assign rfl rfl ?_
  refine k_assign rfl rfl ?_
  refine k_nil ?_
  refine k_keep [(6, _), (13, _), (14, _)] ⟨rfl, rfl, rfl, trivial⟩ ?_
  refine k_seq ?_
  refine k_region ?_
  refine k_move rfl rfl ?_
  rcases oc_out h with ⟨ho_64, h⟩ | ⟨x27, ho_64, h⟩
  ·
   rw [ho_64] at h63_0
   obtain rfl : v63_0 = .pointer none := h63_0
   refine k_eql_pnil Tryd.underlying29 rfl rfl rfl ?_
   refine k_move rfl rfl ?_
   refine k_yes rfl rfl ?_
   refine k_move rfl rfl ?_
   refine k_yes rfl rfl ?_
   refine k_eql rfl rfl rfl ?_
   refine k_pickT rfl rfl rfl rfl ?_
   refine k_move rfl rfl ?_
   obtain ⟨x28, hx28, h⟩ := ob h
   have hE65 := Step.r0 K0 s63
   refine k_cutl (X := St) 2 [(6, .bool false), (13, .pointer none), (14, .int .i64 x26.2), (96, .pointer none), (97, .bool true), (98, .bool true), (99, .int .i64 x26.2), (100, .bool (decide (x26.2 = 12))), (101, .bool (decide (x26.2 = 12)))] (fun _ => [(104, .bool x28)]) (fun sl wL => sl.w = wL ∧ Step K0 s63 sl) ?_ ?_
   ·
    refine k_again 102 rfl ?_
    refine k_split (fun c66 => ?_) (fun c66 => ?_)
    ·
     have hx28 := itT hx28 c66
     refine k_yes rfl rfl ?_
     obtain ⟨x29, hx29, hx28⟩ := ob hx28
     refine k_call cal8 rfl (law11_awake_w   hx29) rfl ?_
     rintro s67 vr67 st67 rfl
     have szs67 := st67.size
     have hS := hS.trans0 st67
     have hE65 := hE65.trans0 st67
     refine k_pickT rfl rfl rfl rfl ?_
     exact k_met ⟨s67, ⟨(congrArg (fun b => some (Value.bool b)) (Option.some.inj hx28)), trivial⟩, ⟨rfl, rfl, rfl, rfl, rfl, rfl, rfl, rfl, rfl, trivial⟩, rfl, hE65⟩
    ·
     have hx28 := itF hx28 c66
     refine k_no rfl rfl rfl rfl ?_
     refine k_pickF rfl rfl rfl rfl ?_
     exact k_met ⟨s63, ⟨(congrArg (fun b => some (Value.bool b)) (Option.some.inj hx28)), trivial⟩, ⟨rfl, rfl, rfl, rfl, rfl, rfl, rfl, rfl, rfl, trivial⟩, rfl, hE65⟩
   ·
    rintro s68 wL ⟨rfl, hE65⟩
    have szs68 := hE65.size
    have hS := hS.trans0 hE65
    refine k_assign rfl rfl ?_
    refine k_nil ?_
    refine k_keep [(6, _)] ⟨rfl, trivial⟩ ?_
    refine k_ret ?_
    obtain rfl := Option.some.inj h
    refine ⟨_, rfl, Ret.mk hS ?_⟩
    exact rfl
  ·
   rw [ho_64] at h63_0
   replace h63_0 : OLogfileLog (.pointer none) s63 ku63_0 v63_0 x27 := h63_0
   replace ol63_0 := ol63_0.resolve_left (fun e => by rw [e] at ho_64; cases ho_64)
   have le64 := h63_0.le
   have ne64 := h63_0.ne
   obtain ⟨pb69, rfl⟩ := h63_0.ptr
   refine k_eql_pnil Tryd.underlying29 rfl rfl rfl ?_
   refine k_move rfl rfl ?_
   refine k_no rfl rfl rfl rfl ?_
   refine k_no rfl rfl rfl rfl ?_
   refine k_pickF rfl rfl rfl rfl ?_
   refine k_move rfl rfl ?_
   refine k_no rfl rfl rfl rfl ?_
   refine k_pickF rfl rfl rfl rfl ?_
   refine k_assign rfl rfl ?_
   refine k_nil ?_
   refine k_keep [(6, _)] ⟨rfl, trivial⟩ ?_
   refine k_ret ?_
   obtain rfl := Option.some.inj h
   refine ⟨_, rfl, Ret.mk hS ?_⟩
   exact rfl
end Go.Proofs
