import Derived.Test.YtcjcpmfnolhclaaDoorW11DLogfileLasts0
set_option linter.unusedSimpArgs false
set_option linter.unusedVariables false
namespace Go.Proofs
open Go.Fw
set_option maxHeartbeats 1000000 in
set_option maxRecDepth 100000 in
theorem disk_Disk_does_w {s : St} {k0 : Nat} {p0 : Value} {a0 : DiskDisk} {v1 : Value} {a1 : DiskCall} {r : (Int × DiskDisk)} (ho0 : ODiskDisk s k0 p0 a0) (hp1 : R s v1 (dDiskCall a1)) (h : disk_Disk_does a0 a1 = some r) : Calls Tryd.prog 45 #[p0, v1] s.w (Ret s (KO k0) (fun s1 v => v = .int .i64 r.1 ∧ ODiskDisk s1 k0 p0 r.2)) := by
 unfold disk_Disk_does at h
 have le0 := ho0.le
 have ne0 := ho0.ne
 obtain ⟨bo0, rfl⟩ := ho0.ptr
 obtain ⟨wo0_0, wo0_1, hb_o0, hwo0_0, hwo0_1⟩ := ho0.at_
 have hS := Step.r0 (KO k0) s
 refine k_fn (rs := [4]) (args := [.pointer (some ⟨bo0, 0, none⟩), v1]) Tryd.func45 rfl rfl rfl rfl ?_
 refine k_seq ?_
 refine k_region ?_
 refine k_assign rfl rfl ?_
 refine k_nil ?_
 refine k_seq ?_
 refine k_drawT (KN s.n) 6 (.read 0 (.read 1 (.read 3 (.read 4 (.read 5 (.alt 2 .fin .no)))))) mixed (by intro c h; (try simp only [KC, KO, KU, KN, KB] at h) <;> omega) rfl rfl rfl ?_
 intro s1 st1
 have szs1 := st1.size
 have hS := hS.trans0 st1
 replace hp1 := hp1.up2 st1
 replace hwo0_0 := hwo0_0.up2 st1
 replace hwo0_1 := hwo0_1.up2 st1
 replace hb_o0 := hb_o0.up2 st1
 refine rt_read (v1) rfl rfl (fun s2 st2 => ?_) ?_
 ·refine k_move rfl rfl ?_
  exact fq_end
 refine rt_read (.pointer (some ⟨bo0, 0, none⟩)) rfl rfl (fun s3 st3 => ?_) ?_
 ·refine k_move rfl rfl ?_
  exact fq_end
 refine rt_read (.func (.method "tidewrack/disk.next") #[v1] #[]) rfl rfl (fun s4 st4 => ?_) ?_
 ·refine k_methodValue rfl rfl ?_
  exact fq_end
 refine rt_read (.func (.method "tidewrack/disk.next") #[v1] #[]) rfl rfl (fun s5 st5 => ?_) ?_
 ·try replace hp1 := hp1.up2 st5
  refine k_nilCheck_methv (nil_DiskCall_next hp1) rfl rfl ?_
  exact fq_end
 refine rt_read (v1) rfl rfl (fun s6 st6 => ?_) ?_
 ·refine k_move rfl rfl ?_
  exact fq_end
 refine rt_act rfl rfl ?_
 have hA7 := Step.r0 (KN s.n) s1
 obtain ⟨x1, hx1, h⟩ := ob h
 refine k_call cal38 rfl (disk_Disk_seen_w  (ODiskDisk.mk_ a0 (by omega) hwo0_0 hwo0_1 hb_o0) hx1) rfl ?_
 rintro s8 v8_0 st8 ⟨_, rfl, h8_0⟩
 have szs8 := st8.size
 have hS := hS.trans0 st8
 have hA7 := hA7.trans0 st8
 replace hp1 := hp1.up2 st8
 replace hwo0_0 := hwo0_0.up2 st8
 replace hwo0_1 := hwo0_1.up2 st8
 replace hb_o0 := hb_o0.up2 st8
 refine rt_cont hA7 ?_
 refine rt_fin ?_
 obtain ⟨x2, hx2, h⟩ := ob h
 refine k_invoke rfl rfl (DiskCall_next_w  (show R s8 v1 (dDiskCall a1) from hp1) (show R s8 v8_0 (.sl 2 (x1.map dDiskFile)) from h8_0) hx2) rfl ?_
 rintro s9 v9_0 st9 ⟨_, rfl, h9_0⟩
 have szs9 := st9.size
 have hS := hS.trans0 st9
 replace hp1 := hp1.up2 st9
 replace hwo0_0 := hwo0_0.up2 st9
 replace hwo0_1 := hwo0_1.up2 st9
 replace hb_o0 := hb_o0.up2 st9
 refine k_assign rfl rfl ?_
 refine k_nil ?_
 refine k_keep [(0, _), (1, _), (4, _), (5, _)] ⟨rfl, rfl, rfl, rfl, trivial⟩ ?_
 refine k_seq ?_
 refine k_seq ?_
 refine k_drawT (KN s9.n) 6 (.read 0 (.read 2 (.read 3 (.read 4 (.read 5 (.alt 1 .fin .no)))))) mixed (by intro c h; (try simp only [KC, KO, KU, KN, KB] at h) <;> omega) rfl rfl rfl ?_
 intro s10 st10
 have szs10 := st10.size
 have hS := hS.trans0 st10
 replace hp1 := hp1.up2 st10
 replace h9_0 := h9_0.up2 st10
 replace hwo0_0 := hwo0_0.up2 st10
 replace hwo0_1 := hwo0_1.up2 st10
 replace hb_o0 := hb_o0.up2 st10
 refine rt_read (v9_0) rfl rfl (fun s11 st11 => ?_) ?_
 ·refine k_move rfl rfl ?_
  exact fq_end
 refine rt_read (.pointer (some ⟨bo0, 0, none⟩)) rfl rfl (fun s12 st12 => ?_) ?_
 ·refine k_move rfl rfl ?_
  exact fq_end
 refine rt_read (.pointer (some ⟨bo0, 0, none⟩)) rfl rfl (fun s13 st13 => ?_) ?_
 ·refine k_nilCheck rfl rfl ?_
  exact fq_end
 refine rt_read (.pointer (some ⟨bo0, 0, none⟩)) rfl rfl (fun s14 st14 => ?_) ?_
 ·refine k_field_addr fld64_0 rfl rfl ?_
  exact fq_end
 refine rt_read (.int .i64 a0.capacity) rfl rfl (fun s15 st15 => ?_) ?_
 ·try replace hb_o0 := hb_o0.up2 st15
  refine k_load_blk one3 rfl hb_o0 rfl rfl ?_
  exact fq_end
 refine rt_act rfl rfl ?_
 have hA16 := Step.r0 (KN s9.n) s10
 obtain ⟨x3, hx3, h⟩ := ob h
 refine k_call cal40 rfl (disk_picture_size_w  (show R s10 v9_0 (.sl 2 (x2.map dDiskFile)) from h9_0) hx3) rfl ?_
 rintro s17 vr17 st17 rfl
 have szs17 := st17.size
 have hS := hS.trans0 st17
 have hA16 := hA16.trans0 st17
 replace hp1 := hp1.up2 st17
 replace h9_0 := h9_0.up2 st17
 replace hwo0_0 := hwo0_0.up2 st17
 replace hwo0_1 := hwo0_1.up2 st17
 replace hb_o0 := hb_o0.up2 st17
 refine rt_cont hA16 ?_
 refine rt_fin ?_
 refine k_gtr rfl rfl rfl ?_
 refine k_nil ?_
 refine k_keep [(0, _), (1, _), (4, _), (5, _), (19, _)] ⟨rfl, rfl, rfl, rfl, rfl, trivial⟩ ?_
 refine k_cond_dec rfl (fun c18 => ?_) (fun c18 => ?_)
 ·
  have h := itT h c18
  refine k_seq ?_
  refine k_region ?_
  refine k_assign rfl rfl ?_
  refine k_nil ?_
  refine k_keep [(0, _), (1, _), (4, _), (5, _)] ⟨rfl, rfl, rfl, rfl, trivial⟩ ?_
  refine k_ret ?_
  obtain rfl := Option.some.inj h
  refine ⟨_, rfl, Ret.mk hS ?_⟩
  exact ⟨rfl, (ODiskDisk.mk_ a0 (by omega) hwo0_0 hwo0_1 hb_o0)⟩
 ·
  have h := itF h c18
  refine k_skip ?_
  refine k_seq ?_
  refine k_keep [(0, _), (1, _), (4, _), (5, _)] ⟨rfl, rfl, rfl, rfl, trivial⟩ ?_
  obtain ⟨x4, hx4, h⟩ := ob h
  obtain ⟨x5, hx5, h⟩ := ob h
  refine k_drawT (KU (KN s17.n) (KU (KC k0 5) (KU (KC k0 6) (KC k0 0)))) 19 (.read 0 (.read 1 (.read 2 (.read 3 (.read 4 (.read 6 (.read 9 (.read 10 (.read 11 (.read 13 (.alt 5 (.alt 7 (.alt 8 (.alt 12 (.alt 14 (.alt 15 (.read 16 (.read 17 (.alt 18 .fin .no))) .no) .no) (.alt 14 (.alt 12 (.alt 15 (.read 16 (.read 17 (.alt 18 .fin .no))) .no) .no) .no)) (.alt 12 (.alt 8 (.alt 14 (.alt 15 (.read 16 (.read 17 (.alt 18 .fin .no))) .no) .no) (.alt 14 (.alt 8 (.alt 15 (.read 16 (.read 17 (.alt 18 .fin .no))) .no) .no) .no)) (.alt 14 (.alt 8 (.alt 12 (.alt 15 (.read 16 (.read 17 (.alt 18 .fin .no))) .no) .no) (.alt 12 (.alt 8 (.alt 15 (.read 16 (.read 17 (.alt 18 .fin .no))) .no) .no) .no)) .no))) (.alt 12 (.alt 7 (.alt 8 (.alt 14 (.alt 15 (.read 16 (.read 17 (.alt 18 .fin .no))) .no) .no) (.alt 14 (.alt 8 (.alt 15 (.read 16 (.read 17 (.alt 18 .fin .no))) .no) .no) .no)) (.alt 14 (.alt 7 (.alt 8 (.alt 15 (.read 16 (.read 17 (.alt 18 .fin .no))) .no) .no) .no) .no)) (.alt 14 (.alt 7 (.alt 8 (.alt 12 (.alt 15 (.read 16 (.read 17 (.alt 18 .fin .no))) .no) .no) (.alt 12 (.alt 8 (.alt 15 (.read 16 (.read 17 (.alt 18 .fin .no))) .no) .no) .no)) (.alt 12 (.alt 7 (.alt 8 (.alt 15 (.read 16 (.read 17 (.alt 18 .fin .no))) .no) .no) .no) .no)) .no))) (.alt 7 (.alt 5 (.alt 8 (.alt 12 (.alt 14 (.alt 15 (.read 16 (.read 17 (.alt 18 .fin .no))) .no) .no) (.alt 14 (.alt 12 (.alt 15 (.read 16 (.read 17 (.alt 18 .fin .no))) .no) .no) .no)) (.alt 12 (.alt 8 (.alt 14 (.alt 15 (.read 16 (.read 17 (.alt 18 .fin .no))) .no) .no) (.alt 14 (.alt 8 (.alt 15 (.read 16 (.read 17 (.alt 18 .fin .no))) .no) .no) .no)) (.alt 14 (.alt 8 (.alt 12 (.alt 15 (.read 16 (.read 17 (.alt 18 .fin .no))) .no) .no) (.alt 12 (.alt 8 (.alt 15 (.read 16 (.read 17 (.alt 18 .fin .no))) .no) .no) .no)) .no))) (.alt 12 (.alt 5 (.alt 8 (.alt 14 (.alt 15 (.read 16 (.read 17 (.alt 18 .fin .no))) .no) .no) (.alt 14 (.alt 8 (.alt 15 (.read 16 (.read 17 (.alt 18 .fin .no))) .no) .no) .no)) (.alt 14 (.alt 5 (.alt 8 (.alt 15 (.read 16 (.read 17 (.alt 18 .fin .no))) .no) .no) .no) .no)) (.alt 14 (.alt 5 (.alt 8 (.alt 12 (.alt 15 (.read 16 (.read 17 (.alt 18 .fin .no))) .no) .no) (.alt 12 (.alt 8 (.alt 15 (.read 16 (.read 17 (.alt 18 .fin .no))) .no) .no) .no)) (.alt 12 (.alt 5 (.alt 8 (.alt 15 (.read 16 (.read 17 (.alt 18 .fin .no))) .no) .no) .no) .no)) .no))) (.alt 12 (.alt 5 (.alt 7 (.alt 8 (.alt 14 (.alt 15 (.read 16 (.read 17 (.alt 18 .fin .no))) .no) .no) (.alt 14 (.alt 8 (.alt 15 (.read 16 (.read 17 (.alt 18 .fin .no))) .no) .no) .no)) (.alt 14 (.alt 7 (.alt 8 (.alt 15 (.read 16 (.read 17 (.alt 18 .fin .no))) .no) .no) .no) .no)) (.alt 7 (.alt 5 (.alt 8 (.alt 14 (.alt 15 (.read 16 (.read 17 (.alt 18 .fin .no))) .no) .no) (.alt 14 (.alt 8 (.alt 15 (.read 16 (.read 17 (.alt 18 .fin .no))) .no) .no) .no)) (.alt 14 (.alt 5 (.alt 8 (.alt 15 (.read 16 (.read 17 (.alt 18 .fin .no))) .no) .no) .no) .no)) (.alt 14 (.alt 5 (.alt 7 (.alt 8 (.alt 15 (.read 16 (.read 17 (.alt 18 .fin .no))) .no) .no) .no) (.alt 7 (.alt 5 (.alt 8 (.alt 15 (.read 16 (.read 17 (.alt 18 .fin .no))) .no) .no) .no) .no)) .no))) (.alt 14 (.alt 5 (.alt 7 (.alt 8 (.alt 12 (.alt 15 (.read 16 (.read 17 (.alt 18 .fin .no))) .no) .no) (.alt 12 (.alt 8 (.alt 15 (.read 16 (.read 17 (.alt 18 .fin .no))) .no) .no) .no)) (.alt 12 (.alt 7 (.alt 8 (.alt 15 (.read 16 (.read 17 (.alt 18 .fin .no))) .no) .no) .no) .no)) (.alt 7 (.alt 5 (.alt 8 (.alt 12 (.alt 15 (.read 16 (.read 17 (.alt 18 .fin .no))) .no) .no) (.alt 12 (.alt 8 (.alt 15 (.read 16 (.read 17 (.alt 18 .fin .no))) .no) .no) .no)) (.alt 12 (.alt 5 (.alt 8 (.alt 15 (.read 16 (.read 17 (.alt 18 .fin .no))) .no) .no) .no) .no)) (.alt 12 (.alt 5 (.alt 7 (.alt 8 (.alt 15 (.read 16 (.read 17 (.alt 18 .fin .no))) .no) .no) .no) (.alt 7 (.alt 5 (.alt 8 (.alt 15 (.read 16 (.read 17 (.alt 18 .fin .no))) .no) .no) .no) .no)) .no))) .no)))))))))))))) mixed (by intro c h; (try simp only [KC, KO, KU, KN, KB] at h) <;> omega) rfl rfl rfl ?_
  intro s19 st19
  have szs19 := st19.size
  have hS := hS.trans0 st19
  replace hp1 := hp1.up2 st19
  replace h9_0 := h9_0.up2 st19
  replace hwo0_0 := hwo0_0.up2 st19
  replace hwo0_1 := hwo0_1.up2 st19
  replace hb_o0 := hb_o0.up2 st19
  refine rt_read (.pointer (some ⟨bo0, 0, none⟩)) rfl rfl (fun s20 st20 => ?_) ?_
  ·refine k_move rfl rfl ?_
   exact fq_end
  refine rt_read (.pointer (some ⟨bo0, 0, none⟩)) rfl rfl (fun s21 st21 => ?_) ?_
  ·refine k_move rfl rfl ?_
   exact fq_end
  refine rt_read (.pointer (some ⟨bo0, 0, none⟩)) rfl rfl (fun s22 st22 => ?_) ?_
  ·refine k_move rfl rfl ?_
   exact fq_end
  refine rt_read (.pointer (some ⟨bo0, 0, none⟩)) rfl rfl (fun s23 st23 => ?_) ?_
  ·refine k_nilCheck rfl rfl ?_
   exact fq_end
  refine rt_read (.pointer (some ⟨bo0, 3, none⟩)) rfl rfl (fun s24 st24 => ?_) ?_
  ·refine k_field_addr fld64_3 rfl rfl ?_
   exact fq_end
  refine rt_read (v9_0) rfl rfl (fun s25 st25 => ?_) ?_
  ·refine k_move rfl rfl ?_
   exact fq_end
  refine rt_read (.pointer (some ⟨bo0, 0, none⟩)) rfl rfl (fun s26 st26 => ?_) ?_
  ·refine k_move rfl rfl ?_
   exact fq_end
  refine rt_read (.pointer (some ⟨bo0, 0, none⟩)) rfl rfl (fun s27 st27 => ?_) ?_
  ·refine k_nilCheck rfl rfl ?_
   exact fq_end
  refine rt_read (.pointer (some ⟨bo0, 4, none⟩)) rfl rfl (fun s28 st28 => ?_) ?_
  ·refine k_field_addr fld64_4 rfl rfl ?_
   exact fq_end
  refine rt_read (v1) rfl rfl (fun s29 st29 => ?_) ?_
  ·refine k_move rfl rfl ?_
   exact fq_end
  refine rt_alt rfl rfl ?_ ?_
  ·
   have hA30 := Step.r0 (KU (KN s17.n) (KU (KC k0 5) (KU (KC k0 6) (KC k0 0)))) s19
   refine k_load_blk one59 rfl hb_o0 rfl rfl ?_
   refine rt_cont hA30 ?_
   refine rt_alt rfl rfl ?_ ?_
   ·
    have hA31 := Step.r0 (KU (KN s17.n) (KU (KC k0 5) (KU (KC k0 6) (KC k0 0)))) s19
    refine k_bslice2 (ds := ([x2] : List (List DiskFile)).map (dL 2 dDiskFile)) slc59 rfl (RVs.cons h9_0 RVs.nil) (by rfl) (by rfl) rfl rfl ?_
    intro s32 v32 b32 st32 ge32 bl32 h32
    have szs32 := st32.size
    have hS := hS.trans0 st32
    have hA31 := hA31.trans0 st32
    replace hp1 := hp1.up2 st32
    replace hwo0_0 := hwo0_0.up2 st32
    replace hwo0_1 := hwo0_1.up2 st32
    replace hb_o0 := hb_o0.up2 st32
    have lt32 := Own.le1 h32
    refine rt_cont hA31 ?_
    refine rt_alt rfl rfl ?_ ?_
    ·
     have hA33 := Step.r0 (KU (KN s17.n) (KU (KC k0 5) (KU (KC k0 6) (KC k0 0)))) s32
     refine k_append (es := ([x2] : List (List DiskFile)).map (dL 2 dDiskFile)) elem59 rfl rfl hwo0_0 (h32.sl) (by have := (app_out hx4).1; simp only [List.length_map] at *; omega) (by have := (app_out hx4).1; simp only [List.length_map] at *; omega) rfl ?_
     intro s34 v34 st34 h34
     rw [← List.map_append, ← (app_out hx4).2] at h34
     have szs34 := st34.size
     have hS := hS.c0 st34
     have hA33 := hA33.c0 st34
     replace hp1 := hp1.up2 st34
     replace hwo0_1 := hwo0_1.up2 st34
     replace hb_o0 := hb_o0.up2 st34
     refine rt_cont hA33 ?_
     refine rt_alt rfl rfl ?_ ?_
     ·
      have hA35 := Step.r0 (KU (KN s17.n) (KU (KC k0 5) (KU (KC k0 6) (KC k0 0)))) s34
      refine k_load_blk one60 rfl hb_o0 rfl rfl ?_
      refine rt_cont hA35 ?_
      refine rt_act rfl rfl ?_
      have hA36 := Step.r0 (KU (KN s17.n) (KU (KC k0 5) (KU (KC k0 6) (KC k0 0)))) s34
      refine k_bslice2 (ds := ([a1] : List DiskCall).map dDiskCall) slc60 rfl (RVs.cons hp1 RVs.nil) (by rfl) (by simp [dDiskCall_wd]) rfl rfl ?_
      intro s37 v37 b37 st37 ge37 bl37 h37
      have szs37 := st37.size
      have hS := hS.trans0 st37
      have hA36 := hA36.trans0 st37
      replace hwo0_1 := hwo0_1.up2 st37
      replace hb_o0 := hb_o0.up2 st37
      replace h34 := h34.up2 st37
      have lt37 := Own.le1 h37
      refine rt_cont hA36 ?_
      refine rt_act rfl rfl ?_
      have hA38 := Step.r0 (KU (KN s17.n) (KU (KC k0 5) (KU (KC k0 6) (KC k0 0)))) s37
      refine k_append (es := ([a1] : List DiskCall).map dDiskCall) elem60 rfl rfl hwo0_1 (h37.sl) (by have := (app_out hx5).1; simp only [List.length_map] at *; omega) (by have := (app_out hx5).1; simp only [List.length_map] at *; omega) rfl ?_
      intro s39 v39 st39 h39
      rw [← List.map_append, ← (app_out hx5).2] at h39
      have szs39 := st39.size
      have hS := hS.c0 st39
      have hA38 := hA38.c0 st39
      replace hb_o0 := hb_o0.up2 st39
      replace h34 := h34.up2 st39
      refine rt_cont hA38 ?_
      refine rt_read (.pointer (some ⟨bo0, 0, none⟩)) rfl rfl (fun s40 st40 => ?_) ?_
      ·refine k_nilCheck rfl rfl ?_
       exact fq_end
      refine rt_read (.pointer (some ⟨bo0, 3, none⟩)) rfl rfl (fun s41 st41 => ?_) ?_
      ·refine k_field_addr fld64_3 rfl rfl ?_
       exact fq_end
      refine rt_act0 rfl rfl ?_
      have hA42 := Step.r0 (KU (KN s17.n) (KU (KC k0 5) (KU (KC k0 6) (KC k0 0)))) s39
      refine k_store_c (cs' := [.int .i64 a0.capacity, .bool a0.made, .bool a0.down, v34, wo0_1, .int .i64 a0.fuse.n, .int .i64 a0.fuse.keep, .int .i64 a0.fuse.torn]) size59 rfl rfl hb_o0 (by first | (simp; done) | omega | (dsimp only; omega)) (CellsOf.sl (h34.sl)) rfl (by first | rfl | (simp; done) | (simp; omega)) rfl ?_
      intro s43 st43 hb_o0
      have szs43 := st43.size
      have hS := hS.c0 st43
      have hA42 := hA42.c0 st43
      replace h34 := h34.up2 st43
      replace h39 := h39.up2 st43
      refine rt_cont0 hA42 ?_
      refine rt_fin ?_
      refine k_nilCheck rfl rfl ?_
      refine k_field_addr fld64_4 rfl rfl ?_
      refine k_store_c (cs' := [.int .i64 a0.capacity, .bool a0.made, .bool a0.down, v34, v39, .int .i64 a0.fuse.n, .int .i64 a0.fuse.keep, .int .i64 a0.fuse.torn]) size60 rfl rfl hb_o0 (by first | (simp; done) | omega | (dsimp only; omega)) (CellsOf.sl (h39.sl)) rfl (by first | rfl | (simp; done) | (simp; omega)) rfl ?_
      intro s44 st44 hb_o0
      have szs44 := st44.size
      have hS := hS.c0 st44
      replace h34 := h34.up2 st44
      replace h39 := h39.up2 st44
      refine k_nil ?_
      refine k_keep [(0, _), (4, _)] ⟨rfl, rfl, trivial⟩ ?_
      refine k_seq ?_
      refine k_region ?_
      refine k_move rfl rfl ?_
      obtain ⟨x6, hx6, h⟩ := ob h
      refine k_call cal50 rfl (disk_Disk_burn_w  (ODiskDisk.mk_ (⟨a0.capacity, a0.made, a0.down, x4, x5, a0.fuse⟩ : DiskDisk) (by omega) h34 h39 hb_o0) hx6) rfl ?_
      rintro s45 vr45 st45 ⟨rfl, hm45_0⟩
      obtain ⟨w45_0_0, w45_0_1, hb_45_0, hw45_0_0, hw45_0_1⟩ := hm45_0.at_
      have szs45 := st45.size
      have hS := hS.c0 st45
      refine k_assign rfl rfl ?_
      refine k_nil ?_
      refine k_keep [(4, _)] ⟨rfl, trivial⟩ ?_
      refine k_ret ?_
      obtain rfl := Option.some.inj h
      refine ⟨_, rfl, Ret.mk hS ?_⟩
      exact ⟨rfl, (ODiskDisk.mk_ x6.2 (by omega) hw45_0_0 hw45_0_1 hb_45_0)⟩
     ·
      refine rt_act rfl rfl ?_
      have hA46 := Step.r0 (KU (KN s17.n) (KU (KC k0 5) (KU (KC k0 6) (KC k0 0)))) s34
      refine k_bslice2 (ds := ([a1] : List DiskCall).map dDiskCall) slc60 rfl (RVs.cons hp1 RVs.nil) (by rfl) (by simp [dDiskCall_wd]) rfl rfl ?_
      intro s47 v47 b47 st47 ge47 bl47 h47
      have szs47 := st47.size
      have hS := hS.trans0 st47
      have hA46 := hA46.trans0 st47
      replace hwo0_1 := hwo0_1.up2 st47
      replace hb_o0 := hb_o0.up2 st47
      replace h34 := h34.up2 st47
      have lt47 := Own.le1 h47
      refine rt_cont hA46 ?_
      refine rt_act rfl rfl ?_
      have hA48 := Step.r0 (KU (KN s17.n) (KU (KC k0 5) (KU (KC k0 6) (KC k0 0)))) s47
      refine k_load_blk one60 rfl hb_o0 rfl rfl ?_
      refine rt_cont hA48 ?_
      refine rt_act rfl rfl ?_
      have hA49 := Step.r0 (KU (KN s17.n) (KU (KC k0 5) (KU (KC k0 6) (KC k0 0)))) s47
      refine k_append (es := ([a1] : List DiskCall).map dDiskCall) elem60 rfl rfl hwo0_1 (h47.sl) (by have := (app_out hx5).1; simp only [List.length_map] at *; omega) (by have := (app_out hx5).1; simp only [List.length_map] at *; omega) rfl ?_
      intro s50 v50 st50 h50
      rw [← List.map_append, ← (app_out hx5).2] at h50
      have szs50 := st50.size
      have hS := hS.c0 st50
      have hA49 := hA49.c0 st50
      replace hb_o0 := hb_o0.up2 st50
      replace h34 := h34.up2 st50
      refine rt_cont hA49 ?_
      refine rt_read (.pointer (some ⟨bo0, 0, none⟩)) rfl rfl (fun s51 st51 => ?_) ?_
      ·refine k_nilCheck rfl rfl ?_
       exact fq_end
      refine rt_read (.pointer (some ⟨bo0, 3, none⟩)) rfl rfl (fun s52 st52 => ?_) ?_
      ·refine k_field_addr fld64_3 rfl rfl ?_
       exact fq_end
      refine rt_act0 rfl rfl ?_
      have hA53 := Step.r0 (KU (KN s17.n) (KU (KC k0 5) (KU (KC k0 6) (KC k0 0)))) s50
      refine k_store_c (cs' := [.int .i64 a0.capacity, .bool a0.made, .bool a0.down, v34, wo0_1, .int .i64 a0.fuse.n, .int .i64 a0.fuse.keep, .int .i64 a0.fuse.torn]) size59 rfl rfl hb_o0 (by first | (simp; done) | omega | (dsimp only; omega)) (CellsOf.sl (h34.sl)) rfl (by first | rfl | (simp; done) | (simp; omega)) rfl ?_
      intro s54 st54 hb_o0
      have szs54 := st54.size
      have hS := hS.c0 st54
      have hA53 := hA53.c0 st54
      replace h34 := h34.up2 st54
      replace h50 := h50.up2 st54
      refine rt_cont0 hA53 ?_
      refine rt_fin ?_
      refine k_nilCheck rfl rfl ?_
      refine k_field_addr fld64_4 rfl rfl ?_
      refine k_store_c (cs' := [.int .i64 a0.capacity, .bool a0.made, .bool a0.down, v34, v50, .int .i64 a0.fuse.n, .int .i64 a0.fuse.keep, .int .i64 a0.fuse.torn]) size60 rfl rfl hb_o0 (by first | (simp; done) | omega | (dsimp only; omega)) (CellsOf.sl (h50.sl)) rfl (by first | rfl | (simp; done) | (simp; omega)) rfl ?_
      intro s55 st55 hb_o0
      have szs55 := st55.size
      have hS := hS.c0 st55
      replace h34 := h34.up2 st55
      replace h50 := h50.up2 st55
      refine k_nil ?_
      refine k_keep [(0, _), (4, _)] ⟨rfl, rfl, trivial⟩ ?_
      refine k_seq ?_
      refine k_region ?_
      refine k_move rfl rfl ?_
      obtain ⟨x7, hx7, h⟩ := ob h
      refine k_call cal50 rfl (disk_Disk_burn_w  (ODiskDisk.mk_ (⟨a0.capacity, a0.made, a0.down, x4, x5, a0.fuse⟩ : DiskDisk) (by omega) h34 h50 hb_o0) hx7) rfl ?_
      rintro s56 vr56 st56 ⟨rfl, hm56_0⟩
      obtain ⟨w56_0_0, w56_0_1, hb_56_0, hw56_0_0, hw56_0_1⟩ := hm56_0.at_
      have szs56 := st56.size
      have hS := hS.c0 st56
      refine k_assign rfl rfl ?_
      refine k_nil ?_
      refine k_keep [(4, _)] ⟨rfl, trivial⟩ ?_
      refine k_ret ?_
      obtain rfl := Option.some.inj h
      refine ⟨_, rfl, Ret.mk hS ?_⟩
      exact ⟨rfl, (ODiskDisk.mk_ x7.2 (by omega) hw56_0_0 hw56_0_1 hb_56_0)⟩
    ·
     refine rt_alt rfl rfl ?_ ?_
     ·
      have hA57 := Step.r0 (KU (KN s17.n) (KU (KC k0 5) (KU (KC k0 6) (KC k0 0)))) s32
      refine k_load_blk one60 rfl hb_o0 rfl rfl ?_
      refine rt_cont hA57 ?_
      refine rt_alt rfl rfl ?_ ?_
      ·
       have hA58 := Step.r0 (KU (KN s17.n) (KU (KC k0 5) (KU (KC k0 6) (KC k0 0)))) s32
       refine k_append (es := ([x2] : List (List DiskFile)).map (dL 2 dDiskFile)) elem59 rfl rfl hwo0_0 (h32.sl) (by have := (app_out hx4).1; simp only [List.length_map] at *; omega) (by have := (app_out hx4).1; simp only [List.length_map] at *; omega) rfl ?_
       intro s59 v59 st59 h59
       rw [← List.map_append, ← (app_out hx4).2] at h59
       have szs59 := st59.size
       have hS := hS.c0 st59
       have hA58 := hA58.c0 st59
       replace hp1 := hp1.up2 st59
       replace hwo0_1 := hwo0_1.up2 st59
       replace hb_o0 := hb_o0.up2 st59
       refine rt_cont hA58 ?_
       refine rt_act rfl rfl ?_
       have hA60 := Step.r0 (KU (KN s17.n) (KU (KC k0 5) (KU (KC k0 6) (KC k0 0)))) s59
       refine k_bslice2 (ds := ([a1] : List DiskCall).map dDiskCall) slc60 rfl (RVs.cons hp1 RVs.nil) (by rfl) (by simp [dDiskCall_wd]) rfl rfl ?_
       intro s61 v61 b61 st61 ge61 bl61 h61
       have szs61 := st61.size
       have hS := hS.trans0 st61
       have hA60 := hA60.trans0 st61
       replace hwo0_1 := hwo0_1.up2 st61
       replace hb_o0 := hb_o0.up2 st61
       replace h59 := h59.up2 st61
       have lt61 := Own.le1 h61
       refine rt_cont hA60 ?_
       refine rt_act rfl rfl ?_
       have hA62 := Step.r0 (KU (KN s17.n) (KU (KC k0 5) (KU (KC k0 6) (KC k0 0)))) s61
       refine k_append (es := ([a1] : List DiskCall).map dDiskCall) elem60 rfl rfl hwo0_1 (h61.sl) (by have := (app_out hx5).1; simp only [List.length_map] at *; omega) (by have := (app_out hx5).1; simp only [List.length_map] at *; omega) rfl ?_
       intro s63 v63 st63 h63
       rw [← List.map_append, ← (app_out hx5).2] at h63
       have szs63 := st63.size
       have hS := hS.c0 st63
       have hA62 := hA62.c0 st63
       replace hb_o0 := hb_o0.up2 st63
       replace h59 := h59.up2 st63
       refine rt_cont hA62 ?_
       refine rt_read (.pointer (some ⟨bo0, 0, none⟩)) rfl rfl (fun s64 st64 => ?_) ?_
       ·refine k_nilCheck rfl rfl ?_
        exact fq_end
       refine rt_read (.pointer (some ⟨bo0, 3, none⟩)) rfl rfl (fun s65 st65 => ?_) ?_
       ·refine k_field_addr fld64_3 rfl rfl ?_
        exact fq_end
       refine rt_act0 rfl rfl ?_
       have hA66 := Step.r0 (KU (KN s17.n) (KU (KC k0 5) (KU (KC k0 6) (KC k0 0)))) s63
       refine k_store_c (cs' := [.int .i64 a0.capacity, .bool a0.made, .bool a0.down, v59, wo0_1, .int .i64 a0.fuse.n, .int .i64 a0.fuse.keep, .int .i64 a0.fuse.torn]) size59 rfl rfl hb_o0 (by first | (simp; done) | omega | (dsimp only; omega)) (CellsOf.sl (h59.sl)) rfl (by first | rfl | (simp; done) | (simp; omega)) rfl ?_
       intro s67 st67 hb_o0
       have szs67 := st67.size
       have hS := hS.c0 st67
       have hA66 := hA66.c0 st67
       replace h59 := h59.up2 st67
       replace h63 := h63.up2 st67
       refine rt_cont0 hA66 ?_
       refine rt_fin ?_
       refine k_nilCheck rfl rfl ?_
       refine k_field_addr fld64_4 rfl rfl ?_
       refine k_store_c (cs' := [.int .i64 a0.capacity, .bool a0.made, .bool a0.down, v59, v63, .int .i64 a0.fuse.n, .int .i64 a0.fuse.keep, .int .i64 a0.fuse.torn]) size60 rfl rfl hb_o0 (by first | (simp; done) | omega | (dsimp only; omega)) (CellsOf.sl (h63.sl)) rfl (by first | rfl | (simp; done) | (simp; omega)) rfl ?_
       intro s68 st68 hb_o0
       have szs68 := st68.size
       have hS := hS.c0 st68
       replace h59 := h59.up2 st68
       replace h63 := h63.up2 st68
       refine k_nil ?_
       refine k_keep [(0, _), (4, _)] ⟨rfl, rfl, trivial⟩ ?_
       refine k_seq ?_
       refine k_region ?_
       refine k_move rfl rfl ?_
       obtain ⟨x8, hx8, h⟩ := ob h
       refine k_call cal50 rfl (disk_Disk_burn_w  (ODiskDisk.mk_ (⟨a0.capacity, a0.made, a0.down, x4, x5, a0.fuse⟩ : DiskDisk) (by omega) h59 h63 hb_o0) hx8) rfl ?_
       rintro s69 vr69 st69 ⟨rfl, hm69_0⟩
       obtain ⟨w69_0_0, w69_0_1, hb_69_0, hw69_0_0, hw69_0_1⟩ := hm69_0.at_
       have szs69 := st69.size
       have hS := hS.c0 st69
       refine k_assign rfl rfl ?_
       refine k_nil ?_
       refine k_keep [(4, _)] ⟨rfl, trivial⟩ ?_
       refine k_ret ?_
       obtain rfl := Option.some.inj h
       refine ⟨_, rfl, Ret.mk hS ?_⟩
       exact ⟨rfl, (ODiskDisk.mk_ x8.2 (by omega) hw69_0_0 hw69_0_1 hb_69_0)⟩
      ·
       refine rt_act rfl rfl ?_
       have hA70 := Step.r0 (KU (KN s17.n) (KU (KC k0 5) (KU (KC k0 6) (KC k0 0)))) s32
       refine k_bslice2 (ds := ([a1] : List DiskCall).map dDiskCall) slc60 rfl (RVs.cons hp1 RVs.nil) (by rfl) (by simp [dDiskCall_wd]) rfl rfl ?_
       intro s71 v71 b71 st71 ge71 bl71 h71
       have szs71 := st71.size
       have hS := hS.trans0 st71
       have hA70 := hA70.trans0 st71
       replace hwo0_0 := hwo0_0.up2 st71
       replace hwo0_1 := hwo0_1.up2 st71
       replace hb_o0 := hb_o0.up2 st71
       replace h32 := h32.up2 st71
       have lt71 := Own.le1 h71
       refine rt_cont hA70 ?_
       refine rt_act rfl rfl ?_
       have hA72 := Step.r0 (KU (KN s17.n) (KU (KC k0 5) (KU (KC k0 6) (KC k0 0)))) s71
       refine k_append (es := ([x2] : List (List DiskFile)).map (dL 2 dDiskFile)) elem59 rfl rfl hwo0_0 (h32.sl) (by have := (app_out hx4).1; simp only [List.length_map] at *; omega) (by have := (app_out hx4).1; simp only [List.length_map] at *; omega) rfl ?_
       intro s73 v73 st73 h73
       rw [← List.map_append, ← (app_out hx4).2] at h73
       have szs73 := st73.size
       have hS := hS.c0 st73
       have hA72 := hA72.c0 st73
       replace hwo0_1 := hwo0_1.up2 st73
       replace hb_o0 := hb_o0.up2 st73
       replace h71 := h71.up2 st73
       refine rt_cont hA72 ?_
       refine rt_act rfl rfl ?_
       have hA74 := Step.r0 (KU (KN s17.n) (KU (KC k0 5) (KU (KC k0 6) (KC k0 0)))) s73
       refine k_append (es := ([a1] : List DiskCall).map dDiskCall) elem60 rfl rfl hwo0_1 (h71.sl) (by have := (app_out hx5).1; simp only [List.length_map] at *; omega) (by have := (app_out hx5).1; simp only [List.length_map] at *; omega) rfl ?_
       intro s75 v75 st75 h75
       rw [← List.map_append, ← (app_out hx5).2] at h75
       have szs75 := st75.size
       have hS := hS.c0 st75
       have hA74 := hA74.c0 st75
       replace hb_o0 := hb_o0.up2 st75
       replace h73 := h73.up2 st75
       refine rt_cont hA74 ?_
       refine rt_read (.pointer (some ⟨bo0, 0, none⟩)) rfl rfl (fun s76 st76 => ?_) ?_
       ·refine k_nilCheck rfl rfl ?_
        exact fq_end
       refine rt_read (.pointer (some ⟨bo0, 3, none⟩)) rfl rfl (fun s77 st77 => ?_) ?_
       ·refine k_field_addr fld64_3 rfl rfl ?_
        exact fq_end
       refine rt_act0 rfl rfl ?_
       have hA78 := Step.r0 (KU (KN s17.n) (KU (KC k0 5) (KU (KC k0 6) (KC k0 0)))) s75
       refine k_store_c (cs' := [.int .i64 a0.capacity, .bool a0.made, .bool a0.down, v73, wo0_1, .int .i64 a0.fuse.n, .int .i64 a0.fuse.keep, .int .i64 a0.fuse.torn]) size59 rfl rfl hb_o0 (by first | (simp; done) | omega | (dsimp only; omega)) (CellsOf.sl (h73.sl)) rfl (by first | rfl | (simp; done) | (simp; omega)) rfl ?_
       intro s79 st79 hb_o0
       have szs79 := st79.size
       have hS := hS.c0 st79
       have hA78 := hA78.c0 st79
       replace h73 := h73.up2 st79
       replace h75 := h75.up2 st79
       refine rt_cont0 hA78 ?_
       refine rt_fin ?_
       refine k_nilCheck rfl rfl ?_
       refine k_field_addr fld64_4 rfl rfl ?_
       refine k_store_c (cs' := [.int .i64 a0.capacity, .bool a0.made, .bool a0.down, v73, v75, .int .i64 a0.fuse.n, .int .i64 a0.fuse.keep, .int .i64 a0.fuse.torn]) size60 rfl rfl hb_o0 (by first | (simp; done) | omega | (dsimp only; omega)) (CellsOf.sl (h75.sl)) rfl (by first | rfl | (simp; done) | (simp; omega)) rfl ?_
       intro s80 st80 hb_o0
       have szs80 := st80.size
       have hS := hS.c0 st80
       replace h73 := h73.up2 st80
       replace h75 := h75.up2 st80
       refine k_nil ?_
       refine k_keep [(0, _), (4, _)] ⟨rfl, rfl, trivial⟩ ?_
       refine k_seq ?_
       refine k_region ?_
       refine k_move rfl rfl ?_
       obtain ⟨x9, hx9, h⟩ := ob h
       refine k_call cal50 rfl (disk_Disk_burn_w  (ODiskDisk.mk_ (⟨a0.capacity, a0.made, a0.down, x4, x5, a0.fuse⟩ : DiskDisk) (by omega) h73 h75 hb_o0) hx9) rfl ?_
       rintro s81 vr81 st81 ⟨rfl, hm81_0⟩
       obtain ⟨w81_0_0, w81_0_1, hb_81_0, hw81_0_0, hw81_0_1⟩ := hm81_0.at_
       have szs81 := st81.size
       have hS := hS.c0 st81
       refine k_assign rfl rfl ?_
       refine k_nil ?_
       refine k_keep [(4, _)] ⟨rfl, trivial⟩ ?_
       refine k_ret ?_
       obtain rfl := Option.some.inj h
       refine ⟨_, rfl, Ret.mk hS ?_⟩
       exact ⟨rfl, (ODiskDisk.mk_ x9.2 (by omega) hw81_0_0 hw81_0_1 hb_81_0)⟩
     ·
      refine rt_act rfl rfl ?_
      have hA82 := Step.r0 (KU (KN s17.n) (KU (KC k0 5) (KU (KC k0 6) (KC k0 0)))) s32
      refine k_bslice2 (ds := ([a1] : List DiskCall).map dDiskCall) slc60 rfl (RVs.cons hp1 RVs.nil) (by rfl) (by simp [dDiskCall_wd]) rfl rfl ?_
      intro s83 v83 b83 st83 ge83 bl83 h83
      have szs83 := st83.size
      have hS := hS.trans0 st83
      have hA82 := hA82.trans0 st83
      replace hwo0_0 := hwo0_0.up2 st83
      replace hwo0_1 := hwo0_1.up2 st83
      replace hb_o0 := hb_o0.up2 st83
      replace h32 := h32.up2 st83
      have lt83 := Own.le1 h83
      refine rt_cont hA82 ?_
      refine rt_alt rfl rfl ?_ ?_
      ·
       have hA84 := Step.r0 (KU (KN s17.n) (KU (KC k0 5) (KU (KC k0 6) (KC k0 0)))) s83
       refine k_append (es := ([x2] : List (List DiskFile)).map (dL 2 dDiskFile)) elem59 rfl rfl hwo0_0 (h32.sl) (by have := (app_out hx4).1; simp only [List.length_map] at *; omega) (by have := (app_out hx4).1; simp only [List.length_map] at *; omega) rfl ?_
       intro s85 v85 st85 h85
       rw [← List.map_append, ← (app_out hx4).2] at h85
       have szs85 := st85.size
       have hS := hS.c0 st85
       have hA84 := hA84.c0 st85
       replace hwo0_1 := hwo0_1.up2 st85
       replace hb_o0 := hb_o0.up2 st85
       replace h83 := h83.up2 st85
       refine rt_cont hA84 ?_
       refine rt_act rfl rfl ?_
       have hA86 := Step.r0 (KU (KN s17.n) (KU (KC k0 5) (KU (KC k0 6) (KC k0 0)))) s85
       refine k_load_blk one60 rfl hb_o0 rfl rfl ?_
       refine rt_cont hA86 ?_
       refine rt_act rfl rfl ?_
       have hA87 := Step.r0 (KU (KN s17.n) (KU (KC k0 5) (KU (KC k0 6) (KC k0 0)))) s85
       refine k_append (es := ([a1] : List DiskCall).map dDiskCall) elem60 rfl rfl hwo0_1 (h83.sl) (by have := (app_out hx5).1; simp only [List.length_map] at *; omega) (by have := (app_out hx5).1; simp only [List.length_map] at *; omega) rfl ?_
       intro s88 v88 st88 h88
       rw [← List.map_append, ← (app_out hx5).2] at h88
       have szs88 := st88.size
       have hS := hS.c0 st88
       have hA87 := hA87.c0 st88
       replace hb_o0 := hb_o0.up2 st88
       replace h85 := h85.up2 st88
       refine rt_cont hA87 ?_
       refine rt_read (.pointer (some ⟨bo0, 0, none⟩)) rfl rfl (fun s89 st89 => ?_) ?_
       ·refine k_nilCheck rfl rfl ?_
        exact fq_end
       refine rt_read (.pointer (some ⟨bo0, 3, none⟩)) rfl rfl (fun s90 st90 => ?_) ?_
       ·refine k_field_addr fld64_3 rfl rfl ?_
        exact fq_end
       refine rt_act0 rfl rfl ?_
       have hA91 := Step.r0 (KU (KN s17.n) (KU (KC k0 5) (KU (KC k0 6) (KC k0 0)))) s88
       refine k_store_c (cs' := [.int .i64 a0.capacity, .bool a0.made, .bool a0.down, v85, wo0_1, .int .i64 a0.fuse.n, .int .i64 a0.fuse.keep, .int .i64 a0.fuse.torn]) size59 rfl rfl hb_o0 (by first | (simp; done) | omega | (dsimp only; omega)) (CellsOf.sl (h85.sl)) rfl (by first | rfl | (simp; done) | (simp; omega)) rfl ?_
       intro s92 st92 hb_o0
       have szs92 := st92.size
       have hS := hS.c0 st92
       have hA91 := hA91.c0 st92
       replace h85 := h85.up2 st92
       replace h88 := h88.up2 st92
       refine rt_cont0 hA91 ?_
       refine rt_fin ?_
       refine k_nilCheck rfl rfl ?_
       refine k_field_addr fld64_4 rfl rfl ?_
       refine k_store_c (cs' := [.int .i64 a0.capacity, .bool a0.made, .bool a0.down, v85, v88, .int .i64 a0.fuse.n, .int .i64 a0.fuse.keep, .int .i64 a0.fuse.torn]) size60 rfl rfl hb_o0 (by first | (simp; done) | omega | (dsimp only; omega)) (CellsOf.sl (h88.sl)) rfl (by first | rfl | (simp; done) | (simp; omega)) rfl ?_
       intro s93 st93 hb_o0
       have szs93 := st93.size
       have hS := hS.c0 st93
       replace h85 := h85.up2 st93
       replace h88 := h88.up2 st93
       refine k_nil ?_
       refine k_keep [(0, _), (4, _)] ⟨rfl, rfl, trivial⟩ ?_
       refine k_seq ?_
       refine k_region ?_
       refine k_move rfl rfl ?_
       obtain ⟨x10, hx10, h⟩ := ob h
       refine k_call cal50 rfl (disk_Disk_burn_w  (ODiskDisk.mk_ (⟨a0.capacity, a0.made, a0.down, x4, x5, a0.fuse⟩ : DiskDisk) (by omega) h85 h88 hb_o0) hx10) rfl ?_
       rintro s94 vr94 st94 ⟨rfl, hm94_0⟩
       obtain ⟨w94_0_0, w94_0_1, hb_94_0, hw94_0_0, hw94_0_1⟩ := hm94_0.at_
       have szs94 := st94.size
       have hS := hS.c0 st94
       refine k_assign rfl rfl ?_
       refine k_nil ?_
       refine k_keep [(4, _)] ⟨rfl, trivial⟩ ?_
       refine k_ret ?_
       obtain rfl := Option.some.inj h
       refine ⟨_, rfl, Ret.mk hS ?_⟩
       exact ⟨rfl, (ODiskDisk.mk_ x10.2 (by omega) hw94_0_0 hw94_0_1 hb_94_0)⟩
      ·
       refine rt_act rfl rfl ?_
       have hA95 := Step.r0 (KU (KN s17.n) (KU (KC k0 5) (KU (KC k0 6) (KC k0 0)))) s83
       refine k_load_blk one60 rfl hb_o0 rfl rfl ?_
       refine rt_cont hA95 ?_
       refine rt_act rfl rfl ?_
       have hA96 := Step.r0 (KU (KN s17.n) (KU (KC k0 5) (KU (KC k0 6) (KC k0 0)))) s83
       refine k_append (es := ([x2] : List (List DiskFile)).map (dL 2 dDiskFile)) elem59 rfl rfl hwo0_0 (h32.sl) (by have := (app_out hx4).1; simp only [List.length_map] at *; omega) (by have := (app_out hx4).1; simp only [List.length_map] at *; omega) rfl ?_
       intro s97 v97 st97 h97
       rw [← List.map_append, ← (app_out hx4).2] at h97
       have szs97 := st97.size
       have hS := hS.c0 st97
       have hA96 := hA96.c0 st97
       replace hwo0_1 := hwo0_1.up2 st97
       replace hb_o0 := hb_o0.up2 st97
       replace h83 := h83.up2 st97
       refine rt_cont hA96 ?_
       refine rt_act rfl rfl ?_
       have hA98 := Step.r0 (KU (KN s17.n) (KU (KC k0 5) (KU (KC k0 6) (KC k0 0)))) s97
       refine k_append (es := ([a1] : List DiskCall).map dDiskCall) elem60 rfl rfl hwo0_1 (h83.sl) (by have := (app_out hx5).1; simp only [List.length_map] at *; omega) (by have := (app_out hx5).1; simp only [List.length_map] at *; omega) rfl ?_
       intro s99 v99 st99 h99
       rw [← List.map_append, ← (app_out hx5).2] at h99
       have szs99 := st99.size
       have hS := hS.c0 st99
       have hA98 := hA98.c0 st99
       replace hb_o0 := hb_o0.up2 st99
       replace h97 := h97.up2 st99
       refine rt_cont hA98 ?_
       refine rt_read (.pointer (some ⟨bo0, 0, none⟩)) rfl rfl (fun s100 st100 => ?_) ?_
       ·refine k_nilCheck rfl rfl ?_
        exact fq_end
       refine rt_read (.pointer (some ⟨bo0, 3, none⟩)) rfl rfl (fun s101 st101 => ?_) ?_
       ·refine k_field_addr fld64_3 rfl rfl ?_
        exact fq_end
       refine rt_act0 rfl rfl ?_
       have hA102 := Step.r0 (KU (KN s17.n) (KU (KC k0 5) (KU (KC k0 6) (KC k0 0)))) s99
       refine k_store_c (cs' := [.int .i64 a0.capacity, .bool a0.made, .bool a0.down, v97, wo0_1, .int .i64 a0.fuse.n, .int .i64 a0.fuse.keep, .int .i64 a0.fuse.torn]) size59 rfl rfl hb_o0 (by first | (simp; done) | omega | (dsimp only; omega)) (CellsOf.sl (h97.sl)) rfl (by first | rfl | (simp; done) | (simp; omega)) rfl ?_
       intro s103 st103 hb_o0
       have szs103 := st103.size
       have hS := hS.c0 st103
       have hA102 := hA102.c0 st103
       replace h97 := h97.up2 st103
       replace h99 := h99.up2 st103
       refine rt_cont0 hA102 ?_
       refine rt_fin ?_
       refine k_nilCheck rfl rfl ?_
       refine k_field_addr fld64_4 rfl rfl ?_
       refine k_store_c (cs' := [.int .i64 a0.capacity, .bool a0.made, .bool a0.down, v97, v99, .int .i64 a0.fuse.n, .int .i64 a0.fuse.keep, .int .i64 a0.fuse.torn]) size60 rfl rfl hb_o0 (by first | (simp; done) | omega | (dsimp only; omega)) (CellsOf.sl (h99.sl)) rfl (by first | rfl | (simp; done) | (simp; omega)) rfl ?_
       intro s104 st104 hb_o0
       have szs104 := st104.size
       have hS := hS.c0 st104
       replace h97 := h97.up2 st104
       replace h99 := h99.up2 st104
       refine k_nil ?_
       refine k_keep [(0, _), (4, _)] ⟨rfl, rfl, trivial⟩ ?_
       refine k_seq ?_
       refine k_region ?_
       refine k_move rfl rfl ?_
       obtain ⟨x11, hx11, h⟩ := ob h
       refine k_call cal50 rfl (disk_Disk_burn_w  (ODiskDisk.mk_ (⟨a0.capacity, a0.made, a0.down, x4, x5, a0.fuse⟩ : DiskDisk) (by omega) h97 h99 hb_o0) hx11) rfl ?_
       rintro s105 vr105 st105 ⟨rfl, hm105_0⟩
       obtain ⟨w105_0_0, w105_0_1, hb_105_0, hw105_0_0, hw105_0_1⟩ := hm105_0.at_
       have szs105 := st105.size
       have hS := hS.c0 st105
       refine k_assign rfl rfl ?_
       refine k_nil ?_
       refine k_keep [(4, _)] ⟨rfl, trivial⟩ ?_
       refine k_ret ?_
       obtain rfl := Option.some.inj h
       refine ⟨_, rfl, Ret.mk hS ?_⟩
       exact ⟨rfl, (ODiskDisk.mk_ x11.2 (by omega) hw105_0_0 hw105_0_1 hb_105_0)⟩
   ·
    refine rt_alt rfl rfl ?_ ?_
    ·
     have hA106 := Step.r0 (KU (KN s17.n) (KU (KC k0 5) (KU (KC k0 6) (KC k0 0)))) s19
     refine k_load_blk one60 rfl hb_o0 rfl rfl ?_
     refine rt_cont hA106 ?_
     refine rt_alt rfl rfl ?_ ?_
     ·
      have hA107 := Step.r0 (KU (KN s17.n) (KU (KC k0 5) (KU (KC k0 6) (KC k0 0)))) s19
      refine k_bslice2 (ds := ([x2] : List (List DiskFile)).map (dL 2 dDiskFile)) slc59 rfl (RVs.cons h9_0 RVs.nil) (by rfl) (by rfl) rfl rfl ?_
      intro s108 v108 b108 st108 ge108 bl108 h108
      have szs108 := st108.size
      have hS := hS.trans0 st108
      have hA107 := hA107.trans0 st108
      replace hp1 := hp1.up2 st108
      replace hwo0_0 := hwo0_0.up2 st108
      replace hwo0_1 := hwo0_1.up2 st108
      replace hb_o0 := hb_o0.up2 st108
      have lt108 := Own.le1 h108
      refine rt_cont hA107 ?_
      refine rt_alt rfl rfl ?_ ?_
      ·
       have hA109 := Step.r0 (KU (KN s17.n) (KU (KC k0 5) (KU (KC k0 6) (KC k0 0)))) s108
       refine k_append (es := ([x2] : List (List DiskFile)).map (dL 2 dDiskFile)) elem59 rfl rfl hwo0_0 (h108.sl) (by have := (app_out hx4).1; simp only [List.length_map] at *; omega) (by have := (app_out hx4).1; simp only [List.length_map] at *; omega) rfl ?_
       intro s110 v110 st110 h110
       rw [← List.map_append, ← (app_out hx4).2] at h110
       have szs110 := st110.size
       have hS := hS.c0 st110
       have hA109 := hA109.c0 st110
       replace hp1 := hp1.up2 st110
       replace hwo0_1 := hwo0_1.up2 st110
       replace hb_o0 := hb_o0.up2 st110
       refine rt_cont hA109 ?_
       refine rt_act rfl rfl ?_
       have hA111 := Step.r0 (KU (KN s17.n) (KU (KC k0 5) (KU (KC k0 6) (KC k0 0)))) s110
       refine k_bslice2 (ds := ([a1] : List DiskCall).map dDiskCall) slc60 rfl (RVs.cons hp1 RVs.nil) (by rfl) (by simp [dDiskCall_wd]) rfl rfl ?_
       intro s112 v112 b112 st112 ge112 bl112 h112
       have szs112 := st112.size
       have hS := hS.trans0 st112
       have hA111 := hA111.trans0 st112
       replace hwo0_1 := hwo0_1.up2 st112
       replace hb_o0 := hb_o0.up2 st112
       replace h110 := h110.up2 st112
       have lt112 := Own.le1 h112
       refine rt_cont hA111 ?_
       refine rt_act rfl rfl ?_
       have hA113 := Step.r0 (KU (KN s17.n) (KU (KC k0 5) (KU (KC k0 6) (KC k0 0)))) s112
       refine k_append (es := ([a1] : List DiskCall).map dDiskCall) elem60 rfl rfl hwo0_1 (h112.sl) (by have := (app_out hx5).1; simp only [List.length_map] at *; omega) (by have := (app_out hx5).1; simp only [List.length_map] at *; omega) rfl ?_
       intro s114 v114 st114 h114
       rw [← List.map_append, ← (app_out hx5).2] at h114
       have szs114 := st114.size
       have hS := hS.c0 st114
       have hA113 := hA113.c0 st114
       replace hb_o0 := hb_o0.up2 st114
       replace h110 := h110.up2 st114
       refine rt_cont hA113 ?_
       refine rt_read (.pointer (some ⟨bo0, 0, none⟩)) rfl rfl (fun s115 st115 => ?_) ?_
       ·refine k_nilCheck rfl rfl ?_
        exact fq_end
       refine rt_read (.pointer (some ⟨bo0, 3, none⟩)) rfl rfl (fun s116 st116 => ?_) ?_
       ·refine k_field_addr fld64_3 rfl rfl ?_
        exact fq_end
       refine rt_act0 rfl rfl ?_
       have hA117 := Step.r0 (KU (KN s17.n) (KU (KC k0 5) (KU (KC k0 6) (KC k0 0)))) s114
       refine k_store_c (cs' := [.int .i64 a0.capacity, .bool a0.made, .bool a0.down, v110, wo0_1, .int .i64 a0.fuse.n, .int .i64 a0.fuse.keep, .int .i64 a0.fuse.torn]) size59 rfl rfl hb_o0 (by first | (simp; done) | omega | (dsimp only; omega)) (CellsOf.sl (h110.sl)) rfl (by first | rfl | (simp; done) | (simp; omega)) rfl ?_
       intro s118 st118 hb_o0
       have szs118 := st118.size
       have hS := hS.c0 st118
       have hA117 := hA117.c0 st118
       replace h110 := h110.up2 st118
       replace h114 := h114.up2 st118
       refine rt_cont0 hA117 ?_
       refine rt_fin ?_
       refine k_nilCheck rfl rfl ?_
       refine k_field_addr fld64_4 rfl rfl ?_
       refine k_store_c (cs' := [.int .i64 a0.capacity, .bool a0.made, .bool a0.down, v110, v114, .int .i64 a0.fuse.n, .int .i64 a0.fuse.keep, .int .i64 a0.fuse.torn]) size60 rfl rfl hb_o0 (by first | (simp; done) | omega | (dsimp only; omega)) (CellsOf.sl (h114.sl)) rfl (by first | rfl | (simp; done) | (simp; omega)) rfl ?_
       intro s119 st119 hb_o0
       have szs119 := st119.size
       have hS := hS.c0 st119
       replace h110 := h110.up2 st119
       replace h114 := h114.up2 st119
       refine k_nil ?_
       refine k_keep [(0, _), (4, _)] ⟨rfl, rfl, trivial⟩ ?_
       refine k_seq ?_
       refine k_region ?_
       refine k_move rfl rfl ?_
       obtain ⟨x12, hx12, h⟩ := ob h
       refine k_call cal50 rfl (disk_Disk_burn_w  (ODiskDisk.mk_ (⟨a0.capacity, a0.made, a0.down, x4, x5, a0.fuse⟩ : DiskDisk) (by omega) h110 h114 hb_o0) hx12) rfl ?_
       rintro s120 vr120 st120 ⟨rfl, hm120_0⟩
       obtain ⟨w120_0_0, w120_0_1, hb_120_0, hw120_0_0, hw120_0_1⟩ := hm120_0.at_
       have szs120 := st120.size
       have hS := hS.c0 st120
       refine k_assign rfl rfl ?_
       refine k_nil ?_
       refine k_keep [(4, _)] ⟨rfl, trivial⟩ ?_
       refine k_ret ?_
       obtain rfl := Option.some.inj h
       refine ⟨_, rfl, Ret.mk hS ?_⟩
       exact ⟨rfl, (ODiskDisk.mk_ x12.2 (by omega) hw120_0_0 hw120_0_1 hb_120_0)⟩
      ·
       refine rt_act rfl rfl ?_
       have hA121 := Step.r0 (KU (KN s17.n) (KU (KC k0 5) (KU (KC k0 6) (KC k0 0)))) s108
       refine k_bslice2 (ds := ([a1] : List DiskCall).map dDiskCall) slc60 rfl (RVs.cons hp1 RVs.nil) (by rfl) (by simp [dDiskCall_wd]) rfl rfl ?_
       intro s122 v122 b122 st122 ge122 bl122 h122
       have szs122 := st122.size
       have hS := hS.trans0 st122
       have hA121 := hA121.trans0 st122
       replace hwo0_0 := hwo0_0.up2 st122
       replace hwo0_1 := hwo0_1.up2 st122
       replace hb_o0 := hb_o0.up2 st122
       replace h108 := h108.up2 st122
       have lt122 := Own.le1 h122
       refine rt_cont hA121 ?_
       refine rt_act rfl rfl ?_
       have hA123 := Step.r0 (KU (KN s17.n) (KU (KC k0 5) (KU (KC k0 6) (KC k0 0)))) s122
       refine k_append (es := ([x2] : List (List DiskFile)).map (dL 2 dDiskFile)) elem59 rfl rfl hwo0_0 (h108.sl) (by have := (app_out hx4).1; simp only [List.length_map] at *; omega) (by have := (app_out hx4).1; simp only [List.length_map] at *; omega) rfl ?_
       intro s124 v124 st124 h124
       rw [← List.map_append, ← (app_out hx4).2] at h124
       have szs124 := st124.size
       have hS := hS.c0 st124
       have hA123 := hA123.c0 st124
       replace hwo0_1 := hwo0_1.up2 st124
       replace hb_o0 := hb_o0.up2 st124
       replace h122 := h122.up2 st124
       refine rt_cont hA123 ?_
       refine rt_act rfl rfl ?_
       have hA125 := Step.r0 (KU (KN s17.n) (KU (KC k0 5) (KU (KC k0 6) (KC k0 0)))) s124
       refine k_append (es := ([a1] : List DiskCall).map dDiskCall) elem60 rfl rfl hwo0_1 (h122.sl) (by have := (app_out hx5).1; simp only [List.length_map] at *; omega) (by have := (app_out hx5).1; simp only [List.length_map] at *; omega) rfl ?_
       intro s126 v126 st126 h126
       rw [← List.map_append, ← (app_out hx5).2] at h126
       have szs126 := st126.size
       have hS := hS.c0 st126
       have hA125 := hA125.c0 st126
       replace hb_o0 := hb_o0.up2 st126
       replace h124 := h124.up2 st126
       refine rt_cont hA125 ?_
       refine rt_read (.pointer (some ⟨bo0, 0, none⟩)) rfl rfl (fun s127 st127 => ?_) ?_
       ·refine k_nilCheck rfl rfl ?_
        exact fq_end
       refine rt_read (.pointer (some ⟨bo0, 3, none⟩)) rfl rfl (fun s128 st128 => ?_) ?_
       ·refine k_field_addr fld64_3 rfl rfl ?_
        exact fq_end
       refine rt_act0 rfl rfl ?_
       have hA129 := Step.r0 (KU (KN s17.n) (KU (KC k0 5) (KU (KC k0 6) (KC k0 0)))) s126
       refine k_store_c (cs' := [.int .i64 a0.capacity, .bool a0.made, .bool a0.down, v124, wo0_1, .int .i64 a0.fuse.n, .int .i64 a0.fuse.keep, .int .i64 a0.fuse.torn]) size59 rfl rfl hb_o0 (by first | (simp; done) | omega | (dsimp only; omega)) (CellsOf.sl (h124.sl)) rfl (by first | rfl | (simp; done) | (simp; omega)) rfl ?_
       intro s130 st130 hb_o0
       have szs130 := st130.size
       have hS := hS.c0 st130
       have hA129 := hA129.c0 st130
       replace h124 := h124.up2 st130
       replace h126 := h126.up2 st130
       refine rt_cont0 hA129 ?_
       refine rt_fin ?_
       refine k_nilCheck rfl rfl ?_
       refine k_field_addr fld64_4 rfl rfl ?_
       refine k_store_c (cs' := [.int .i64 a0.capacity, .bool a0.made, .bool a0.down, v124, v126, .int .i64 a0.fuse.n, .int .i64 a0.fuse.keep, .int .i64 a0.fuse.torn]) size60 rfl rfl hb_o0 (by first | (simp; done) | omega | (dsimp only; omega)) (CellsOf.sl (h126.sl)) rfl (by first | rfl | (simp; done) | (simp; omega)) rfl ?_
       intro s131 st131 hb_o0
       have szs131 := st131.size
       have hS := hS.c0 st131
       replace h124 := h124.up2 st131
       replace h126 := h126.up2 st131
       refine k_nil ?_
       refine k_keep [(0, _), (4, _)] ⟨rfl, rfl, trivial⟩ ?_
       refine k_seq ?_
       refine k_region ?_
       refine k_move rfl rfl ?_
       obtain ⟨x13, hx13, h⟩ := ob h
       refine k_call cal50 rfl (disk_Disk_burn_w  (ODiskDisk.mk_ (⟨a0.capacity, a0.made, a0.down, x4, x5, a0.fuse⟩ : DiskDisk) (by omega) h124 h126 hb_o0) hx13) rfl ?_
       rintro s132 vr132 st132 ⟨rfl, hm132_0⟩
       obtain ⟨w132_0_0, w132_0_1, hb_132_0, hw132_0_0, hw132_0_1⟩ := hm132_0.at_
       have szs132 := st132.size
       have hS := hS.c0 st132
       refine k_assign rfl rfl ?_
       refine k_nil ?_
       refine k_keep [(4, _)] ⟨rfl, trivial⟩ ?_
       refine k_ret ?_
       obtain rfl := Option.some.inj h
       refine ⟨_, rfl, Ret.mk hS ?_⟩
       exact ⟨rfl, (ODiskDisk.mk_ x13.2 (by omega) hw132_0_0 hw132_0_1 hb_132_0)⟩
     ·
      refine rt_act rfl rfl ?_
      have hA133 := Step.r0 (KU (KN s17.n) (KU (KC k0 5) (KU (KC k0 6) (KC k0 0)))) s19
      refine k_bslice2 (ds := ([a1] : List DiskCall).map dDiskCall) slc60 rfl (RVs.cons hp1 RVs.nil) (by rfl) (by simp [dDiskCall_wd]) rfl rfl ?_
      intro s134 v134 b134 st134 ge134 bl134 h134
      have szs134 := st134.size
      have hS := hS.trans0 st134
      have hA133 := hA133.trans0 st134
      replace h9_0 := h9_0.up2 st134
      replace hwo0_0 := hwo0_0.up2 st134
      replace hwo0_1 := hwo0_1.up2 st134
      replace hb_o0 := hb_o0.up2 st134
      have lt134 := Own.le1 h134
      refine rt_cont hA133 ?_
      refine rt_act rfl rfl ?_
      have hA135 := Step.r0 (KU (KN s17.n) (KU (KC k0 5) (KU (KC k0 6) (KC k0 0)))) s134
      refine k_bslice2 (ds := ([x2] : List (List DiskFile)).map (dL 2 dDiskFile)) slc59 rfl (RVs.cons h9_0 RVs.nil) (by rfl) (by rfl) rfl rfl ?_
      intro s136 v136 b136 st136 ge136 bl136 h136
      have szs136 := st136.size
      have hS := hS.trans0 st136
      have hA135 := hA135.trans0 st136
      replace hwo0_0 := hwo0_0.up2 st136
      replace hwo0_1 := hwo0_1.up2 st136
      replace hb_o0 := hb_o0.up2 st136
      replace h134 := h134.up2 st136
      have lt136 := Own.le1 h136
      refine rt_cont hA135 ?_
      refine rt_act rfl rfl ?_
      have hA137 := Step.r0 (KU (KN s17.n) (KU (KC k0 5) (KU (KC k0 6) (KC k0 0)))) s136
      refine k_append (es := ([x2] : List (List DiskFile)).map (dL 2 dDiskFile)) elem59 rfl rfl hwo0_0 (h136.sl) (by have := (app_out hx4).1; simp only [List.length_map] at *; omega) (by have := (app_out hx4).1; simp only [List.length_map] at *; omega) rfl ?_
      intro s138 v138 st138 h138
      rw [← List.map_append, ← (app_out hx4).2] at h138
      have szs138 := st138.size
      have hS := hS.c0 st138
      have hA137 := hA137.c0 st138
      replace hwo0_1 := hwo0_1.up2 st138
      replace hb_o0 := hb_o0.up2 st138
      replace h134 := h134.up2 st138
      refine rt_cont hA137 ?_
      refine rt_act rfl rfl ?_
      have hA139 := Step.r0 (KU (KN s17.n) (KU (KC k0 5) (KU (KC k0 6) (KC k0 0)))) s138
      refine k_append (es := ([a1] : List DiskCall).map dDiskCall) elem60 rfl rfl hwo0_1 (h134.sl) (by have := (app_out hx5).1; simp only [List.length_map] at *; omega) (by have := (app_out hx5).1; simp only [List.length_map] at *; omega) rfl ?_
      intro s140 v140 st140 h140
      rw [← List.map_append, ← (app_out hx5).2] at h140
      have szs140 := st140.size
      have hS := hS.c0 st140
      have hA139 := hA139.c0 st140
      replace hb_o0 := hb_o0.up2 st140
      replace h138 := h138.up2 st140
      refine rt_cont hA139 ?_
      refine rt_read (.pointer (some ⟨bo0, 0, none⟩)) rfl rfl (fun s141 st141 => ?_) ?_
      ·refine k_nilCheck rfl rfl ?_
       exact fq_end
      refine rt_read (.pointer (some ⟨bo0, 3, none⟩)) rfl rfl (fun s142 st142 => ?_) ?_
      ·refine k_field_addr fld64_3 rfl rfl ?_
       exact fq_end
      refine rt_act0 rfl rfl ?_
      have hA143 := Step.r0 (KU (KN s17.n) (KU (KC k0 5) (KU (KC k0 6) (KC k0 0)))) s140
      refine k_store_c (cs' := [.int .i64 a0.capacity, .bool a0.made, .bool a0.down, v138, wo0_1, .int .i64 a0.fuse.n, .int .i64 a0.fuse.keep, .int .i64 a0.fuse.torn]) size59 rfl rfl hb_o0 (by first | (simp; done) | omega | (dsimp only; omega)) (CellsOf.sl (h138.sl)) rfl (by first | rfl | (simp; done) | (simp; omega)) rfl ?_
      intro s144 st144 hb_o0
      have szs144 := st144.size
      have hS := hS.c0 st144
      have hA143 := hA143.c0 st144
      replace h138 := h138.up2 st144
      replace h140 := h140.up2 st144
      refine rt_cont0 hA143 ?_
      refine rt_fin ?_
      refine k_nilCheck rfl rfl ?_
      refine k_field_addr fld64_4 rfl rfl ?_
      refine k_store_c (cs' := [.int .i64 a0.capacity, .bool a0.made, .bool a0.down, v138, v140, .int .i64 a0.fuse.n, .int .i64 a0.fuse.keep, .int .i64 a0.fuse.torn]) size60 rfl rfl hb_o0 (by first | (simp; done) | omega | (dsimp only; omega)) (CellsOf.sl (h140.sl)) rfl (by first | rfl | (simp; done) | (simp; omega)) rfl ?_
      intro s145 st145 hb_o0
      have szs145 := st145.size
      have hS := hS.c0 st145
      replace h138 := h138.up2 st145
      replace h140 := h140.up2 st145
      refine k_nil ?_
      refine k_keep [(0, _), (4, _)] ⟨rfl, rfl, trivial⟩ ?_
      refine k_seq ?_
      refine k_region ?_
      refine k_move rfl rfl ?_
      obtain ⟨x14, hx14, h⟩ := ob h
      refine k_call cal50 rfl (disk_Disk_burn_w  (ODiskDisk.mk_ (⟨a0.capacity, a0.made, a0.down, x4, x5, a0.fuse⟩ : DiskDisk) (by omega) h138 h140 hb_o0) hx14) rfl ?_
      rintro s146 vr146 st146 ⟨rfl, hm146_0⟩
      obtain ⟨w146_0_0, w146_0_1, hb_146_0, hw146_0_0, hw146_0_1⟩ := hm146_0.at_
      have szs146 := st146.size
      have hS := hS.c0 st146
      refine k_assign rfl rfl ?_
      refine k_nil ?_
      refine k_keep [(4, _)] ⟨rfl, trivial⟩ ?_
      refine k_ret ?_
      obtain rfl := Option.some.inj h
      refine ⟨_, rfl, Ret.mk hS ?_⟩
      exact ⟨rfl, (ODiskDisk.mk_ x14.2 (by omega) hw146_0_0 hw146_0_1 hb_146_0)⟩
    ·
     refine rt_act rfl rfl ?_
     have hA147 := Step.r0 (KU (KN s17.n) (KU (KC k0 5) (KU (KC k0 6) (KC k0 0)))) s19
     refine k_bslice2 (ds := ([a1] : List DiskCall).map dDiskCall) slc60 rfl (RVs.cons hp1 RVs.nil) (by rfl) (by simp [dDiskCall_wd]) rfl rfl ?_
     intro s148 v148 b148 st148 ge148 bl148 h148
     have szs148 := st148.size
     have hS := hS.trans0 st148
     have hA147 := hA147.trans0 st148
     replace h9_0 := h9_0.up2 st148
     replace hwo0_0 := hwo0_0.up2 st148
     replace hwo0_1 := hwo0_1.up2 st148
     replace hb_o0 := hb_o0.up2 st148
     have lt148 := Own.le1 h148
     refine rt_cont hA147 ?_
     refine rt_alt rfl rfl ?_ ?_
     ·
      have hA149 := Step.r0 (KU (KN s17.n) (KU (KC k0 5) (KU (KC k0 6) (KC k0 0)))) s148
      refine k_bslice2 (ds := ([x2] : List (List DiskFile)).map (dL 2 dDiskFile)) slc59 rfl (RVs.cons h9_0 RVs.nil) (by rfl) (by rfl) rfl rfl ?_
      intro s150 v150 b150 st150 ge150 bl150 h150
      have szs150 := st150.size
      have hS := hS.trans0 st150
      have hA149 := hA149.trans0 st150
      replace hwo0_0 := hwo0_0.up2 st150
      replace hwo0_1 := hwo0_1.up2 st150
      replace hb_o0 := hb_o0.up2 st150
      replace h148 := h148.up2 st150
      have lt150 := Own.le1 h150
      refine rt_cont hA149 ?_
      refine rt_alt rfl rfl ?_ ?_
      ·
       have hA151 := Step.r0 (KU (KN s17.n) (KU (KC k0 5) (KU (KC k0 6) (KC k0 0)))) s150
       refine k_append (es := ([x2] : List (List DiskFile)).map (dL 2 dDiskFile)) elem59 rfl rfl hwo0_0 (h150.sl) (by have := (app_out hx4).1; simp only [List.length_map] at *; omega) (by have := (app_out hx4).1; simp only [List.length_map] at *; omega) rfl ?_
       intro s152 v152 st152 h152
       rw [← List.map_append, ← (app_out hx4).2] at h152
       have szs152 := st152.size
       have hS := hS.c0 st152
       have hA151 := hA151.c0 st152
       replace hwo0_1 := hwo0_1.up2 st152
       replace hb_o0 := hb_o0.up2 st152
       replace h148 := h148.up2 st152
       refine rt_cont hA151 ?_
       refine rt_act rfl rfl ?_
       have hA153 := Step.r0 (KU (KN s17.n) (KU (KC k0 5) (KU (KC k0 6) (KC k0 0)))) s152
       refine k_load_blk one60 rfl hb_o0 rfl rfl ?_
       refine rt_cont hA153 ?_
       refine rt_act rfl rfl ?_
       have hA154 := Step.r0 (KU (KN s17.n) (KU (KC k0 5) (KU (KC k0 6) (KC k0 0)))) s152
       refine k_append (es := ([a1] : List DiskCall).map dDiskCall) elem60 rfl rfl hwo0_1 (h148.sl) (by have := (app_out hx5).1; simp only [List.length_map] at *; omega) (by have := (app_out hx5).1; simp only [List.length_map] at *; omega) rfl ?_
       intro s155 v155 st155 h155
       rw [← List.map_append, ← (app_out hx5).2] at h155
       have szs155 := st155.size
       have hS := hS.c0 st155
       have hA154 := hA154.c0 st155
       replace hb_o0 := hb_o0.up2 st155
       replace h152 := h152.up2 st155
       refine rt_cont hA154 ?_
       refine rt_read (.pointer (some ⟨bo0, 0, none⟩)) rfl rfl (fun s156 st156 => ?_) ?_
       ·refine k_nilCheck rfl rfl ?_
        exact fq_end
       refine rt_read (.pointer (some ⟨bo0, 3, none⟩)) rfl rfl (fun s157 st157 => ?_) ?_
       ·refine k_field_addr fld64_3 rfl rfl ?_
        exact fq_end
       refine rt_act0 rfl rfl ?_
       have hA158 := Step.r0 (KU (KN s17.n) (KU (KC k0 5) (KU (KC k0 6) (KC k0 0)))) s155
       refine k_store_c (cs' := [.int .i64 a0.capacity, .bool a0.made, .bool a0.down, v152, wo0_1, .int .i64 a0.fuse.n, .int .i64 a0.fuse.keep, .int .i64 a0.fuse.torn]) size59 rfl rfl hb_o0 (by first | (simp; done) | omega | (dsimp only; omega)) (CellsOf.sl (h152.sl)) rfl (by first | rfl | (simp; done) | (simp; omega)) rfl ?_
       intro s159 st159 hb_o0
       have szs159 := st159.size
       have hS := hS.c0 st159
       have hA158 := hA158.c0 st159
       replace h152 := h152.up2 st159
       replace h155 := h155.up2 st159
       refine rt_cont0 hA158 ?_
       refine rt_fin ?_
       refine k_nilCheck rfl rfl ?_
       refine k_field_addr fld64_4 rfl rfl ?_
       refine k_store_c (cs' := [.int .i64 a0.capacity, .bool a0.made, .bool a0.down, v152, v155, .int .i64 a0.fuse.n, .int .i64 a0.fuse.keep, .int .i64 a0.fuse.torn]) size60 rfl rfl hb_o0 (by first | (simp; done) | omega | (dsimp only; omega)) (CellsOf.sl (h155.sl)) rfl (by first | rfl | (simp; done) | (simp; omega)) rfl ?_
       intro s160 st160 hb_o0
       have szs160 := st160.size
       have hS := hS.c0 st160
       replace h152 := h152.up2 st160
       replace h155 := h155.up2 st160
       refine k_nil ?_
       refine k_keep [(0, _), (4, _)] ⟨rfl, rfl, trivial⟩ ?_
       refine k_seq ?_
       refine k_region ?_
       refine k_move rfl rfl ?_
       obtain ⟨x15, hx15, h⟩ := ob h
       refine k_call cal50 rfl (disk_Disk_burn_w  (ODiskDisk.mk_ (⟨a0.capacity, a0.made, a0.down, x4, x5, a0.fuse⟩ : DiskDisk) (by omega) h152 h155 hb_o0) hx15) rfl ?_
       rintro s161 vr161 st161 ⟨rfl, hm161_0⟩
       obtain ⟨w161_0_0, w161_0_1, hb_161_0, hw161_0_0, hw161_0_1⟩ := hm161_0.at_
       have szs161 := st161.size
       have hS := hS.c0 st161
       refine k_assign rfl rfl ?_
       refine k_nil ?_
       refine k_keep [(4, _)] ⟨rfl, trivial⟩ ?_
       refine k_ret ?_
       obtain rfl := Option.some.inj h
       refine ⟨_, rfl, Ret.mk hS ?_⟩
       exact ⟨rfl, (ODiskDisk.mk_ x15.2 (by omega) hw161_0_0 hw161_0_1 hb_161_0)⟩
      ·
       refine rt_act rfl rfl ?_
       have hA162 := Step.r0 (KU (KN s17.n) (KU (KC k0 5) (KU (KC k0 6) (KC k0 0)))) s150
       refine k_load_blk one60 rfl hb_o0 rfl rfl ?_
       refine rt_cont hA162 ?_
       refine rt_act rfl rfl ?_
       have hA163 := Step.r0 (KU (KN s17.n) (KU (KC k0 5) (KU (KC k0 6) (KC k0 0)))) s150
       refine k_append (es := ([x2] : List (List DiskFile)).map (dL 2 dDiskFile)) elem59 rfl rfl hwo0_0 (h150.sl) (by have := (app_out hx4).1; simp only [List.length_map] at *; omega) (by have := (app_out hx4).1; simp only [List.length_map] at *; omega) rfl ?_
       intro s164 v164 st164 h164
       rw [← List.map_append, ← (app_out hx4).2] at h164
       have szs164 := st164.size
       have hS := hS.c0 st164
       have hA163 := hA163.c0 st164
       replace hwo0_1 := hwo0_1.up2 st164
       replace hb_o0 := hb_o0.up2 st164
       replace h148 := h148.up2 st164
       refine rt_cont hA163 ?_
       refine rt_act rfl rfl ?_
       have hA165 := Step.r0 (KU (KN s17.n) (KU (KC k0 5) (KU (KC k0 6) (KC k0 0)))) s164
       refine k_append (es := ([a1] : List DiskCall).map dDiskCall) elem60 rfl rfl hwo0_1 (h148.sl) (by have := (app_out hx5).1; simp only [List.length_map] at *; omega) (by have := (app_out hx5).1; simp only [List.length_map] at *; omega) rfl ?_
       intro s166 v166 st166 h166
       rw [← List.map_append, ← (app_out hx5).2] at h166
       have szs166 := st166.size
       have hS := hS.c0 st166
       have hA165 := hA165.c0 st166
       replace hb_o0 := hb_o0.up2 st166
       replace h164 := h164.up2 st166
       refine rt_cont hA165 ?_
       refine rt_read (.pointer (some ⟨bo0, 0, none⟩)) rfl rfl (fun s167 st167 => ?_) ?_
       ·refine k_nilCheck rfl rfl ?_
        exact fq_end
       refine rt_read (.pointer (some ⟨bo0, 3, none⟩)) rfl rfl (fun s168 st168 => ?_) ?_
       ·refine k_field_addr fld64_3 rfl rfl ?_
        exact fq_end
       refine rt_act0 rfl rfl ?_
       have hA169 := Step.r0 (KU (KN s17.n) (KU (KC k0 5) (KU (KC k0 6) (KC k0 0)))) s166
       refine k_store_c (cs' := [.int .i64 a0.capacity, .bool a0.made, .bool a0.down, v164, wo0_1, .int .i64 a0.fuse.n, .int .i64 a0.fuse.keep, .int .i64 a0.fuse.torn]) size59 rfl rfl hb_o0 (by first | (simp; done) | omega | (dsimp only; omega)) (CellsOf.sl (h164.sl)) rfl (by first | rfl | (simp; done) | (simp; omega)) rfl ?_
       intro s170 st170 hb_o0
       have szs170 := st170.size
       have hS := hS.c0 st170
       have hA169 := hA169.c0 st170
       replace h164 := h164.up2 st170
       replace h166 := h166.up2 st170
       refine rt_cont0 hA169 ?_
       refine rt_fin ?_
       refine k_nilCheck rfl rfl ?_
       refine k_field_addr fld64_4 rfl rfl ?_
       refine k_store_c (cs' := [.int .i64 a0.capacity, .bool a0.made, .bool a0.down, v164, v166, .int .i64 a0.fuse.n, .int .i64 a0.fuse.keep, .int .i64 a0.fuse.torn]) size60 rfl rfl hb_o0 (by first | (simp; done) | omega | (dsimp only; omega)) (CellsOf.sl (h166.sl)) rfl (by first | rfl | (simp; done) | (simp; omega)) rfl ?_
       intro s171 st171 hb_o0
       have szs171 := st171.size
       have hS := hS.c0 st171
       replace h164 := h164.up2 st171
       replace h166 := h166.up2 st171
       refine k_nil ?_
       refine k_keep [(0, _), (4, _)] ⟨rfl, rfl, trivial⟩ ?_
       refine k_seq ?_
       refine k_region ?_
       refine k_move rfl rfl ?_
       obtain ⟨x16, hx16, h⟩ := ob h
       refine k_call cal50 rfl (disk_Disk_burn_w  (ODiskDisk.mk_ (⟨a0.capacity, a0.made, a0.down, x4, x5, a0.fuse⟩ : DiskDisk) (by omega) h164 h166 hb_o0) hx16) rfl ?_
       rintro s172 vr172 st172 ⟨rfl, hm172_0⟩
       obtain ⟨w172_0_0, w172_0_1, hb_172_0, hw172_0_0, hw172_0_1⟩ := hm172_0.at_
       have szs172 := st172.size
       have hS := hS.c0 st172
       refine k_assign rfl rfl ?_
       refine k_nil ?_
       refine k_keep [(4, _)] ⟨rfl, trivial⟩ ?_
       refine k_ret ?_
       obtain rfl := Option.some.inj h
       refine ⟨_, rfl, Ret.mk hS ?_⟩
       exact ⟨rfl, (ODiskDisk.mk_ x16.2 (by omega) hw172_0_0 hw172_0_1 hb_172_0)⟩
     ·
      refine rt_act rfl rfl ?_
      have hA173 := Step.r0 (KU (KN s17.n) (KU (KC k0 5) (KU (KC k0 6) (KC k0 0)))) s148
      refine k_load_blk one60 rfl hb_o0 rfl rfl ?_
      refine rt_cont hA173 ?_
      refine rt_act rfl rfl ?_
      have hA174 := Step.r0 (KU (KN s17.n) (KU (KC k0 5) (KU (KC k0 6) (KC k0 0)))) s148
      refine k_bslice2 (ds := ([x2] : List (List DiskFile)).map (dL 2 dDiskFile)) slc59 rfl (RVs.cons h9_0 RVs.nil) (by rfl) (by rfl) rfl rfl ?_
      intro s175 v175 b175 st175 ge175 bl175 h175
      have szs175 := st175.size
      have hS := hS.trans0 st175
      have hA174 := hA174.trans0 st175
      replace hwo0_0 := hwo0_0.up2 st175
      replace hwo0_1 := hwo0_1.up2 st175
      replace hb_o0 := hb_o0.up2 st175
      replace h148 := h148.up2 st175
      have lt175 := Own.le1 h175
      refine rt_cont hA174 ?_
      refine rt_act rfl rfl ?_
      have hA176 := Step.r0 (KU (KN s17.n) (KU (KC k0 5) (KU (KC k0 6) (KC k0 0)))) s175
      refine k_append (es := ([x2] : List (List DiskFile)).map (dL 2 dDiskFile)) elem59 rfl rfl hwo0_0 (h175.sl) (by have := (app_out hx4).1; simp only [List.length_map] at *; omega) (by have := (app_out hx4).1; simp only [List.length_map] at *; omega) rfl ?_
      intro s177 v177 st177 h177
      rw [← List.map_append, ← (app_out hx4).2] at h177
      have szs177 := st177.size
      have hS := hS.c0 st177
      have hA176 := hA176.c0 st177
      replace hwo0_1 := hwo0_1.up2 st177
      replace hb_o0 := hb_o0.up2 st177
      replace h148 := h148.up2 st177
      refine rt_cont hA176 ?_
      refine rt_act rfl rfl ?_
      have hA178 := Step.r0 (KU (KN s17.n) (KU (KC k0 5) (KU (KC k0 6) (KC k0 0)))) s177
      refine k_append (es := ([a1] : List DiskCall).map dDiskCall) elem60 rfl rfl hwo0_1 (h148.sl) (by have := (app_out hx5).1; simp only [List.length_map] at *; omega) (by have := (app_out hx5).1; simp only [List.length_map] at *; omega) rfl ?_
      intro s179 v179 st179 h179
      rw [← List.map_append, ← (app_out hx5).2] at h179
      have szs179 := st179.size
      have hS := hS.c0 st179
      have hA178 := hA178.c0 st179
      replace hb_o0 := hb_o0.up2 st179
      replace h177 := h177.up2 st179
      refine rt_cont hA178 ?_
      refine rt_read (.pointer (some ⟨bo0, 0, none⟩)) rfl rfl (fun s180 st180 => ?_) ?_
      ·refine k_nilCheck rfl rfl ?_
       exact fq_end
      refine rt_read (.pointer (some ⟨bo0, 3, none⟩)) rfl rfl (fun s181 st181 => ?_) ?_
      ·refine k_field_addr fld64_3 rfl rfl ?_
       exact fq_end
      refine rt_act0 rfl rfl ?_
      have hA182 := Step.r0 (KU (KN s17.n) (KU (KC k0 5) (KU (KC k0 6) (KC k0 0)))) s179
      refine k_store_c (cs' := [.int .i64 a0.capacity, .bool a0.made, .bool a0.down, v177, wo0_1, .int .i64 a0.fuse.n, .int .i64 a0.fuse.keep, .int .i64 a0.fuse.torn]) size59 rfl rfl hb_o0 (by first | (simp; done) | omega | (dsimp only; omega)) (CellsOf.sl (h177.sl)) rfl (by first | rfl | (simp; done) | (simp; omega)) rfl ?_
      intro s183 st183 hb_o0
      have szs183 := st183.size
      have hS := hS.c0 st183
      have hA182 := hA182.c0 st183
      replace h177 := h177.up2 st183
      replace h179 := h179.up2 st183
      refine rt_cont0 hA182 ?_
      refine rt_fin ?_
      refine k_nilCheck rfl rfl ?_
      refine k_field_addr fld64_4 rfl rfl ?_
      refine k_store_c (cs' := [.int .i64 a0.capacity, .bool a0.made, .bool a0.down, v177, v179, .int .i64 a0.fuse.n, .int .i64 a0.fuse.keep, .int .i64 a0.fuse.torn]) size60 rfl rfl hb_o0 (by first | (simp; done) | omega | (dsimp only; omega)) (CellsOf.sl (h179.sl)) rfl (by first | rfl | (simp; done) | (simp; omega)) rfl ?_
      intro s184 st184 hb_o0
      have szs184 := st184.size
      have hS := hS.c0 st184
      replace h177 := h177.up2 st184
      replace h179 := h179.up2 st184
      refine k_nil ?_
      refine k_keep [(0, _), (4, _)] ⟨rfl, rfl, trivial⟩ ?_
      refine k_seq ?_
      refine k_region ?_
      refine k_move rfl rfl ?_
      obtain ⟨x17, hx17, h⟩ := ob h
      refine k_call cal50 rfl (disk_Disk_burn_w  (ODiskDisk.mk_ (⟨a0.capacity, a0.made, a0.down, x4, x5, a0.fuse⟩ : DiskDisk) (by omega) h177 h179 hb_o0) hx17) rfl ?_
      rintro s185 vr185 st185 ⟨rfl, hm185_0⟩
      obtain ⟨w185_0_0, w185_0_1, hb_185_0, hw185_0_0, hw185_0_1⟩ := hm185_0.at_
      have szs185 := st185.size
      have hS := hS.c0 st185
      refine k_assign rfl rfl ?_
      refine k_nil ?_
      refine k_keep [(4, _)] ⟨rfl, trivial⟩ ?_
      refine k_ret ?_
      obtain rfl := Option.some.inj h
      refine ⟨_, rfl, Ret.mk hS ?_⟩
      exact ⟨rfl, (ODiskDisk.mk_ x17.2 (by omega) hw185_0_0 hw185_0_1 hb_185_0)⟩
  ·
   refine rt_alt rfl rfl ?_ ?_
   ·
    have hA186 := Step.r0 (KU (KN s17.n) (KU (KC k0 5) (KU (KC k0 6) (KC k0 0)))) s19
    refine k_bslice2 (ds := ([x2] : List (List DiskFile)).map (dL 2 dDiskFile)) slc59 rfl (RVs.cons h9_0 RVs.nil) (by rfl) (by rfl) rfl rfl ?_
    intro s187 v187 b187 st187 ge187 bl187 h187
    have szs187 := st187.size
    have hS := hS.trans0 st187
    have hA186 := hA186.trans0 st187
    replace hp1 := hp1.up2 st187
    replace hwo0_0 := hwo0_0.up2 st187
    replace hwo0_1 := hwo0_1.up2 st187
    replace hb_o0 := hb_o0.up2 st187
    have lt187 := Own.le1 h187
    refine rt_cont hA186 ?_
    refine rt_alt rfl rfl ?_ ?_
    ·
     have hA188 := Step.r0 (KU (KN s17.n) (KU (KC k0 5) (KU (KC k0 6) (KC k0 0)))) s187
     refine k_load_blk one59 rfl hb_o0 rfl rfl ?_
     refine rt_cont hA188 ?_
     refine rt_alt rfl rfl ?_ ?_
     ·
      have hA189 := Step.r0 (KU (KN s17.n) (KU (KC k0 5) (KU (KC k0 6) (KC k0 0)))) s187
      refine k_append (es := ([x2] : List (List DiskFile)).map (dL 2 dDiskFile)) elem59 rfl rfl hwo0_0 (h187.sl) (by have := (app_out hx4).1; simp only [List.length_map] at *; omega) (by have := (app_out hx4).1; simp only [List.length_map] at *; omega) rfl ?_
      intro s190 v190 st190 h190
      rw [← List.map_append, ← (app_out hx4).2] at h190
      have szs190 := st190.size
      have hS := hS.c0 st190
      have hA189 := hA189.c0 st190
      replace hp1 := hp1.up2 st190
      replace hwo0_1 := hwo0_1.up2 st190
      replace hb_o0 := hb_o0.up2 st190
      refine rt_cont hA189 ?_
      refine rt_alt rfl rfl ?_ ?_
      ·
       have hA191 := Step.r0 (KU (KN s17.n) (KU (KC k0 5) (KU (KC k0 6) (KC k0 0)))) s190
       refine k_load_blk one60 rfl hb_o0 rfl rfl ?_
       refine rt_cont hA191 ?_
       refine rt_act rfl rfl ?_
       have hA192 := Step.r0 (KU (KN s17.n) (KU (KC k0 5) (KU (KC k0 6) (KC k0 0)))) s190
       refine k_bslice2 (ds := ([a1] : List DiskCall).map dDiskCall) slc60 rfl (RVs.cons hp1 RVs.nil) (by rfl) (by simp [dDiskCall_wd]) rfl rfl ?_
       intro s193 v193 b193 st193 ge193 bl193 h193
       have szs193 := st193.size
       have hS := hS.trans0 st193
       have hA192 := hA192.trans0 st193
       replace hwo0_1 := hwo0_1.up2 st193
       replace hb_o0 := hb_o0.up2 st193
       replace h190 := h190.up2 st193
       have lt193 := Own.le1 h193
       refine rt_cont hA192 ?_
       refine rt_act rfl rfl ?_
       have hA194 := Step.r0 (KU (KN s17.n) (KU (KC k0 5) (KU (KC k0 6) (KC k0 0)))) s193
       refine k_append (es := ([a1] : List DiskCall).map dDiskCall) elem60 rfl rfl hwo0_1 (h193.sl) (by have := (app_out hx5).1; simp only [List.length_map] at *; omega) (by have := (app_out hx5).1; simp only [List.length_map] at *; omega) rfl ?_
       intro s195 v195 st195 h195
       rw [← List.map_append, ← (app_out hx5).2] at h195
       have szs195 := st195.size
       have hS := hS.c0 st195
       have hA194 := hA194.c0 st195
       replace hb_o0 := hb_o0.up2 st195
       replace h190 := h190.up2 st195
       refine rt_cont hA194 ?_
       refine rt_read (.pointer (some ⟨bo0, 0, none⟩)) rfl rfl (fun s196 st196 => ?_) ?_
       ·refine k_nilCheck rfl rfl ?_
        exact fq_end
       refine rt_read (.pointer (some ⟨bo0, 3, none⟩)) rfl rfl (fun s197 st197 => ?_) ?_
       ·refine k_field_addr fld64_3 rfl rfl ?_
        exact fq_end
       refine rt_act0 rfl rfl ?_
       have hA198 := Step.r0 (KU (KN s17.n) (KU (KC k0 5) (KU (KC k0 6) (KC k0 0)))) s195
       refine k_store_c (cs' := [.int .i64 a0.capacity, .bool a0.made, .bool a0.down, v190, wo0_1, .int .i64 a0.fuse.n, .int .i64 a0.fuse.keep, .int .i64 a0.fuse.torn]) size59 rfl rfl hb_o0 (by first | (simp; done) | omega | (dsimp only; omega)) (CellsOf.sl (h190.sl)) rfl (by first | rfl | (simp; done) | (simp; omega)) rfl ?_
       intro s199 st199 hb_o0
       have szs199 := st199.size
       have hS := hS.c0 st199
       have hA198 := hA198.c0 st199
       replace h190 := h190.up2 st199
       replace h195 := h195.up2 st199
       refine rt_cont0 hA198 ?_
       refine rt_fin ?_
       refine k_nilCheck rfl rfl ?_
       refine k_field_addr fld64_4 rfl rfl ?_
       refine k_store_c (cs' := [.int .i64 a0.capacity, .bool a0.made, .bool a0.down, v190, v195, .int .i64 a0.fuse.n, .int .i64 a0.fuse.keep, .int .i64 a0.fuse.torn]) size60 rfl rfl hb_o0 (by first | (simp; done) | omega | (dsimp only; omega)) (CellsOf.sl (h195.sl)) rfl (by first | rfl | (simp; done) | (simp; omega)) rfl ?_
       intro s200 st200 hb_o0
       have szs200 := st200.size
       have hS := hS.c0 st200
       replace h190 := h190.up2 st200
       replace h195 := h195.up2 st200
       refine k_nil ?_
       refine k_keep [(0, _), (4, _)] ⟨rfl, rfl, trivial⟩ ?_
       refine k_seq ?_
       refine k_region ?_
       refine k_move rfl rfl ?_
       obtain ⟨x18, hx18, h⟩ := ob h
       refine k_call cal50 rfl (disk_Disk_burn_w  (ODiskDisk.mk_ (⟨a0.capacity, a0.made, a0.down, x4, x5, a0.fuse⟩ : DiskDisk) (by omega) h190 h195 hb_o0) hx18) rfl ?_
       rintro s201 vr201 st201 ⟨rfl, hm201_0⟩
       obtain ⟨w201_0_0, w201_0_1, hb_201_0, hw201_0_0, hw201_0_1⟩ := hm201_0.at_
       have szs201 := st201.size
       have hS := hS.c0 st201
       refine k_assign rfl rfl ?_
       refine k_nil ?_
       refine k_keep [(4, _)] ⟨rfl, trivial⟩ ?_
       refine k_ret ?_
       obtain rfl := Option.some.inj h
       refine ⟨_, rfl, Ret.mk hS ?_⟩
       exact ⟨rfl, (ODiskDisk.mk_ x18.2 (by omega) hw201_0_0 hw201_0_1 hb_201_0)⟩
      ·
       refine rt_act rfl rfl ?_
       have hA202 := Step.r0 (KU (KN s17.n) (KU (KC k0 5) (KU (KC k0 6) (KC k0 0)))) s190
       refine k_bslice2 (ds := ([a1] : List DiskCall).map dDiskCall) slc60 rfl (RVs.cons hp1 RVs.nil) (by rfl) (by simp [dDiskCall_wd]) rfl rfl ?_
       intro s203 v203 b203 st203 ge203 bl203 h203
       have szs203 := st203.size
       have hS := hS.trans0 st203
       have hA202 := hA202.trans0 st203
       replace hwo0_1 := hwo0_1.up2 st203
       replace hb_o0 := hb_o0.up2 st203
       replace h190 := h190.up2 st203
       have lt203 := Own.le1 h203
       refine rt_cont hA202 ?_
       refine rt_act rfl rfl ?_
       have hA204 := Step.r0 (KU (KN s17.n) (KU (KC k0 5) (KU (KC k0 6) (KC k0 0)))) s203
       refine k_load_blk one60 rfl hb_o0 rfl rfl ?_
       refine rt_cont hA204 ?_
       refine rt_act rfl rfl ?_
       have hA205 := Step.r0 (KU (KN s17.n) (KU (KC k0 5) (KU (KC k0 6) (KC k0 0)))) s203
       refine k_append (es := ([a1] : List DiskCall).map dDiskCall) elem60 rfl rfl hwo0_1 (h203.sl) (by have := (app_out hx5).1; simp only [List.length_map] at *; omega) (by have := (app_out hx5).1; simp only [List.length_map] at *; omega) rfl ?_
       intro s206 v206 st206 h206
       rw [← List.map_append, ← (app_out hx5).2] at h206
       have szs206 := st206.size
       have hS := hS.c0 st206
       have hA205 := hA205.c0 st206
       replace hb_o0 := hb_o0.up2 st206
       replace h190 := h190.up2 st206
       refine rt_cont hA205 ?_
       refine rt_read (.pointer (some ⟨bo0, 0, none⟩)) rfl rfl (fun s207 st207 => ?_) ?_
       ·refine k_nilCheck rfl rfl ?_
        exact fq_end
       refine rt_read (.pointer (some ⟨bo0, 3, none⟩)) rfl rfl (fun s208 st208 => ?_) ?_
       ·refine k_field_addr fld64_3 rfl rfl ?_
        exact fq_end
       refine rt_act0 rfl rfl ?_
       have hA209 := Step.r0 (KU (KN s17.n) (KU (KC k0 5) (KU (KC k0 6) (KC k0 0)))) s206
       refine k_store_c (cs' := [.int .i64 a0.capacity, .bool a0.made, .bool a0.down, v190, wo0_1, .int .i64 a0.fuse.n, .int .i64 a0.fuse.keep, .int .i64 a0.fuse.torn]) size59 rfl rfl hb_o0 (by first | (simp; done) | omega | (dsimp only; omega)) (CellsOf.sl (h190.sl)) rfl (by first | rfl | (simp; done) | (simp; omega)) rfl ?_
       intro s210 st210 hb_o0
       have szs210 := st210.size
       have hS := hS.c0 st210
       have hA209 := hA209.c0 st210
       replace h190 := h190.up2 st210
       replace h206 := h206.up2 st210
       refine rt_cont0 hA209 ?_
       refine rt_fin ?_
       refine k_nilCheck rfl rfl ?_
       refine k_field_addr fld64_4 rfl rfl ?_
       refine k_store_c (cs' := [.int .i64 a0.capacity, .bool a0.made, .bool a0.down, v190, v206, .int .i64 a0.fuse.n, .int .i64 a0.fuse.keep, .int .i64 a0.fuse.torn]) size60 rfl rfl hb_o0 (by first | (simp; done) | omega | (dsimp only; omega)) (CellsOf.sl (h206.sl)) rfl (by first | rfl | (simp; done) | (simp; omega)) rfl ?_
       intro s211 st211 hb_o0
       have szs211 := st211.size
       have hS := hS.c0 st211
       replace h190 := h190.up2 st211
       replace h206 := h206.up2 st211
       refine k_nil ?_
       refine k_keep [(0, _), (4, _)] ⟨rfl, rfl, trivial⟩ ?_
       refine k_seq ?_
       refine k_region ?_
       refine k_move rfl rfl ?_
       obtain ⟨x19, hx19, h⟩ := ob h
       refine k_call cal50 rfl (disk_Disk_burn_w  (ODiskDisk.mk_ (⟨a0.capacity, a0.made, a0.down, x4, x5, a0.fuse⟩ : DiskDisk) (by omega) h190 h206 hb_o0) hx19) rfl ?_
       rintro s212 vr212 st212 ⟨rfl, hm212_0⟩
       obtain ⟨w212_0_0, w212_0_1, hb_212_0, hw212_0_0, hw212_0_1⟩ := hm212_0.at_
       have szs212 := st212.size
       have hS := hS.c0 st212
       refine k_assign rfl rfl ?_
       refine k_nil ?_
       refine k_keep [(4, _)] ⟨rfl, trivial⟩ ?_
       refine k_ret ?_
       obtain rfl := Option.some.inj h
       refine ⟨_, rfl, Ret.mk hS ?_⟩
       exact ⟨rfl, (ODiskDisk.mk_ x19.2 (by omega) hw212_0_0 hw212_0_1 hb_212_0)⟩
     ·
      refine rt_alt rfl rfl ?_ ?_
      ·
       have hA213 := Step.r0 (KU (KN s17.n) (KU (KC k0 5) (KU (KC k0 6) (KC k0 0)))) s187
       refine k_load_blk one60 rfl hb_o0 rfl rfl ?_
       refine rt_cont hA213 ?_
       refine rt_alt rfl rfl ?_ ?_
       ·
        have hA214 := Step.r0 (KU (KN s17.n) (KU (KC k0 5) (KU (KC k0 6) (KC k0 0)))) s187
        refine k_append (es := ([x2] : List (List DiskFile)).map (dL 2 dDiskFile)) elem59 rfl rfl hwo0_0 (h187.sl) (by have := (app_out hx4).1; simp only [List.length_map] at *; omega) (by have := (app_out hx4).1; simp only [List.length_map] at *; omega) rfl ?_
        intro s215 v215 st215 h215
        rw [← List.map_append, ← (app_out hx4).2] at h215
        have szs215 := st215.size
        have hS := hS.c0 st215
        have hA214 := hA214.c0 st215
        replace hp1 := hp1.up2 st215
        replace hwo0_1 := hwo0_1.up2 st215
        replace hb_o0 := hb_o0.up2 st215
        refine rt_cont hA214 ?_
        refine rt_act rfl rfl ?_
        have hA216 := Step.r0 (KU (KN s17.n) (KU (KC k0 5) (KU (KC k0 6) (KC k0 0)))) s215
        refine k_bslice2 (ds := ([a1] : List DiskCall).map dDiskCall) slc60 rfl (RVs.cons hp1 RVs.nil) (by rfl) (by simp [dDiskCall_wd]) rfl rfl ?_
        intro s217 v217 b217 st217 ge217 bl217 h217
        have szs217 := st217.size
        have hS := hS.trans0 st217
        have hA216 := hA216.trans0 st217
        replace hwo0_1 := hwo0_1.up2 st217
        replace hb_o0 := hb_o0.up2 st217
        replace h215 := h215.up2 st217
        have lt217 := Own.le1 h217
        refine rt_cont hA216 ?_
        refine rt_act rfl rfl ?_
        have hA218 := Step.r0 (KU (KN s17.n) (KU (KC k0 5) (KU (KC k0 6) (KC k0 0)))) s217
        refine k_append (es := ([a1] : List DiskCall).map dDiskCall) elem60 rfl rfl hwo0_1 (h217.sl) (by have := (app_out hx5).1; simp only [List.length_map] at *; omega) (by have := (app_out hx5).1; simp only [List.length_map] at *; omega) rfl ?_
        intro s219 v219 st219 h219
        rw [← List.map_append, ← (app_out hx5).2] at h219
        have szs219 := st219.size
        have hS := hS.c0 st219
        have hA218 := hA218.c0 st219
        replace hb_o0 := hb_o0.up2 st219
        replace h215 := h215.up2 st219
        refine rt_cont hA218 ?_
        refine rt_read (.pointer (some ⟨bo0, 0, none⟩)) rfl rfl (fun s220 st220 => ?_) ?_
        ·refine k_nilCheck rfl rfl ?_
         exact fq_end
        refine rt_read (.pointer (some ⟨bo0, 3, none⟩)) rfl rfl (fun s221 st221 => ?_) ?_
        ·refine k_field_addr fld64_3 rfl rfl ?_
         exact fq_end
        refine rt_act0 rfl rfl ?_
        have hA222 := Step.r0 (KU (KN s17.n) (KU (KC k0 5) (KU (KC k0 6) (KC k0 0)))) s219
        refine k_store_c (cs' := [.int .i64 a0.capacity, .bool a0.made, .bool a0.down, v215, wo0_1, .int .i64 a0.fuse.n, .int .i64 a0.fuse.keep, .int .i64 a0.fuse.torn]) size59 rfl rfl hb_o0 (by first | (simp; done) | omega | (dsimp only; omega)) (CellsOf.sl (h215.sl)) rfl (by first | rfl | (simp; done) | (simp; omega)) rfl ?_
        intro s223 st223 hb_o0
        have szs223 := st223.size
        have hS := hS.c0 st223
        have hA222 := hA222.c0 st223
        replace h215 := h215.up2 st223
        replace h219 := h219.up2 st223
        refine rt_cont0 hA222 ?_
        refine rt_fin ?_
        refine k_nilCheck rfl rfl ?_
        refine k_field_addr fld64_4 rfl rfl ?_
        refine k_store_c (cs' := [.int .i64 a0.capacity, .bool a0.made, .bool a0.down, v215, v219, .int .i64 a0.fuse.n, .int .i64 a0.fuse.keep, .int .i64 a0.fuse.torn]) size60 rfl rfl hb_o0 (by first | (simp; done) | omega | (dsimp only; omega)) (CellsOf.sl (h219.sl)) rfl (by first | rfl | (simp; done) | (simp; omega)) rfl ?_
        intro s224 st224 hb_o0
        have szs224 := st224.size
        have hS := hS.c0 st224
        replace h215 := h215.up2 st224
        replace h219 := h219.up2 st224
        refine k_nil ?_
        refine k_keep [(0, _), (4, _)] ⟨rfl, rfl, trivial⟩ ?_
        refine k_seq ?_
        refine k_region ?_
        refine k_move rfl rfl ?_
        obtain ⟨x20, hx20, h⟩ := ob h
        refine k_call cal50 rfl (disk_Disk_burn_w  (ODiskDisk.mk_ (⟨a0.capacity, a0.made, a0.down, x4, x5, a0.fuse⟩ : DiskDisk) (by omega) h215 h219 hb_o0) hx20) rfl ?_
        rintro s225 vr225 st225 ⟨rfl, hm225_0⟩
        obtain ⟨w225_0_0, w225_0_1, hb_225_0, hw225_0_0, hw225_0_1⟩ := hm225_0.at_
        have szs225 := st225.size
        have hS := hS.c0 st225
        refine k_assign rfl rfl ?_
        refine k_nil ?_
        refine k_keep [(4, _)] ⟨rfl, trivial⟩ ?_
        refine k_ret ?_
        obtain rfl := Option.some.inj h
        refine ⟨_, rfl, Ret.mk hS ?_⟩
        exact ⟨rfl, (ODiskDisk.mk_ x20.2 (by omega) hw225_0_0 hw225_0_1 hb_225_0)⟩
       ·
        refine rt_act rfl rfl ?_
        have hA226 := Step.r0 (KU (KN s17.n) (KU (KC k0 5) (KU (KC k0 6) (KC k0 0)))) s187
        refine k_bslice2 (ds := ([a1] : List DiskCall).map dDiskCall) slc60 rfl (RVs.cons hp1 RVs.nil) (by rfl) (by simp [dDiskCall_wd]) rfl rfl ?_
        intro s227 v227 b227 st227 ge227 bl227 h227
        have szs227 := st227.size
        have hS := hS.trans0 st227
        have hA226 := hA226.trans0 st227
        replace hwo0_0 := hwo0_0.up2 st227
        replace hwo0_1 := hwo0_1.up2 st227
        replace hb_o0 := hb_o0.up2 st227
        replace h187 := h187.up2 st227
        have lt227 := Own.le1 h227
        refine rt_cont hA226 ?_
        refine rt_act rfl rfl ?_
        have hA228 := Step.r0 (KU (KN s17.n) (KU (KC k0 5) (KU (KC k0 6) (KC k0 0)))) s227
        refine k_append (es := ([x2] : List (List DiskFile)).map (dL 2 dDiskFile)) elem59 rfl rfl hwo0_0 (h187.sl) (by have := (app_out hx4).1; simp only [List.length_map] at *; omega) (by have := (app_out hx4).1; simp only [List.length_map] at *; omega) rfl ?_
        intro s229 v229 st229 h229
        rw [← List.map_append, ← (app_out hx4).2] at h229
        have szs229 := st229.size
        have hS := hS.c0 st229
        have hA228 := hA228.c0 st229
        replace hwo0_1 := hwo0_1.up2 st229
        replace hb_o0 := hb_o0.up2 st229
        replace h227 := h227.up2 st229
        refine rt_cont hA228 ?_
        refine rt_act rfl rfl ?_
        have hA230 := Step.r0 (KU (KN s17.n) (KU (KC k0 5) (KU (KC k0 6) (KC k0 0)))) s229
        refine k_append (es := ([a1] : List DiskCall).map dDiskCall) elem60 rfl rfl hwo0_1 (h227.sl) (by have := (app_out hx5).1; simp only [List.length_map] at *; omega) (by have := (app_out hx5).1; simp only [List.length_map] at *; omega) rfl ?_
        intro s231 v231 st231 h231
        rw [← List.map_append, ← (app_out hx5).2] at h231
        have szs231 := st231.size
        have hS := hS.c0 st231
        have hA230 := hA230.c0 st231
        replace hb_o0 := hb_o0.up2 st231
        replace h229 := h229.up2 st231
        refine rt_cont hA230 ?_
        refine rt_read (.pointer (some ⟨bo0, 0, none⟩)) rfl rfl (fun s232 st232 => ?_) ?_
        ·refine k_nilCheck rfl rfl ?_
         exact fq_end
        refine rt_read (.pointer (some ⟨bo0, 3, none⟩)) rfl rfl (fun s233 st233 => ?_) ?_
        ·refine k_field_addr fld64_3 rfl rfl ?_
         exact fq_end
        refine rt_act0 rfl rfl ?_
        have hA234 := Step.r0 (KU (KN s17.n) (KU (KC k0 5) (KU (KC k0 6) (KC k0 0)))) s231
        refine k_store_c (cs' := [.int .i64 a0.capacity, .bool a0.made, .bool a0.down, v229, wo0_1, .int .i64 a0.fuse.n, .int .i64 a0.fuse.keep, .int .i64 a0.fuse.torn]) size59 rfl rfl hb_o0 (by first | (simp; done) | omega | (dsimp only; omega)) (CellsOf.sl (h229.sl)) rfl (by first | rfl | (simp; done) | (simp; omega)) rfl ?_
        intro s235 st235 hb_o0
        have szs235 := st235.size
        have hS := hS.c0 st235
        have hA234 := hA234.c0 st235
        replace h229 := h229.up2 st235
        replace h231 := h231.up2 st235
        refine rt_cont0 hA234 ?_
        refine rt_fin ?_
        refine k_nilCheck rfl rfl ?_
        refine k_field_addr fld64_4 rfl rfl ?_
        refine k_store_c (cs' := [.int .i64 a0.capacity, .bool a0.made, .bool a0.down, v229, v231, .int .i64 a0.fuse.n, .int .i64 a0.fuse.keep, .int .i64 a0.fuse.torn]) size60 rfl rfl hb_o0 (by first | (simp; done) | omega | (dsimp only; omega)) (CellsOf.sl (h231.sl)) rfl (by first | rfl | (simp; done) | (simp; omega)) rfl ?_
        intro s236 st236 hb_o0
        have szs236 := st236.size
        have hS := hS.c0 st236
        replace h229 := h229.up2 st236
        replace h231 := h231.up2 st236
        refine k_nil ?_
        refine k_keep [(0, _), (4, _)] ⟨rfl, rfl, trivial⟩ ?_
        refine k_seq ?_
        refine k_region ?_
        refine k_move rfl rfl ?_
        obtain ⟨x21, hx21, h⟩ := ob h
        refine k_call cal50 rfl (disk_Disk_burn_w  (ODiskDisk.mk_ (⟨a0.capacity, a0.made, a0.down, x4, x5, a0.fuse⟩ : DiskDisk) (by omega) h229 h231 hb_o0) hx21) rfl ?_
        rintro s237 vr237 st237 ⟨rfl, hm237_0⟩
        obtain ⟨w237_0_0, w237_0_1, hb_237_0, hw237_0_0, hw237_0_1⟩ := hm237_0.at_
        have szs237 := st237.size
        have hS := hS.c0 st237
        refine k_assign rfl rfl ?_
        refine k_nil ?_
        refine k_keep [(4, _)] ⟨rfl, trivial⟩ ?_
        refine k_ret ?_
        obtain rfl := Option.some.inj h
        refine ⟨_, rfl, Ret.mk hS ?_⟩
        exact ⟨rfl, (ODiskDisk.mk_ x21.2 (by omega) hw237_0_0 hw237_0_1 hb_237_0)⟩
      ·
       refine rt_act rfl rfl ?_
       have hA238 := Step.r0 (KU (KN s17.n) (KU (KC k0 5) (KU (KC k0 6) (KC k0 0)))) s187
       refine k_bslice2 (ds := ([a1] : List DiskCall).map dDiskCall) slc60 rfl (RVs.cons hp1 RVs.nil) (by rfl) (by simp [dDiskCall_wd]) rfl rfl ?_
       intro s239 v239 b239 st239 ge239 bl239 h239
       have szs239 := st239.size
       have hS := hS.trans0 st239
       have hA238 := hA238.trans0 st239
       replace hwo0_0 := hwo0_0.up2 st239
       replace hwo0_1 := hwo0_1.up2 st239
       replace hb_o0 := hb_o0.up2 st239
       replace h187 := h187.up2 st239
       have lt239 := Own.le1 h239
       refine rt_cont hA238 ?_
       refine rt_alt rfl rfl ?_ ?_
       ·
        have hA240 := Step.r0 (KU (KN s17.n) (KU (KC k0 5) (KU (KC k0 6) (KC k0 0)))) s239
        refine k_append (es := ([x2] : List (List DiskFile)).map (dL 2 dDiskFile)) elem59 rfl rfl hwo0_0 (h187.sl) (by have := (app_out hx4).1; simp only [List.length_map] at *; omega) (by have := (app_out hx4).1; simp only [List.length_map] at *; omega) rfl ?_
        intro s241 v241 st241 h241
        rw [← List.map_append, ← (app_out hx4).2] at h241
        have szs241 := st241.size
        have hS := hS.c0 st241
        have hA240 := hA240.c0 st241
        replace hwo0_1 := hwo0_1.up2 st241
        replace hb_o0 := hb_o0.up2 st241
        replace h239 := h239.up2 st241
        refine rt_cont hA240 ?_
        refine rt_act rfl rfl ?_
        have hA242 := Step.r0 (KU (KN s17.n) (KU (KC k0 5) (KU (KC k0 6) (KC k0 0)))) s241
        refine k_load_blk one60 rfl hb_o0 rfl rfl ?_
        refine rt_cont hA242 ?_
        refine rt_act rfl rfl ?_
        have hA243 := Step.r0 (KU (KN s17.n) (KU (KC k0 5) (KU (KC k0 6) (KC k0 0)))) s241
        refine k_append (es := ([a1] : List DiskCall).map dDiskCall) elem60 rfl rfl hwo0_1 (h239.sl) (by have := (app_out hx5).1; simp only [List.length_map] at *; omega) (by have := (app_out hx5).1; simp only [List.length_map] at *; omega) rfl ?_
        intro s244 v244 st244 h244
        rw [← List.map_append, ← (app_out hx5).2] at h244
        have szs244 := st244.size
        have hS := hS.c0 st244
        have hA243 := hA243.c0 st244
        replace hb_o0 := hb_o0.up2 st244
        replace h241 := h241.up2 st244
        refine rt_cont hA243 ?_
        refine rt_read (.pointer (some ⟨bo0, 0, none⟩)) rfl rfl (fun s245 st245 => ?_) ?_
        ·refine k_nilCheck rfl rfl ?_
         exact fq_end
        refine rt_read (.pointer (some ⟨bo0, 3, none⟩)) rfl rfl (fun s246 st246 => ?_) ?_
        ·refine k_field_addr fld64_3 rfl rfl ?_
         exact fq_end
        refine rt_act0 rfl rfl ?_
        have hA247 := Step.r0 (KU (KN s17.n) (KU (KC k0 5) (KU (KC k0 6) (KC k0 0)))) s244
        refine k_store_c (cs' := [.int .i64 a0.capacity, .bool a0.made, .bool a0.down, v241, wo0_1, .int .i64 a0.fuse.n, .int .i64 a0.fuse.keep, .int .i64 a0.fuse.torn]) size59 rfl rfl hb_o0 (by first | (simp; done) | omega | (dsimp only; omega)) (CellsOf.sl (h241.sl)) rfl (by first | rfl | (simp; done) | (simp; omega)) rfl ?_
        intro s248 st248 hb_o0
        have szs248 := st248.size
        have hS := hS.c0 st248
        have hA247 := hA247.c0 st248
        replace h241 := h241.up2 st248
        replace h244 := h244.up2 st248
        refine rt_cont0 hA247 ?_
        refine rt_fin ?_
        refine k_nilCheck rfl rfl ?_
        refine k_field_addr fld64_4 rfl rfl ?_
        refine k_store_c (cs' := [.int .i64 a0.capacity, .bool a0.made, .bool a0.down, v241, v244, .int .i64 a0.fuse.n, .int .i64 a0.fuse.keep, .int .i64 a0.fuse.torn]) size60 rfl rfl hb_o0 (by first | (simp; done) | omega | (dsimp only; omega)) (CellsOf.sl (h244.sl)) rfl (by first | rfl | (simp; done) | (simp; omega)) rfl ?_
        intro s249 st249 hb_o0
        have szs249 := st249.size
        have hS := hS.c0 st249
        replace h241 := h241.up2 st249
        replace h244 := h244.up2 st249
        refine k_nil ?_
        refine k_keep [(0, _), (4, _)] ⟨rfl, rfl, trivial⟩ ?_
        refine k_seq ?_
        refine k_region ?_
        refine k_move rfl rfl ?_
        obtain ⟨x22, hx22, h⟩ := ob h
        refine k_call cal50 rfl (disk_Disk_burn_w  (ODiskDisk.mk_ (⟨a0.capacity, a0.made, a0.down, x4, x5, a0.fuse⟩ : DiskDisk) (by omega) h241 h244 hb_o0) hx22) rfl ?_
        rintro s250 vr250 st250 ⟨rfl, hm250_0⟩
        obtain ⟨w250_0_0, w250_0_1, hb_250_0, hw250_0_0, hw250_0_1⟩ := hm250_0.at_
        have szs250 := st250.size
        have hS := hS.c0 st250
        refine k_assign rfl rfl ?_
        refine k_nil ?_
        refine k_keep [(4, _)] ⟨rfl, trivial⟩ ?_
        refine k_ret ?_
        obtain rfl := Option.some.inj h
        refine ⟨_, rfl, Ret.mk hS ?_⟩
        exact ⟨rfl, (ODiskDisk.mk_ x22.2 (by omega) hw250_0_0 hw250_0_1 hb_250_0)⟩
       ·
        refine rt_act rfl rfl ?_
        have hA251 := Step.r0 (KU (KN s17.n) (KU (KC k0 5) (KU (KC k0 6) (KC k0 0)))) s239
        refine k_load_blk one60 rfl hb_o0 rfl rfl ?_
        refine rt_cont hA251 ?_
        refine rt_act rfl rfl ?_
        have hA252 := Step.r0 (KU (KN s17.n) (KU (KC k0 5) (KU (KC k0 6) (KC k0 0)))) s239
        refine k_append (es := ([x2] : List (List DiskFile)).map (dL 2 dDiskFile)) elem59 rfl rfl hwo0_0 (h187.sl) (by have := (app_out hx4).1; simp only [List.length_map] at *; omega) (by have := (app_out hx4).1; simp only [List.length_map] at *; omega) rfl ?_
        intro s253 v253 st253 h253
        rw [← List.map_append, ← (app_out hx4).2] at h253
        have szs253 := st253.size
        have hS := hS.c0 st253
        have hA252 := hA252.c0 st253
        replace hwo0_1 := hwo0_1.up2 st253
        replace hb_o0 := hb_o0.up2 st253
        replace h239 := h239.up2 st253
        refine rt_cont hA252 ?_
        refine rt_act rfl rfl ?_
        have hA254 := Step.r0 (KU (KN s17.n) (KU (KC k0 5) (KU (KC k0 6) (KC k0 0)))) s253
        refine k_append (es := ([a1] : List DiskCall).map dDiskCall) elem60 rfl rfl hwo0_1 (h239.sl) (by have := (app_out hx5).1; simp only [List.length_map] at *; omega) (by have := (app_out hx5).1; simp only [List.length_map] at *; omega) rfl ?_
        intro s255 v255 st255 h255
        rw [← List.map_append, ← (app_out hx5).2] at h255
        have szs255 := st255.size
        have hS := hS.c0 st255
        have hA254 := hA254.c0 st255
        replace hb_o0 := hb_o0.up2 st255
        replace h253 := h253.up2 st255
        refine rt_cont hA254 ?_
        refine rt_read (.pointer (some ⟨bo0, 0, none⟩)) rfl rfl (fun s256 st256 => ?_) ?_
        ·refine k_nilCheck rfl rfl ?_
         exact fq_end
        refine rt_read (.pointer (some ⟨bo0, 3, none⟩)) rfl rfl (fun s257 st257 => ?_) ?_
        ·refine k_field_addr fld64_3 rfl rfl ?_
         exact fq_end
        refine rt_act0 rfl rfl ?_
        have hA258 := Step.r0 (KU (KN s17.n) (KU (KC k0 5) (KU (KC k0 6) (KC k0 0)))) s255
        refine k_store_c (cs' := [.int .i64 a0.capacity, .bool a0.made, .bool a0.down, v253, wo0_1, .int .i64 a0.fuse.n, .int .i64 a0.fuse.keep, .int .i64 a0.fuse.torn]) size59 rfl rfl hb_o0 (by first | (simp; done) | omega | (dsimp only; omega)) (CellsOf.sl (h253.sl)) rfl (by first | rfl | (simp; done) | (simp; omega)) rfl ?_
        intro s259 st259 hb_o0
        have szs259 := st259.size
        have hS := hS.c0 st259
        have hA258 := hA258.c0 st259
        replace h253 := h253.up2 st259
        replace h255 := h255.up2 st259
        refine rt_cont0 hA258 ?_
        refine rt_fin ?_
        refine k_nilCheck rfl rfl ?_
        refine k_field_addr fld64_4 rfl rfl ?_
        refine k_store_c (cs' := [.int .i64 a0.capacity, .bool a0.made, .bool a0.down, v253, v255, .int .i64 a0.fuse.n, .int .i64 a0.fuse.keep, .int .i64 a0.fuse.torn]) size60 rfl rfl hb_o0 (by first | (simp; done) | omega | (dsimp only; omega)) (CellsOf.sl (h255.sl)) rfl (by first | rfl | (simp; done) | (simp; omega)) rfl ?_
        intro s260 st260 hb_o0
        have szs260 := st260.size
        have hS := hS.c0 st260
        replace h253 := h253.up2 st260
        replace h255 := h255.up2 st260
        refine k_nil ?_
        refine k_keep [(0, _), (4, _)] ⟨rfl, rfl, trivial⟩ ?_
        refine k_seq ?_
        refine k_region ?_
        refine k_move rfl rfl ?_
        obtain ⟨x23, hx23, h⟩ := ob h
        refine k_call cal50 rfl (disk_Disk_burn_w  (ODiskDisk.mk_ (⟨a0.capacity, a0.made, a0.down, x4, x5, a0.fuse⟩ : DiskDisk) (by omega) h253 h255 hb_o0) hx23) rfl ?_
        rintro s261 vr261 st261 ⟨rfl, hm261_0⟩
        obtain ⟨w261_0_0, w261_0_1, hb_261_0, hw261_0_0, hw261_0_1⟩ := hm261_0.at_
        have szs261 := st261.size
        have hS := hS.c0 st261
        refine k_assign rfl rfl ?_
        refine k_nil ?_
        refine k_keep [(4, _)] ⟨rfl, trivial⟩ ?_
        refine k_ret ?_
        obtain rfl := Option.some.inj h
        refine ⟨_, rfl, Ret.mk hS ?_⟩
        exact ⟨rfl, (ODiskDisk.mk_ x23.2 (by omega) hw261_0_0 hw261_0_1 hb_261_0)⟩
    ·
     refine rt_alt rfl rfl ?_ ?_
     ·
      have hA262 := Step.r0 (KU (KN s17.n) (KU (KC k0 5) (KU (KC k0 6) (KC k0 0)))) s187
      refine k_load_blk one60 rfl hb_o0 rfl rfl ?_
      refine rt_cont hA262 ?_
      refine rt_alt rfl rfl ?_ ?_
      ·
       have hA263 := Step.r0 (KU (KN s17.n) (KU (KC k0 5) (KU (KC k0 6) (KC k0 0)))) s187
       refine k_load_blk one59 rfl hb_o0 rfl rfl ?_
       refine rt_cont hA263 ?_
       refine rt_alt rfl rfl ?_ ?_
       ·
        have hA264 := Step.r0 (KU (KN s17.n) (KU (KC k0 5) (KU (KC k0 6) (KC k0 0)))) s187
        refine k_append (es := ([x2] : List (List DiskFile)).map (dL 2 dDiskFile)) elem59 rfl rfl hwo0_0 (h187.sl) (by have := (app_out hx4).1; simp only [List.length_map] at *; omega) (by have := (app_out hx4).1; simp only [List.length_map] at *; omega) rfl ?_
        intro s265 v265 st265 h265
        rw [← List.map_append, ← (app_out hx4).2] at h265
        have szs265 := st265.size
        have hS := hS.c0 st265
        have hA264 := hA264.c0 st265
        replace hp1 := hp1.up2 st265
        replace hwo0_1 := hwo0_1.up2 st265
        replace hb_o0 := hb_o0.up2 st265
        refine rt_cont hA264 ?_
        refine rt_act rfl rfl ?_
        have hA266 := Step.r0 (KU (KN s17.n) (KU (KC k0 5) (KU (KC k0 6) (KC k0 0)))) s265
        refine k_bslice2 (ds := ([a1] : List DiskCall).map dDiskCall) slc60 rfl (RVs.cons hp1 RVs.nil) (by rfl) (by simp [dDiskCall_wd]) rfl rfl ?_
        intro s267 v267 b267 st267 ge267 bl267 h267
        have szs267 := st267.size
        have hS := hS.trans0 st267
        have hA266 := hA266.trans0 st267
        replace hwo0_1 := hwo0_1.up2 st267
        replace hb_o0 := hb_o0.up2 st267
        replace h265 := h265.up2 st267
        have lt267 := Own.le1 h267
        refine rt_cont hA266 ?_
        refine rt_act rfl rfl ?_
        have hA268 := Step.r0 (KU (KN s17.n) (KU (KC k0 5) (KU (KC k0 6) (KC k0 0)))) s267
        refine k_append (es := ([a1] : List DiskCall).map dDiskCall) elem60 rfl rfl hwo0_1 (h267.sl) (by have := (app_out hx5).1; simp only [List.length_map] at *; omega) (by have := (app_out hx5).1; simp only [List.length_map] at *; omega) rfl ?_
        intro s269 v269 st269 h269
        rw [← List.map_append, ← (app_out hx5).2] at h269
        have szs269 := st269.size
        have hS := hS.c0 st269
        have hA268 := hA268.c0 st269
        replace hb_o0 := hb_o0.up2 st269
        replace h265 := h265.up2 st269
        refine rt_cont hA268 ?_
        refine rt_read (.pointer (some ⟨bo0, 0, none⟩)) rfl rfl (fun s270 st270 => ?_) ?_
        ·refine k_nilCheck rfl rfl ?_
         exact fq_end
        refine rt_read (.pointer (some ⟨bo0, 3, none⟩)) rfl rfl (fun s271 st271 => ?_) ?_
        ·refine k_field_addr fld64_3 rfl rfl ?_
         exact fq_end
        refine rt_act0 rfl rfl ?_
        have hA272 := Step.r0 (KU (KN s17.n) (KU (KC k0 5) (KU (KC k0 6) (KC k0 0)))) s269
        refine k_store_c (cs' := [.int .i64 a0.capacity, .bool a0.made, .bool a0.down, v265, wo0_1, .int .i64 a0.fuse.n, .int .i64 a0.fuse.keep, .int .i64 a0.fuse.torn]) size59 rfl rfl hb_o0 (by first | (simp; done) | omega | (dsimp only; omega)) (CellsOf.sl (h265.sl)) rfl (by first | rfl | (simp; done) | (simp; omega)) rfl ?_
        intro s273 st273 hb_o0
        have szs273 := st273.size
        have hS := hS.c0 st273
        have hA272 := hA272.c0 st273
        replace h265 := h265.up2 st273
        replace h269 := h269.up2 st273
        refine rt_cont0 hA272 ?_
        refine rt_fin ?_
        refine k_nilCheck rfl rfl ?_
        refine k_field_addr fld64_4 rfl rfl ?_
        refine k_store_c (cs' := [.int .i64 a0.capacity, .bool a0.made, .bool a0.down, v265, v269, .int .i64 a0.fuse.n, .int .i64 a0.fuse.keep, .int .i64 a0.fuse.torn]) size60 rfl rfl hb_o0 (by first | (simp; done) | omega | (dsimp only; omega)) (CellsOf.sl (h269.sl)) rfl (by first | rfl | (simp; done) | (simp; omega)) rfl ?_
        intro s274 st274 hb_o0
        have szs274 := st274.size
        have hS := hS.c0 st274
        replace h265 := h265.up2 st274
        replace h269 := h269.up2 st274
        refine k_nil ?_
        refine k_keep [(0, _), (4, _)] ⟨rfl, rfl, trivial⟩ ?_
        refine k_seq ?_
        refine k_region ?_
        refine k_move rfl rfl ?_
        obtain ⟨x24, hx24, h⟩ := ob h
        refine k_call cal50 rfl (disk_Disk_burn_w  (ODiskDisk.mk_ (⟨a0.capacity, a0.made, a0.down, x4, x5, a0.fuse⟩ : DiskDisk) (by omega) h265 h269 hb_o0) hx24) rfl ?_
        rintro s275 vr275 st275 ⟨rfl, hm275_0⟩
        obtain ⟨w275_0_0, w275_0_1, hb_275_0, hw275_0_0, hw275_0_1⟩ := hm275_0.at_
        have szs275 := st275.size
        have hS := hS.c0 st275
        refine k_assign rfl rfl ?_
        refine k_nil ?_
        refine k_keep [(4, _)] ⟨rfl, trivial⟩ ?_
        refine k_ret ?_
        obtain rfl := Option.some.inj h
        refine ⟨_, rfl, Ret.mk hS ?_⟩
        exact ⟨rfl, (ODiskDisk.mk_ x24.2 (by omega) hw275_0_0 hw275_0_1 hb_275_0)⟩
       ·
        refine rt_act rfl rfl ?_
        have hA276 := Step.r0 (KU (KN s17.n) (KU (KC k0 5) (KU (KC k0 6) (KC k0 0)))) s187
        refine k_bslice2 (ds := ([a1] : List DiskCall).map dDiskCall) slc60 rfl (RVs.cons hp1 RVs.nil) (by rfl) (by simp [dDiskCall_wd]) rfl rfl ?_
        intro s277 v277 b277 st277 ge277 bl277 h277
        have szs277 := st277.size
        have hS := hS.trans0 st277
        have hA276 := hA276.trans0 st277
        replace hwo0_0 := hwo0_0.up2 st277
        replace hwo0_1 := hwo0_1.up2 st277
        replace hb_o0 := hb_o0.up2 st277
        replace h187 := h187.up2 st277
        have lt277 := Own.le1 h277
        refine rt_cont hA276 ?_
        refine rt_act rfl rfl ?_
        have hA278 := Step.r0 (KU (KN s17.n) (KU (KC k0 5) (KU (KC k0 6) (KC k0 0)))) s277
        refine k_append (es := ([x2] : List (List DiskFile)).map (dL 2 dDiskFile)) elem59 rfl rfl hwo0_0 (h187.sl) (by have := (app_out hx4).1; simp only [List.length_map] at *; omega) (by have := (app_out hx4).1; simp only [List.length_map] at *; omega) rfl ?_
        intro s279 v279 st279 h279
        rw [← List.map_append, ← (app_out hx4).2] at h279
        have szs279 := st279.size
        have hS := hS.c0 st279
        have hA278 := hA278.c0 st279
        replace hwo0_1 := hwo0_1.up2 st279
        replace hb_o0 := hb_o0.up2 st279
        replace h277 := h277.up2 st279
        refine rt_cont hA278 ?_
        refine rt_act rfl rfl ?_
        have hA280 := Step.r0 (KU (KN s17.n) (KU (KC k0 5) (KU (KC k0 6) (KC k0 0)))) s279
        refine k_append (es := ([a1] : List DiskCall).map dDiskCall) elem60 rfl rfl hwo0_1 (h277.sl) (by have := (app_out hx5).1; simp only [List.length_map] at *; omega) (by have := (app_out hx5).1; simp only [List.length_map] at *; omega) rfl ?_
        intro s281 v281 st281 h281
        rw [← List.map_append, ← (app_out hx5).2] at h281
        have szs281 := st281.size
        have hS := hS.c0 st281
        have hA280 := hA280.c0 st281
        replace hb_o0 := hb_o0.up2 st281
        replace h279 := h279.up2 st281
        refine rt_cont hA280 ?_
        refine rt_read (.pointer (some ⟨bo0, 0, none⟩)) rfl rfl (fun s282 st282 => ?_) ?_
        ·refine k_nilCheck rfl rfl ?_
         exact fq_end
        refine rt_read (.pointer (some ⟨bo0, 3, none⟩)) rfl rfl (fun s283 st283 => ?_) ?_
        ·refine k_field_addr fld64_3 rfl rfl ?_
         exact fq_end
        refine rt_act0 rfl rfl ?_
        have hA284 := Step.r0 (KU (KN s17.n) (KU (KC k0 5) (KU (KC k0 6) (KC k0 0)))) s281
        refine k_store_c (cs' := [.int .i64 a0.capacity, .bool a0.made, .bool a0.down, v279, wo0_1, .int .i64 a0.fuse.n, .int .i64 a0.fuse.keep, .int .i64 a0.fuse.torn]) size59 rfl rfl hb_o0 (by first | (simp; done) | omega | (dsimp only; omega)) (CellsOf.sl (h279.sl)) rfl (by first | rfl | (simp; done) | (simp; omega)) rfl ?_
        intro s285 st285 hb_o0
        have szs285 := st285.size
        have hS := hS.c0 st285
        have hA284 := hA284.c0 st285
        replace h279 := h279.up2 st285
        replace h281 := h281.up2 st285
        refine rt_cont0 hA284 ?_
        refine rt_fin ?_
        refine k_nilCheck rfl rfl ?_
        refine k_field_addr fld64_4 rfl rfl ?_
        refine k_store_c (cs' := [.int .i64 a0.capacity, .bool a0.made, .bool a0.down, v279, v281, .int .i64 a0.fuse.n, .int .i64 a0.fuse.keep, .int .i64 a0.fuse.torn]) size60 rfl rfl hb_o0 (by first | (simp; done) | omega | (dsimp only; omega)) (CellsOf.sl (h281.sl)) rfl (by first | rfl | (simp; done) | (simp; omega)) rfl ?_
        intro s286 st286 hb_o0
        have szs286 := st286.size
        have hS := hS.c0 st286
        replace h279 := h279.up2 st286
        replace h281 := h281.up2 st286
        refine k_nil ?_
        refine k_keep [(0, _), (4, _)] ⟨rfl, rfl, trivial⟩ ?_
        refine k_seq ?_
        refine k_region ?_
        refine k_move rfl rfl ?_
        obtain ⟨x25, hx25, h⟩ := ob h
        refine k_call cal50 rfl (disk_Disk_burn_w  (ODiskDisk.mk_ (⟨a0.capacity, a0.made, a0.down, x4, x5, a0.fuse⟩ : DiskDisk) (by omega) h279 h281 hb_o0) hx25) rfl ?_
        rintro s287 vr287 st287 ⟨rfl, hm287_0⟩
        obtain ⟨w287_0_0, w287_0_1, hb_287_0, hw287_0_0, hw287_0_1⟩ := hm287_0.at_
        have szs287 := st287.size
        have hS := hS.c0 st287
        refine k_assign rfl rfl ?_
        refine k_nil ?_
        refine k_keep [(4, _)] ⟨rfl, trivial⟩ ?_
        refine k_ret ?_
        obtain rfl := Option.some.inj h
        refine ⟨_, rfl, Ret.mk hS ?_⟩
        exact ⟨rfl, (ODiskDisk.mk_ x25.2 (by omega) hw287_0_0 hw287_0_1 hb_287_0)⟩
      ·
       refine rt_act rfl rfl ?_
       have hA288 := Step.r0 (KU (KN s17.n) (KU (KC k0 5) (KU (KC k0 6) (KC k0 0)))) s187
       refine k_bslice2 (ds := ([a1] : List DiskCall).map dDiskCall) slc60 rfl (RVs.cons hp1 RVs.nil) (by rfl) (by simp [dDiskCall_wd]) rfl rfl ?_
       intro s289 v289 b289 st289 ge289 bl289 h289
       have szs289 := st289.size
       have hS := hS.trans0 st289
       have hA288 := hA288.trans0 st289
       replace hwo0_0 := hwo0_0.up2 st289
       replace hwo0_1 := hwo0_1.up2 st289
       replace hb_o0 := hb_o0.up2 st289
       replace h187 := h187.up2 st289
       have lt289 := Own.le1 h289
       refine rt_cont hA288 ?_
       refine rt_act rfl rfl ?_
       have hA290 := Step.r0 (KU (KN s17.n) (KU (KC k0 5) (KU (KC k0 6) (KC k0 0)))) s289
       refine k_load_blk one59 rfl hb_o0 rfl rfl ?_
       refine rt_cont hA290 ?_
       refine rt_act rfl rfl ?_
       have hA291 := Step.r0 (KU (KN s17.n) (KU (KC k0 5) (KU (KC k0 6) (KC k0 0)))) s289
       refine k_append (es := ([x2] : List (List DiskFile)).map (dL 2 dDiskFile)) elem59 rfl rfl hwo0_0 (h187.sl) (by have := (app_out hx4).1; simp only [List.length_map] at *; omega) (by have := (app_out hx4).1; simp only [List.length_map] at *; omega) rfl ?_
       intro s292 v292 st292 h292
       rw [← List.map_append, ← (app_out hx4).2] at h292
       have szs292 := st292.size
       have hS := hS.c0 st292
       have hA291 := hA291.c0 st292
       replace hwo0_1 := hwo0_1.up2 st292
       replace hb_o0 := hb_o0.up2 st292
       replace h289 := h289.up2 st292
       refine rt_cont hA291 ?_
       refine rt_act rfl rfl ?_
       have hA293 := Step.r0 (KU (KN s17.n) (KU (KC k0 5) (KU (KC k0 6) (KC k0 0)))) s292
       refine k_append (es := ([a1] : List DiskCall).map dDiskCall) elem60 rfl rfl hwo0_1 (h289.sl) (by have := (app_out hx5).1; simp only [List.length_map] at *; omega) (by have := (app_out hx5).1; simp only [List.length_map] at *; omega) rfl ?_
       intro s294 v294 st294 h294
       rw [← List.map_append, ← (app_out hx5).2] at h294
       have szs294 := st294.size
       have hS := hS.c0 st294
       have hA293 := hA293.c0 st294
       replace hb_o0 := hb_o0.up2 st294
       replace h292 := h292.up2 st294
       refine rt_cont hA293 ?_
       refine rt_read (.pointer (some ⟨bo0, 0, none⟩)) rfl rfl (fun s295 st295 => ?_) ?_
       ·refine k_nilCheck rfl rfl ?_
        exact fq_end
       refine rt_read (.pointer (some ⟨bo0, 3, none⟩)) rfl rfl (fun s296 st296 => ?_) ?_
       ·refine k_field_addr fld64_3 rfl rfl ?_
        exact fq_end
       refine rt_act0 rfl rfl ?_
       have hA297 := Step.r0 (KU (KN s17.n) (KU (KC k0 5) (KU (KC k0 6) (KC k0 0)))) s294
       refine k_store_c (cs' := [.int .i64 a0.capacity, .bool a0.made, .bool a0.down, v292, wo0_1, .int .i64 a0.fuse.n, .int .i64 a0.fuse.keep, .int .i64 a0.fuse.torn]) size59 rfl rfl hb_o0 (by first | (simp; done) | omega | (dsimp only; omega)) (CellsOf.sl (h292.sl)) rfl (by first | rfl | (simp; done) | (simp; omega)) rfl ?_
       intro s298 st298 hb_o0
       have szs298 := st298.size
       have hS := hS.c0 st298
       have hA297 := hA297.c0 st298
       replace h292 := h292.up2 st298
       replace h294 := h294.up2 st298
       refine rt_cont0 hA297 ?_
       refine rt_fin ?_
       refine k_nilCheck rfl rfl ?_
       refine k_field_addr fld64_4 rfl rfl ?_
       refine k_store_c (cs' := [.int .i64 a0.capacity, .bool a0.made, .bool a0.down, v292, v294, .int .i64 a0.fuse.n, .int .i64 a0.fuse.keep, .int .i64 a0.fuse.torn]) size60 rfl rfl hb_o0 (by first | (simp; done) | omega | (dsimp only; omega)) (CellsOf.sl (h294.sl)) rfl (by first | rfl | (simp; done) | (simp; omega)) rfl ?_
       intro s299 st299 hb_o0
       have szs299 := st299.size
       have hS := hS.c0 st299
       replace h292 := h292.up2 st299
       replace h294 := h294.up2 st299
       refine k_nil ?_
       refine k_keep [(0, _), (4, _)] ⟨rfl, rfl, trivial⟩ ?_
       refine k_seq ?_
       refine k_region ?_
       refine k_move rfl rfl ?_
       obtain ⟨x26, hx26, h⟩ := ob h
       refine k_call cal50 rfl (disk_Disk_burn_w  (ODiskDisk.mk_ (⟨a0.capacity, a0.made, a0.down, x4, x5, a0.fuse⟩ : DiskDisk) (by omega) h292 h294 hb_o0) hx26) rfl ?_
       rintro s300 vr300 st300 ⟨rfl, hm300_0⟩
       obtain ⟨w300_0_0, w300_0_1, hb_300_0, hw300_0_0, hw300_0_1⟩ := hm300_0.at_
       have szs300 := st300.size
       have hS := hS.c0 st300
       refine k_assign rfl rfl ?_
       refine k_nil ?_
       refine k_keep [(4, _)] ⟨rfl, trivial⟩ ?_
       refine k_ret ?_
       obtain rfl := Option.some.inj h
       refine ⟨_, rfl, Ret.mk hS ?_⟩
       exact ⟨rfl, (ODiskDisk.mk_ x26.2 (by omega) hw300_0_0 hw300_0_1 hb_300_0)⟩
     ·
      refine rt_act rfl rfl ?_
      have hA301 := Step.r0 (KU (KN s17.n) (KU (KC k0 5) (KU (KC k0 6) (KC k0 0)))) s187
      refine k_bslice2 (ds := ([a1] : List DiskCall).map dDiskCall) slc60 rfl (RVs.cons hp1 RVs.nil) (by rfl) (by simp [dDiskCall_wd]) rfl rfl ?_
      intro s302 v302 b302 st302 ge302 bl302 h302
      have szs302 := st302.size
      have hS := hS.trans0 st302
      have hA301 := hA301.trans0 st302
      replace hwo0_0 := hwo0_0.up2 st302
      replace hwo0_1 := hwo0_1.up2 st302
      replace hb_o0 := hb_o0.up2 st302
      replace h187 := h187.up2 st302
      have lt302 := Own.le1 h302
      refine rt_cont hA301 ?_
      refine rt_alt rfl rfl ?_ ?_
      ·
       have hA303 := Step.r0 (KU (KN s17.n) (KU (KC k0 5) (KU (KC k0 6) (KC k0 0)))) s302
       refine k_load_blk one59 rfl hb_o0 rfl rfl ?_
       refine rt_cont hA303 ?_
       refine rt_alt rfl rfl ?_ ?_
       ·
        have hA304 := Step.r0 (KU (KN s17.n) (KU (KC k0 5) (KU (KC k0 6) (KC k0 0)))) s302
        refine k_append (es := ([x2] : List (List DiskFile)).map (dL 2 dDiskFile)) elem59 rfl rfl hwo0_0 (h187.sl) (by have := (app_out hx4).1; simp only [List.length_map] at *; omega) (by have := (app_out hx4).1; simp only [List.length_map] at *; omega) rfl ?_
        intro s305 v305 st305 h305
        rw [← List.map_append, ← (app_out hx4).2] at h305
        have szs305 := st305.size
        have hS := hS.c0 st305
        have hA304 := hA304.c0 st305
        replace hwo0_1 := hwo0_1.up2 st305
        replace hb_o0 := hb_o0.up2 st305
        replace h302 := h302.up2 st305
        refine rt_cont hA304 ?_
        refine rt_act rfl rfl ?_
        have hA306 := Step.r0 (KU (KN s17.n) (KU (KC k0 5) (KU (KC k0 6) (KC k0 0)))) s305
        refine k_load_blk one60 rfl hb_o0 rfl rfl ?_
        refine rt_cont hA306 ?_
        refine rt_act rfl rfl ?_
        have hA307 := Step.r0 (KU (KN s17.n) (KU (KC k0 5) (KU (KC k0 6) (KC k0 0)))) s305
        refine k_append (es := ([a1] : List DiskCall).map dDiskCall) elem60 rfl rfl hwo0_1 (h302.sl) (by have := (app_out hx5).1; simp only [List.length_map] at *; omega) (by have := (app_out hx5).1; simp only [List.length_map] at *; omega) rfl ?_
        intro s308 v308 st308 h308
        rw [← List.map_append, ← (app_out hx5).2] at h308
        have szs308 := st308.size
        have hS := hS.c0 st308
        have hA307 := hA307.c0 st308
        replace hb_o0 := hb_o0.up2 st308
        replace h305 := h305.up2 st308
        refine rt_cont hA307 ?_
        refine rt_read (.pointer (some ⟨bo0, 0, none⟩)) rfl rfl (fun s309 st309 => ?_) ?_
        ·refine k_nilCheck rfl rfl ?_
         exact fq_end
        refine rt_read (.pointer (some ⟨bo0, 3, none⟩)) rfl rfl (fun s310 st310 => ?_) ?_
        ·refine k_field_addr fld64_3 rfl rfl ?_
         exact fq_end
        refine rt_act0 rfl rfl ?_
        have hA311 := Step.r0 (KU (KN s17.n) (KU (KC k0 5) (KU (KC k0 6) (KC k0 0)))) s308
        refine k_store_c (cs' := [.int .i64 a0.capacity, .bool a0.made, .bool a0.down, v305, wo0_1, .int .i64 a0.fuse.n, .int .i64 a0.fuse.keep, .int .i64 a0.fuse.torn]) size59 rfl rfl hb_o0 (by first | (simp; done) | omega | (dsimp only; omega)) (CellsOf.sl (h305.sl)) rfl (by first | rfl | (simp; done) | (simp; omega)) rfl ?_
        intro s312 st312 hb_o0
        have szs312 := st312.size
        have hS := hS.c0 st312
        have hA311 := hA311.c0 st312
        replace h305 := h305.up2 st312
        replace h308 := h308.up2 st312
        refine rt_cont0 hA311 ?_
        refine rt_fin ?_
        refine k_nilCheck rfl rfl ?_
        refine k_field_addr fld64_4 rfl rfl ?_
        refine k_store_c (cs' := [.int .i64 a0.capacity, .bool a0.made, .bool a0.down, v305, v308, .int .i64 a0.fuse.n, .int .i64 a0.fuse.keep, .int .i64 a0.fuse.torn]) size60 rfl rfl hb_o0 (by first | (simp; done) | omega | (dsimp only; omega)) (CellsOf.sl (h308.sl)) rfl (by first | rfl | (simp; done) | (simp; omega)) rfl ?_
        intro s313 st313 hb_o0
        have szs313 := st313.size
        have hS := hS.c0 st313
        replace h305 := h305.up2 st313
        replace h308 := h308.up2 st313
        refine k_nil ?_
        refine k_keep [(0, _), (4, _)] ⟨rfl, rfl, trivial⟩ ?_
        refine k_seq ?_
        refine k_region ?_
        refine k_move rfl rfl ?_
        obtain ⟨x27, hx27, h⟩ := ob h
        refine k_call cal50 rfl (disk_Disk_burn_w  (ODiskDisk.mk_ (⟨a0.capacity, a0.made, a0.down, x4, x5, a0.fuse⟩ : DiskDisk) (by omega) h305 h308 hb_o0) hx27) rfl ?_
        rintro s314 vr314 st314 ⟨rfl, hm314_0⟩
        obtain ⟨w314_0_0, w314_0_1, hb_314_0, hw314_0_0, hw314_0_1⟩ := hm314_0.at_
        have szs314 := st314.size
        have hS := hS.c0 st314
        refine k_assign rfl rfl ?_
        refine k_nil ?_
        refine k_keep [(4, _)] ⟨rfl, trivial⟩ ?_
        refine k_ret ?_
        obtain rfl := Option.some.inj h
        refine ⟨_, rfl, Ret.mk hS ?_⟩
        exact ⟨rfl, (ODiskDisk.mk_ x27.2 (by omega) hw314_0_0 hw314_0_1 hb_314_0)⟩
       ·
        refine rt_act rfl rfl ?_
        have hA315 := Step.r0 (KU (KN s17.n) (KU (KC k0 5) (KU (KC k0 6) (KC k0 0)))) s302
        refine k_load_blk one60 rfl hb_o0 rfl rfl ?_
        refine rt_cont hA315 ?_
        refine rt_act rfl rfl ?_
        have hA316 := Step.r0 (KU (KN s17.n) (KU (KC k0 5) (KU (KC k0 6) (KC k0 0)))) s302
        refine k_append (es := ([x2] : List (List DiskFile)).map (dL 2 dDiskFile)) elem59 rfl rfl hwo0_0 (h187.sl) (by have := (app_out hx4).1; simp only [List.length_map] at *; omega) (by have := (app_out hx4).1; simp only [List.length_map] at *; omega) rfl ?_
        intro s317 v317 st317 h317
        rw [← List.map_append, ← (app_out hx4).2] at h317
        have szs317 := st317.size
        have hS := hS.c0 st317
        have hA316 := hA316.c0 st317
        replace hwo0_1 := hwo0_1.up2 st317
        replace hb_o0 := hb_o0.up2 st317
        replace h302 := h302.up2 st317
        refine rt_cont hA316 ?_
        refine rt_act rfl rfl ?_
        have hA318 := Step.r0 (KU (KN s17.n) (KU (KC k0 5) (KU (KC k0 6) (KC k0 0)))) s317
        refine k_append (es := ([a1] : List DiskCall).map dDiskCall) elem60 rfl rfl hwo0_1 (h302.sl) (by have := (app_out hx5).1; simp only [List.length_map] at *; omega) (by have := (app_out hx5).1; simp only [List.length_map] at *; omega) rfl ?_
        intro s319 v319 st319 h319
        rw [← List.map_append, ← (app_out hx5).2] at h319
        have szs319 := st319.size
        have hS := hS.c0 st319
        have hA318 := hA318.c0 st319
        replace hb_o0 := hb_o0.up2 st319
        replace h317 := h317.up2 st319
        refine rt_cont hA318 ?_
        refine rt_read (.pointer (some ⟨bo0, 0, none⟩)) rfl rfl (fun s320 st320 => ?_) ?_
        ·refine k_nilCheck rfl rfl ?_
         exact fq_end
        refine rt_read (.pointer (some ⟨bo0, 3, none⟩)) rfl rfl (fun s321 st321 => ?_) ?_
        ·refine k_field_addr fld64_3 rfl rfl ?_
         exact fq_end
        refine rt_act0 rfl rfl ?_
        have hA322 := Step.r0 (KU (KN s17.n) (KU (KC k0 5) (KU (KC k0 6) (KC k0 0)))) s319
        refine k_store_c (cs' := [.int .i64 a0.capacity, .bool a0.made, .bool a0.down, v317, wo0_1, .int .i64 a0.fuse.n, .int .i64 a0.fuse.keep, .int .i64 a0.fuse.torn]) size59 rfl rfl hb_o0 (by first | (simp; done) | omega | (dsimp only; omega)) (CellsOf.sl (h317.sl)) rfl (by first | rfl | (simp; done) | (simp; omega)) rfl ?_
        intro s323 st323 hb_o0
        have szs323 := st323.size
        have hS := hS.c0 st323
        have hA322 := hA322.c0 st323
        replace h317 := h317.up2 st323
        replace h319 := h319.up2 st323
        refine rt_cont0 hA322 ?_
        refine rt_fin ?_
        refine k_nilCheck rfl rfl ?_
        refine k_field_addr fld64_4 rfl rfl ?_
        refine k_store_c (cs' := [.int .i64 a0.capacity, .bool a0.made, .bool a0.down, v317, v319, .int .i64 a0.fuse.n, .int .i64 a0.fuse.keep, .int .i64 a0.fuse.torn]) size60 rfl rfl hb_o0 (by first | (simp; done) | omega | (dsimp only; omega)) (CellsOf.sl (h319.sl)) rfl (by first | rfl | (simp; done) | (simp; omega)) rfl ?_
        intro s324 st324 hb_o0
        have szs324 := st324.size
        have hS := hS.c0 st324
        replace h317 := h317.up2 st324
        replace h319 := h319.up2 st324
        refine k_nil ?_
        refine k_keep [(0, _), (4, _)] ⟨rfl, rfl, trivial⟩ ?_
        refine k_seq ?_
        refine k_region ?_
        refine k_move rfl rfl ?_
        obtain ⟨x28, hx28, h⟩ := ob h
        refine k_call cal50 rfl (disk_Disk_burn_w  (ODiskDisk.mk_ (⟨a0.capacity, a0.made, a0.down, x4, x5, a0.fuse⟩ : DiskDisk) (by omega) h317 h319 hb_o0) hx28) rfl ?_
        rintro s325 vr325 st325 ⟨rfl, hm325_0⟩
        obtain ⟨w325_0_0, w325_0_1, hb_325_0, hw325_0_0, hw325_0_1⟩ := hm325_0.at_
        have szs325 := st325.size
        have hS := hS.c0 st325
        refine k_assign rfl rfl ?_
        refine k_nil ?_
        refine k_keep [(4, _)] ⟨rfl, trivial⟩ ?_
        refine k_ret ?_
        obtain rfl := Option.some.inj h
        refine ⟨_, rfl, Ret.mk hS ?_⟩
        exact ⟨rfl, (ODiskDisk.mk_ x28.2 (by omega) hw325_0_0 hw325_0_1 hb_325_0)⟩
      ·
       refine rt_act rfl rfl ?_
       have hA326 := Step.r0 (KU (KN s17.n) (KU (KC k0 5) (KU (KC k0 6) (KC k0 0)))) s302
       refine k_load_blk one60 rfl hb_o0 rfl rfl ?_
       refine rt_cont hA326 ?_
       refine rt_act rfl rfl ?_
       have hA327 := Step.r0 (KU (KN s17.n) (KU (KC k0 5) (KU (KC k0 6) (KC k0 0)))) s302
       refine k_load_blk one59 rfl hb_o0 rfl rfl ?_
       refine rt_cont hA327 ?_
       refine rt_act rfl rfl ?_
       have hA328 := Step.r0 (KU (KN s17.n) (KU (KC k0 5) (KU (KC k0 6) (KC k0 0)))) s302
       refine k_append (es := ([x2] : List (List DiskFile)).map (dL 2 dDiskFile)) elem59 rfl rfl hwo0_0 (h187.sl) (by have := (app_out hx4).1; simp only [List.length_map] at *; omega) (by have := (app_out hx4).1; simp only [List.length_map] at *; omega) rfl ?_
       intro s329 v329 st329 h329
       rw [← List.map_append, ← (app_out hx4).2] at h329
       have szs329 := st329.size
       have hS := hS.c0 st329
       have hA328 := hA328.c0 st329
       replace hwo0_1 := hwo0_1.up2 st329
       replace hb_o0 := hb_o0.up2 st329
       replace h302 := h302.up2 st329
       refine rt_cont hA328 ?_
       refine rt_act rfl rfl ?_
       have hA330 := Step.r0 (KU (KN s17.n) (KU (KC k0 5) (KU (KC k0 6) (KC k0 0)))) s329
       refine k_append (es := ([a1] : List DiskCall).map dDiskCall) elem60 rfl rfl hwo0_1 (h302.sl) (by have := (app_out hx5).1; simp only [List.length_map] at *; omega) (by have := (app_out hx5).1; simp only [List.length_map] at *; omega) rfl ?_
       intro s331 v331 st331 h331
       rw [← List.map_append, ← (app_out hx5).2] at h331
       have szs331 := st331.size
       have hS := hS.c0 st331
       have hA330 := hA330.c0 st331
       replace hb_o0 := hb_o0.up2 st331
       replace h329 := h329.up2 st331
       refine rt_cont hA330 ?_
       refine rt_read (.pointer (some ⟨bo0, 0, none⟩)) rfl rfl (fun s332 st332 => ?_) ?_
       ·refine k_nilCheck rfl rfl ?_
        exact fq_end
       refine rt_read (.pointer (some ⟨bo0, 3, none⟩)) rfl rfl (fun s333 st333 => ?_) ?_
       ·refine k_field_addr fld64_3 rfl rfl ?_
        exact fq_end
       refine rt_act0 rfl rfl ?_
       have hA334 := Step.r0 (KU (KN s17.n) (KU (KC k0 5) (KU (KC k0 6) (KC k0 0)))) s331
       refine k_store_c (cs' := [.int .i64 a0.capacity, .bool a0.made, .bool a0.down, v329, wo0_1, .int .i64 a0.fuse.n, .int .i64 a0.fuse.keep, .int .i64 a0.fuse.torn]) size59 rfl rfl hb_o0 (by first | (simp; done) | omega | (dsimp only; omega)) (CellsOf.sl (h329.sl)) rfl (by first | rfl | (simp; done) | (simp; omega)) rfl ?_
       intro s335 st335 hb_o0
       have szs335 := st335.size
       have hS := hS.c0 st335
       have hA334 := hA334.c0 st335
       replace h329 := h329.up2 st335
       replace h331 := h331.up2 st335
       refine rt_cont0 hA334 ?_
       refine rt_fin ?_
       refine k_nilCheck rfl rfl ?_
       refine k_field_addr fld64_4 rfl rfl ?_
       refine k_store_c (cs' := [.int .i64 a0.capacity, .bool a0.made, .bool a0.down, v329, v331, .int .i64 a0.fuse.n, .int .i64 a0.fuse.keep, .int .i64 a0.fuse.torn]) size60 rfl rfl hb_o0 (by first | (simp; done) | omega | (dsimp only; omega)) (CellsOf.sl (h331.sl)) rfl (by first | rfl | (simp; done) | (simp; omega)) rfl ?_
       intro s336 st336 hb_o0
       have szs336 := st336.size
       have hS := hS.c0 st336
       replace h329 := h329.up2 st336
       replace h331 := h331.up2 st336
       refine k_nil ?_
       refine k_keep [(0, _), (4, _)] ⟨rfl, rfl, trivial⟩ ?_
       refine k_seq ?_
       refine k_region ?_
       refine k_move rfl rfl ?_
       obtain ⟨x29, hx29, h⟩ := ob h
       refine k_call cal50 rfl (disk_Disk_burn_w  (ODiskDisk.mk_ (⟨a0.capacity, a0.made, a0.down, x4, x5, a0.fuse⟩ : DiskDisk) (by omega) h329 h331 hb_o0) hx29) rfl ?_
       rintro s337 vr337 st337 ⟨rfl, hm337_0⟩
       obtain ⟨w337_0_0, w337_0_1, hb_337_0, hw337_0_0, hw337_0_1⟩ := hm337_0.at_
       have szs337 := st337.size
       have hS := hS.c0 st337
       refine k_assign rfl rfl ?_
       refine k_nil ?_
       refine k_keep [(4, _)] ⟨rfl, trivial⟩ ?_
       refine k_ret ?_
       obtain rfl := Option.some.inj h
       refine ⟨_, rfl, Ret.mk hS ?_⟩
       exact ⟨rfl, (ODiskDisk.mk_ x29.2 (by omega) hw337_0_0 hw337_0_1 hb_337_0)⟩
   ·
    refine rt_alt rfl rfl ?_ ?_
    ·
     have hA338 := Step.r0 (KU (KN s17.n) (KU (KC k0 5) (KU (KC k0 6) (KC k0 0)))) s19
     refine k_load_blk one60 rfl hb_o0 rfl rfl ?_
     refine rt_cont hA338 ?_
     refine rt_alt rfl rfl ?_ ?_
     ·
      have hA339 := Step.r0 (KU (KN s17.n) (KU (KC k0 5) (KU (KC k0 6) (KC k0 0)))) s19
      refine k_load_blk one59 rfl hb_o0 rfl rfl ?_
      refine rt_cont hA339 ?_
      refine rt_alt rfl rfl ?_ ?_
      ·
       have hA340 := Step.r0 (KU (KN s17.n) (KU (KC k0 5) (KU (KC k0 6) (KC k0 0)))) s19
       refine k_bslice2 (ds := ([x2] : List (List DiskFile)).map (dL 2 dDiskFile)) slc59 rfl (RVs.cons h9_0 RVs.nil) (by rfl) (by rfl) rfl rfl ?_
       intro s341 v341 b341 st341 ge341 bl341 h341
       have szs341 := st341.size
       have hS := hS.trans0 st341
       have hA340 := hA340.trans0 st341
       replace hp1 := hp1.up2 st341
       replace hwo0_0 := hwo0_0.up2 st341
       replace hwo0_1 := hwo0_1.up2 st341
       replace hb_o0 := hb_o0.up2 st341
       have lt341 := Own.le1 h341
       refine rt_cont hA340 ?_
       refine rt_alt rfl rfl ?_ ?_
       ·
        have hA342 := Step.r0 (KU (KN s17.n) (KU (KC k0 5) (KU (KC k0 6) (KC k0 0)))) s341
        refine k_append (es := ([x2] : List (List DiskFile)).map (dL 2 dDiskFile)) elem59 rfl rfl hwo0_0 (h341.sl) (by have := (app_out hx4).1; simp only [List.length_map] at *; omega) (by have := (app_out hx4).1; simp only [List.length_map] at *; omega) rfl ?_
        intro s343 v343 st343 h343
        rw [← List.map_append, ← (app_out hx4).2] at h343
        have szs343 := st343.size
        have hS := hS.c0 st343
        have hA342 := hA342.c0 st343
        replace hp1 := hp1.up2 st343
        replace hwo0_1 := hwo0_1.up2 st343
        replace hb_o0 := hb_o0.up2 st343
        refine rt_cont hA342 ?_
        refine rt_act rfl rfl ?_
        have hA344 := Step.r0 (KU (KN s17.n) (KU (KC k0 5) (KU (KC k0 6) (KC k0 0)))) s343
        refine k_bslice2 (ds := ([a1] : List DiskCall).map dDiskCall) slc60 rfl (RVs.cons hp1 RVs.nil) (by rfl) (by simp [dDiskCall_wd]) rfl rfl ?_
        intro s345 v345 b345 st345 ge345 bl345 h345
        have szs345 := st345.size
        have hS := hS.trans0 st345
        have hA344 := hA344.trans0 st345
        replace hwo0_1 := hwo0_1.up2 st345
        replace hb_o0 := hb_o0.up2 st345
        replace h343 := h343.up2 st345
        have lt345 := Own.le1 h345
        refine rt_cont hA344 ?_
        refine rt_act rfl rfl ?_
        have hA346 := Step.r0 (KU (KN s17.n) (KU (KC k0 5) (KU (KC k0 6) (KC k0 0)))) s345
        refine k_append (es := ([a1] : List DiskCall).map dDiskCall) elem60 rfl rfl hwo0_1 (h345.sl) (by have := (app_out hx5).1; simp only [List.length_map] at *; omega) (by have := (app_out hx5).1; simp only [List.length_map] at *; omega) rfl ?_
        intro s347 v347 st347 h347
        rw [← List.map_append, ← (app_out hx5).2] at h347
        have szs347 := st347.size
        have hS := hS.c0 st347
        have hA346 := hA346.c0 st347
        replace hb_o0 := hb_o0.up2 st347
        replace h343 := h343.up2 st347
        refine rt_cont hA346 ?_
        refine rt_read (.pointer (some ⟨bo0, 0, none⟩)) rfl rfl (fun s348 st348 => ?_) ?_
        ·refine k_nilCheck rfl rfl ?_
         exact fq_end
        refine rt_read (.pointer (some ⟨bo0, 3, none⟩)) rfl rfl (fun s349 st349 => ?_) ?_
        ·refine k_field_addr fld64_3 rfl rfl ?_
         exact fq_end
        refine rt_act0 rfl rfl ?_
        have hA350 := Step.r0 (KU (KN s17.n) (KU (KC k0 5) (KU (KC k0 6) (KC k0 0)))) s347
        refine k_store_c (cs' := [.int .i64 a0.capacity, .bool a0.made, .bool a0.down, v343, wo0_1, .int .i64 a0.fuse.n, .int .i64 a0.fuse.keep, .int .i64 a0.fuse.torn]) size59 rfl rfl hb_o0 (by first | (simp; done) | omega | (dsimp only; omega)) (CellsOf.sl (h343.sl)) rfl (by first | rfl | (simp; done) | (simp; omega)) rfl ?_
        intro s351 st351 hb_o0
        have szs351 := st351.size
        have hS := hS.c0 st351
        have hA350 := hA350.c0 st351
        replace h343 := h343.up2 st351
        replace h347 := h347.up2 st351
        refine rt_cont0 hA350 ?_
        refine rt_fin ?_
        refine k_nilCheck rfl rfl ?_
        refine k_field_addr fld64_4 rfl rfl ?_
        refine k_store_c (cs' := [.int .i64 a0.capacity, .bool a0.made, .bool a0.down, v343, v347, .int .i64 a0.fuse.n, .int .i64 a0.fuse.keep, .int .i64 a0.fuse.torn]) size60 rfl rfl hb_o0 (by first | (simp; done) | omega | (dsimp only; omega)) (CellsOf.sl (h347.sl)) rfl (by first | rfl | (simp; done) | (simp; omega)) rfl ?_
        intro s352 st352 hb_o0
        have szs352 := st352.size
        have hS := hS.c0 st352
        replace h343 := h343.up2 st352
        replace h347 := h347.up2 st352
        refine k_nil ?_
        refine k_keep [(0, _), (4, _)] ⟨rfl, rfl, trivial⟩ ?_
        refine k_seq ?_
        refine k_region ?_
        refine k_move rfl rfl ?_
        obtain ⟨x30, hx30, h⟩ := ob h
        refine k_call cal50 rfl (disk_Disk_burn_w  (ODiskDisk.mk_ (⟨a0.capacity, a0.made, a0.down, x4, x5, a0.fuse⟩ : DiskDisk) (by omega) h343 h347 hb_o0) hx30) rfl ?_
        rintro s353 vr353 st353 ⟨rfl, hm353_0⟩
        obtain ⟨w353_0_0, w353_0_1, hb_353_0, hw353_0_0, hw353_0_1⟩ := hm353_0.at_
        have szs353 := st353.size
        have hS := hS.c0 st353
        refine k_assign rfl rfl ?_
        refine k_nil ?_
        refine k_keep [(4, _)] ⟨rfl, trivial⟩ ?_
        refine k_ret ?_
        obtain rfl := Option.some.inj h
        refine ⟨_, rfl, Ret.mk hS ?_⟩
        exact ⟨rfl, (ODiskDisk.mk_ x30.2 (by omega) hw353_0_0 hw353_0_1 hb_353_0)⟩
       ·
        refine rt_act rfl rfl ?_
        have hA354 := Step.r0 (KU (KN s17.n) (KU (KC k0 5) (KU (KC k0 6) (KC k0 0)))) s341
        refine k_bslice2 (ds := ([a1] : List DiskCall).map dDiskCall) slc60 rfl (RVs.cons hp1 RVs.nil) (by rfl) (by simp [dDiskCall_wd]) rfl rfl ?_
        intro s355 v355 b355 st355 ge355 bl355 h355
        have szs355 := st355.size
        have hS := hS.trans0 st355
        have hA354 := hA354.trans0 st355
        replace hwo0_0 := hwo0_0.up2 st355
        replace hwo0_1 := hwo0_1.up2 st355
        replace hb_o0 := hb_o0.up2 st355
        replace h341 := h341.up2 st355
        have lt355 := Own.le1 h355
        refine rt_cont hA354 ?_
        refine rt_act rfl rfl ?_
        have hA356 := Step.r0 (KU (KN s17.n) (KU (KC k0 5) (KU (KC k0 6) (KC k0 0)))) s355
        refine k_append (es := ([x2] : List (List DiskFile)).map (dL 2 dDiskFile)) elem59 rfl rfl hwo0_0 (h341.sl) (by have := (app_out hx4).1; simp only [List.length_map] at *; omega) (by have := (app_out hx4).1; simp only [List.length_map] at *; omega) rfl ?_
        intro s357 v357 st357 h357
        rw [← List.map_append, ← (app_out hx4).2] at h357
        have szs357 := st357.size
        have hS := hS.c0 st357
        have hA356 := hA356.c0 st357
        replace hwo0_1 := hwo0_1.up2 st357
        replace hb_o0 := hb_o0.up2 st357
        replace h355 := h355.up2 st357
        refine rt_cont hA356 ?_
        refine rt_act rfl rfl ?_
        have hA358 := Step.r0 (KU (KN s17.n) (KU (KC k0 5) (KU (KC k0 6) (KC k0 0)))) s357
        refine k_append (es := ([a1] : List DiskCall).map dDiskCall) elem60 rfl rfl hwo0_1 (h355.sl) (by have := (app_out hx5).1; simp only [List.length_map] at *; omega) (by have := (app_out hx5).1; simp only [List.length_map] at *; omega) rfl ?_
        intro s359 v359 st359 h359
        rw [← List.map_append, ← (app_out hx5).2] at h359
        have szs359 := st359.size
        have hS := hS.c0 st359
        have hA358 := hA358.c0 st359
        replace hb_o0 := hb_o0.up2 st359
        replace h357 := h357.up2 st359
        refine rt_cont hA358 ?_
        refine rt_read (.pointer (some ⟨bo0, 0, none⟩)) rfl rfl (fun s360 st360 => ?_) ?_
        ·refine k_nilCheck rfl rfl ?_
         exact fq_end
        refine rt_read (.pointer (some ⟨bo0, 3, none⟩)) rfl rfl (fun s361 st361 => ?_) ?_
        ·refine k_field_addr fld64_3 rfl rfl ?_
         exact fq_end
        refine rt_act0 rfl rfl ?_
        have hA362 := Step.r0 (KU (KN s17.n) (KU (KC k0 5) (KU (KC k0 6) (KC k0 0)))) s359
        refine k_store_c (cs' := [.int .i64 a0.capacity, .bool a0.made, .bool a0.down, v357, wo0_1, .int .i64 a0.fuse.n, .int .i64 a0.fuse.keep, .int .i64 a0.fuse.torn]) size59 rfl rfl hb_o0 (by first | (simp; done) | omega | (dsimp only; omega)) (CellsOf.sl (h357.sl)) rfl (by first | rfl | (simp; done) | (simp; omega)) rfl ?_
        intro s363 st363 hb_o0
        have szs363 := st363.size
        have hS := hS.c0 st363
        have hA362 := hA362.c0 st363
        replace h357 := h357.up2 st363
        replace h359 := h359.up2 st363
        refine rt_cont0 hA362 ?_
        refine rt_fin ?_
        refine k_nilCheck rfl rfl ?_
        refine k_field_addr fld64_4 rfl rfl ?_
        refine k_store_c (cs' := [.int .i64 a0.capacity, .bool a0.made, .bool a0.down, v357, v359, .int .i64 a0.fuse.n, .int .i64 a0.fuse.keep, .int .i64 a0.fuse.torn]) size60 rfl rfl hb_o0 (by first | (simp; done) | omega | (dsimp only; omega)) (CellsOf.sl (h359.sl)) rfl (by first | rfl | (simp; done) | (simp; omega)) rfl ?_
        intro s364 st364 hb_o0
        have szs364 := st364.size
        have hS := hS.c0 st364
        replace h357 := h357.up2 st364
        replace h359 := h359.up2 st364
        refine k_nil ?_
        refine k_keep [(0, _), (4, _)] ⟨rfl, rfl, trivial⟩ ?_
        refine k_seq ?_
        refine k_region ?_
        refine k_move rfl rfl ?_
        obtain ⟨x31, hx31, h⟩ := ob h
        refine k_call cal50 rfl (disk_Disk_burn_w  (ODiskDisk.mk_ (⟨a0.capacity, a0.made, a0.down, x4, x5, a0.fuse⟩ : DiskDisk) (by omega) h357 h359 hb_o0) hx31) rfl ?_
        rintro s365 vr365 st365 ⟨rfl, hm365_0⟩
        obtain ⟨w365_0_0, w365_0_1, hb_365_0, hw365_0_0, hw365_0_1⟩ := hm365_0.at_
        have szs365 := st365.size
        have hS := hS.c0 st365
        refine k_assign rfl rfl ?_
        refine k_nil ?_
        refine k_keep [(4, _)] ⟨rfl, trivial⟩ ?_
        refine k_ret ?_
        obtain rfl := Option.some.inj h
        refine ⟨_, rfl, Ret.mk hS ?_⟩
        exact ⟨rfl, (ODiskDisk.mk_ x31.2 (by omega) hw365_0_0 hw365_0_1 hb_365_0)⟩
      ·
       refine rt_act rfl rfl ?_
       have hA366 := Step.r0 (KU (KN s17.n) (KU (KC k0 5) (KU (KC k0 6) (KC k0 0)))) s19
       refine k_bslice2 (ds := ([a1] : List DiskCall).map dDiskCall) slc60 rfl (RVs.cons hp1 RVs.nil) (by rfl) (by simp [dDiskCall_wd]) rfl rfl ?_
       intro s367 v367 b367 st367 ge367 bl367 h367
       have szs367 := st367.size
       have hS := hS.trans0 st367
       have hA366 := hA366.trans0 st367
       replace h9_0 := h9_0.up2 st367
       replace hwo0_0 := hwo0_0.up2 st367
       replace hwo0_1 := hwo0_1.up2 st367
       replace hb_o0 := hb_o0.up2 st367
       have lt367 := Own.le1 h367
       refine rt_cont hA366 ?_
       refine rt_act rfl rfl ?_
       have hA368 := Step.r0 (KU (KN s17.n) (KU (KC k0 5) (KU (KC k0 6) (KC k0 0)))) s367
       refine k_bslice2 (ds := ([x2] : List (List DiskFile)).map (dL 2 dDiskFile)) slc59 rfl (RVs.cons h9_0 RVs.nil) (by rfl) (by rfl) rfl rfl ?_
       intro s369 v369 b369 st369 ge369 bl369 h369
       have szs369 := st369.size
       have hS := hS.trans0 st369
       have hA368 := hA368.trans0 st369
       replace hwo0_0 := hwo0_0.up2 st369
       replace hwo0_1 := hwo0_1.up2 st369
       replace hb_o0 := hb_o0.up2 st369
       replace h367 := h367.up2 st369
       have lt369 := Own.le1 h369
       refine rt_cont hA368 ?_
       refine rt_act rfl rfl ?_
       have hA370 := Step.r0 (KU (KN s17.n) (KU (KC k0 5) (KU (KC k0 6) (KC k0 0)))) s369
       refine k_append (es := ([x2] : List (List DiskFile)).map (dL 2 dDiskFile)) elem59 rfl rfl hwo0_0 (h369.sl) (by have := (app_out hx4).1; simp only [List.length_map] at *; omega) (by have := (app_out hx4).1; simp only [List.length_map] at *; omega) rfl ?_
       intro s371 v371 st371 h371
       rw [← List.map_append, ← (app_out hx4).2] at h371
       have szs371 := st371.size
       have hS := hS.c0 st371
       have hA370 := hA370.c0 st371
       replace hwo0_1 := hwo0_1.up2 st371
       replace hb_o0 := hb_o0.up2 st371
       replace h367 := h367.up2 st371
       refine rt_cont hA370 ?_
       refine rt_act rfl rfl ?_
       have hA372 := Step.r0 (KU (KN s17.n) (KU (KC k0 5) (KU (KC k0 6) (KC k0 0)))) s371
       refine k_append (es := ([a1] : List DiskCall).map dDiskCall) elem60 rfl rfl hwo0_1 (h367.sl) (by have := (app_out hx5).1; simp only [List.length_map] at *; omega) (by have := (app_out hx5).1; simp only [List.length_map] at *; omega) rfl ?_
       intro s373 v373 st373 h373
       rw [← List.map_append, ← (app_out hx5).2] at h373
       have szs373 := st373.size
       have hS := hS.c0 st373
       have hA372 := hA372.c0 st373
       replace hb_o0 := hb_o0.up2 st373
       replace h371 := h371.up2 st373
       refine rt_cont hA372 ?_
       refine rt_read (.pointer (some ⟨bo0, 0, none⟩)) rfl rfl (fun s374 st374 => ?_) ?_
       ·refine k_nilCheck rfl rfl ?_
        exact fq_end
       refine rt_read (.pointer (some ⟨bo0, 3, none⟩)) rfl rfl (fun s375 st375 => ?_) ?_
       ·refine k_field_addr fld64_3 rfl rfl ?_
        exact fq_end
       refine rt_act0 rfl rfl ?_
       have hA376 := Step.r0 (KU (KN s17.n) (KU (KC k0 5) (KU (KC k0 6) (KC k0 0)))) s373
       refine k_store_c (cs' := [.int .i64 a0.capacity, .bool a0.made, .bool a0.down, v371, wo0_1, .int .i64 a0.fuse.n, .int .i64 a0.fuse.keep, .int .i64 a0.fuse.torn]) size59 rfl rfl hb_o0 (by first | (simp; done) | omega | (dsimp only; omega)) (CellsOf.sl (h371.sl)) rfl (by first | rfl | (simp; done) | (simp; omega)) rfl ?_
       intro s377 st377 hb_o0
       have szs377 := st377.size
       have hS := hS.c0 st377
       have hA376 := hA376.c0 st377
       replace h371 := h371.up2 st377
       replace h373 := h373.up2 st377
       refine rt_cont0 hA376 ?_
       refine rt_fin ?_
       refine k_nilCheck rfl rfl ?_
       refine k_field_addr fld64_4 rfl rfl ?_
       refine k_store_c (cs' := [.int .i64 a0.capacity, .bool a0.made, .bool a0.down, v371, v373, .int .i64 a0.fuse.n, .int .i64 a0.fuse.keep, .int .i64 a0.fuse.torn]) size60 rfl rfl hb_o0 (by first | (simp; done) | omega | (dsimp only; omega)) (CellsOf.sl (h373.sl)) rfl (by first | rfl | (simp; done) | (simp; omega)) rfl ?_
       intro s378 st378 hb_o0
       have szs378 := st378.size
       have hS := hS.c0 st378
       replace h371 := h371.up2 st378
       replace h373 := h373.up2 st378
       refine k_nil ?_
       refine k_keep [(0, _), (4, _)] ⟨rfl, rfl, trivial⟩ ?_
       refine k_seq ?_
       refine k_region ?_
       refine k_move rfl rfl ?_
       obtain ⟨x32, hx32, h⟩ := ob h
       refine k_call cal50 rfl (disk_Disk_burn_w  (ODiskDisk.mk_ (⟨a0.capacity, a0.made, a0.down, x4, x5, a0.fuse⟩ : DiskDisk) (by omega) h371 h373 hb_o0) hx32) rfl ?_
       rintro s379 vr379 st379 ⟨rfl, hm379_0⟩
       obtain ⟨w379_0_0, w379_0_1, hb_379_0, hw379_0_0, hw379_0_1⟩ := hm379_0.at_
       have szs379 := st379.size
       have hS := hS.c0 st379
       refine k_assign rfl rfl ?_
       refine k_nil ?_
       refine k_keep [(4, _)] ⟨rfl, trivial⟩ ?_
       refine k_ret ?_
       obtain rfl := Option.some.inj h
       refine ⟨_, rfl, Ret.mk hS ?_⟩
       exact ⟨rfl, (ODiskDisk.mk_ x32.2 (by omega) hw379_0_0 hw379_0_1 hb_379_0)⟩
     ·
      refine rt_alt rfl rfl ?_ ?_
      ·
       have hA380 := Step.r0 (KU (KN s17.n) (KU (KC k0 5) (KU (KC k0 6) (KC k0 0)))) s19
       refine k_bslice2 (ds := ([x2] : List (List DiskFile)).map (dL 2 dDiskFile)) slc59 rfl (RVs.cons h9_0 RVs.nil) (by rfl) (by rfl) rfl rfl ?_
       intro s381 v381 b381 st381 ge381 bl381 h381
       have szs381 := st381.size
       have hS := hS.trans0 st381
       have hA380 := hA380.trans0 st381
       replace hp1 := hp1.up2 st381
       replace hwo0_0 := hwo0_0.up2 st381
       replace hwo0_1 := hwo0_1.up2 st381
       replace hb_o0 := hb_o0.up2 st381
       have lt381 := Own.le1 h381
       refine rt_cont hA380 ?_
       refine rt_alt rfl rfl ?_ ?_
       ·
        have hA382 := Step.r0 (KU (KN s17.n) (KU (KC k0 5) (KU (KC k0 6) (KC k0 0)))) s381
        refine k_load_blk one59 rfl hb_o0 rfl rfl ?_
        refine rt_cont hA382 ?_
        refine rt_alt rfl rfl ?_ ?_
        ·
         have hA383 := Step.r0 (KU (KN s17.n) (KU (KC k0 5) (KU (KC k0 6) (KC k0 0)))) s381
         refine k_append (es := ([x2] : List (List DiskFile)).map (dL 2 dDiskFile)) elem59 rfl rfl hwo0_0 (h381.sl) (by have := (app_out hx4).1; simp only [List.length_map] at *; omega) (by have := (app_out hx4).1; simp only [List.length_map] at *; omega) rfl ?_
         intro s384 v384 st384 h384
         rw [← List.map_append, ← (app_out hx4).2] at h384
         have szs384 := st384.size
         have hS := hS.c0 st384
         have hA383 := hA383.c0 st384
         replace hp1 := hp1.up2 st384
         replace hwo0_1 := hwo0_1.up2 st384
         replace hb_o0 := hb_o0.up2 st384
         refine rt_cont hA383 ?_
         refine rt_act rfl rfl ?_
         have hA385 := Step.r0 (KU (KN s17.n) (KU (KC k0 5) (KU (KC k0 6) (KC k0 0)))) s384
         refine k_bslice2 (ds := ([a1] : List DiskCall).map dDiskCall) slc60 rfl (RVs.cons hp1 RVs.nil) (by rfl) (by simp [dDiskCall_wd]) rfl rfl ?_
         intro s386 v386 b386 st386 ge386 bl386 h386
         have szs386 := st386.size
         have hS := hS.trans0 st386
         have hA385 := hA385.trans0 st386
         replace hwo0_1 := hwo0_1.up2 st386
         replace hb_o0 := hb_o0.up2 st386
         replace h384 := h384.up2 st386
         have lt386 := Own.le1 h386
         refine rt_cont hA385 ?_
         refine rt_act rfl rfl ?_
         have hA387 := Step.r0 (KU (KN s17.n) (KU (KC k0 5) (KU (KC k0 6) (KC k0 0)))) s386
         refine k_append (es := ([a1] : List DiskCall).map dDiskCall) elem60 rfl rfl hwo0_1 (h386.sl) (by have := (app_out hx5).1; simp only [List.length_map] at *; omega) (by have := (app_out hx5).1; simp only [List.length_map] at *; omega) rfl ?_
         intro s388 v388 st388 h388
         rw [← List.map_append, ← (app_out hx5).2] at h388
         have szs388 := st388.size
         have hS := hS.c0 st388
         have hA387 := hA387.c0 st388
         replace hb_o0 := hb_o0.up2 st388
         replace h384 := h384.up2 st388
         refine rt_cont hA387 ?_
         refine rt_read (.pointer (some ⟨bo0, 0, none⟩)) rfl rfl (fun s389 st389 => ?_) ?_
         ·refine k_nilCheck rfl rfl ?_
          exact fq_end
         refine rt_read (.pointer (some ⟨bo0, 3, none⟩)) rfl rfl (fun s390 st390 => ?_) ?_
         ·refine k_field_addr fld64_3 rfl rfl ?_
          exact fq_end
         refine rt_act0 rfl rfl ?_
         have hA391 := Step.r0 (KU (KN s17.n) (KU (KC k0 5) (KU (KC k0 6) (KC k0 0)))) s388
         refine k_store_c (cs' := [.int .i64 a0.capacity, .bool a0.made, .bool a0.down, v384, wo0_1, .int .i64 a0.fuse.n, .int .i64 a0.fuse.keep, .int .i64 a0.fuse.torn]) size59 rfl rfl hb_o0 (by first | (simp; done) | omega | (dsimp only; omega)) (CellsOf.sl (h384.sl)) rfl (by first | rfl | (simp; done) | (simp; omega)) rfl ?_
         intro s392 st392 hb_o0
         have szs392 := st392.size
         have hS := hS.c0 st392
         have hA391 := hA391.c0 st392
         replace h384 := h384.up2 st392
         replace h388 := h388.up2 st392
         refine rt_cont0 hA391 ?_
         refine rt_fin ?_
         refine k_nilCheck rfl rfl ?_
         refine k_field_addr fld64_4 rfl rfl ?_
         refine k_store_c (cs' := [.int .i64 a0.capacity, .bool a0.made, .bool a0.down, v384, v388, .int .i64 a0.fuse.n, .int .i64 a0.fuse.keep, .int .i64 a0.fuse.torn]) size60 rfl rfl hb_o0 (by first | (simp; done) | omega | (dsimp only; omega)) (CellsOf.sl (h388.sl)) rfl (by first | rfl | (simp; done) | (simp; omega)) rfl ?_
         intro s393 st393 hb_o0
         have szs393 := st393.size
         have hS := hS.c0 st393
         replace h384 := h384.up2 st393
         replace h388 := h388.up2 st393
         refine k_nil ?_
         refine k_keep [(0, _), (4, _)] ⟨rfl, rfl, trivial⟩ ?_
         refine k_seq ?_
         refine k_region ?_
         refine k_move rfl rfl ?_
         obtain ⟨x33, hx33, h⟩ := ob h
         refine k_call cal50 rfl (disk_Disk_burn_w  (ODiskDisk.mk_ (⟨a0.capacity, a0.made, a0.down, x4, x5, a0.fuse⟩ : DiskDisk) (by omega) h384 h388 hb_o0) hx33) rfl ?_
         rintro s394 vr394 st394 ⟨rfl, hm394_0⟩
         obtain ⟨w394_0_0, w394_0_1, hb_394_0, hw394_0_0, hw394_0_1⟩ := hm394_0.at_
         have szs394 := st394.size
         have hS := hS.c0 st394
         refine k_assign rfl rfl ?_
         refine k_nil ?_
         refine k_keep [(4, _)] ⟨rfl, trivial⟩ ?_
         refine k_ret ?_
         obtain rfl := Option.some.inj h
         refine ⟨_, rfl, Ret.mk hS ?_⟩
         exact ⟨rfl, (ODiskDisk.mk_ x33.2 (by omega) hw394_0_0 hw394_0_1 hb_394_0)⟩
        ·
         refine rt_act rfl rfl ?_
         have hA395 := Step.r0 (KU (KN s17.n) (KU (KC k0 5) (KU (KC k0 6) (KC k0 0)))) s381
         refine k_bslice2 (ds := ([a1] : List DiskCall).map dDiskCall) slc60 rfl (RVs.cons hp1 RVs.nil) (by rfl) (by simp [dDiskCall_wd]) rfl rfl ?_
         intro s396 v396 b396 st396 ge396 bl396 h396
         have szs396 := st396.size
         have hS := hS.trans0 st396
         have hA395 := hA395.trans0 st396
         replace hwo0_0 := hwo0_0.up2 st396
         replace hwo0_1 := hwo0_1.up2 st396
         replace hb_o0 := hb_o0.up2 st396
         replace h381 := h381.up2 st396
         have lt396 := Own.le1 h396
         refine rt_cont hA395 ?_
         refine rt_act rfl rfl ?_
         have hA397 := Step.r0 (KU (KN s17.n) (KU (KC k0 5) (KU (KC k0 6) (KC k0 0)))) s396
         refine k_append (es := ([x2] : List (List DiskFile)).map (dL 2 dDiskFile)) elem59 rfl rfl hwo0_0 (h381.sl) (by have := (app_out hx4).1; simp only [List.length_map] at *; omega) (by have := (app_out hx4).1; simp only [List.length_map] at *; omega) rfl ?_
         intro s398 v398 st398 h398
         rw [← List.map_append, ← (app_out hx4).2] at h398
         have szs398 := st398.size
         have hS := hS.c0 st398
         have hA397 := hA397.c0 st398
         replace hwo0_1 := hwo0_1.up2 st398
         replace hb_o0 := hb_o0.up2 st398
         replace h396 := h396.up2 st398
         refine rt_cont hA397 ?_
         refine rt_act rfl rfl ?_
         have hA399 := Step.r0 (KU (KN s17.n) (KU (KC k0 5) (KU (KC k0 6) (KC k0 0)))) s398
         refine k_append (es := ([a1] : List DiskCall).map dDiskCall) elem60 rfl rfl hwo0_1 (h396.sl) (by have := (app_out hx5).1; simp only [List.length_map] at *; omega) (by have := (app_out hx5).1; simp only [List.length_map] at *; omega) rfl ?_
         intro s400 v400 st400 h400
         rw [← List.map_append, ← (app_out hx5).2] at h400
         have szs400 := st400.size
         have hS := hS.c0 st400
         have hA399 := hA399.c0 st400
         replace hb_o0 := hb_o0.up2 st400
         replace h398 := h398.up2 st400
         refine rt_cont hA399 ?_
         refine rt_read (.pointer (some ⟨bo0, 0, none⟩)) rfl rfl (fun s401 st401 => ?_) ?_
         ·refine k_nilCheck rfl rfl ?_
          exact fq_end
         refine rt_read (.pointer (some ⟨bo0, 3, none⟩)) rfl rfl (fun s402 st402 => ?_) ?_
         ·refine k_field_addr fld64_3 rfl rfl ?_
          exact fq_end
         refine rt_act0 rfl rfl ?_
         have hA403 := Step.r0 (KU (KN s17.n) (KU (KC k0 5) (KU (KC k0 6) (KC k0 0)))) s400
         refine k_store_c (cs' := [.int .i64 a0.capacity, .bool a0.made, .bool a0.down, v398, wo0_1, .int .i64 a0.fuse.n, .int .i64 a0.fuse.keep, .int .i64 a0.fuse.torn]) size59 rfl rfl hb_o0 (by first | (simp; done) | omega | (dsimp only; omega)) (CellsOf.sl (h398.sl)) rfl (by first | rfl | (simp; done) | (simp; omega)) rfl ?_
         intro s404 st404 hb_o0
         have szs404 := st404.size
         have hS := hS.c0 st404
         have hA403 := hA403.c0 st404
         replace h398 := h398.up2 st404
         replace h400 := h400.up2 st404
         refine rt_cont0 hA403 ?_
         refine rt_fin ?_
         refine k_nilCheck rfl rfl ?_
         refine k_field_addr fld64_4 rfl rfl ?_
         refine k_store_c (cs' := [.int .i64 a0.capacity, .bool a0.made, .bool a0.down, v398, v400, .int .i64 a0.fuse.n, .int .i64 a0.fuse.keep, .int .i64 a0.fuse.torn]) size60 rfl rfl hb_o0 (by first | (simp; done) | omega | (dsimp only; omega)) (CellsOf.sl (h400.sl)) rfl (by first | rfl | (simp; done) | (simp; omega)) rfl ?_
         intro s405 st405 hb_o0
         have szs405 := st405.size
         have hS := hS.c0 st405
         replace h398 := h398.up2 st405
         replace h400 := h400.up2 st405
         refine k_nil ?_
         refine k_keep [(0, _), (4, _)] ⟨rfl, rfl, trivial⟩ ?_
         refine k_seq ?_
         refine k_region ?_
         refine k_move rfl rfl ?_
         obtain ⟨x34, hx34, h⟩ := ob h
         refine k_call cal50 rfl (disk_Disk_burn_w  (ODiskDisk.mk_ (⟨a0.capacity, a0.made, a0.down, x4, x5, a0.fuse⟩ : DiskDisk) (by omega) h398 h400 hb_o0) hx34) rfl ?_
         rintro s406 vr406 st406 ⟨rfl, hm406_0⟩
         obtain ⟨w406_0_0, w406_0_1, hb_406_0, hw406_0_0, hw406_0_1⟩ := hm406_0.at_
         have szs406 := st406.size
         have hS := hS.c0 st406
         refine k_assign rfl rfl ?_
         refine k_nil ?_
         refine k_keep [(4, _)] ⟨rfl, trivial⟩ ?_
         refine k_ret ?_
         obtain rfl := Option.some.inj h
         refine ⟨_, rfl, Ret.mk hS ?_⟩
         exact ⟨rfl, (ODiskDisk.mk_ x34.2 (by omega) hw406_0_0 hw406_0_1 hb_406_0)⟩
       ·
        refine rt_act rfl rfl ?_
        have hA407 := Step.r0 (KU (KN s17.n) (KU (KC k0 5) (KU (KC k0 6) (KC k0 0)))) s381
        refine k_bslice2 (ds := ([a1] : List DiskCall).map dDiskCall) slc60 rfl (RVs.cons hp1 RVs.nil) (by rfl) (by simp [dDiskCall_wd]) rfl rfl ?_
        intro s408 v408 b408 st408 ge408 bl408 h408
        have szs408 := st408.size
        have hS := hS.trans0 st408
        have hA407 := hA407.trans0 st408
        replace hwo0_0 := hwo0_0.up2 st408
        replace hwo0_1 := hwo0_1.up2 st408
        replace hb_o0 := hb_o0.up2 st408
        replace h381 := h381.up2 st408
        have lt408 := Own.le1 h408
        refine rt_cont hA407 ?_
        refine rt_act rfl rfl ?_
        have hA409 := Step.r0 (KU (KN s17.n) (KU (KC k0 5) (KU (KC k0 6) (KC k0 0)))) s408
        refine k_load_blk one59 rfl hb_o0 rfl rfl ?_
        refine rt_cont hA409 ?_
        refine rt_act rfl rfl ?_
        have hA410 := Step.r0 (KU (KN s17.n) (KU (KC k0 5) (KU (KC k0 6) (KC k0 0)))) s408
        refine k_append (es := ([x2] : List (List DiskFile)).map (dL 2 dDiskFile)) elem59 rfl rfl hwo0_0 (h381.sl) (by have := (app_out hx4).1; simp only [List.length_map] at *; omega) (by have := (app_out hx4).1; simp only [List.length_map] at *; omega) rfl ?_
        intro s411 v411 st411 h411
        rw [← List.map_append, ← (app_out hx4).2] at h411
        have szs411 := st411.size
        have hS := hS.c0 st411
        have hA410 := hA410.c0 st411
        replace hwo0_1 := hwo0_1.up2 st411
        replace hb_o0 := hb_o0.up2 st411
        replace h408 := h408.up2 st411
        refine rt_cont hA410 ?_
        refine rt_act rfl rfl ?_
        have hA412 := Step.r0 (KU (KN s17.n) (KU (KC k0 5) (KU (KC k0 6) (KC k0 0)))) s411
        refine k_append (es := ([a1] : List DiskCall).map dDiskCall) elem60 rfl rfl hwo0_1 (h408.sl) (by have := (app_out hx5).1; simp only [List.length_map] at *; omega) (by have := (app_out hx5).1; simp only [List.length_map] at *; omega) rfl ?_
        intro s413 v413 st413 h413
        rw [← List.map_append, ← (app_out hx5).2] at h413
        have szs413 := st413.size
        have hS := hS.c0 st413
        have hA412 := hA412.c0 st413
        replace hb_o0 := hb_o0.up2 st413
        replace h411 := h411.up2 st413
        refine rt_cont hA412 ?_
        refine rt_read (.pointer (some ⟨bo0, 0, none⟩)) rfl rfl (fun s414 st414 => ?_) ?_
        ·refine k_nilCheck rfl rfl ?_
         exact fq_end
        refine rt_read (.pointer (some ⟨bo0, 3, none⟩)) rfl rfl (fun s415 st415 => ?_) ?_
        ·refine k_field_addr fld64_3 rfl rfl ?_
         exact fq_end
        refine rt_act0 rfl rfl ?_
        have hA416 := Step.r0 (KU (KN s17.n) (KU (KC k0 5) (KU (KC k0 6) (KC k0 0)))) s413
        refine k_store_c (cs' := [.int .i64 a0.capacity, .bool a0.made, .bool a0.down, v411, wo0_1, .int .i64 a0.fuse.n, .int .i64 a0.fuse.keep, .int .i64 a0.fuse.torn]) size59 rfl rfl hb_o0 (by first | (simp; done) | omega | (dsimp only; omega)) (CellsOf.sl (h411.sl)) rfl (by first | rfl | (simp; done) | (simp; omega)) rfl ?_
        intro s417 st417 hb_o0
        have szs417 := st417.size
        have hS := hS.c0 st417
        have hA416 := hA416.c0 st417
        replace h411 := h411.up2 st417
        replace h413 := h413.up2 st417
        refine rt_cont0 hA416 ?_
        refine rt_fin ?_
        refine k_nilCheck rfl rfl ?_
        refine k_field_addr fld64_4 rfl rfl ?_
        refine k_store_c (cs' := [.int .i64 a0.capacity, .bool a0.made, .bool a0.down, v411, v413, .int .i64 a0.fuse.n, .int .i64 a0.fuse.keep, .int .i64 a0.fuse.torn]) size60 rfl rfl hb_o0 (by first | (simp; done) | omega | (dsimp only; omega)) (CellsOf.sl (h413.sl)) rfl (by first | rfl | (simp; done) | (simp; omega)) rfl ?_
        intro s418 st418 hb_o0
        have szs418 := st418.size
        have hS := hS.c0 st418
        replace h411 := h411.up2 st418
        replace h413 := h413.up2 st418
        refine k_nil ?_
        refine k_keep [(0, _), (4, _)] ⟨rfl, rfl, trivial⟩ ?_
        refine k_seq ?_
        refine k_region ?_
        refine k_move rfl rfl ?_
        obtain ⟨x35, hx35, h⟩ := ob h
        refine k_call cal50 rfl (disk_Disk_burn_w  (ODiskDisk.mk_ (⟨a0.capacity, a0.made, a0.down, x4, x5, a0.fuse⟩ : DiskDisk) (by omega) h411 h413 hb_o0) hx35) rfl ?_
        rintro s419 vr419 st419 ⟨rfl, hm419_0⟩
        obtain ⟨w419_0_0, w419_0_1, hb_419_0, hw419_0_0, hw419_0_1⟩ := hm419_0.at_
        have szs419 := st419.size
        have hS := hS.c0 st419
        refine k_assign rfl rfl ?_
        refine k_nil ?_
        refine k_keep [(4, _)] ⟨rfl, trivial⟩ ?_
        refine k_ret ?_
        obtain rfl := Option.some.inj h
        refine ⟨_, rfl, Ret.mk hS ?_⟩
        exact ⟨rfl, (ODiskDisk.mk_ x35.2 (by omega) hw419_0_0 hw419_0_1 hb_419_0)⟩
      ·
       refine rt_act rfl rfl ?_
       have hA420 := Step.r0 (KU (KN s17.n) (KU (KC k0 5) (KU (KC k0 6) (KC k0 0)))) s19
       refine k_bslice2 (ds := ([a1] : List DiskCall).map dDiskCall) slc60 rfl (RVs.cons hp1 RVs.nil) (by rfl) (by simp [dDiskCall_wd]) rfl rfl ?_
       intro s421 v421 b421 st421 ge421 bl421 h421
       have szs421 := st421.size
       have hS := hS.trans0 st421
       have hA420 := hA420.trans0 st421
       replace h9_0 := h9_0.up2 st421
       replace hwo0_0 := hwo0_0.up2 st421
       replace hwo0_1 := hwo0_1.up2 st421
       replace hb_o0 := hb_o0.up2 st421
       have lt421 := Own.le1 h421
       refine rt_cont hA420 ?_
       refine rt_alt rfl rfl ?_ ?_
       ·
        have hA422 := Step.r0 (KU (KN s17.n) (KU (KC k0 5) (KU (KC k0 6) (KC k0 0)))) s421
        refine k_load_blk one59 rfl hb_o0 rfl rfl ?_
        refine rt_cont hA422 ?_
        refine rt_act rfl rfl ?_
        have hA423 := Step.r0 (KU (KN s17.n) (KU (KC k0 5) (KU (KC k0 6) (KC k0 0)))) s421
        refine k_bslice2 (ds := ([x2] : List (List DiskFile)).map (dL 2 dDiskFile)) slc59 rfl (RVs.cons h9_0 RVs.nil) (by rfl) (by rfl) rfl rfl ?_
        intro s424 v424 b424 st424 ge424 bl424 h424
        have szs424 := st424.size
        have hS := hS.trans0 st424
        have hA423 := hA423.trans0 st424
        replace hwo0_0 := hwo0_0.up2 st424
        replace hwo0_1 := hwo0_1.up2 st424
        replace hb_o0 := hb_o0.up2 st424
        replace h421 := h421.up2 st424
        have lt424 := Own.le1 h424
        refine rt_cont hA423 ?_
        refine rt_act rfl rfl ?_
        have hA425 := Step.r0 (KU (KN s17.n) (KU (KC k0 5) (KU (KC k0 6) (KC k0 0)))) s424
        refine k_append (es := ([x2] : List (List DiskFile)).map (dL 2 dDiskFile)) elem59 rfl rfl hwo0_0 (h424.sl) (by have := (app_out hx4).1; simp only [List.length_map] at *; omega) (by have := (app_out hx4).1; simp only [List.length_map] at *; omega) rfl ?_
        intro s426 v426 st426 h426
        rw [← List.map_append, ← (app_out hx4).2] at h426
        have szs426 := st426.size
        have hS := hS.c0 st426
        have hA425 := hA425.c0 st426
        replace hwo0_1 := hwo0_1.up2 st426
        replace hb_o0 := hb_o0.up2 st426
        replace h421 := h421.up2 st426
        refine rt_cont hA425 ?_
        refine rt_act rfl rfl ?_
        have hA427 := Step.r0 (KU (KN s17.n) (KU (KC k0 5) (KU (KC k0 6) (KC k0 0)))) s426
        refine k_append (es := ([a1] : List DiskCall).map dDiskCall) elem60 rfl rfl hwo0_1 (h421.sl) (by have := (app_out hx5).1; simp only [List.length_map] at *; omega) (by have := (app_out hx5).1; simp only [List.length_map] at *; omega) rfl ?_
        intro s428 v428 st428 h428
        rw [← List.map_append, ← (app_out hx5).2] at h428
        have szs428 := st428.size
        have hS := hS.c0 st428
        have hA427 := hA427.c0 st428
        replace hb_o0 := hb_o0.up2 st428
        replace h426 := h426.up2 st428
        refine rt_cont hA427 ?_
        refine rt_read (.pointer (some ⟨bo0, 0, none⟩)) rfl rfl (fun s429 st429 => ?_) ?_
        ·refine k_nilCheck rfl rfl ?_
         exact fq_end
        refine rt_read (.pointer (some ⟨bo0, 3, none⟩)) rfl rfl (fun s430 st430 => ?_) ?_
        ·refine k_field_addr fld64_3 rfl rfl ?_
         exact fq_end
        refine rt_act0 rfl rfl ?_
        have hA431 := Step.r0 (KU (KN s17.n) (KU (KC k0 5) (KU (KC k0 6) (KC k0 0)))) s428
        refine k_store_c (cs' := [.int .i64 a0.capacity, .bool a0.made, .bool a0.down, v426, wo0_1, .int .i64 a0.fuse.n, .int .i64 a0.fuse.keep, .int .i64 a0.fuse.torn]) size59 rfl rfl hb_o0 (by first | (simp; done) | omega | (dsimp only; omega)) (CellsOf.sl (h426.sl)) rfl (by first | rfl | (simp; done) | (simp; omega)) rfl ?_
        intro s432 st432 hb_o0
        have szs432 := st432.size
        have hS := hS.c0 st432
        have hA431 := hA431.c0 st432
        replace h426 := h426.up2 st432
        replace h428 := h428.up2 st432
        refine rt_cont0 hA431 ?_
        refine rt_fin ?_
        refine k_nilCheck rfl rfl ?_
        refine k_field_addr fld64_4 rfl rfl ?_
        refine k_store_c (cs' := [.int .i64 a0.capacity, .bool a0.made, .bool a0.down, v426, v428, .int .i64 a0.fuse.n, .int .i64 a0.fuse.keep, .int .i64 a0.fuse.torn]) size60 rfl rfl hb_o0 (by first | (simp; done) | omega | (dsimp only; omega)) (CellsOf.sl (h428.sl)) rfl (by first | rfl | (simp; done) | (simp; omega)) rfl ?_
        intro s433 st433 hb_o0
        have szs433 := st433.size
        have hS := hS.c0 st433
        replace h426 := h426.up2 st433
        replace h428 := h428.up2 st433
        refine k_nil ?_
        refine k_keep [(0, _), (4, _)] ⟨rfl, rfl, trivial⟩ ?_
        refine k_seq ?_
        refine k_region ?_
        refine k_move rfl rfl ?_
        obtain ⟨x36, hx36, h⟩ := ob h
        refine k_call cal50 rfl (disk_Disk_burn_w  (ODiskDisk.mk_ (⟨a0.capacity, a0.made, a0.down, x4, x5, a0.fuse⟩ : DiskDisk) (by omega) h426 h428 hb_o0) hx36) rfl ?_
        rintro s434 vr434 st434 ⟨rfl, hm434_0⟩
        obtain ⟨w434_0_0, w434_0_1, hb_434_0, hw434_0_0, hw434_0_1⟩ := hm434_0.at_
        have szs434 := st434.size
        have hS := hS.c0 st434
        refine k_assign rfl rfl ?_
        refine k_nil ?_
        refine k_keep [(4, _)] ⟨rfl, trivial⟩ ?_
        refine k_ret ?_
        obtain rfl := Option.some.inj h
        refine ⟨_, rfl, Ret.mk hS ?_⟩
        exact ⟨rfl, (ODiskDisk.mk_ x36.2 (by omega) hw434_0_0 hw434_0_1 hb_434_0)⟩
       ·
        refine rt_act rfl rfl ?_
        have hA435 := Step.r0 (KU (KN s17.n) (KU (KC k0 5) (KU (KC k0 6) (KC k0 0)))) s421
        refine k_bslice2 (ds := ([x2] : List (List DiskFile)).map (dL 2 dDiskFile)) slc59 rfl (RVs.cons h9_0 RVs.nil) (by rfl) (by rfl) rfl rfl ?_
        intro s436 v436 b436 st436 ge436 bl436 h436
        have szs436 := st436.size
        have hS := hS.trans0 st436
        have hA435 := hA435.trans0 st436
        replace hwo0_0 := hwo0_0.up2 st436
        replace hwo0_1 := hwo0_1.up2 st436
        replace hb_o0 := hb_o0.up2 st436
        replace h421 := h421.up2 st436
        have lt436 := Own.le1 h436
        refine rt_cont hA435 ?_
        refine rt_act rfl rfl ?_
        have hA437 := Step.r0 (KU (KN s17.n) (KU (KC k0 5) (KU (KC k0 6) (KC k0 0)))) s436
        refine k_load_blk one59 rfl hb_o0 rfl rfl ?_
        refine rt_cont hA437 ?_
        refine rt_act rfl rfl ?_
        have hA438 := Step.r0 (KU (KN s17.n) (KU (KC k0 5) (KU (KC k0 6) (KC k0 0)))) s436
        refine k_append (es := ([x2] : List (List DiskFile)).map (dL 2 dDiskFile)) elem59 rfl rfl hwo0_0 (h436.sl) (by have := (app_out hx4).1; simp only [List.length_map] at *; omega) (by have := (app_out hx4).1; simp only [List.length_map] at *; omega) rfl ?_
        intro s439 v439 st439 h439
        rw [← List.map_append, ← (app_out hx4).2] at h439
        have szs439 := st439.size
        have hS := hS.c0 st439
        have hA438 := hA438.c0 st439
        replace hwo0_1 := hwo0_1.up2 st439
        replace hb_o0 := hb_o0.up2 st439
        replace h421 := h421.up2 st439
        refine rt_cont hA438 ?_
        refine rt_act rfl rfl ?_
        have hA440 := Step.r0 (KU (KN s17.n) (KU (KC k0 5) (KU (KC k0 6) (KC k0 0)))) s439
        refine k_append (es := ([a1] : List DiskCall).map dDiskCall) elem60 rfl rfl hwo0_1 (h421.sl) (by have := (app_out hx5).1; simp only [List.length_map] at *; omega) (by have := (app_out hx5).1; simp only [List.length_map] at *; omega) rfl ?_
        intro s441 v441 st441 h441
        rw [← List.map_append, ← (app_out hx5).2] at h441
        have szs441 := st441.size
        have hS := hS.c0 st441
        have hA440 := hA440.c0 st441
        replace hb_o0 := hb_o0.up2 st441
        replace h439 := h439.up2 st441
        refine rt_cont hA440 ?_
        refine rt_read (.pointer (some ⟨bo0, 0, none⟩)) rfl rfl (fun s442 st442 => ?_) ?_
        ·refine k_nilCheck rfl rfl ?_
         exact fq_end
        refine rt_read (.pointer (some ⟨bo0, 3, none⟩)) rfl rfl (fun s443 st443 => ?_) ?_
        ·refine k_field_addr fld64_3 rfl rfl ?_
         exact fq_end
        refine rt_act0 rfl rfl ?_
        have hA444 := Step.r0 (KU (KN s17.n) (KU (KC k0 5) (KU (KC k0 6) (KC k0 0)))) s441
        refine k_store_c (cs' := [.int .i64 a0.capacity, .bool a0.made, .bool a0.down, v439, wo0_1, .int .i64 a0.fuse.n, .int .i64 a0.fuse.keep, .int .i64 a0.fuse.torn]) size59 rfl rfl hb_o0 (by first | (simp; done) | omega | (dsimp only; omega)) (CellsOf.sl (h439.sl)) rfl (by first | rfl | (simp; done) | (simp; omega)) rfl ?_
        intro s445 st445 hb_o0
        have szs445 := st445.size
        have hS := hS.c0 st445
        have hA444 := hA444.c0 st445
        replace h439 := h439.up2 st445
        replace h441 := h441.up2 st445
        refine rt_cont0 hA444 ?_
        refine rt_fin ?_
        refine k_nilCheck rfl rfl ?_
        refine k_field_addr fld64_4 rfl rfl ?_
        refine k_store_c (cs' := [.int .i64 a0.capacity, .bool a0.made, .bool a0.down, v439, v441, .int .i64 a0.fuse.n, .int .i64 a0.fuse.keep, .int .i64 a0.fuse.torn]) size60 rfl rfl hb_o0 (by first | (simp; done) | omega | (dsimp only; omega)) (CellsOf.sl (h441.sl)) rfl (by first | rfl | (simp; done) | (simp; omega)) rfl ?_
        intro s446 st446 hb_o0
        have szs446 := st446.size
        have hS := hS.c0 st446
        replace h439 := h439.up2 st446
        replace h441 := h441.up2 st446
        refine k_nil ?_
        refine k_keep [(0, _), (4, _)] ⟨rfl, rfl, trivial⟩ ?_
        refine k_seq ?_
        refine k_region ?_
        refine k_move rfl rfl ?_
        obtain ⟨x37, hx37, h⟩ := ob h
        refine k_call cal50 rfl (disk_Disk_burn_w  (ODiskDisk.mk_ (⟨a0.capacity, a0.made, a0.down, x4, x5, a0.fuse⟩ : DiskDisk) (by omega) h439 h441 hb_o0) hx37) rfl ?_
        rintro s447 vr447 st447 ⟨rfl, hm447_0⟩
        obtain ⟨w447_0_0, w447_0_1, hb_447_0, hw447_0_0, hw447_0_1⟩ := hm447_0.at_
        have szs447 := st447.size
        have hS := hS.c0 st447
        refine k_assign rfl rfl ?_
        refine k_nil ?_
        refine k_keep [(4, _)] ⟨rfl, trivial⟩ ?_
        refine k_ret ?_
        obtain rfl := Option.some.inj h
        refine ⟨_, rfl, Ret.mk hS ?_⟩
        exact ⟨rfl, (ODiskDisk.mk_ x37.2 (by omega) hw447_0_0 hw447_0_1 hb_447_0)⟩
    ·
     refine rt_act rfl rfl ?_
     have hA448 := Step.r0 (KU (KN s17.n) (KU (KC k0 5) (KU (KC k0 6) (KC k0 0)))) s19
     refine k_bslice2 (ds := ([a1] : List DiskCall).map dDiskCall) slc60 rfl (RVs.cons hp1 RVs.nil) (by rfl) (by simp [dDiskCall_wd]) rfl rfl ?_
     intro s449 v449 b449 st449 ge449 bl449 h449
     have szs449 := st449.size
     have hS := hS.trans0 st449
     have hA448 := hA448.trans0 st449
     replace h9_0 := h9_0.up2 st449
     replace hwo0_0 := hwo0_0.up2 st449
     replace hwo0_1 := hwo0_1.up2 st449
     replace hb_o0 := hb_o0.up2 st449
     have lt449 := Own.le1 h449
     refine rt_cont hA448 ?_
     refine rt_alt rfl rfl ?_ ?_
     ·
      have hA450 := Step.r0 (KU (KN s17.n) (KU (KC k0 5) (KU (KC k0 6) (KC k0 0)))) s449
      refine k_load_blk one59 rfl hb_o0 rfl rfl ?_
      refine rt_cont hA450 ?_
      refine rt_alt rfl rfl ?_ ?_
      ·
       have hA451 := Step.r0 (KU (KN s17.n) (KU (KC k0 5) (KU (KC k0 6) (KC k0 0)))) s449
       refine k_bslice2 (ds := ([x2] : List (List DiskFile)).map (dL 2 dDiskFile)) slc59 rfl (RVs.cons h9_0 RVs.nil) (by rfl) (by rfl) rfl rfl ?_
       intro s452 v452 b452 st452 ge452 bl452 h452
       have szs452 := st452.size
       have hS := hS.trans0 st452
       have hA451 := hA451.trans0 st452
       replace hwo0_0 := hwo0_0.up2 st452
       replace hwo0_1 := hwo0_1.up2 st452
       replace hb_o0 := hb_o0.up2 st452
       replace h449 := h449.up2 st452
       have lt452 := Own.le1 h452
       refine rt_cont hA451 ?_
       refine rt_alt rfl rfl ?_ ?_
       ·
        have hA453 := Step.r0 (KU (KN s17.n) (KU (KC k0 5) (KU (KC k0 6) (KC k0 0)))) s452
        refine k_append (es := ([x2] : List (List DiskFile)).map (dL 2 dDiskFile)) elem59 rfl rfl hwo0_0 (h452.sl) (by have := (app_out hx4).1; simp only [List.length_map] at *; omega) (by have := (app_out hx4).1; simp only [List.length_map] at *; omega) rfl ?_
        intro s454 v454 st454 h454
        rw [← List.map_append, ← (app_out hx4).2] at h454
        have szs454 := st454.size
        have hS := hS.c0 st454
        have hA453 := hA453.c0 st454
        replace hwo0_1 := hwo0_1.up2 st454
        replace hb_o0 := hb_o0.up2 st454
        replace h449 := h449.up2 st454
        refine rt_cont hA453 ?_
        refine rt_act rfl rfl ?_
        have hA455 := Step.r0 (KU (KN s17.n) (KU (KC k0 5) (KU (KC k0 6) (KC k0 0)))) s454
        refine k_load_blk one60 rfl hb_o0 rfl rfl ?_
        refine rt_cont hA455 ?_
        refine rt_act rfl rfl ?_
        have hA456 := Step.r0 (KU (KN s17.n) (KU (KC k0 5) (KU (KC k0 6) (KC k0 0)))) s454
        refine k_append (es := ([a1] : List DiskCall).map dDiskCall) elem60 rfl rfl hwo0_1 (h449.sl) (by have := (app_out hx5).1; simp only [List.length_map] at *; omega) (by have := (app_out hx5).1; simp only [List.length_map] at *; omega) rfl ?_
        intro s457 v457 st457 h457
        rw [← List.map_append, ← (app_out hx5).2] at h457
        have szs457 := st457.size
        have hS := hS.c0 st457
        have hA456 := hA456.c0 st457
        replace hb_o0 := hb_o0.up2 st457
        replace h454 := h454.up2 st457
        refine rt_cont hA456 ?_
        refine rt_read (.pointer (some ⟨bo0, 0, none⟩)) rfl rfl (fun s458 st458 => ?_) ?_
        ·refine k_nilCheck rfl rfl ?_
         exact fq_end
        refine rt_read (.pointer (some ⟨bo0, 3, none⟩)) rfl rfl (fun s459 st459 => ?_) ?_
        ·refine k_field_addr fld64_3 rfl rfl ?_
         exact fq_end
        refine rt_act0 rfl rfl ?_
        have hA460 := Step.r0 (KU (KN s17.n) (KU (KC k0 5) (KU (KC k0 6) (KC k0 0)))) s457
        refine k_store_c (cs' := [.int .i64 a0.capacity, .bool a0.made, .bool a0.down, v454, wo0_1, .int .i64 a0.fuse.n, .int .i64 a0.fuse.keep, .int .i64 a0.fuse.torn]) size59 rfl rfl hb_o0 (by first | (simp; done) | omega | (dsimp only; omega)) (CellsOf.sl (h454.sl)) rfl (by first | rfl | (simp; done) | (simp; omega)) rfl ?_
        intro s461 st461 hb_o0
        have szs461 := st461.size
        have hS := hS.c0 st461
        have hA460 := hA460.c0 st461
        replace h454 := h454.up2 st461
        replace h457 := h457.up2 st461
        refine rt_cont0 hA460 ?_
        refine rt_fin ?_
        refine k_nilCheck rfl rfl ?_
        refine k_field_addr fld64_4 rfl rfl ?_
        refine k_store_c (cs' := [.int .i64 a0.capacity, .bool a0.made, .bool a0.down, v454, v457, .int .i64 a0.fuse.n, .int .i64 a0.fuse.keep, .int .i64 a0.fuse.torn]) size60 rfl rfl hb_o0 (by first | (simp; done) | omega | (dsimp only; omega)) (CellsOf.sl (h457.sl)) rfl (by first | rfl | (simp; done) | (simp; omega)) rfl ?_
        intro s462 st462 hb_o0
        have szs462 := st462.size
        have hS := hS.c0 st462
        replace h454 := h454.up2 st462
        replace h457 := h457.up2 st462
        refine k_nil ?_
        refine k_keep [(0, _), (4, _)] ⟨rfl, rfl, trivial⟩ ?_
        refine k_seq ?_
        refine k_region ?_
        refine k_move rfl rfl ?_
        obtain ⟨x38, hx38, h⟩ := ob h
        refine k_call cal50 rfl (disk_Disk_burn_w  (ODiskDisk.mk_ (⟨a0.capacity, a0.made, a0.down, x4, x5, a0.fuse⟩ : DiskDisk) (by omega) h454 h457 hb_o0) hx38) rfl ?_
        rintro s463 vr463 st463 ⟨rfl, hm463_0⟩
        obtain ⟨w463_0_0, w463_0_1, hb_463_0, hw463_0_0, hw463_0_1⟩ := hm463_0.at_
        have szs463 := st463.size
        have hS := hS.c0 st463
        refine k_assign rfl rfl ?_
        refine k_nil ?_
        refine k_keep [(4, _)] ⟨rfl, trivial⟩ ?_
        refine k_ret ?_
        obtain rfl := Option.some.inj h
        refine ⟨_, rfl, Ret.mk hS ?_⟩
        exact ⟨rfl, (ODiskDisk.mk_ x38.2 (by omega) hw463_0_0 hw463_0_1 hb_463_0)⟩
       ·
        refine rt_act rfl rfl ?_
        have hA464 := Step.r0 (KU (KN s17.n) (KU (KC k0 5) (KU (KC k0 6) (KC k0 0)))) s452
        refine k_load_blk one60 rfl hb_o0 rfl rfl ?_
        refine rt_cont hA464 ?_
        refine rt_act rfl rfl ?_
        have hA465 := Step.r0 (KU (KN s17.n) (KU (KC k0 5) (KU (KC k0 6) (KC k0 0)))) s452
        refine k_append (es := ([x2] : List (List DiskFile)).map (dL 2 dDiskFile)) elem59 rfl rfl hwo0_0 (h452.sl) (by have := (app_out hx4).1; simp only [List.length_map] at *; omega) (by have := (app_out hx4).1; simp only [List.length_map] at *; omega) rfl ?_
        intro s466 v466 st466 h466
        rw [← List.map_append, ← (app_out hx4).2] at h466
        have szs466 := st466.size
        have hS := hS.c0 st466
        have hA465 := hA465.c0 st466
        replace hwo0_1 := hwo0_1.up2 st466
        replace hb_o0 := hb_o0.up2 st466
        replace h449 := h449.up2 st466
        refine rt_cont hA465 ?_
        refine rt_act rfl rfl ?_
        have hA467 := Step.r0 (KU (KN s17.n) (KU (KC k0 5) (KU (KC k0 6) (KC k0 0)))) s466
        refine k_append (es := ([a1] : List DiskCall).map dDiskCall) elem60 rfl rfl hwo0_1 (h449.sl) (by have := (app_out hx5).1; simp only [List.length_map] at *; omega) (by have := (app_out hx5).1; simp only [List.length_map] at *; omega) rfl ?_
        intro s468 v468 st468 h468
        rw [← List.map_append, ← (app_out hx5).2] at h468
        have szs468 := st468.size
        have hS := hS.c0 st468
        have hA467 := hA467.c0 st468
        replace hb_o0 := hb_o0.up2 st468
        replace h466 := h466.up2 st468
        refine rt_cont hA467 ?_
        refine rt_read (.pointer (some ⟨bo0, 0, none⟩)) rfl rfl (fun s469 st469 => ?_) ?_
        ·refine k_nilCheck rfl rfl ?_
         exact fq_end
        refine rt_read (.pointer (some ⟨bo0, 3, none⟩)) rfl rfl (fun s470 st470 => ?_) ?_
        ·refine k_field_addr fld64_3 rfl rfl ?_
         exact fq_end
        refine rt_act0 rfl rfl ?_
        have hA471 := Step.r0 (KU (KN s17.n) (KU (KC k0 5) (KU (KC k0 6) (KC k0 0)))) s468
        refine k_store_c (cs' := [.int .i64 a0.capacity, .bool a0.made, .bool a0.down, v466, wo0_1, .int .i64 a0.fuse.n, .int .i64 a0.fuse.keep, .int .i64 a0.fuse.torn]) size59 rfl rfl hb_o0 (by first | (simp; done) | omega | (dsimp only; omega)) (CellsOf.sl (h466.sl)) rfl (by first | rfl | (simp; done) | (simp; omega)) rfl ?_
        intro s472 st472 hb_o0
        have szs472 := st472.size
        have hS := hS.c0 st472
        have hA471 := hA471.c0 st472
        replace h466 := h466.up2 st472
        replace h468 := h468.up2 st472
        refine rt_cont0 hA471 ?_
        refine rt_fin ?_
        refine k_nilCheck rfl rfl ?_
        refine k_field_addr fld64_4 rfl rfl ?_
        refine k_store_c (cs' := [.int .i64 a0.capacity, .bool a0.made, .bool a0.down, v466, v468, .int .i64 a0.fuse.n, .int .i64 a0.fuse.keep, .int .i64 a0.fuse.torn]) size60 rfl rfl hb_o0 (by first | (simp; done) | omega | (dsimp only; omega)) (CellsOf.sl (h468.sl)) rfl (by first | rfl | (simp; done) | (simp; omega)) rfl ?_
        intro s473 st473 hb_o0
        have szs473 := st473.size
        have hS := hS.c0 st473
        replace h466 := h466.up2 st473
        replace h468 := h468.up2 st473
        refine k_nil ?_
        refine k_keep [(0, _), (4, _)] ⟨rfl, rfl, trivial⟩ ?_
        refine k_seq ?_
        refine k_region ?_
        refine k_move rfl rfl ?_
        obtain ⟨x39, hx39, h⟩ := ob h
        refine k_call cal50 rfl (disk_Disk_burn_w  (ODiskDisk.mk_ (⟨a0.capacity, a0.made, a0.down, x4, x5, a0.fuse⟩ : DiskDisk) (by omega) h466 h468 hb_o0) hx39) rfl ?_
        rintro s474 vr474 st474 ⟨rfl, hm474_0⟩
        obtain ⟨w474_0_0, w474_0_1, hb_474_0, hw474_0_0, hw474_0_1⟩ := hm474_0.at_
        have szs474 := st474.size
        have hS := hS.c0 st474
        refine k_assign rfl rfl ?_
        refine k_nil ?_
        refine k_keep [(4, _)] ⟨rfl, trivial⟩ ?_
        refine k_ret ?_
        obtain rfl := Option.some.inj h
        refine ⟨_, rfl, Ret.mk hS ?_⟩
        exact ⟨rfl, (ODiskDisk.mk_ x39.2 (by omega) hw474_0_0 hw474_0_1 hb_474_0)⟩
      ·
       refine rt_act rfl rfl ?_
       have hA475 := Step.r0 (KU (KN s17.n) (KU (KC k0 5) (KU (KC k0 6) (KC k0 0)))) s449
       refine k_load_blk one60 rfl hb_o0 rfl rfl ?_
       refine rt_cont hA475 ?_
       refine rt_act rfl rfl ?_
       have hA476 := Step.r0 (KU (KN s17.n) (KU (KC k0 5) (KU (KC k0 6) (KC k0 0)))) s449
       refine k_bslice2 (ds := ([x2] : List (List DiskFile)).map (dL 2 dDiskFile)) slc59 rfl (RVs.cons h9_0 RVs.nil) (by rfl) (by rfl) rfl rfl ?_
       intro s477 v477 b477 st477 ge477 bl477 h477
       have szs477 := st477.size
       have hS := hS.trans0 st477
       have hA476 := hA476.trans0 st477
       replace hwo0_0 := hwo0_0.up2 st477
       replace hwo0_1 := hwo0_1.up2 st477
       replace hb_o0 := hb_o0.up2 st477
       replace h449 := h449.up2 st477
       have lt477 := Own.le1 h477
       refine rt_cont hA476 ?_
       refine rt_act rfl rfl ?_
       have hA478 := Step.r0 (KU (KN s17.n) (KU (KC k0 5) (KU (KC k0 6) (KC k0 0)))) s477
       refine k_append (es := ([x2] : List (List DiskFile)).map (dL 2 dDiskFile)) elem59 rfl rfl hwo0_0 (h477.sl) (by have := (app_out hx4).1; simp only [List.length_map] at *; omega) (by have := (app_out hx4).1; simp only [List.length_map] at *; omega) rfl ?_
       intro s479 v479 st479 h479
       rw [← List.map_append, ← (app_out hx4).2] at h479
       have szs479 := st479.size
       have hS := hS.c0 st479
       have hA478 := hA478.c0 st479
       replace hwo0_1 := hwo0_1.up2 st479
       replace hb_o0 := hb_o0.up2 st479
       replace h449 := h449.up2 st479
       refine rt_cont hA478 ?_
       refine rt_act rfl rfl ?_
       have hA480 := Step.r0 (KU (KN s17.n) (KU (KC k0 5) (KU (KC k0 6) (KC k0 0)))) s479
       refine k_append (es := ([a1] : List DiskCall).map dDiskCall) elem60 rfl rfl hwo0_1 (h449.sl) (by have := (app_out hx5).1; simp only [List.length_map] at *; omega) (by have := (app_out hx5).1; simp only [List.length_map] at *; omega) rfl ?_
       intro s481 v481 st481 h481
       rw [← List.map_append, ← (app_out hx5).2] at h481
       have szs481 := st481.size
       have hS := hS.c0 st481
       have hA480 := hA480.c0 st481
       replace hb_o0 := hb_o0.up2 st481
       replace h479 := h479.up2 st481
       refine rt_cont hA480 ?_
       refine rt_read (.pointer (some ⟨bo0, 0, none⟩)) rfl rfl (fun s482 st482 => ?_) ?_
       ·refine k_nilCheck rfl rfl ?_
        exact fq_end
       refine rt_read (.pointer (some ⟨bo0, 3, none⟩)) rfl rfl (fun s483 st483 => ?_) ?_
       ·refine k_field_addr fld64_3 rfl rfl ?_
        exact fq_end
       refine rt_act0 rfl rfl ?_
       have hA484 := Step.r0 (KU (KN s17.n) (KU (KC k0 5) (KU (KC k0 6) (KC k0 0)))) s481
       refine k_store_c (cs' := [.int .i64 a0.capacity, .bool a0.made, .bool a0.down, v479, wo0_1, .int .i64 a0.fuse.n, .int .i64 a0.fuse.keep, .int .i64 a0.fuse.torn]) size59 rfl rfl hb_o0 (by first | (simp; done) | omega | (dsimp only; omega)) (CellsOf.sl (h479.sl)) rfl (by first | rfl | (simp; done) | (simp; omega)) rfl ?_
       intro s485 st485 hb_o0
       have szs485 := st485.size
       have hS := hS.c0 st485
       have hA484 := hA484.c0 st485
       replace h479 := h479.up2 st485
       replace h481 := h481.up2 st485
       refine rt_cont0 hA484 ?_
       refine rt_fin ?_
       refine k_nilCheck rfl rfl ?_
       refine k_field_addr fld64_4 rfl rfl ?_
       refine k_store_c (cs' := [.int .i64 a0.capacity, .bool a0.made, .bool a0.down, v479, v481, .int .i64 a0.fuse.n, .int .i64 a0.fuse.keep, .int .i64 a0.fuse.torn]) size60 rfl rfl hb_o0 (by first | (simp; done) | omega | (dsimp only; omega)) (CellsOf.sl (h481.sl)) rfl (by first | rfl | (simp; done) | (simp; omega)) rfl ?_
       intro s486 st486 hb_o0
       have szs486 := st486.size
       have hS := hS.c0 st486
       replace h479 := h479.up2 st486
       replace h481 := h481.up2 st486
       refine k_nil ?_
       refine k_keep [(0, _), (4, _)] ⟨rfl, rfl, trivial⟩ ?_
       refine k_seq ?_
       refine k_region ?_
       refine k_move rfl rfl ?_
       obtain ⟨x40, hx40, h⟩ := ob h
       refine k_call cal50 rfl (disk_Disk_burn_w  (ODiskDisk.mk_ (⟨a0.capacity, a0.made, a0.down, x4, x5, a0.fuse⟩ : DiskDisk) (by omega) h479 h481 hb_o0) hx40) rfl ?_
       rintro s487 vr487 st487 ⟨rfl, hm487_0⟩
       obtain ⟨w487_0_0, w487_0_1, hb_487_0, hw487_0_0, hw487_0_1⟩ := hm487_0.at_
       have szs487 := st487.size
       have hS := hS.c0 st487
       refine k_assign rfl rfl ?_
       refine k_nil ?_
       refine k_keep [(4, _)] ⟨rfl, trivial⟩ ?_
       refine k_ret ?_
       obtain rfl := Option.some.inj h
       refine ⟨_, rfl, Ret.mk hS ?_⟩
       exact ⟨rfl, (ODiskDisk.mk_ x40.2 (by omega) hw487_0_0 hw487_0_1 hb_487_0)⟩
     ·
      refine rt_alt rfl rfl ?_ ?_
      ·
       have hA488 := Step.r0 (KU (KN s17.n) (KU (KC k0 5) (KU (KC k0 6) (KC k0 0)))) s449
       refine k_bslice2 (ds := ([x2] : List (List DiskFile)).map (dL 2 dDiskFile)) slc59 rfl (RVs.cons h9_0 RVs.nil) (by rfl) (by rfl) rfl rfl ?_
       intro s489 v489 b489 st489 ge489 bl489 h489
       have szs489 := st489.size
       have hS := hS.trans0 st489
       have hA488 := hA488.trans0 st489
       replace hwo0_0 := hwo0_0.up2 st489
       replace hwo0_1 := hwo0_1.up2 st489
       replace hb_o0 := hb_o0.up2 st489
       replace h449 := h449.up2 st489
       have lt489 := Own.le1 h489
       refine rt_cont hA488 ?_
       refine rt_alt rfl rfl ?_ ?_
       ·
        have hA490 := Step.r0 (KU (KN s17.n) (KU (KC k0 5) (KU (KC k0 6) (KC k0 0)))) s489
        refine k_load_blk one59 rfl hb_o0 rfl rfl ?_
        refine rt_cont hA490 ?_
        refine rt_alt rfl rfl ?_ ?_
        ·
         have hA491 := Step.r0 (KU (KN s17.n) (KU (KC k0 5) (KU (KC k0 6) (KC k0 0)))) s489
         refine k_append (es := ([x2] : List (List DiskFile)).map (dL 2 dDiskFile)) elem59 rfl rfl hwo0_0 (h489.sl) (by have := (app_out hx4).1; simp only [List.length_map] at *; omega) (by have := (app_out hx4).1; simp only [List.length_map] at *; omega) rfl ?_
         intro s492 v492 st492 h492
         rw [← List.map_append, ← (app_out hx4).2] at h492
         have szs492 := st492.size
         have hS := hS.c0 st492
         have hA491 := hA491.c0 st492
         replace hwo0_1 := hwo0_1.up2 st492
         replace hb_o0 := hb_o0.up2 st492
         replace h449 := h449.up2 st492
         refine rt_cont hA491 ?_
         refine rt_act rfl rfl ?_
         have hA493 := Step.r0 (KU (KN s17.n) (KU (KC k0 5) (KU (KC k0 6) (KC k0 0)))) s492
         refine k_load_blk one60 rfl hb_o0 rfl rfl ?_
         refine rt_cont hA493 ?_
         refine rt_act rfl rfl ?_
         have hA494 := Step.r0 (KU (KN s17.n) (KU (KC k0 5) (KU (KC k0 6) (KC k0 0)))) s492
         refine k_append (es := ([a1] : List DiskCall).map dDiskCall) elem60 rfl rfl hwo0_1 (h449.sl) (by have := (app_out hx5).1; simp only [List.length_map] at *; omega) (by have := (app_out hx5).1; simp only [List.length_map] at *; omega) rfl ?_
         intro s495 v495 st495 h495
         rw [← List.map_append, ← (app_out hx5).2] at h495
         have szs495 := st495.size
         have hS := hS.c0 st495
         have hA494 := hA494.c0 st495
         replace hb_o0 := hb_o0.up2 st495
         replace h492 := h492.up2 st495
         refine rt_cont hA494 ?_
         refine rt_read (.pointer (some ⟨bo0, 0, none⟩)) rfl rfl (fun s496 st496 => ?_) ?_
         ·refine k_nilCheck rfl rfl ?_
          exact fq_end
         refine rt_read (.pointer (some ⟨bo0, 3, none⟩)) rfl rfl (fun s497 st497 => ?_) ?_
         ·refine k_field_addr fld64_3 rfl rfl ?_
          exact fq_end
         refine rt_act0 rfl rfl ?_
         have hA498 := Step.r0 (KU (KN s17.n) (KU (KC k0 5) (KU (KC k0 6) (KC k0 0)))) s495
         refine k_store_c (cs' := [.int .i64 a0.capacity, .bool a0.made, .bool a0.down, v492, wo0_1, .int .i64 a0.fuse.n, .int .i64 a0.fuse.keep, .int .i64 a0.fuse.torn]) size59 rfl rfl hb_o0 (by first | (simp; done) | omega | (dsimp only; omega)) (CellsOf.sl (h492.sl)) rfl (by first | rfl | (simp; done) | (simp; omega)) rfl ?_
         intro s499 st499 hb_o0
         have szs499 := st499.size
         have hS := hS.c0 st499
         have hA498 := hA498.c0 st499
         replace h492 := h492.up2 st499
         replace h495 := h495.up2 st499
         refine rt_cont0 hA498 ?_
         refine rt_fin ?_
         refine k_nilCheck rfl rfl ?_
         refine k_field_addr fld64_4 rfl rfl ?_
         refine k_store_c (cs' := [.int .i64 a0.capacity, .bool a0.made, .bool a0.down, v492, v495, .int .i64 a0.fuse.n, .int .i64 a0.fuse.keep, .int .i64 a0.fuse.torn]) size60 rfl rfl hb_o0 (by first | (simp; done) | omega | (dsimp only; omega)) (CellsOf.sl (h495.sl)) rfl (by first | rfl | (simp; done) | (simp; omega)) rfl ?_
         intro s500 st500 hb_o0
         have szs500 := st500.size
         have hS := hS.c0 st500
         replace h492 := h492.up2 st500
         replace h495 := h495.up2 st500
         refine k_nil ?_
         refine k_keep [(0, _), (4, _)] ⟨rfl, rfl, trivial⟩ ?_
         refine k_seq ?_
         refine k_region ?_
         refine k_move rfl rfl ?_
         obtain ⟨x41, hx41, h⟩ := ob h
         refine k_call cal50 rfl (disk_Disk_burn_w  (ODiskDisk.mk_ (⟨a0.capacity, a0.made, a0.down, x4, x5, a0.fuse⟩ : DiskDisk) (by omega) h492 h495 hb_o0) hx41) rfl ?_
         rintro s501 vr501 st501 ⟨rfl, hm501_0⟩
         obtain ⟨w501_0_0, w501_0_1, hb_501_0, hw501_0_0, hw501_0_1⟩ := hm501_0.at_
         have szs501 := st501.size
         have hS := hS.c0 st501
         refine k_assign rfl rfl ?_
         refine k_nil ?_
         refine k_keep [(4, _)] ⟨rfl, trivial⟩ ?_
         refine k_ret ?_
         obtain rfl := Option.some.inj h
         refine ⟨_, rfl, Ret.mk hS ?_⟩
         exact ⟨rfl, (ODiskDisk.mk_ x41.2 (by omega) hw501_0_0 hw501_0_1 hb_501_0)⟩
        ·
         refine rt_act rfl rfl ?_
         have hA502 := Step.r0 (KU (KN s17.n) (KU (KC k0 5) (KU (KC k0 6) (KC k0 0)))) s489
         refine k_load_blk one60 rfl hb_o0 rfl rfl ?_
         refine rt_cont hA502 ?_
         refine rt_act rfl rfl ?_
         have hA503 := Step.r0 (KU (KN s17.n) (KU (KC k0 5) (KU (KC k0 6) (KC k0 0)))) s489
         refine k_append (es := ([x2] : List (List DiskFile)).map (dL 2 dDiskFile)) elem59 rfl rfl hwo0_0 (h489.sl) (by have := (app_out hx4).1; simp only [List.length_map] at *; omega) (by have := (app_out hx4).1; simp only [List.length_map] at *; omega) rfl ?_
         intro s504 v504 st504 h504
         rw [← List.map_append, ← (app_out hx4).2] at h504
         have szs504 := st504.size
         have hS := hS.c0 st504
         have hA503 := hA503.c0 st504
         replace hwo0_1 := hwo0_1.up2 st504
         replace hb_o0 := hb_o0.up2 st504
         replace h449 := h449.up2 st504
         refine rt_cont hA503 ?_
         refine rt_act rfl rfl ?_
         have hA505 := Step.r0 (KU (KN s17.n) (KU (KC k0 5) (KU (KC k0 6) (KC k0 0)))) s504
         refine k_append (es := ([a1] : List DiskCall).map dDiskCall) elem60 rfl rfl hwo0_1 (h449.sl) (by have := (app_out hx5).1; simp only [List.length_map] at *; omega) (by have := (app_out hx5).1; simp only [List.length_map] at *; omega) rfl ?_
         intro s506 v506 st506 h506
         rw [← List.map_append, ← (app_out hx5).2] at h506
         have szs506 := st506.size
         have hS := hS.c0 st506
         have hA505 := hA505.c0 st506
         replace hb_o0 := hb_o0.up2 st506
         replace h504 := h504.up2 st506
         refine rt_cont hA505 ?_
         refine rt_read (.pointer (some ⟨bo0, 0, none⟩)) rfl rfl (fun s507 st507 => ?_) ?_
         ·refine k_nilCheck rfl rfl ?_
          exact fq_end
         refine rt_read (.pointer (some ⟨bo0, 3, none⟩)) rfl rfl (fun s508 st508 => ?_) ?_
         ·refine k_field_addr fld64_3 rfl rfl ?_
          exact fq_end
         refine rt_act0 rfl rfl ?_
         have hA509 := Step.r0 (KU (KN s17.n) (KU (KC k0 5) (KU (KC k0 6) (KC k0 0)))) s506
         refine k_store_c (cs' := [.int .i64 a0.capacity, .bool a0.made, .bool a0.down, v504, wo0_1, .int .i64 a0.fuse.n, .int .i64 a0.fuse.keep, .int .i64 a0.fuse.torn]) size59 rfl rfl hb_o0 (by first | (simp; done) | omega | (dsimp only; omega)) (CellsOf.sl (h504.sl)) rfl (by first | rfl | (simp; done) | (simp; omega)) rfl ?_
         intro s510 st510 hb_o0
         have szs510 := st510.size
         have hS := hS.c0 st510
         have hA509 := hA509.c0 st510
         replace h504 := h504.up2 st510
         replace h506 := h506.up2 st510
         refine rt_cont0 hA509 ?_
         refine rt_fin ?_
         refine k_nilCheck rfl rfl ?_
         refine k_field_addr fld64_4 rfl rfl ?_
         refine k_store_c (cs' := [.int .i64 a0.capacity, .bool a0.made, .bool a0.down, v504, v506, .int .i64 a0.fuse.n, .int .i64 a0.fuse.keep, .int .i64 a0.fuse.torn]) size60 rfl rfl hb_o0 (by first | (simp; done) | omega | (dsimp only; omega)) (CellsOf.sl (h506.sl)) rfl (by first | rfl | (simp; done) | (simp; omega)) rfl ?_
         intro s511 st511 hb_o0
         have szs511 := st511.size
         have hS := hS.c0 st511
         replace h504 := h504.up2 st511
         replace h506 := h506.up2 st511
         refine k_nil ?_
         refine k_keep [(0, _), (4, _)] ⟨rfl, rfl, trivial⟩ ?_
         refine k_seq ?_
         refine k_region ?_
         refine k_move rfl rfl ?_
         obtain ⟨x42, hx42, h⟩ := ob h
         refine k_call cal50 rfl (disk_Disk_burn_w  (ODiskDisk.mk_ (⟨a0.capacity, a0.made, a0.down, x4, x5, a0.fuse⟩ : DiskDisk) (by omega) h504 h506 hb_o0) hx42) rfl ?_
         rintro s512 vr512 st512 ⟨rfl, hm512_0⟩
         obtain ⟨w512_0_0, w512_0_1, hb_512_0, hw512_0_0, hw512_0_1⟩ := hm512_0.at_
         have szs512 := st512.size
         have hS := hS.c0 st512
         refine k_assign rfl rfl ?_
         refine k_nil ?_
         refine k_keep [(4, _)] ⟨rfl, trivial⟩ ?_
         refine k_ret ?_
         obtain rfl := Option.some.inj h
         refine ⟨_, rfl, Ret.mk hS ?_⟩
         exact ⟨rfl, (ODiskDisk.mk_ x42.2 (by omega) hw512_0_0 hw512_0_1 hb_512_0)⟩
       ·
        refine rt_act rfl rfl ?_
        have hA513 := Step.r0 (KU (KN s17.n) (KU (KC k0 5) (KU (KC k0 6) (KC k0 0)))) s489
        refine k_load_blk one60 rfl hb_o0 rfl rfl ?_
        refine rt_cont hA513 ?_
        refine rt_act rfl rfl ?_
        have hA514 := Step.r0 (KU (KN s17.n) (KU (KC k0 5) (KU (KC k0 6) (KC k0 0)))) s489
        refine k_load_blk one59 rfl hb_o0 rfl rfl ?_
        refine rt_cont hA514 ?_
        refine rt_act rfl rfl ?_
        have hA515 := Step.r0 (KU (KN s17.n) (KU (KC k0 5) (KU (KC k0 6) (KC k0 0)))) s489
        refine k_append (es := ([x2] : List (List DiskFile)).map (dL 2 dDiskFile)) elem59 rfl rfl hwo0_0 (h489.sl) (by have := (app_out hx4).1; simp only [List.length_map] at *; omega) (by have := (app_out hx4).1; simp only [List.length_map] at *; omega) rfl ?_
        intro s516 v516 st516 h516
        rw [← List.map_append, ← (app_out hx4).2] at h516
        have szs516 := st516.size
        have hS := hS.c0 st516
        have hA515 := hA515.c0 st516
        replace hwo0_1 := hwo0_1.up2 st516
        replace hb_o0 := hb_o0.up2 st516
        replace h449 := h449.up2 st516
        refine rt_cont hA515 ?_
        refine rt_act rfl rfl ?_
        have hA517 := Step.r0 (KU (KN s17.n) (KU (KC k0 5) (KU (KC k0 6) (KC k0 0)))) s516
        refine k_append (es := ([a1] : List DiskCall).map dDiskCall) elem60 rfl rfl hwo0_1 (h449.sl) (by have := (app_out hx5).1; simp only [List.length_map] at *; omega) (by have := (app_out hx5).1; simp only [List.length_map] at *; omega) rfl ?_
        intro s518 v518 st518 h518
        rw [← List.map_append, ← (app_out hx5).2] at h518
        have szs518 := st518.size
        have hS := hS.c0 st518
        have hA517 := hA517.c0 st518
        replace hb_o0 := hb_o0.up2 st518
        replace h516 := h516.up2 st518
        refine rt_cont hA517 ?_
        refine rt_read (.pointer (some ⟨bo0, 0, none⟩)) rfl rfl (fun s519 st519 => ?_) ?_
        ·refine k_nilCheck rfl rfl ?_
         exact fq_end
        refine rt_read (.pointer (some ⟨bo0, 3, none⟩)) rfl rfl (fun s520 st520 => ?_) ?_
        ·refine k_field_addr fld64_3 rfl rfl ?_
         exact fq_end
        refine rt_act0 rfl rfl ?_
        have hA521 := Step.r0 (KU (KN s17.n) (KU (KC k0 5) (KU (KC k0 6) (KC k0 0)))) s518
        refine k_store_c (cs' := [.int .i64 a0.capacity, .bool a0.made, .bool a0.down, v516, wo0_1, .int .i64 a0.fuse.n, .int .i64 a0.fuse.keep, .int .i64 a0.fuse.torn]) size59 rfl rfl hb_o0 (by first | (simp; done) | omega | (dsimp only; omega)) (CellsOf.sl (h516.sl)) rfl (by first | rfl | (simp; done) | (simp; omega)) rfl ?_
        intro s522 st522 hb_o0
        have szs522 := st522.size
        have hS := hS.c0 st522
        have hA521 := hA521.c0 st522
        replace h516 := h516.up2 st522
        replace h518 := h518.up2 st522
        refine rt_cont0 hA521 ?_
        refine rt_fin ?_
        refine k_nilCheck rfl rfl ?_
        refine k_field_addr fld64_4 rfl rfl ?_
        refine k_store_c (cs' := [.int .i64 a0.capacity, .bool a0.made, .bool a0.down, v516, v518, .int .i64 a0.fuse.n, .int .i64 a0.fuse.keep, .int .i64 a0.fuse.torn]) size60 rfl rfl hb_o0 (by first | (simp; done) | omega | (dsimp only; omega)) (CellsOf.sl (h518.sl)) rfl (by first | rfl | (simp; done) | (simp; omega)) rfl ?_
        intro s523 st523 hb_o0
        have szs523 := st523.size
        have hS := hS.c0 st523
        replace h516 := h516.up2 st523
        replace h518 := h518.up2 st523
        refine k_nil ?_
        refine k_keep [(0, _), (4, _)] ⟨rfl, rfl, trivial⟩ ?_
        refine k_seq ?_
        refine k_region ?_
        refine k_move rfl rfl ?_
        obtain ⟨x43, hx43, h⟩ := ob h
        refine k_call cal50 rfl (disk_Disk_burn_w  (ODiskDisk.mk_ (⟨a0.capacity, a0.made, a0.down, x4, x5, a0.fuse⟩ : DiskDisk) (by omega) h516 h518 hb_o0) hx43) rfl ?_
        rintro s524 vr524 st524 ⟨rfl, hm524_0⟩
        obtain ⟨w524_0_0, w524_0_1, hb_524_0, hw524_0_0, hw524_0_1⟩ := hm524_0.at_
        have szs524 := st524.size
        have hS := hS.c0 st524
        refine k_assign rfl rfl ?_
        refine k_nil ?_
        refine k_keep [(4, _)] ⟨rfl, trivial⟩ ?_
        refine k_ret ?_
        obtain rfl := Option.some.inj h
        refine ⟨_, rfl, Ret.mk hS ?_⟩
        exact ⟨rfl, (ODiskDisk.mk_ x43.2 (by omega) hw524_0_0 hw524_0_1 hb_524_0)⟩
      ·
       refine rt_act rfl rfl ?_
       have hA525 := Step.r0 (KU (KN s17.n) (KU (KC k0 5) (KU (KC k0 6) (KC k0 0)))) s449
       refine k_load_blk one60 rfl hb_o0 rfl rfl ?_
       refine rt_cont hA525 ?_
       refine rt_alt rfl rfl ?_ ?_
       ·
        have hA526 := Step.r0 (KU (KN s17.n) (KU (KC k0 5) (KU (KC k0 6) (KC k0 0)))) s449
        refine k_load_blk one59 rfl hb_o0 rfl rfl ?_
        refine rt_cont hA526 ?_
        refine rt_act rfl rfl ?_
        have hA527 := Step.r0 (KU (KN s17.n) (KU (KC k0 5) (KU (KC k0 6) (KC k0 0)))) s449
        refine k_bslice2 (ds := ([x2] : List (List DiskFile)).map (dL 2 dDiskFile)) slc59 rfl (RVs.cons h9_0 RVs.nil) (by rfl) (by rfl) rfl rfl ?_
        intro s528 v528 b528 st528 ge528 bl528 h528
        have szs528 := st528.size
        have hS := hS.trans0 st528
        have hA527 := hA527.trans0 st528
        replace hwo0_0 := hwo0_0.up2 st528
        replace hwo0_1 := hwo0_1.up2 st528
        replace hb_o0 := hb_o0.up2 st528
        replace h449 := h449.up2 st528
        have lt528 := Own.le1 h528
        refine rt_cont hA527 ?_
        refine rt_act rfl rfl ?_
        have hA529 := Step.r0 (KU (KN s17.n) (KU (KC k0 5) (KU (KC k0 6) (KC k0 0)))) s528
        refine k_append (es := ([x2] : List (List DiskFile)).map (dL 2 dDiskFile)) elem59 rfl rfl hwo0_0 (h528.sl) (by have := (app_out hx4).1; simp only [List.length_map] at *; omega) (by have := (app_out hx4).1; simp only [List.length_map] at *; omega) rfl ?_
        intro s530 v530 st530 h530
        rw [← List.map_append, ← (app_out hx4).2] at h530
        have szs530 := st530.size
        have hS := hS.c0 st530
        have hA529 := hA529.c0 st530
        replace hwo0_1 := hwo0_1.up2 st530
        replace hb_o0 := hb_o0.up2 st530
        replace h449 := h449.up2 st530
        refine rt_cont hA529 ?_
        refine rt_act rfl rfl ?_
        have hA531 := Step.r0 (KU (KN s17.n) (KU (KC k0 5) (KU (KC k0 6) (KC k0 0)))) s530
        refine k_append (es := ([a1] : List DiskCall).map dDiskCall) elem60 rfl rfl hwo0_1 (h449.sl) (by have := (app_out hx5).1; simp only [List.length_map] at *; omega) (by have := (app_out hx5).1; simp only [List.length_map] at *; omega) rfl ?_
        intro s532 v532 st532 h532
        rw [← List.map_append, ← (app_out hx5).2] at h532
        have szs532 := st532.size
        have hS := hS.c0 st532
        have hA531 := hA531.c0 st532
        replace hb_o0 := hb_o0.up2 st532
        replace h530 := h530.up2 st532
        refine rt_cont hA531 ?_
        refine rt_read (.pointer (some ⟨bo0, 0, none⟩)) rfl rfl (fun s533 st533 => ?_) ?_
        ·refine k_nilCheck rfl rfl ?_
         exact fq_end
        refine rt_read (.pointer (some ⟨bo0, 3, none⟩)) rfl rfl (fun s534 st534 => ?_) ?_
        ·refine k_field_addr fld64_3 rfl rfl ?_
         exact fq_end
        refine rt_act0 rfl rfl ?_
        have hA535 := Step.r0 (KU (KN s17.n) (KU (KC k0 5) (KU (KC k0 6) (KC k0 0)))) s532
        refine k_store_c (cs' := [.int .i64 a0.capacity, .bool a0.made, .bool a0.down, v530, wo0_1, .int .i64 a0.fuse.n, .int .i64 a0.fuse.keep, .int .i64 a0.fuse.torn]) size59 rfl rfl hb_o0 (by first | (simp; done) | omega | (dsimp only; omega)) (CellsOf.sl (h530.sl)) rfl (by first | rfl | (simp; done) | (simp; omega)) rfl ?_
        intro s536 st536 hb_o0
        have szs536 := st536.size
        have hS := hS.c0 st536
        have hA535 := hA535.c0 st536
        replace h530 := h530.up2 st536
        replace h532 := h532.up2 st536
        refine rt_cont0 hA535 ?_
        refine rt_fin ?_
        refine k_nilCheck rfl rfl ?_
        refine k_field_addr fld64_4 rfl rfl ?_
        refine k_store_c (cs' := [.int .i64 a0.capacity, .bool a0.made, .bool a0.down, v530, v532, .int .i64 a0.fuse.n, .int .i64 a0.fuse.keep, .int .i64 a0.fuse.torn]) size60 rfl rfl hb_o0 (by first | (simp; done) | omega | (dsimp only; omega)) (CellsOf.sl (h532.sl)) rfl (by first | rfl | (simp; done) | (simp; omega)) rfl ?_
        intro s537 st537 hb_o0
        have szs537 := st537.size
        have hS := hS.c0 st537
        replace h530 := h530.up2 st537
        replace h532 := h532.up2 st537
        refine k_nil ?_
        refine k_keep [(0, _), (4, _)] ⟨rfl, rfl, trivial⟩ ?_
        refine k_seq ?_
        refine k_region ?_
        refine k_move rfl rfl ?_
        obtain ⟨x44, hx44, h⟩ := ob h
        refine k_call cal50 rfl (disk_Disk_burn_w  (ODiskDisk.mk_ (⟨a0.capacity, a0.made, a0.down, x4, x5, a0.fuse⟩ : DiskDisk) (by omega) h530 h532 hb_o0) hx44) rfl ?_
        rintro s538 vr538 st538 ⟨rfl, hm538_0⟩
        obtain ⟨w538_0_0, w538_0_1, hb_538_0, hw538_0_0, hw538_0_1⟩ := hm538_0.at_
        have szs538 := st538.size
        have hS := hS.c0 st538
        refine k_assign rfl rfl ?_
        refine k_nil ?_
        refine k_keep [(4, _)] ⟨rfl, trivial⟩ ?_
        refine k_ret ?_
        obtain rfl := Option.some.inj h
        refine ⟨_, rfl, Ret.mk hS ?_⟩
        exact ⟨rfl, (ODiskDisk.mk_ x44.2 (by omega) hw538_0_0 hw538_0_1 hb_538_0)⟩
       ·
        refine rt_act rfl rfl ?_
        have hA539 := Step.r0 (KU (KN s17.n) (KU (KC k0 5) (KU (KC k0 6) (KC k0 0)))) s449
        refine k_bslice2 (ds := ([x2] : List (List DiskFile)).map (dL 2 dDiskFile)) slc59 rfl (RVs.cons h9_0 RVs.nil) (by rfl) (by rfl) rfl rfl ?_
        intro s540 v540 b540 st540 ge540 bl540 h540
        have szs540 := st540.size
        have hS := hS.trans0 st540
        have hA539 := hA539.trans0 st540
        replace hwo0_0 := hwo0_0.up2 st540
        replace hwo0_1 := hwo0_1.up2 st540
        replace hb_o0 := hb_o0.up2 st540
        replace h449 := h449.up2 st540
        have lt540 := Own.le1 h540
        refine rt_cont hA539 ?_
        refine rt_act rfl rfl ?_
        have hA541 := Step.r0 (KU (KN s17.n) (KU (KC k0 5) (KU (KC k0 6) (KC k0 0)))) s540
        refine k_load_blk one59 rfl hb_o0 rfl rfl ?_
        refine rt_cont hA541 ?_
        refine rt_act rfl rfl ?_
        have hA542 := Step.r0 (KU (KN s17.n) (KU (KC k0 5) (KU (KC k0 6) (KC k0 0)))) s540
        refine k_append (es := ([x2] : List (List DiskFile)).map (dL 2 dDiskFile)) elem59 rfl rfl hwo0_0 (h540.sl) (by have := (app_out hx4).1; simp only [List.length_map] at *; omega) (by have := (app_out hx4).1; simp only [List.length_map] at *; omega) rfl ?_
        intro s543 v543 st543 h543
        rw [← List.map_append, ← (app_out hx4).2] at h543
        have szs543 := st543.size
        have hS := hS.c0 st543
        have hA542 := hA542.c0 st543
        replace hwo0_1 := hwo0_1.up2 st543
        replace hb_o0 := hb_o0.up2 st543
        replace h449 := h449.up2 st543
        refine rt_cont hA542 ?_
        refine rt_act rfl rfl ?_
        have hA544 := Step.r0 (KU (KN s17.n) (KU (KC k0 5) (KU (KC k0 6) (KC k0 0)))) s543
        refine k_append (es := ([a1] : List DiskCall).map dDiskCall) elem60 rfl rfl hwo0_1 (h449.sl) (by have := (app_out hx5).1; simp only [List.length_map] at *; omega) (by have := (app_out hx5).1; simp only [List.length_map] at *; omega) rfl ?_
        intro s545 v545 st545 h545
        rw [← List.map_append, ← (app_out hx5).2] at h545
        have szs545 := st545.size
        have hS := hS.c0 st545
        have hA544 := hA544.c0 st545
        replace hb_o0 := hb_o0.up2 st545
        replace h543 := h543.up2 st545
        refine rt_cont hA544 ?_
        refine rt_read (.pointer (some ⟨bo0, 0, none⟩)) rfl rfl (fun s546 st546 => ?_) ?_
        ·refine k_nilCheck rfl rfl ?_
         exact fq_end
        refine rt_read (.pointer (some ⟨bo0, 3, none⟩)) rfl rfl (fun s547 st547 => ?_) ?_
        ·refine k_field_addr fld64_3 rfl rfl ?_
         exact fq_end
        refine rt_act0 rfl rfl ?_
        have hA548 := Step.r0 (KU (KN s17.n) (KU (KC k0 5) (KU (KC k0 6) (KC k0 0)))) s545
        refine k_store_c (cs' := [.int .i64 a0.capacity, .bool a0.made, .bool a0.down, v543, wo0_1, .int .i64 a0.fuse.n, .int .i64 a0.fuse.keep, .int .i64 a0.fuse.torn]) size59 rfl rfl hb_o0 (by first | (simp; done) | omega | (dsimp only; omega)) (CellsOf.sl (h543.sl)) rfl (by first | rfl | (simp; done) | (simp; omega)) rfl ?_
        intro s549 st549 hb_o0
        have szs549 := st549.size
        have hS := hS.c0 st549
        have hA548 := hA548.c0 st549
        replace h543 := h543.up2 st549
        replace h545 := h545.up2 st549
        refine rt_cont0 hA548 ?_
        refine rt_fin ?_
        refine k_nilCheck rfl rfl ?_
        refine k_field_addr fld64_4 rfl rfl ?_
        refine k_store_c (cs' := [.int .i64 a0.capacity, .bool a0.made, .bool a0.down, v543, v545, .int .i64 a0.fuse.n, .int .i64 a0.fuse.keep, .int .i64 a0.fuse.torn]) size60 rfl rfl hb_o0 (by first | (simp; done) | omega | (dsimp only; omega)) (CellsOf.sl (h545.sl)) rfl (by first | rfl | (simp; done) | (simp; omega)) rfl ?_
        intro s550 st550 hb_o0
        have szs550 := st550.size
        have hS := hS.c0 st550
        replace h543 := h543.up2 st550
        replace h545 := h545.up2 st550
        refine k_nil ?_
        refine k_keep [(0, _), (4, _)] ⟨rfl, rfl, trivial⟩ ?_
        refine k_seq ?_
        refine k_region ?_
        refine k_move rfl rfl ?_
        obtain ⟨x45, hx45, h⟩ := ob h
        refine k_call cal50 rfl (disk_Disk_burn_w  (ODiskDisk.mk_ (⟨a0.capacity, a0.made, a0.down, x4, x5, a0.fuse⟩ : DiskDisk) (by omega) h543 h545 hb_o0) hx45) rfl ?_
        rintro s551 vr551 st551 ⟨rfl, hm551_0⟩
        obtain ⟨w551_0_0, w551_0_1, hb_551_0, hw551_0_0, hw551_0_1⟩ := hm551_0.at_
        have szs551 := st551.size
        have hS := hS.c0 st551
        refine k_assign rfl rfl ?_
        refine k_nil ?_
        refine k_keep [(4, _)] ⟨rfl, trivial⟩ ?_
        refine k_ret ?_
        obtain rfl := Option.some.inj h
        refine ⟨_, rfl, Ret.mk hS ?_⟩
        exact ⟨rfl, (ODiskDisk.mk_ x45.2 (by omega) hw551_0_0 hw551_0_1 hb_551_0)⟩

set_option maxHeartbeats 1000000 in
set_option maxRecDepth 100000 in
theorem disk_Disk_Put_w {s : St} {k0 : Nat} {p0 : Value} {a0 : DiskDisk} {a1 : (List UInt8)} {l2 : Lab} {v2 : Value} {a2 : (List UInt8)} {r : (Int × DiskDisk)} (ho0 : ODiskDisk s k0 p0 a0) (hp2 : SL s l2 v2 1 (a2.map bD)) (hl2_k0 : l2.o ≠ k0) (h : disk_Disk_Put a0 a1 a2 = some r) : Calls Tryd.prog 29 #[p0, S a1, v2] s.w (Ret s (KO k0) (fun s1 v => v = .int .i64 r.1 ∧ ODiskDisk s1 k0 p0 r.2)) := by
 unfold disk_Disk_Put at h
 have le0 := ho0.le
 have ne0 := ho0.ne
 obtain ⟨lf2, lf2le, lf2ne, hp2⟩ := hp2.fix
 have lfn2_k0 := lf2ne k0 hl2_k0 (by omega)
 have hS := Step.r0 (KO k0) s
 refine k_fn (rs := [6]) (args := [p0, S a1, v2]) Tryd.func29 rfl rfl rfl rfl ?_
 refine k_seq ?_
 refine k_region ?_
 refine k_assign rfl rfl ?_
 refine k_nil ?_
 refine k_seq ?_
 refine k_seq ?_
 refine k_region ?_
 refine k_move rfl rfl ?_
 refine k_move rfl rfl ?_
 refine k_bslice2 (ds := ([a1] : List (List UInt8)).map dS) slc99 rfl (RVs.cons (R.val rfl) RVs.nil) (by rfl) (by rfl) rfl rfl ?_
 intro s1 v1 b1 st1 ge1 bl1 h1
 have szs1 := st1.size
 have hS := hS.trans0 st1
 replace hp2 := hp2.up2 st1
 replace ho0 := ho0.up2 st1
 have lt1 := Own.le1 h1
 obtain ⟨pb2, rfl⟩ := ho0.ptr
 obtain ⟨x1, hx1, h⟩ := ob h
 refine k_call cal44 rfl (disk_Disk_first_w  ho0 (h1.sl) hx1) rfl ?_
 rintro s3 vr3 st3 rfl
 have szs3 := st3.size
 have hS := hS.trans0 st3
 replace hp2 := hp2.up2 st3
 replace ho0 := ho0.up2 st3
 refine k_assign rfl rfl ?_
 refine k_nil ?_
 refine k_keep [(0, _), (1, _), (2, _), (6, _), (7, _)] ⟨rfl, rfl, rfl, rfl, rfl, trivial⟩ ?_
 refine k_seq ?_
 refine k_region ?_
 refine k_move rfl rfl ?_
 refine k_neq rfl rfl rfl ?_
 refine k_nil ?_
 refine k_keep [(0, _), (1, _), (2, _), (6, _), (7, _), (13, _)] ⟨rfl, rfl, rfl, rfl, rfl, rfl, trivial⟩ ?_
 refine k_cond_dec rfl (fun c4 => ?_) (fun c4 => ?_)
 ·
  have h := itT h c4
  refine k_seq ?_
  refine k_region ?_
  refine k_move rfl rfl ?_
  refine k_assign rfl rfl ?_
  refine k_nil ?_
  refine k_keep [(0, _), (1, _), (2, _), (6, _)] ⟨rfl, rfl, rfl, rfl, trivial⟩ ?_
  refine k_ret ?_
  obtain rfl := Option.some.inj h
  refine ⟨_, rfl, Ret.mk hS ?_⟩
  exact ⟨rfl, ho0⟩
 ·
  have h := itF h c4
  refine k_skip ?_
  refine k_seq ?_
  refine k_region ?_
  refine k_move rfl rfl ?_
  refine k_move rfl rfl ?_
  refine k_move rfl rfl ?_
  obtain ⟨x2, hx2, h⟩ := ob h
  refine k_call cal34 rfl (slices_Clone_byte_byte_w  hp2 hx2) rfl ?_
  rintro s5 v5_0 st5 ⟨_, rfl, h5_0⟩
  have szs5 := st5.size
  have hS := hS.trans0 st5
  replace ho0 := ho0.up2 st5
  refine k_build plc80 zero80 rfl (Parts.cons (CellsOf.lit rfl rfl).1 (Parts.cons (CellsOf.sl (SL.of_R h5_0)).1 Parts.nil)) (by rfl) rfl ?_
  refine k_as (v := .agg #[S a1, v5_0]) rfl ?_
  refine k_build plc94 zero94 rfl (Parts.cons (CellsOf.lit (vs := [S a1, v5_0]) rfl (ones.cons rfl (ones.cons ((SL.of_R h5_0)).one1 ones.nil))).1 Parts.nil) (by rfl) rfl ?_
  refine k_as (v := .agg #[S a1, v5_0]) rfl ?_
  refine k_makeIface conc94 rfl rfl ?_
  have h6 : R s5 (.iface 94 (.agg #[S a1, v5_0])) (dDiskCall (DiskCall.putting (⟨(⟨a1, x2⟩ : DiskFile)⟩ : DiskPutting))) := R.ifc_mk (show R _ (.agg #[S a1, v5_0]) (dDiskPutting (⟨(⟨a1, x2⟩ : DiskFile)⟩ : DiskPutting)) from ⟨_, rfl, (clsDiskPutting (⟨(⟨a1, x2⟩ : DiskFile)⟩ : DiskPutting) h5_0)⟩)
  obtain ⟨x3, hx3, h⟩ := ob h
  refine k_call cal45 rfl (disk_Disk_does_w  ho0 (show R s5 (.iface 94 (.agg #[S a1, v5_0])) (dDiskCall (DiskCall.putting (⟨(⟨a1, x2⟩ : DiskFile)⟩ : DiskPutting))) from h6) hx3) rfl ?_
  rintro s7 vr7 st7 ⟨rfl, ho0⟩
  have szs7 := st7.size
  have hS := hS.c0 st7
  refine k_assign rfl rfl ?_
  refine k_nil ?_
  refine k_keep [(6, _)] ⟨rfl, trivial⟩ ?_
  refine k_ret ?_
  obtain rfl := Option.some.inj h
  refine ⟨_, rfl, Ret.mk hS ?_⟩
  exact ⟨rfl, ho0⟩

set_option maxHeartbeats 1000000 in
set_option maxRecDepth 100000 in
theorem logfile_Open_w {s : St} {k0 : Nat} {p0 : Value} {a0 : DiskDisk} {a1 : (List UInt8)} {r : ((Option LogfileLog) × Int × DiskDisk)} (ho0 : ODiskDisk s k0 p0 a0) (h : logfile_Open a0 a1 = some r) : Calls Tryd.prog 9 #[p0, S a1] s.w (Ret s (KO k0) (fun s1 v => ∃ (ku0 : Nat), ∃ (u0 : Value), v = .tuple #[u0, .int .i64 r.2.1] ∧ s.n < ku0 ∧ OptOLogfileLog p0 s1 ku0 u0 r.1 ∧ ODiskDisk s1 k0 p0 r.2.2)) := by
 unfold logfile_Open at h
 have le0 := ho0.le
 have ne0 := ho0.ne
 have hS := Step.r0 (KO k0) s
 refine k_fn (rs := [4, 5]) (args := [p0, S a1]) Tryd.func9 rfl rfl rfl rfl ?_
 refine k_seq ?_
 refine k_region ?_
 obtain ⟨pb1, rfl⟩ := ho0.ptr
 refine k_box rfl rfl ?_
 intro s2 b2 st2 h2 ge2
 have szs2 := st2.size
 have hS := hS.trans0 st2
 replace ho0 := ho0.up2 st2
 have lt2 := h2.lt
 refine k_box rfl rfl ?_
 intro s3 b3 st3 h3 ge3
 have szs3 := st3.size
 have hS := hS.trans0 st3
 replace ho0 := ho0.up2 st3
 replace h2 := h2.up2 st3
 have lt3 := h3.lt
 refine k_assign rfl rfl ?_
 refine k_assign rfl rfl ?_
 refine k_nil ?_
 refine k_keep [(2, _), (3, _), (4, _), (5, _)] ⟨rfl, rfl, rfl, rfl, trivial⟩ ?_
 refine k_seq ?_
 refine k_seq ?_
 refine k_region ?_
 refine k_load_blk one23 rfl h2 rfl rfl ?_
 obtain ⟨x1, hx1, h⟩ := ob h
 refine k_call cal10 rfl (disk_Disk_Down_w  ho0 hx1) rfl ?_
 rintro s4 vr4 st4 rfl
 have szs4 := st4.size
 have hS := hS.trans0 st4
 replace ho0 := ho0.up2 st4
 replace h2 := h2.up2 st4
 replace h3 := h3.up2 st4
 refine k_nil ?_
 refine k_keep [(2, _), (3, _), (4, _), (5, _), (12, _)] ⟨rfl, rfl, rfl, rfl, rfl, trivial⟩ ?_
 refine k_cond rfl (fun c5 => ?_) (fun c5 => ?_)
 ·
  have h := ibT h c5
  refine k_seq ?_
  refine k_region ?_
  refine k_assign rfl rfl ?_
  refine k_assign rfl rfl ?_
  refine k_nil ?_
  refine k_keep [(2, _), (3, _), (4, _), (5, _)] ⟨rfl, rfl, rfl, rfl, trivial⟩ ?_
  refine k_ret ?_
  obtain rfl := Option.some.inj h
  refine ⟨_, rfl, Ret.mk hS ?_⟩
  exact ⟨s4.n + 1, _, rfl, by omega, rfl, ho0⟩
 ·
  have h := ibF h c5
  refine k_skip ?_
  refine k_seq ?_
  refine k_region ?_
  refine k_load_blk one23 rfl h2 rfl rfl ?_
  refine k_load_blk one9 rfl h3 rfl rfl ?_
  obtain ⟨x2, hx2, h⟩ := ob h
  refine k_call cal17 rfl (disk_Disk_Read_w  ho0 hx2) rfl ?_
  rintro s6 vr6 st6 ⟨v6_0, rfl, h6_0⟩
  have szs6 := st6.size
  have hS := hS.trans0 st6
  replace ho0 := ho0.up2 st6
  replace h2 := h2.up2 st6
  replace h3 := h3.up2 st6
  refine k_move rfl rfl ?_
  refine k_extract rfl rfl rfl ?_
  refine k_extract rfl rfl rfl ?_
  refine k_assign rfl rfl ?_
  refine k_assign rfl rfl ?_
  refine k_nil ?_
  refine k_keep [(2, _), (3, _), (4, _), (5, _), (6, _), (7, _)] ⟨rfl, rfl, rfl, rfl, rfl, rfl, trivial⟩ ?_
  refine k_seq ?_
  refine k_seq ?_
  refine k_region ?_
  refine k_move rfl rfl ?_
  refine k_eql rfl rfl rfl ?_
  refine k_nil ?_
  refine k_keep [(2, _), (3, _), (4, _), (5, _), (6, _), (7, _), (20, _)] ⟨rfl, rfl, rfl, rfl, rfl, rfl, rfl, trivial⟩ ?_
  refine k_cond_dec rfl (fun c7 => ?_) (fun c7 => ?_)
  ·
   have h := itT h c7
   refine k_seq ?_
   refine k_region ?_
   refine k_move rfl rfl ?_
   refine k_assign rfl rfl ?_
   refine k_assign rfl rfl ?_
   refine k_nil ?_
   refine k_keep [(2, _), (3, _), (4, _), (5, _), (6, _)] ⟨rfl, rfl, rfl, rfl, rfl, trivial⟩ ?_
   refine k_ret ?_
   obtain rfl := Option.some.inj h
   refine ⟨_, rfl, Ret.mk hS ?_⟩
   exact ⟨s6.n + 1, _, rfl, by omega, rfl, ho0⟩
  ·
   have h := itF h c7
   refine k_skip ?_
   refine k_seq ?_
   refine k_region ?_
   refine k_load_blk one23 rfl h2 rfl rfl ?_
   refine k_build plc48 zero48 rfl (Parts.cons (CellsOf.lit rfl rfl).1 Parts.nil) (by rfl) rfl ?_
   refine k_as (v := .agg #[(.pointer (some ⟨pb1, 0, none⟩))]) rfl ?_
   refine k_load_blk one9 rfl h3 rfl rfl ?_
   refine k_build plc53 zero53 rfl (Parts.cons (CellsOf.lit rfl rfl).1 (Parts.cons (CellsOf.lit rfl rfl).1 Parts.nil)) (by rfl) rfl ?_
   refine k_as (v := .agg #[(.pointer (some ⟨pb1, 0, none⟩)), S a1, .slice none 0 0, .int .i64 0, .int .i64 0, .int .u32 0]) rfl ?_
   refine k_box rfl rfl ?_
   intro s8 b8 st8 h8 ge8
   have szs8 := st8.size
   have hS := hS.trans0 st8
   replace h6_0 := h6_0.up2 st8
   replace ho0 := ho0.up2 st8
   replace h2 := h2.up2 st8
   replace h3 := h3.up2 st8
   have lt8 := h8.lt
   refine k_alloc zero29 rfl ?_
   intro s9 b9 st9 h9 ge9
   have szs9 := st9.size
   have hS := hS.trans0 st9
   replace h6_0 := h6_0.up2 st9
   replace ho0 := ho0.up2 st9
   replace h2 := h2.up2 st9
   replace h3 := h3.up2 st9
   replace h8 := h8.up2 st9
   have lt9 := h9.lt
   refine k_store_c (cs' := [.pointer (some ⟨b8, 0, none⟩)]) size29 rfl rfl h9 (by first | (simp; done) | omega | (dsimp only; omega)) (CellsOf.lit rfl rfl) rfl (by first | rfl | (simp; done) | (simp; omega)) rfl ?_
   intro s10 st10 h9
   have szs10 := st10.size
   have hS := hS.c0 st10
   replace h6_0 := h6_0.up2 st10
   replace ho0 := ho0.up2 st10
   replace h2 := h2.up2 st10
   replace h3 := h3.up2 st10
   replace h8 := h8.up2 st10
   refine k_nil ?_
   refine k_keep [(2, _), (3, _), (4, _), (5, _), (6, _), (8, _)] ⟨rfl, rfl, rfl, rfl, rfl, rfl, trivial⟩ ?_
   refine k_seq ?_
   refine k_region ?_
   refine k_makeFunc rfl rfl rfl ?_
   refine k_assign rfl rfl ?_
   refine k_nil ?_
   refine k_keep [(4, _), (5, _), (6, _), (8, _), (9, _)] ⟨rfl, rfl, rfl, rfl, rfl, trivial⟩ ?_
   refine k_seq ?_
   refine k_seq ?_
   refine k_region ?_
   refine k_move rfl rfl ?_
   refine k_move rfl rfl ?_
   refine k_callv_in cal27 rfl rfl rfl ?_
   refine k_fn (rs := [5]) (args := [v6_0, .pointer (some ⟨b9, 0, none⟩), .pointer (some ⟨b2, 0, none⟩), .pointer (some ⟨b3, 0, none⟩)]) Tryd.func27 rfl rfl rfl rfl ?_
   refine k_seq ?_
   refine k_region ?_
   refine k_assign rfl rfl ?_
   refine k_nil ?_
   refine k_seq ?_
   refine k_drawT (KU (KN s10.n) (KC (b8 + 1) 0)) 10 (.read 0 (.read 1 (.read 2 (.alt 3 (.read 4 (.read 5 (.read 6 (.read 7 (.read 8 (.alt 9 .fin .no)))))) .no)))) mixed (by intro c h; (try simp only [KC, KO, KU, KN, KB] at h) <;> omega) rfl rfl rfl ?_
   intro s11 st11
   have szs11 := st11.size
   have hS := hS.trans0 st11
   replace h6_0 := h6_0.up2 st11
   replace ho0 := ho0.up2 st11
   replace h2 := h2.up2 st11
   replace h3 := h3.up2 st11
   replace h8 := h8.up2 st11
   replace h9 := h9.up2 st11
   refine rt_read (.pointer (some ⟨b8, 0, none⟩)) rfl rfl (fun s12 st12 => ?_) ?_
   ·try replace h9 := h9.up2 st12
    refine k_load_blk one29 rfl h9 rfl rfl ?_
    exact fq_end
   refine rt_read (.pointer (some ⟨b8, 0, none⟩)) rfl rfl (fun s13 st13 => ?_) ?_
   ·try replace h9 := h9.up2 st13
    refine k_load_blk one29 rfl h9 rfl rfl ?_
    exact fq_end
   refine rt_read (v6_0) rfl rfl (fun s14 st14 => ?_) ?_
   ·refine k_move rfl rfl ?_
    exact fq_end
   refine rt_act rfl rfl ?_
   have hA15 := Step.r0 (KU (KN s10.n) (KC (b8 + 1) 0)) s11
   obtain ⟨x3, hx3, h⟩ := ob h
   refine k_call cal28 rfl (frame_All_own_w  (show R s11 v6_0 (.sl 1 (x2.1.map bD)) from h6_0) hx3) rfl ?_
   rintro s16 vr16 st16 ⟨v16_0, l16_0, cs16_1, rfl, hl16_0, h16_0, h16_1⟩
   have szs16 := st16.size
   have hS := hS.trans0 st16
   have hA15 := hA15.trans0 st16
   replace h6_0 := h6_0.up2 st16
   replace ho0 := ho0.up2 st16
   replace h2 := h2.up2 st16
   replace h3 := h3.up2 st16
   replace h8 := h8.up2 st16
   replace h9 := h9.up2 st16
   obtain ⟨l16_0, hl16_0, h16_0⟩ := Own.anew 2160 h16_0 hl16_0 szs16
   have lt16_0 := Own.le1 h16_0
   obtain rfl := opnApiTail h16_1
   refine rt_cont hA15 ?_
   refine rt_read (.tuple #[v16_0, .agg #[.int .i64 x3.2.Count, .int .i64 x3.2.Size, .int .u32 (x3.2.Sum.toNat : Int)]]) rfl rfl (fun s17 st17 => ?_) ?_
   ·refine k_move rfl rfl ?_
    exact fq_end
   refine rt_read (v16_0) rfl rfl (fun s18 st18 => ?_) ?_
   ·refine k_extract rfl rfl rfl ?_
    exact fq_end
   refine rt_read (.agg #[.int .i64 x3.2.Count, .int .i64 x3.2.Size, .int .u32 (x3.2.Sum.toNat : Int)]) rfl rfl (fun s19 st19 => ?_) ?_
   ·refine k_extract rfl rfl rfl ?_
    exact fq_end
   refine rt_read (.pointer (some ⟨b8, 0, none⟩)) rfl rfl (fun s20 st20 => ?_) ?_
   ·refine k_nilCheck rfl rfl ?_
    exact fq_end
   refine rt_read (.pointer (some ⟨b8, 2, none⟩)) rfl rfl (fun s21 st21 => ?_) ?_
   ·refine k_field_addr fld53_2 rfl rfl ?_
    exact fq_end
   refine rt_act0 rfl rfl ?_
   have hA22 := Step.r0 (KU (KN s10.n) (KC (b8 + 1) 0)) s16
   refine k_store_c (cs' := [(.pointer (some ⟨pb1, 0, none⟩)), S a1, v16_0, .int .i64 0, .int .i64 0, .int .u32 0]) size32 rfl rfl h8 (by first | (simp; done) | omega | (dsimp only; omega)) (CellsOf.sl (h16_0.sl)) rfl (by first | rfl | (simp; done) | (simp; omega)) rfl ?_
   intro s23 st23 h8
   have szs23 := st23.size
   have hS := hS.c0 st23
   have hA22 := hA22.c0 st23
   replace h6_0 := h6_0.up2 st23
   replace ho0 := ho0.up2 st23
   replace h2 := h2.up2 st23
   replace h3 := h3.up2 st23
   replace h9 := h9.up2 st23
   replace h16_0 := h16_0.up2 st23
   refine rt_cont0 hA22 ?_
   refine rt_fin ?_
   refine k_nilCheck rfl rfl ?_
   refine k_field_addr fld53_3 rfl rfl ?_
   refine k_store_c (cs' := [(.pointer (some ⟨pb1, 0, none⟩)), S a1, v16_0, .int .i64 x3.2.Count, .int .i64 x3.2.Size, .int .u32 (x3.2.Sum.toNat : Int)]) size51 rfl rfl h8 (by first | (simp; done) | omega | (dsimp only; omega)) (CellsOf.lit rfl rfl) rfl (by first | rfl | (simp; done) | (simp; omega)) rfl ?_
   intro s24 st24 h8
   have szs24 := st24.size
   have hS := hS.c0 st24
   replace h6_0 := h6_0.up2 st24
   replace ho0 := ho0.up2 st24
   replace h2 := h2.up2 st24
   replace h3 := h3.up2 st24
   replace h9 := h9.up2 st24
   replace h16_0 := h16_0.up2 st24
   refine k_nil ?_
   refine k_keep [(0, _), (1, _), (2, _), (3, _), (5, _)] ⟨rfl, rfl, rfl, rfl, rfl, trivial⟩ ?_
   refine k_seq ?_
   refine k_seq ?_
   refine k_region ?_
   refine k_load_blk one29 rfl h9 rfl rfl ?_
   refine k_nilCheck rfl rfl ?_
   refine k_field_addr fld53_3 rfl rfl ?_
   refine k_field_addr fld51_1 rfl rfl ?_
   refine k_load_blk one3 rfl h8 rfl rfl ?_
   refine k_move rfl rfl ?_
   refine k_len Tryd.underlying33 rfl (SL.of_R h6_0).hasLen rfl ?_
   refine k_as (v := .int .i64 (x2.1.length : Int)) (by simp only [List.length_map]) ?_
   refine k_eql rfl rfl rfl ?_
   refine k_nil ?_
   refine k_keep [(0, _), (1, _), (2, _), (3, _), (5, _), (24, _)] ⟨rfl, rfl, rfl, rfl, rfl, rfl, trivial⟩ ?_
   refine k_cond_dec rfl (fun c25 => ?_) (fun c25 => ?_)
   ·
    have h := itT h c25
    refine k_seq ?_
    refine k_region ?_
    refine k_assign rfl rfl ?_
    refine k_nil ?_
    refine k_keep [(0, _), (1, _), (2, _), (3, _), (5, _)] ⟨rfl, rfl, rfl, rfl, rfl, trivial⟩ ?_
    refine k_ret ?_
    refine ⟨_, rfl, _, rfl, ?_⟩
    refine k_assign rfl rfl ?_
    refine k_nil ?_
    refine k_keep [(4, _), (5, _), (8, _), (10, _)] ⟨rfl, rfl, rfl, rfl, trivial⟩ ?_
    refine k_seq ?_
    refine k_region ?_
    refine k_move rfl rfl ?_
    refine k_neq rfl rfl rfl ?_
    refine k_as (v := .bool false) rfl ?_
    refine k_nil ?_
    refine k_keep [(4, _), (5, _), (8, _), (10, _), (32, _)] ⟨rfl, rfl, rfl, rfl, rfl, trivial⟩ ?_
    refine k_cond_false rfl ?_
    refine k_skip ?_
    refine k_seq ?_
    refine k_region ?_
    refine k_load_blk one29 rfl h9 rfl rfl ?_
    refine k_assign rfl rfl ?_
    refine k_assign rfl rfl ?_
    refine k_nil ?_
    refine k_keep [(4, _), (5, _)] ⟨rfl, rfl, trivial⟩ ?_
    refine k_ret ?_
    obtain ⟨s26, e26, st26, h26⟩ := Own.relabelK (b8 + 1) 4 h16_0 (by first | omega | (dsimp only; omega)) (by first | omega | (dsimp only; omega)) (by first | omega | (dsimp only; omega))
    rw [← e26]
    have szs26 := st26.size
    have hS := hS.c0 st26
    replace ho0 := ho0.up2 st26
    replace h8 := h8.up2 st26
    obtain rfl := Option.some.inj h
    refine ⟨_, rfl, Ret.mk hS ?_⟩
    exact ⟨b8 + 1, _, rfl, by omega, (OLogfileLog.mk_ (⟨(⟨()⟩ : LogfileHeld), a1, x3.1, x3.2⟩ : LogfileLog) (by omega) h26 h8), ho0⟩
   ·
    have h := itF h c25
    refine k_skip ?_
    refine k_seq ?_
    refine k_keep [(0, _), (1, _), (2, _), (3, _), (5, _)] ⟨rfl, rfl, rfl, rfl, rfl, trivial⟩ ?_
    have h16_0_d := h16_0
    refine k_drawT (KU (KN s24.n) (KO k0)) 10 (.read 0 (.read 1 (.read 2 (.read 3 (.read 4 (.read 5 (.read 6 (.read 7 (.alt 8 (.alt 9 .fin .no) .no))))))))) mixed (by intro c h; (try simp only [KC, KO, KU, KN, KB] at h) <;> omega) rfl rfl rfl ?_
    intro s27 st27
    have szs27 := st27.size
    have hS := hS.trans0 st27
    replace h6_0 := h6_0.up2 st27
    replace ho0 := ho0.up2 st27
    replace h2 := h2.up2 st27
    replace h3 := h3.up2 st27
    replace h8 := h8.up2 st27
    replace h9 := h9.up2 st27
    replace h16_0 := h16_0.up2 st27
    refine rt_read ((.pointer (some ⟨pb1, 0, none⟩))) rfl rfl (fun s28 st28 => ?_) ?_
    ·try replace h2 := h2.up2 st28
     refine k_load_blk one23 rfl h2 rfl rfl ?_
     exact fq_end
    refine rt_read (S a1) rfl rfl (fun s29 st29 => ?_) ?_
    ·try replace h3 := h3.up2 st29
     refine k_load_blk one9 rfl h3 rfl rfl ?_
     exact fq_end
    refine rt_read (v6_0) rfl rfl (fun s30 st30 => ?_) ?_
    ·refine k_move rfl rfl ?_
     exact fq_end
    refine rt_read (.pointer (some ⟨b8, 0, none⟩)) rfl rfl (fun s31 st31 => ?_) ?_
    ·try replace h9 := h9.up2 st31
     refine k_load_blk one29 rfl h9 rfl rfl ?_
     exact fq_end
    refine rt_read (.pointer (some ⟨b8, 0, none⟩)) rfl rfl (fun s32 st32 => ?_) ?_
    ·refine k_nilCheck rfl rfl ?_
     exact fq_end
    refine rt_read (.pointer (some ⟨b8, 3, none⟩)) rfl rfl (fun s33 st33 => ?_) ?_
    ·refine k_field_addr fld53_3 rfl rfl ?_
     exact fq_end
    refine rt_read (.pointer (some ⟨b8, 4, none⟩)) rfl rfl (fun s34 st34 => ?_) ?_
    ·refine k_field_addr fld51_1 rfl rfl ?_
     exact fq_end
    refine rt_read (.int .i64 x3.2.Size) rfl rfl (fun s35 st35 => ?_) ?_
    ·try replace h8 := h8.up2 st35
     refine k_load_blk one3 rfl h8 rfl rfl ?_
     exact fq_end
    refine rt_act rfl rfl ?_
    have hA36 := Step.r0 (KU (KN s24.n) (KO k0)) s27
    obtain ⟨x4, hx4, h⟩ := ob h
    refine k_cut_sl (i := (0 : Int).toNat) (j := (x3.2.Size : Int).toNat) Tryd.underlying33 size5 rfl (SL.of_R h6_0) CutAt.none (CutAt.int rfl (Int.le_trans (subl_out hx4).1 (subl_out hx4).2.1)) (subl_ij hx4) (by rw [List.length_map]; exact subl_j hx4) rfl ?_
    intro vx4 hcx4
    rw [← List.map_drop, ← List.map_take, ← (subl_out hx4).2.2.2] at hcx4
    have hcx4 := R.of_SL hcx4
    refine rt_cont hA36 ?_
    refine rt_act rfl rfl ?_
    have hA37 := Step.r0 (KU (KN s24.n) (KO k0)) s27
    obtain ⟨x5, hx5, h⟩ := ob h
    refine k_call cal29 rfl (disk_Disk_Put_w  ho0 (SL.of_R hcx4) (by first | assumption | omega | (dsimp only; omega) | (simp <;> omega)) hx5) rfl ?_
    rintro s38 vr38 st38 ⟨rfl, ho0⟩
    have szs38 := st38.size
    have hS := hS.c0 st38
    have hA37 := hA37.c0 st38
    replace h8 := h8.up2 st38
    replace h9 := h9.up2 st38
    replace h16_0 := h16_0.up2 st38
    refine rt_cont hA37 ?_
    refine rt_fin ?_
    refine k_assign rfl rfl ?_
    refine k_nil ?_
    refine k_keep [(5, _)] ⟨rfl, trivial⟩ ?_
    refine k_ret ?_
    refine ⟨_, rfl, _, rfl, ?_⟩
    refine k_assign rfl rfl ?_
    refine k_nil ?_
    refine k_keep [(4, _), (5, _), (8, _), (10, _)] ⟨rfl, rfl, rfl, rfl, trivial⟩ ?_
    refine k_seq ?_
    refine k_region ?_
    refine k_move rfl rfl ?_
    refine k_neq rfl rfl rfl ?_
    refine k_nil ?_
    refine k_keep [(4, _), (5, _), (8, _), (10, _), (32, _)] ⟨rfl, rfl, rfl, rfl, rfl, trivial⟩ ?_
    refine k_cond_dec rfl (fun c39 => ?_) (fun c39 => ?_)
    ·
     have h := itT h c39
     refine k_seq ?_
     refine k_region ?_
     refine k_move rfl rfl ?_
     refine k_assign rfl rfl ?_
     refine k_assign rfl rfl ?_
     refine k_nil ?_
     refine k_keep [(4, _), (5, _), (8, _)] ⟨rfl, rfl, rfl, trivial⟩ ?_
     refine k_ret ?_
     obtain rfl := Option.some.inj h
     refine ⟨_, rfl, Ret.mk hS ?_⟩
     exact ⟨s38.n + 1, _, rfl, by omega, rfl, ho0⟩
    ·
     have h := itF h c39
     refine k_skip ?_
     refine k_seq ?_
     refine k_region ?_
     refine k_load_blk one29 rfl h9 rfl rfl ?_
     refine k_assign rfl rfl ?_
     refine k_assign rfl rfl ?_
     refine k_nil ?_
     refine k_keep [(4, _), (5, _)] ⟨rfl, rfl, trivial⟩ ?_
     refine k_ret ?_
     obtain ⟨s40, e40, st40, h40⟩ := Own.relabelK (b8 + 1) 4 h16_0 (by first | omega | (dsimp only; omega)) (by first | omega | (dsimp only; omega)) (by first | omega | (dsimp only; omega))
     rw [← e40]
     have szs40 := st40.size
     have hS := hS.c0 st40
     replace ho0 := ho0.up2 st40
     replace h8 := h8.up2 st40
     obtain rfl := Option.some.inj h
     refine ⟨_, rfl, Ret.mk hS ?_⟩
     exact ⟨b8 + 1, _, rfl, by omega, (OLogfileLog.mk_ (⟨(⟨()⟩ : LogfileHeld), a1, x3.1, x3.2⟩ : LogfileLog) (by omega) h40 h8), ho0⟩

set_option maxHeartbeats 1000000 in
set_option maxRecDepth 100000 in
theorem logfile_Log_none_r1_w {s : St} {k0 : Nat} {p0 : Value} {a0 : LogfileLog} {k1 : Nat} {p1 : Value} {a1 : DiskDisk} {r : Bool} (ho0 : OLogfileLog p1 s k0 p0 a0) (ho1 : ODiskDisk s k1 p1 a1) (h : logfile_Log_none_r1 a0 a1 = some r) : Calls Tryd.prog 31 #[p0] s.w (Ret s K0 (fun s1 v => v = .bool r)) := by
 unfold logfile_Log_none_r1 at h
 have le0 := ho0.le
 have ne0 := ho0.ne
 have le1 := ho1.le
 have ne1 := ho1.ne
 obtain ⟨bo1, rfl⟩ := ho1.ptr
 obtain ⟨bo0, rfl⟩ := ho0.ptr
 obtain ⟨wo0_0, hb_o0, hwo0_0⟩ := ho0.at_
 have hS := Step.r0 K0 s
 refine k_fn (rs := [2]) (args := [.pointer (some ⟨bo0, 0, none⟩)]) Tryd.func31 rfl rfl rfl rfl ?_
 refine k_seq ?_
 refine k_region ?_
 refine k_assign rfl rfl ?_
 refine k_nil ?_
 refine k_seq ?_
 refine k_region ?_
 refine k_move rfl rfl ?_
 refine k_eql_pnil Tryd.underlying29 rfl rfl rfl ?_
 refine k_move rfl rfl ?_
 refine k_yes rfl rfl ?_
 refine k_move rfl rfl ?_
 refine k_yes rfl rfl ?_
 refine k_nilCheck rfl rfl ?_
 refine k_yes rfl rfl ?_
 refine k_field_addr fld53_0 rfl rfl ?_
 refine k_yes rfl rfl ?_
 refine k_field_addr fld48_0 rfl rfl ?_
 refine k_yes rfl rfl ?_
 refine k_load_blk one23 rfl hb_o0 rfl rfl ?_
 refine k_yes rfl rfl ?_
 refine k_eql_pnil Tryd.underlying23 rfl rfl rfl ?_
 refine k_pickF rfl rfl rfl rfl ?_
 refine k_assign rfl rfl ?_
 refine k_nil ?_
 refine k_keep [(2, _)] ⟨rfl, trivial⟩ ?_
 refine k_ret ?_
 obtain rfl := Option.some.inj h
 refine ⟨_, rfl, Ret.mk hS ?_⟩
 exact rfl

set_option maxHeartbeats 1000000 in
set_option maxRecDepth 100000 in
theorem frame_Put_w {s : St} {cs0 : List Value} {a0 : ApiTail} {v1 : Value} {a1 : (List UInt8)} {r : ((List UInt8) × ApiTail × Int)} (hp0 : RC s cs0 (dApiTail a0)) (hp1 : R s v1 (.sl 1 (a1.map bD))) (h : frame_Put a0 a1 = some r) : Calls Tryd.prog 32 #[.agg cs0.toArray, v1] s.w (Ret s K0 (fun s1 v => ∃ (u0 : Value), ∃ (u1 : List Value), v = .tuple #[u0, .agg u1.toArray, .int .i64 r.2.2] ∧ R s1 u0 (.sl 1 (r.1.map bD)) ∧ RC s1 u1 (dApiTail r.2.1))) := by
 unfold frame_Put at h
 obtain rfl := opnApiTail hp0
 have hS := Step.r0 K0 s
 refine k_fn_c (rs := [.tmp 4, .cell 5 51, .tmp 6]) (args := [.agg #[.int .i64 a0.Count, .int .i64 a0.Size, .int .u32 (a0.Sum.toNat : Int)], v1]) Tryd.func32 rfl rfl rfl rfl ?_
 refine k_seq ?_
 refine k_region ?_
 refine k_box rfl rfl ?_
 intro s1 b1 st1 h1 ge1
 have szs1 := st1.size
 have hS := hS.trans0 st1
 replace hp1 := hp1.up2 st1
 have lt1 := h1.lt
 refine k_assign rfl rfl ?_
 refine k_alloc zero51 rfl ?_
 intro s2 b2 st2 h2 ge2
 have szs2 := st2.size
 have hS := hS.trans0 st2
 replace hp1 := hp1.up2 st2
 replace h1 := h1.up2 st2
 have lt2 := h2.lt
 refine k_assign rfl rfl ?_
 refine k_nil ?_
 refine k_keep [(1, _), (2, _), (4, _), (5, _), (6, _)] ⟨rfl, rfl, rfl, rfl, rfl, trivial⟩ ?_
 refine k_seq ?_
 refine k_seq ?_
 refine k_region ?_
 refine k_move rfl rfl ?_
 refine k_len Tryd.underlying33 rfl (SL.of_R hp1).hasLen rfl ?_
 refine k_as (v := .int .i64 (a1.length : Int)) (by simp only [List.length_map]) ?_
 refine k_gtr rfl rfl rfl ?_
 refine k_nil ?_
 refine k_keep [(1, _), (2, _), (4, _), (5, _), (6, _), (11, _)] ⟨rfl, rfl, rfl, rfl, rfl, rfl, trivial⟩ ?_
 refine k_cond_dec rfl (fun c3 => ?_) (fun c3 => ?_)
 ·
  have h := itT h c3
  refine k_seq ?_
  refine k_region ?_
  refine k_build plc51 zero51 rfl Parts.nil (by rfl) rfl ?_
  refine k_as (v := .agg #[.int .i64 0, .int .i64 0, .int .u32 0]) rfl ?_
  refine k_assign rfl rfl ?_
  refine k_store_c (cs' := [.int .i64 0, .int .i64 0, .int .u32 0]) size51 rfl rfl h2 (by first | (simp; done) | omega | (dsimp only; omega)) (CellsOf.lit rfl rfl) rfl (by first | rfl | (simp; done) | (simp; omega)) rfl ?_
  intro s4 st4 h2
  have szs4 := st4.size
  have hS := hS.c0 st4
  refine k_assign rfl rfl ?_
  refine k_nil ?_
  refine k_keep [(1, _), (2, _), (4, _), (5, _), (6, _)] ⟨rfl, rfl, rfl, rfl, rfl, trivial⟩ ?_
  refine k_ret ?_
  obtain rfl := Option.some.inj h
  refine ⟨[.slice none 0 0, .agg [.int .i64 0, .int .i64 0, .int .u32 0].toArray, .int .i64 6], ⟨rfl, res_blk (cs := [.int .i64 0, .int .i64 0, .int .u32 0]) rfl agg51 h2, rfl, trivial⟩, Ret.mk hS ?_⟩
  exact ⟨_, _, rfl, (R.of_SL (.inl ⟨rfl, none, 0, rfl, fun _ => rfl⟩)), (clsApiTail (⟨0, 0, (0 : UInt32)⟩ : ApiTail))⟩
 ·
  have h := itF h c3
  refine k_skip ?_
  refine k_seq ?_
  refine k_region ?_
  refine k_move rfl rfl ?_
  refine k_len Tryd.underlying33 rfl (SL.of_R hp1).hasLen rfl ?_
  refine k_as (v := .int .i64 (a1.length : Int)) (by simp only [List.length_map]) ?_
  refine k_conv (p := (a1.length : Int)) Tryd.underlying3 Tryd.underlying49 rfl rfl ?_
  refine k_as (congrArg (Value.int .u32) (w32 _)) ?_
  obtain ⟨x1, hx1, h⟩ := ob h
  refine k_call cal46 rfl (frame_word_w   hx1) rfl ?_
  rintro s5 v5_0 st5 ⟨_, rfl, h5_0⟩
  have szs5 := st5.size
  have hS := hS.trans0 st5
  replace hp1 := hp1.up2 st5
  replace h1 := h1.up2 st5
  replace h2 := h2.up2 st5
  refine k_assign rfl rfl ?_
  refine k_nil ?_
  refine k_keep [(1, _), (2, _), (4, _), (5, _), (6, _), (7, _)] ⟨rfl, rfl, rfl, rfl, rfl, rfl, trivial⟩ ?_
  refine k_seq ?_
  refine k_region ?_
  refine k_load_blka (cs := [.int .i64 a0.Count, .int .i64 a0.Size, .int .u32 (a0.Sum.toNat : Int)]) agg51 rfl h1 rfl ?_
  refine k_move rfl rfl ?_
  refine k_move rfl rfl ?_
  obtain ⟨x2, hx2, h⟩ := ob h
  refine k_call cal47 rfl (frame_sum_w  (clsApiTail a0) (show R s5 v5_0 (.sl 1 (x1.map bD)) from h5_0) (show R s5 v1 (.sl 1 (a1.map bD)) from hp1) hx2) rfl ?_
  rintro s6 vr6 st6 rfl
  have szs6 := st6.size
  have hS := hS.trans0 st6
  replace hp1 := hp1.up2 st6
  replace h5_0 := h5_0.up2 st6
  replace h1 := h1.up2 st6
  replace h2 := h2.up2 st6
  refine k_assign rfl rfl ?_
  refine k_nil ?_
  refine k_keep [(1, _), (2, _), (4, _), (5, _), (6, _), (7, _), (8, _)] ⟨rfl, rfl, rfl, rfl, rfl, rfl, rfl, trivial⟩ ?_
  refine k_seq ?_
  refine k_drawT (KN s6.n) 9 (.read 0 (.read 1 (.read 3 (.read 6 (.read 7 (.read 8 (.alt 2 (.alt 4 (.alt 5 .fin .no) .no) .no))))))) mixed (by intro c h; (try simp only [KC, KO, KU, KN, KB] at h) <;> omega) rfl rfl rfl ?_
  intro s7 st7
  have szs7 := st7.size
  have hS := hS.trans0 st7
  replace hp1 := hp1.up2 st7
  replace h5_0 := h5_0.up2 st7
  replace h1 := h1.up2 st7
  replace h2 := h2.up2 st7
  refine rt_read (v5_0) rfl rfl (fun s8 st8 => ?_) ?_
  ·refine k_move rfl rfl ?_
   exact fq_end
  refine rt_read (.int .u32 (x2.toNat : Int)) rfl rfl (fun s9 st9 => ?_) ?_
  ·refine k_move rfl rfl ?_
   exact fq_end
  refine rt_read (v1) rfl rfl (fun s10 st10 => ?_) ?_
  ·refine k_move rfl rfl ?_
   exact fq_end
  refine rt_read (.agg #[.int .i64 a0.Count, .int .i64 a0.Size, .int .u32 (a0.Sum.toNat : Int)]) rfl rfl (fun s11 st11 => ?_) ?_
  ·try replace h1 := h1.up2 st11
   refine k_load_blka (cs := [.int .i64 a0.Count, .int .i64 a0.Size, .int .u32 (a0.Sum.toNat : Int)]) agg51 rfl h1 rfl ?_
   exact fq_end
  refine rt_read (v1) rfl rfl (fun s12 st12 => ?_) ?_
  ·refine k_move rfl rfl ?_
   exact fq_end
  refine rt_read (.int .u32 (x2.toNat : Int)) rfl rfl (fun s13 st13 => ?_) ?_
  ·refine k_move rfl rfl ?_
   exact fq_end
  refine rt_act rfl rfl ?_
  have hA14 := Step.r0 (KN s6.n) s7
  obtain ⟨x3, hx3, h⟩ := ob h
  refine k_call cal46 rfl (frame_word_w   hx3) rfl ?_
  rintro s15 v15_0 st15 ⟨_, rfl, h15_0⟩
  have szs15 := st15.size
  have hS := hS.trans0 st15
  have hA14 := hA14.trans0 st15
  replace hp1 := hp1.up2 st15
  replace h5_0 := h5_0.up2 st15
  replace h2 := h2.up2 st15
  refine rt_cont hA14 ?_
  refine rt_act rfl rfl ?_
  have hA16 := Step.r0 (KN s6.n) s15
  refine k_bslice2 (ds := ([x1, x3, a1] : List (List UInt8)).map (dL 1 bD)) slc32 rfl (RVs.cons h5_0 (RVs.cons h15_0 (RVs.cons hp1 RVs.nil))) (by rfl) (by rfl) rfl rfl ?_
  intro s17 v17 b17 st17 ge17 bl17 h17
  have szs17 := st17.size
  have hS := hS.trans0 st17
  have hA16 := hA16.trans0 st17
  replace hp1 := hp1.up2 st17
  replace h2 := h2.up2 st17
  have lt17 := Own.le1 h17
  refine rt_cont hA16 ?_
  refine rt_act rfl rfl ?_
  have hA18 := Step.r0 (KN s6.n) s17
  obtain ⟨x4, hx4, h⟩ := ob h
  refine k_call cal48 rfl (slices_Concat_byte_byte_w  (h17.sl) hx4) rfl ?_
  rintro s19 v19_0 st19 ⟨_, rfl, h19_0⟩
  have szs19 := st19.size
  have hS := hS.trans0 st19
  have hA18 := hA18.trans0 st19
  replace hp1 := hp1.up2 st19
  replace h2 := h2.up2 st19
  refine rt_cont hA18 ?_
  refine rt_fin ?_
  obtain ⟨x5, hx5, h⟩ := ob h
  refine k_call cal49 rfl (frame_behind_w  (clsApiTail a0) (SL.of_R hp1) hx5) rfl ?_
  rintro s20 vr20 st20 ⟨cs20_0, rfl, h20_0⟩
  have szs20 := st20.size
  have hS := hS.trans0 st20
  replace h19_0 := h19_0.up2 st20
  replace h2 := h2.up2 st20
  obtain rfl := opnApiTail h20_0
  refine k_assign rfl rfl ?_
  refine k_store_c (cs' := [.int .i64 x5.Count, .int .i64 x5.Size, .int .u32 (x5.Sum.toNat : Int)]) size51 rfl rfl h2 (by first | (simp; done) | omega | (dsimp only; omega)) (CellsOf.lit rfl rfl) rfl (by first | rfl | (simp; done) | (simp; omega)) rfl ?_
  intro s21 st21 h2
  have szs21 := st21.size
  have hS := hS.c0 st21
  replace h19_0 := h19_0.up2 st21
  refine k_assign rfl rfl ?_
  refine k_nil ?_
  refine k_keep [(4, _), (5, _), (6, _)] ⟨rfl, rfl, rfl, trivial⟩ ?_
  refine k_ret ?_
  obtain rfl := Option.some.inj h
  refine ⟨[v19_0, .agg [.int .i64 x5.Count, .int .i64 x5.Size, .int .u32 (x5.Sum.toNat : Int)].toArray, .int .i64 0], ⟨rfl, res_blk (cs := [.int .i64 x5.Count, .int .i64 x5.Size, .int .u32 (x5.Sum.toNat : Int)]) rfl agg51 h2, rfl, trivial⟩, Ret.mk hS ?_⟩
  exact ⟨_, _, rfl, h19_0, (clsApiTail x5)⟩

set_option maxHeartbeats 1000000 in
set_option maxRecDepth 100000 in
theorem disk_Disk_Append_w {s : St} {k0 : Nat} {p0 : Value} {a0 : DiskDisk} {a1 : (List UInt8)} {l2 : Lab} {v2 : Value} {a2 : (List UInt8)} {r : (Int × DiskDisk)} (ho0 : ODiskDisk s k0 p0 a0) (hp2 : SL s l2 v2 1 (a2.map bD)) (hl2_k0 : l2.o ≠ k0) (h : disk_Disk_Append a0 a1 a2 = some r) : Calls Tryd.prog 33 #[p0, S a1, v2] s.w (Ret s (KO k0) (fun s1 v => v = .int .i64 r.1 ∧ ODiskDisk s1 k0 p0 r.2)) := by
 unfold disk_Disk_Append at h
 have le0 := ho0.le
 have ne0 := ho0.ne
 obtain ⟨lf2, lf2le, lf2ne, hp2⟩ := hp2.fix
 have lfn2_k0 := lf2ne k0 hl2_k0 (by omega)
 have hS := Step.r0 (KO k0) s
 refine k_fn (rs := [6]) (args := [p0, S a1, v2]) Tryd.func33 rfl rfl rfl rfl ?_
 refine k_seq ?_
 refine k_region ?_
 refine k_assign rfl rfl ?_
 refine k_nil ?_
 refine k_seq ?_
 refine k_seq ?_
 refine k_region ?_
 refine k_move rfl rfl ?_
 refine k_move rfl rfl ?_
 refine k_bslice2 (ds := ([a1] : List (List UInt8)).map dS) slc99 rfl (RVs.cons (R.val rfl) RVs.nil) (by rfl) (by rfl) rfl rfl ?_
 intro s1 v1 b1 st1 ge1 bl1 h1
 have szs1 := st1.size
 have hS := hS.trans0 st1
 replace hp2 := hp2.up2 st1
 replace ho0 := ho0.up2 st1
 have lt1 := Own.le1 h1
 obtain ⟨pb2, rfl⟩ := ho0.ptr
 obtain ⟨x1, hx1, h⟩ := ob h
 refine k_call cal44 rfl (disk_Disk_first_w  ho0 (h1.sl) hx1) rfl ?_
 rintro s3 vr3 st3 rfl
 have szs3 := st3.size
 have hS := hS.trans0 st3
 replace hp2 := hp2.up2 st3
 replace ho0 := ho0.up2 st3
 refine k_assign rfl rfl ?_
 refine k_nil ?_
 refine k_keep [(0, _), (1, _), (2, _), (6, _), (7, _)] ⟨rfl, rfl, rfl, rfl, rfl, trivial⟩ ?_
 refine k_seq ?_
 refine k_region ?_
 refine k_move rfl rfl ?_
 refine k_neq rfl rfl rfl ?_
 refine k_nil ?_
 refine k_keep [(0, _), (1, _), (2, _), (6, _), (7, _), (13, _)] ⟨rfl, rfl, rfl, rfl, rfl, rfl, trivial⟩ ?_
 refine k_cond_dec rfl (fun c4 => ?_) (fun c4 => ?_)
 ·
  have h := itT h c4
  refine k_seq ?_
  refine k_region ?_
  refine k_move rfl rfl ?_
  refine k_assign rfl rfl ?_
  refine k_nil ?_
  refine k_keep [(0, _), (1, _), (2, _), (6, _)] ⟨rfl, rfl, rfl, rfl, trivial⟩ ?_
  refine k_ret ?_
  obtain rfl := Option.some.inj h
  refine ⟨_, rfl, Ret.mk hS ?_⟩
  exact ⟨rfl, ho0⟩
 ·
  have h := itF h c4
  refine k_skip ?_
  refine k_seq ?_
  refine k_region ?_
  refine k_move rfl rfl ?_
  refine k_move rfl rfl ?_
  refine k_move rfl rfl ?_
  obtain ⟨x2, hx2, h⟩ := ob h
  refine k_call cal34 rfl (slices_Clone_byte_byte_w  hp2 hx2) rfl ?_
  rintro s5 v5_0 st5 ⟨_, rfl, h5_0⟩
  have szs5 := st5.size
  have hS := hS.trans0 st5
  replace ho0 := ho0.up2 st5
  refine k_build plc80 zero80 rfl (Parts.cons (CellsOf.lit rfl rfl).1 (Parts.cons (CellsOf.sl (SL.of_R h5_0)).1 Parts.nil)) (by rfl) rfl ?_
  refine k_as (v := .agg #[S a1, v5_0]) rfl ?_
  refine k_build plc82 zero82 rfl (Parts.cons (CellsOf.lit (vs := [S a1, v5_0]) rfl (ones.cons rfl (ones.cons ((SL.of_R h5_0)).one1 ones.nil))).1 Parts.nil) (by rfl) rfl ?_
  refine k_as (v := .agg #[S a1, v5_0]) rfl ?_
  refine k_makeIface conc82 rfl rfl ?_
  have h6 : R s5 (.iface 82 (.agg #[S a1, v5_0])) (dDiskCall (DiskCall.adding (⟨(⟨a1, x2⟩ : DiskFile)⟩ : DiskAdding))) := R.ifc_mk (show R _ (.agg #[S a1, v5_0]) (dDiskAdding (⟨(⟨a1, x2⟩ : DiskFile)⟩ : DiskAdding)) from ⟨_, rfl, (clsDiskAdding (⟨(⟨a1, x2⟩ : DiskFile)⟩ : DiskAdding) h5_0)⟩)
  obtain ⟨x3, hx3, h⟩ := ob h
  refine k_call cal45 rfl (disk_Disk_does_w  ho0 (show R s5 (.iface 82 (.agg #[S a1, v5_0])) (dDiskCall (DiskCall.adding (⟨(⟨a1, x2⟩ : DiskFile)⟩ : DiskAdding))) from h6) hx3) rfl ?_
  rintro s7 vr7 st7 ⟨rfl, ho0⟩
  have szs7 := st7.size
  have hS := hS.c0 st7
  refine k_assign rfl rfl ?_
  refine k_nil ?_
  refine k_keep [(6, _)] ⟨rfl, trivial⟩ ?_
  refine k_ret ?_
  obtain rfl := Option.some.inj h
  refine ⟨_, rfl, Ret.mk hS ?_⟩
  exact ⟨rfl, ho0⟩
end Go.Proofs
