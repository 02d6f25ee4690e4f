import Derived.Test.YtoeanjoenlghlaaDoorW05DiskApart1
set_option linter.unusedSimpArgs false
set_option linter.unusedVariables false
namespace Go.Proofs
open Go.Fw
set_option maxHeartbeats 1000000 in
set_option maxRecDepth 100000 in
theorem disk_Disk_Start_w {s : St} {k0 : Nat} {p0 : Value} {a0 : DiskDisk} {r : (Int × DiskDisk)} (ho0 : ODiskDisk s k0 p0 a0) (h : disk_Disk_Start a0 = some r) : Calls Tryd.prog 19 #[p0] s.w (Ret s (KO k0) (fun s1 v => v = .int .i64 r.1 ∧ ODiskDisk s1 k0 p0 r.2)) := by
 unfold disk_Disk_Start at h
 have le0 := ho0.le
 have ne0 := ho0.ne
 obtain ⟨bo0, rfl⟩ := ho0.ptr
 obtain ⟨wo0_0, wo0_1, hb_o0, hwo0_0, hwo0_1⟩ := ho0.at_
 have hS := Step.r0 (KO k0) s
 refine k_fn (rs := [2]) (args := [.pointer (some ⟨bo0, 0, none⟩)]) Tryd.func19 rfl rfl rfl rfl ?_
 refine k_seq ?_
 refine k_region ?_
 refine k_assign rfl rfl ?_
 refine k_nil ?_
 refine k_seq ?_
 refine k_block ?_
 refine k_seq ?_
 refine k_region ?_
 refine k_move rfl rfl ?_
 obtain ⟨x1, hx1, h⟩ := ob h
 refine k_call cal39 rfl (disk_Disk_none_w  (ODiskDisk.mk_ a0 (by omega) hwo0_0 hwo0_1 hb_o0) hx1) rfl ?_
 rintro s1 vr1 st1 rfl
 have szs1 := st1.size
 have hS := hS.trans0 st1
 replace hwo0_0 := hwo0_0.up2 st1
 replace hwo0_1 := hwo0_1.up2 st1
 replace hb_o0 := hb_o0.up2 st1
 refine k_assign rfl rfl ?_
 refine k_nil ?_
 refine k_keep [(0, _), (2, _), (3, _)] ⟨rfl, rfl, rfl, trivial⟩ ?_
 refine k_cond rfl (fun c2 => ?_) (fun c2 => ?_)
 ·
  have h := ibT h c2
  refine k_seq ?_
  refine k_region ?_
  refine k_assign rfl rfl ?_
  refine k_nil ?_
  refine k_keep [(0, _), (2, _)] ⟨rfl, rfl, trivial⟩ ?_
  refine k_ret ?_
  obtain rfl := Option.some.inj h
  refine ⟨_, rfl, Ret.mk hS ?_⟩
  exact ⟨rfl, (ODiskDisk.mk_ a0 (by omega) hwo0_0 hwo0_1 hb_o0)⟩
 ·
  have h := ibF h c2
  refine k_seq ?_
  refine k_region ?_
  refine k_move rfl rfl ?_
  refine k_nilCheck rfl rfl ?_
  refine k_field_addr fld61_2 rfl rfl ?_
  refine k_load_blk one4 rfl hb_o0 rfl rfl ?_
  refine k_not rfl rfl ?_
  refine k_assign rfl rfl ?_
  refine k_nil ?_
  refine k_keep [(0, _), (2, _), (6, _)] ⟨rfl, rfl, rfl, trivial⟩ ?_
  refine k_cond rfl (fun c3 => ?_) (fun c3 => ?_)
  ·
   have h := ibT h c3
   refine k_seq ?_
   refine k_region ?_
   refine k_assign rfl rfl ?_
   refine k_nil ?_
   refine k_keep [(0, _), (2, _)] ⟨rfl, rfl, trivial⟩ ?_
   refine k_ret ?_
   obtain rfl := Option.some.inj h
   refine ⟨_, rfl, Ret.mk hS ?_⟩
   exact ⟨rfl, (ODiskDisk.mk_ a0 (by omega) hwo0_0 hwo0_1 hb_o0)⟩
  ·
   have h := ibF h c3
   refine k_skip ?_
   refine k_blk ?_
   refine k_seq ?_
   refine k_region ?_
   refine k_move rfl rfl ?_
   refine k_nilCheck rfl rfl ?_
   refine k_field_addr fld61_2 rfl rfl ?_
   refine k_store_c (cs' := [.int .i64 a0.capacity, .bool a0.made, .bool false, wo0_0, wo0_1, .int .i64 a0.fuse.n, .int .i64 a0.fuse.keep, .int .i64 a0.fuse.torn]) size4 rfl rfl hb_o0 (by first | (simp; done) | omega | (dsimp only; omega)) (CellsOf.lit rfl rfl) rfl (by first | rfl | (simp; done) | (simp; omega)) rfl ?_
   intro s4 st4 hb_o0
   have szs4 := st4.size
   have hS := hS.c0 st4
   replace hwo0_0 := hwo0_0.up2 st4
   replace hwo0_1 := hwo0_1.up2 st4
   refine k_nil ?_
   refine k_keep [(2, _)] ⟨rfl, trivial⟩ ?_
   refine k_seq ?_
   refine k_region ?_
   refine k_assign rfl rfl ?_
   refine k_nil ?_
   refine k_ret ?_
   obtain rfl := Option.some.inj h
   refine ⟨_, rfl, Ret.mk hS ?_⟩
   exact ⟨rfl, (ODiskDisk.mk_ (⟨a0.capacity, a0.made, false, a0.pictures, a0.calls, a0.fuse⟩ : DiskDisk) (by omega) hwo0_0 hwo0_1 hb_o0)⟩

set_option maxHeartbeats 1000000 in
set_option maxRecDepth 100000 in
theorem disk_Disk_Read_w {s : St} {k0 : Nat} {p0 : Value} {a0 : DiskDisk} {a1 : (List UInt8)} {r : ((List UInt8) × Int)} (ho0 : ODiskDisk s k0 p0 a0) (h : disk_Disk_Read a0 a1 = some r) : Calls Tryd.prog 27 #[p0, S a1] s.w (Ret s K0 (fun s1 v => ∃ (u0 : Value), v = .tuple #[u0, .int .i64 r.2] ∧ R s1 u0 (.sl 1 (r.1.map bD)))) := by
 unfold disk_Disk_Read at h
 have le0 := ho0.le
 have ne0 := ho0.ne
 have hS := Step.r0 K0 s
 refine k_fn (rs := [4, 5]) (args := [p0, S a1]) Tryd.func27 rfl rfl rfl rfl ?_
 refine k_seq ?_
 refine k_region ?_
 refine k_assign rfl rfl ?_
 refine k_assign rfl rfl ?_
 refine k_nil ?_
 refine k_seq ?_
 refine k_seq ?_
 refine k_region ?_
 refine k_move rfl rfl ?_
 refine k_move rfl rfl ?_
 obtain ⟨x1, hx1, h⟩ := ob h
 refine k_call cal54 rfl (disk_Disk_there_nl_w  ho0 hx1) rfl ?_
 rintro s1 vr1 st1 rfl
 have szs1 := st1.size
 have hS := hS.trans0 st1
 replace ho0 := ho0.up2 st1
 refine k_assign rfl rfl ?_
 refine k_nil ?_
 refine k_keep [(0, _), (1, _), (4, _), (5, _), (6, _)] ⟨rfl, rfl, rfl, rfl, rfl, trivial⟩ ?_
 refine k_seq ?_
 refine k_region ?_
 refine k_move rfl rfl ?_
 refine k_neq rfl rfl rfl ?_
 refine k_nil ?_
 refine k_keep [(0, _), (1, _), (4, _), (5, _), (6, _), (11, _)] ⟨rfl, rfl, rfl, rfl, rfl, rfl, trivial⟩ ?_
 refine k_cond_dec rfl (fun c2 => ?_) (fun c2 => ?_)
 ·
  have h := itT h c2
  refine k_seq ?_
  refine k_region ?_
  refine k_move rfl rfl ?_
  refine k_assign rfl rfl ?_
  refine k_assign rfl rfl ?_
  refine k_nil ?_
  refine k_keep [(0, _), (1, _), (4, _), (5, _)] ⟨rfl, rfl, rfl, rfl, trivial⟩ ?_
  refine k_ret ?_
  obtain rfl := Option.some.inj h
  refine ⟨_, rfl, Ret.mk hS ?_⟩
  exact ⟨_, rfl, (R.of_SL (.inl ⟨rfl, none, 0, rfl, fun _ => rfl⟩))⟩
 ·
  have h := itF h c2
  refine k_skip ?_
  refine k_seq ?_
  refine k_region ?_
  refine k_move rfl rfl ?_
  obtain ⟨x2, hx2, h⟩ := ob h
  refine k_call cal37 rfl (disk_Disk_seen_w  ho0 hx2) rfl ?_
  rintro s3 v3_0 st3 ⟨_, rfl, h3_0⟩
  have szs3 := st3.size
  have hS := hS.trans0 st3
  refine k_move rfl rfl ?_
  obtain ⟨x3, hx3, h⟩ := ob h
  refine k_call cal56 rfl (disk_picture_bytes_w  (SL.of_R h3_0) hx3) rfl ?_
  rintro s4 v4_0 st4 ⟨_, rfl, h4_0⟩
  have szs4 := st4.size
  have hS := hS.trans0 st4
  obtain ⟨x4, hx4, h⟩ := ob h
  refine k_call cal55 rfl (slices_Clone_byte_byte_w  (SL.of_R h4_0) hx4) rfl ?_
  rintro s5 v5_0 st5 ⟨_, rfl, h5_0⟩
  have szs5 := st5.size
  have hS := hS.trans0 st5
  refine k_assign rfl rfl ?_
  refine k_assign rfl rfl ?_
  refine k_nil ?_
  refine k_keep [(4, _), (5, _)] ⟨rfl, rfl, trivial⟩ ?_
  refine k_ret ?_
  obtain rfl := Option.some.inj h
  refine ⟨_, rfl, Ret.mk hS ?_⟩
  exact ⟨_, rfl, h5_0⟩

set_option maxHeartbeats 1000000 in
set_option maxRecDepth 100000 in
theorem disk_Disk_Size_w {s : St} {k0 : Nat} {p0 : Value} {a0 : DiskDisk} {a1 : (List UInt8)} {r : Int} (ho0 : ODiskDisk s k0 p0 a0) (h : disk_Disk_Size a0 a1 = some r) : Calls Tryd.prog 30 #[p0, S a1] s.w (Ret s K0 (fun s1 v => v = .int .i64 r)) := by
 unfold disk_Disk_Size at h
 have le0 := ho0.le
 have ne0 := ho0.ne
 have hS := Step.r0 K0 s
 refine k_fn (rs := [4]) (args := [p0, S a1]) Tryd.func30 rfl rfl rfl rfl ?_
 refine k_seq ?_
 refine k_region ?_
 refine k_assign rfl rfl ?_
 refine k_nil ?_
 refine k_seq ?_
 refine k_region ?_
 refine k_move rfl rfl ?_
 obtain ⟨x1, hx1, h⟩ := ob h
 refine k_call cal37 rfl (disk_Disk_seen_w  ho0 hx1) rfl ?_
 rintro s1 v1_0 st1 ⟨_, rfl, h1_0⟩
 have szs1 := st1.size
 have hS := hS.trans0 st1
 refine k_move rfl rfl ?_
 obtain ⟨x2, hx2, h⟩ := ob h
 refine k_call cal56 rfl (disk_picture_bytes_w  (SL.of_R h1_0) hx2) rfl ?_
 rintro s2 v2_0 st2 ⟨_, rfl, h2_0⟩
 have szs2 := st2.size
 have hS := hS.trans0 st2
 refine k_len Tryd.underlying29 rfl (SL.of_R h2_0).hasLen rfl ?_
 refine k_as (v := .int .i64 (x2.length : Int)) (by simp only [List.length_map]) ?_
 refine k_assign rfl rfl ?_
 refine k_nil ?_
 refine k_keep [(4, _)] ⟨rfl, trivial⟩ ?_
 refine k_ret ?_
 obtain rfl := Option.some.inj h
 refine ⟨_, rfl, Ret.mk hS ?_⟩
 exact rfl

set_option maxHeartbeats 1000000 in
set_option maxRecDepth 100000 in
theorem disk_Disk_Bytes_w {s : St} {k0 : Nat} {p0 : Value} {a0 : DiskDisk} {r : Int} (ho0 : ODiskDisk s k0 p0 a0) (h : disk_Disk_Bytes a0 = some r) : Calls Tryd.prog 28 #[p0] s.w (Ret s K0 (fun s1 v => v = .int .i64 r)) := by
 unfold disk_Disk_Bytes at h
 have le0 := ho0.le
 have ne0 := ho0.ne
 have hS := Step.r0 K0 s
 refine k_fn (rs := [2]) (args := [p0]) Tryd.func28 rfl rfl rfl rfl ?_
 refine k_seq ?_
 refine k_region ?_
 refine k_assign rfl rfl ?_
 refine k_nil ?_
 refine k_seq ?_
 refine k_region ?_
 refine k_move rfl rfl ?_
 obtain ⟨x1, hx1, h⟩ := ob h
 refine k_call cal37 rfl (disk_Disk_seen_w  ho0 hx1) rfl ?_
 rintro s1 v1_0 st1 ⟨_, rfl, h1_0⟩
 have szs1 := st1.size
 have hS := hS.trans0 st1
 obtain ⟨x2, hx2, h⟩ := ob h
 refine k_call cal57 rfl (disk_picture_size_w  (show R s1 v1_0 (.sl 2 (x1.map dDiskFile)) from h1_0) hx2) rfl ?_
 rintro s2 vr2 st2 rfl
 have szs2 := st2.size
 have hS := hS.trans0 st2
 refine k_assign rfl rfl ?_
 refine k_nil ?_
 refine k_keep [(2, _)] ⟨rfl, trivial⟩ ?_
 refine k_ret ?_
 obtain rfl := Option.some.inj h
 refine ⟨_, rfl, Ret.mk hS ?_⟩
 exact rfl

set_option maxHeartbeats 1000000 in
set_option maxRecDepth 100000 in
theorem disk_Disk_Waits_w {s : St} {k0 : Nat} {p0 : Value} {a0 : DiskDisk} {r : Int} (ho0 : ODiskDisk s k0 p0 a0) (h : disk_Disk_Waits a0 = some r) : Calls Tryd.prog 14 #[p0] s.w (Ret s K0 (fun s1 v => v = .int .i64 r)) := by
 unfold disk_Disk_Waits at h
 have le0 := ho0.le
 have ne0 := ho0.ne
 obtain ⟨bo0, rfl⟩ := ho0.ptr
 obtain ⟨wo0_0, wo0_1, hb_o0, hwo0_0, hwo0_1⟩ := ho0.at_
 have hS := Step.r0 K0 s
 refine k_fn (rs := [2]) (args := [.pointer (some ⟨bo0, 0, none⟩)]) Tryd.func14 rfl rfl rfl rfl ?_
 refine k_seq ?_
 refine k_region ?_
 refine k_assign rfl rfl ?_
 refine k_nil ?_
 refine k_seq ?_
 refine k_seq ?_
 refine k_region ?_
 refine k_move rfl rfl ?_
 obtain ⟨x1, hx1, h⟩ := ob h
 refine k_call cal18 rfl (disk_Disk_Down_w  (ODiskDisk.mk_ a0 (by omega) hwo0_0 hwo0_1 hb_o0) hx1) rfl ?_
 rintro s1 vr1 st1 rfl
 have szs1 := st1.size
 have hS := hS.trans0 st1
 replace hwo0_1 := hwo0_1.up2 st1
 replace hb_o0 := hb_o0.up2 st1
 refine k_nil ?_
 refine k_keep [(0, _), (2, _), (4, _)] ⟨rfl, rfl, rfl, trivial⟩ ?_
 refine k_cond rfl (fun c2 => ?_) (fun c2 => ?_)
 ·
  have h := ibT h c2
  refine k_seq ?_
  refine k_region ?_
  refine k_assign rfl rfl ?_
  refine k_nil ?_
  refine k_keep [(0, _), (2, _)] ⟨rfl, rfl, trivial⟩ ?_
  refine k_ret ?_
  obtain rfl := Option.some.inj h
  refine ⟨_, rfl, Ret.mk hS ?_⟩
  exact rfl
 ·
  have h := ibF h c2
  refine k_skip ?_
  refine k_seq ?_
  refine k_region ?_
  refine k_move rfl rfl ?_
  refine k_nilCheck rfl rfl ?_
  refine k_field_addr fld61_4 rfl rfl ?_
  refine k_load_blk one57 rfl hb_o0 rfl rfl ?_
  refine k_len Tryd.underlying57 rfl (hwo0_1.sl).hasLen rfl ?_
  refine k_as (v := .int .i64 (a0.calls.length : Int)) (by simp only [List.length_map]) ?_
  refine k_assign rfl rfl ?_
  refine k_nil ?_
  refine k_keep [(2, _)] ⟨rfl, trivial⟩ ?_
  refine k_ret ?_
  obtain rfl := Option.some.inj h
  refine ⟨_, rfl, Ret.mk hS ?_⟩
  exact rfl

set_option maxHeartbeats 1000000 in
set_option maxRecDepth 100000 in
theorem disk_Disk_Capacity_w {s : St} {k0 : Nat} {p0 : Value} {a0 : DiskDisk} {r : Int} (ho0 : ODiskDisk s k0 p0 a0) (h : disk_Disk_Capacity a0 = some r) : Calls Tryd.prog 33 #[p0] s.w (Ret s K0 (fun s1 v => v = .int .i64 r)) := by
 unfold disk_Disk_Capacity at h
 have le0 := ho0.le
 have ne0 := ho0.ne
 obtain ⟨bo0, rfl⟩ := ho0.ptr
 obtain ⟨wo0_0, wo0_1, hb_o0, hwo0_0, hwo0_1⟩ := ho0.at_
 have hS := Step.r0 K0 s
 refine k_fn (rs := [2]) (args := [.pointer (some ⟨bo0, 0, none⟩)]) Tryd.func33 rfl rfl rfl rfl ?_
 refine k_seq ?_
 refine k_region ?_
 refine k_assign rfl rfl ?_
 refine k_nil ?_
 refine k_seq ?_
 refine k_seq ?_
 refine k_region ?_
 refine k_move rfl rfl ?_
 obtain ⟨x1, hx1, h⟩ := ob h
 refine k_call cal39 rfl (disk_Disk_none_w  (ODiskDisk.mk_ a0 (by omega) hwo0_0 hwo0_1 hb_o0) hx1) rfl ?_
 rintro s1 vr1 st1 rfl
 have szs1 := st1.size
 have hS := hS.trans0 st1
 replace hb_o0 := hb_o0.up2 st1
 refine k_nil ?_
 refine k_keep [(0, _), (2, _), (4, _)] ⟨rfl, rfl, rfl, trivial⟩ ?_
 refine k_cond rfl (fun c2 => ?_) (fun c2 => ?_)
 ·
  have h := ibT h c2
  refine k_seq ?_
  refine k_region ?_
  refine k_assign rfl rfl ?_
  refine k_nil ?_
  refine k_keep [(0, _), (2, _)] ⟨rfl, rfl, trivial⟩ ?_
  refine k_ret ?_
  obtain rfl := Option.some.inj h
  refine ⟨_, rfl, Ret.mk hS ?_⟩
  exact rfl
 ·
  have h := ibF h c2
  refine k_skip ?_
  refine k_seq ?_
  refine k_region ?_
  refine k_move rfl rfl ?_
  refine k_nilCheck rfl rfl ?_
  refine k_field_addr fld61_0 rfl rfl ?_
  refine k_load_blk one3 rfl hb_o0 rfl rfl ?_
  refine k_assign rfl rfl ?_
  refine k_nil ?_
  refine k_keep [(2, _)] ⟨rfl, trivial⟩ ?_
  refine k_ret ?_
  obtain rfl := Option.some.inj h
  refine ⟨_, rfl, Ret.mk hS ?_⟩
  exact rfl

set_option maxHeartbeats 1000000 in
set_option maxRecDepth 100000 in
theorem slices_Clone_disk_picture_disk_picture_own_w {s : St} {l0 : Lab} {v0 : Value} {a0 : (List (List DiskFile))} {r : (List (List DiskFile))} (hp0 : SL s l0 v0 1 (a0.map (dL 2 dDiskFile))) (h : slices_Clone_disk_picture_disk_picture a0 = some r) : Calls Tryd.prog 51 #[v0] s.w (Ret s K0 (fun s1 v => ∃ (u0 : Value), ∃ (lu0 : Lab), v = u0 ∧ (s.n < lu0.o ∧ lu0.c = 0) ∧ Own s1 lu0 73 1 u0 (r.map (dL 2 dDiskFile)))) := by
 unfold slices_Clone_disk_picture_disk_picture at h
 obtain ⟨lf0, lf0le, lf0ne, hp0⟩ := hp0.fix
 have hS := Step.r0 K0 s
 refine k_fn (rs := [2]) (args := [v0]) Tryd.func51 rfl rfl rfl rfl ?_
 refine k_seq ?_
 refine k_region ?_
 refine k_assign rfl rfl ?_
 refine k_nil ?_
 refine k_seq ?_
 refine k_seq ?_
 refine k_region ?_
 refine k_move rfl rfl ?_
 refine k_eql_snilv Tryd.underlying56 rfl rfl hp0 rfl ?_
 refine k_nil ?_
 refine k_keep [(0, _), (2, _), (4, _)] ⟨rfl, rfl, rfl, trivial⟩ ?_
 refine k_cond rfl (fun c1 => ?_) (fun c1 => ?_)
 ·
  have hz4 := SL.nilS_nil hp0 c1
  obtain rfl : a0 = [] := by simpa using hz4
  replace h : some ([]) = some r := by simpa [app] using h
  refine k_seq ?_
  refine k_region ?_
  refine k_assign rfl rfl ?_
  refine k_nil ?_
  refine k_keep [(0, _), (2, _)] ⟨rfl, rfl, trivial⟩ ?_
  refine k_ret ?_
  obtain rfl := Option.some.inj h
  refine ⟨_, rfl, Ret.mk hS ?_⟩
  exact ⟨_, ⟨s.n + 1, 0⟩, rfl, ⟨by show s.n < s.n + 1; omega, rfl⟩, Own.nil (by simp) (Nat.le_refl _)⟩
 ·
  refine k_skip ?_
  refine k_seq ?_
  refine k_region ?_
  refine k_bslice2 (ds := ([] : List (List DiskFile)).map (dL 2 dDiskFile)) slc56 rfl RVs.nil (by rfl) (by rfl) rfl rfl ?_
  intro s2 v2 b2 st2 ge2 bl2 h2
  have szs2 := st2.size
  have hS := hS.trans0 st2
  replace hp0 := hp0.up2 st2
  have lt2 := Own.le1 h2
  refine k_move rfl rfl ?_
  obtain ⟨x1, hx1, h⟩ := ob h
  refine k_append (es := a0.map (dL 2 dDiskFile)) elem56 rfl rfl h2 hp0 (by have := (app_out hx1).1; simp only [List.length_map] at *; omega) (by have := (app_out hx1).1; simp only [List.length_map] at *; omega) rfl ?_
  intro s3 v3 st3 h3
  rw [← List.map_append, ← (app_out hx1).2] at h3
  have szs3 := st3.size
  have hS := hS.c0 st3
  refine k_assign rfl rfl ?_
  refine k_nil ?_
  refine k_keep [(2, _)] ⟨rfl, trivial⟩ ?_
  refine k_ret ?_
  obtain rfl := Option.some.inj h
  refine ⟨_, rfl, Ret.mk hS ?_⟩
  exact ⟨_, ⟨b2 + 1, 0⟩, rfl, ⟨by (try dsimp only); omega, rfl⟩, h3⟩

set_option maxHeartbeats 1000000 in
set_option maxRecDepth 100000 in
theorem slices_Clone_disk_call_disk_call_own_w {s : St} {l0 : Lab} {v0 : Value} {a0 : (List DiskCall)} {r : (List DiskCall)} (hp0 : SL s l0 v0 1 (a0.map dDiskCall)) (h : slices_Clone_disk_call_disk_call a0 = some r) : Calls Tryd.prog 52 #[v0] s.w (Ret s K0 (fun s1 v => ∃ (u0 : Value), ∃ (lu0 : Lab), v = u0 ∧ (s.n < lu0.o ∧ lu0.c = 0) ∧ Own s1 lu0 81 1 u0 (r.map dDiskCall))) := by
 unfold slices_Clone_disk_call_disk_call at h
 obtain ⟨lf0, lf0le, lf0ne, hp0⟩ := hp0.fix
 have hS := Step.r0 K0 s
 refine k_fn (rs := [2]) (args := [v0]) Tryd.func52 rfl rfl rfl rfl ?_
 refine k_seq ?_
 refine k_region ?_
 refine k_assign rfl rfl ?_
 refine k_nil ?_
 refine k_seq ?_
 refine k_seq ?_
 refine k_region ?_
 refine k_move rfl rfl ?_
 refine k_eql_snilv Tryd.underlying57 rfl rfl hp0 rfl ?_
 refine k_nil ?_
 refine k_keep [(0, _), (2, _), (4, _)] ⟨rfl, rfl, rfl, trivial⟩ ?_
 refine k_cond rfl (fun c1 => ?_) (fun c1 => ?_)
 ·
  have hz4 := SL.nilS_nil hp0 c1
  obtain rfl : a0 = [] := by simpa using hz4
  replace h : some ([]) = some r := by simpa [app] using h
  refine k_seq ?_
  refine k_region ?_
  refine k_assign rfl rfl ?_
  refine k_nil ?_
  refine k_keep [(0, _), (2, _)] ⟨rfl, rfl, trivial⟩ ?_
  refine k_ret ?_
  obtain rfl := Option.some.inj h
  refine ⟨_, rfl, Ret.mk hS ?_⟩
  exact ⟨_, ⟨s.n + 1, 0⟩, rfl, ⟨by show s.n < s.n + 1; omega, rfl⟩, Own.nil (by simp) (Nat.le_refl _)⟩
 ·
  refine k_skip ?_
  refine k_seq ?_
  refine k_region ?_
  refine k_bslice2 (ds := ([] : List DiskCall).map dDiskCall) slc57 rfl RVs.nil (by rfl) (by simp [dDiskCall_wd]) rfl rfl ?_
  intro s2 v2 b2 st2 ge2 bl2 h2
  have szs2 := st2.size
  have hS := hS.trans0 st2
  replace hp0 := hp0.up2 st2
  have lt2 := Own.le1 h2
  refine k_move rfl rfl ?_
  obtain ⟨x1, hx1, h⟩ := ob h
  refine k_append (es := a0.map dDiskCall) elem57 rfl rfl h2 hp0 (by have := (app_out hx1).1; simp only [List.length_map] at *; omega) (by have := (app_out hx1).1; simp only [List.length_map] at *; omega) rfl ?_
  intro s3 v3 st3 h3
  rw [← List.map_append, ← (app_out hx1).2] at h3
  have szs3 := st3.size
  have hS := hS.c0 st3
  refine k_assign rfl rfl ?_
  refine k_nil ?_
  refine k_keep [(2, _)] ⟨rfl, trivial⟩ ?_
  refine k_ret ?_
  obtain rfl := Option.some.inj h
  refine ⟨_, rfl, Ret.mk hS ?_⟩
  exact ⟨_, ⟨b2 + 1, 0⟩, rfl, ⟨by (try dsimp only); omega, rfl⟩, h3⟩

set_option maxHeartbeats 1000000 in
set_option maxRecDepth 100000 in
theorem disk_Disk_Copy_w {s : St} {k0 : Nat} {p0 : Value} {a0 : DiskDisk} {r : (Option DiskDisk)} (ho0 : ODiskDisk s k0 p0 a0) (h : disk_Disk_Copy a0 = some r) : Calls Tryd.prog 24 #[p0] s.w (Ret s K0 (fun s1 v => ∃ (ku0 : Nat), ∃ (u0 : Value), v = u0 ∧ s.n < ku0 ∧ OptODiskDisk s1 ku0 u0 r)) := by
 unfold disk_Disk_Copy at h
 have le0 := ho0.le
 have ne0 := ho0.ne
 obtain ⟨bo0, rfl⟩ := ho0.ptr
 obtain ⟨wo0_0, wo0_1, hb_o0, hwo0_0, hwo0_1⟩ := ho0.at_
 have hS := Step.r0 K0 s
 refine k_fn (rs := [2]) (args := [.pointer (some ⟨bo0, 0, none⟩)]) Tryd.func24 rfl rfl rfl rfl ?_
 refine k_seq ?_
 refine k_region ?_
 refine k_assign rfl rfl ?_
 refine k_nil ?_
 refine k_seq ?_
 refine k_seq ?_
 refine k_region ?_
 refine k_move rfl rfl ?_
 obtain ⟨x1, hx1, h⟩ := ob h
 refine k_call cal39 rfl (disk_Disk_none_w  (ODiskDisk.mk_ a0 (by omega) hwo0_0 hwo0_1 hb_o0) hx1) rfl ?_
 rintro s1 vr1 st1 rfl
 have szs1 := st1.size
 have hS := hS.trans0 st1
 replace hwo0_0 := hwo0_0.up2 st1
 replace hwo0_1 := hwo0_1.up2 st1
 replace hb_o0 := hb_o0.up2 st1
 refine k_nil ?_
 refine k_keep [(0, _), (2, _), (5, _)] ⟨rfl, rfl, rfl, trivial⟩ ?_
 refine k_cond rfl (fun c2 => ?_) (fun c2 => ?_)
 ·
  have h := ibT h c2
  refine k_seq ?_
  refine k_region ?_
  refine k_assign rfl rfl ?_
  refine k_nil ?_
  refine k_keep [(0, _), (2, _)] ⟨rfl, rfl, trivial⟩ ?_
  refine k_ret ?_
  obtain rfl := Option.some.inj h
  refine ⟨_, rfl, Ret.mk hS ?_⟩
  exact ⟨s1.n + 1, _, rfl, by omega, rfl⟩
 ·
  have h := ibF h c2
  refine k_skip ?_
  refine k_seq ?_
  refine k_region ?_
  refine k_move rfl rfl ?_
  refine k_nilCheck rfl rfl ?_
  refine k_load_blka (cs := [.int .i64 a0.capacity, .bool a0.made, .bool a0.down, wo0_0, wo0_1, .int .i64 a0.fuse.n, .int .i64 a0.fuse.keep, .int .i64 a0.fuse.torn]) agg61 rfl hb_o0 rfl ?_
  refine k_alloc zero61 rfl ?_
  intro s3 b3 st3 h3 ge3
  have szs3 := st3.size
  have hS := hS.trans0 st3
  replace hwo0_0 := hwo0_0.up2 st3
  replace hwo0_1 := hwo0_1.up2 st3
  replace hb_o0 := hb_o0.up2 st3
  have lt3 := h3.lt
  refine k_store_c (cs' := [.int .i64 a0.capacity, .bool a0.made, .bool a0.down, wo0_0, wo0_1, .int .i64 a0.fuse.n, .int .i64 a0.fuse.keep, .int .i64 a0.fuse.torn]) size61 rfl rfl h3 (by first | (simp; done) | omega | (dsimp only; omega)) (CellsOf.lit (vs := [.int .i64 a0.capacity, .bool a0.made, .bool a0.down, wo0_0, wo0_1, .int .i64 a0.fuse.n, .int .i64 a0.fuse.keep, .int .i64 a0.fuse.torn]) rfl (ones.cons rfl (ones.cons rfl (ones.cons rfl (ones.cons ((hwo0_0.sl)).one1 (ones.cons ((hwo0_1.sl)).one1 (ones.cons rfl (ones.cons rfl (ones.cons rfl ones.nil))))))))) rfl (by first | rfl | (simp; done) | (simp; omega)) rfl ?_
  intro s4 st4 h3
  have szs4 := st4.size
  have hS := hS.c0 st4
  replace hwo0_0 := hwo0_0.up2 st4
  replace hwo0_1 := hwo0_1.up2 st4
  replace hb_o0 := hb_o0.up2 st4
  refine k_nil ?_
  refine k_keep [(0, _), (2, _), (3, _)] ⟨rfl, rfl, rfl, trivial⟩ ?_
  refine k_seq ?_
  refine k_drawT (KN s4.n) 9 (.read 0 (.read 1 (.read 2 (.read 3 (.read 5 (.read 6 (.read 7 (.read 8 (.alt 4 .fin .no))))))))) mixed (by intro c h; (try simp only [KC, KO, KU, KN, KB] at h) <;> omega) rfl rfl rfl ?_
  intro s5 st5
  have szs5 := st5.size
  have hS := hS.trans0 st5
  replace hwo0_0 := hwo0_0.up2 st5
  replace hwo0_1 := hwo0_1.up2 st5
  replace hb_o0 := hb_o0.up2 st5
  replace h3 := h3.up2 st5
  refine rt_read (.pointer (some ⟨bo0, 0, none⟩)) rfl rfl (fun s6 st6 => ?_) ?_
  ·refine k_move rfl rfl ?_
   exact fq_end
  refine rt_read (.pointer (some ⟨bo0, 0, none⟩)) rfl rfl (fun s7 st7 => ?_) ?_
  ·refine k_nilCheck rfl rfl ?_
   exact fq_end
  refine rt_read (.pointer (some ⟨bo0, 3, none⟩)) rfl rfl (fun s8 st8 => ?_) ?_
  ·refine k_field_addr fld61_3 rfl rfl ?_
   exact fq_end
  refine rt_read (wo0_0) rfl rfl (fun s9 st9 => ?_) ?_
  ·try replace hb_o0 := hb_o0.up2 st9
   refine k_load_blk one56 rfl hb_o0 rfl rfl ?_
   exact fq_end
  refine rt_read (.pointer (some ⟨bo0, 0, none⟩)) rfl rfl (fun s10 st10 => ?_) ?_
  ·refine k_move rfl rfl ?_
   exact fq_end
  refine rt_read (.pointer (some ⟨bo0, 0, none⟩)) rfl rfl (fun s11 st11 => ?_) ?_
  ·refine k_nilCheck rfl rfl ?_
   exact fq_end
  refine rt_read (.pointer (some ⟨bo0, 4, none⟩)) rfl rfl (fun s12 st12 => ?_) ?_
  ·refine k_field_addr fld61_4 rfl rfl ?_
   exact fq_end
  refine rt_read (wo0_1) rfl rfl (fun s13 st13 => ?_) ?_
  ·try replace hb_o0 := hb_o0.up2 st13
   refine k_load_blk one57 rfl hb_o0 rfl rfl ?_
   exact fq_end
  refine rt_act rfl rfl ?_
  have hA14 := Step.r0 (KN s4.n) s5
  obtain ⟨x2, hx2, h⟩ := ob h
  refine k_call cal51 rfl (slices_Clone_disk_picture_disk_picture_own_w  (hwo0_0.sl) hx2) rfl ?_
  rintro s15 v15_0 st15 ⟨_, l15_0, rfl, hl15_0, h15_0⟩
  have szs15 := st15.size
  have hS := hS.trans0 st15
  have hA14 := hA14.trans0 st15
  replace hwo0_1 := hwo0_1.up2 st15
  replace h3 := h3.up2 st15
  obtain ⟨l15_0, hl15_0, h15_0⟩ := Own.anew 2150 h15_0 hl15_0 szs15
  have lt15_0 := Own.le1 h15_0
  refine rt_cont hA14 ?_
  refine rt_fin ?_
  obtain ⟨x3, hx3, h⟩ := ob h
  refine k_call cal52 rfl (slices_Clone_disk_call_disk_call_own_w  (hwo0_1.sl) hx3) rfl ?_
  rintro s16 v16_0 st16 ⟨_, l16_0, rfl, hl16_0, h16_0⟩
  have szs16 := st16.size
  have hS := hS.trans0 st16
  replace h3 := h3.up2 st16
  replace h15_0 := h15_0.up2 st16
  obtain ⟨l16_0, hl16_0, h16_0⟩ := Own.anew 2160 h16_0 hl16_0 szs16
  have lt16_0 := Own.le1 h16_0
  refine k_field_addr fld61_3 rfl rfl ?_
  refine k_store_c (cs' := [.int .i64 a0.capacity, .bool a0.made, .bool a0.down, v15_0, wo0_1, .int .i64 a0.fuse.n, .int .i64 a0.fuse.keep, .int .i64 a0.fuse.torn]) size56 rfl rfl h3 (by first | (simp; done) | omega | (dsimp only; omega)) (CellsOf.sl (h15_0.sl)) rfl (by first | rfl | (simp; done) | (simp; omega)) rfl ?_
  intro s17 st17 h3
  have szs17 := st17.size
  have hS := hS.c0 st17
  replace h15_0 := h15_0.up2 st17
  replace h16_0 := h16_0.up2 st17
  refine k_field_addr fld61_4 rfl rfl ?_
  refine k_store_c (cs' := [.int .i64 a0.capacity, .bool a0.made, .bool a0.down, v15_0, v16_0, .int .i64 a0.fuse.n, .int .i64 a0.fuse.keep, .int .i64 a0.fuse.torn]) size57 rfl rfl h3 (by first | (simp; done) | omega | (dsimp only; omega)) (CellsOf.sl (h16_0.sl)) rfl (by first | rfl | (simp; done) | (simp; omega)) rfl ?_
  intro s18 st18 h3
  have szs18 := st18.size
  have hS := hS.c0 st18
  replace h15_0 := h15_0.up2 st18
  replace h16_0 := h16_0.up2 st18
  refine k_nil ?_
  refine k_keep [(2, _), (3, _)] ⟨rfl, rfl, trivial⟩ ?_
  refine k_seq ?_
  refine k_region ?_
  refine k_assign rfl rfl ?_
  refine k_nil ?_
  refine k_keep [(2, _)] ⟨rfl, trivial⟩ ?_
  refine k_ret ?_
  obtain ⟨s19, e19, st19, h19⟩ := Own.relabelK (b3 + 1) 5 h15_0 (by first | omega | (dsimp only; omega)) (by first | omega | (dsimp only; omega)) (by first | omega | (dsimp only; omega))
  rw [← e19]
  have szs19 := st19.size
  have hS := hS.c0 st19
  replace h3 := h3.up2 st19
  replace h16_0 := h16_0.up2 st19
  obtain ⟨s20, e20, st20, h20⟩ := Own.relabelK (b3 + 1) 6 h16_0 (by first | omega | (dsimp only; omega)) (by first | omega | (dsimp only; omega)) (by first | omega | (dsimp only; omega))
  rw [← e20]
  have szs20 := st20.size
  have hS := hS.c0 st20
  replace h3 := h3.up2 st20
  replace h19 := h19.up2 st20
  obtain rfl := Option.some.inj h
  refine ⟨_, rfl, Ret.mk hS ?_⟩
  exact ⟨b3 + 1, _, rfl, by omega, (ODiskDisk.mk_ (⟨a0.capacity, a0.made, a0.down, x2, x3, a0.fuse⟩ : DiskDisk) (by omega) h19 h20 h3)⟩

set_option maxHeartbeats 1000000 in
set_option maxRecDepth 100000 in
theorem ref05_Named_w {s : St} {a0 : (List UInt8)} {r : Bool}  (h : ref05_Named a0 = some r) : Calls Tryd.prog 70 #[S a0] s.w (Ret s K0 (fun s1 v => v = .bool r)) := by
 unfold ref05_Named at h
 have hS := Step.r0 K0 s
 refine k_fn (rs := [2]) (args := [S a0]) Tryd.func70 rfl rfl rfl rfl ?_
 refine k_seq ?_
 refine k_region ?_
 refine k_assign rfl rfl ?_
 refine k_nil ?_
 refine k_seq ?_
 obtain ⟨kj1, hK1, h⟩ := jn_out h
 have hE1 := Step.r0 K0 s
 refine k_cutc (X := St) [(0, S a0), (2, .bool false)] (fun (xL : St) => match xL with | sl => []) (fun (xL : St) (wL : World) => match xL with | sl => sl.w = wL ∧ Step K0 s sl ∧ kj1 () = some r) ?_ ?_
 ·
  refine k_seq ?_
  refine k_region ?_
  refine k_assign rfl rfl ?_
  refine k_nil ?_
  refine k_block ?_
  refine k_loopc (X := St × Int × Nat) [(0, _), (2, _)] (fun (xL : St × Int × Nat) => match xL with | (sl, x2, j) => [(3, .int .i64 x2)]) (fun (xL : St × Int × Nat) (wL : World) => match xL with | (sl, x2, j) => sl.w = wL ∧ Step K0 s sl ∧ ref05_Named_l1 a0 kj1 j x2 = some r) (fun (xL : St × Int × Nat) => match xL with | (sl, x2, j) => j) (s, 0, FU) ⟨rfl, rfl, trivial⟩ ⟨(by first | rfl | (simp <;> rfl)), trivial⟩ ⟨rfl, (Step.refl _).of0 (by first | exact fun _ h => h | (intro c h; simp [KC, KO, KU, KN, KB] at h <;> omega)), h⟩ ?_
  rintro ⟨s3, x2, j⟩ wL ⟨rfl, hE2, h⟩
  cases j with
  | zero => rw [ref05_Named_l1] at h; exact (noneNe h).elim
  | succ j =>
  rw [ref05_Named_l1] at h
  have szs3 := hE2.size
  have hS := hS.trans0 hE2
  have hE1 := hE1.trans0 hE2
  refine k_seq ?_
  refine k_seq ?_
  refine k_region ?_
  refine k_move rfl rfl ?_
  refine k_move rfl rfl ?_
  refine k_len_str Tryd.underlying9 rfl rfl ?_
  refine k_lss rfl rfl rfl ?_
  refine k_nil ?_
  refine k_keep [(0, _), (2, _), (3, _), (8, _)] ⟨rfl, rfl, rfl, rfl, trivial⟩ ?_
  refine k_cond_dec rfl (fun c4 => ?_) (fun c4 => ?_)
  ·
   have h := itT h c4
   refine k_skip ?_
   refine k_seq ?_
   refine k_block ?_
   refine k_seq ?_
   refine k_region ?_
   refine k_move rfl rfl ?_
   refine k_move rfl rfl ?_
   obtain ⟨x3, hx3, h⟩ := ob h
   refine k_index_str Tryd.underlying9 rfl rfl (geti_out hx3).1 (geti_out hx3).2.1 rfl ?_
   refine k_as (congrArg (fun c : UInt8 => Value.int .u8 (c.toNat : Int)) (geti_getD hx3)) ?_
   refine k_assign rfl rfl ?_
   refine k_nil ?_
   refine k_keep [(0, _), (2, _), (3, _), (4, _)] ⟨rfl, rfl, rfl, rfl, trivial⟩ ?_
   refine k_seq ?_
   refine k_region ?_
   refine k_move rfl rfl ?_
   refine k_neq rfl rfl rfl ?_
   refine k_move rfl rfl ?_
   have hE5 := Step.r0 K0 s3
   refine k_cutl (X := St) 7 [(0, S a0), (2, .bool false), (3, .int .i64 x2), (4, .int .u8 (x3.toNat : Int)), (14, .int .u8 (x3.toNat : Int)), (15, .bool (decide ((x3.toNat : Int) ≠ 46)))] (fun _ => [(23, .bool (decide (((x3.toNat : Int) ≠ 46) ∧ (((x3.toNat : Int) < 48) ∨ (57 < (x3.toNat : Int))))))]) (fun sl wL => sl.w = wL ∧ Step K0 s3 sl) ?_ ?_
   ·
    refine k_again 16 rfl ?_
    refine k_split (fun c6 => ?_) (fun c6 => ?_)
    ·
     refine k_yes rfl rfl ?_
     refine k_move rfl rfl ?_
     refine k_yes rfl rfl ?_
     refine k_lss rfl rfl rfl ?_
     refine k_yes rfl rfl ?_
     refine k_move rfl rfl ?_
     have hE7 := Step.r0 K0 s3
     refine k_cutl (X := St) 3 [(0, S a0), (2, .bool false), (3, .int .i64 x2), (4, .int .u8 (x3.toNat : Int)), (14, .int .u8 (x3.toNat : Int)), (15, .bool (decide ((x3.toNat : Int) ≠ 46))), (16, .bool true), (17, .int .u8 (x3.toNat : Int)), (18, .bool (decide ((x3.toNat : Int) < 48)))] (fun _ => [(22, .bool (decide (((x3.toNat : Int) < 48) ∨ (57 < (x3.toNat : Int)))))]) (fun sl wL => sl.w = wL ∧ Step K0 s3 sl) ?_ ?_
     ·
      refine k_again 19 rfl ?_
      refine k_split (fun c8 => ?_) (fun c8 => ?_)
      ·
       refine k_no rfl rfl rfl rfl ?_
       refine k_no rfl rfl rfl rfl ?_
       refine k_yes rfl rfl ?_
       refine k_pickT rfl rfl rfl rfl ?_
       exact k_met ⟨s3, ⟨(congrArg (fun b => some (Value.bool b)) (by first | exact decide_eq_decide.2 ⟨Or.inr, fun h => h.resolve_left c8⟩ | exact (decide_eq_true (Or.inl c8)).symm | (simp [c8]; done) | (simp [c8, i64] <;> omega))), trivial⟩, ⟨rfl, rfl, rfl, rfl, rfl, rfl, rfl, rfl, rfl, trivial⟩, rfl, hE7⟩
      ·
       refine k_yes rfl rfl ?_
       refine k_move rfl rfl ?_
       refine k_yes rfl rfl ?_
       refine k_gtr rfl rfl rfl ?_
       refine k_yes rfl rfl ?_
       refine k_pickF rfl rfl rfl rfl ?_
       exact k_met ⟨s3, ⟨(congrArg (fun b => some (Value.bool b)) (by first | exact decide_eq_decide.2 ⟨Or.inr, fun h => h.resolve_left c8⟩ | exact (decide_eq_true (Or.inl c8)).symm | (simp [c8]; done) | (simp [c8, i64] <;> omega))), trivial⟩, ⟨rfl, rfl, rfl, rfl, rfl, rfl, rfl, rfl, rfl, trivial⟩, rfl, hE7⟩
     ·
      rintro s9 wL ⟨rfl, hE7⟩
      have szs9 := hE7.size
      have hS := hS.trans0 hE7
      have hE1 := hE1.trans0 hE7
      have hE2 := hE2.trans0 hE7
      have hE5 := hE5.trans0 hE7
      refine k_pickT rfl rfl rfl rfl ?_
      exact k_met ⟨s9, ⟨(congrArg (fun b => some (Value.bool b)) (by first | exact decide_eq_decide.2 ⟨fun h => ⟨c6, h⟩, fun h => h.2⟩ | exact (decide_eq_false (fun h => c6 h.1)).symm | (simp [c6]; done) | (simp [c6, i64] <;> omega))), trivial⟩, ⟨rfl, rfl, rfl, rfl, rfl, rfl, trivial⟩, rfl, hE5⟩
    ·
     refine k_no rfl rfl rfl rfl ?_
     refine k_no rfl rfl rfl rfl ?_
     refine k_no rfl rfl rfl rfl ?_
     refine k_nou rfl rfl rfl rfl ?_
     refine k_nou rfl rfl rfl rfl ?_
     refine k_no rfl rfl rfl rfl ?_
     refine k_pickF rfl rfl rfl rfl ?_
     exact k_met ⟨s3, ⟨(congrArg (fun b => some (Value.bool b)) (by first | exact decide_eq_decide.2 ⟨fun h => ⟨c6, h⟩, fun h => h.2⟩ | exact (decide_eq_false (fun h => c6 h.1)).symm | (simp [c6]; done) | (simp [c6, i64] <;> omega))), trivial⟩, ⟨rfl, rfl, rfl, rfl, rfl, rfl, trivial⟩, rfl, hE5⟩
   ·
    rintro s10 wL ⟨rfl, hE5⟩
    have szs10 := hE5.size
    have hS := hS.trans0 hE5
    have hE1 := hE1.trans0 hE5
    have hE2 := hE2.trans0 hE5
    refine k_move rfl rfl ?_
    have hE11 := Step.r0 K0 s10
    refine k_cutl (X := St) 7 [(0, S a0), (2, .bool false), (3, .int .i64 x2), (4, .int .u8 (x3.toNat : Int)), (14, .int .u8 (x3.toNat : Int)), (15, .bool (decide ((x3.toNat : Int) ≠ 46))), (23, .bool (decide (((x3.toNat : Int) ≠ 46) ∧ (((x3.toNat : Int) < 48) ∨ (57 < (x3.toNat : Int))))))] (fun _ => [(31, .bool (decide ((((x3.toNat : Int) ≠ 46) ∧ (((x3.toNat : Int) < 48) ∨ (57 < (x3.toNat : Int)))) ∧ (((x3.toNat : Int) < 97) ∨ (122 < (x3.toNat : Int))))))]) (fun sl wL => sl.w = wL ∧ Step K0 s10 sl) ?_ ?_
    ·
     refine k_again 24 rfl ?_
     refine k_split (fun c12 => ?_) (fun c12 => ?_)
     ·
      refine k_yes rfl rfl ?_
      refine k_move rfl rfl ?_
      refine k_yes rfl rfl ?_
      refine k_lss rfl rfl rfl ?_
      refine k_yes rfl rfl ?_
      refine k_move rfl rfl ?_
      have hE13 := Step.r0 K0 s10
      refine k_cutl (X := St) 3 [(0, S a0), (2, .bool false), (3, .int .i64 x2), (4, .int .u8 (x3.toNat : Int)), (14, .int .u8 (x3.toNat : Int)), (15, .bool (decide ((x3.toNat : Int) ≠ 46))), (23, .bool (decide (((x3.toNat : Int) ≠ 46) ∧ (((x3.toNat : Int) < 48) ∨ (57 < (x3.toNat : Int)))))), (24, .bool true), (25, .int .u8 (x3.toNat : Int)), (26, .bool (decide ((x3.toNat : Int) < 97)))] (fun _ => [(30, .bool (decide (((x3.toNat : Int) < 97) ∨ (122 < (x3.toNat : Int)))))]) (fun sl wL => sl.w = wL ∧ Step K0 s10 sl) ?_ ?_
      ·
       refine k_again 27 rfl ?_
       refine k_split (fun c14 => ?_) (fun c14 => ?_)
       ·
        refine k_no rfl rfl rfl rfl ?_
        refine k_no rfl rfl rfl rfl ?_
        refine k_yes rfl rfl ?_
        refine k_pickT rfl rfl rfl rfl ?_
        exact k_met ⟨s10, ⟨(congrArg (fun b => some (Value.bool b)) (by first | exact decide_eq_decide.2 ⟨Or.inr, fun h => h.resolve_left c14⟩ | exact (decide_eq_true (Or.inl c14)).symm | (simp [c14]; done) | (simp [c14, i64] <;> omega))), trivial⟩, ⟨rfl, rfl, rfl, rfl, rfl, rfl, rfl, rfl, rfl, rfl, trivial⟩, rfl, hE13⟩
       ·
        refine k_yes rfl rfl ?_
        refine k_move rfl rfl ?_
        refine k_yes rfl rfl ?_
        refine k_gtr rfl rfl rfl ?_
        refine k_yes rfl rfl ?_
        refine k_pickF rfl rfl rfl rfl ?_
        exact k_met ⟨s10, ⟨(congrArg (fun b => some (Value.bool b)) (by first | exact decide_eq_decide.2 ⟨Or.inr, fun h => h.resolve_left c14⟩ | exact (decide_eq_true (Or.inl c14)).symm | (simp [c14]; done) | (simp [c14, i64] <;> omega))), trivial⟩, ⟨rfl, rfl, rfl, rfl, rfl, rfl, rfl, rfl, rfl, rfl, trivial⟩, rfl, hE13⟩
      ·
       rintro s15 wL ⟨rfl, hE13⟩
       have szs15 := hE13.size
       have hS := hS.trans0 hE13
       have hE1 := hE1.trans0 hE13
       have hE2 := hE2.trans0 hE13
       have hE11 := hE11.trans0 hE13
       refine k_pickT rfl rfl rfl rfl ?_
       exact k_met ⟨s15, ⟨(congrArg (fun b => some (Value.bool b)) (by first | exact decide_eq_decide.2 ⟨fun h => ⟨c12, h⟩, fun h => h.2⟩ | exact (decide_eq_false (fun h => c12 h.1)).symm | (simp [c12]; done) | (simp [c12, i64] <;> omega))), trivial⟩, ⟨rfl, rfl, rfl, rfl, rfl, rfl, rfl, trivial⟩, rfl, hE11⟩
     ·
      refine k_no rfl rfl rfl rfl ?_
      refine k_no rfl rfl rfl rfl ?_
      refine k_no rfl rfl rfl rfl ?_
      refine k_nou rfl rfl rfl rfl ?_
      refine k_nou rfl rfl rfl rfl ?_
      refine k_no rfl rfl rfl rfl ?_
      refine k_pickF rfl rfl rfl rfl ?_
      exact k_met ⟨s10, ⟨(congrArg (fun b => some (Value.bool b)) (by first | exact decide_eq_decide.2 ⟨fun h => ⟨c12, h⟩, fun h => h.2⟩ | exact (decide_eq_false (fun h => c12 h.1)).symm | (simp [c12]; done) | (simp [c12, i64] <;> omega))), trivial⟩, ⟨rfl, rfl, rfl, rfl, rfl, rfl, rfl, trivial⟩, rfl, hE11⟩
    ·
     rintro s16 wL ⟨rfl, hE11⟩
     have szs16 := hE11.size
     have hS := hS.trans0 hE11
     have hE1 := hE1.trans0 hE11
     have hE2 := hE2.trans0 hE11
     refine k_nil ?_
     refine k_keep [(0, _), (2, _), (3, _), (31, _)] ⟨rfl, rfl, rfl, rfl, trivial⟩ ?_
     refine k_cond_dec rfl (fun c17 => ?_) (fun c17 => ?_)
     ·
      have h := itT h c17
      refine k_seq ?_
      refine k_region ?_
      refine k_assign rfl rfl ?_
      refine k_nil ?_
      refine k_keep [(0, _), (2, _), (3, _)] ⟨rfl, rfl, rfl, trivial⟩ ?_
      refine k_ret ?_
      obtain rfl := Option.some.inj h
      refine ⟨_, rfl, Ret.mk hS ?_⟩
      exact rfl
     ·
      have h := itF h c17
      refine k_skip ?_
      refine k_blk ?_
      refine k_region ?_
      refine k_move rfl rfl ?_
      refine k_add rfl rfl rfl ?_
      refine k_assign rfl rfl ?_
      refine k_nil ?_
      exact k_stop ⟨(s16, i64 (x2 + 1), j), ⟨(by first | rfl | (simp <;> rfl)), trivial⟩, ⟨rfl, rfl, trivial⟩, ⟨rfl, hE2, h⟩, (by simp)⟩
  ·
   have h := itF h c4
   refine k_exit rfl ?_
   exact k_stop ⟨s3, trivial, ⟨rfl, rfl, trivial⟩, ⟨rfl, hE1, h⟩⟩
 ·
  rintro s18 wL ⟨rfl, hE1, h⟩
  rw [hK1] at h
  have szs18 := hE1.size
  have hS := hS.trans0 hE1
  refine k_seq ?_
  refine k_region ?_
  refine k_move rfl rfl ?_
  refine k_len_str Tryd.underlying9 rfl rfl ?_
  refine k_geq rfl rfl rfl ?_
  refine k_move rfl rfl ?_
  have hE19 := Step.r0 K0 s18
  refine k_cutl (X := St) 4 [(0, S a0), (2, .bool false), (32, S a0), (33, .int .i64 (a0.length : Int)), (34, .bool (decide (1 ≤ (a0.length : Int))))] (fun _ => [(39, .bool (decide ((1 ≤ (a0.length : Int)) ∧ ((a0.length : Int) ≤ 16))))]) (fun sl wL => sl.w = wL ∧ Step K0 s18 sl) ?_ ?_
  ·
   refine k_again 35 rfl ?_
   refine k_split (fun c20 => ?_) (fun c20 => ?_)
   ·
    refine k_yes rfl rfl ?_
    refine k_move rfl rfl ?_
    refine k_yes rfl rfl ?_
    refine k_len_str Tryd.underlying9 rfl rfl ?_
    refine k_yes rfl rfl ?_
    refine k_leq rfl rfl rfl ?_
    refine k_pickT rfl rfl rfl rfl ?_
    exact k_met ⟨s18, ⟨(congrArg (fun b => some (Value.bool b)) (by first | exact decide_eq_decide.2 ⟨fun h => ⟨c20, h⟩, fun h => h.2⟩ | exact (decide_eq_false (fun h => c20 h.1)).symm | (simp [c20]; done) | (simp [c20, i64] <;> omega))), trivial⟩, ⟨rfl, rfl, rfl, rfl, rfl, trivial⟩, rfl, hE19⟩
   ·
    refine k_no rfl rfl rfl rfl ?_
    refine k_no rfl rfl rfl rfl ?_
    refine k_no rfl rfl rfl rfl ?_
    refine k_pickF rfl rfl rfl rfl ?_
    exact k_met ⟨s18, ⟨(congrArg (fun b => some (Value.bool b)) (by first | exact decide_eq_decide.2 ⟨fun h => ⟨c20, h⟩, fun h => h.2⟩ | exact (decide_eq_false (fun h => c20 h.1)).symm | (simp [c20]; done) | (simp [c20, i64] <;> omega))), trivial⟩, ⟨rfl, rfl, rfl, rfl, rfl, trivial⟩, rfl, hE19⟩
  ·
   rintro s21 wL ⟨rfl, hE19⟩
   have szs21 := hE19.size
   have hS := hS.trans0 hE19
   refine k_assign rfl rfl ?_
   refine k_nil ?_
   refine k_keep [(2, _)] ⟨rfl, trivial⟩ ?_
   refine k_ret ?_
   obtain rfl := Option.some.inj h
   refine ⟨_, rfl, Ret.mk hS ?_⟩
   exact rfl

set_option maxHeartbeats 1000000 in
set_option maxRecDepth 100000 in
theorem ref05_Disk_asks_w {s : St} {k0 : Nat} {p0 : Value} {a0 : Ref05Disk} {a1 : (List UInt8)} {a2 : (List UInt8)} {r : Int} (ho0 : ORef05Disk s k0 p0 a0) (h : ref05_Disk_asks a0 a1 a2 = some r) : Calls Tryd.prog 60 #[p0, S a1, S a2] s.w (Ret s K0 (fun s1 v => v = .int .i64 r)) := by
 unfold ref05_Disk_asks at h
 have le0 := ho0.le
 have ne0 := ho0.ne
 obtain ⟨bo0, rfl⟩ := ho0.ptr
 obtain ⟨wo0_0, wo0_1, hb_o0, hwo0_0, hwo0_1⟩ := ho0.at_
 have hS := Step.r0 K0 s
 refine k_fn (rs := [6]) (args := [.pointer (some ⟨bo0, 0, none⟩), S a1, S a2]) Tryd.func60 rfl rfl rfl rfl ?_
 refine k_seq ?_
 refine k_region ?_
 refine k_assign rfl rfl ?_
 refine k_nil ?_
 refine k_seq ?_
 refine k_seq ?_
 refine k_region ?_
 refine k_move rfl rfl ?_
 refine k_nilCheck rfl rfl ?_
 refine k_field_addr fld68_1 rfl rfl ?_
 refine k_load_blk one4 rfl hb_o0 rfl rfl ?_
 refine k_nil ?_
 refine k_keep [(1, _), (2, _), (6, _), (10, _)] ⟨rfl, rfl, rfl, rfl, trivial⟩ ?_
 refine k_cond rfl (fun c1 => ?_) (fun c1 => ?_)
 ·
  have h := ibT h c1
  refine k_seq ?_
  refine k_region ?_
  refine k_assign rfl rfl ?_
  refine k_nil ?_
  refine k_keep [(1, _), (2, _), (6, _)] ⟨rfl, rfl, rfl, trivial⟩ ?_
  refine k_ret ?_
  obtain rfl := Option.some.inj h
  refine ⟨_, rfl, Ret.mk hS ?_⟩
  exact rfl
 ·
  have h := ibF h c1
  refine k_skip ?_
  refine k_seq ?_
  refine k_seq ?_
  refine k_region ?_
  refine k_move rfl rfl ?_
  obtain ⟨x1, hx1, h⟩ := ob h
  refine k_call cal70 rfl (ref05_Named_w   hx1) rfl ?_
  rintro s2 vr2 st2 rfl
  have szs2 := st2.size
  have hS := hS.trans0 st2
  refine k_not rfl rfl ?_
  refine k_move rfl rfl ?_
  obtain ⟨x2, hx2, h⟩ := ob h
  have hE3 := Step.r0 K0 s2
  refine k_cutl (X := St) 4 [(1, S a1), (2, S a2), (6, .int .i64 0), (10, .bool a0.Off), (11, S a1), (12, .bool x1), (13, .bool (!x1))] (fun _ => [(18, .bool x2)]) (fun sl wL => sl.w = wL ∧ Step K0 s2 sl) ?_ ?_
  ·
   refine k_again 14 rfl ?_
   refine k_splitb (fun c4 => ?_) (fun c4 => ?_)
   ·
    have hx2 := ibT hx2 c4
    refine k_no rfl rfl rfl rfl ?_
    refine k_no rfl rfl rfl rfl ?_
    refine k_no rfl rfl rfl rfl ?_
    refine k_pickT rfl rfl rfl rfl ?_
    exact k_met ⟨s2, ⟨(congrArg (fun b => some (Value.bool b)) (Option.some.inj hx2)), trivial⟩, ⟨rfl, rfl, rfl, rfl, rfl, rfl, rfl, trivial⟩, rfl, hE3⟩
   ·
    have hx2 := ibF hx2 c4
    refine k_yes rfl rfl ?_
    refine k_move rfl rfl ?_
    refine k_yes rfl rfl ?_
    obtain ⟨x3, hx3, hx2⟩ := ob hx2
    refine k_call cal70 rfl (ref05_Named_w   hx3) rfl ?_
    rintro s5 vr5 st5 rfl
    have szs5 := st5.size
    have hS := hS.trans0 st5
    have hE3 := hE3.trans0 st5
    refine k_yes rfl rfl ?_
    refine k_not rfl rfl ?_
    refine k_pickF rfl rfl rfl rfl ?_
    exact k_met ⟨s5, ⟨(congrArg (fun b => some (Value.bool b)) (Option.some.inj hx2)), trivial⟩, ⟨rfl, rfl, rfl, rfl, rfl, rfl, rfl, trivial⟩, rfl, hE3⟩
  ·
   rintro s6 wL ⟨rfl, hE3⟩
   have szs6 := hE3.size
   have hS := hS.trans0 hE3
   refine k_nil ?_
   refine k_keep [(6, _), (18, _)] ⟨rfl, rfl, trivial⟩ ?_
   refine k_cond rfl (fun c7 => ?_) (fun c7 => ?_)
   ·
    have h := ibT h c7
    refine k_seq ?_
    refine k_region ?_
    refine k_assign rfl rfl ?_
    refine k_nil ?_
    refine k_keep [(6, _)] ⟨rfl, trivial⟩ ?_
    refine k_ret ?_
    obtain rfl := Option.some.inj h
    refine ⟨_, rfl, Ret.mk hS ?_⟩
    exact rfl
   ·
    have h := ibF h c7
    refine k_skip ?_
    refine k_seq ?_
    refine k_region ?_
    refine k_assign rfl rfl ?_
    refine k_nil ?_
    refine k_keep [(6, _)] ⟨rfl, trivial⟩ ?_
    refine k_ret ?_
    obtain rfl := Option.some.inj h
    refine ⟨_, rfl, Ret.mk hS ?_⟩
    exact rfl

set_option maxHeartbeats 1000000 in
set_option maxRecDepth 100000 in
theorem ref05_Disk_Seen_w {s : St} {k0 : Nat} {p0 : Value} {a0 : Ref05Disk} {r : (List Ref05File)} (ho0 : ORef05Disk s k0 p0 a0) (h : ref05_Disk_Seen a0 = some r) : Calls Tryd.prog 49 #[p0] s.w (Ret s K0 (fun s1 v => ∃ (u0 : Value), v = u0 ∧ R s1 u0 (.sl 2 (r.map dRef05File)))) := by
 unfold ref05_Disk_Seen at h
 have le0 := ho0.le
 have ne0 := ho0.ne
 obtain ⟨bo0, rfl⟩ := ho0.ptr
 obtain ⟨wo0_0, wo0_1, hb_o0, hwo0_0, hwo0_1⟩ := ho0.at_
 have hS := Step.r0 K0 s
 refine k_fn (rs := [2]) (args := [.pointer (some ⟨bo0, 0, none⟩)]) Tryd.func49 rfl rfl rfl rfl ?_
 refine k_seq ?_
 refine k_region ?_
 refine k_assign rfl rfl ?_
 refine k_nil ?_
 refine k_seq ?_
 refine k_drawT (KN s.n) 12 (.read 0 (.read 1 (.read 2 (.read 3 (.read 4 (.read 5 (.read 6 (.read 7 (.read 8 (.read 9 (.read 10 (.read 11 .fin)))))))))))) mixed (by intro c h; (try simp only [KC, KO, KU, KN, KB] at h) <;> omega) rfl rfl rfl ?_
 intro s1 st1
 have szs1 := st1.size
 have hS := hS.trans0 st1
 replace hwo0_0 := hwo0_0.up2 st1
 replace hb_o0 := hb_o0.up2 st1
 refine rt_read (.pointer (some ⟨bo0, 0, none⟩)) rfl rfl (fun s2 st2 => ?_) ?_
 ·refine k_move rfl rfl ?_
  exact fq_end
 refine rt_read (.pointer (some ⟨bo0, 0, none⟩)) rfl rfl (fun s3 st3 => ?_) ?_
 ·refine k_nilCheck rfl rfl ?_
  exact fq_end
 refine rt_read (.pointer (some ⟨bo0, 2, none⟩)) rfl rfl (fun s4 st4 => ?_) ?_
 ·refine k_field_addr fld68_2 rfl rfl ?_
  exact fq_end
 refine rt_read (wo0_0) rfl rfl (fun s5 st5 => ?_) ?_
 ·try replace hb_o0 := hb_o0.up2 st5
  refine k_load_blk one64 rfl hb_o0 rfl rfl ?_
  exact fq_end
 refine rt_read (.pointer (some ⟨bo0, 0, none⟩)) rfl rfl (fun s6 st6 => ?_) ?_
 ·refine k_move rfl rfl ?_
  exact fq_end
 refine rt_read (.pointer (some ⟨bo0, 0, none⟩)) rfl rfl (fun s7 st7 => ?_) ?_
 ·refine k_nilCheck rfl rfl ?_
  exact fq_end
 refine rt_read (.pointer (some ⟨bo0, 2, none⟩)) rfl rfl (fun s8 st8 => ?_) ?_
 ·refine k_field_addr fld68_2 rfl rfl ?_
  exact fq_end
 refine rt_read (wo0_0) rfl rfl (fun s9 st9 => ?_) ?_
 ·try replace hb_o0 := hb_o0.up2 st9
  refine k_load_blk one64 rfl hb_o0 rfl rfl ?_
  exact fq_end
 refine rt_read (.int .i64 (a0.Pictures.length : Int)) rfl rfl (fun s10 st10 => ?_) ?_
 ·try replace hwo0_0 := hwo0_0.up2 st10
  refine k_len Tryd.underlying64 rfl (SL.of_R hwo0_0).hasLen rfl ?_
  refine k_as (v := .int .i64 (a0.Pictures.length : Int)) (by simp only [List.length_map]) ?_
  exact fq_end
 refine rt_read (.int .i64 (i64 ((a0.Pictures.length : Int) - 1))) rfl rfl (fun s11 st11 => ?_) ?_
 ·refine k_sub_ rfl rfl rfl ?_
  exact fq_end
 obtain ⟨x1, hx1, h⟩ := ob h
 refine rt_ix rfl (wanted_none rfl) Tryd.underlying64 size65 rfl rfl (SL.of_R hwo0_0) (geti_out hx1).1 (geti_map hx1) rfl ?_
 intro q12 hq12
 refine rt_ldsl rfl (wanted_none rfl) one65 rfl hq12 (by first | exact id | (simp only [KC, KO, KU, KN, KB] <;> omega)) rfl ?_
 intro v13 h13
 refine rt_fin ?_
 refine k_assign rfl rfl ?_
 refine k_nil ?_
 refine k_keep [(2, _)] ⟨rfl, trivial⟩ ?_
 refine k_ret ?_
 obtain rfl := Option.some.inj h
 refine ⟨_, rfl, Ret.mk hS ?_⟩
 exact ⟨_, rfl, h13⟩

set_option maxHeartbeats 1000000 in
set_option maxRecDepth 100000 in
theorem ref05_Find_w {s : St} {l0 : Lab} {v0 : Value} {a0 : (List Ref05File)} {a1 : (List UInt8)} {r : ((List UInt8) × Bool)} (hp0 : SL s l0 v0 2 (a0.map dRef05File)) (h : ref05_Find a0 a1 = some r) : Calls Tryd.prog 64 #[v0, S a1] s.w (Ret s K0 (fun s1 v => ∃ (u0 : Value), v = .tuple #[u0, .bool r.2] ∧ R s1 u0 (.sl 1 (r.1.map bD)))) := by
 unfold ref05_Find at h
 obtain ⟨lf0, lf0le, lf0ne, hp0⟩ := hp0.fix
 have hS := Step.r0 K0 s
 refine k_fn (rs := [4, 5]) (args := [v0, S a1]) Tryd.func64 rfl rfl rfl rfl ?_
 refine k_seq ?_
 refine k_region ?_
 refine k_assign rfl rfl ?_
 refine k_assign rfl rfl ?_
 refine k_nil ?_
 refine k_seq ?_
 obtain ⟨kj1, hK1, h⟩ := jn_out h
 have hE1 := Step.r0 K0 s
 refine k_cutc (X := St) [(4, .slice none 0 0), (5, .bool false)] (fun (xL : St) => match xL with | sl => []) (fun (xL : St) (wL : World) => match xL with | sl => sl.w = wL ∧ Step K0 s sl ∧ kj1 () = some r) ?_ ?_
 ·
  refine k_seq ?_
  refine k_region ?_
  refine k_assign rfl rfl ?_
  refine k_nil ?_
  refine k_block ?_
  refine k_loopc (X := St × Int × Nat) [(0, _), (1, _), (4, _), (5, _)] (fun (xL : St × Int × Nat) => match xL with | (sl, x2, j) => [(6, .int .i64 x2)]) (fun (xL : St × Int × Nat) (wL : World) => match xL with | (sl, x2, j) => sl.w = wL ∧ Step K0 s sl ∧ ref05_Find_l1 a0 a1 kj1 j x2 = some r) (fun (xL : St × Int × Nat) => match xL with | (sl, x2, j) => j) (s, 0, FU) ⟨rfl, rfl, rfl, rfl, trivial⟩ ⟨(by first | rfl | (simp <;> rfl)), trivial⟩ ⟨rfl, (Step.refl _).of0 (by first | exact fun _ h => h | (intro c h; simp [KC, KO, KU, KN, KB] at h <;> omega)), h⟩ ?_
  rintro ⟨s3, x2, j⟩ wL ⟨rfl, hE2, h⟩
  cases j with
  | zero => rw [ref05_Find_l1] at h; exact (noneNe h).elim
  | succ j =>
  rw [ref05_Find_l1] at h
  have szs3 := hE2.size
  have hS := hS.trans0 hE2
  have hE1 := hE1.trans0 hE2
  replace hp0 := hp0.up2 hE2
  refine k_seq ?_
  refine k_seq ?_
  refine k_region ?_
  refine k_move rfl rfl ?_
  refine k_move rfl rfl ?_
  refine k_len Tryd.underlying65 rfl hp0.hasLen rfl ?_
  refine k_as (v := .int .i64 (a0.length : Int)) (by simp only [List.length_map]) ?_
  refine k_lss rfl rfl rfl ?_
  refine k_nil ?_
  refine k_keep [(0, _), (1, _), (4, _), (5, _), (6, _), (10, _)] ⟨rfl, rfl, rfl, rfl, rfl, rfl, trivial⟩ ?_
  refine k_cond_dec rfl (fun c4 => ?_) (fun c4 => ?_)
  ·
   have h := itT h c4
   refine k_skip ?_
   refine k_seq ?_
   refine k_block ?_
   refine k_seq ?_
   refine k_region ?_
   refine k_move rfl rfl ?_
   refine k_move rfl rfl ?_
   obtain ⟨x3, hx3, h⟩ := ob h
   refine k_ixaddr Tryd.underlying65 size87 rfl rfl hp0 (geti_out hx3).1 (geti_map hx3) rfl ?_
   intro qx3 hqx3
   refine k_field_at (o := 0) rfl hqx3 (by rfl) fld87_0 rfl ?_
   intro q5 h5
   refine k_load_val one9 rfl h5 rfl ?_
   refine k_move rfl rfl ?_
   refine k_eql_str rfl rfl rfl ?_
   refine k_nil ?_
   refine k_keep [(0, _), (1, _), (4, _), (5, _), (6, _), (19, _)] ⟨rfl, rfl, rfl, rfl, rfl, rfl, trivial⟩ ?_
   refine k_cond_dec rfl (fun c6 => ?_) (fun c6 => ?_)
   ·
    have h := itT h c6
    refine k_seq ?_
    refine k_region ?_
    refine k_move rfl rfl ?_
    refine k_move rfl rfl ?_
    obtain ⟨x4, hx4, h⟩ := ob h
    refine k_ixaddr Tryd.underlying65 size87 rfl rfl hp0 (geti_out hx4).1 (geti_map hx4) rfl ?_
    intro qx4 hqx4
    refine k_field_at (o := 0) rfl hqx4 (by rfl) fld87_1 rfl ?_
    intro q7 h7
    refine k_load_sl one29 rfl h7 rfl ?_
    intro v8 h8
    refine k_assign rfl rfl ?_
    refine k_assign rfl rfl ?_
    refine k_nil ?_
    refine k_keep [(0, _), (1, _), (4, _), (5, _), (6, _)] ⟨rfl, rfl, rfl, rfl, rfl, trivial⟩ ?_
    refine k_ret ?_
    obtain rfl := Option.some.inj h
    refine ⟨_, rfl, Ret.mk hS ?_⟩
    exact ⟨_, rfl, h8⟩
   ·
    have h := itF h c6
    refine k_skip ?_
    refine k_blk ?_
    refine k_region ?_
    refine k_move rfl rfl ?_
    refine k_add rfl rfl rfl ?_
    refine k_assign rfl rfl ?_
    refine k_nil ?_
    exact k_stop ⟨(s3, i64 (x2 + 1), j), ⟨(by first | rfl | (simp <;> rfl)), trivial⟩, ⟨rfl, rfl, rfl, rfl, trivial⟩, ⟨rfl, hE2, h⟩, (by simp)⟩
  ·
   have h := itF h c4
   refine k_exit rfl ?_
   exact k_stop ⟨s3, trivial, ⟨rfl, rfl, trivial⟩, ⟨rfl, hE1, h⟩⟩
 ·
  rintro s9 wL ⟨rfl, hE1, h⟩
  rw [hK1] at h
  have szs9 := hE1.size
  have hS := hS.trans0 hE1
  refine k_seq ?_
  refine k_region ?_
  refine k_assign rfl rfl ?_
  refine k_assign rfl rfl ?_
  refine k_nil ?_
  refine k_ret ?_
  obtain rfl := Option.some.inj h
  refine ⟨_, rfl, Ret.mk hS ?_⟩
  exact ⟨_, rfl, (R.of_SL (.inl ⟨rfl, none, 0, rfl, fun _ => rfl⟩))⟩

set_option maxHeartbeats 1000000 in
set_option maxRecDepth 100000 in
theorem ref05_Without_w {s : St} {l0 : Lab} {v0 : Value} {a0 : (List Ref05File)} {a1 : (List UInt8)} {r : (List Ref05File)} (hp0 : SL s l0 v0 2 (a0.map dRef05File)) (h : ref05_Without a0 a1 = some r) : Calls Tryd.prog 66 #[v0, S a1] s.w (Ret s K0 (fun s1 v => ∃ (u0 : Value), v = u0 ∧ R s1 u0 (.sl 2 (r.map dRef05File)))) := by
 unfold ref05_Without at h
 obtain ⟨lf0, lf0le, lf0ne, hp0⟩ := hp0.fix
 have hS := Step.r0 K0 s
 refine k_fn (rs := [4]) (args := [v0, S a1]) Tryd.func66 rfl rfl rfl rfl ?_
 refine k_seq ?_
 refine k_region ?_
 refine k_assign rfl rfl ?_
 refine k_nil ?_
 refine k_seq ?_
 refine k_region ?_
 refine k_assign rfl rfl ?_
 refine k_nil ?_
 refine k_seq ?_
 obtain ⟨kj1, hK1, h⟩ := jn_out h
 have hE1 := Step.r0 K0 s
 refine k_cutc (X := St × (List Ref05File) × Value) [(4, .slice none 0 0)] (fun (xL : St × (List Ref05File) × Value) => match xL with | (sl, x2, v2) => [(5, v2)]) (fun (xL : St × (List Ref05File) × Value) (wL : World) => match xL with | (sl, x2, v2) => sl.w = wL ∧ Step K0 s sl ∧ (Own sl ⟨s.n + 1, 3005⟩ 87 2 v2 (x2.map dRef05File)) ∧ kj1 x2 = some r) ?_ ?_
 ·
  refine k_seq ?_
  refine k_region ?_
  refine k_assign rfl rfl ?_
  refine k_nil ?_
  refine k_block ?_
  have h3 : Own s ⟨s.n + 1, 3005⟩ 87 2 (.slice none 0 0) (([] : List Ref05File).map dRef05File) := Own.nil (by first | (simp; done) | omega | (dsimp only; omega)) (by first | (simp; done) | omega | (dsimp only; omega))
  refine k_loopc (X := St × (List Ref05File) × Value × Int × Nat) [(0, _), (1, _), (4, _)] (fun (xL : St × (List Ref05File) × Value × Int × Nat) => match xL with | (sl, x3, v5, x4, j) => [(5, v5), (6, .int .i64 x4)]) (fun (xL : St × (List Ref05File) × Value × Int × Nat) (wL : World) => match xL with | (sl, x3, v5, x4, j) => sl.w = wL ∧ Step (KC (s.n + 1) 3005) s sl ∧ (Own sl ⟨s.n + 1, 3005⟩ 87 2 v5 (x3.map dRef05File)) ∧ ref05_Without_l1 a0 a1 kj1 j x3 x4 = some r) (fun (xL : St × (List Ref05File) × Value × Int × Nat) => match xL with | (sl, x3, v5, x4, j) => j) (s, [], (.slice none 0 0), 0, FU) ⟨rfl, rfl, rfl, trivial⟩ ⟨(by first | rfl | (simp <;> rfl)), (by first | rfl | (simp <;> rfl)), trivial⟩ ⟨rfl, (Step.refl _).of0 (by first | exact fun _ h => h | (intro c h; simp [KC, KO, KU, KN, KB] at h <;> omega)), h3, h⟩ ?_
  rintro ⟨s6, x3, v5, x4, j⟩ wL ⟨rfl, hE4, h5, h⟩
  cases j with
  | zero => rw [ref05_Without_l1] at h; exact (noneNe h).elim
  | succ j =>
  rw [ref05_Without_l1] at h
  have szs6 := hE4.size
  have hS := hS.c0 hE4
  have hE1 := hE1.c0 hE4
  replace hp0 := hp0.up2 hE4
  refine k_seq ?_
  refine k_seq ?_
  refine k_region ?_
  refine k_move rfl rfl ?_
  refine k_move rfl rfl ?_
  refine k_len Tryd.underlying65 rfl hp0.hasLen rfl ?_
  refine k_as (v := .int .i64 (a0.length : Int)) (by simp only [List.length_map]) ?_
  refine k_lss rfl rfl rfl ?_
  refine k_nil ?_
  refine k_keep [(0, _), (1, _), (4, _), (5, _), (6, _), (10, _)] ⟨rfl, rfl, rfl, rfl, rfl, rfl, trivial⟩ ?_
  refine k_cond_dec rfl (fun c7 => ?_) (fun c7 => ?_)
  ·
   have h := itT h c7
   refine k_skip ?_
   refine k_seq ?_
   refine k_block ?_
   refine k_seq ?_
   refine k_region ?_
   refine k_move rfl rfl ?_
   refine k_move rfl rfl ?_
   obtain ⟨x5, hx5, h⟩ := ob h
   refine k_ixaddr Tryd.underlying65 size87 rfl rfl hp0 (geti_out hx5).1 (geti_map hx5) rfl ?_
   intro qx5 hqx5
   refine k_field_at (o := 0) rfl hqx5 (by rfl) fld87_0 rfl ?_
   intro q8 h8
   refine k_load_val one9 rfl h8 rfl ?_
   refine k_move rfl rfl ?_
   refine k_neq_str rfl rfl rfl ?_
   refine k_nil ?_
   refine k_keep [(0, _), (1, _), (4, _), (5, _), (6, _), (19, _)] ⟨rfl, rfl, rfl, rfl, rfl, rfl, trivial⟩ ?_
   refine k_cond_dec rfl (fun c9 => ?_) (fun c9 => ?_)
   ·
    have h := itT h c9
    refine k_region ?_
    refine k_move rfl rfl ?_
    refine k_move rfl rfl ?_
    refine k_move rfl rfl ?_
    obtain ⟨x6, hx6, h⟩ := ob h
    refine k_ixaddr Tryd.underlying65 size87 rfl rfl hp0 (geti_out hx6).1 (geti_map hx6) rfl ?_
    intro qx6 hqx6
    refine k_load_agg (by exact agg87) rfl hqx6 rfl ?_
    intro cs10 h10
    obtain ⟨q10_0, rfl, hq10_0⟩ := opnRef05File h10
    refine k_bslice2 (ds := ([x6] : List Ref05File).map dRef05File) slc65 rfl (RVs.cons ⟨_, rfl, (clsRef05File x6 hq10_0)⟩ RVs.nil) (by rfl) (by rfl) rfl rfl ?_
    intro s11 v11 b11 st11 ge11 bl11 h11
    have szs11 := st11.size
    have hS := hS.trans0 st11
    have hE1 := hE1.trans0 st11
    have hE4 := hE4.trans0 st11
    replace h5 := h5.up2 st11
    have lt11 := Own.le1 h11
    obtain ⟨x7, hx7, h⟩ := ob h
    refine k_append (es := ([x6] : List Ref05File).map dRef05File) elem65 rfl rfl h5 (h11.sl) (by have := (app_out hx7).1; simp only [List.length_map] at *; omega) (by have := (app_out hx7).1; simp only [List.length_map] at *; omega) rfl ?_
    intro s12 v12 st12 h12
    rw [← List.map_append, ← (app_out hx7).2] at h12
    have szs12 := st12.size
    have hS := hS.c0 st12
    have hE1 := hE1.c0 st12
    have hE4 := hE4.c0 st12
    refine k_assign rfl rfl ?_
    refine k_nil ?_
    refine k_blk ?_
    refine k_region ?_
    refine k_move rfl rfl ?_
    refine k_add rfl rfl rfl ?_
    refine k_assign rfl rfl ?_
    refine k_nil ?_
    exact k_stop ⟨(s12, x7, v12, i64 (x4 + 1), j), ⟨(by first | rfl | (simp <;> rfl)), (by first | rfl | (simp <;> rfl)), trivial⟩, ⟨rfl, rfl, rfl, trivial⟩, ⟨rfl, hE4, h12, h⟩, (by simp)⟩
   ·
    have h := itF h c9
    refine k_skip ?_
    refine k_blk ?_
    refine k_region ?_
    refine k_move rfl rfl ?_
    refine k_add rfl rfl rfl ?_
    refine k_assign rfl rfl ?_
    refine k_nil ?_
    exact k_stop ⟨(s6, x3, v5, i64 (x4 + 1), j), ⟨(by first | rfl | (simp <;> rfl)), (by first | rfl | (simp <;> rfl)), trivial⟩, ⟨rfl, rfl, rfl, trivial⟩, ⟨rfl, hE4, h5, h⟩, (by simp)⟩
  ·
   have h := itF h c7
   refine k_exit rfl ?_
   exact k_stop ⟨(s6, x3, v5), ⟨(by first | rfl | (simp <;> rfl)), trivial⟩, ⟨rfl, trivial⟩, ⟨rfl, hE1, h5, h⟩⟩
 ·
  rintro ⟨s13, x2, v2⟩ wL ⟨rfl, hE1, h2, h⟩
  rw [hK1] at h
  have szs13 := hE1.size
  have hS := hS.trans0 hE1
  refine k_seq ?_
  refine k_region ?_
  refine k_move rfl rfl ?_
  refine k_assign rfl rfl ?_
  refine k_nil ?_
  refine k_keep [(4, _)] ⟨rfl, trivial⟩ ?_
  refine k_ret ?_
  obtain ⟨s14, e14, st14, h14⟩ := h2.freeze
  rw [← e14]
  have szs14 := st14.size
  have hS := hS.c0 st14
  obtain rfl := Option.some.inj h
  refine ⟨_, rfl, Ret.mk hS ?_⟩
  exact ⟨_, rfl, h14⟩

set_option maxHeartbeats 1000000 in
set_option maxRecDepth 100000 in
theorem ref05_With_w {s : St} {l0 : Lab} {v0 : Value} {a0 : (List Ref05File)} {a1 : (List UInt8)} {l2 : Lab} {v2 : Value} {a2 : (List UInt8)} {r : (List Ref05File)} (hp0 : SL s l0 v0 2 (a0.map dRef05File)) (hp2 : SL s l2 v2 1 (a2.map bD)) (h : ref05_With a0 a1 a2 = some r) : Calls Tryd.prog 63 #[v0, S a1, v2] s.w (Ret s K0 (fun s1 v => ∃ (u0 : Value), v = u0 ∧ R s1 u0 (.sl 2 (r.map dRef05File)))) := by
 unfold ref05_With at h
 obtain ⟨lf0, lf0le, lf0ne, hp0⟩ := hp0.fix
 obtain ⟨lf2, lf2le, lf2ne, hp2⟩ := hp2.fix
 have hS := Step.r0 K0 s
 refine k_fn (rs := [6]) (args := [v0, S a1, v2]) Tryd.func63 rfl rfl rfl rfl ?_
 refine k_seq ?_
 refine k_region ?_
 refine k_assign rfl rfl ?_
 refine k_nil ?_
 refine k_seq ?_
 refine k_region ?_
 refine k_assign rfl rfl ?_
 refine k_nil ?_
 refine k_seq ?_
 refine k_region ?_
 refine k_assign rfl rfl ?_
 refine k_nil ?_
 refine k_seq ?_
 refine k_region ?_
 refine k_move rfl rfl ?_
 refine k_move rfl rfl ?_
 obtain ⟨x1, hx1, h⟩ := ob h
 refine k_call cal66 rfl (ref05_Without_w  hp0 hx1) rfl ?_
 rintro s1 v1_0 st1 ⟨_, rfl, h1_0⟩
 have szs1 := st1.size
 have hS := hS.trans0 st1
 replace hp2 := hp2.up2 st1
 refine k_assign rfl rfl ?_
 refine k_nil ?_
 refine k_keep [(1, _), (2, _), (6, _), (7, _), (8, _), (9, _)] ⟨rfl, rfl, rfl, rfl, rfl, rfl, trivial⟩ ?_
 refine k_seq ?_
 obtain ⟨kj2, hK2, h⟩ := jn_out h
 have hE2 := Step.r0 K0 s1
 refine k_cutc (X := St × (List Ref05File) × Value × Bool) [(1, S a1), (2, v2), (6, .slice none 0 0)] (fun (xL : St × (List Ref05File) × Value × Bool) => match xL with | (sl, x3, v3, x4) => [(7, v3), (8, .bool x4)]) (fun (xL : St × (List Ref05File) × Value × Bool) (wL : World) => match xL with | (sl, x3, v3, x4) => sl.w = wL ∧ Step K0 s1 sl ∧ (Own sl ⟨s1.n + 1, 3007⟩ 87 2 v3 (x3.map dRef05File)) ∧ kj2 x3 x4 = some r) ?_ ?_
 ·
  refine k_seq ?_
  refine k_region ?_
  refine k_assign rfl rfl ?_
  refine k_nil ?_
  refine k_block ?_
  have h4 : Own s1 ⟨s1.n + 1, 3007⟩ 87 2 (.slice none 0 0) (([] : List Ref05File).map dRef05File) := Own.nil (by first | (simp; done) | omega | (dsimp only; omega)) (by first | (simp; done) | omega | (dsimp only; omega))
  refine k_loopc (X := St × (List Ref05File) × Value × Bool × Int × Nat) [(1, _), (2, _), (6, _), (9, _)] (fun (xL : St × (List Ref05File) × Value × Bool × Int × Nat) => match xL with | (sl, x5, v6, x6, x7, j) => [(7, v6), (8, .bool x6), (10, .int .i64 x7)]) (fun (xL : St × (List Ref05File) × Value × Bool × Int × Nat) (wL : World) => match xL with | (sl, x5, v6, x6, x7, j) => sl.w = wL ∧ Step (KC (s1.n + 1) 3007) s1 sl ∧ (Own sl ⟨s1.n + 1, 3007⟩ 87 2 v6 (x5.map dRef05File)) ∧ ref05_With_l1 x1 a1 a2 kj2 j x5 x6 x7 = some r) (fun (xL : St × (List Ref05File) × Value × Bool × Int × Nat) => match xL with | (sl, x5, v6, x6, x7, j) => j) (s1, [], (.slice none 0 0), false, 0, FU) ⟨rfl, rfl, rfl, rfl, trivial⟩ ⟨(by first | rfl | (simp <;> rfl)), (by first | rfl | (simp <;> rfl)), (by first | rfl | (simp <;> rfl)), trivial⟩ ⟨rfl, (Step.refl _).of0 (by first | exact fun _ h => h | (intro c h; simp [KC, KO, KU, KN, KB] at h <;> omega)), h4, h⟩ ?_
  rintro ⟨s7, x5, v6, x6, x7, j⟩ wL ⟨rfl, hE5, h6, h⟩
  cases j with
  | zero => rw [ref05_With_l1] at h; exact (noneNe h).elim
  | succ j =>
  rw [ref05_With_l1] at h
  have szs7 := hE5.size
  have hS := hS.c0 hE5
  have hE2 := hE2.c0 hE5
  replace hp2 := hp2.up2 hE5
  replace h1_0 := h1_0.up2 hE5
  refine k_seq ?_
  refine k_seq ?_
  refine k_region ?_
  refine k_move rfl rfl ?_
  refine k_move rfl rfl ?_
  refine k_len Tryd.underlying65 rfl (SL.of_R h1_0).hasLen rfl ?_
  refine k_as (v := .int .i64 (x1.length : Int)) (by simp only [List.length_map]) ?_
  refine k_lss rfl rfl rfl ?_
  refine k_nil ?_
  refine k_keep [(1, _), (2, _), (6, _), (7, _), (8, _), (9, _), (10, _), (17, _)] ⟨rfl, rfl, rfl, rfl, rfl, rfl, rfl, rfl, trivial⟩ ?_
  refine k_cond_dec rfl (fun c8 => ?_) (fun c8 => ?_)
  ·
   have h := itT h c8
   refine k_skip ?_
   refine k_seq ?_
   refine k_block ?_
   refine k_seq ?_
   refine k_keep [(1, _), (2, _), (6, _), (7, _), (8, _), (9, _), (10, _)] ⟨rfl, rfl, rfl, rfl, rfl, rfl, rfl, trivial⟩ ?_
   obtain ⟨kj8, hK9, h⟩ := jn_out h
   have hE9 := Step.r0 (KC (s1.n + 1) 3007) s7
   refine k_cutc (X := St × (List Ref05File) × Value × Bool) [(1, S a1), (2, v2), (6, .slice none 0 0), (9, v1_0), (10, .int .i64 x7)] (fun (xL : St × (List Ref05File) × Value × Bool) => match xL with | (sl, x9, v10, x10) => [(7, v10), (8, .bool x10)]) (fun (xL : St × (List Ref05File) × Value × Bool) (wL : World) => match xL with | (sl, x9, v10, x10) => sl.w = wL ∧ Step (KC (s1.n + 1) 3007) s7 sl ∧ (Own sl ⟨s1.n + 1, 3007⟩ 87 2 v10 (x9.map dRef05File)) ∧ kj8 x9 x10 = some r) ?_ ?_
   ·
    refine k_seq ?_
    refine k_region ?_
    refine k_move rfl rfl ?_
    refine k_not rfl rfl ?_
    refine k_move rfl rfl ?_
    obtain ⟨x11, hx11, h⟩ := ob h
    have hE11 := Step.r0 K0 s7
    refine k_cutl (X := St) 8 [(1, S a1), (2, v2), (6, .slice none 0 0), (7, v6), (8, .bool x6), (9, v1_0), (10, .int .i64 x7), (20, .bool x6), (21, .bool (!x6))] (fun _ => [(30, .bool x11)]) (fun sl wL => sl.w = wL ∧ Step K0 s7 sl) ?_ ?_
    ·
     refine k_again 22 rfl ?_
     refine k_splitb (fun c12 => ?_) (fun c12 => ?_)
     ·
      have hx11 := ibT hx11 c12
      refine k_yes rfl rfl ?_
      refine k_move rfl rfl ?_
      refine k_yes rfl rfl ?_
      refine k_move rfl rfl ?_
      refine k_yes rfl rfl ?_
      refine k_move rfl rfl ?_
      refine k_yes rfl rfl ?_
      obtain ⟨x12, hx12, hx11⟩ := ob hx11
      refine k_ixaddr Tryd.underlying65 size87 rfl rfl (SL.of_R h1_0) (geti_out hx12).1 (geti_map hx12) rfl ?_
      intro qx12 hqx12
      refine k_yes rfl rfl ?_
      refine k_field_at (o := 0) rfl hqx12 (by rfl) fld87_0 rfl ?_
      intro q13 h13
      refine k_yes rfl rfl ?_
      refine k_load_val one9 rfl h13 rfl ?_
      refine k_yes rfl rfl ?_
      refine k_lss_str rfl rfl rfl ?_
      refine k_pickT rfl rfl rfl rfl ?_
      exact k_met ⟨s7, ⟨(congrArg (fun b => some (Value.bool b)) (Option.some.inj hx11)), trivial⟩, ⟨rfl, rfl, rfl, rfl, rfl, rfl, rfl, rfl, rfl, trivial⟩, rfl, hE11⟩
     ·
      have hx11 := ibF hx11 c12
      refine k_no rfl rfl rfl rfl ?_
      refine k_no rfl rfl rfl rfl ?_
      refine k_no rfl rfl rfl rfl ?_
      refine k_no rfl rfl rfl rfl ?_
      refine k_no rfl rfl rfl rfl ?_
      refine k_no rfl rfl rfl rfl ?_
      refine k_no rfl rfl rfl rfl ?_
      refine k_pickF rfl rfl rfl rfl ?_
      exact k_met ⟨s7, ⟨(congrArg (fun b => some (Value.bool b)) (Option.some.inj hx11)), trivial⟩, ⟨rfl, rfl, rfl, rfl, rfl, rfl, rfl, rfl, rfl, trivial⟩, rfl, hE11⟩
    ·
     rintro s14 wL ⟨rfl, hE11⟩
     have szs14 := hE11.size
     have hS := hS.trans0 hE11
     have hE2 := hE2.trans0 hE11
     have hE5 := hE5.trans0 hE11
     have hE9 := hE9.trans0 hE11
     replace hp2 := hp2.up2 hE11
     replace h6 := h6.up2 hE11
     refine k_nil ?_
     refine k_keep [(1, _), (2, _), (6, _), (7, _), (8, _), (9, _), (10, _), (30, _)] ⟨rfl, rfl, rfl, rfl, rfl, rfl, rfl, rfl, trivial⟩ ?_
     refine k_cond rfl (fun c15 => ?_) (fun c15 => ?_)
     ·
      have h := ibT h c15
      refine k_seq ?_
      refine k_region ?_
      refine k_move rfl rfl ?_
      refine k_move rfl rfl ?_
      refine k_bslice2 (ds := ([] : List UInt8).map bD) slc29 rfl RVs.nil (by rfl) (by rfl) rfl rfl ?_
      intro s16 v16 b16 st16 ge16 bl16 h16
      have szs16 := st16.size
      have hS := hS.trans0 st16
      have hE2 := hE2.trans0 st16
      have hE5 := hE5.trans0 st16
      have hE9 := hE9.trans0 st16
      replace hp2 := hp2.up2 st16
      replace h6 := h6.up2 st16
      have lt16 := Own.le1 h16
      refine k_move rfl rfl ?_
      obtain ⟨x13, hx13, h⟩ := ob h
      refine k_append (es := a2.map bD) elem29 rfl rfl h16 hp2 (by have := (app_out hx13).1; simp only [List.length_map] at *; omega) (by have := (app_out hx13).1; simp only [List.length_map] at *; omega) rfl ?_
      intro s17 v17 st17 h17
      rw [← List.map_append, ← (app_out hx13).2] at h17
      have szs17 := st17.size
      have hS := hS.c0 st17
      have hE2 := hE2.c0 st17
      have hE5 := hE5.c0 st17
      have hE9 := hE9.c0 st17
      replace h6 := h6.up2 st17
      refine k_build plc87 zero87 rfl (Parts.cons (CellsOf.lit rfl rfl).1 (Parts.cons (CellsOf.sl (h17.sl)).1 Parts.nil)) (by rfl) rfl ?_
      refine k_as (v := .agg #[S a1, v17]) rfl ?_
      obtain ⟨s18, e18, st18, h18⟩ := h17.freeze
      rw [← e18]
      have szs18 := st18.size
      have hS := hS.c0 st18
      have hE2 := hE2.c0 st18
      have hE5 := hE5.c0 st18
      have hE9 := hE9.c0 st18
      replace h6 := h6.up2 st18
      refine k_bslice2 (ds := ([(⟨a1, x13⟩ : Ref05File)] : List Ref05File).map dRef05File) slc65 rfl (RVs.cons ⟨_, rfl, (clsRef05File (⟨a1, x13⟩ : Ref05File) h18)⟩ RVs.nil) (by rfl) (by rfl) rfl rfl ?_
      intro s19 v19 b19 st19 ge19 bl19 h19
      have szs19 := st19.size
      have hS := hS.trans0 st19
      have hE2 := hE2.trans0 st19
      have hE5 := hE5.trans0 st19
      have hE9 := hE9.trans0 st19
      replace h6 := h6.up2 st19
      have lt19 := Own.le1 h19
      obtain ⟨x14, hx14, h⟩ := ob h
      refine k_append (es := ([(⟨a1, x13⟩ : Ref05File)] : List Ref05File).map dRef05File) elem65 rfl rfl h6 (h19.sl) (by have := (app_out hx14).1; simp only [List.length_map] at *; omega) (by have := (app_out hx14).1; simp only [List.length_map] at *; omega) rfl ?_
      intro s20 v20 st20 h20
      rw [← List.map_append, ← (app_out hx14).2] at h20
      have szs20 := st20.size
      have hS := hS.c0 st20
      have hE2 := hE2.c0 st20
      have hE5 := hE5.c0 st20
      have hE9 := hE9.c0 st20
      refine k_assign rfl rfl ?_
      refine k_nil ?_
      refine k_keep [(1, _), (2, _), (6, _), (7, _), (8, _), (9, _), (10, _)] ⟨rfl, rfl, rfl, rfl, rfl, rfl, rfl, trivial⟩ ?_
      refine k_region ?_
      refine k_assign rfl rfl ?_
      refine k_nil ?_
      exact k_stop ⟨(s20, x14, v20, true), ⟨(by first | rfl | (simp <;> rfl)), (by first | rfl | (simp <;> rfl)), trivial⟩, ⟨rfl, rfl, rfl, rfl, rfl, trivial⟩, ⟨rfl, hE9, h20, h⟩⟩
     ·
      have h := ibF h c15
      refine k_skip ?_
      exact k_stop ⟨(s14, x5, v6, x6), ⟨(by first | rfl | (simp <;> rfl)), (by first | rfl | (simp <;> rfl)), trivial⟩, ⟨rfl, rfl, rfl, rfl, rfl, trivial⟩, ⟨rfl, hE9, h6, h⟩⟩
   ·
    rintro ⟨s21, x9, v10, x10⟩ wL ⟨rfl, hE9, h10, h⟩
    rw [hK9] at h
    have szs21 := hE9.size
    have hS := hS.c0 hE9
    have hE2 := hE2.c0 hE9
    have hE5 := hE5.c0 hE9
    replace h1_0 := h1_0.up2 hE9
    refine k_region ?_
    refine k_move rfl rfl ?_
    refine k_move rfl rfl ?_
    refine k_move rfl rfl ?_
    obtain ⟨x15, hx15, h⟩ := ob h
    refine k_ixaddr Tryd.underlying65 size87 rfl rfl (SL.of_R h1_0) (geti_out hx15).1 (geti_map hx15) rfl ?_
    intro qx15 hqx15
    refine k_load_agg (by exact agg87) rfl hqx15 rfl ?_
    intro cs22 h22
    obtain ⟨q22_0, rfl, hq22_0⟩ := opnRef05File h22
    refine k_bslice2 (ds := ([x15] : List Ref05File).map dRef05File) slc65 rfl (RVs.cons ⟨_, rfl, (clsRef05File x15 hq22_0)⟩ RVs.nil) (by rfl) (by rfl) rfl rfl ?_
    intro s23 v23 b23 st23 ge23 bl23 h23
    have szs23 := st23.size
    have hS := hS.trans0 st23
    have hE2 := hE2.trans0 st23
    have hE5 := hE5.trans0 st23
    replace h10 := h10.up2 st23
    have lt23 := Own.le1 h23
    obtain ⟨x16, hx16, h⟩ := ob h
    refine k_append (es := ([x15] : List Ref05File).map dRef05File) elem65 rfl rfl h10 (h23.sl) (by have := (app_out hx16).1; simp only [List.length_map] at *; omega) (by have := (app_out hx16).1; simp only [List.length_map] at *; omega) rfl ?_
    intro s24 v24 st24 h24
    rw [← List.map_append, ← (app_out hx16).2] at h24
    have szs24 := st24.size
    have hS := hS.c0 st24
    have hE2 := hE2.c0 st24
    have hE5 := hE5.c0 st24
    refine k_assign rfl rfl ?_
    refine k_nil ?_
    refine k_blk ?_
    refine k_region ?_
    refine k_move rfl rfl ?_
    refine k_add rfl rfl rfl ?_
    refine k_assign rfl rfl ?_
    refine k_nil ?_
    exact k_stop ⟨(s24, x16, v24, x10, i64 (x7 + 1), j), ⟨(by first | rfl | (simp <;> rfl)), (by first | rfl | (simp <;> rfl)), (by first | rfl | (simp <;> rfl)), trivial⟩, ⟨rfl, rfl, rfl, rfl, trivial⟩, ⟨rfl, hE5, h24, h⟩, (by simp)⟩
  ·
   have h := itF h c8
   refine k_exit rfl ?_
   exact k_stop ⟨(s7, x5, v6, x6), ⟨(by first | rfl | (simp <;> rfl)), (by first | rfl | (simp <;> rfl)), trivial⟩, ⟨rfl, rfl, rfl, trivial⟩, ⟨rfl, hE2, h6, h⟩⟩
 ·
  rintro ⟨s25, x3, v3, x4⟩ wL ⟨rfl, hE2, h3, h⟩
  rw [hK2] at h
  have szs25 := hE2.size
  have hS := hS.trans0 hE2
  replace hp2 := hp2.up2 hE2
  refine k_seq ?_
  refine k_seq ?_
  refine k_region ?_
  refine k_move rfl rfl ?_
  refine k_not rfl rfl ?_
  refine k_nil ?_
  refine k_keep [(1, _), (2, _), (6, _), (7, _), (47, _)] ⟨rfl, rfl, rfl, rfl, rfl, trivial⟩ ?_
  refine k_cond rfl (fun c26 => ?_) (fun c26 => ?_)
  ·
   have h := ibT h c26
   refine k_region ?_
   refine k_move rfl rfl ?_
   refine k_move rfl rfl ?_
   refine k_bslice2 (ds := ([] : List UInt8).map bD) slc29 rfl RVs.nil (by rfl) (by rfl) rfl rfl ?_
   intro s27 v27 b27 st27 ge27 bl27 h27
   have szs27 := st27.size
   have hS := hS.trans0 st27
   replace hp2 := hp2.up2 st27
   replace h3 := h3.up2 st27
   have lt27 := Own.le1 h27
   refine k_move rfl rfl ?_
   obtain ⟨x17, hx17, h⟩ := ob h
   refine k_append (es := a2.map bD) elem29 rfl rfl h27 hp2 (by have := (app_out hx17).1; simp only [List.length_map] at *; omega) (by have := (app_out hx17).1; simp only [List.length_map] at *; omega) rfl ?_
   intro s28 v28 st28 h28
   rw [← List.map_append, ← (app_out hx17).2] at h28
   have szs28 := st28.size
   have hS := hS.c0 st28
   replace h3 := h3.up2 st28
   refine k_build plc87 zero87 rfl (Parts.cons (CellsOf.lit rfl rfl).1 (Parts.cons (CellsOf.sl (h28.sl)).1 Parts.nil)) (by rfl) rfl ?_
   refine k_as (v := .agg #[S a1, v28]) rfl ?_
   obtain ⟨s29, e29, st29, h29⟩ := h28.freeze
   rw [← e29]
   have szs29 := st29.size
   have hS := hS.c0 st29
   replace h3 := h3.up2 st29
   refine k_bslice2 (ds := ([(⟨a1, x17⟩ : Ref05File)] : List Ref05File).map dRef05File) slc65 rfl (RVs.cons ⟨_, rfl, (clsRef05File (⟨a1, x17⟩ : Ref05File) h29)⟩ RVs.nil) (by rfl) (by rfl) rfl rfl ?_
   intro s30 v30 b30 st30 ge30 bl30 h30
   have szs30 := st30.size
   have hS := hS.trans0 st30
   replace h3 := h3.up2 st30
   have lt30 := Own.le1 h30
   obtain ⟨x18, hx18, h⟩ := ob h
   refine k_append (es := ([(⟨a1, x17⟩ : Ref05File)] : List Ref05File).map dRef05File) elem65 rfl rfl h3 (h30.sl) (by have := (app_out hx18).1; simp only [List.length_map] at *; omega) (by have := (app_out hx18).1; simp only [List.length_map] at *; omega) rfl ?_
   intro s31 v31 st31 h31
   rw [← List.map_append, ← (app_out hx18).2] at h31
   have szs31 := st31.size
   have hS := hS.c0 st31
   refine k_assign rfl rfl ?_
   refine k_nil ?_
   refine k_keep [(6, _), (7, _)] ⟨rfl, rfl, trivial⟩ ?_
   refine k_seq ?_
   refine k_region ?_
   refine k_move rfl rfl ?_
   refine k_assign rfl rfl ?_
   refine k_nil ?_
   refine k_keep [(6, _)] ⟨rfl, trivial⟩ ?_
   refine k_ret ?_
   obtain ⟨s32, e32, st32, h32⟩ := h31.freeze
   rw [← e32]
   have szs32 := st32.size
   have hS := hS.c0 st32
   obtain rfl := Option.some.inj h
   refine ⟨_, rfl, Ret.mk hS ?_⟩
   exact ⟨_, rfl, h32⟩
  ·
   have h := ibF h c26
   refine k_skip ?_
   refine k_seq ?_
   refine k_region ?_
   refine k_move rfl rfl ?_
   refine k_assign rfl rfl ?_
   refine k_nil ?_
   refine k_keep [(6, _)] ⟨rfl, trivial⟩ ?_
   refine k_ret ?_
   obtain ⟨s33, e33, st33, h33⟩ := h3.freeze
   rw [← e33]
   have szs33 := st33.size
   have hS := hS.c0 st33
   obtain rfl := Option.some.inj h
   refine ⟨_, rfl, Ret.mk hS ?_⟩
   exact ⟨_, rfl, h33⟩

set_option maxHeartbeats 1000000 in
set_option maxRecDepth 100000 in
theorem ref05_Added_w {s : St} {l0 : Lab} {v0 : Value} {a0 : (List Ref05File)} {a1 : (List UInt8)} {l2 : Lab} {v2 : Value} {a2 : (List UInt8)} {r : (List Ref05File)} (hp0 : SL s l0 v0 2 (a0.map dRef05File)) (hp2 : SL s l2 v2 1 (a2.map bD)) (h : ref05_Added a0 a1 a2 = some r) : Calls Tryd.prog 62 #[v0, S a1, v2] s.w (Ret s K0 (fun s1 v => ∃ (u0 : Value), v = u0 ∧ R s1 u0 (.sl 2 (r.map dRef05File)))) := by
 unfold ref05_Added at h
 obtain ⟨lf0, lf0le, lf0ne, hp0⟩ := hp0.fix
 obtain ⟨lf2, lf2le, lf2ne, hp2⟩ := hp2.fix
 have hS := Step.r0 K0 s
 refine k_fn (rs := [6]) (args := [v0, S a1, v2]) Tryd.func62 rfl rfl rfl rfl ?_
 refine k_seq ?_
 refine k_region ?_
 refine k_assign rfl rfl ?_
 refine k_nil ?_
 refine k_seq ?_
 refine k_region ?_
 refine k_move rfl rfl ?_
 refine k_move rfl rfl ?_
 obtain ⟨x1, hx1, h⟩ := ob h
 refine k_call cal64 rfl (ref05_Find_w  hp0 hx1) rfl ?_
 rintro s1 vr1 st1 ⟨v1_0, rfl, h1_0⟩
 have szs1 := st1.size
 have hS := hS.trans0 st1
 replace hp0 := hp0.up2 st1
 replace hp2 := hp2.up2 st1
 refine k_move rfl rfl ?_
 refine k_extract rfl rfl rfl ?_
 refine k_extract rfl rfl rfl ?_
 refine k_assign rfl rfl ?_
 refine k_assign rfl rfl ?_
 refine k_nil ?_
 refine k_keep [(0, _), (1, _), (2, _), (6, _), (7, _)] ⟨rfl, rfl, rfl, rfl, rfl, trivial⟩ ?_
 refine k_seq ?_
 refine k_region ?_
 refine k_move rfl rfl ?_
 refine k_move rfl rfl ?_
 refine k_bslice2 (ds := ([] : List UInt8).map bD) slc29 rfl RVs.nil (by rfl) (by rfl) rfl rfl ?_
 intro s2 v2 b2 st2 ge2 bl2 h2
 have szs2 := st2.size
 have hS := hS.trans0 st2
 replace hp0 := hp0.up2 st2
 replace hp2 := hp2.up2 st2
 replace h1_0 := h1_0.up2 st2
 have lt2 := Own.le1 h2
 refine k_move rfl rfl ?_
 obtain ⟨x2, hx2, h⟩ := ob h
 refine k_append (es := x1.1.map bD) elem29 rfl rfl h2 (SL.of_R h1_0) (by have := (app_out hx2).1; simp only [List.length_map] at *; omega) (by have := (app_out hx2).1; simp only [List.length_map] at *; omega) rfl ?_
 intro s3 v3 st3 h3
 rw [← List.map_append, ← (app_out hx2).2] at h3
 have szs3 := st3.size
 have hS := hS.c0 st3
 replace hp0 := hp0.up2 st3
 replace hp2 := hp2.up2 st3
 refine k_move rfl rfl ?_
 obtain ⟨x3, hx3, h⟩ := ob h
 refine k_append (es := a2.map bD) elem29 rfl rfl h3 hp2 (by have := (app_out hx3).1; simp only [List.length_map] at *; omega) (by have := (app_out hx3).1; simp only [List.length_map] at *; omega) rfl ?_
 intro s4 v4 st4 h4
 rw [← List.map_append, ← (app_out hx3).2] at h4
 have szs4 := st4.size
 have hS := hS.c0 st4
 replace hp0 := hp0.up2 st4
 obtain ⟨x4, hx4, h⟩ := ob h
 refine k_call cal63 rfl (ref05_With_w  hp0 (h4.sl) hx4) rfl ?_
 rintro s5 v5_0 st5 ⟨_, rfl, h5_0⟩
 have szs5 := st5.size
 have hS := hS.trans0 st5
 refine k_assign rfl rfl ?_
 refine k_nil ?_
 refine k_keep [(6, _)] ⟨rfl, trivial⟩ ?_
 refine k_ret ?_
 obtain rfl := Option.some.inj h
 refine ⟨_, rfl, Ret.mk hS ?_⟩
 exact ⟨_, rfl, h5_0⟩

set_option maxHeartbeats 1000000 in
set_option maxRecDepth 100000 in
theorem ref05_Disk_Crash_w {s : St} {k0 : Nat} {p0 : Value} {a0 : Ref05Disk} {a1 : Int} {a2 : Int} {r : (Int × Ref05Disk)} (ho0 : ORef05Disk s k0 p0 a0) (h : ref05_Disk_Crash a0 a1 a2 = some r) : Calls Tryd.prog 45 #[p0, .int .i64 a1, .int .i64 a2] s.w (Ret s (KO k0) (fun s1 v => v = .int .i64 r.1 ∧ ORef05Disk s1 k0 p0 r.2)) := by
 unfold ref05_Disk_Crash at h
 have le0 := ho0.le
 have ne0 := ho0.ne
 obtain ⟨bo0, rfl⟩ := ho0.ptr
 obtain ⟨wo0_0, wo0_1, hb_o0, hwo0_0, hwo0_1⟩ := ho0.at_
 have hS := Step.r0 (KO k0) s
 refine k_fn (rs := [6]) (args := [.pointer (some ⟨bo0, 0, none⟩), .int .i64 a1, .int .i64 a2]) Tryd.func45 rfl rfl rfl rfl ?_
 refine k_seq ?_
 refine k_region ?_
 refine k_assign rfl rfl ?_
 refine k_nil ?_
 refine k_seq ?_
 refine k_seq ?_
 refine k_region ?_
 refine k_move rfl rfl ?_
 refine k_nilCheck rfl rfl ?_
 refine k_field_addr fld68_1 rfl rfl ?_
 refine k_load_blk one4 rfl hb_o0 rfl rfl ?_
 refine k_nil ?_
 refine k_keep [(0, _), (1, _), (2, _), (6, _), (12, _)] ⟨rfl, rfl, rfl, rfl, rfl, trivial⟩ ?_
 refine k_cond rfl (fun c1 => ?_) (fun c1 => ?_)
 ·
  have h := ibT h c1
  refine k_seq ?_
  refine k_region ?_
  refine k_assign rfl rfl ?_
  refine k_nil ?_
  refine k_keep [(0, _), (1, _), (2, _), (6, _)] ⟨rfl, rfl, rfl, rfl, trivial⟩ ?_
  refine k_ret ?_
  obtain rfl := Option.some.inj h
  refine ⟨_, rfl, Ret.mk hS ?_⟩
  exact ⟨rfl, (ORef05Disk.mk_ a0 (by omega) hwo0_0 hwo0_1 hb_o0)⟩
 ·
  have h := ibF h c1
  refine k_skip ?_
  refine k_seq ?_
  refine k_region ?_
  refine k_assign rfl rfl ?_
  refine k_nil ?_
  refine k_keep [(0, _), (1, _), (2, _), (6, _), (7, _)] ⟨rfl, rfl, rfl, rfl, rfl, trivial⟩ ?_
  refine k_seq ?_
  obtain ⟨kj1, hK2, h⟩ := jn_out h
  have hE2 := Step.r0 K0 s
  refine k_cutc (X := St × Int) [(0, .pointer (some ⟨bo0, 0, none⟩)), (2, .int .i64 a2), (6, .int .i64 0)] (fun (xL : St × Int) => match xL with | (sl, x2) => [(7, .int .i64 x2)]) (fun (xL : St × Int) (wL : World) => match xL with | (sl, x2) => sl.w = wL ∧ Step K0 s sl ∧ kj1 x2 = some r) ?_ ?_
  ·
   refine k_block ?_
   refine k_loopc (X := St × Int × Nat) [(0, _), (1, _), (2, _), (6, _)] (fun (xL : St × Int × Nat) => match xL with | (sl, x3, j) => [(7, .int .i64 x3)]) (fun (xL : St × Int × Nat) (wL : World) => match xL with | (sl, x3, j) => sl.w = wL ∧ Step K0 s sl ∧ ref05_Disk_Crash_l1 a1 a0 kj1 j x3 = some r) (fun (xL : St × Int × Nat) => match xL with | (sl, x3, j) => j) (s, 0, FU) ⟨rfl, rfl, rfl, rfl, trivial⟩ ⟨(by first | rfl | (simp <;> rfl)), trivial⟩ ⟨rfl, (Step.refl _).of0 (by first | exact fun _ h => h | (intro c h; simp [KC, KO, KU, KN, KB] at h <;> omega)), h⟩ ?_
   rintro ⟨s4, x3, j⟩ wL ⟨rfl, hE3, h⟩
   cases j with
   | zero => rw [ref05_Disk_Crash_l1] at h; exact (noneNe h).elim
   | succ j =>
   rw [ref05_Disk_Crash_l1] at h
   have szs4 := hE3.size
   have hS := hS.trans0 hE3
   have hE2 := hE2.trans0 hE3
   replace hwo0_1 := hwo0_1.up2 hE3
   replace hb_o0 := hb_o0.up2 hE3
   refine k_seq ?_
   refine k_seq ?_
   refine k_region ?_
   refine k_move rfl rfl ?_
   refine k_move rfl rfl ?_
   refine k_lss rfl rfl rfl ?_
   refine k_move rfl rfl ?_
   have hE5 := Step.r0 K0 s4
   refine k_cutl (X := St) 8 [(0, .pointer (some ⟨bo0, 0, none⟩)), (1, .int .i64 a1), (2, .int .i64 a2), (6, .int .i64 0), (7, .int .i64 x3), (13, .int .i64 x3), (14, .int .i64 a1), (15, .bool (decide (x3 < a1)))] (fun _ => [(24, .bool (decide ((x3 < a1) ∧ (x3 < (a0.Made.length : Int)))))]) (fun sl wL => sl.w = wL ∧ Step K0 s4 sl) ?_ ?_
   ·
    refine k_again 16 rfl ?_
    refine k_split (fun c6 => ?_) (fun c6 => ?_)
    ·
     refine k_yes rfl rfl ?_
     refine k_move rfl rfl ?_
     refine k_yes rfl rfl ?_
     refine k_move rfl rfl ?_
     refine k_yes rfl rfl ?_
     refine k_nilCheck rfl rfl ?_
     refine k_yes rfl rfl ?_
     refine k_field_addr fld68_3 rfl rfl ?_
     refine k_yes rfl rfl ?_
     refine k_load_blk one65 rfl hb_o0 rfl rfl ?_
     refine k_yes rfl rfl ?_
     refine k_len Tryd.underlying65 rfl (SL.of_R hwo0_1).hasLen rfl ?_
     refine k_as (v := .int .i64 (a0.Made.length : Int)) (by simp only [List.length_map]) ?_
     refine k_yes rfl rfl ?_
     refine k_lss rfl rfl rfl ?_
     refine k_pickT rfl rfl rfl rfl ?_
     exact k_met ⟨s4, ⟨(congrArg (fun b => some (Value.bool b)) (by first | exact decide_eq_decide.2 ⟨fun h => ⟨c6, h⟩, fun h => h.2⟩ | exact (decide_eq_false (fun h => c6 h.1)).symm | (simp [c6]; done) | (simp [c6, i64] <;> omega))), trivial⟩, ⟨rfl, rfl, rfl, rfl, rfl, rfl, rfl, rfl, trivial⟩, rfl, hE5⟩
    ·
     refine k_no rfl rfl rfl rfl ?_
     refine k_no rfl rfl rfl rfl ?_
     refine k_no rfl rfl rfl rfl ?_
     refine k_no rfl rfl rfl rfl ?_
     refine k_no rfl rfl rfl rfl ?_
     refine k_no rfl rfl rfl rfl ?_
     refine k_no rfl rfl rfl rfl ?_
     refine k_pickF rfl rfl rfl rfl ?_
     exact k_met ⟨s4, ⟨(congrArg (fun b => some (Value.bool b)) (by first | exact decide_eq_decide.2 ⟨fun h => ⟨c6, h⟩, fun h => h.2⟩ | exact (decide_eq_false (fun h => c6 h.1)).symm | (simp [c6]; done) | (simp [c6, i64] <;> omega))), trivial⟩, ⟨rfl, rfl, rfl, rfl, rfl, rfl, rfl, rfl, trivial⟩, rfl, hE5⟩
   ·
    rintro s7 wL ⟨rfl, hE5⟩
    have szs7 := hE5.size
    have hS := hS.trans0 hE5
    have hE2 := hE2.trans0 hE5
    have hE3 := hE3.trans0 hE5
    refine k_nil ?_
    refine k_keep [(0, _), (1, _), (2, _), (6, _), (7, _), (24, _)] ⟨rfl, rfl, rfl, rfl, rfl, rfl, trivial⟩ ?_
    refine k_cond_dec rfl (fun c8 => ?_) (fun c8 => ?_)
    ·
     have h := itT h c8
     refine k_skip ?_
     refine k_block ?_
     refine k_region ?_
     refine k_move rfl rfl ?_
     refine k_add rfl rfl rfl ?_
     refine k_assign rfl rfl ?_
     refine k_nil ?_
     refine k_blk ?_
     exact k_stop ⟨(s7, i64 (x3 + 1), j), ⟨(by first | rfl | (simp <;> rfl)), trivial⟩, ⟨rfl, rfl, rfl, rfl, trivial⟩, ⟨rfl, hE3, h⟩, (by simp)⟩
    ·
     have h := itF h c8
     refine k_exit rfl ?_
     exact k_stop ⟨(s7, x3), ⟨(by first | rfl | (simp <;> rfl)), trivial⟩, ⟨rfl, rfl, rfl, trivial⟩, ⟨rfl, hE2, h⟩⟩
  ·
   rintro ⟨s9, x2⟩ wL ⟨rfl, hE2, h⟩
   rw [hK2] at h
   have szs9 := hE2.size
   have hS := hS.trans0 hE2
   replace hwo0_0 := hwo0_0.up2 hE2
   replace hwo0_1 := hwo0_1.up2 hE2
   replace hb_o0 := hb_o0.up2 hE2
   refine k_seq ?_
   refine k_region ?_
   refine k_move rfl rfl ?_
   refine k_nilCheck rfl rfl ?_
   refine k_field_addr fld68_2 rfl rfl ?_
   refine k_load_blk one64 rfl hb_o0 rfl rfl ?_
   refine k_move rfl rfl ?_
   obtain ⟨x4, hx4, h⟩ := ob h
   refine k_ixaddr Tryd.underlying64 size65 rfl rfl (SL.of_R hwo0_0) (geti_out hx4).1 (geti_map hx4) rfl ?_
   intro qx4 hqx4
   refine k_load_sl one65 rfl hqx4 rfl ?_
   intro v10 h10
   refine k_assign rfl rfl ?_
   refine k_nil ?_
   refine k_keep [(0, _), (2, _), (6, _), (7, _), (8, _)] ⟨rfl, rfl, rfl, rfl, rfl, trivial⟩ ?_
   refine k_seq ?_
   obtain ⟨kj5, hK11, h⟩ := jn_out h
   have hE11 := Step.r0 K0 s9
   refine k_cutc (X := St × (List Ref05File) × Value) [(0, .pointer (some ⟨bo0, 0, none⟩)), (6, .int .i64 0)] (fun (xL : St × (List Ref05File) × Value) => match xL with | (sl, x6, v12) => [(8, v12)]) (fun (xL : St × (List Ref05File) × Value) (wL : World) => match xL with | (sl, x6, v12) => sl.w = wL ∧ Step K0 s9 sl ∧ (R sl v12 (.sl 2 (x6.map dRef05File))) ∧ kj5 x6 = some r) ?_ ?_
   ·
    refine k_seq ?_
    refine k_region ?_
    refine k_move rfl rfl ?_
    refine k_move rfl rfl ?_
    refine k_nilCheck rfl rfl ?_
    refine k_field_addr fld68_3 rfl rfl ?_
    refine k_load_blk one65 rfl hb_o0 rfl rfl ?_
    refine k_len Tryd.underlying65 rfl (SL.of_R hwo0_1).hasLen rfl ?_
    refine k_as (v := .int .i64 (a0.Made.length : Int)) (by simp only [List.length_map]) ?_
    refine k_lss rfl rfl rfl ?_
    refine k_move rfl rfl ?_
    obtain ⟨x7, hx7, h⟩ := ob h
    have hE13 := Step.r0 K0 s9
    refine k_cutl (X := St) 10 [(0, .pointer (some ⟨bo0, 0, none⟩)), (2, .int .i64 a2), (6, .int .i64 0), (7, .int .i64 x2), (8, v10), (34, .int .i64 x2), (35, .pointer (some ⟨bo0, 0, none⟩)), (36, .pointer (some ⟨bo0, 0, none⟩)), (37, .pointer (some ⟨bo0, 3, none⟩)), (38, wo0_1), (39, .int .i64 (a0.Made.length : Int)), (40, .bool (decide (x2 < (a0.Made.length : Int))))] (fun _ => [(51, .bool x7)]) (fun sl wL => sl.w = wL ∧ Step K0 s9 sl) ?_ ?_
    ·
     refine k_again 41 rfl ?_
     refine k_split (fun c14 => ?_) (fun c14 => ?_)
     ·
      have hx7 := itT hx7 c14
      refine k_yes rfl rfl ?_
      refine k_move rfl rfl ?_
      refine k_yes rfl rfl ?_
      refine k_nilCheck rfl rfl ?_
      refine k_yes rfl rfl ?_
      refine k_field_addr fld68_3 rfl rfl ?_
      refine k_yes rfl rfl ?_
      refine k_load_blk one65 rfl hb_o0 rfl rfl ?_
      refine k_yes rfl rfl ?_
      refine k_move rfl rfl ?_
      refine k_yes rfl rfl ?_
      obtain ⟨x8, hx8, hx7⟩ := ob hx7
      refine k_ixaddr Tryd.underlying65 size87 rfl rfl (SL.of_R hwo0_1) (geti_out hx8).1 (geti_map hx8) rfl ?_
      intro qx8 hqx8
      refine k_yes rfl rfl ?_
      refine k_field_at (o := 0) rfl hqx8 (by rfl) fld87_0 rfl ?_
      intro q15 h15
      refine k_yes rfl rfl ?_
      refine k_load_val one9 rfl h15 rfl ?_
      refine k_yes rfl rfl ?_
      refine k_neq_str rfl rfl rfl ?_
      refine k_pickT rfl rfl rfl rfl ?_
      exact k_met ⟨s9, ⟨(congrArg (fun b => some (Value.bool b)) (Option.some.inj hx7)), trivial⟩, ⟨rfl, rfl, rfl, rfl, rfl, rfl, rfl, rfl, rfl, rfl, rfl, rfl, trivial⟩, rfl, hE13⟩
     ·
      have hx7 := itF hx7 c14
      refine k_no rfl rfl rfl rfl ?_
      refine k_no rfl rfl rfl rfl ?_
      refine k_no rfl rfl rfl rfl ?_
      refine k_no rfl rfl rfl rfl ?_
      refine k_no rfl rfl rfl rfl ?_
      refine k_no rfl rfl rfl rfl ?_
      refine k_no rfl rfl rfl rfl ?_
      refine k_no rfl rfl rfl rfl ?_
      refine k_no rfl rfl rfl rfl ?_
      refine k_pickF rfl rfl rfl rfl ?_
      exact k_met ⟨s9, ⟨(congrArg (fun b => some (Value.bool b)) (Option.some.inj hx7)), trivial⟩, ⟨rfl, rfl, rfl, rfl, rfl, rfl, rfl, rfl, rfl, rfl, rfl, rfl, trivial⟩, rfl, hE13⟩
    ·
     rintro s16 wL ⟨rfl, hE13⟩
     have szs16 := hE13.size
     have hS := hS.trans0 hE13
     have hE11 := hE11.trans0 hE13
     replace h10 := h10.up2 hE13
     replace hwo0_1 := hwo0_1.up2 hE13
     replace hb_o0 := hb_o0.up2 hE13
     refine k_move rfl rfl ?_
     have hE17 := Step.r0 K0 s16
     refine k_cutl (X := St) 3 [(0, .pointer (some ⟨bo0, 0, none⟩)), (2, .int .i64 a2), (6, .int .i64 0), (7, .int .i64 x2), (8, v10), (34, .int .i64 x2), (35, .pointer (some ⟨bo0, 0, none⟩)), (36, .pointer (some ⟨bo0, 0, none⟩)), (37, .pointer (some ⟨bo0, 3, none⟩)), (38, wo0_1), (39, .int .i64 (a0.Made.length : Int)), (40, .bool (decide (x2 < (a0.Made.length : Int)))), (51, .bool x7)] (fun _ => [(55, .bool (decide ((x7 = true) ∧ (0 < a2))))]) (fun sl wL => sl.w = wL ∧ Step K0 s16 sl) ?_ ?_
     ·
      refine k_again 52 rfl ?_
      refine k_splitb (fun c18 => ?_) (fun c18 => ?_)
      ·
       refine k_yes rfl rfl ?_
       refine k_move rfl rfl ?_
       refine k_yes rfl rfl ?_
       refine k_gtr rfl rfl rfl ?_
       refine k_pickT rfl rfl rfl rfl ?_
       exact k_met ⟨s16, ⟨(congrArg (fun b => some (Value.bool b)) (by first | exact decide_eq_decide.2 ⟨fun h => ⟨c18, h⟩, fun h => h.2⟩ | exact (decide_eq_false (fun h => c18 h.1)).symm | (simp [c18]; done) | (simp [c18, i64] <;> omega))), trivial⟩, ⟨rfl, rfl, rfl, rfl, rfl, rfl, rfl, rfl, rfl, rfl, rfl, rfl, rfl, trivial⟩, rfl, hE17⟩
      ·
       refine k_no rfl rfl rfl rfl ?_
       refine k_no rfl rfl rfl rfl ?_
       refine k_pickF rfl rfl rfl rfl ?_
       exact k_met ⟨s16, ⟨(congrArg (fun b => some (Value.bool b)) (by first | exact decide_eq_decide.2 ⟨fun h => ⟨c18, h⟩, fun h => h.2⟩ | exact (decide_eq_false (fun h => c18 h.1)).symm | (simp [c18]; done) | (simp [c18, i64] <;> omega))), trivial⟩, ⟨rfl, rfl, rfl, rfl, rfl, rfl, rfl, rfl, rfl, rfl, rfl, rfl, rfl, trivial⟩, rfl, hE17⟩
     ·
      rintro s19 wL ⟨rfl, hE17⟩
      have szs19 := hE17.size
      have hS := hS.trans0 hE17
      have hE11 := hE11.trans0 hE17
      replace h10 := h10.up2 hE17
      replace hwo0_1 := hwo0_1.up2 hE17
      replace hb_o0 := hb_o0.up2 hE17
      refine k_move rfl rfl ?_
      obtain ⟨x9, hx9, h⟩ := ob h
      have hE20 := Step.r0 K0 s19
      refine k_cutl (X := St) 11 [(0, .pointer (some ⟨bo0, 0, none⟩)), (2, .int .i64 a2), (6, .int .i64 0), (7, .int .i64 x2), (8, v10), (34, .int .i64 x2), (35, .pointer (some ⟨bo0, 0, none⟩)), (36, .pointer (some ⟨bo0, 0, none⟩)), (37, .pointer (some ⟨bo0, 3, none⟩)), (38, wo0_1), (39, .int .i64 (a0.Made.length : Int)), (40, .bool (decide (x2 < (a0.Made.length : Int)))), (51, .bool x7), (55, .bool (decide ((x7 = true) ∧ (0 < a2))))] (fun _ => [(67, .bool x9)]) (fun sl wL => sl.w = wL ∧ Step K0 s19 sl) ?_ ?_
      ·
       refine k_again 56 rfl ?_
       refine k_split (fun c21 => ?_) (fun c21 => ?_)
       ·
        have hx9 := itT hx9 c21
        refine k_yes rfl rfl ?_
        refine k_move rfl rfl ?_
        refine k_yes rfl rfl ?_
        refine k_nilCheck rfl rfl ?_
        refine k_yes rfl rfl ?_
        refine k_field_addr fld68_3 rfl rfl ?_
        refine k_yes rfl rfl ?_
        refine k_load_blk one65 rfl hb_o0 rfl rfl ?_
        refine k_yes rfl rfl ?_
        refine k_move rfl rfl ?_
        refine k_yes rfl rfl ?_
        obtain ⟨x10, hx10, hx9⟩ := ob hx9
        refine k_ixaddr Tryd.underlying65 size87 rfl rfl (SL.of_R hwo0_1) (geti_out hx10).1 (geti_map hx10) rfl ?_
        intro qx10 hqx10
        refine k_yes rfl rfl ?_
        refine k_field_at (o := 0) rfl hqx10 (by rfl) fld87_1 rfl ?_
        intro q22 h22
        refine k_yes rfl rfl ?_
        refine k_load_sl one29 rfl h22 rfl ?_
        intro v23 h23
        refine k_yes rfl rfl ?_
        refine k_len Tryd.underlying29 rfl (SL.of_R h23).hasLen rfl ?_
        refine k_as (v := .int .i64 (x10.Bytes.length : Int)) (by simp only [List.length_map]) ?_
        refine k_yes rfl rfl ?_
        refine k_gtr rfl rfl rfl ?_
        refine k_pickT rfl rfl rfl rfl ?_
        exact k_met ⟨s19, ⟨(congrArg (fun b => some (Value.bool b)) (Option.some.inj hx9)), trivial⟩, ⟨rfl, rfl, rfl, rfl, rfl, rfl, rfl, rfl, rfl, rfl, rfl, rfl, rfl, rfl, trivial⟩, rfl, hE20⟩
       ·
        have hx9 := itF hx9 c21
        refine k_no rfl rfl rfl rfl ?_
        refine k_no rfl rfl rfl rfl ?_
        refine k_no rfl rfl rfl rfl ?_
        refine k_no rfl rfl rfl rfl ?_
        refine k_no rfl rfl rfl rfl ?_
        refine k_no rfl rfl rfl rfl ?_
        refine k_no rfl rfl rfl rfl ?_
        refine k_no rfl rfl rfl rfl ?_
        refine k_no rfl rfl rfl rfl ?_
        refine k_no rfl rfl rfl rfl ?_
        refine k_pickF rfl rfl rfl rfl ?_
        exact k_met ⟨s19, ⟨(congrArg (fun b => some (Value.bool b)) (Option.some.inj hx9)), trivial⟩, ⟨rfl, rfl, rfl, rfl, rfl, rfl, rfl, rfl, rfl, rfl, rfl, rfl, rfl, rfl, trivial⟩, rfl, hE20⟩
      ·
       rintro s24 wL ⟨rfl, hE20⟩
       have szs24 := hE20.size
       have hS := hS.trans0 hE20
       have hE11 := hE11.trans0 hE20
       replace h10 := h10.up2 hE20
       replace hwo0_1 := hwo0_1.up2 hE20
       replace hb_o0 := hb_o0.up2 hE20
       refine k_nil ?_
       refine k_keep [(0, _), (2, _), (6, _), (7, _), (8, _), (67, _)] ⟨rfl, rfl, rfl, rfl, rfl, rfl, trivial⟩ ?_
       refine k_cond rfl (fun c25 => ?_) (fun c25 => ?_)
       ·
        have h := ibT h c25
        refine k_keep [(0, _), (2, _), (6, _), (7, _), (8, _)] ⟨rfl, rfl, rfl, rfl, rfl, trivial⟩ ?_
        refine k_drawT (KN s24.n) 30 (.read 0 (.read 1 (.read 2 (.read 3 (.read 4 (.read 5 (.read 6 (.read 7 (.read 8 (.read 9 (.read 10 (.read 11 (.read 12 (.read 13 (.read 14 (.read 15 (.read 16 (.read 17 (.read 18 (.read 19 (.read 20 (.read 21 (.read 22 (.read 23 (.read 24 (.read 25 (.read 26 (.read 27 (.alt 28 (.alt 29 .fin .no) .no))))))))))))))))))))))))))))) mixed (by intro c h; (try simp only [KC, KO, KU, KN, KB] at h) <;> omega) rfl rfl rfl ?_
        intro s26 st26
        have szs26 := st26.size
        have hS := hS.trans0 st26
        have hE11 := hE11.trans0 st26
        replace h10 := h10.up2 st26
        replace hwo0_1 := hwo0_1.up2 st26
        replace hb_o0 := hb_o0.up2 st26
        refine rt_read (v10) rfl rfl (fun s27 st27 => ?_) ?_
        ·refine k_move rfl rfl ?_
         exact fq_end
        refine rt_read (.pointer (some ⟨bo0, 0, none⟩)) rfl rfl (fun s28 st28 => ?_) ?_
        ·refine k_move rfl rfl ?_
         exact fq_end
        refine rt_read (.pointer (some ⟨bo0, 0, none⟩)) rfl rfl (fun s29 st29 => ?_) ?_
        ·refine k_nilCheck rfl rfl ?_
         exact fq_end
        refine rt_read (.pointer (some ⟨bo0, 3, none⟩)) rfl rfl (fun s30 st30 => ?_) ?_
        ·refine k_field_addr fld68_3 rfl rfl ?_
         exact fq_end
        refine rt_read (wo0_1) rfl rfl (fun s31 st31 => ?_) ?_
        ·try replace hb_o0 := hb_o0.up2 st31
         refine k_load_blk one65 rfl hb_o0 rfl rfl ?_
         exact fq_end
        refine rt_read (.int .i64 x2) rfl rfl (fun s32 st32 => ?_) ?_
        ·refine k_move rfl rfl ?_
         exact fq_end
        obtain ⟨x11, hx11, h⟩ := ob h
        refine rt_ix rfl (wanted_none rfl) Tryd.underlying65 size87 rfl rfl (SL.of_R hwo0_1) (geti_out hx11).1 (geti_map hx11) rfl ?_
        intro q33 hq33
        refine rt_fa rfl (wanted_none rfl) rfl hq33 (by rfl) fld87_0 rfl ?_
        intro q34 h34
        refine rt_read (S x11.Name) rfl rfl (fun s35 st35 => ?_) ?_
        ·try replace h34 := h34.up2 st35
         refine k_load_val one9 rfl h34 rfl ?_
         exact fq_end
        refine rt_read (.pointer (some ⟨bo0, 0, none⟩)) rfl rfl (fun s36 st36 => ?_) ?_
        ·refine k_move rfl rfl ?_
         exact fq_end
        refine rt_read (.pointer (some ⟨bo0, 0, none⟩)) rfl rfl (fun s37 st37 => ?_) ?_
        ·refine k_nilCheck rfl rfl ?_
         exact fq_end
        refine rt_read (.pointer (some ⟨bo0, 3, none⟩)) rfl rfl (fun s38 st38 => ?_) ?_
        ·refine k_field_addr fld68_3 rfl rfl ?_
         exact fq_end
        refine rt_read (wo0_1) rfl rfl (fun s39 st39 => ?_) ?_
        ·try replace hb_o0 := hb_o0.up2 st39
         refine k_load_blk one65 rfl hb_o0 rfl rfl ?_
         exact fq_end
        refine rt_read (.int .i64 x2) rfl rfl (fun s40 st40 => ?_) ?_
        ·refine k_move rfl rfl ?_
         exact fq_end
        obtain ⟨x12, hx12, h⟩ := ob h
        refine rt_ix rfl (wanted_none rfl) Tryd.underlying65 size87 rfl rfl (SL.of_R hwo0_1) (geti_out hx12).1 (geti_map hx12) rfl ?_
        intro q41 hq41
        refine rt_fa rfl (wanted_none rfl) rfl hq41 (by rfl) fld87_1 rfl ?_
        intro q42 h42
        refine rt_ldsl rfl (wanted_none rfl) one29 rfl h42 (by first | exact id | (simp only [KC, KO, KU, KN, KB] <;> omega)) rfl ?_
        intro v43 h43
        refine rt_read (.int .i64 a2) rfl rfl (fun s44 st44 => ?_) ?_
        ·refine k_move rfl rfl ?_
         exact fq_end
        refine rt_read (.pointer (some ⟨bo0, 0, none⟩)) rfl rfl (fun s45 st45 => ?_) ?_
        ·refine k_move rfl rfl ?_
         exact fq_end
        refine rt_read (.pointer (some ⟨bo0, 0, none⟩)) rfl rfl (fun s46 st46 => ?_) ?_
        ·refine k_nilCheck rfl rfl ?_
         exact fq_end
        refine rt_read (.pointer (some ⟨bo0, 3, none⟩)) rfl rfl (fun s47 st47 => ?_) ?_
        ·refine k_field_addr fld68_3 rfl rfl ?_
         exact fq_end
        refine rt_read (wo0_1) rfl rfl (fun s48 st48 => ?_) ?_
        ·try replace hb_o0 := hb_o0.up2 st48
         refine k_load_blk one65 rfl hb_o0 rfl rfl ?_
         exact fq_end
        refine rt_read (.int .i64 x2) rfl rfl (fun s49 st49 => ?_) ?_
        ·refine k_move rfl rfl ?_
         exact fq_end
        obtain ⟨x13, hx13, h⟩ := ob h
        refine rt_ix rfl (wanted_none rfl) Tryd.underlying65 size87 rfl rfl (SL.of_R hwo0_1) (geti_out hx13).1 (geti_map hx13) rfl ?_
        intro q50 hq50
        refine rt_fa rfl (wanted_none rfl) rfl hq50 (by rfl) fld87_1 rfl ?_
        intro q51 h51
        refine rt_ldsl rfl (wanted_none rfl) one29 rfl h51 (by first | exact id | (simp only [KC, KO, KU, KN, KB] <;> omega)) rfl ?_
        intro v52 h52
        refine rt_read (.int .i64 (x13.Bytes.length : Int)) rfl rfl (fun s53 st53 => ?_) ?_
        ·try replace h52 := h52.up2 st53
         refine k_len Tryd.underlying29 rfl (SL.of_R h52).hasLen rfl ?_
         refine k_as (v := .int .i64 (x13.Bytes.length : Int)) (by simp only [List.length_map]) ?_
         exact fq_end
        refine rt_read (.int .i64 (min a2 (x13.Bytes.length : Int))) rfl rfl (fun s54 st54 => ?_) ?_
        ·refine k_min2 rfl rfl rfl ?_
         exact fq_end
        refine rt_act rfl rfl ?_
        have hA55 := Step.r0 (KN s24.n) s26
        obtain ⟨x14, hx14, h⟩ := ob h
        refine k_cut_sl (i := (0 : Int).toNat) (j := (min a2 (x13.Bytes.length : Int) : Int).toNat) Tryd.underlying29 size5 rfl (SL.of_R h43) CutAt.none (CutAt.int rfl (Int.le_trans (subl_out hx14).1 (subl_out hx14).2.1)) (subl_ij hx14) (by rw [List.length_map]; exact subl_j hx14) rfl ?_
        intro vx14 hcx14
        rw [← List.map_drop, ← List.map_take, ← (subl_out hx14).2.2.2] at hcx14
        have hcx14 := R.of_SL hcx14
        refine rt_cont hA55 ?_
        refine rt_act rfl rfl ?_
        have hA56 := Step.r0 (KN s24.n) s26
        obtain ⟨x15, hx15, h⟩ := ob h
        refine k_call cal62 rfl (ref05_Added_w  (SL.of_R h10) (SL.of_R hcx14) hx15) rfl ?_
        rintro s57 v57_0 st57 ⟨_, rfl, h57_0⟩
        have szs57 := st57.size
        have hS := hS.trans0 st57
        have hE11 := hE11.trans0 st57
        have hA56 := hA56.trans0 st57
        refine rt_cont hA56 ?_
        refine rt_fin ?_
        refine k_assign rfl rfl ?_
        refine k_nil ?_
        exact k_stop ⟨(s57, x15, v57_0), ⟨(by first | rfl | (simp <;> rfl)), trivial⟩, ⟨rfl, rfl, trivial⟩, ⟨rfl, hE11, h57_0, h⟩⟩
       ·
        have h := ibF h c25
        refine k_skip ?_
        exact k_stop ⟨(s24, x4, v10), ⟨(by first | rfl | (simp <;> rfl)), trivial⟩, ⟨rfl, rfl, trivial⟩, ⟨rfl, hE11, h10, h⟩⟩
   ·
    rintro ⟨s58, x6, v12⟩ wL ⟨rfl, hE11, h12, h⟩
    rw [hK11] at h
    have szs58 := hE11.size
    have hS := hS.trans0 hE11
    replace hb_o0 := hb_o0.up2 hE11
    refine k_seq ?_
    refine k_region ?_
    refine k_move rfl rfl ?_
    refine k_move rfl rfl ?_
    refine k_bslice2 (ds := ([x6] : List (List Ref05File)).map (dL 2 dRef05File)) slc64 rfl (RVs.cons h12 RVs.nil) (by rfl) (by rfl) rfl rfl ?_
    intro s59 v59 b59 st59 ge59 bl59 h59
    have szs59 := st59.size
    have hS := hS.trans0 st59
    replace hb_o0 := hb_o0.up2 st59
    have lt59 := Own.le1 h59
    refine k_nilCheck rfl rfl ?_
    refine k_field_addr fld68_2 rfl rfl ?_
    refine k_store_c (cs' := [.int .i64 a0.Most, .bool a0.Off, v59, wo0_1, .int .i64 a0.Fuse.e0, .int .i64 a0.Fuse.e1, .int .i64 a0.Fuse.e2]) size64 rfl rfl hb_o0 (by first | (simp; done) | omega | (dsimp only; omega)) (CellsOf.sl (h59.sl)) rfl (by first | rfl | (simp; done) | (simp; omega)) rfl ?_
    intro s60 st60 hb_o0
    have szs60 := st60.size
    have hS := hS.c0 st60
    replace h59 := h59.up2 st60
    refine k_nil ?_
    refine k_keep [(0, _), (6, _)] ⟨rfl, rfl, trivial⟩ ?_
    refine k_seq ?_
    refine k_region ?_
    refine k_move rfl rfl ?_
    refine k_nilCheck rfl rfl ?_
    refine k_field_addr fld68_3 rfl rfl ?_
    refine k_store_c (cs' := [.int .i64 a0.Most, .bool a0.Off, v59, .slice none 0 0, .int .i64 a0.Fuse.e0, .int .i64 a0.Fuse.e1, .int .i64 a0.Fuse.e2]) size65 rfl rfl hb_o0 (by first | (simp; done) | omega | (dsimp only; omega)) (CellsOf.lit rfl rfl) rfl (by first | rfl | (simp; done) | (simp; omega)) rfl ?_
    intro s61 st61 hb_o0
    have szs61 := st61.size
    have hS := hS.c0 st61
    replace h59 := h59.up2 st61
    refine k_nil ?_
    refine k_keep [(0, _), (6, _)] ⟨rfl, rfl, trivial⟩ ?_
    refine k_seq ?_
    refine k_region ?_
    refine k_move rfl rfl ?_
    refine k_nilCheck rfl rfl ?_
    refine k_field_addr fld68_1 rfl rfl ?_
    refine k_store_c (cs' := [.int .i64 a0.Most, .bool true, v59, .slice none 0 0, .int .i64 a0.Fuse.e0, .int .i64 a0.Fuse.e1, .int .i64 a0.Fuse.e2]) size4 rfl rfl hb_o0 (by first | (simp; done) | omega | (dsimp only; omega)) (CellsOf.lit rfl rfl) rfl (by first | rfl | (simp; done) | (simp; omega)) rfl ?_
    intro s62 st62 hb_o0
    have szs62 := st62.size
    have hS := hS.c0 st62
    replace h59 := h59.up2 st62
    refine k_nil ?_
    refine k_keep [(0, _), (6, _)] ⟨rfl, rfl, trivial⟩ ?_
    refine k_seq ?_
    refine k_region ?_
    refine k_move rfl rfl ?_
    refine k_build_arr arr66 zero66 rfl Parts.nil (by rfl) rfl ?_
    refine k_as (v := .agg #[.int .i64 0, .int .i64 0, .int .i64 0]) rfl ?_
    refine k_nilCheck rfl rfl ?_
    refine k_field_addr fld68_4 rfl rfl ?_
    refine k_store_c (cs' := [.int .i64 a0.Most, .bool true, v59, .slice none 0 0, .int .i64 0, .int .i64 0, .int .i64 0]) size66 rfl rfl hb_o0 (by first | (simp; done) | omega | (dsimp only; omega)) (CellsOf.lit rfl rfl) rfl (by first | rfl | (simp; done) | (simp; omega)) rfl ?_
    intro s63 st63 hb_o0
    have szs63 := st63.size
    have hS := hS.c0 st63
    replace h59 := h59.up2 st63
    refine k_nil ?_
    refine k_keep [(6, _)] ⟨rfl, trivial⟩ ?_
    refine k_seq ?_
    refine k_region ?_
    refine k_assign rfl rfl ?_
    refine k_nil ?_
    refine k_ret ?_
    obtain ⟨s64, e64, st64, h64⟩ := h59.freeze
    rw [← e64]
    have szs64 := st64.size
    have hS := hS.c0 st64
    replace hb_o0 := hb_o0.up2 st64
    obtain rfl := Option.some.inj h
    refine ⟨_, rfl, Ret.mk hS ?_⟩
    exact ⟨rfl, (ORef05Disk.mk_ (⟨a0.Most, true, ([x6] : List (List Ref05File)), [], (⟨0, 0, 0⟩ : St66)⟩ : Ref05Disk) (by omega) h64 (R.of_SL (.inl ⟨rfl, none, 0, rfl, fun _ => rfl⟩)) hb_o0)⟩

set_option maxHeartbeats 1000000 in
set_option maxRecDepth 100000 in
theorem ref05_Disk_burn_w {s : St} {k0 : Nat} {p0 : Value} {a0 : Ref05Disk} {r : (Int × Ref05Disk)} (ho0 : ORef05Disk s k0 p0 a0) (h : ref05_Disk_burn a0 = some r) : Calls Tryd.prog 65 #[p0] s.w (Ret s (KO k0) (fun s1 v => v = .int .i64 r.1 ∧ ORef05Disk s1 k0 p0 r.2)) := by
 unfold ref05_Disk_burn at h
 have le0 := ho0.le
 have ne0 := ho0.ne
 obtain ⟨bo0, rfl⟩ := ho0.ptr
 obtain ⟨wo0_0, wo0_1, hb_o0, hwo0_0, hwo0_1⟩ := ho0.at_
 have hS := Step.r0 (KO k0) s
 refine k_fn (rs := [2]) (args := [.pointer (some ⟨bo0, 0, none⟩)]) Tryd.func65 rfl rfl rfl rfl ?_
 refine k_seq ?_
 refine k_region ?_
 refine k_assign rfl rfl ?_
 refine k_nil ?_
 refine k_seq ?_
 refine k_seq ?_
 refine k_region ?_
 refine k_move rfl rfl ?_
 refine k_nilCheck rfl rfl ?_
 refine k_field_addr fld68_4 rfl rfl ?_
 refine k_ixaddr_arr arr66 rfl rfl (by decide) (by decide) rfl ?_
 refine k_as (v := .pointer (some ⟨bo0, 4, none⟩)) rfl ?_
 refine k_load_blk one3 rfl hb_o0 rfl rfl ?_
 refine k_gtr rfl rfl rfl ?_
 refine k_nil ?_
 refine k_keep [(0, _), (2, _), (8, _)] ⟨rfl, rfl, rfl, trivial⟩ ?_
 refine k_cond_dec rfl (fun c1 => ?_) (fun c1 => ?_)
 ·
  have h := itT h c1
  refine k_seq ?_
  refine k_keep [(0, _), (2, _)] ⟨rfl, rfl, trivial⟩ ?_
  refine k_drawT (KN s.n) 8 (.read 0 (.read 1 (.read 2 (.read 3 (.read 4 (.read 5 (.read 6 (.read 7 .fin)))))))) mixed (by intro c h; (try simp only [KC, KO, KU, KN, KB] at h) <;> omega) rfl rfl rfl ?_
  intro s2 st2
  have szs2 := st2.size
  have hS := hS.trans0 st2
  replace hwo0_0 := hwo0_0.up2 st2
  replace hwo0_1 := hwo0_1.up2 st2
  replace hb_o0 := hb_o0.up2 st2
  refine rt_read (.pointer (some ⟨bo0, 0, none⟩)) rfl rfl (fun s3 st3 => ?_) ?_
  ·refine k_move rfl rfl ?_
   exact fq_end
  refine rt_read (.pointer (some ⟨bo0, 0, none⟩)) rfl rfl (fun s4 st4 => ?_) ?_
  ·refine k_nilCheck rfl rfl ?_
   exact fq_end
  refine rt_read (.pointer (some ⟨bo0, 4, none⟩)) rfl rfl (fun s5 st5 => ?_) ?_
  ·refine k_field_addr fld68_4 rfl rfl ?_
   exact fq_end
  refine rt_read (.pointer (some ⟨bo0, 4, none⟩)) rfl rfl (fun s6 st6 => ?_) ?_
  ·refine k_ixaddr_arr arr66 rfl rfl (by decide) (by decide) rfl ?_
   refine k_as (v := .pointer (some ⟨bo0, 4, none⟩)) rfl ?_
   exact fq_end
  refine rt_read (.int .i64 a0.Fuse.e0) rfl rfl (fun s7 st7 => ?_) ?_
  ·try replace hb_o0 := hb_o0.up2 st7
   refine k_load_blk one3 rfl hb_o0 rfl rfl ?_
   exact fq_end
  refine rt_read (.int .i64 (i64 (a0.Fuse.e0 - 1))) rfl rfl (fun s8 st8 => ?_) ?_
  ·refine k_sub_ rfl rfl rfl ?_
   exact fq_end
  refine rt_read (.pointer (some ⟨bo0, 0, none⟩)) rfl rfl (fun s9 st9 => ?_) ?_
  ·refine k_nilCheck rfl rfl ?_
   exact fq_end
  refine rt_read (.pointer (some ⟨bo0, 4, none⟩)) rfl rfl (fun s10 st10 => ?_) ?_
  ·refine k_field_addr fld68_4 rfl rfl ?_
   exact fq_end
  refine rt_fin ?_
  refine k_ixaddr_arr arr66 rfl rfl (by decide) (by decide) rfl ?_
  refine k_as (v := .pointer (some ⟨bo0, 4, none⟩)) rfl ?_
  refine k_store_c (cs' := [.int .i64 a0.Most, .bool a0.Off, wo0_0, wo0_1, .int .i64 (i64 (a0.Fuse.e0 - 1)), .int .i64 a0.Fuse.e1, .int .i64 a0.Fuse.e2]) size3 rfl rfl hb_o0 (by first | (simp; done) | omega | (dsimp only; omega)) (CellsOf.lit rfl rfl) rfl (by first | rfl | (simp; done) | (simp; omega)) rfl ?_
  intro s11 st11 hb_o0
  have szs11 := st11.size
  have hS := hS.c0 st11
  replace hwo0_0 := hwo0_0.up2 st11
  replace hwo0_1 := hwo0_1.up2 st11
  refine k_nil ?_
  refine k_keep [(0, _), (2, _)] ⟨rfl, rfl, trivial⟩ ?_
  refine k_seq ?_
  refine k_region ?_
  refine k_move rfl rfl ?_
  refine k_nilCheck rfl rfl ?_
  refine k_field_addr fld68_4 rfl rfl ?_
  refine k_ixaddr_arr arr66 rfl rfl (by decide) (by decide) rfl ?_
  refine k_as (v := .pointer (some ⟨bo0, 4, none⟩)) rfl ?_
  refine k_load_blk one3 rfl hb_o0 rfl rfl ?_
  refine k_eql rfl rfl rfl ?_
  refine k_nil ?_
  refine k_keep [(0, _), (2, _), (23, _)] ⟨rfl, rfl, rfl, trivial⟩ ?_
  refine k_cond_dec rfl (fun c12 => ?_) (fun c12 => ?_)
  ·
   have h := itT h c12
   refine k_seq ?_
   refine k_keep [(0, _), (2, _)] ⟨rfl, rfl, trivial⟩ ?_
   refine k_drawT (KN s11.n) 11 (.read 0 (.read 1 (.read 2 (.read 3 (.read 4 (.read 5 (.read 6 (.read 7 (.read 8 (.read 9 (.read 10 .fin))))))))))) mixed (by intro c h; (try simp only [KC, KO, KU, KN, KB] at h) <;> omega) rfl rfl rfl ?_
   intro s13 st13
   have szs13 := st13.size
   have hS := hS.trans0 st13
   replace hwo0_0 := hwo0_0.up2 st13
   replace hwo0_1 := hwo0_1.up2 st13
   replace hb_o0 := hb_o0.up2 st13
   refine rt_read (.pointer (some ⟨bo0, 0, none⟩)) rfl rfl (fun s14 st14 => ?_) ?_
   ·refine k_move rfl rfl ?_
    exact fq_end
   refine rt_read (.pointer (some ⟨bo0, 0, none⟩)) rfl rfl (fun s15 st15 => ?_) ?_
   ·refine k_move rfl rfl ?_
    exact fq_end
   refine rt_read (.pointer (some ⟨bo0, 0, none⟩)) rfl rfl (fun s16 st16 => ?_) ?_
   ·refine k_nilCheck rfl rfl ?_
    exact fq_end
   refine rt_read (.pointer (some ⟨bo0, 4, none⟩)) rfl rfl (fun s17 st17 => ?_) ?_
   ·refine k_field_addr fld68_4 rfl rfl ?_
    exact fq_end
   refine rt_read (.pointer (some ⟨bo0, 5, none⟩)) rfl rfl (fun s18 st18 => ?_) ?_
   ·refine k_ixaddr_arr arr66 rfl rfl (by decide) (by decide) rfl ?_
    refine k_as (v := .pointer (some ⟨bo0, 5, none⟩)) rfl ?_
    exact fq_end
   refine rt_read (.int .i64 a0.Fuse.e1) rfl rfl (fun s19 st19 => ?_) ?_
   ·try replace hb_o0 := hb_o0.up2 st19
    refine k_load_blk one3 rfl hb_o0 rfl rfl ?_
    exact fq_end
   refine rt_read (.pointer (some ⟨bo0, 0, none⟩)) rfl rfl (fun s20 st20 => ?_) ?_
   ·refine k_move rfl rfl ?_
    exact fq_end
   refine rt_read (.pointer (some ⟨bo0, 0, none⟩)) rfl rfl (fun s21 st21 => ?_) ?_
   ·refine k_nilCheck rfl rfl ?_
    exact fq_end
   refine rt_read (.pointer (some ⟨bo0, 4, none⟩)) rfl rfl (fun s22 st22 => ?_) ?_
   ·refine k_field_addr fld68_4 rfl rfl ?_
    exact fq_end
   refine rt_read (.pointer (some ⟨bo0, 6, none⟩)) rfl rfl (fun s23 st23 => ?_) ?_
   ·refine k_ixaddr_arr arr66 rfl rfl (by decide) (by decide) rfl ?_
    refine k_as (v := .pointer (some ⟨bo0, 6, none⟩)) rfl ?_
    exact fq_end
   refine rt_read (.int .i64 a0.Fuse.e2) rfl rfl (fun s24 st24 => ?_) ?_
   ·try replace hb_o0 := hb_o0.up2 st24
    refine k_load_blk one3 rfl hb_o0 rfl rfl ?_
    exact fq_end
   refine rt_fin ?_
   obtain ⟨x1, hx1, h⟩ := ob h
   refine k_call cal45 rfl (ref05_Disk_Crash_w  (ORef05Disk.mk_ (⟨a0.Most, a0.Off, a0.Pictures, a0.Made, (⟨i64 (a0.Fuse.e0 - 1), a0.Fuse.e1, a0.Fuse.e2⟩ : St66)⟩ : Ref05Disk) (by omega) hwo0_0 hwo0_1 hb_o0) hx1) rfl ?_
   rintro s25 vr25 st25 ⟨rfl, hm25_0⟩
   obtain ⟨w25_0_0, w25_0_1, hb_25_0, hw25_0_0, hw25_0_1⟩ := hm25_0.at_
   have szs25 := st25.size
   have hS := hS.c0 st25
   refine k_nil ?_
   refine k_keep [(2, _)] ⟨rfl, trivial⟩ ?_
   refine k_seq ?_
   refine k_region ?_
   refine k_assign rfl rfl ?_
   refine k_nil ?_
   refine k_ret ?_
   obtain rfl := Option.some.inj h
   refine ⟨_, rfl, Ret.mk hS ?_⟩
   exact ⟨rfl, (ORef05Disk.mk_ x1.2 (by omega) hw25_0_0 hw25_0_1 hb_25_0)⟩
  ·
   have h := itF h c12
   refine k_skip ?_
   refine k_seq ?_
   refine k_region ?_
   refine k_assign rfl rfl ?_
   refine k_nil ?_
   refine k_keep [(2, _)] ⟨rfl, trivial⟩ ?_
   refine k_ret ?_
   obtain rfl := Option.some.inj h
   refine ⟨_, rfl, Ret.mk hS ?_⟩
   exact ⟨rfl, (ORef05Disk.mk_ (⟨a0.Most, a0.Off, a0.Pictures, a0.Made, (⟨i64 (a0.Fuse.e0 - 1), a0.Fuse.e1, a0.Fuse.e2⟩ : St66)⟩ : Ref05Disk) (by omega) hwo0_0 hwo0_1 hb_o0)⟩
 ·
  have h := itF h c1
  refine k_skip ?_
  refine k_seq ?_
  refine k_region ?_
  refine k_assign rfl rfl ?_
  refine k_nil ?_
  refine k_keep [(2, _)] ⟨rfl, trivial⟩ ?_
  refine k_ret ?_
  obtain rfl := Option.some.inj h
  refine ⟨_, rfl, Ret.mk hS ?_⟩
  exact ⟨rfl, (ORef05Disk.mk_ a0 (by omega) hwo0_0 hwo0_1 hb_o0)⟩

set_option maxHeartbeats 1000000 in
set_option maxRecDepth 100000 in
theorem ref05_Disk_next_w {s : St} {k0 : Nat} {p0 : Value} {a0 : Ref05Disk} {v1 : Value} {a1 : (List Ref05File)} {cs2 : List Value} {a2 : Ref05File} {r : (Int × Ref05Disk)} (ho0 : ORef05Disk s k0 p0 a0) (hp1 : R s v1 (.sl 2 (a1.map dRef05File))) (hp2 : RC s cs2 (dRef05File a2)) (h : ref05_Disk_next a0 a1 a2 = some r) : Calls Tryd.prog 61 #[p0, v1, .agg cs2.toArray] s.w (Ret s (KO k0) (fun s1 v => v = .int .i64 r.1 ∧ ORef05Disk s1 k0 p0 r.2)) := by
 unfold ref05_Disk_next at h
 have le0 := ho0.le
 have ne0 := ho0.ne
 obtain ⟨bo0, rfl⟩ := ho0.ptr
 obtain ⟨wo0_0, wo0_1, hb_o0, hwo0_0, hwo0_1⟩ := ho0.at_
 obtain ⟨q2_0, rfl, hq2_0⟩ := opnRef05File hp2
 have hS := Step.r0 (KO k0) s
 refine k_fn (rs := [6]) (args := [.pointer (some ⟨bo0, 0, none⟩), v1, .agg #[S a2.Name, q2_0]]) Tryd.func61 rfl rfl rfl rfl ?_
 refine k_seq ?_
 refine k_region ?_
 refine k_box rfl rfl ?_
 intro s1 b1 st1 h1 ge1
 have szs1 := st1.size
 have hS := hS.trans0 st1
 replace hp1 := hp1.up2 st1
 replace hq2_0 := hq2_0.up2 st1
 replace hwo0_0 := hwo0_0.up2 st1
 replace hwo0_1 := hwo0_1.up2 st1
 replace hb_o0 := hb_o0.up2 st1
 have lt1 := h1.lt
 refine k_assign rfl rfl ?_
 refine k_nil ?_
 refine k_keep [(0, _), (1, _), (5, _), (6, _)] ⟨rfl, rfl, rfl, rfl, trivial⟩ ?_
 refine k_seq ?_
 refine k_seq ?_
 refine k_drawT (KN s1.n) 6 (.read 0 (.read 2 (.read 3 (.read 4 (.read 5 (.alt 1 .fin .no)))))) mixed (by intro c h; (try simp only [KC, KO, KU, KN, KB] at h) <;> omega) rfl rfl rfl ?_
 intro s2 st2
 have szs2 := st2.size
 have hS := hS.trans0 st2
 replace hp1 := hp1.up2 st2
 replace hwo0_0 := hwo0_0.up2 st2
 replace hwo0_1 := hwo0_1.up2 st2
 replace hb_o0 := hb_o0.up2 st2
 replace hq2_0 := hq2_0.up2 st2
 replace h1 := h1.up2 st2
 refine rt_read (v1) rfl rfl (fun s3 st3 => ?_) ?_
 ·refine k_move rfl rfl ?_
  exact fq_end
 refine rt_read (.pointer (some ⟨bo0, 0, none⟩)) rfl rfl (fun s4 st4 => ?_) ?_
 ·refine k_move rfl rfl ?_
  exact fq_end
 refine rt_read (.pointer (some ⟨bo0, 0, none⟩)) rfl rfl (fun s5 st5 => ?_) ?_
 ·refine k_nilCheck rfl rfl ?_
  exact fq_end
 refine rt_read (.pointer (some ⟨bo0, 0, none⟩)) rfl rfl (fun s6 st6 => ?_) ?_
 ·refine k_field_addr fld68_0 rfl rfl ?_
  exact fq_end
 refine rt_read (.int .i64 a0.Most) rfl rfl (fun s7 st7 => ?_) ?_
 ·try replace hb_o0 := hb_o0.up2 st7
  refine k_load_blk one3 rfl hb_o0 rfl rfl ?_
  exact fq_end
 refine rt_act rfl rfl ?_
 have hA8 := Step.r0 (KN s1.n) s2
 obtain ⟨x1, hx1, h⟩ := ob h
 refine k_call cal50 rfl (ref05_Size_w  (SL.of_R hp1) hx1) rfl ?_
 rintro s9 vr9 st9 rfl
 have szs9 := st9.size
 have hS := hS.trans0 st9
 have hA8 := hA8.trans0 st9
 replace hp1 := hp1.up2 st9
 replace hwo0_0 := hwo0_0.up2 st9
 replace hwo0_1 := hwo0_1.up2 st9
 replace hb_o0 := hb_o0.up2 st9
 replace hq2_0 := hq2_0.up2 st9
 replace h1 := h1.up2 st9
 refine rt_cont hA8 ?_
 refine rt_fin ?_
 refine k_gtr rfl rfl rfl ?_
 refine k_nil ?_
 refine k_keep [(0, _), (1, _), (5, _), (6, _), (13, _)] ⟨rfl, rfl, rfl, rfl, rfl, trivial⟩ ?_
 refine k_cond_dec rfl (fun c10 => ?_) (fun c10 => ?_)
 ·
  have h := itT h c10
  refine k_seq ?_
  refine k_region ?_
  refine k_assign rfl rfl ?_
  refine k_nil ?_
  refine k_keep [(0, _), (1, _), (5, _), (6, _)] ⟨rfl, rfl, rfl, rfl, trivial⟩ ?_
  refine k_ret ?_
  obtain rfl := Option.some.inj h
  refine ⟨_, rfl, Ret.mk hS ?_⟩
  exact ⟨rfl, (ORef05Disk.mk_ a0 (by omega) hwo0_0 hwo0_1 hb_o0)⟩
 ·
  have h := itF h c10
  refine k_skip ?_
  refine k_seq ?_
  refine k_region ?_
  refine k_move rfl rfl ?_
  refine k_bslice2 (ds := ([] : List (List Ref05File)).map (dL 2 dRef05File)) slc64 rfl RVs.nil (by rfl) (by rfl) rfl rfl ?_
  intro s11 v11 b11 st11 ge11 bl11 h11
  have szs11 := st11.size
  have hS := hS.trans0 st11
  replace hp1 := hp1.up2 st11
  replace hwo0_0 := hwo0_0.up2 st11
  replace hwo0_1 := hwo0_1.up2 st11
  replace hb_o0 := hb_o0.up2 st11
  replace hq2_0 := hq2_0.up2 st11
  replace h1 := h1.up2 st11
  have lt11 := Own.le1 h11
  refine k_move rfl rfl ?_
  refine k_nilCheck rfl rfl ?_
  refine k_field_addr fld68_2 rfl rfl ?_
  refine k_load_blk one64 rfl hb_o0 rfl rfl ?_
  obtain ⟨x2, hx2, h⟩ := ob h
  refine k_append (es := a0.Pictures.map (dL 2 dRef05File)) elem64 rfl rfl h11 (SL.of_R hwo0_0) (by have := (app_out hx2).1; simp only [List.length_map] at *; omega) (by have := (app_out hx2).1; simp only [List.length_map] at *; omega) rfl ?_
  intro s12 v12 st12 h12
  rw [← List.map_append, ← (app_out hx2).2] at h12
  have szs12 := st12.size
  have hS := hS.c0 st12
  replace hp1 := hp1.up2 st12
  replace hwo0_1 := hwo0_1.up2 st12
  replace hb_o0 := hb_o0.up2 st12
  replace hq2_0 := hq2_0.up2 st12
  replace h1 := h1.up2 st12
  refine k_move rfl rfl ?_
  refine k_bslice2 (ds := ([a1] : List (List Ref05File)).map (dL 2 dRef05File)) slc64 rfl (RVs.cons hp1 RVs.nil) (by rfl) (by rfl) rfl rfl ?_
  intro s13 v13 b13 st13 ge13 bl13 h13
  have szs13 := st13.size
  have hS := hS.trans0 st13
  replace hwo0_1 := hwo0_1.up2 st13
  replace hb_o0 := hb_o0.up2 st13
  replace hq2_0 := hq2_0.up2 st13
  replace h1 := h1.up2 st13
  replace h12 := h12.up2 st13
  have lt13 := Own.le1 h13
  obtain ⟨x3, hx3, h⟩ := ob h
  refine k_append (es := ([a1] : List (List Ref05File)).map (dL 2 dRef05File)) elem64 rfl rfl h12 (h13.sl) (by have := (app_out hx3).1; simp only [List.length_map] at *; omega) (by have := (app_out hx3).1; simp only [List.length_map] at *; omega) rfl ?_
  intro s14 v14 st14 h14
  rw [← List.map_append, ← (app_out hx3).2] at h14
  have szs14 := st14.size
  have hS := hS.c0 st14
  replace hwo0_1 := hwo0_1.up2 st14
  replace hb_o0 := hb_o0.up2 st14
  replace hq2_0 := hq2_0.up2 st14
  replace h1 := h1.up2 st14
  refine k_nilCheck rfl rfl ?_
  refine k_field_addr fld68_2 rfl rfl ?_
  refine k_store_c (cs' := [.int .i64 a0.Most, .bool a0.Off, v14, wo0_1, .int .i64 a0.Fuse.e0, .int .i64 a0.Fuse.e1, .int .i64 a0.Fuse.e2]) size64 rfl rfl hb_o0 (by first | (simp; done) | omega | (dsimp only; omega)) (CellsOf.sl (h14.sl)) rfl (by first | rfl | (simp; done) | (simp; omega)) rfl ?_
  intro s15 st15 hb_o0
  have szs15 := st15.size
  have hS := hS.c0 st15
  replace hwo0_1 := hwo0_1.up2 st15
  replace hq2_0 := hq2_0.up2 st15
  replace h1 := h1.up2 st15
  replace h14 := h14.up2 st15
  refine k_nil ?_
  refine k_keep [(0, _), (5, _), (6, _)] ⟨rfl, rfl, rfl, trivial⟩ ?_
  refine k_seq ?_
  obtain ⟨x4, hx4, h⟩ := ob h
  obtain ⟨x5, hx5, h⟩ := ob h
  refine k_drawT (KN s15.n) 10 (.read 0 (.read 2 (.read 3 (.read 4 (.read 5 (.read 7 (.alt 1 (.alt 6 (.alt 8 (.alt 9 .fin .no) .no) (.alt 8 (.alt 6 (.alt 9 .fin .no) .no) .no)) (.alt 8 (.alt 1 (.alt 6 (.alt 9 .fin .no) .no) .no) .no)))))))) mixed (by intro c h; (try simp only [KC, KO, KU, KN, KB] at h) <;> omega) rfl rfl rfl ?_
  intro s16 st16
  have szs16 := st16.size
  have hS := hS.trans0 st16
  replace hwo0_1 := hwo0_1.up2 st16
  replace hb_o0 := hb_o0.up2 st16
  replace hq2_0 := hq2_0.up2 st16
  replace h1 := h1.up2 st16
  replace h14 := h14.up2 st16
  refine rt_read (.pointer (some ⟨bo0, 0, none⟩)) rfl rfl (fun s17 st17 => ?_) ?_
  ·refine k_move rfl rfl ?_
   exact fq_end
  refine rt_read (.pointer (some ⟨bo0, 0, none⟩)) rfl rfl (fun s18 st18 => ?_) ?_
  ·refine k_move rfl rfl ?_
   exact fq_end
  refine rt_read (.pointer (some ⟨bo0, 0, none⟩)) rfl rfl (fun s19 st19 => ?_) ?_
  ·refine k_nilCheck rfl rfl ?_
   exact fq_end
  refine rt_read (.pointer (some ⟨bo0, 3, none⟩)) rfl rfl (fun s20 st20 => ?_) ?_
  ·refine k_field_addr fld68_3 rfl rfl ?_
   exact fq_end
  refine rt_read (wo0_1) rfl rfl (fun s21 st21 => ?_) ?_
  ·try replace hb_o0 := hb_o0.up2 st21
   refine k_load_blk one65 rfl hb_o0 rfl rfl ?_
   exact fq_end
  refine rt_read (.agg #[S a2.Name, q2_0]) rfl rfl (fun s22 st22 => ?_) ?_
  ·try replace h1 := h1.up2 st22
   refine k_load_blka (cs := [S a2.Name, q2_0]) agg87 rfl h1 rfl ?_
   exact fq_end
  refine rt_alt rfl rfl ?_ ?_
  ·
   have hA23 := Step.r0 (KN s15.n) s16
   refine k_bslice2 (ds := ([] : List Ref05File).map dRef05File) slc65 rfl RVs.nil (by rfl) (by rfl) rfl rfl ?_
   intro s24 v24 b24 st24 ge24 bl24 h24
   have szs24 := st24.size
   have hS := hS.trans0 st24
   have hA23 := hA23.trans0 st24
   replace hwo0_1 := hwo0_1.up2 st24
   replace hq2_0 := hq2_0.up2 st24
   replace hb_o0 := hb_o0.up2 st24
   replace h14 := h14.up2 st24
   have lt24 := Own.le1 h24
   refine rt_cont hA23 ?_
   refine rt_alt rfl rfl ?_ ?_
   ·
    have hA25 := Step.r0 (KN s15.n) s24
    refine k_append (es := a0.Made.map dRef05File) elem65 rfl rfl h24 (SL.of_R hwo0_1) (by have := (app_out hx4).1; simp only [List.length_map] at *; omega) (by have := (app_out hx4).1; simp only [List.length_map] at *; omega) rfl ?_
    intro s26 v26 st26 h26
    rw [← List.map_append, ← (app_out hx4).2] at h26
    have szs26 := st26.size
    have hS := hS.c0 st26
    have hA25 := hA25.c0 st26
    replace hq2_0 := hq2_0.up2 st26
    replace hb_o0 := hb_o0.up2 st26
    replace h14 := h14.up2 st26
    refine rt_cont hA25 ?_
    refine rt_act rfl rfl ?_
    have hA27 := Step.r0 (KN s15.n) s26
    refine k_bslice2 (ds := ([a2] : List Ref05File).map dRef05File) slc65 rfl (RVs.cons ⟨_, rfl, (clsRef05File a2 hq2_0)⟩ RVs.nil) (by rfl) (by rfl) rfl rfl ?_
    intro s28 v28 b28 st28 ge28 bl28 h28
    have szs28 := st28.size
    have hS := hS.trans0 st28
    have hA27 := hA27.trans0 st28
    replace hb_o0 := hb_o0.up2 st28
    replace h14 := h14.up2 st28
    replace h26 := h26.up2 st28
    have lt28 := Own.le1 h28
    refine rt_cont hA27 ?_
    refine rt_act rfl rfl ?_
    have hA29 := Step.r0 (KN s15.n) s28
    refine k_append (es := ([a2] : List Ref05File).map dRef05File) elem65 rfl rfl h26 (h28.sl) (by have := (app_out hx5).1; simp only [List.length_map] at *; omega) (by have := (app_out hx5).1; simp only [List.length_map] at *; omega) rfl ?_
    intro s30 v30 st30 h30
    rw [← List.map_append, ← (app_out hx5).2] at h30
    have szs30 := st30.size
    have hS := hS.c0 st30
    have hA29 := hA29.c0 st30
    replace hb_o0 := hb_o0.up2 st30
    replace h14 := h14.up2 st30
    refine rt_cont hA29 ?_
    refine rt_fin ?_
    refine k_nilCheck rfl rfl ?_
    refine k_field_addr fld68_3 rfl rfl ?_
    refine k_store_c (cs' := [.int .i64 a0.Most, .bool a0.Off, v14, v30, .int .i64 a0.Fuse.e0, .int .i64 a0.Fuse.e1, .int .i64 a0.Fuse.e2]) size65 rfl rfl hb_o0 (by first | (simp; done) | omega | (dsimp only; omega)) (CellsOf.sl (h30.sl)) rfl (by first | rfl | (simp; done) | (simp; omega)) rfl ?_
    intro s31 st31 hb_o0
    have szs31 := st31.size
    have hS := hS.c0 st31
    replace h14 := h14.up2 st31
    replace h30 := h30.up2 st31
    refine k_nil ?_
    refine k_keep [(0, _), (6, _)] ⟨rfl, rfl, trivial⟩ ?_
    refine k_seq ?_
    refine k_region ?_
    refine k_move rfl rfl ?_
    obtain ⟨s32, e32, st32, h32⟩ := h14.freeze
    rw [← e32]
    have szs32 := st32.size
    have hS := hS.c0 st32
    replace hb_o0 := hb_o0.up2 st32
    replace h30 := h30.up2 st32
    obtain ⟨s33, e33, st33, h33⟩ := h30.freeze
    rw [← e33]
    have szs33 := st33.size
    have hS := hS.c0 st33
    replace h32 := h32.up2 st33
    replace hb_o0 := hb_o0.up2 st33
    obtain ⟨x6, hx6, h⟩ := ob h
    refine k_call cal65 rfl (ref05_Disk_burn_w  (ORef05Disk.mk_ (⟨a0.Most, a0.Off, x3, x5, a0.Fuse⟩ : Ref05Disk) (by omega) h32 h33 hb_o0) hx6) rfl ?_
    rintro s34 vr34 st34 ⟨rfl, hm34_0⟩
    obtain ⟨w34_0_0, w34_0_1, hb_34_0, hw34_0_0, hw34_0_1⟩ := hm34_0.at_
    have szs34 := st34.size
    have hS := hS.c0 st34
    refine k_assign rfl rfl ?_
    refine k_nil ?_
    refine k_keep [(6, _)] ⟨rfl, trivial⟩ ?_
    refine k_ret ?_
    obtain rfl := Option.some.inj h
    refine ⟨_, rfl, Ret.mk hS ?_⟩
    exact ⟨rfl, (ORef05Disk.mk_ x6.2 (by omega) hw34_0_0 hw34_0_1 hb_34_0)⟩
   ·
    refine rt_act rfl rfl ?_
    have hA35 := Step.r0 (KN s15.n) s24
    refine k_bslice2 (ds := ([a2] : List Ref05File).map dRef05File) slc65 rfl (RVs.cons ⟨_, rfl, (clsRef05File a2 hq2_0)⟩ RVs.nil) (by rfl) (by rfl) rfl rfl ?_
    intro s36 v36 b36 st36 ge36 bl36 h36
    have szs36 := st36.size
    have hS := hS.trans0 st36
    have hA35 := hA35.trans0 st36
    replace hwo0_1 := hwo0_1.up2 st36
    replace hb_o0 := hb_o0.up2 st36
    replace h14 := h14.up2 st36
    replace h24 := h24.up2 st36
    have lt36 := Own.le1 h36
    refine rt_cont hA35 ?_
    refine rt_act rfl rfl ?_
    have hA37 := Step.r0 (KN s15.n) s36
    refine k_append (es := a0.Made.map dRef05File) elem65 rfl rfl h24 (SL.of_R hwo0_1) (by have := (app_out hx4).1; simp only [List.length_map] at *; omega) (by have := (app_out hx4).1; simp only [List.length_map] at *; omega) rfl ?_
    intro s38 v38 st38 h38
    rw [← List.map_append, ← (app_out hx4).2] at h38
    have szs38 := st38.size
    have hS := hS.c0 st38
    have hA37 := hA37.c0 st38
    replace hb_o0 := hb_o0.up2 st38
    replace h14 := h14.up2 st38
    replace h36 := h36.up2 st38
    refine rt_cont hA37 ?_
    refine rt_act rfl rfl ?_
    have hA39 := Step.r0 (KN s15.n) s38
    refine k_append (es := ([a2] : List Ref05File).map dRef05File) elem65 rfl rfl h38 (h36.sl) (by have := (app_out hx5).1; simp only [List.length_map] at *; omega) (by have := (app_out hx5).1; simp only [List.length_map] at *; omega) rfl ?_
    intro s40 v40 st40 h40
    rw [← List.map_append, ← (app_out hx5).2] at h40
    have szs40 := st40.size
    have hS := hS.c0 st40
    have hA39 := hA39.c0 st40
    replace hb_o0 := hb_o0.up2 st40
    replace h14 := h14.up2 st40
    refine rt_cont hA39 ?_
    refine rt_fin ?_
    refine k_nilCheck rfl rfl ?_
    refine k_field_addr fld68_3 rfl rfl ?_
    refine k_store_c (cs' := [.int .i64 a0.Most, .bool a0.Off, v14, v40, .int .i64 a0.Fuse.e0, .int .i64 a0.Fuse.e1, .int .i64 a0.Fuse.e2]) size65 rfl rfl hb_o0 (by first | (simp; done) | omega | (dsimp only; omega)) (CellsOf.sl (h40.sl)) rfl (by first | rfl | (simp; done) | (simp; omega)) rfl ?_
    intro s41 st41 hb_o0
    have szs41 := st41.size
    have hS := hS.c0 st41
    replace h14 := h14.up2 st41
    replace h40 := h40.up2 st41
    refine k_nil ?_
    refine k_keep [(0, _), (6, _)] ⟨rfl, rfl, trivial⟩ ?_
    refine k_seq ?_
    refine k_region ?_
    refine k_move rfl rfl ?_
    obtain ⟨s42, e42, st42, h42⟩ := h14.freeze
    rw [← e42]
    have szs42 := st42.size
    have hS := hS.c0 st42
    replace hb_o0 := hb_o0.up2 st42
    replace h40 := h40.up2 st42
    obtain ⟨s43, e43, st43, h43⟩ := h40.freeze
    rw [← e43]
    have szs43 := st43.size
    have hS := hS.c0 st43
    replace h42 := h42.up2 st43
    replace hb_o0 := hb_o0.up2 st43
    obtain ⟨x7, hx7, h⟩ := ob h
    refine k_call cal65 rfl (ref05_Disk_burn_w  (ORef05Disk.mk_ (⟨a0.Most, a0.Off, x3, x5, a0.Fuse⟩ : Ref05Disk) (by omega) h42 h43 hb_o0) hx7) rfl ?_
    rintro s44 vr44 st44 ⟨rfl, hm44_0⟩
    obtain ⟨w44_0_0, w44_0_1, hb_44_0, hw44_0_0, hw44_0_1⟩ := hm44_0.at_
    have szs44 := st44.size
    have hS := hS.c0 st44
    refine k_assign rfl rfl ?_
    refine k_nil ?_
    refine k_keep [(6, _)] ⟨rfl, trivial⟩ ?_
    refine k_ret ?_
    obtain rfl := Option.some.inj h
    refine ⟨_, rfl, Ret.mk hS ?_⟩
    exact ⟨rfl, (ORef05Disk.mk_ x7.2 (by omega) hw44_0_0 hw44_0_1 hb_44_0)⟩
  ·
   refine rt_act rfl rfl ?_
   have hA45 := Step.r0 (KN s15.n) s16
   refine k_bslice2 (ds := ([a2] : List Ref05File).map dRef05File) slc65 rfl (RVs.cons ⟨_, rfl, (clsRef05File a2 hq2_0)⟩ RVs.nil) (by rfl) (by rfl) rfl rfl ?_
   intro s46 v46 b46 st46 ge46 bl46 h46
   have szs46 := st46.size
   have hS := hS.trans0 st46
   have hA45 := hA45.trans0 st46
   replace hwo0_1 := hwo0_1.up2 st46
   replace hb_o0 := hb_o0.up2 st46
   replace h14 := h14.up2 st46
   have lt46 := Own.le1 h46
   refine rt_cont hA45 ?_
   refine rt_act rfl rfl ?_
   have hA47 := Step.r0 (KN s15.n) s46
   refine k_bslice2 (ds := ([] : List Ref05File).map dRef05File) slc65 rfl RVs.nil (by rfl) (by rfl) rfl rfl ?_
   intro s48 v48 b48 st48 ge48 bl48 h48
   have szs48 := st48.size
   have hS := hS.trans0 st48
   have hA47 := hA47.trans0 st48
   replace hwo0_1 := hwo0_1.up2 st48
   replace hb_o0 := hb_o0.up2 st48
   replace h14 := h14.up2 st48
   replace h46 := h46.up2 st48
   have lt48 := Own.le1 h48
   refine rt_cont hA47 ?_
   refine rt_act rfl rfl ?_
   have hA49 := Step.r0 (KN s15.n) s48
   refine k_append (es := a0.Made.map dRef05File) elem65 rfl rfl h48 (SL.of_R hwo0_1) (by have := (app_out hx4).1; simp only [List.length_map] at *; omega) (by have := (app_out hx4).1; simp only [List.length_map] at *; omega) rfl ?_
   intro s50 v50 st50 h50
   rw [← List.map_append, ← (app_out hx4).2] at h50
   have szs50 := st50.size
   have hS := hS.c0 st50
   have hA49 := hA49.c0 st50
   replace hb_o0 := hb_o0.up2 st50
   replace h14 := h14.up2 st50
   replace h46 := h46.up2 st50
   refine rt_cont hA49 ?_
   refine rt_act rfl rfl ?_
   have hA51 := Step.r0 (KN s15.n) s50
   refine k_append (es := ([a2] : List Ref05File).map dRef05File) elem65 rfl rfl h50 (h46.sl) (by have := (app_out hx5).1; simp only [List.length_map] at *; omega) (by have := (app_out hx5).1; simp only [List.length_map] at *; omega) rfl ?_
   intro s52 v52 st52 h52
   rw [← List.map_append, ← (app_out hx5).2] at h52
   have szs52 := st52.size
   have hS := hS.c0 st52
   have hA51 := hA51.c0 st52
   replace hb_o0 := hb_o0.up2 st52
   replace h14 := h14.up2 st52
   refine rt_cont hA51 ?_
   refine rt_fin ?_
   refine k_nilCheck rfl rfl ?_
   refine k_field_addr fld68_3 rfl rfl ?_
   refine k_store_c (cs' := [.int .i64 a0.Most, .bool a0.Off, v14, v52, .int .i64 a0.Fuse.e0, .int .i64 a0.Fuse.e1, .int .i64 a0.Fuse.e2]) size65 rfl rfl hb_o0 (by first | (simp; done) | omega | (dsimp only; omega)) (CellsOf.sl (h52.sl)) rfl (by first | rfl | (simp; done) | (simp; omega)) rfl ?_
   intro s53 st53 hb_o0
   have szs53 := st53.size
   have hS := hS.c0 st53
   replace h14 := h14.up2 st53
   replace h52 := h52.up2 st53
   refine k_nil ?_
   refine k_keep [(0, _), (6, _)] ⟨rfl, rfl, trivial⟩ ?_
   refine k_seq ?_
   refine k_region ?_
   refine k_move rfl rfl ?_
   obtain ⟨s54, e54, st54, h54⟩ := h14.freeze
   rw [← e54]
   have szs54 := st54.size
   have hS := hS.c0 st54
   replace hb_o0 := hb_o0.up2 st54
   replace h52 := h52.up2 st54
   obtain ⟨s55, e55, st55, h55⟩ := h52.freeze
   rw [← e55]
   have szs55 := st55.size
   have hS := hS.c0 st55
   replace h54 := h54.up2 st55
   replace hb_o0 := hb_o0.up2 st55
   obtain ⟨x8, hx8, h⟩ := ob h
   refine k_call cal65 rfl (ref05_Disk_burn_w  (ORef05Disk.mk_ (⟨a0.Most, a0.Off, x3, x5, a0.Fuse⟩ : Ref05Disk) (by omega) h54 h55 hb_o0) hx8) rfl ?_
   rintro s56 vr56 st56 ⟨rfl, hm56_0⟩
   obtain ⟨w56_0_0, w56_0_1, hb_56_0, hw56_0_0, hw56_0_1⟩ := hm56_0.at_
   have szs56 := st56.size
   have hS := hS.c0 st56
   refine k_assign rfl rfl ?_
   refine k_nil ?_
   refine k_keep [(6, _)] ⟨rfl, trivial⟩ ?_
   refine k_ret ?_
   obtain rfl := Option.some.inj h
   refine ⟨_, rfl, Ret.mk hS ?_⟩
   exact ⟨rfl, (ORef05Disk.mk_ x8.2 (by omega) hw56_0_0 hw56_0_1 hb_56_0)⟩

set_option maxHeartbeats 1000000 in
set_option maxRecDepth 100000 in
theorem ref05_Disk_Append_w {s : St} {k0 : Nat} {p0 : Value} {a0 : Ref05Disk} {a1 : (List UInt8)} {l2 : Lab} {v2 : Value} {a2 : (List UInt8)} {r : (Int × Ref05Disk)} (ho0 : ORef05Disk s k0 p0 a0) (hp2 : SL s l2 v2 1 (a2.map bD)) (hl2_k0 : l2.o ≠ k0) (h : ref05_Disk_Append a0 a1 a2 = some r) : Calls Tryd.prog 40 #[p0, S a1, v2] s.w (Ret s (KO k0) (fun s1 v => v = .int .i64 r.1 ∧ ORef05Disk s1 k0 p0 r.2)) := by
 unfold ref05_Disk_Append at h
 have le0 := ho0.le
 have ne0 := ho0.ne
 obtain ⟨lf2, lf2le, lf2ne, hp2⟩ := hp2.fix
 have lfn2_k0 := lf2ne k0 hl2_k0 (by omega)
 have hS := Step.r0 (KO k0) s
 refine k_fn (rs := [6]) (args := [p0, S a1, v2]) Tryd.func40 rfl rfl rfl rfl ?_
 refine k_seq ?_
 refine k_region ?_
 refine k_assign rfl rfl ?_
 refine k_nil ?_
 refine k_seq ?_
 refine k_seq ?_
 refine k_region ?_
 refine k_move rfl rfl ?_
 refine k_move rfl rfl ?_
 refine k_move rfl rfl ?_
 obtain ⟨x1, hx1, h⟩ := ob h
 refine k_call cal60 rfl (ref05_Disk_asks_w  ho0 hx1) rfl ?_
 rintro s1 vr1 st1 rfl
 have szs1 := st1.size
 have hS := hS.trans0 st1
 replace hp2 := hp2.up2 st1
 replace ho0 := ho0.up2 st1
 refine k_assign rfl rfl ?_
 refine k_nil ?_
 refine k_keep [(0, _), (1, _), (2, _), (6, _), (7, _)] ⟨rfl, rfl, rfl, rfl, rfl, trivial⟩ ?_
 refine k_seq ?_
 refine k_region ?_
 refine k_move rfl rfl ?_
 refine k_neq rfl rfl rfl ?_
 refine k_nil ?_
 refine k_keep [(0, _), (1, _), (2, _), (6, _), (7, _), (13, _)] ⟨rfl, rfl, rfl, rfl, rfl, rfl, trivial⟩ ?_
 refine k_cond_dec rfl (fun c2 => ?_) (fun c2 => ?_)
 ·
  have h := itT h c2
  refine k_seq ?_
  refine k_region ?_
  refine k_move rfl rfl ?_
  refine k_assign rfl rfl ?_
  refine k_nil ?_
  refine k_keep [(0, _), (1, _), (2, _), (6, _)] ⟨rfl, rfl, rfl, rfl, trivial⟩ ?_
  refine k_ret ?_
  obtain rfl := Option.some.inj h
  refine ⟨_, rfl, Ret.mk hS ?_⟩
  exact ⟨rfl, ho0⟩
 ·
  have h := itF h c2
  refine k_skip ?_
  refine k_seq ?_
  refine k_region ?_
  refine k_move rfl rfl ?_
  refine k_move rfl rfl ?_
  obtain ⟨x2, hx2, h⟩ := ob h
  refine k_call cal49 rfl (ref05_Disk_Seen_w  ho0 hx2) rfl ?_
  rintro s3 v3_0 st3 ⟨_, rfl, h3_0⟩
  have szs3 := st3.size
  have hS := hS.trans0 st3
  replace hp2 := hp2.up2 st3
  replace ho0 := ho0.up2 st3
  refine k_move rfl rfl ?_
  refine k_move rfl rfl ?_
  obtain ⟨x3, hx3, h⟩ := ob h
  refine k_call cal62 rfl (ref05_Added_w  (SL.of_R h3_0) hp2 hx3) rfl ?_
  rintro s4 v4_0 st4 ⟨_, rfl, h4_0⟩
  have szs4 := st4.size
  have hS := hS.trans0 st4
  replace hp2 := hp2.up2 st4
  replace ho0 := ho0.up2 st4
  refine k_move rfl rfl ?_
  refine k_bslice2 (ds := ([] : List UInt8).map bD) slc29 rfl RVs.nil (by rfl) (by rfl) rfl rfl ?_
  intro s5 v5 b5 st5 ge5 bl5 h5
  have szs5 := st5.size
  have hS := hS.trans0 st5
  replace hp2 := hp2.up2 st5
  replace h4_0 := h4_0.up2 st5
  replace ho0 := ho0.up2 st5
  have lt5 := Own.le1 h5
  refine k_move rfl rfl ?_
  obtain ⟨x4, hx4, h⟩ := ob h
  refine k_append (es := a2.map bD) elem29 rfl rfl h5 hp2 (by have := (app_out hx4).1; simp only [List.length_map] at *; omega) (by have := (app_out hx4).1; simp only [List.length_map] at *; omega) rfl ?_
  intro s6 v6 st6 h6
  rw [← List.map_append, ← (app_out hx4).2] at h6
  have szs6 := st6.size
  have hS := hS.c0 st6
  replace h4_0 := h4_0.up2 st6
  replace ho0 := ho0.up2 st6
  refine k_build plc87 zero87 rfl (Parts.cons (CellsOf.lit rfl rfl).1 (Parts.cons (CellsOf.sl (h6.sl)).1 Parts.nil)) (by rfl) rfl ?_
  refine k_as (v := .agg #[S a1, v6]) rfl ?_
  obtain ⟨s7, e7, st7, h7⟩ := h6.freeze
  rw [← e7]
  have szs7 := st7.size
  have hS := hS.c0 st7
  replace h4_0 := h4_0.up2 st7
  replace ho0 := ho0.up2 st7
  obtain ⟨x5, hx5, h⟩ := ob h
  refine k_call cal61 rfl (ref05_Disk_next_w  ho0 (show R s7 v4_0 (.sl 2 (x3.map dRef05File)) from h4_0) (clsRef05File (⟨a1, x4⟩ : Ref05File) h7) hx5) rfl ?_
  rintro s8 vr8 st8 ⟨rfl, ho0⟩
  have szs8 := st8.size
  have hS := hS.c0 st8
  refine k_assign rfl rfl ?_
  refine k_nil ?_
  refine k_keep [(6, _)] ⟨rfl, trivial⟩ ?_
  refine k_ret ?_
  obtain rfl := Option.some.inj h
  refine ⟨_, rfl, Ret.mk hS ?_⟩
  exact ⟨rfl, ho0⟩

set_option maxHeartbeats 1000000 in
set_option maxRecDepth 100000 in
theorem ref05_Disk_Put_w {s : St} {k0 : Nat} {p0 : Value} {a0 : Ref05Disk} {a1 : (List UInt8)} {l2 : Lab} {v2 : Value} {a2 : (List UInt8)} {r : (Int × Ref05Disk)} (ho0 : ORef05Disk s k0 p0 a0) (hp2 : SL s l2 v2 1 (a2.map bD)) (hl2_k0 : l2.o ≠ k0) (h : ref05_Disk_Put a0 a1 a2 = some r) : Calls Tryd.prog 41 #[p0, S a1, v2] s.w (Ret s (KO k0) (fun s1 v => v = .int .i64 r.1 ∧ ORef05Disk s1 k0 p0 r.2)) := by
 unfold ref05_Disk_Put at h
 have le0 := ho0.le
 have ne0 := ho0.ne
 obtain ⟨lf2, lf2le, lf2ne, hp2⟩ := hp2.fix
 have lfn2_k0 := lf2ne k0 hl2_k0 (by omega)
 have hS := Step.r0 (KO k0) s
 refine k_fn (rs := [6]) (args := [p0, S a1, v2]) Tryd.func41 rfl rfl rfl rfl ?_
 refine k_seq ?_
 refine k_region ?_
 refine k_assign rfl rfl ?_
 refine k_nil ?_
 refine k_seq ?_
 refine k_seq ?_
 refine k_region ?_
 refine k_move rfl rfl ?_
 refine k_move rfl rfl ?_
 refine k_move rfl rfl ?_
 obtain ⟨x1, hx1, h⟩ := ob h
 refine k_call cal60 rfl (ref05_Disk_asks_w  ho0 hx1) rfl ?_
 rintro s1 vr1 st1 rfl
 have szs1 := st1.size
 have hS := hS.trans0 st1
 replace hp2 := hp2.up2 st1
 replace ho0 := ho0.up2 st1
 refine k_assign rfl rfl ?_
 refine k_nil ?_
 refine k_keep [(0, _), (1, _), (2, _), (6, _), (7, _)] ⟨rfl, rfl, rfl, rfl, rfl, trivial⟩ ?_
 refine k_seq ?_
 refine k_region ?_
 refine k_move rfl rfl ?_
 refine k_neq rfl rfl rfl ?_
 refine k_nil ?_
 refine k_keep [(0, _), (1, _), (2, _), (6, _), (7, _), (13, _)] ⟨rfl, rfl, rfl, rfl, rfl, rfl, trivial⟩ ?_
 refine k_cond_dec rfl (fun c2 => ?_) (fun c2 => ?_)
 ·
  have h := itT h c2
  refine k_seq ?_
  refine k_region ?_
  refine k_move rfl rfl ?_
  refine k_assign rfl rfl ?_
  refine k_nil ?_
  refine k_keep [(0, _), (1, _), (2, _), (6, _)] ⟨rfl, rfl, rfl, rfl, trivial⟩ ?_
  refine k_ret ?_
  obtain rfl := Option.some.inj h
  refine ⟨_, rfl, Ret.mk hS ?_⟩
  exact ⟨rfl, ho0⟩
 ·
  have h := itF h c2
  refine k_skip ?_
  refine k_seq ?_
  refine k_region ?_
  refine k_move rfl rfl ?_
  refine k_move rfl rfl ?_
  obtain ⟨x2, hx2, h⟩ := ob h
  refine k_call cal49 rfl (ref05_Disk_Seen_w  ho0 hx2) rfl ?_
  rintro s3 v3_0 st3 ⟨_, rfl, h3_0⟩
  have szs3 := st3.size
  have hS := hS.trans0 st3
  replace hp2 := hp2.up2 st3
  replace ho0 := ho0.up2 st3
  refine k_move rfl rfl ?_
  refine k_move rfl rfl ?_
  obtain ⟨x3, hx3, h⟩ := ob h
  refine k_call cal63 rfl (ref05_With_w  (SL.of_R h3_0) hp2 hx3) rfl ?_
  rintro s4 v4_0 st4 ⟨_, rfl, h4_0⟩
  have szs4 := st4.size
  have hS := hS.trans0 st4
  replace ho0 := ho0.up2 st4
  refine k_build plc87 zero87 rfl Parts.nil (by rfl) rfl ?_
  refine k_as (v := .agg #[S ([] : List UInt8), .slice none 0 0]) rfl ?_
  obtain ⟨x4, hx4, h⟩ := ob h
  refine k_call cal61 rfl (ref05_Disk_next_w  ho0 (show R s4 v4_0 (.sl 2 (x3.map dRef05File)) from h4_0) (clsRef05File (⟨([] : List UInt8), []⟩ : Ref05File) (R.of_SL (.inl ⟨rfl, none, 0, rfl, fun _ => rfl⟩))) hx4) rfl ?_
  rintro s5 vr5 st5 ⟨rfl, ho0⟩
  have szs5 := st5.size
  have hS := hS.c0 st5
  refine k_assign rfl rfl ?_
  refine k_nil ?_
  refine k_keep [(6, _)] ⟨rfl, trivial⟩ ?_
  refine k_ret ?_
  obtain rfl := Option.some.inj h
  refine ⟨_, rfl, Ret.mk hS ?_⟩
  exact ⟨rfl, ho0⟩

set_option maxHeartbeats 1000000 in
set_option maxRecDepth 100000 in
theorem ref05_Disk_Rename_w {s : St} {k0 : Nat} {p0 : Value} {a0 : Ref05Disk} {a1 : (List UInt8)} {a2 : (List UInt8)} {r : (Int × Ref05Disk)} (ho0 : ORef05Disk s k0 p0 a0) (h : ref05_Disk_Rename a0 a1 a2 = some r) : Calls Tryd.prog 42 #[p0, S a1, S a2] s.w (Ret s (KO k0) (fun s1 v => v = .int .i64 r.1 ∧ ORef05Disk s1 k0 p0 r.2)) := by
 unfold ref05_Disk_Rename at h
 have le0 := ho0.le
 have ne0 := ho0.ne
 have hS := Step.r0 (KO k0) s
 refine k_fn (rs := [6]) (args := [p0, S a1, S a2]) Tryd.func42 rfl rfl rfl rfl ?_
 refine k_seq ?_
 refine k_region ?_
 refine k_assign rfl rfl ?_
 refine k_nil ?_
 refine k_seq ?_
 refine k_seq ?_
 refine k_region ?_
 refine k_move rfl rfl ?_
 refine k_move rfl rfl ?_
 refine k_move rfl rfl ?_
 obtain ⟨x1, hx1, h⟩ := ob h
 refine k_call cal60 rfl (ref05_Disk_asks_w  ho0 hx1) rfl ?_
 rintro s1 vr1 st1 rfl
 have szs1 := st1.size
 have hS := hS.trans0 st1
 replace ho0 := ho0.up2 st1
 refine k_assign rfl rfl ?_
 refine k_nil ?_
 refine k_keep [(0, _), (1, _), (2, _), (6, _), (7, _)] ⟨rfl, rfl, rfl, rfl, rfl, trivial⟩ ?_
 refine k_seq ?_
 refine k_region ?_
 refine k_move rfl rfl ?_
 refine k_neq rfl rfl rfl ?_
 refine k_nil ?_
 refine k_keep [(0, _), (1, _), (2, _), (6, _), (7, _), (15, _)] ⟨rfl, rfl, rfl, rfl, rfl, rfl, trivial⟩ ?_
 refine k_cond_dec rfl (fun c2 => ?_) (fun c2 => ?_)
 ·
  have h := itT h c2
  refine k_seq ?_
  refine k_region ?_
  refine k_move rfl rfl ?_
  refine k_assign rfl rfl ?_
  refine k_nil ?_
  refine k_keep [(0, _), (1, _), (2, _), (6, _)] ⟨rfl, rfl, rfl, rfl, trivial⟩ ?_
  refine k_ret ?_
  obtain rfl := Option.some.inj h
  refine ⟨_, rfl, Ret.mk hS ?_⟩
  exact ⟨rfl, ho0⟩
 ·
  have h := itF h c2
  refine k_skip ?_
  refine k_seq ?_
  refine k_region ?_
  refine k_move rfl rfl ?_
  obtain ⟨x2, hx2, h⟩ := ob h
  refine k_call cal49 rfl (ref05_Disk_Seen_w  ho0 hx2) rfl ?_
  rintro s3 v3_0 st3 ⟨_, rfl, h3_0⟩
  have szs3 := st3.size
  have hS := hS.trans0 st3
  replace ho0 := ho0.up2 st3
  refine k_move rfl rfl ?_
  obtain ⟨x3, hx3, h⟩ := ob h
  refine k_call cal64 rfl (ref05_Find_w  (SL.of_R h3_0) hx3) rfl ?_
  rintro s4 vr4 st4 ⟨v4_0, rfl, h4_0⟩
  have szs4 := st4.size
  have hS := hS.trans0 st4
  replace ho0 := ho0.up2 st4
  refine k_move rfl rfl ?_
  refine k_extract rfl rfl rfl ?_
  refine k_extract rfl rfl rfl ?_
  refine k_assign rfl rfl ?_
  refine k_assign rfl rfl ?_
  refine k_nil ?_
  refine k_keep [(0, _), (1, _), (2, _), (6, _), (8, _), (9, _)] ⟨rfl, rfl, rfl, rfl, rfl, rfl, trivial⟩ ?_
  refine k_seq ?_
  refine k_seq ?_
  refine k_region ?_
  refine k_move rfl rfl ?_
  refine k_not rfl rfl ?_
  refine k_nil ?_
  refine k_keep [(0, _), (1, _), (2, _), (6, _), (8, _), (25, _)] ⟨rfl, rfl, rfl, rfl, rfl, rfl, trivial⟩ ?_
  refine k_cond rfl (fun c5 => ?_) (fun c5 => ?_)
  ·
   have h := ibT h c5
   refine k_seq ?_
   refine k_region ?_
   refine k_assign rfl rfl ?_
   refine k_nil ?_
   refine k_keep [(0, _), (1, _), (2, _), (6, _), (8, _)] ⟨rfl, rfl, rfl, rfl, rfl, trivial⟩ ?_
   refine k_ret ?_
   obtain rfl := Option.some.inj h
   refine ⟨_, rfl, Ret.mk hS ?_⟩
   exact ⟨rfl, ho0⟩
  ·
   have h := ibF h c5
   refine k_skip ?_
   refine k_seq ?_
   refine k_seq ?_
   refine k_region ?_
   refine k_move rfl rfl ?_
   refine k_move rfl rfl ?_
   refine k_eql_str rfl rfl rfl ?_
   refine k_nil ?_
   refine k_keep [(0, _), (1, _), (2, _), (6, _), (8, _), (28, _)] ⟨rfl, rfl, rfl, rfl, rfl, rfl, trivial⟩ ?_
   refine k_cond_dec rfl (fun c6 => ?_) (fun c6 => ?_)
   ·
    have h := itT h c6
    refine k_seq ?_
    refine k_region ?_
    refine k_move rfl rfl ?_
    obtain ⟨x4, hx4, h⟩ := ob h
    refine k_call cal65 rfl (ref05_Disk_burn_w  ho0 hx4) rfl ?_
    rintro s7 vr7 st7 ⟨rfl, ho0⟩
    have szs7 := st7.size
    have hS := hS.c0 st7
    refine k_assign rfl rfl ?_
    refine k_nil ?_
    refine k_keep [(0, _), (1, _), (2, _), (6, _), (8, _)] ⟨rfl, rfl, rfl, rfl, rfl, trivial⟩ ?_
    refine k_ret ?_
    obtain rfl := Option.some.inj h
    refine ⟨_, rfl, Ret.mk hS ?_⟩
    exact ⟨rfl, ho0⟩
   ·
    have h := itF h c6
    refine k_skip ?_
    refine k_seq ?_
    refine k_region ?_
    refine k_move rfl rfl ?_
    refine k_move rfl rfl ?_
    obtain ⟨x5, hx5, h⟩ := ob h
    refine k_call cal49 rfl (ref05_Disk_Seen_w  ho0 hx5) rfl ?_
    rintro s8 v8_0 st8 ⟨_, rfl, h8_0⟩
    have szs8 := st8.size
    have hS := hS.trans0 st8
    replace h4_0 := h4_0.up2 st8
    replace ho0 := ho0.up2 st8
    refine k_move rfl rfl ?_
    obtain ⟨x6, hx6, h⟩ := ob h
    refine k_call cal66 rfl (ref05_Without_w  (SL.of_R h8_0) hx6) rfl ?_
    rintro s9 v9_0 st9 ⟨_, rfl, h9_0⟩
    have szs9 := st9.size
    have hS := hS.trans0 st9
    replace h4_0 := h4_0.up2 st9
    replace ho0 := ho0.up2 st9
    refine k_move rfl rfl ?_
    refine k_move rfl rfl ?_
    obtain ⟨x7, hx7, h⟩ := ob h
    refine k_call cal63 rfl (ref05_With_w  (SL.of_R h9_0) (SL.of_R h4_0) hx7) rfl ?_
    rintro s10 v10_0 st10 ⟨_, rfl, h10_0⟩
    have szs10 := st10.size
    have hS := hS.trans0 st10
    replace ho0 := ho0.up2 st10
    refine k_build plc87 zero87 rfl Parts.nil (by rfl) rfl ?_
    refine k_as (v := .agg #[S ([] : List UInt8), .slice none 0 0]) rfl ?_
    obtain ⟨x8, hx8, h⟩ := ob h
    refine k_call cal61 rfl (ref05_Disk_next_w  ho0 (show R s10 v10_0 (.sl 2 (x7.map dRef05File)) from h10_0) (clsRef05File (⟨([] : List UInt8), []⟩ : Ref05File) (R.of_SL (.inl ⟨rfl, none, 0, rfl, fun _ => rfl⟩))) hx8) rfl ?_
    rintro s11 vr11 st11 ⟨rfl, ho0⟩
    have szs11 := st11.size
    have hS := hS.c0 st11
    refine k_assign rfl rfl ?_
    refine k_nil ?_
    refine k_keep [(6, _)] ⟨rfl, trivial⟩ ?_
    refine k_ret ?_
    obtain rfl := Option.some.inj h
    refine ⟨_, rfl, Ret.mk hS ?_⟩
    exact ⟨rfl, ho0⟩

set_option maxHeartbeats 1000000 in
set_option maxRecDepth 100000 in
theorem ref05_Disk_Remove_w {s : St} {k0 : Nat} {p0 : Value} {a0 : Ref05Disk} {a1 : (List UInt8)} {r : (Int × Ref05Disk)} (ho0 : ORef05Disk s k0 p0 a0) (h : ref05_Disk_Remove a0 a1 = some r) : Calls Tryd.prog 43 #[p0, S a1] s.w (Ret s (KO k0) (fun s1 v => v = .int .i64 r.1 ∧ ORef05Disk s1 k0 p0 r.2)) := by
 unfold ref05_Disk_Remove at h
 have le0 := ho0.le
 have ne0 := ho0.ne
 have hS := Step.r0 (KO k0) s
 refine k_fn (rs := [4]) (args := [p0, S a1]) Tryd.func43 rfl rfl rfl rfl ?_
 refine k_seq ?_
 refine k_region ?_
 refine k_assign rfl rfl ?_
 refine k_nil ?_
 refine k_seq ?_
 refine k_seq ?_
 refine k_region ?_
 refine k_move rfl rfl ?_
 refine k_move rfl rfl ?_
 refine k_move rfl rfl ?_
 obtain ⟨x1, hx1, h⟩ := ob h
 refine k_call cal60 rfl (ref05_Disk_asks_w  ho0 hx1) rfl ?_
 rintro s1 vr1 st1 rfl
 have szs1 := st1.size
 have hS := hS.trans0 st1
 replace ho0 := ho0.up2 st1
 refine k_assign rfl rfl ?_
 refine k_nil ?_
 refine k_keep [(0, _), (1, _), (4, _), (5, _)] ⟨rfl, rfl, rfl, rfl, trivial⟩ ?_
 refine k_seq ?_
 refine k_region ?_
 refine k_move rfl rfl ?_
 refine k_neq rfl rfl rfl ?_
 refine k_nil ?_
 refine k_keep [(0, _), (1, _), (4, _), (5, _), (13, _)] ⟨rfl, rfl, rfl, rfl, rfl, trivial⟩ ?_
 refine k_cond_dec rfl (fun c2 => ?_) (fun c2 => ?_)
 ·
  have h := itT h c2
  refine k_seq ?_
  refine k_region ?_
  refine k_move rfl rfl ?_
  refine k_assign rfl rfl ?_
  refine k_nil ?_
  refine k_keep [(0, _), (1, _), (4, _)] ⟨rfl, rfl, rfl, trivial⟩ ?_
  refine k_ret ?_
  obtain rfl := Option.some.inj h
  refine ⟨_, rfl, Ret.mk hS ?_⟩
  exact ⟨rfl, ho0⟩
 ·
  have h := itF h c2
  refine k_skip ?_
  refine k_seq ?_
  refine k_seq ?_
  refine k_region ?_
  refine k_move rfl rfl ?_
  obtain ⟨x2, hx2, h⟩ := ob h
  refine k_call cal49 rfl (ref05_Disk_Seen_w  ho0 hx2) rfl ?_
  rintro s3 v3_0 st3 ⟨_, rfl, h3_0⟩
  have szs3 := st3.size
  have hS := hS.trans0 st3
  replace ho0 := ho0.up2 st3
  refine k_move rfl rfl ?_
  obtain ⟨x3, hx3, h⟩ := ob h
  refine k_call cal64 rfl (ref05_Find_w  (SL.of_R h3_0) hx3) rfl ?_
  rintro s4 vr4 st4 ⟨v4_0, rfl, h4_0⟩
  have szs4 := st4.size
  have hS := hS.trans0 st4
  replace ho0 := ho0.up2 st4
  refine k_move rfl rfl ?_
  refine k_extract rfl rfl rfl ?_
  refine k_extract rfl rfl rfl ?_
  refine k_assign rfl rfl ?_
  refine k_assign rfl rfl ?_
  refine k_nil ?_
  refine k_keep [(0, _), (1, _), (4, _), (7, _)] ⟨rfl, rfl, rfl, rfl, trivial⟩ ?_
  refine k_seq ?_
  refine k_region ?_
  refine k_move rfl rfl ?_
  refine k_not rfl rfl ?_
  refine k_nil ?_
  refine k_keep [(0, _), (1, _), (4, _), (23, _)] ⟨rfl, rfl, rfl, rfl, trivial⟩ ?_
  refine k_cond rfl (fun c5 => ?_) (fun c5 => ?_)
  ·
   have h := ibT h c5
   refine k_seq ?_
   refine k_region ?_
   refine k_assign rfl rfl ?_
   refine k_nil ?_
   refine k_keep [(0, _), (1, _), (4, _)] ⟨rfl, rfl, rfl, trivial⟩ ?_
   refine k_ret ?_
   obtain rfl := Option.some.inj h
   refine ⟨_, rfl, Ret.mk hS ?_⟩
   exact ⟨rfl, ho0⟩
  ·
   have h := ibF h c5
   refine k_skip ?_
   refine k_seq ?_
   refine k_region ?_
   refine k_move rfl rfl ?_
   refine k_move rfl rfl ?_
   obtain ⟨x4, hx4, h⟩ := ob h
   refine k_call cal49 rfl (ref05_Disk_Seen_w  ho0 hx4) rfl ?_
   rintro s6 v6_0 st6 ⟨_, rfl, h6_0⟩
   have szs6 := st6.size
   have hS := hS.trans0 st6
   replace ho0 := ho0.up2 st6
   refine k_move rfl rfl ?_
   obtain ⟨x5, hx5, h⟩ := ob h
   refine k_call cal66 rfl (ref05_Without_w  (SL.of_R h6_0) hx5) rfl ?_
   rintro s7 v7_0 st7 ⟨_, rfl, h7_0⟩
   have szs7 := st7.size
   have hS := hS.trans0 st7
   replace ho0 := ho0.up2 st7
   refine k_build plc87 zero87 rfl Parts.nil (by rfl) rfl ?_
   refine k_as (v := .agg #[S ([] : List UInt8), .slice none 0 0]) rfl ?_
   obtain ⟨x6, hx6, h⟩ := ob h
   refine k_call cal61 rfl (ref05_Disk_next_w  ho0 (show R s7 v7_0 (.sl 2 (x5.map dRef05File)) from h7_0) (clsRef05File (⟨([] : List UInt8), []⟩ : Ref05File) (R.of_SL (.inl ⟨rfl, none, 0, rfl, fun _ => rfl⟩))) hx6) rfl ?_
   rintro s8 vr8 st8 ⟨rfl, ho0⟩
   have szs8 := st8.size
   have hS := hS.c0 st8
   refine k_assign rfl rfl ?_
   refine k_nil ?_
   refine k_keep [(4, _)] ⟨rfl, trivial⟩ ?_
   refine k_ret ?_
   obtain rfl := Option.some.inj h
   refine ⟨_, rfl, Ret.mk hS ?_⟩
   exact ⟨rfl, ho0⟩

set_option maxHeartbeats 1000000 in
set_option maxRecDepth 100000 in
theorem ref05_Disk_Sync_w {s : St} {k0 : Nat} {p0 : Value} {a0 : Ref05Disk} {r : (Int × Ref05Disk)} (ho0 : ORef05Disk s k0 p0 a0) (h : ref05_Disk_Sync a0 = some r) : Calls Tryd.prog 44 #[p0] s.w (Ret s (KO k0) (fun s1 v => v = .int .i64 r.1 ∧ ORef05Disk s1 k0 p0 r.2)) := by
 unfold ref05_Disk_Sync at h
 have le0 := ho0.le
 have ne0 := ho0.ne
 obtain ⟨bo0, rfl⟩ := ho0.ptr
 obtain ⟨wo0_0, wo0_1, hb_o0, hwo0_0, hwo0_1⟩ := ho0.at_
 have hS := Step.r0 (KO k0) s
 refine k_fn (rs := [2]) (args := [.pointer (some ⟨bo0, 0, none⟩)]) Tryd.func44 rfl rfl rfl rfl ?_
 refine k_seq ?_
 refine k_region ?_
 refine k_assign rfl rfl ?_
 refine k_nil ?_
 refine k_seq ?_
 refine k_seq ?_
 refine k_region ?_
 refine k_move rfl rfl ?_
 refine k_nilCheck rfl rfl ?_
 refine k_field_addr fld68_1 rfl rfl ?_
 refine k_load_blk one4 rfl hb_o0 rfl rfl ?_
 refine k_nil ?_
 refine k_keep [(0, _), (2, _), (7, _)] ⟨rfl, rfl, rfl, trivial⟩ ?_
 refine k_cond rfl (fun c1 => ?_) (fun c1 => ?_)
 ·
  have h := ibT h c1
  refine k_seq ?_
  refine k_region ?_
  refine k_assign rfl rfl ?_
  refine k_nil ?_
  refine k_keep [(0, _), (2, _)] ⟨rfl, rfl, trivial⟩ ?_
  refine k_ret ?_
  obtain rfl := Option.some.inj h
  refine ⟨_, rfl, Ret.mk hS ?_⟩
  exact ⟨rfl, (ORef05Disk.mk_ a0 (by omega) hwo0_0 hwo0_1 hb_o0)⟩
 ·
  have h := ibF h c1
  refine k_skip ?_
  refine k_seq ?_
  refine k_seq ?_
  refine k_region ?_
  refine k_move rfl rfl ?_
  obtain ⟨x1, hx1, h⟩ := ob h
  refine k_call cal65 rfl (ref05_Disk_burn_w  (ORef05Disk.mk_ a0 (by omega) hwo0_0 hwo0_1 hb_o0) hx1) rfl ?_
  rintro s2 vr2 st2 ⟨rfl, hm2_0⟩
  obtain ⟨w2_0_0, w2_0_1, hb_2_0, hw2_0_0, hw2_0_1⟩ := hm2_0.at_
  have szs2 := st2.size
  have hS := hS.c0 st2
  refine k_assign rfl rfl ?_
  refine k_nil ?_
  refine k_keep [(0, _), (2, _), (3, _)] ⟨rfl, rfl, rfl, trivial⟩ ?_
  refine k_seq ?_
  refine k_region ?_
  refine k_move rfl rfl ?_
  refine k_neq rfl rfl rfl ?_
  refine k_nil ?_
  refine k_keep [(0, _), (2, _), (3, _), (11, _)] ⟨rfl, rfl, rfl, rfl, trivial⟩ ?_
  refine k_cond_dec rfl (fun c3 => ?_) (fun c3 => ?_)
  ·
   have h := itT h c3
   refine k_seq ?_
   refine k_region ?_
   refine k_move rfl rfl ?_
   refine k_assign rfl rfl ?_
   refine k_nil ?_
   refine k_keep [(0, _), (2, _)] ⟨rfl, rfl, trivial⟩ ?_
   refine k_ret ?_
   obtain rfl := Option.some.inj h
   refine ⟨_, rfl, Ret.mk hS ?_⟩
   exact ⟨rfl, (ORef05Disk.mk_ x1.2 (by omega) hw2_0_0 hw2_0_1 hb_2_0)⟩
  ·
   have h := itF h c3
   refine k_skip ?_
   refine k_seq ?_
   refine k_region ?_
   refine k_move rfl rfl ?_
   refine k_move rfl rfl ?_
   obtain ⟨x2, hx2, h⟩ := ob h
   refine k_call cal49 rfl (ref05_Disk_Seen_w  (ORef05Disk.mk_ x1.2 (by omega) hw2_0_0 hw2_0_1 hb_2_0) hx2) rfl ?_
   rintro s4 v4_0 st4 ⟨_, rfl, h4_0⟩
   have szs4 := st4.size
   have hS := hS.trans0 st4
   replace hb_2_0 := hb_2_0.up2 st4
   refine k_bslice2 (ds := ([x2] : List (List Ref05File)).map (dL 2 dRef05File)) slc64 rfl (RVs.cons h4_0 RVs.nil) (by rfl) (by rfl) rfl rfl ?_
   intro s5 v5 b5 st5 ge5 bl5 h5
   have szs5 := st5.size
   have hS := hS.trans0 st5
   replace hb_2_0 := hb_2_0.up2 st5
   have lt5 := Own.le1 h5
   refine k_nilCheck rfl rfl ?_
   refine k_field_addr fld68_2 rfl rfl ?_
   refine k_store_c (cs' := [.int .i64 x1.2.Most, .bool x1.2.Off, v5, w2_0_1, .int .i64 x1.2.Fuse.e0, .int .i64 x1.2.Fuse.e1, .int .i64 x1.2.Fuse.e2]) size64 rfl rfl hb_2_0 (by first | (simp; done) | omega | (dsimp only; omega)) (CellsOf.sl (h5.sl)) rfl (by first | rfl | (simp; done) | (simp; omega)) rfl ?_
   intro s6 st6 hb_2_0
   have szs6 := st6.size
   have hS := hS.c0 st6
   replace h5 := h5.up2 st6
   refine k_nil ?_
   refine k_keep [(0, _), (2, _)] ⟨rfl, rfl, trivial⟩ ?_
   refine k_seq ?_
   refine k_region ?_
   refine k_move rfl rfl ?_
   refine k_nilCheck rfl rfl ?_
   refine k_field_addr fld68_3 rfl rfl ?_
   refine k_store_c (cs' := [.int .i64 x1.2.Most, .bool x1.2.Off, v5, .slice none 0 0, .int .i64 x1.2.Fuse.e0, .int .i64 x1.2.Fuse.e1, .int .i64 x1.2.Fuse.e2]) size65 rfl rfl hb_2_0 (by first | (simp; done) | omega | (dsimp only; omega)) (CellsOf.lit rfl rfl) rfl (by first | rfl | (simp; done) | (simp; omega)) rfl ?_
   intro s7 st7 hb_2_0
   have szs7 := st7.size
   have hS := hS.c0 st7
   replace h5 := h5.up2 st7
   refine k_nil ?_
   refine k_keep [(2, _)] ⟨rfl, trivial⟩ ?_
   refine k_seq ?_
   refine k_region ?_
   refine k_assign rfl rfl ?_
   refine k_nil ?_
   refine k_ret ?_
   obtain ⟨s8, e8, st8, h8⟩ := h5.freeze
   rw [← e8]
   have szs8 := st8.size
   have hS := hS.c0 st8
   replace hb_2_0 := hb_2_0.up2 st8
   obtain rfl := Option.some.inj h
   refine ⟨_, rfl, Ret.mk hS ?_⟩
   exact ⟨rfl, (ORef05Disk.mk_ (⟨x1.2.Most, x1.2.Off, ([x2] : List (List Ref05File)), [], x1.2.Fuse⟩ : Ref05Disk) (by omega) h8 (R.of_SL (.inl ⟨rfl, none, 0, rfl, fun _ => rfl⟩)) hb_2_0)⟩

set_option maxHeartbeats 1000000 in
set_option maxRecDepth 100000 in
theorem ref05_Disk_Lay_w {s : St} {k0 : Nat} {p0 : Value} {a0 : Ref05Disk} {a1 : Int} {a2 : Int} {a3 : Int} {r : (Int × Ref05Disk)} (ho0 : ORef05Disk s k0 p0 a0) (h : ref05_Disk_Lay a0 a1 a2 a3 = some r) : Calls Tryd.prog 47 #[p0, .int .i64 a1, .int .i64 a2, .int .i64 a3] s.w (Ret s (KO k0) (fun s1 v => v = .int .i64 r.1 ∧ ORef05Disk s1 k0 p0 r.2)) := by
 unfold ref05_Disk_Lay at h
 have le0 := ho0.le
 have ne0 := ho0.ne
 obtain ⟨bo0, rfl⟩ := ho0.ptr
 obtain ⟨wo0_0, wo0_1, hb_o0, hwo0_0, hwo0_1⟩ := ho0.at_
 have hS := Step.r0 (KO k0) s
 refine k_fn (rs := [8]) (args := [.pointer (some ⟨bo0, 0, none⟩), .int .i64 a1, .int .i64 a2, .int .i64 a3]) Tryd.func47 rfl rfl rfl rfl ?_
 refine k_seq ?_
 refine k_region ?_
 refine k_assign rfl rfl ?_
 refine k_nil ?_
 refine k_seq ?_
 refine k_seq ?_
 refine k_region ?_
 refine k_move rfl rfl ?_
 refine k_nilCheck rfl rfl ?_
 refine k_field_addr fld68_1 rfl rfl ?_
 refine k_load_blk one4 rfl hb_o0 rfl rfl ?_
 refine k_nil ?_
 refine k_keep [(0, _), (1, _), (2, _), (3, _), (8, _), (12, _)] ⟨rfl, rfl, rfl, rfl, rfl, rfl, trivial⟩ ?_
 refine k_cond rfl (fun c1 => ?_) (fun c1 => ?_)
 ·
  have h := ibT h c1
  refine k_seq ?_
  refine k_region ?_
  refine k_assign rfl rfl ?_
  refine k_nil ?_
  refine k_keep [(0, _), (1, _), (2, _), (3, _), (8, _)] ⟨rfl, rfl, rfl, rfl, rfl, trivial⟩ ?_
  refine k_ret ?_
  obtain rfl := Option.some.inj h
  refine ⟨_, rfl, Ret.mk hS ?_⟩
  exact ⟨rfl, (ORef05Disk.mk_ a0 (by omega) hwo0_0 hwo0_1 hb_o0)⟩
 ·
  have h := ibF h c1
  refine k_skip ?_
  refine k_seq ?_
  refine k_seq ?_
  refine k_region ?_
  refine k_move rfl rfl ?_
  refine k_lss rfl rfl rfl ?_
  refine k_nil ?_
  refine k_keep [(0, _), (1, _), (2, _), (3, _), (8, _), (14, _)] ⟨rfl, rfl, rfl, rfl, rfl, rfl, trivial⟩ ?_
  refine k_cond_dec rfl (fun c2 => ?_) (fun c2 => ?_)
  ·
   have h := itT h c2
   refine k_seq ?_
   refine k_region ?_
   refine k_assign rfl rfl ?_
   refine k_nil ?_
   refine k_keep [(0, _), (1, _), (2, _), (3, _), (8, _)] ⟨rfl, rfl, rfl, rfl, rfl, trivial⟩ ?_
   refine k_ret ?_
   obtain rfl := Option.some.inj h
   refine ⟨_, rfl, Ret.mk hS ?_⟩
   exact ⟨rfl, (ORef05Disk.mk_ a0 (by omega) hwo0_0 hwo0_1 hb_o0)⟩
  ·
   have h := itF h c2
   refine k_skip ?_
   refine k_seq ?_
   refine k_region ?_
   refine k_move rfl rfl ?_
   refine k_move rfl rfl ?_
   refine k_move rfl rfl ?_
   refine k_move rfl rfl ?_
   refine k_build_arr arr66 zero66 rfl (Parts.cons (CellsOf.lit rfl rfl).1 (Parts.cons (CellsOf.lit rfl rfl).1 (Parts.cons (CellsOf.lit rfl rfl).1 Parts.nil))) (by rfl) rfl ?_
   refine k_as (v := .agg #[.int .i64 a1, .int .i64 a2, .int .i64 a3]) rfl ?_
   refine k_nilCheck rfl rfl ?_
   refine k_field_addr fld68_4 rfl rfl ?_
   refine k_store_c (cs' := [.int .i64 a0.Most, .bool a0.Off, wo0_0, wo0_1, .int .i64 a1, .int .i64 a2, .int .i64 a3]) size66 rfl rfl hb_o0 (by first | (simp; done) | omega | (dsimp only; omega)) (CellsOf.lit rfl rfl) rfl (by first | rfl | (simp; done) | (simp; omega)) rfl ?_
   intro s3 st3 hb_o0
   have szs3 := st3.size
   have hS := hS.c0 st3
   replace hwo0_0 := hwo0_0.up2 st3
   replace hwo0_1 := hwo0_1.up2 st3
   refine k_nil ?_
   refine k_keep [(8, _)] ⟨rfl, trivial⟩ ?_
   refine k_seq ?_
   refine k_region ?_
   refine k_assign rfl rfl ?_
   refine k_nil ?_
   refine k_ret ?_
   obtain rfl := Option.some.inj h
   refine ⟨_, rfl, Ret.mk hS ?_⟩
   exact ⟨rfl, (ORef05Disk.mk_ (⟨a0.Most, a0.Off, a0.Pictures, a0.Made, (⟨a1, a2, a3⟩ : St66)⟩ : Ref05Disk) (by omega) hwo0_0 hwo0_1 hb_o0)⟩

set_option maxHeartbeats 1000000 in
set_option maxRecDepth 100000 in
theorem ref05_Disk_Start_w {s : St} {k0 : Nat} {p0 : Value} {a0 : Ref05Disk} {r : (Int × Ref05Disk)} (ho0 : ORef05Disk s k0 p0 a0) (h : ref05_Disk_Start a0 = some r) : Calls Tryd.prog 46 #[p0] s.w (Ret s (KO k0) (fun s1 v => v = .int .i64 r.1 ∧ ORef05Disk s1 k0 p0 r.2)) := by
 unfold ref05_Disk_Start at h
 have le0 := ho0.le
 have ne0 := ho0.ne
 obtain ⟨bo0, rfl⟩ := ho0.ptr
 obtain ⟨wo0_0, wo0_1, hb_o0, hwo0_0, hwo0_1⟩ := ho0.at_
 have hS := Step.r0 (KO k0) s
 refine k_fn (rs := [2]) (args := [.pointer (some ⟨bo0, 0, none⟩)]) Tryd.func46 rfl rfl rfl rfl ?_
 refine k_seq ?_
 refine k_region ?_
 refine k_assign rfl rfl ?_
 refine k_nil ?_
 refine k_seq ?_
 refine k_seq ?_
 refine k_region ?_
 refine k_move rfl rfl ?_
 refine k_nilCheck rfl rfl ?_
 refine k_field_addr fld68_1 rfl rfl ?_
 refine k_load_blk one4 rfl hb_o0 rfl rfl ?_
 refine k_not rfl rfl ?_
 refine k_nil ?_
 refine k_keep [(0, _), (2, _), (7, _)] ⟨rfl, rfl, rfl, trivial⟩ ?_
 refine k_cond rfl (fun c1 => ?_) (fun c1 => ?_)
 ·
  have h := ibT h c1
  refine k_seq ?_
  refine k_region ?_
  refine k_assign rfl rfl ?_
  refine k_nil ?_
  refine k_keep [(0, _), (2, _)] ⟨rfl, rfl, trivial⟩ ?_
  refine k_ret ?_
  obtain rfl := Option.some.inj h
  refine ⟨_, rfl, Ret.mk hS ?_⟩
  exact ⟨rfl, (ORef05Disk.mk_ a0 (by omega) hwo0_0 hwo0_1 hb_o0)⟩
 ·
  have h := ibF h c1
  refine k_skip ?_
  refine k_seq ?_
  refine k_region ?_
  refine k_move rfl rfl ?_
  refine k_nilCheck rfl rfl ?_
  refine k_field_addr fld68_1 rfl rfl ?_
  refine k_store_c (cs' := [.int .i64 a0.Most, .bool false, wo0_0, wo0_1, .int .i64 a0.Fuse.e0, .int .i64 a0.Fuse.e1, .int .i64 a0.Fuse.e2]) size4 rfl rfl hb_o0 (by first | (simp; done) | omega | (dsimp only; omega)) (CellsOf.lit rfl rfl) rfl (by first | rfl | (simp; done) | (simp; omega)) rfl ?_
  intro s2 st2 hb_o0
  have szs2 := st2.size
  have hS := hS.c0 st2
  replace hwo0_0 := hwo0_0.up2 st2
  replace hwo0_1 := hwo0_1.up2 st2
  refine k_nil ?_
  refine k_keep [(2, _)] ⟨rfl, trivial⟩ ?_
  refine k_seq ?_
  refine k_region ?_
  refine k_assign rfl rfl ?_
  refine k_nil ?_
  refine k_ret ?_
  obtain rfl := Option.some.inj h
  refine ⟨_, rfl, Ret.mk hS ?_⟩
  exact ⟨rfl, (ORef05Disk.mk_ (⟨a0.Most, false, a0.Pictures, a0.Made, a0.Fuse⟩ : Ref05Disk) (by omega) hwo0_0 hwo0_1 hb_o0)⟩

set_option maxHeartbeats 1000000 in
set_option maxRecDepth 100000 in
theorem ref05_Disk_Read_w {s : St} {k0 : Nat} {p0 : Value} {a0 : Ref05Disk} {a1 : (List UInt8)} {r : ((List UInt8) × Int)} (ho0 : ORef05Disk s k0 p0 a0) (h : ref05_Disk_Read a0 a1 = some r) : Calls Tryd.prog 48 #[p0, S a1] s.w (Ret s K0 (fun s1 v => ∃ (u0 : Value), v = .tuple #[u0, .int .i64 r.2] ∧ R s1 u0 (.sl 1 (r.1.map bD)))) := by
 unfold ref05_Disk_Read at h
 have le0 := ho0.le
 have ne0 := ho0.ne
 have hS := Step.r0 K0 s
 refine k_fn (rs := [4, 5]) (args := [p0, S a1]) Tryd.func48 rfl rfl rfl rfl ?_
 refine k_seq ?_
 refine k_region ?_
 refine k_assign rfl rfl ?_
 refine k_assign rfl rfl ?_
 refine k_nil ?_
 refine k_seq ?_
 refine k_seq ?_
 refine k_region ?_
 refine k_move rfl rfl ?_
 refine k_move rfl rfl ?_
 refine k_move rfl rfl ?_
 obtain ⟨x1, hx1, h⟩ := ob h
 refine k_call cal60 rfl (ref05_Disk_asks_w  ho0 hx1) rfl ?_
 rintro s1 vr1 st1 rfl
 have szs1 := st1.size
 have hS := hS.trans0 st1
 replace ho0 := ho0.up2 st1
 refine k_assign rfl rfl ?_
 refine k_nil ?_
 refine k_keep [(0, _), (1, _), (4, _), (5, _), (6, _)] ⟨rfl, rfl, rfl, rfl, rfl, trivial⟩ ?_
 refine k_seq ?_
 refine k_region ?_
 refine k_move rfl rfl ?_
 refine k_neq rfl rfl rfl ?_
 refine k_nil ?_
 refine k_keep [(0, _), (1, _), (4, _), (5, _), (6, _), (14, _)] ⟨rfl, rfl, rfl, rfl, rfl, rfl, trivial⟩ ?_
 refine k_cond_dec rfl (fun c2 => ?_) (fun c2 => ?_)
 ·
  have h := itT h c2
  refine k_seq ?_
  refine k_region ?_
  refine k_move rfl rfl ?_
  refine k_assign rfl rfl ?_
  refine k_assign rfl rfl ?_
  refine k_nil ?_
  refine k_keep [(0, _), (1, _), (4, _), (5, _)] ⟨rfl, rfl, rfl, rfl, trivial⟩ ?_
  refine k_ret ?_
  obtain rfl := Option.some.inj h
  refine ⟨_, rfl, Ret.mk hS ?_⟩
  exact ⟨_, rfl, (R.of_SL (.inl ⟨rfl, none, 0, rfl, fun _ => rfl⟩))⟩
 ·
  have h := itF h c2
  refine k_skip ?_
  refine k_seq ?_
  refine k_region ?_
  refine k_move rfl rfl ?_
  obtain ⟨x2, hx2, h⟩ := ob h
  refine k_call cal49 rfl (ref05_Disk_Seen_w  ho0 hx2) rfl ?_
  rintro s3 v3_0 st3 ⟨_, rfl, h3_0⟩
  have szs3 := st3.size
  have hS := hS.trans0 st3
  refine k_move rfl rfl ?_
  obtain ⟨x3, hx3, h⟩ := ob h
  refine k_call cal64 rfl (ref05_Find_w  (SL.of_R h3_0) hx3) rfl ?_
  rintro s4 vr4 st4 ⟨v4_0, rfl, h4_0⟩
  have szs4 := st4.size
  have hS := hS.trans0 st4
  refine k_move rfl rfl ?_
  refine k_extract rfl rfl rfl ?_
  refine k_extract rfl rfl rfl ?_
  refine k_assign rfl rfl ?_
  refine k_assign rfl rfl ?_
  refine k_nil ?_
  refine k_keep [(4, _), (5, _), (7, _), (8, _)] ⟨rfl, rfl, rfl, rfl, trivial⟩ ?_
  refine k_seq ?_
  refine k_seq ?_
  refine k_region ?_
  refine k_move rfl rfl ?_
  refine k_not rfl rfl ?_
  refine k_nil ?_
  refine k_keep [(4, _), (5, _), (7, _), (24, _)] ⟨rfl, rfl, rfl, rfl, trivial⟩ ?_
  refine k_cond rfl (fun c5 => ?_) (fun c5 => ?_)
  ·
   have h := ibT h c5
   refine k_seq ?_
   refine k_region ?_
   refine k_assign rfl rfl ?_
   refine k_assign rfl rfl ?_
   refine k_nil ?_
   refine k_keep [(4, _), (5, _), (7, _)] ⟨rfl, rfl, rfl, trivial⟩ ?_
   refine k_ret ?_
   obtain rfl := Option.some.inj h
   refine ⟨_, rfl, Ret.mk hS ?_⟩
   exact ⟨_, rfl, (R.of_SL (.inl ⟨rfl, none, 0, rfl, fun _ => rfl⟩))⟩
  ·
   have h := ibF h c5
   refine k_skip ?_
   refine k_seq ?_
   refine k_region ?_
   refine k_bslice2 (ds := ([] : List UInt8).map bD) slc29 rfl RVs.nil (by rfl) (by rfl) rfl rfl ?_
   intro s6 v6 b6 st6 ge6 bl6 h6
   have szs6 := st6.size
   have hS := hS.trans0 st6
   replace h4_0 := h4_0.up2 st6
   have lt6 := Own.le1 h6
   refine k_move rfl rfl ?_
   obtain ⟨x4, hx4, h⟩ := ob h
   refine k_append (es := x3.1.map bD) elem29 rfl rfl h6 (SL.of_R h4_0) (by have := (app_out hx4).1; simp only [List.length_map] at *; omega) (by have := (app_out hx4).1; simp only [List.length_map] at *; omega) rfl ?_
   intro s7 v7 st7 h7
   rw [← List.map_append, ← (app_out hx4).2] at h7
   have szs7 := st7.size
   have hS := hS.c0 st7
   refine k_assign rfl rfl ?_
   refine k_assign rfl rfl ?_
   refine k_nil ?_
   refine k_keep [(4, _), (5, _)] ⟨rfl, rfl, trivial⟩ ?_
   refine k_ret ?_
   obtain ⟨s8, e8, st8, h8⟩ := h7.freeze
   rw [← e8]
   have szs8 := st8.size
   have hS := hS.c0 st8
   obtain rfl := Option.some.inj h
   refine ⟨_, rfl, Ret.mk hS ?_⟩
   exact ⟨_, rfl, h8⟩

set_option maxHeartbeats 1000000 in
set_option maxRecDepth 100000 in
theorem law05_awake_w {s : St}  {r : Bool}  (h : law05_awake = some r) : Calls Tryd.prog 13 #[] s.w (Ret s K0 (fun s1 v => v = .bool r)) := by
 unfold law05_awake at h
 have hS := Step.r0 K0 s
 refine k_fn (rs := [0]) (args := []) Tryd.func13 rfl rfl rfl rfl ?_
 refine k_seq ?_
 refine k_region ?_
 refine k_assign rfl rfl ?_
 refine k_nil ?_
 refine k_seq ?_
 refine k_region ?_
 obtain ⟨x1, hx1, h⟩ := ob h
 refine k_call cal11 rfl (disk_New_w   hx1) rfl ?_
 rintro s1 vr1 st1 ⟨ku1_0, v1_0, rfl, hk1_0, h1_0⟩
 have szs1 := st1.size
 have hS := hS.trans0 st1
 have ol1_0 := OptODiskDisk.le (k := ku1_0) h1_0
 refine k_move rfl rfl ?_
 refine k_extract rfl rfl rfl ?_
 refine k_extract rfl rfl rfl ?_
 refine k_assign rfl rfl ?_
 refine k_assign rfl rfl ?_
 refine k_nil ?_
 refine k_keep [(0, _), (1, _), (2, _)] ⟨rfl, rfl, rfl, trivial⟩ ?_
 refine k_seq ?_
 refine k_seq ?_
 refine k_region ?_
 refine k_move rfl rfl ?_
 refine k_neq rfl rfl rfl ?_
 refine k_move rfl rfl ?_
 rcases oc_out h with ⟨ho_2, h⟩ | ⟨x2, ho_2, h⟩
 ·
  rw [ho_2] at h1_0
  obtain rfl : v1_0 = .pointer none := h1_0
  have hE3 := Step.r0 K0 s1
  refine k_cutl (X := St) 3 [(0, .bool false), (1, .pointer none), (2, .int .i64 x1.2), (25, .int .i64 x1.2), (26, .bool (decide (x1.2 ≠ 0)))] (fun _ => [(30, .bool true)]) (fun sl wL => sl.w = wL ∧ Step K0 s1 sl) ?_ ?_
  ·
   refine k_again 27 rfl ?_
   refine k_split (fun c4 => ?_) (fun c4 => ?_)
   ·
    refine k_no rfl rfl rfl rfl ?_
    refine k_no rfl rfl rfl rfl ?_
    refine k_pickT rfl rfl rfl rfl ?_
    exact k_met ⟨s1, ⟨rfl, trivial⟩, ⟨rfl, rfl, rfl, rfl, rfl, trivial⟩, rfl, hE3⟩
   ·
    refine k_yes rfl rfl ?_
    refine k_move rfl rfl ?_
    refine k_yes rfl rfl ?_
    refine k_eql_pnil Tryd.underlying23 rfl rfl rfl ?_
    refine k_pickF rfl rfl rfl rfl ?_
    exact k_met ⟨s1, ⟨rfl, trivial⟩, ⟨rfl, rfl, rfl, rfl, rfl, trivial⟩, rfl, hE3⟩
  ·
   rintro s5 wL ⟨rfl, hE3⟩
   have szs5 := hE3.size
   have hS := hS.trans0 hE3
   refine k_nil ?_
   refine k_keep [(0, _), (1, _), (30, _)] ⟨rfl, rfl, rfl, trivial⟩ ?_
   refine k_cond_true rfl ?_
   refine k_seq ?_
   refine k_region ?_
   refine k_assign rfl rfl ?_
   refine k_nil ?_
   refine k_keep [(0, _), (1, _)] ⟨rfl, rfl, trivial⟩ ?_
   refine k_ret ?_
   obtain rfl := Option.some.inj h
   refine ⟨_, rfl, Ret.mk hS ?_⟩
   exact rfl
 ·
  rw [ho_2] at h1_0
  replace h1_0 : ODiskDisk s1 ku1_0 v1_0 x2 := h1_0
  replace ol1_0 := ol1_0.resolve_left (fun e => by rw [e] at ho_2; cases ho_2)
  have le2 := h1_0.le
  have ne2 := h1_0.ne
  have hE6 := Step.r0 K0 s1
  refine k_cutl (X := St) 3 [(0, .bool false), (1, v1_0), (2, .int .i64 x1.2), (25, .int .i64 x1.2), (26, .bool (decide (x1.2 ≠ 0)))] (fun _ => [(30, .bool (decide ((x1.2 ≠ 0) ∨ False)))]) (fun sl wL => sl.w = wL ∧ Step K0 s1 sl) ?_ ?_
  ·
   refine k_again 27 rfl ?_
   refine k_split (fun c7 => ?_) (fun c7 => ?_)
   ·
    refine k_no rfl rfl rfl rfl ?_
    refine k_no rfl rfl rfl rfl ?_
    refine k_pickT rfl rfl rfl rfl ?_
    exact k_met ⟨s1, ⟨(congrArg (fun b => some (Value.bool b)) (by first | exact decide_eq_decide.2 ⟨Or.inr, fun h => h.resolve_left c7⟩ | exact (decide_eq_true (Or.inl c7)).symm | (simp [c7]; done) | (simp [c7, i64] <;> omega))), trivial⟩, ⟨rfl, rfl, rfl, rfl, rfl, trivial⟩, rfl, hE6⟩
   ·
    refine k_yes rfl rfl ?_
    refine k_move rfl rfl ?_
    refine k_yes rfl rfl ?_
    obtain ⟨pb8, rfl⟩ := h1_0.ptr
    refine k_eql_pnil Tryd.underlying23 rfl rfl rfl ?_
    refine k_pickF rfl rfl rfl rfl ?_
    exact k_met ⟨s1, ⟨(congrArg (fun b => some (Value.bool b)) (by first | exact decide_eq_decide.2 ⟨Or.inr, fun h => h.resolve_left c7⟩ | exact (decide_eq_true (Or.inl c7)).symm | (simp [c7]; done) | (simp [c7, i64] <;> omega))), trivial⟩, ⟨rfl, rfl, rfl, rfl, rfl, trivial⟩, rfl, hE6⟩
  ·
   rintro s9 wL ⟨rfl, hE6⟩
   have szs9 := hE6.size
   have hS := hS.trans0 hE6
   replace h1_0 := h1_0.up2 hE6
   refine k_nil ?_
   refine k_keep [(0, _), (1, _), (30, _)] ⟨rfl, rfl, rfl, trivial⟩ ?_
   refine k_cond_dec rfl (fun c10 => ?_) (fun c10 => ?_)
   ·
    have h := itT h c10
    refine k_seq ?_
    refine k_region ?_
    refine k_assign rfl rfl ?_
    refine k_nil ?_
    refine k_keep [(0, _), (1, _)] ⟨rfl, rfl, trivial⟩ ?_
    refine k_ret ?_
    obtain rfl := Option.some.inj h
    refine ⟨_, rfl, Ret.mk hS ?_⟩
    exact rfl
   ·
    have h := itF h c10
    refine k_skip ?_
    refine k_seq ?_
    refine k_region ?_
    refine k_move rfl rfl ?_
    refine k_bslice2 (ds := ([(120 : UInt8), (121 : UInt8)] : List UInt8).map bD) slc29 rfl (RVs.cons (R.val rfl) (RVs.cons (R.val rfl) RVs.nil)) (by rfl) (by rfl) rfl rfl ?_
    intro s11 v11 b11 st11 ge11 bl11 h11
    have szs11 := st11.size
    have hS := hS.trans0 st11
    replace h1_0 := h1_0.up2 st11
    have lt11 := Own.le1 h11
    refine k_conv_sl Tryd.underlying29 Tryd.underlying5 rfl h11 (by simp) rfl ?_
    intro s12 st12 h12
    have szs12 := st12.size
    have hS := hS.c0 st12
    replace h1_0 := h1_0.up2 st12
    obtain ⟨x3, hx3, h⟩ := ob h
    refine k_call cal31 rfl (disk_Disk_Append_w  h1_0 (SL.of_R h12) (by first | assumption | omega | (simp <;> omega)) hx3) rfl ?_
    rintro s13 vr13 st13 ⟨rfl, h1_0⟩
    have szs13 := st13.size
    have hS := hS.c0 st13
    refine k_nil ?_
    refine k_keep [(0, _), (1, _)] ⟨rfl, rfl, trivial⟩ ?_
    refine k_seq ?_
    refine k_region ?_
    refine k_move rfl rfl ?_
    refine k_bslice2 (ds := ([(122 : UInt8)] : List UInt8).map bD) slc29 rfl (RVs.cons (R.val rfl) RVs.nil) (by rfl) (by rfl) rfl rfl ?_
    intro s14 v14 b14 st14 ge14 bl14 h14
    have szs14 := st14.size
    have hS := hS.trans0 st14
    replace h1_0 := h1_0.up2 st14
    have lt14 := Own.le1 h14
    refine k_conv_sl Tryd.underlying29 Tryd.underlying5 rfl h14 (by simp) rfl ?_
    intro s15 st15 h15
    have szs15 := st15.size
    have hS := hS.c0 st15
    replace h1_0 := h1_0.up2 st15
    obtain ⟨x4, hx4, h⟩ := ob h
    refine k_call cal31 rfl (disk_Disk_Append_w  h1_0 (SL.of_R h15) (by first | assumption | omega | (simp <;> omega)) hx4) rfl ?_
    rintro s16 vr16 st16 ⟨rfl, h1_0⟩
    have szs16 := st16.size
    have hS := hS.c0 st16
    refine k_nil ?_
    refine k_keep [(0, _), (1, _)] ⟨rfl, rfl, trivial⟩ ?_
    refine k_seq ?_
    refine k_region ?_
    refine k_move rfl rfl ?_
    obtain ⟨x5, hx5, h⟩ := ob h
    refine k_call cal16 rfl (disk_Disk_Sync_w  h1_0 hx5) rfl ?_
    rintro s17 vr17 st17 ⟨rfl, h1_0⟩
    have szs17 := st17.size
    have hS := hS.c0 st17
    refine k_nil ?_
    refine k_keep [(0, _), (1, _)] ⟨rfl, rfl, trivial⟩ ?_
    refine k_seq ?_
    refine k_region ?_
    refine k_move rfl rfl ?_
    refine k_bslice2 (ds := ([(117 : UInt8), (118 : UInt8), (119 : UInt8)] : List UInt8).map bD) slc29 rfl (RVs.cons (R.val rfl) (RVs.cons (R.val rfl) (RVs.cons (R.val rfl) RVs.nil))) (by rfl) (by rfl) rfl rfl ?_
    intro s18 v18 b18 st18 ge18 bl18 h18
    have szs18 := st18.size
    have hS := hS.trans0 st18
    replace h1_0 := h1_0.up2 st18
    have lt18 := Own.le1 h18
    refine k_conv_sl Tryd.underlying29 Tryd.underlying5 rfl h18 (by simp) rfl ?_
    intro s19 st19 h19
    have szs19 := st19.size
    have hS := hS.c0 st19
    replace h1_0 := h1_0.up2 st19
    obtain ⟨x6, hx6, h⟩ := ob h
    refine k_call cal31 rfl (disk_Disk_Append_w  h1_0 (SL.of_R h19) (by first | assumption | omega | (simp <;> omega)) hx6) rfl ?_
    rintro s20 vr20 st20 ⟨rfl, h1_0⟩
    have szs20 := st20.size
    have hS := hS.c0 st20
    refine k_assign rfl rfl ?_
    refine k_nil ?_
    refine k_keep [(0, _), (1, _), (3, _)] ⟨rfl, rfl, rfl, trivial⟩ ?_
    refine k_seq ?_
    refine k_region ?_
    refine k_move rfl rfl ?_
    obtain ⟨x7, hx7, h⟩ := ob h
    refine k_call cal14 rfl (disk_Disk_Waits_w  h1_0 hx7) rfl ?_
    rintro s21 vr21 st21 rfl
    have szs21 := st21.size
    have hS := hS.trans0 st21
    replace h1_0 := h1_0.up2 st21
    refine k_assign rfl rfl ?_
    refine k_nil ?_
    refine k_keep [(0, _), (1, _), (3, _), (4, _)] ⟨rfl, rfl, rfl, rfl, trivial⟩ ?_
    refine k_seq ?_
    refine k_region ?_
    refine k_move rfl rfl ?_
    obtain ⟨x8, hx8, h⟩ := ob h
    refine k_call cal17 rfl (disk_Disk_Crash_w  h1_0 hx8) rfl ?_
    rintro s22 vr22 st22 ⟨rfl, h1_0⟩
    have szs22 := st22.size
    have hS := hS.c0 st22
    refine k_assign rfl rfl ?_
    refine k_nil ?_
    refine k_keep [(0, _), (1, _), (3, _), (4, _), (5, _)] ⟨rfl, rfl, rfl, rfl, rfl, trivial⟩ ?_
    refine k_seq ?_
    refine k_region ?_
    refine k_move rfl rfl ?_
    obtain ⟨x9, hx9, h⟩ := ob h
    refine k_call cal27 rfl (disk_Disk_Read_w  h1_0 hx9) rfl ?_
    rintro s23 vr23 st23 ⟨v23_0, rfl, h23_0⟩
    have szs23 := st23.size
    have hS := hS.trans0 st23
    replace h1_0 := h1_0.up2 st23
    refine k_move rfl rfl ?_
    refine k_extract rfl rfl rfl ?_
    refine k_extract rfl rfl rfl ?_
    refine k_assign rfl rfl ?_
    refine k_assign rfl rfl ?_
    refine k_nil ?_
    refine k_keep [(0, _), (1, _), (3, _), (4, _), (5, _), (7, _)] ⟨rfl, rfl, rfl, rfl, rfl, rfl, trivial⟩ ?_
    refine k_seq ?_
    refine k_region ?_
    refine k_move rfl rfl ?_
    obtain ⟨x10, hx10, h⟩ := ob h
    refine k_call cal19 rfl (disk_Disk_Start_w  h1_0 hx10) rfl ?_
    rintro s24 vr24 st24 ⟨rfl, h1_0⟩
    have szs24 := st24.size
    have hS := hS.c0 st24
    refine k_nil ?_
    refine k_keep [(0, _), (1, _), (3, _), (4, _), (5, _), (7, _)] ⟨rfl, rfl, rfl, rfl, rfl, rfl, trivial⟩ ?_
    refine k_seq ?_
    refine k_region ?_
    refine k_move rfl rfl ?_
    obtain ⟨x11, hx11, h⟩ := ob h
    refine k_call cal27 rfl (disk_Disk_Read_w  h1_0 hx11) rfl ?_
    rintro s25 vr25 st25 ⟨v25_0, rfl, h25_0⟩
    have szs25 := st25.size
    have hS := hS.trans0 st25
    replace h1_0 := h1_0.up2 st25
    refine k_move rfl rfl ?_
    refine k_extract rfl rfl rfl ?_
    refine k_extract rfl rfl rfl ?_
    refine k_assign rfl rfl ?_
    refine k_assign rfl rfl ?_
    refine k_nil ?_
    refine k_keep [(0, _), (1, _), (3, _), (4, _), (5, _), (7, _), (8, _)] ⟨rfl, rfl, rfl, rfl, rfl, rfl, rfl, trivial⟩ ?_
    refine k_seq ?_
    refine k_region ?_
    refine k_move rfl rfl ?_
    refine k_bslice2 (ds := ([(115 : UInt8), (105 : UInt8), (120 : UInt8), (115 : UInt8), (105 : UInt8), (120 : UInt8)] : List UInt8).map bD) slc29 rfl (RVs.cons (R.val rfl) (RVs.cons (R.val rfl) (RVs.cons (R.val rfl) (RVs.cons (R.val rfl) (RVs.cons (R.val rfl) (RVs.cons (R.val rfl) RVs.nil)))))) (by rfl) (by rfl) rfl rfl ?_
    intro s26 v26 b26 st26 ge26 bl26 h26
    have szs26 := st26.size
    have hS := hS.trans0 st26
    replace h25_0 := h25_0.up2 st26
    replace h1_0 := h1_0.up2 st26
    have lt26 := Own.le1 h26
    refine k_conv_sl Tryd.underlying29 Tryd.underlying5 rfl h26 (by simp) rfl ?_
    intro s27 st27 h27
    have szs27 := st27.size
    have hS := hS.c0 st27
    replace h25_0 := h25_0.up2 st27
    replace h1_0 := h1_0.up2 st27
    obtain ⟨x12, hx12, h⟩ := ob h
    refine k_call cal32 rfl (disk_Disk_Put_w  h1_0 (SL.of_R h27) (by first | assumption | omega | (simp <;> omega)) hx12) rfl ?_
    rintro s28 vr28 st28 ⟨rfl, h1_0⟩
    have szs28 := st28.size
    have hS := hS.c0 st28
    replace h25_0 := h25_0.up2 st28
    refine k_move rfl rfl ?_
    obtain ⟨x13, hx13, h⟩ := ob h
    refine k_call cal32 rfl (disk_Disk_Put_w  h1_0 (show SL s28 L0 _ 1 (([] : List UInt8).map bD) from SL.of_R (R.of_SL (.inl ⟨rfl, none, 0, rfl, fun _ => rfl⟩))) (by first | assumption | omega | (simp <;> omega)) hx13) rfl ?_
    rintro s29 vr29 st29 ⟨rfl, h1_0⟩
    have szs29 := st29.size
    have hS := hS.c0 st29
    replace h25_0 := h25_0.up2 st29
    refine k_move rfl rfl ?_
    refine k_bslice2 (ds := ([(115 : UInt8), (105 : UInt8), (120 : UInt8), (115 : UInt8), (105 : UInt8), (120 : UInt8)] : List UInt8).map bD) slc29 rfl (RVs.cons (R.val rfl) (RVs.cons (R.val rfl) (RVs.cons (R.val rfl) (RVs.cons (R.val rfl) (RVs.cons (R.val rfl) (RVs.cons (R.val rfl) RVs.nil)))))) (by rfl) (by rfl) rfl rfl ?_
    intro s30 v30 b30 st30 ge30 bl30 h30
    have szs30 := st30.size
    have hS := hS.trans0 st30
    replace h25_0 := h25_0.up2 st30
    replace h1_0 := h1_0.up2 st30
    have lt30 := Own.le1 h30
    refine k_conv_sl Tryd.underlying29 Tryd.underlying5 rfl h30 (by simp) rfl ?_
    intro s31 st31 h31
    have szs31 := st31.size
    have hS := hS.c0 st31
    replace h25_0 := h25_0.up2 st31
    replace h1_0 := h1_0.up2 st31
    obtain ⟨x14, hx14, h⟩ := ob h
    refine k_call cal32 rfl (disk_Disk_Put_w  h1_0 (SL.of_R h31) (by first | assumption | omega | (simp <;> omega)) hx14) rfl ?_
    rintro s32 vr32 st32 ⟨rfl, h1_0⟩
    have szs32 := st32.size
    have hS := hS.c0 st32
    replace h25_0 := h25_0.up2 st32
    refine k_assign rfl rfl ?_
    refine k_assign rfl rfl ?_
    refine k_assign rfl rfl ?_
    refine k_nil ?_
    refine k_keep [(0, _), (1, _), (3, _), (4, _), (5, _), (7, _), (8, _), (10, _), (11, _), (12, _)] ⟨rfl, rfl, rfl, rfl, rfl, rfl, rfl, rfl, rfl, rfl, trivial⟩ ?_
    refine k_seq ?_
    refine k_region ?_
    refine k_move rfl rfl ?_
    obtain ⟨x15, hx15, h⟩ := ob h
    refine k_call cal29 rfl (disk_Disk_Rename_w  h1_0 hx15) rfl ?_
    rintro s33 vr33 st33 ⟨rfl, h1_0⟩
    have szs33 := st33.size
    have hS := hS.c0 st33
    replace h25_0 := h25_0.up2 st33
    refine k_assign rfl rfl ?_
    refine k_nil ?_
    refine k_keep [(0, _), (1, _), (3, _), (4, _), (5, _), (7, _), (8, _), (10, _), (11, _), (12, _), (13, _)] ⟨rfl, rfl, rfl, rfl, rfl, rfl, rfl, rfl, rfl, rfl, rfl, trivial⟩ ?_
    refine k_seq ?_
    refine k_region ?_
    refine k_move rfl rfl ?_
    obtain ⟨x16, hx16, h⟩ := ob h
    refine k_call cal26 rfl (disk_Disk_Names_w  h1_0 hx16) rfl ?_
    rintro s34 v34_0 st34 ⟨_, rfl, h34_0⟩
    have szs34 := st34.size
    have hS := hS.trans0 st34
    replace h25_0 := h25_0.up2 st34
    replace h1_0 := h1_0.up2 st34
    refine k_assign rfl rfl ?_
    refine k_nil ?_
    refine k_keep [(0, _), (1, _), (3, _), (4, _), (5, _), (7, _), (8, _), (10, _), (11, _), (12, _), (13, _), (14, _)] ⟨rfl, rfl, rfl, rfl, rfl, rfl, rfl, rfl, rfl, rfl, rfl, rfl, trivial⟩ ?_
    refine k_seq ?_
    refine k_region ?_
    refine k_move rfl rfl ?_
    obtain ⟨x17, hx17, h⟩ := ob h
    refine k_call cal27 rfl (disk_Disk_Read_w  h1_0 hx17) rfl ?_
    rintro s35 vr35 st35 ⟨v35_0, rfl, h35_0⟩
    have szs35 := st35.size
    have hS := hS.trans0 st35
    replace h25_0 := h25_0.up2 st35
    replace h34_0 := h34_0.up2 st35
    replace h1_0 := h1_0.up2 st35
    refine k_move rfl rfl ?_
    refine k_extract rfl rfl rfl ?_
    refine k_extract rfl rfl rfl ?_
    refine k_assign rfl rfl ?_
    refine k_assign rfl rfl ?_
    refine k_nil ?_
    refine k_keep [(0, _), (1, _), (3, _), (4, _), (5, _), (7, _), (8, _), (10, _), (11, _), (12, _), (13, _), (14, _), (15, _)] ⟨rfl, rfl, rfl, rfl, rfl, rfl, rfl, rfl, rfl, rfl, rfl, rfl, rfl, trivial⟩ ?_
    refine k_seq ?_
    refine k_region ?_
    refine k_move rfl rfl ?_
    obtain ⟨x18, hx18, h⟩ := ob h
    refine k_call cal25 rfl (disk_Disk_Fuse_w  h1_0 hx18) rfl ?_
    rintro s36 vr36 st36 ⟨rfl, h1_0⟩
    have szs36 := st36.size
    have hS := hS.c0 st36
    replace h25_0 := h25_0.up2 st36
    replace h34_0 := h34_0.up2 st36
    replace h35_0 := h35_0.up2 st36
    refine k_nil ?_
    refine k_keep [(0, _), (1, _), (3, _), (4, _), (5, _), (7, _), (8, _), (10, _), (11, _), (12, _), (13, _), (14, _), (15, _)] ⟨rfl, rfl, rfl, rfl, rfl, rfl, rfl, rfl, rfl, rfl, rfl, rfl, rfl, trivial⟩ ?_
    refine k_seq ?_
    refine k_region ?_
    refine k_move rfl rfl ?_
    refine k_bslice2 (ds := ([(112 : UInt8)] : List UInt8).map bD) slc29 rfl (RVs.cons (R.val rfl) RVs.nil) (by rfl) (by rfl) rfl rfl ?_
    intro s37 v37 b37 st37 ge37 bl37 h37
    have szs37 := st37.size
    have hS := hS.trans0 st37
    replace h25_0 := h25_0.up2 st37
    replace h34_0 := h34_0.up2 st37
    replace h35_0 := h35_0.up2 st37
    replace h1_0 := h1_0.up2 st37
    have lt37 := Own.le1 h37
    refine k_conv_sl Tryd.underlying29 Tryd.underlying5 rfl h37 (by simp) rfl ?_
    intro s38 st38 h38
    have szs38 := st38.size
    have hS := hS.c0 st38
    replace h25_0 := h25_0.up2 st38
    replace h34_0 := h34_0.up2 st38
    replace h35_0 := h35_0.up2 st38
    replace h1_0 := h1_0.up2 st38
    obtain ⟨x19, hx19, h⟩ := ob h
    refine k_call cal31 rfl (disk_Disk_Append_w  h1_0 (SL.of_R h38) (by first | assumption | omega | (simp <;> omega)) hx19) rfl ?_
    rintro s39 vr39 st39 ⟨rfl, h1_0⟩
    have szs39 := st39.size
    have hS := hS.c0 st39
    replace h25_0 := h25_0.up2 st39
    replace h34_0 := h34_0.up2 st39
    replace h35_0 := h35_0.up2 st39
    refine k_move rfl rfl ?_
    refine k_bslice2 (ds := ([(113 : UInt8)] : List UInt8).map bD) slc29 rfl (RVs.cons (R.val rfl) RVs.nil) (by rfl) (by rfl) rfl rfl ?_
    intro s40 v40 b40 st40 ge40 bl40 h40
    have szs40 := st40.size
    have hS := hS.trans0 st40
    replace h25_0 := h25_0.up2 st40
    replace h34_0 := h34_0.up2 st40
    replace h35_0 := h35_0.up2 st40
    replace h1_0 := h1_0.up2 st40
    have lt40 := Own.le1 h40
    refine k_conv_sl Tryd.underlying29 Tryd.underlying5 rfl h40 (by simp) rfl ?_
    intro s41 st41 h41
    have szs41 := st41.size
    have hS := hS.c0 st41
    replace h25_0 := h25_0.up2 st41
    replace h34_0 := h34_0.up2 st41
    replace h35_0 := h35_0.up2 st41
    replace h1_0 := h1_0.up2 st41
    obtain ⟨x20, hx20, h⟩ := ob h
    refine k_call cal31 rfl (disk_Disk_Append_w  h1_0 (SL.of_R h41) (by first | assumption | omega | (simp <;> omega)) hx20) rfl ?_
    rintro s42 vr42 st42 ⟨rfl, h1_0⟩
    have szs42 := st42.size
    have hS := hS.c0 st42
    replace h25_0 := h25_0.up2 st42
    replace h34_0 := h34_0.up2 st42
    replace h35_0 := h35_0.up2 st42
    refine k_assign rfl rfl ?_
    refine k_assign rfl rfl ?_
    refine k_nil ?_
    refine k_keep [(0, _), (1, _), (3, _), (4, _), (5, _), (7, _), (8, _), (10, _), (11, _), (12, _), (13, _), (14, _), (15, _), (17, _), (18, _)] ⟨rfl, rfl, rfl, rfl, rfl, rfl, rfl, rfl, rfl, rfl, rfl, rfl, rfl, rfl, rfl, trivial⟩ ?_
    refine k_seq ?_
    refine k_region ?_
    refine k_move rfl rfl ?_
    obtain ⟨x21, hx21, h⟩ := ob h
    refine k_call cal19 rfl (disk_Disk_Start_w  h1_0 hx21) rfl ?_
    rintro s43 vr43 st43 ⟨rfl, h1_0⟩
    have szs43 := st43.size
    have hS := hS.c0 st43
    replace h25_0 := h25_0.up2 st43
    replace h34_0 := h34_0.up2 st43
    replace h35_0 := h35_0.up2 st43
    refine k_nil ?_
    refine k_keep [(0, _), (1, _), (3, _), (4, _), (5, _), (7, _), (8, _), (10, _), (11, _), (12, _), (13, _), (14, _), (15, _), (17, _), (18, _)] ⟨rfl, rfl, rfl, rfl, rfl, rfl, rfl, rfl, rfl, rfl, rfl, rfl, rfl, rfl, rfl, trivial⟩ ?_
    refine k_seq ?_
    refine k_region ?_
    refine k_move rfl rfl ?_
    obtain ⟨x22, hx22, h⟩ := ob h
    refine k_call cal27 rfl (disk_Disk_Read_w  h1_0 hx22) rfl ?_
    rintro s44 vr44 st44 ⟨v44_0, rfl, h44_0⟩
    have szs44 := st44.size
    have hS := hS.trans0 st44
    replace h25_0 := h25_0.up2 st44
    replace h34_0 := h34_0.up2 st44
    replace h35_0 := h35_0.up2 st44
    refine k_move rfl rfl ?_
    refine k_extract rfl rfl rfl ?_
    refine k_extract rfl rfl rfl ?_
    refine k_assign rfl rfl ?_
    refine k_assign rfl rfl ?_
    refine k_nil ?_
    refine k_keep [(0, _), (3, _), (4, _), (5, _), (7, _), (8, _), (10, _), (11, _), (12, _), (13, _), (14, _), (15, _), (17, _), (18, _), (20, _)] ⟨rfl, rfl, rfl, rfl, rfl, rfl, rfl, rfl, rfl, rfl, rfl, rfl, rfl, rfl, rfl, trivial⟩ ?_
    refine k_seq ?_
    refine k_region ?_
    refine k_move rfl rfl ?_
    refine k_eql rfl rfl rfl ?_
    refine k_move rfl rfl ?_
    have hE45 := Step.r0 K0 s44
    refine k_cutl (X := St) 3 [(0, .bool false), (3, .int .i64 x6.1), (4, .int .i64 x7), (5, .int .i64 x8.1), (7, .int .i64 x9.2), (8, v25_0), (10, .int .i64 x12.1), (11, .int .i64 x13.1), (12, .int .i64 x14.1), (13, .int .i64 x15.1), (14, v34_0), (15, v35_0), (17, .int .i64 x19.1), (18, .int .i64 x20.1), (20, .int .i64 x22.2), (97, .int .i64 x6.1), (98, .bool (decide (x6.1 = 0)))] (fun _ => [(102, .bool (decide ((x6.1 = 0) ∧ (x7 = 1))))]) (fun sl wL => sl.w = wL ∧ Step K0 s44 sl) ?_ ?_
    ·
     refine k_again 99 rfl ?_
     refine k_split (fun c46 => ?_) (fun c46 => ?_)
     ·
      refine k_yes rfl rfl ?_
      refine k_move rfl rfl ?_
      refine k_yes rfl rfl ?_
      refine k_eql rfl rfl rfl ?_
      refine k_pickT rfl rfl rfl rfl ?_
      exact k_met ⟨s44, ⟨(congrArg (fun b => some (Value.bool b)) (by first | exact decide_eq_decide.2 ⟨fun h => ⟨c46, h⟩, fun h => h.2⟩ | exact (decide_eq_false (fun h => c46 h.1)).symm | (simp [c46]; done) | (simp [c46, i64] <;> omega))), trivial⟩, ⟨rfl, rfl, rfl, rfl, rfl, rfl, rfl, rfl, rfl, rfl, rfl, rfl, rfl, rfl, rfl, rfl, rfl, trivial⟩, rfl, hE45⟩
     ·
      refine k_no rfl rfl rfl rfl ?_
      refine k_no rfl rfl rfl rfl ?_
      refine k_pickF rfl rfl rfl rfl ?_
      exact k_met ⟨s44, ⟨(congrArg (fun b => some (Value.bool b)) (by first | exact decide_eq_decide.2 ⟨fun h => ⟨c46, h⟩, fun h => h.2⟩ | exact (decide_eq_false (fun h => c46 h.1)).symm | (simp [c46]; done) | (simp [c46, i64] <;> omega))), trivial⟩, ⟨rfl, rfl, rfl, rfl, rfl, rfl, rfl, rfl, rfl, rfl, rfl, rfl, rfl, rfl, rfl, rfl, rfl, trivial⟩, rfl, hE45⟩
    ·
     rintro s47 wL ⟨rfl, hE45⟩
     have szs47 := hE45.size
     have hS := hS.trans0 hE45
     replace h25_0 := h25_0.up2 hE45
     replace h34_0 := h34_0.up2 hE45
     replace h35_0 := h35_0.up2 hE45
     refine k_move rfl rfl ?_
     have hE48 := Step.r0 K0 s47
     refine k_cutl (X := St) 3 [(0, .bool false), (3, .int .i64 x6.1), (4, .int .i64 x7), (5, .int .i64 x8.1), (7, .int .i64 x9.2), (8, v25_0), (10, .int .i64 x12.1), (11, .int .i64 x13.1), (12, .int .i64 x14.1), (13, .int .i64 x15.1), (14, v34_0), (15, v35_0), (17, .int .i64 x19.1), (18, .int .i64 x20.1), (20, .int .i64 x22.2), (97, .int .i64 x6.1), (98, .bool (decide (x6.1 = 0))), (102, .bool (decide ((x6.1 = 0) ∧ (x7 = 1))))] (fun _ => [(106, .bool (decide (((x6.1 = 0) ∧ (x7 = 1)) ∧ (x8.1 = 0))))]) (fun sl wL => sl.w = wL ∧ Step K0 s47 sl) ?_ ?_
     ·
      refine k_again 103 rfl ?_
      refine k_split (fun c49 => ?_) (fun c49 => ?_)
      ·
       refine k_yes rfl rfl ?_
       refine k_move rfl rfl ?_
       refine k_yes rfl rfl ?_
       refine k_eql rfl rfl rfl ?_
       refine k_pickT rfl rfl rfl rfl ?_
       exact k_met ⟨s47, ⟨(congrArg (fun b => some (Value.bool b)) (by first | exact decide_eq_decide.2 ⟨fun h => ⟨c49, h⟩, fun h => h.2⟩ | exact (decide_eq_false (fun h => c49 h.1)).symm | (simp [c49]; done) | (simp [c49, i64] <;> omega))), trivial⟩, ⟨rfl, rfl, rfl, rfl, rfl, rfl, rfl, rfl, rfl, rfl, rfl, rfl, rfl, rfl, rfl, rfl, rfl, rfl, trivial⟩, rfl, hE48⟩
      ·
       refine k_no rfl rfl rfl rfl ?_
       refine k_no rfl rfl rfl rfl ?_
       refine k_pickF rfl rfl rfl rfl ?_
       exact k_met ⟨s47, ⟨(congrArg (fun b => some (Value.bool b)) (by first | exact decide_eq_decide.2 ⟨fun h => ⟨c49, h⟩, fun h => h.2⟩ | exact (decide_eq_false (fun h => c49 h.1)).symm | (simp [c49]; done) | (simp [c49, i64] <;> omega))), trivial⟩, ⟨rfl, rfl, rfl, rfl, rfl, rfl, rfl, rfl, rfl, rfl, rfl, rfl, rfl, rfl, rfl, rfl, rfl, rfl, trivial⟩, rfl, hE48⟩
     ·
      rintro s50 wL ⟨rfl, hE48⟩
      have szs50 := hE48.size
      have hS := hS.trans0 hE48
      replace h25_0 := h25_0.up2 hE48
      replace h34_0 := h34_0.up2 hE48
      replace h35_0 := h35_0.up2 hE48
      refine k_move rfl rfl ?_
      have hE51 := Step.r0 K0 s50
      refine k_cutl (X := St) 3 [(0, .bool false), (3, .int .i64 x6.1), (4, .int .i64 x7), (5, .int .i64 x8.1), (7, .int .i64 x9.2), (8, v25_0), (10, .int .i64 x12.1), (11, .int .i64 x13.1), (12, .int .i64 x14.1), (13, .int .i64 x15.1), (14, v34_0), (15, v35_0), (17, .int .i64 x19.1), (18, .int .i64 x20.1), (20, .int .i64 x22.2), (97, .int .i64 x6.1), (98, .bool (decide (x6.1 = 0))), (102, .bool (decide ((x6.1 = 0) ∧ (x7 = 1)))), (106, .bool (decide (((x6.1 = 0) ∧ (x7 = 1)) ∧ (x8.1 = 0))))] (fun _ => [(110, .bool (decide ((((x6.1 = 0) ∧ (x7 = 1)) ∧ (x8.1 = 0)) ∧ (x9.2 = 12))))]) (fun sl wL => sl.w = wL ∧ Step K0 s50 sl) ?_ ?_
      ·
       refine k_again 107 rfl ?_
       refine k_split (fun c52 => ?_) (fun c52 => ?_)
       ·
        refine k_yes rfl rfl ?_
        refine k_move rfl rfl ?_
        refine k_yes rfl rfl ?_
        refine k_eql rfl rfl rfl ?_
        refine k_pickT rfl rfl rfl rfl ?_
        exact k_met ⟨s50, ⟨(congrArg (fun b => some (Value.bool b)) (by first | exact decide_eq_decide.2 ⟨fun h => ⟨c52, h⟩, fun h => h.2⟩ | exact (decide_eq_false (fun h => c52 h.1)).symm | (simp [c52]; done) | (simp [c52, i64] <;> omega))), trivial⟩, ⟨rfl, rfl, rfl, rfl, rfl, rfl, rfl, rfl, rfl, rfl, rfl, rfl, rfl, rfl, rfl, rfl, rfl, rfl, rfl, trivial⟩, rfl, hE51⟩
       ·
        refine k_no rfl rfl rfl rfl ?_
        refine k_no rfl rfl rfl rfl ?_
        refine k_pickF rfl rfl rfl rfl ?_
        exact k_met ⟨s50, ⟨(congrArg (fun b => some (Value.bool b)) (by first | exact decide_eq_decide.2 ⟨fun h => ⟨c52, h⟩, fun h => h.2⟩ | exact (decide_eq_false (fun h => c52 h.1)).symm | (simp [c52]; done) | (simp [c52, i64] <;> omega))), trivial⟩, ⟨rfl, rfl, rfl, rfl, rfl, rfl, rfl, rfl, rfl, rfl, rfl, rfl, rfl, rfl, rfl, rfl, rfl, rfl, rfl, trivial⟩, rfl, hE51⟩
      ·
       rintro s53 wL ⟨rfl, hE51⟩
       have szs53 := hE51.size
       have hS := hS.trans0 hE51
       replace h25_0 := h25_0.up2 hE51
       replace h34_0 := h34_0.up2 hE51
       replace h35_0 := h35_0.up2 hE51
       refine k_move rfl rfl ?_
       have hE54 := Step.r0 K0 s53
       refine k_cutl (X := St) 4 [(0, .bool false), (3, .int .i64 x6.1), (4, .int .i64 x7), (5, .int .i64 x8.1), (7, .int .i64 x9.2), (8, v25_0), (10, .int .i64 x12.1), (11, .int .i64 x13.1), (12, .int .i64 x14.1), (13, .int .i64 x15.1), (14, v34_0), (15, v35_0), (17, .int .i64 x19.1), (18, .int .i64 x20.1), (20, .int .i64 x22.2), (97, .int .i64 x6.1), (98, .bool (decide (x6.1 = 0))), (102, .bool (decide ((x6.1 = 0) ∧ (x7 = 1)))), (106, .bool (decide (((x6.1 = 0) ∧ (x7 = 1)) ∧ (x8.1 = 0)))), (110, .bool (decide ((((x6.1 = 0) ∧ (x7 = 1)) ∧ (x8.1 = 0)) ∧ (x9.2 = 12))))] (fun _ => [(115, .bool (decide (((((x6.1 = 0) ∧ (x7 = 1)) ∧ (x8.1 = 0)) ∧ (x9.2 = 12)) ∧ (x11.1 = ([120, 121, 122, 117, 118] : List UInt8)))))]) (fun sl wL => sl.w = wL ∧ Step K0 s53 sl) ?_ ?_
       ·
        refine k_again 111 rfl ?_
        refine k_split (fun c55 => ?_) (fun c55 => ?_)
        ·
         refine k_yes rfl rfl ?_
         refine k_move rfl rfl ?_
         refine k_yes rfl rfl ?_
         refine k_bts (m := x11.1) Tryd.underlying29 Tryd.underlying5 Tryd.underlying9 rfl (SL.of_R h25_0) rfl ?_
         refine k_yes rfl rfl ?_
         refine k_eql_str rfl rfl rfl ?_
         refine k_pickT rfl rfl rfl rfl ?_
         exact k_met ⟨s53, ⟨(congrArg (fun b => some (Value.bool b)) (by first | exact decide_eq_decide.2 ⟨fun h => ⟨c55, h⟩, fun h => h.2⟩ | exact (decide_eq_false (fun h => c55 h.1)).symm | (simp [c55]; done) | (simp [c55, i64] <;> omega))), trivial⟩, ⟨rfl, rfl, rfl, rfl, rfl, rfl, rfl, rfl, rfl, rfl, rfl, rfl, rfl, rfl, rfl, rfl, rfl, rfl, rfl, rfl, trivial⟩, rfl, hE54⟩
        ·
         refine k_no rfl rfl rfl rfl ?_
         refine k_no rfl rfl rfl rfl ?_
         refine k_no rfl rfl rfl rfl ?_
         refine k_pickF rfl rfl rfl rfl ?_
         exact k_met ⟨s53, ⟨(congrArg (fun b => some (Value.bool b)) (by first | exact decide_eq_decide.2 ⟨fun h => ⟨c55, h⟩, fun h => h.2⟩ | exact (decide_eq_false (fun h => c55 h.1)).symm | (simp [c55]; done) | (simp [c55, i64] <;> omega))), trivial⟩, ⟨rfl, rfl, rfl, rfl, rfl, rfl, rfl, rfl, rfl, rfl, rfl, rfl, rfl, rfl, rfl, rfl, rfl, rfl, rfl, rfl, trivial⟩, rfl, hE54⟩
       ·
        rintro s56 wL ⟨rfl, hE54⟩
        have szs56 := hE54.size
        have hS := hS.trans0 hE54
        replace h34_0 := h34_0.up2 hE54
        replace h35_0 := h35_0.up2 hE54
        refine k_move rfl rfl ?_
        have hE57 := Step.r0 K0 s56
        refine k_cutl (X := St) 3 [(0, .bool false), (3, .int .i64 x6.1), (4, .int .i64 x7), (5, .int .i64 x8.1), (7, .int .i64 x9.2), (8, v25_0), (10, .int .i64 x12.1), (11, .int .i64 x13.1), (12, .int .i64 x14.1), (13, .int .i64 x15.1), (14, v34_0), (15, v35_0), (17, .int .i64 x19.1), (18, .int .i64 x20.1), (20, .int .i64 x22.2), (97, .int .i64 x6.1), (98, .bool (decide (x6.1 = 0))), (102, .bool (decide ((x6.1 = 0) ∧ (x7 = 1)))), (106, .bool (decide (((x6.1 = 0) ∧ (x7 = 1)) ∧ (x8.1 = 0)))), (110, .bool (decide ((((x6.1 = 0) ∧ (x7 = 1)) ∧ (x8.1 = 0)) ∧ (x9.2 = 12)))), (115, .bool (decide (((((x6.1 = 0) ∧ (x7 = 1)) ∧ (x8.1 = 0)) ∧ (x9.2 = 12)) ∧ (x11.1 = ([120, 121, 122, 117, 118] : List UInt8)))))] (fun _ => [(119, .bool (decide ((((((x6.1 = 0) ∧ (x7 = 1)) ∧ (x8.1 = 0)) ∧ (x9.2 = 12)) ∧ (x11.1 = ([120, 121, 122, 117, 118] : List UInt8))) ∧ (x12.1 = 3))))]) (fun sl wL => sl.w = wL ∧ Step K0 s56 sl) ?_ ?_
        ·
         refine k_again 116 rfl ?_
         refine k_split (fun c58 => ?_) (fun c58 => ?_)
         ·
          refine k_yes rfl rfl ?_
          refine k_move rfl rfl ?_
          refine k_yes rfl rfl ?_
          refine k_eql rfl rfl rfl ?_
          refine k_pickT rfl rfl rfl rfl ?_
          exact k_met ⟨s56, ⟨(congrArg (fun b => some (Value.bool b)) (by first | exact decide_eq_decide.2 ⟨fun h => ⟨c58, h⟩, fun h => h.2⟩ | exact (decide_eq_false (fun h => c58 h.1)).symm | (simp [c58]; done) | (simp [c58, i64] <;> omega))), trivial⟩, ⟨rfl, rfl, rfl, rfl, rfl, rfl, rfl, rfl, rfl, rfl, rfl, rfl, rfl, rfl, rfl, rfl, rfl, rfl, rfl, rfl, rfl, trivial⟩, rfl, hE57⟩
         ·
          refine k_no rfl rfl rfl rfl ?_
          refine k_no rfl rfl rfl rfl ?_
          refine k_pickF rfl rfl rfl rfl ?_
          exact k_met ⟨s56, ⟨(congrArg (fun b => some (Value.bool b)) (by first | exact decide_eq_decide.2 ⟨fun h => ⟨c58, h⟩, fun h => h.2⟩ | exact (decide_eq_false (fun h => c58 h.1)).symm | (simp [c58]; done) | (simp [c58, i64] <;> omega))), trivial⟩, ⟨rfl, rfl, rfl, rfl, rfl, rfl, rfl, rfl, rfl, rfl, rfl, rfl, rfl, rfl, rfl, rfl, rfl, rfl, rfl, rfl, rfl, trivial⟩, rfl, hE57⟩
        ·
         rintro s59 wL ⟨rfl, hE57⟩
         have szs59 := hE57.size
         have hS := hS.trans0 hE57
         replace h34_0 := h34_0.up2 hE57
         replace h35_0 := h35_0.up2 hE57
         refine k_move rfl rfl ?_
         have hE60 := Step.r0 K0 s59
         refine k_cutl (X := St) 3 [(0, .bool false), (3, .int .i64 x6.1), (4, .int .i64 x7), (5, .int .i64 x8.1), (7, .int .i64 x9.2), (8, v25_0), (10, .int .i64 x12.1), (11, .int .i64 x13.1), (12, .int .i64 x14.1), (13, .int .i64 x15.1), (14, v34_0), (15, v35_0), (17, .int .i64 x19.1), (18, .int .i64 x20.1), (20, .int .i64 x22.2), (97, .int .i64 x6.1), (98, .bool (decide (x6.1 = 0))), (102, .bool (decide ((x6.1 = 0) ∧ (x7 = 1)))), (106, .bool (decide (((x6.1 = 0) ∧ (x7 = 1)) ∧ (x8.1 = 0)))), (110, .bool (decide ((((x6.1 = 0) ∧ (x7 = 1)) ∧ (x8.1 = 0)) ∧ (x9.2 = 12)))), (115, .bool (decide (((((x6.1 = 0) ∧ (x7 = 1)) ∧ (x8.1 = 0)) ∧ (x9.2 = 12)) ∧ (x11.1 = ([120, 121, 122, 117, 118] : List UInt8))))), (119, .bool (decide ((((((x6.1 = 0) ∧ (x7 = 1)) ∧ (x8.1 = 0)) ∧ (x9.2 = 12)) ∧ (x11.1 = ([120, 121, 122, 117, 118] : List UInt8))) ∧ (x12.1 = 3))))] (fun _ => [(123, .bool (decide (((((((x6.1 = 0) ∧ (x7 = 1)) ∧ (x8.1 = 0)) ∧ (x9.2 = 12)) ∧ (x11.1 = ([120, 121, 122, 117, 118] : List UInt8))) ∧ (x12.1 = 3)) ∧ (x13.1 = 0))))]) (fun sl wL => sl.w = wL ∧ Step K0 s59 sl) ?_ ?_
         ·
          refine k_again 120 rfl ?_
          refine k_split (fun c61 => ?_) (fun c61 => ?_)
          ·
           refine k_yes rfl rfl ?_
           refine k_move rfl rfl ?_
           refine k_yes rfl rfl ?_
           refine k_eql rfl rfl rfl ?_
           refine k_pickT rfl rfl rfl rfl ?_
           exact k_met ⟨s59, ⟨(congrArg (fun b => some (Value.bool b)) (by first | exact decide_eq_decide.2 ⟨fun h => ⟨c61, h⟩, fun h => h.2⟩ | exact (decide_eq_false (fun h => c61 h.1)).symm | (simp [c61]; done) | (simp [c61, i64] <;> omega))), trivial⟩, ⟨rfl, rfl, rfl, rfl, rfl, rfl, rfl, rfl, rfl, rfl, rfl, rfl, rfl, rfl, rfl, rfl, rfl, rfl, rfl, rfl, rfl, rfl, trivial⟩, rfl, hE60⟩
          ·
           refine k_no rfl rfl rfl rfl ?_
           refine k_no rfl rfl rfl rfl ?_
           refine k_pickF rfl rfl rfl rfl ?_
           exact k_met ⟨s59, ⟨(congrArg (fun b => some (Value.bool b)) (by first | exact decide_eq_decide.2 ⟨fun h => ⟨c61, h⟩, fun h => h.2⟩ | exact (decide_eq_false (fun h => c61 h.1)).symm | (simp [c61]; done) | (simp [c61, i64] <;> omega))), trivial⟩, ⟨rfl, rfl, rfl, rfl, rfl, rfl, rfl, rfl, rfl, rfl, rfl, rfl, rfl, rfl, rfl, rfl, rfl, rfl, rfl, rfl, rfl, rfl, trivial⟩, rfl, hE60⟩
         ·
          rintro s62 wL ⟨rfl, hE60⟩
          have szs62 := hE60.size
          have hS := hS.trans0 hE60
          replace h34_0 := h34_0.up2 hE60
          replace h35_0 := h35_0.up2 hE60
          refine k_move rfl rfl ?_
          have hE63 := Step.r0 K0 s62
          refine k_cutl (X := St) 3 [(0, .bool false), (3, .int .i64 x6.1), (4, .int .i64 x7), (5, .int .i64 x8.1), (7, .int .i64 x9.2), (8, v25_0), (10, .int .i64 x12.1), (11, .int .i64 x13.1), (12, .int .i64 x14.1), (13, .int .i64 x15.1), (14, v34_0), (15, v35_0), (17, .int .i64 x19.1), (18, .int .i64 x20.1), (20, .int .i64 x22.2), (97, .int .i64 x6.1), (98, .bool (decide (x6.1 = 0))), (102, .bool (decide ((x6.1 = 0) ∧ (x7 = 1)))), (106, .bool (decide (((x6.1 = 0) ∧ (x7 = 1)) ∧ (x8.1 = 0)))), (110, .bool (decide ((((x6.1 = 0) ∧ (x7 = 1)) ∧ (x8.1 = 0)) ∧ (x9.2 = 12)))), (115, .bool (decide (((((x6.1 = 0) ∧ (x7 = 1)) ∧ (x8.1 = 0)) ∧ (x9.2 = 12)) ∧ (x11.1 = ([120, 121, 122, 117, 118] : List UInt8))))), (119, .bool (decide ((((((x6.1 = 0) ∧ (x7 = 1)) ∧ (x8.1 = 0)) ∧ (x9.2 = 12)) ∧ (x11.1 = ([120, 121, 122, 117, 118] : List UInt8))) ∧ (x12.1 = 3)))), (123, .bool (decide (((((((x6.1 = 0) ∧ (x7 = 1)) ∧ (x8.1 = 0)) ∧ (x9.2 = 12)) ∧ (x11.1 = ([120, 121, 122, 117, 118] : List UInt8))) ∧ (x12.1 = 3)) ∧ (x13.1 = 0))))] (fun _ => [(127, .bool (decide ((((((((x6.1 = 0) ∧ (x7 = 1)) ∧ (x8.1 = 0)) ∧ (x9.2 = 12)) ∧ (x11.1 = ([120, 121, 122, 117, 118] : List UInt8))) ∧ (x12.1 = 3)) ∧ (x13.1 = 0)) ∧ (x14.1 = 0))))]) (fun sl wL => sl.w = wL ∧ Step K0 s62 sl) ?_ ?_
          ·
           refine k_again 124 rfl ?_
           refine k_split (fun c64 => ?_) (fun c64 => ?_)
           ·
            refine k_yes rfl rfl ?_
            refine k_move rfl rfl ?_
            refine k_yes rfl rfl ?_
            refine k_eql rfl rfl rfl ?_
            refine k_pickT rfl rfl rfl rfl ?_
            exact k_met ⟨s62, ⟨(congrArg (fun b => some (Value.bool b)) (by first | exact decide_eq_decide.2 ⟨fun h => ⟨c64, h⟩, fun h => h.2⟩ | exact (decide_eq_false (fun h => c64 h.1)).symm | (simp [c64]; done) | (simp [c64, i64] <;> omega))), trivial⟩, ⟨rfl, rfl, rfl, rfl, rfl, rfl, rfl, rfl, rfl, rfl, rfl, rfl, rfl, rfl, rfl, rfl, rfl, rfl, rfl, rfl, rfl, rfl, rfl, trivial⟩, rfl, hE63⟩
           ·
            refine k_no rfl rfl rfl rfl ?_
            refine k_no rfl rfl rfl rfl ?_
            refine k_pickF rfl rfl rfl rfl ?_
            exact k_met ⟨s62, ⟨(congrArg (fun b => some (Value.bool b)) (by first | exact decide_eq_decide.2 ⟨fun h => ⟨c64, h⟩, fun h => h.2⟩ | exact (decide_eq_false (fun h => c64 h.1)).symm | (simp [c64]; done) | (simp [c64, i64] <;> omega))), trivial⟩, ⟨rfl, rfl, rfl, rfl, rfl, rfl, rfl, rfl, rfl, rfl, rfl, rfl, rfl, rfl, rfl, rfl, rfl, rfl, rfl, rfl, rfl, rfl, rfl, trivial⟩, rfl, hE63⟩
          ·
           rintro s65 wL ⟨rfl, hE63⟩
           have szs65 := hE63.size
           have hS := hS.trans0 hE63
           replace h34_0 := h34_0.up2 hE63
           replace h35_0 := h35_0.up2 hE63
           refine k_move rfl rfl ?_
           have hE66 := Step.r0 K0 s65
           refine k_cutl (X := St) 3 [(0, .bool false), (3, .int .i64 x6.1), (4, .int .i64 x7), (5, .int .i64 x8.1), (7, .int .i64 x9.2), (8, v25_0), (10, .int .i64 x12.1), (11, .int .i64 x13.1), (12, .int .i64 x14.1), (13, .int .i64 x15.1), (14, v34_0), (15, v35_0), (17, .int .i64 x19.1), (18, .int .i64 x20.1), (20, .int .i64 x22.2), (97, .int .i64 x6.1), (98, .bool (decide (x6.1 = 0))), (102, .bool (decide ((x6.1 = 0) ∧ (x7 = 1)))), (106, .bool (decide (((x6.1 = 0) ∧ (x7 = 1)) ∧ (x8.1 = 0)))), (110, .bool (decide ((((x6.1 = 0) ∧ (x7 = 1)) ∧ (x8.1 = 0)) ∧ (x9.2 = 12)))), (115, .bool (decide (((((x6.1 = 0) ∧ (x7 = 1)) ∧ (x8.1 = 0)) ∧ (x9.2 = 12)) ∧ (x11.1 = ([120, 121, 122, 117, 118] : List UInt8))))), (119, .bool (decide ((((((x6.1 = 0) ∧ (x7 = 1)) ∧ (x8.1 = 0)) ∧ (x9.2 = 12)) ∧ (x11.1 = ([120, 121, 122, 117, 118] : List UInt8))) ∧ (x12.1 = 3)))), (123, .bool (decide (((((((x6.1 = 0) ∧ (x7 = 1)) ∧ (x8.1 = 0)) ∧ (x9.2 = 12)) ∧ (x11.1 = ([120, 121, 122, 117, 118] : List UInt8))) ∧ (x12.1 = 3)) ∧ (x13.1 = 0)))), (127, .bool (decide ((((((((x6.1 = 0) ∧ (x7 = 1)) ∧ (x8.1 = 0)) ∧ (x9.2 = 12)) ∧ (x11.1 = ([120, 121, 122, 117, 118] : List UInt8))) ∧ (x12.1 = 3)) ∧ (x13.1 = 0)) ∧ (x14.1 = 0))))] (fun _ => [(131, .bool (decide (((((((((x6.1 = 0) ∧ (x7 = 1)) ∧ (x8.1 = 0)) ∧ (x9.2 = 12)) ∧ (x11.1 = ([120, 121, 122, 117, 118] : List UInt8))) ∧ (x12.1 = 3)) ∧ (x13.1 = 0)) ∧ (x14.1 = 0)) ∧ (x15.1 = 0))))]) (fun sl wL => sl.w = wL ∧ Step K0 s65 sl) ?_ ?_
           ·
            refine k_again 128 rfl ?_
            refine k_split (fun c67 => ?_) (fun c67 => ?_)
            ·
             refine k_yes rfl rfl ?_
             refine k_move rfl rfl ?_
             refine k_yes rfl rfl ?_
             refine k_eql rfl rfl rfl ?_
             refine k_pickT rfl rfl rfl rfl ?_
             exact k_met ⟨s65, ⟨(congrArg (fun b => some (Value.bool b)) (by first | exact decide_eq_decide.2 ⟨fun h => ⟨c67, h⟩, fun h => h.2⟩ | exact (decide_eq_false (fun h => c67 h.1)).symm | (simp [c67]; done) | (simp [c67, i64] <;> omega))), trivial⟩, ⟨rfl, rfl, rfl, rfl, rfl, rfl, rfl, rfl, rfl, rfl, rfl, rfl, rfl, rfl, rfl, rfl, rfl, rfl, rfl, rfl, rfl, rfl, rfl, rfl, trivial⟩, rfl, hE66⟩
            ·
             refine k_no rfl rfl rfl rfl ?_
             refine k_no rfl rfl rfl rfl ?_
             refine k_pickF rfl rfl rfl rfl ?_
             exact k_met ⟨s65, ⟨(congrArg (fun b => some (Value.bool b)) (by first | exact decide_eq_decide.2 ⟨fun h => ⟨c67, h⟩, fun h => h.2⟩ | exact (decide_eq_false (fun h => c67 h.1)).symm | (simp [c67]; done) | (simp [c67, i64] <;> omega))), trivial⟩, ⟨rfl, rfl, rfl, rfl, rfl, rfl, rfl, rfl, rfl, rfl, rfl, rfl, rfl, rfl, rfl, rfl, rfl, rfl, rfl, rfl, rfl, rfl, rfl, rfl, trivial⟩, rfl, hE66⟩
           ·
            rintro s68 wL ⟨rfl, hE66⟩
            have szs68 := hE66.size
            have hS := hS.trans0 hE66
            replace h34_0 := h34_0.up2 hE66
            replace h35_0 := h35_0.up2 hE66
            refine k_move rfl rfl ?_
            have hE69 := Step.r0 K0 s68
            refine k_cutl (X := St) 4 [(0, .bool false), (3, .int .i64 x6.1), (4, .int .i64 x7), (5, .int .i64 x8.1), (7, .int .i64 x9.2), (8, v25_0), (10, .int .i64 x12.1), (11, .int .i64 x13.1), (12, .int .i64 x14.1), (13, .int .i64 x15.1), (14, v34_0), (15, v35_0), (17, .int .i64 x19.1), (18, .int .i64 x20.1), (20, .int .i64 x22.2), (97, .int .i64 x6.1), (98, .bool (decide (x6.1 = 0))), (102, .bool (decide ((x6.1 = 0) ∧ (x7 = 1)))), (106, .bool (decide (((x6.1 = 0) ∧ (x7 = 1)) ∧ (x8.1 = 0)))), (110, .bool (decide ((((x6.1 = 0) ∧ (x7 = 1)) ∧ (x8.1 = 0)) ∧ (x9.2 = 12)))), (115, .bool (decide (((((x6.1 = 0) ∧ (x7 = 1)) ∧ (x8.1 = 0)) ∧ (x9.2 = 12)) ∧ (x11.1 = ([120, 121, 122, 117, 118] : List UInt8))))), (119, .bool (decide ((((((x6.1 = 0) ∧ (x7 = 1)) ∧ (x8.1 = 0)) ∧ (x9.2 = 12)) ∧ (x11.1 = ([120, 121, 122, 117, 118] : List UInt8))) ∧ (x12.1 = 3)))), (123, .bool (decide (((((((x6.1 = 0) ∧ (x7 = 1)) ∧ (x8.1 = 0)) ∧ (x9.2 = 12)) ∧ (x11.1 = ([120, 121, 122, 117, 118] : List UInt8))) ∧ (x12.1 = 3)) ∧ (x13.1 = 0)))), (127, .bool (decide ((((((((x6.1 = 0) ∧ (x7 = 1)) ∧ (x8.1 = 0)) ∧ (x9.2 = 12)) ∧ (x11.1 = ([120, 121, 122, 117, 118] : List UInt8))) ∧ (x12.1 = 3)) ∧ (x13.1 = 0)) ∧ (x14.1 = 0)))), (131, .bool (decide (((((((((x6.1 = 0) ∧ (x7 = 1)) ∧ (x8.1 = 0)) ∧ (x9.2 = 12)) ∧ (x11.1 = ([120, 121, 122, 117, 118] : List UInt8))) ∧ (x12.1 = 3)) ∧ (x13.1 = 0)) ∧ (x14.1 = 0)) ∧ (x15.1 = 0))))] (fun _ => [(136, .bool (decide ((((((((((x6.1 = 0) ∧ (x7 = 1)) ∧ (x8.1 = 0)) ∧ (x9.2 = 12)) ∧ (x11.1 = ([120, 121, 122, 117, 118] : List UInt8))) ∧ (x12.1 = 3)) ∧ (x13.1 = 0)) ∧ (x14.1 = 0)) ∧ (x15.1 = 0)) ∧ ((x16.length : Int) = 1))))]) (fun sl wL => sl.w = wL ∧ Step K0 s68 sl) ?_ ?_
            ·
             refine k_again 132 rfl ?_
             refine k_split (fun c70 => ?_) (fun c70 => ?_)
             ·
              refine k_yes rfl rfl ?_
              refine k_move rfl rfl ?_
              refine k_yes rfl rfl ?_
              refine k_len Tryd.underlying46 rfl (SL.of_R h34_0).hasLen rfl ?_
              refine k_as (v := .int .i64 (x16.length : Int)) (by simp only [List.length_map]) ?_
              refine k_yes rfl rfl ?_
              refine k_eql rfl rfl rfl ?_
              refine k_pickT rfl rfl rfl rfl ?_
              exact k_met ⟨s68, ⟨(congrArg (fun b => some (Value.bool b)) (by first | exact decide_eq_decide.2 ⟨fun h => ⟨c70, h⟩, fun h => h.2⟩ | exact (decide_eq_false (fun h => c70 h.1)).symm | (simp [c70]; done) | (simp [c70, i64] <;> omega))), trivial⟩, ⟨rfl, rfl, rfl, rfl, rfl, rfl, rfl, rfl, rfl, rfl, rfl, rfl, rfl, rfl, rfl, rfl, rfl, rfl, rfl, rfl, rfl, rfl, rfl, rfl, rfl, trivial⟩, rfl, hE69⟩
             ·
              refine k_no rfl rfl rfl rfl ?_
              refine k_no rfl rfl rfl rfl ?_
              refine k_no rfl rfl rfl rfl ?_
              refine k_pickF rfl rfl rfl rfl ?_
              exact k_met ⟨s68, ⟨(congrArg (fun b => some (Value.bool b)) (by first | exact decide_eq_decide.2 ⟨fun h => ⟨c70, h⟩, fun h => h.2⟩ | exact (decide_eq_false (fun h => c70 h.1)).symm | (simp [c70]; done) | (simp [c70, i64] <;> omega))), trivial⟩, ⟨rfl, rfl, rfl, rfl, rfl, rfl, rfl, rfl, rfl, rfl, rfl, rfl, rfl, rfl, rfl, rfl, rfl, rfl, rfl, rfl, rfl, rfl, rfl, rfl, rfl, trivial⟩, rfl, hE69⟩
            ·
             rintro s71 wL ⟨rfl, hE69⟩
             have szs71 := hE69.size
             have hS := hS.trans0 hE69
             replace h34_0 := h34_0.up2 hE69
             replace h35_0 := h35_0.up2 hE69
             refine k_move rfl rfl ?_
             obtain ⟨x23, hx23, h⟩ := ob h
             have hE72 := Step.r0 K0 s71
             refine k_cutl (X := St) 5 [(0, .bool false), (3, .int .i64 x6.1), (4, .int .i64 x7), (5, .int .i64 x8.1), (7, .int .i64 x9.2), (8, v25_0), (10, .int .i64 x12.1), (11, .int .i64 x13.1), (12, .int .i64 x14.1), (13, .int .i64 x15.1), (14, v34_0), (15, v35_0), (17, .int .i64 x19.1), (18, .int .i64 x20.1), (20, .int .i64 x22.2), (97, .int .i64 x6.1), (98, .bool (decide (x6.1 = 0))), (102, .bool (decide ((x6.1 = 0) ∧ (x7 = 1)))), (106, .bool (decide (((x6.1 = 0) ∧ (x7 = 1)) ∧ (x8.1 = 0)))), (110, .bool (decide ((((x6.1 = 0) ∧ (x7 = 1)) ∧ (x8.1 = 0)) ∧ (x9.2 = 12)))), (115, .bool (decide (((((x6.1 = 0) ∧ (x7 = 1)) ∧ (x8.1 = 0)) ∧ (x9.2 = 12)) ∧ (x11.1 = ([120, 121, 122, 117, 118] : List UInt8))))), (119, .bool (decide ((((((x6.1 = 0) ∧ (x7 = 1)) ∧ (x8.1 = 0)) ∧ (x9.2 = 12)) ∧ (x11.1 = ([120, 121, 122, 117, 118] : List UInt8))) ∧ (x12.1 = 3)))), (123, .bool (decide (((((((x6.1 = 0) ∧ (x7 = 1)) ∧ (x8.1 = 0)) ∧ (x9.2 = 12)) ∧ (x11.1 = ([120, 121, 122, 117, 118] : List UInt8))) ∧ (x12.1 = 3)) ∧ (x13.1 = 0)))), (127, .bool (decide ((((((((x6.1 = 0) ∧ (x7 = 1)) ∧ (x8.1 = 0)) ∧ (x9.2 = 12)) ∧ (x11.1 = ([120, 121, 122, 117, 118] : List UInt8))) ∧ (x12.1 = 3)) ∧ (x13.1 = 0)) ∧ (x14.1 = 0)))), (131, .bool (decide (((((((((x6.1 = 0) ∧ (x7 = 1)) ∧ (x8.1 = 0)) ∧ (x9.2 = 12)) ∧ (x11.1 = ([120, 121, 122, 117, 118] : List UInt8))) ∧ (x12.1 = 3)) ∧ (x13.1 = 0)) ∧ (x14.1 = 0)) ∧ (x15.1 = 0)))), (136, .bool (decide ((((((((((x6.1 = 0) ∧ (x7 = 1)) ∧ (x8.1 = 0)) ∧ (x9.2 = 12)) ∧ (x11.1 = ([120, 121, 122, 117, 118] : List UInt8))) ∧ (x12.1 = 3)) ∧ (x13.1 = 0)) ∧ (x14.1 = 0)) ∧ (x15.1 = 0)) ∧ ((x16.length : Int) = 1))))] (fun _ => [(142, .bool x23)]) (fun sl wL => sl.w = wL ∧ Step K0 s71 sl) ?_ ?_
             ·
              refine k_again 137 rfl ?_
              refine k_split (fun c73 => ?_) (fun c73 => ?_)
              ·
               have hx23 := itT hx23 c73
               refine k_yes rfl rfl ?_
               refine k_move rfl rfl ?_
               refine k_yes rfl rfl ?_
               obtain ⟨x24, hx24, hx23⟩ := ob hx23
               refine k_ixaddr Tryd.underlying46 size9 rfl rfl (SL.of_R h34_0) (geti_out hx24).1 (geti_map hx24) rfl ?_
               intro qx24 hqx24
               refine k_yes rfl rfl ?_
               refine k_load_val one9 rfl hqx24 rfl ?_
               refine k_yes rfl rfl ?_
               refine k_eql_str rfl rfl rfl ?_
               refine k_pickT rfl rfl rfl rfl ?_
               exact k_met ⟨s71, ⟨(congrArg (fun b => some (Value.bool b)) (Option.some.inj hx23)), trivial⟩, ⟨rfl, rfl, rfl, rfl, rfl, rfl, rfl, rfl, rfl, rfl, rfl, rfl, rfl, rfl, rfl, rfl, rfl, rfl, rfl, rfl, rfl, rfl, rfl, rfl, rfl, rfl, trivial⟩, rfl, hE72⟩
              ·
               have hx23 := itF hx23 c73
               refine k_no rfl rfl rfl rfl ?_
               refine k_no rfl rfl rfl rfl ?_
               refine k_no rfl rfl rfl rfl ?_
               refine k_no rfl rfl rfl rfl ?_
               refine k_pickF rfl rfl rfl rfl ?_
               exact k_met ⟨s71, ⟨(congrArg (fun b => some (Value.bool b)) (Option.some.inj hx23)), trivial⟩, ⟨rfl, rfl, rfl, rfl, rfl, rfl, rfl, rfl, rfl, rfl, rfl, rfl, rfl, rfl, rfl, rfl, rfl, rfl, rfl, rfl, rfl, rfl, rfl, rfl, rfl, rfl, trivial⟩, rfl, hE72⟩
             ·
              rintro s74 wL ⟨rfl, hE72⟩
              have szs74 := hE72.size
              have hS := hS.trans0 hE72
              replace h35_0 := h35_0.up2 hE72
              refine k_move rfl rfl ?_
              have hE75 := Step.r0 K0 s74
              refine k_cutl (X := St) 4 [(0, .bool false), (3, .int .i64 x6.1), (4, .int .i64 x7), (5, .int .i64 x8.1), (7, .int .i64 x9.2), (8, v25_0), (10, .int .i64 x12.1), (11, .int .i64 x13.1), (12, .int .i64 x14.1), (13, .int .i64 x15.1), (14, v34_0), (15, v35_0), (17, .int .i64 x19.1), (18, .int .i64 x20.1), (20, .int .i64 x22.2), (97, .int .i64 x6.1), (98, .bool (decide (x6.1 = 0))), (102, .bool (decide ((x6.1 = 0) ∧ (x7 = 1)))), (106, .bool (decide (((x6.1 = 0) ∧ (x7 = 1)) ∧ (x8.1 = 0)))), (110, .bool (decide ((((x6.1 = 0) ∧ (x7 = 1)) ∧ (x8.1 = 0)) ∧ (x9.2 = 12)))), (115, .bool (decide (((((x6.1 = 0) ∧ (x7 = 1)) ∧ (x8.1 = 0)) ∧ (x9.2 = 12)) ∧ (x11.1 = ([120, 121, 122, 117, 118] : List UInt8))))), (119, .bool (decide ((((((x6.1 = 0) ∧ (x7 = 1)) ∧ (x8.1 = 0)) ∧ (x9.2 = 12)) ∧ (x11.1 = ([120, 121, 122, 117, 118] : List UInt8))) ∧ (x12.1 = 3)))), (123, .bool (decide (((((((x6.1 = 0) ∧ (x7 = 1)) ∧ (x8.1 = 0)) ∧ (x9.2 = 12)) ∧ (x11.1 = ([120, 121, 122, 117, 118] : List UInt8))) ∧ (x12.1 = 3)) ∧ (x13.1 = 0)))), (127, .bool (decide ((((((((x6.1 = 0) ∧ (x7 = 1)) ∧ (x8.1 = 0)) ∧ (x9.2 = 12)) ∧ (x11.1 = ([120, 121, 122, 117, 118] : List UInt8))) ∧ (x12.1 = 3)) ∧ (x13.1 = 0)) ∧ (x14.1 = 0)))), (131, .bool (decide (((((((((x6.1 = 0) ∧ (x7 = 1)) ∧ (x8.1 = 0)) ∧ (x9.2 = 12)) ∧ (x11.1 = ([120, 121, 122, 117, 118] : List UInt8))) ∧ (x12.1 = 3)) ∧ (x13.1 = 0)) ∧ (x14.1 = 0)) ∧ (x15.1 = 0)))), (136, .bool (decide ((((((((((x6.1 = 0) ∧ (x7 = 1)) ∧ (x8.1 = 0)) ∧ (x9.2 = 12)) ∧ (x11.1 = ([120, 121, 122, 117, 118] : List UInt8))) ∧ (x12.1 = 3)) ∧ (x13.1 = 0)) ∧ (x14.1 = 0)) ∧ (x15.1 = 0)) ∧ ((x16.length : Int) = 1)))), (142, .bool x23)] (fun _ => [(147, .bool (decide ((x23 = true) ∧ (x17.1 = ([115, 105, 120, 115, 105, 120] : List UInt8)))))]) (fun sl wL => sl.w = wL ∧ Step K0 s74 sl) ?_ ?_
              ·
               refine k_again 143 rfl ?_
               refine k_splitb (fun c76 => ?_) (fun c76 => ?_)
               ·
                refine k_yes rfl rfl ?_
                refine k_move rfl rfl ?_
                refine k_yes rfl rfl ?_
                refine k_bts (m := x17.1) Tryd.underlying29 Tryd.underlying5 Tryd.underlying9 rfl (SL.of_R h35_0) rfl ?_
                refine k_yes rfl rfl ?_
                refine k_eql_str rfl rfl rfl ?_
                refine k_pickT rfl rfl rfl rfl ?_
                exact k_met ⟨s74, ⟨(congrArg (fun b => some (Value.bool b)) (by first | exact decide_eq_decide.2 ⟨fun h => ⟨c76, h⟩, fun h => h.2⟩ | exact (decide_eq_false (fun h => c76 h.1)).symm | (simp [c76]; done) | (simp [c76, i64] <;> omega))), trivial⟩, ⟨rfl, rfl, rfl, rfl, rfl, rfl, rfl, rfl, rfl, rfl, rfl, rfl, rfl, rfl, rfl, rfl, rfl, rfl, rfl, rfl, rfl, rfl, rfl, rfl, rfl, rfl, rfl, trivial⟩, rfl, hE75⟩
               ·
                refine k_no rfl rfl rfl rfl ?_
                refine k_no rfl rfl rfl rfl ?_
                refine k_no rfl rfl rfl rfl ?_
                refine k_pickF rfl rfl rfl rfl ?_
                exact k_met ⟨s74, ⟨(congrArg (fun b => some (Value.bool b)) (by first | exact decide_eq_decide.2 ⟨fun h => ⟨c76, h⟩, fun h => h.2⟩ | exact (decide_eq_false (fun h => c76 h.1)).symm | (simp [c76]; done) | (simp [c76, i64] <;> omega))), trivial⟩, ⟨rfl, rfl, rfl, rfl, rfl, rfl, rfl, rfl, rfl, rfl, rfl, rfl, rfl, rfl, rfl, rfl, rfl, rfl, rfl, rfl, rfl, rfl, rfl, rfl, rfl, rfl, rfl, trivial⟩, rfl, hE75⟩
              ·
               rintro s77 wL ⟨rfl, hE75⟩
               have szs77 := hE75.size
               have hS := hS.trans0 hE75
               refine k_move rfl rfl ?_
               have hE78 := Step.r0 K0 s77
               refine k_cutl (X := St) 3 [(0, .bool false), (3, .int .i64 x6.1), (4, .int .i64 x7), (5, .int .i64 x8.1), (7, .int .i64 x9.2), (8, v25_0), (10, .int .i64 x12.1), (11, .int .i64 x13.1), (12, .int .i64 x14.1), (13, .int .i64 x15.1), (14, v34_0), (15, v35_0), (17, .int .i64 x19.1), (18, .int .i64 x20.1), (20, .int .i64 x22.2), (97, .int .i64 x6.1), (98, .bool (decide (x6.1 = 0))), (102, .bool (decide ((x6.1 = 0) ∧ (x7 = 1)))), (106, .bool (decide (((x6.1 = 0) ∧ (x7 = 1)) ∧ (x8.1 = 0)))), (110, .bool (decide ((((x6.1 = 0) ∧ (x7 = 1)) ∧ (x8.1 = 0)) ∧ (x9.2 = 12)))), (115, .bool (decide (((((x6.1 = 0) ∧ (x7 = 1)) ∧ (x8.1 = 0)) ∧ (x9.2 = 12)) ∧ (x11.1 = ([120, 121, 122, 117, 118] : List UInt8))))), (119, .bool (decide ((((((x6.1 = 0) ∧ (x7 = 1)) ∧ (x8.1 = 0)) ∧ (x9.2 = 12)) ∧ (x11.1 = ([120, 121, 122, 117, 118] : List UInt8))) ∧ (x12.1 = 3)))), (123, .bool (decide (((((((x6.1 = 0) ∧ (x7 = 1)) ∧ (x8.1 = 0)) ∧ (x9.2 = 12)) ∧ (x11.1 = ([120, 121, 122, 117, 118] : List UInt8))) ∧ (x12.1 = 3)) ∧ (x13.1 = 0)))), (127, .bool (decide ((((((((x6.1 = 0) ∧ (x7 = 1)) ∧ (x8.1 = 0)) ∧ (x9.2 = 12)) ∧ (x11.1 = ([120, 121, 122, 117, 118] : List UInt8))) ∧ (x12.1 = 3)) ∧ (x13.1 = 0)) ∧ (x14.1 = 0)))), (131, .bool (decide (((((((((x6.1 = 0) ∧ (x7 = 1)) ∧ (x8.1 = 0)) ∧ (x9.2 = 12)) ∧ (x11.1 = ([120, 121, 122, 117, 118] : List UInt8))) ∧ (x12.1 = 3)) ∧ (x13.1 = 0)) ∧ (x14.1 = 0)) ∧ (x15.1 = 0)))), (136, .bool (decide ((((((((((x6.1 = 0) ∧ (x7 = 1)) ∧ (x8.1 = 0)) ∧ (x9.2 = 12)) ∧ (x11.1 = ([120, 121, 122, 117, 118] : List UInt8))) ∧ (x12.1 = 3)) ∧ (x13.1 = 0)) ∧ (x14.1 = 0)) ∧ (x15.1 = 0)) ∧ ((x16.length : Int) = 1)))), (142, .bool x23), (147, .bool (decide ((x23 = true) ∧ (x17.1 = ([115, 105, 120, 115, 105, 120] : List UInt8)))))] (fun _ => [(151, .bool (decide (((x23 = true) ∧ (x17.1 = ([115, 105, 120, 115, 105, 120] : List UInt8))) ∧ (x19.1 = 0))))]) (fun sl wL => sl.w = wL ∧ Step K0 s77 sl) ?_ ?_
               ·
                refine k_again 148 rfl ?_
                refine k_split (fun c79 => ?_) (fun c79 => ?_)
                ·
                 refine k_yes rfl rfl ?_
                 refine k_move rfl rfl ?_
                 refine k_yes rfl rfl ?_
                 refine k_eql rfl rfl rfl ?_
                 refine k_pickT rfl rfl rfl rfl ?_
                 exact k_met ⟨s77, ⟨(congrArg (fun b => some (Value.bool b)) (by first | exact decide_eq_decide.2 ⟨fun h => ⟨c79, h⟩, fun h => h.2⟩ | exact (decide_eq_false (fun h => c79 h.1)).symm | (simp [c79]; done) | (simp [c79, i64] <;> omega))), trivial⟩, ⟨rfl, rfl, rfl, rfl, rfl, rfl, rfl, rfl, rfl, rfl, rfl, rfl, rfl, rfl, rfl, rfl, rfl, rfl, rfl, rfl, rfl, rfl, rfl, rfl, rfl, rfl, rfl, rfl, trivial⟩, rfl, hE78⟩
                ·
                 refine k_no rfl rfl rfl rfl ?_
                 refine k_no rfl rfl rfl rfl ?_
                 refine k_pickF rfl rfl rfl rfl ?_
                 exact k_met ⟨s77, ⟨(congrArg (fun b => some (Value.bool b)) (by first | exact decide_eq_decide.2 ⟨fun h => ⟨c79, h⟩, fun h => h.2⟩ | exact (decide_eq_false (fun h => c79 h.1)).symm | (simp [c79]; done) | (simp [c79, i64] <;> omega))), trivial⟩, ⟨rfl, rfl, rfl, rfl, rfl, rfl, rfl, rfl, rfl, rfl, rfl, rfl, rfl, rfl, rfl, rfl, rfl, rfl, rfl, rfl, rfl, rfl, rfl, rfl, rfl, rfl, rfl, rfl, trivial⟩, rfl, hE78⟩
               ·
                rintro s80 wL ⟨rfl, hE78⟩
                have szs80 := hE78.size
                have hS := hS.trans0 hE78
                refine k_move rfl rfl ?_
                have hE81 := Step.r0 K0 s80
                refine k_cutl (X := St) 3 [(0, .bool false), (3, .int .i64 x6.1), (4, .int .i64 x7), (5, .int .i64 x8.1), (7, .int .i64 x9.2), (8, v25_0), (10, .int .i64 x12.1), (11, .int .i64 x13.1), (12, .int .i64 x14.1), (13, .int .i64 x15.1), (14, v34_0), (15, v35_0), (17, .int .i64 x19.1), (18, .int .i64 x20.1), (20, .int .i64 x22.2), (97, .int .i64 x6.1), (98, .bool (decide (x6.1 = 0))), (102, .bool (decide ((x6.1 = 0) ∧ (x7 = 1)))), (106, .bool (decide (((x6.1 = 0) ∧ (x7 = 1)) ∧ (x8.1 = 0)))), (110, .bool (decide ((((x6.1 = 0) ∧ (x7 = 1)) ∧ (x8.1 = 0)) ∧ (x9.2 = 12)))), (115, .bool (decide (((((x6.1 = 0) ∧ (x7 = 1)) ∧ (x8.1 = 0)) ∧ (x9.2 = 12)) ∧ (x11.1 = ([120, 121, 122, 117, 118] : List UInt8))))), (119, .bool (decide ((((((x6.1 = 0) ∧ (x7 = 1)) ∧ (x8.1 = 0)) ∧ (x9.2 = 12)) ∧ (x11.1 = ([120, 121, 122, 117, 118] : List UInt8))) ∧ (x12.1 = 3)))), (123, .bool (decide (((((((x6.1 = 0) ∧ (x7 = 1)) ∧ (x8.1 = 0)) ∧ (x9.2 = 12)) ∧ (x11.1 = ([120, 121, 122, 117, 118] : List UInt8))) ∧ (x12.1 = 3)) ∧ (x13.1 = 0)))), (127, .bool (decide ((((((((x6.1 = 0) ∧ (x7 = 1)) ∧ (x8.1 = 0)) ∧ (x9.2 = 12)) ∧ (x11.1 = ([120, 121, 122, 117, 118] : List UInt8))) ∧ (x12.1 = 3)) ∧ (x13.1 = 0)) ∧ (x14.1 = 0)))), (131, .bool (decide (((((((((x6.1 = 0) ∧ (x7 = 1)) ∧ (x8.1 = 0)) ∧ (x9.2 = 12)) ∧ (x11.1 = ([120, 121, 122, 117, 118] : List UInt8))) ∧ (x12.1 = 3)) ∧ (x13.1 = 0)) ∧ (x14.1 = 0)) ∧ (x15.1 = 0)))), (136, .bool (decide ((((((((((x6.1 = 0) ∧ (x7 = 1)) ∧ (x8.1 = 0)) ∧ (x9.2 = 12)) ∧ (x11.1 = ([120, 121, 122, 117, 118] : List UInt8))) ∧ (x12.1 = 3)) ∧ (x13.1 = 0)) ∧ (x14.1 = 0)) ∧ (x15.1 = 0)) ∧ ((x16.length : Int) = 1)))), (142, .bool x23), (147, .bool (decide ((x23 = true) ∧ (x17.1 = ([115, 105, 120, 115, 105, 120] : List UInt8))))), (151, .bool (decide (((x23 = true) ∧ (x17.1 = ([115, 105, 120, 115, 105, 120] : List UInt8))) ∧ (x19.1 = 0))))] (fun _ => [(155, .bool (decide ((((x23 = true) ∧ (x17.1 = ([115, 105, 120, 115, 105, 120] : List UInt8))) ∧ (x19.1 = 0)) ∧ (x20.1 = 12))))]) (fun sl wL => sl.w = wL ∧ Step K0 s80 sl) ?_ ?_
                ·
                 refine k_again 152 rfl ?_
                 refine k_split (fun c82 => ?_) (fun c82 => ?_)
                 ·
                  refine k_yes rfl rfl ?_
                  refine k_move rfl rfl ?_
                  refine k_yes rfl rfl ?_
                  refine k_eql rfl rfl rfl ?_
                  refine k_pickT rfl rfl rfl rfl ?_
                  exact k_met ⟨s80, ⟨(congrArg (fun b => some (Value.bool b)) (by first | exact decide_eq_decide.2 ⟨fun h => ⟨c82, h⟩, fun h => h.2⟩ | exact (decide_eq_false (fun h => c82 h.1)).symm | (simp [c82]; done) | (simp [c82, i64] <;> omega))), trivial⟩, ⟨rfl, rfl, rfl, rfl, rfl, rfl, rfl, rfl, rfl, rfl, rfl, rfl, rfl, rfl, rfl, rfl, rfl, rfl, rfl, rfl, rfl, rfl, rfl, rfl, rfl, rfl, rfl, rfl, rfl, trivial⟩, rfl, hE81⟩
                 ·
                  refine k_no rfl rfl rfl rfl ?_
                  refine k_no rfl rfl rfl rfl ?_
                  refine k_pickF rfl rfl rfl rfl ?_
                  exact k_met ⟨s80, ⟨(congrArg (fun b => some (Value.bool b)) (by first | exact decide_eq_decide.2 ⟨fun h => ⟨c82, h⟩, fun h => h.2⟩ | exact (decide_eq_false (fun h => c82 h.1)).symm | (simp [c82]; done) | (simp [c82, i64] <;> omega))), trivial⟩, ⟨rfl, rfl, rfl, rfl, rfl, rfl, rfl, rfl, rfl, rfl, rfl, rfl, rfl, rfl, rfl, rfl, rfl, rfl, rfl, rfl, rfl, rfl, rfl, rfl, rfl, rfl, rfl, rfl, rfl, trivial⟩, rfl, hE81⟩
                ·
                 rintro s83 wL ⟨rfl, hE81⟩
                 have szs83 := hE81.size
                 have hS := hS.trans0 hE81
                 refine k_move rfl rfl ?_
                 have hE84 := Step.r0 K0 s83
                 refine k_cutl (X := St) 3 [(0, .bool false), (3, .int .i64 x6.1), (4, .int .i64 x7), (5, .int .i64 x8.1), (7, .int .i64 x9.2), (8, v25_0), (10, .int .i64 x12.1), (11, .int .i64 x13.1), (12, .int .i64 x14.1), (13, .int .i64 x15.1), (14, v34_0), (15, v35_0), (17, .int .i64 x19.1), (18, .int .i64 x20.1), (20, .int .i64 x22.2), (97, .int .i64 x6.1), (98, .bool (decide (x6.1 = 0))), (102, .bool (decide ((x6.1 = 0) ∧ (x7 = 1)))), (106, .bool (decide (((x6.1 = 0) ∧ (x7 = 1)) ∧ (x8.1 = 0)))), (110, .bool (decide ((((x6.1 = 0) ∧ (x7 = 1)) ∧ (x8.1 = 0)) ∧ (x9.2 = 12)))), (115, .bool (decide (((((x6.1 = 0) ∧ (x7 = 1)) ∧ (x8.1 = 0)) ∧ (x9.2 = 12)) ∧ (x11.1 = ([120, 121, 122, 117, 118] : List UInt8))))), (119, .bool (decide ((((((x6.1 = 0) ∧ (x7 = 1)) ∧ (x8.1 = 0)) ∧ (x9.2 = 12)) ∧ (x11.1 = ([120, 121, 122, 117, 118] : List UInt8))) ∧ (x12.1 = 3)))), (123, .bool (decide (((((((x6.1 = 0) ∧ (x7 = 1)) ∧ (x8.1 = 0)) ∧ (x9.2 = 12)) ∧ (x11.1 = ([120, 121, 122, 117, 118] : List UInt8))) ∧ (x12.1 = 3)) ∧ (x13.1 = 0)))), (127, .bool (decide ((((((((x6.1 = 0) ∧ (x7 = 1)) ∧ (x8.1 = 0)) ∧ (x9.2 = 12)) ∧ (x11.1 = ([120, 121, 122, 117, 118] : List UInt8))) ∧ (x12.1 = 3)) ∧ (x13.1 = 0)) ∧ (x14.1 = 0)))), (131, .bool (decide (((((((((x6.1 = 0) ∧ (x7 = 1)) ∧ (x8.1 = 0)) ∧ (x9.2 = 12)) ∧ (x11.1 = ([120, 121, 122, 117, 118] : List UInt8))) ∧ (x12.1 = 3)) ∧ (x13.1 = 0)) ∧ (x14.1 = 0)) ∧ (x15.1 = 0)))), (136, .bool (decide ((((((((((x6.1 = 0) ∧ (x7 = 1)) ∧ (x8.1 = 0)) ∧ (x9.2 = 12)) ∧ (x11.1 = ([120, 121, 122, 117, 118] : List UInt8))) ∧ (x12.1 = 3)) ∧ (x13.1 = 0)) ∧ (x14.1 = 0)) ∧ (x15.1 = 0)) ∧ ((x16.length : Int) = 1)))), (142, .bool x23), (147, .bool (decide ((x23 = true) ∧ (x17.1 = ([115, 105, 120, 115, 105, 120] : List UInt8))))), (151, .bool (decide (((x23 = true) ∧ (x17.1 = ([115, 105, 120, 115, 105, 120] : List UInt8))) ∧ (x19.1 = 0)))), (155, .bool (decide ((((x23 = true) ∧ (x17.1 = ([115, 105, 120, 115, 105, 120] : List UInt8))) ∧ (x19.1 = 0)) ∧ (x20.1 = 12))))] (fun _ => [(159, .bool (decide (((((x23 = true) ∧ (x17.1 = ([115, 105, 120, 115, 105, 120] : List UInt8))) ∧ (x19.1 = 0)) ∧ (x20.1 = 12)) ∧ (x22.2 = 4))))]) (fun sl wL => sl.w = wL ∧ Step K0 s83 sl) ?_ ?_
                 ·
                  refine k_again 156 rfl ?_
                  refine k_split (fun c85 => ?_) (fun c85 => ?_)
                  ·
                   refine k_yes rfl rfl ?_
                   refine k_move rfl rfl ?_
                   refine k_yes rfl rfl ?_
                   refine k_eql rfl rfl rfl ?_
                   refine k_pickT rfl rfl rfl rfl ?_
                   exact k_met ⟨s83, ⟨(congrArg (fun b => some (Value.bool b)) (by first | exact decide_eq_decide.2 ⟨fun h => ⟨c85, h⟩, fun h => h.2⟩ | exact (decide_eq_false (fun h => c85 h.1)).symm | (simp [c85]; done) | (simp [c85, i64] <;> omega))), trivial⟩, ⟨rfl, rfl, rfl, rfl, rfl, rfl, rfl, rfl, rfl, rfl, rfl, rfl, rfl, rfl, rfl, rfl, rfl, rfl, rfl, rfl, rfl, rfl, rfl, rfl, rfl, rfl, rfl, rfl, rfl, rfl, trivial⟩, rfl, hE84⟩
                  ·
                   refine k_no rfl rfl rfl rfl ?_
                   refine k_no rfl rfl rfl rfl ?_
                   refine k_pickF rfl rfl rfl rfl ?_
                   exact k_met ⟨s83, ⟨(congrArg (fun b => some (Value.bool b)) (by first | exact decide_eq_decide.2 ⟨fun h => ⟨c85, h⟩, fun h => h.2⟩ | exact (decide_eq_false (fun h => c85 h.1)).symm | (simp [c85]; done) | (simp [c85, i64] <;> omega))), trivial⟩, ⟨rfl, rfl, rfl, rfl, rfl, rfl, rfl, rfl, rfl, rfl, rfl, rfl, rfl, rfl, rfl, rfl, rfl, rfl, rfl, rfl, rfl, rfl, rfl, rfl, rfl, rfl, rfl, rfl, rfl, rfl, trivial⟩, rfl, hE84⟩
                 ·
                  rintro s86 wL ⟨rfl, hE84⟩
                  have szs86 := hE84.size
                  have hS := hS.trans0 hE84
                  refine k_assign rfl rfl ?_
                  refine k_nil ?_
                  refine k_keep [(0, _)] ⟨rfl, trivial⟩ ?_
                  refine k_ret ?_
                  obtain rfl := Option.some.inj h
                  refine ⟨_, rfl, Ret.mk hS ?_⟩
                  exact rfl

set_option maxHeartbeats 1000000 in
set_option maxRecDepth 100000 in
theorem slices_Clone_byte_byte_own_w {s : St} {l0 : Lab} {v0 : Value} {a0 : (List UInt8)} {r : (List UInt8)} (hp0 : SL s l0 v0 1 (a0.map bD)) (h : slices_Clone_byte_byte a0 = some r) : Calls Tryd.prog 55 #[v0] s.w (Ret s K0 (fun s1 v => ∃ (u0 : Value), ∃ (lu0 : Lab), v = u0 ∧ (s.n < lu0.o ∧ lu0.c = 0) ∧ Own s1 lu0 5 1 u0 (r.map bD))) := by
 unfold slices_Clone_byte_byte at h
 obtain ⟨lf0, lf0le, lf0ne, hp0⟩ := hp0.fix
 have hS := Step.r0 K0 s
 refine k_fn (rs := [2]) (args := [v0]) Tryd.func55 rfl rfl rfl rfl ?_
 refine k_seq ?_
 refine k_region ?_
 refine k_assign rfl rfl ?_
 refine k_nil ?_
 refine k_seq ?_
 refine k_seq ?_
 refine k_region ?_
 refine k_move rfl rfl ?_
 refine k_eql_snilv Tryd.underlying29 rfl rfl hp0 rfl ?_
 refine k_nil ?_
 refine k_keep [(0, _), (2, _), (4, _)] ⟨rfl, rfl, rfl, trivial⟩ ?_
 refine k_cond rfl (fun c1 => ?_) (fun c1 => ?_)
 ·
  have hz4 := SL.nilS_nil hp0 c1
  obtain rfl : a0 = [] := by simpa using hz4
  replace h : some ([]) = some r := by simpa [app] using h
  refine k_seq ?_
  refine k_region ?_
  refine k_assign rfl rfl ?_
  refine k_nil ?_
  refine k_keep [(0, _), (2, _)] ⟨rfl, rfl, trivial⟩ ?_
  refine k_ret ?_
  obtain rfl := Option.some.inj h
  refine ⟨_, rfl, Ret.mk hS ?_⟩
  exact ⟨_, ⟨s.n + 1, 0⟩, rfl, ⟨by show s.n < s.n + 1; omega, rfl⟩, Own.nil (by simp) (Nat.le_refl _)⟩
 ·
  refine k_skip ?_
  refine k_seq ?_
  refine k_region ?_
  refine k_bslice2 (ds := ([] : List UInt8).map bD) slc29 rfl RVs.nil (by rfl) (by rfl) rfl rfl ?_
  intro s2 v2 b2 st2 ge2 bl2 h2
  have szs2 := st2.size
  have hS := hS.trans0 st2
  replace hp0 := hp0.up2 st2
  have lt2 := Own.le1 h2
  refine k_move rfl rfl ?_
  obtain ⟨x1, hx1, h⟩ := ob h
  refine k_append (es := a0.map bD) elem29 rfl rfl h2 hp0 (by have := (app_out hx1).1; simp only [List.length_map] at *; omega) (by have := (app_out hx1).1; simp only [List.length_map] at *; omega) rfl ?_
  intro s3 v3 st3 h3
  rw [← List.map_append, ← (app_out hx1).2] at h3
  have szs3 := st3.size
  have hS := hS.c0 st3
  refine k_assign rfl rfl ?_
  refine k_nil ?_
  refine k_keep [(2, _)] ⟨rfl, trivial⟩ ?_
  refine k_ret ?_
  obtain rfl := Option.some.inj h
  refine ⟨_, rfl, Ret.mk hS ?_⟩
  exact ⟨_, ⟨b2 + 1, 0⟩, rfl, ⟨by (try dsimp only); omega, rfl⟩, h3⟩

set_option maxHeartbeats 1000000 in
set_option maxRecDepth 100000 in
theorem disk_Disk_Read_own_w {s : St} {k0 : Nat} {p0 : Value} {a0 : DiskDisk} {a1 : (List UInt8)} {r : ((List UInt8) × Int)} (ho0 : ODiskDisk s k0 p0 a0) (h : disk_Disk_Read a0 a1 = some r) : Calls Tryd.prog 27 #[p0, S a1] s.w (Ret s K0 (fun s1 v => ∃ (u0 : Value), ∃ (lu0 : Lab), v = .tuple #[u0, .int .i64 r.2] ∧ (s.n < lu0.o ∧ lu0.c = 0) ∧ Own s1 lu0 5 1 u0 (r.1.map bD))) := by
 unfold disk_Disk_Read at h
 have le0 := ho0.le
 have ne0 := ho0.ne
 have hS := Step.r0 K0 s
 refine k_fn (rs := [4, 5]) (args := [p0, S a1]) Tryd.func27 rfl rfl rfl rfl ?_
 refine k_seq ?_
 refine k_region ?_
 refine k_assign rfl rfl ?_
 refine k_assign rfl rfl ?_
 refine k_nil ?_
 refine k_seq ?_
 refine k_seq ?_
 refine k_region ?_
 refine k_move rfl rfl ?_
 refine k_move rfl rfl ?_
 obtain ⟨x1, hx1, h⟩ := ob h
 refine k_call cal54 rfl (disk_Disk_there_nl_w  ho0 hx1) rfl ?_
 rintro s1 vr1 st1 rfl
 have szs1 := st1.size
 have hS := hS.trans0 st1
 replace ho0 := ho0.up2 st1
 refine k_assign rfl rfl ?_
 refine k_nil ?_
 refine k_keep [(0, _), (1, _), (4, _), (5, _), (6, _)] ⟨rfl, rfl, rfl, rfl, rfl, trivial⟩ ?_
 refine k_seq ?_
 refine k_region ?_
 refine k_move rfl rfl ?_
 refine k_neq rfl rfl rfl ?_
 refine k_nil ?_
 refine k_keep [(0, _), (1, _), (4, _), (5, _), (6, _), (11, _)] ⟨rfl, rfl, rfl, rfl, rfl, rfl, trivial⟩ ?_
 refine k_cond_dec rfl (fun c2 => ?_) (fun c2 => ?_)
 ·
  have h := itT h c2
  refine k_seq ?_
  refine k_region ?_
  refine k_move rfl rfl ?_
  refine k_assign rfl rfl ?_
  refine k_assign rfl rfl ?_
  refine k_nil ?_
  refine k_keep [(0, _), (1, _), (4, _), (5, _)] ⟨rfl, rfl, rfl, rfl, trivial⟩ ?_
  refine k_ret ?_
  obtain rfl := Option.some.inj h
  refine ⟨_, rfl, Ret.mk hS ?_⟩
  exact ⟨_, ⟨s1.n + 1, 0⟩, rfl, ⟨by show s.n < s1.n + 1; omega, rfl⟩, Own.nil (by simp) (Nat.le_refl _)⟩
 ·
  have h := itF h c2
  refine k_skip ?_
  refine k_seq ?_
  refine k_region ?_
  refine k_move rfl rfl ?_
  obtain ⟨x2, hx2, h⟩ := ob h
  refine k_call cal37 rfl (disk_Disk_seen_w  ho0 hx2) rfl ?_
  rintro s3 v3_0 st3 ⟨_, rfl, h3_0⟩
  have szs3 := st3.size
  have hS := hS.trans0 st3
  refine k_move rfl rfl ?_
  obtain ⟨x3, hx3, h⟩ := ob h
  refine k_call cal56 rfl (disk_picture_bytes_w  (SL.of_R h3_0) hx3) rfl ?_
  rintro s4 v4_0 st4 ⟨_, rfl, h4_0⟩
  have szs4 := st4.size
  have hS := hS.trans0 st4
  obtain ⟨x4, hx4, h⟩ := ob h
  refine k_call cal55 rfl (slices_Clone_byte_byte_own_w  (SL.of_R h4_0) hx4) rfl ?_
  rintro s5 v5_0 st5 ⟨_, l5_0, rfl, hl5_0, h5_0⟩
  have szs5 := st5.size
  have hS := hS.trans0 st5
  obtain ⟨l5_0, hl5_0, h5_0⟩ := Own.anew 2050 h5_0 hl5_0 szs5
  have lt5_0 := Own.le1 h5_0
  refine k_assign rfl rfl ?_
  refine k_assign rfl rfl ?_
  refine k_nil ?_
  refine k_keep [(4, _), (5, _)] ⟨rfl, rfl, trivial⟩ ?_
  refine k_ret ?_
  obtain ⟨s6, e6, st6, h5_0⟩ := h5_0.zero
  rw [← e6]
  have szs6 := st6.size
  have hS := hS.c0 st6
  obtain rfl := Option.some.inj h
  refine ⟨_, rfl, Ret.mk hS ?_⟩
  exact ⟨_, ⟨l5_0.o, 0⟩, rfl, ⟨by (try dsimp only); omega, rfl⟩, h5_0⟩
end Go.Proofs
