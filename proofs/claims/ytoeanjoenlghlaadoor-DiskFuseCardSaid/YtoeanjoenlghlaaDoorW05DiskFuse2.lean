import Derived.Test.YtoeanjoenlghlaaDoorW05DiskFuse1
set_option linter.unusedSimpArgs false
set_option linter.unusedVariables false
namespace Go.Proofs
open Go.Fw
set_option maxHeartbeats 1000000 in
set_option maxRecDepth 100000 in
theorem disk_Disk_Start_w {s : St} {k0 : Nat} {p0 : Value} {a0 : DiskDisk} {r : (Int × DiskDisk)} (ho0 : ODiskDisk s k0 p0 a0) (h : disk_Disk_Start a0 = some r) : Calls Tryd.prog 19 #[p0] s.w (Ret s (KO k0) (fun s1 v => v = .int .i64 r.1 ∧ ODiskDisk s1 k0 p0 r.2)) := by
 unfold disk_Disk_Start at h
 have le0 := ho0.le
 have ne0 := ho0.ne
 obtain ⟨bo0, rfl⟩ := ho0.ptr
 obtain ⟨wo0_0, wo0_1, hb_o0, hwo0_0, hwo0_1⟩ := ho0.at_
 have hS := Step.r0 (KO k0) s
 refine k_fn (rs := [2]) (args := [.pointer (some ⟨bo0, 0, none⟩)]) Tryd.func19 rfl rfl rfl rfl ?_
 refine k_seq ?_
 refine k_region ?_
 refine k_assign rfl rfl ?_
 refine k_nil ?_
 refine k_seq ?_
 refine k_block ?_
 refine k_seq ?_
 refine k_region ?_
 refine k_move rfl rfl ?_
 obtain ⟨x1, hx1, h⟩ := ob h
 refine k_call cal39 rfl (disk_Disk_none_w  (ODiskDisk.mk_ a0 (by omega) hwo0_0 hwo0_1 hb_o0) hx1) rfl ?_
 rintro s1 vr1 st1 rfl
 have szs1 := st1.size
 have hS := hS.trans0 st1
 replace hwo0_0 := hwo0_0.up2 st1
 replace hwo0_1 := hwo0_1.up2 st1
 replace hb_o0 := hb_o0.up2 st1
 refine k_assign rfl rfl ?_
 refine k_nil ?_
 refine k_keep [(0, _), (2, _), (3, _)] ⟨rfl, rfl, rfl, trivial⟩ ?_
 refine k_cond rfl (fun c2 => ?_) (fun c2 => ?_)
 ·
  have h := ibT h c2
  refine k_seq ?_
  refine k_region ?_
  refine k_assign rfl rfl ?_
  refine k_nil ?_
  refine k_keep [(0, _), (2, _)] ⟨rfl, rfl, trivial⟩ ?_
  refine k_ret ?_
  obtain rfl := Option.some.inj h
  refine ⟨_, rfl, Ret.mk hS ?_⟩
  exact ⟨rfl, (ODiskDisk.mk_ a0 (by omega) hwo0_0 hwo0_1 hb_o0)⟩
 ·
  have h := ibF h c2
  refine k_seq ?_
  refine k_region ?_
  refine k_move rfl rfl ?_
  refine k_nilCheck rfl rfl ?_
  refine k_field_addr fld61_2 rfl rfl ?_
  refine k_load_blk one4 rfl hb_o0 rfl rfl ?_
  refine k_not rfl rfl ?_
  refine k_assign rfl rfl ?_
  refine k_nil ?_
  refine k_keep [(0, _), (2, _), (6, _)] ⟨rfl, rfl, rfl, trivial⟩ ?_
  refine k_cond rfl (fun c3 => ?_) (fun c3 => ?_)
  ·
   have h := ibT h c3
   refine k_seq ?_
   refine k_region ?_
   refine k_assign rfl rfl ?_
   refine k_nil ?_
   refine k_keep [(0, _), (2, _)] ⟨rfl, rfl, trivial⟩ ?_
   refine k_ret ?_
   obtain rfl := Option.some.inj h
   refine ⟨_, rfl, Ret.mk hS ?_⟩
   exact ⟨rfl, (ODiskDisk.mk_ a0 (by omega) hwo0_0 hwo0_1 hb_o0)⟩
  ·
   have h := ibF h c3
   refine k_skip ?_
   refine k_blk ?_
   refine k_seq ?_
   refine k_region ?_
   refine k_move rfl rfl ?_
   refine k_nilCheck rfl rfl ?_
   refine k_field_addr fld61_2 rfl rfl ?_
   refine k_store_c (cs' := [.int .i64 a0.capacity, .bool a0.made, .bool false, wo0_0, wo0_1, .int .i64 a0.fuse.n, .int .i64 a0.fuse.keep, .int .i64 a0.fuse.torn]) size4 rfl rfl hb_o0 (by first | (simp; done) | omega | (dsimp only; omega)) (CellsOf.lit rfl rfl) rfl (by first | rfl | (simp; done) | (simp; omega)) rfl ?_
   intro s4 st4 hb_o0
   have szs4 := st4.size
   have hS := hS.c0 st4
   replace hwo0_0 := hwo0_0.up2 st4
   replace hwo0_1 := hwo0_1.up2 st4
   refine k_nil ?_
   refine k_keep [(2, _)] ⟨rfl, trivial⟩ ?_
   refine k_seq ?_
   refine k_region ?_
   refine k_assign rfl rfl ?_
   refine k_nil ?_
   refine k_ret ?_
   obtain rfl := Option.some.inj h
   refine ⟨_, rfl, Ret.mk hS ?_⟩
   exact ⟨rfl, (ODiskDisk.mk_ (⟨a0.capacity, a0.made, false, a0.pictures, a0.calls, a0.fuse⟩ : DiskDisk) (by omega) hwo0_0 hwo0_1 hb_o0)⟩

set_option maxHeartbeats 1000000 in
set_option maxRecDepth 100000 in
theorem disk_Disk_Read_w {s : St} {k0 : Nat} {p0 : Value} {a0 : DiskDisk} {a1 : (List UInt8)} {r : ((List UInt8) × Int)} (ho0 : ODiskDisk s k0 p0 a0) (h : disk_Disk_Read a0 a1 = some r) : Calls Tryd.prog 27 #[p0, S a1] s.w (Ret s K0 (fun s1 v => ∃ (u0 : Value), v = .tuple #[u0, .int .i64 r.2] ∧ R s1 u0 (.sl 1 (r.1.map bD)))) := by
 unfold disk_Disk_Read at h
 have le0 := ho0.le
 have ne0 := ho0.ne
 have hS := Step.r0 K0 s
 refine k_fn (rs := [4, 5]) (args := [p0, S a1]) Tryd.func27 rfl rfl rfl rfl ?_
 refine k_seq ?_
 refine k_region ?_
 refine k_assign rfl rfl ?_
 refine k_assign rfl rfl ?_
 refine k_nil ?_
 refine k_seq ?_
 refine k_seq ?_
 refine k_region ?_
 refine k_move rfl rfl ?_
 refine k_move rfl rfl ?_
 obtain ⟨x1, hx1, h⟩ := ob h
 refine k_call cal54 rfl (disk_Disk_there_nl_w  ho0 hx1) rfl ?_
 rintro s1 vr1 st1 rfl
 have szs1 := st1.size
 have hS := hS.trans0 st1
 replace ho0 := ho0.up2 st1
 refine k_assign rfl rfl ?_
 refine k_nil ?_
 refine k_keep [(0, _), (1, _), (4, _), (5, _), (6, _)] ⟨rfl, rfl, rfl, rfl, rfl, trivial⟩ ?_
 refine k_seq ?_
 refine k_region ?_
 refine k_move rfl rfl ?_
 refine k_neq rfl rfl rfl ?_
 refine k_nil ?_
 refine k_keep [(0, _), (1, _), (4, _), (5, _), (6, _), (11, _)] ⟨rfl, rfl, rfl, rfl, rfl, rfl, trivial⟩ ?_
 refine k_cond_dec rfl (fun c2 => ?_) (fun c2 => ?_)
 ·
  have h := itT h c2
  refine k_seq ?_
  refine k_region ?_
  refine k_move rfl rfl ?_
  refine k_assign rfl rfl ?_
  refine k_assign rfl rfl ?_
  refine k_nil ?_
  refine k_keep [(0, _), (1, _), (4, _), (5, _)] ⟨rfl, rfl, rfl, rfl, trivial⟩ ?_
  refine k_ret ?_
  obtain rfl := Option.some.inj h
  refine ⟨_, rfl, Ret.mk hS ?_⟩
  exact ⟨_, rfl, (R.of_SL (.inl ⟨rfl, none, 0, rfl, fun _ => rfl⟩))⟩
 ·
  have h := itF h c2
  refine k_skip ?_
  refine k_seq ?_
  refine k_region ?_
  refine k_move rfl rfl ?_
  obtain ⟨x2, hx2, h⟩ := ob h
  refine k_call cal37 rfl (disk_Disk_seen_w  ho0 hx2) rfl ?_
  rintro s3 v3_0 st3 ⟨_, rfl, h3_0⟩
  have szs3 := st3.size
  have hS := hS.trans0 st3
  refine k_move rfl rfl ?_
  obtain ⟨x3, hx3, h⟩ := ob h
  refine k_call cal56 rfl (disk_picture_bytes_w  (SL.of_R h3_0) hx3) rfl ?_
  rintro s4 v4_0 st4 ⟨_, rfl, h4_0⟩
  have szs4 := st4.size
  have hS := hS.trans0 st4
  obtain ⟨x4, hx4, h⟩ := ob h
  refine k_call cal55 rfl (slices_Clone_byte_byte_w  (SL.of_R h4_0) hx4) rfl ?_
  rintro s5 v5_0 st5 ⟨_, rfl, h5_0⟩
  have szs5 := st5.size
  have hS := hS.trans0 st5
  refine k_assign rfl rfl ?_
  refine k_assign rfl rfl ?_
  refine k_nil ?_
  refine k_keep [(4, _), (5, _)] ⟨rfl, rfl, trivial⟩ ?_
  refine k_ret ?_
  obtain rfl := Option.some.inj h
  refine ⟨_, rfl, Ret.mk hS ?_⟩
  exact ⟨_, rfl, h5_0⟩

set_option maxHeartbeats 1000000 in
set_option maxRecDepth 100000 in
theorem disk_Disk_Waits_w {s : St} {k0 : Nat} {p0 : Value} {a0 : DiskDisk} {r : Int} (ho0 : ODiskDisk s k0 p0 a0) (h : disk_Disk_Waits a0 = some r) : Calls Tryd.prog 14 #[p0] s.w (Ret s K0 (fun s1 v => v = .int .i64 r)) := by
 unfold disk_Disk_Waits at h
 have le0 := ho0.le
 have ne0 := ho0.ne
 obtain ⟨bo0, rfl⟩ := ho0.ptr
 obtain ⟨wo0_0, wo0_1, hb_o0, hwo0_0, hwo0_1⟩ := ho0.at_
 have hS := Step.r0 K0 s
 refine k_fn (rs := [2]) (args := [.pointer (some ⟨bo0, 0, none⟩)]) Tryd.func14 rfl rfl rfl rfl ?_
 refine k_seq ?_
 refine k_region ?_
 refine k_assign rfl rfl ?_
 refine k_nil ?_
 refine k_seq ?_
 refine k_seq ?_
 refine k_region ?_
 refine k_move rfl rfl ?_
 obtain ⟨x1, hx1, h⟩ := ob h
 refine k_call cal18 rfl (disk_Disk_Down_w  (ODiskDisk.mk_ a0 (by omega) hwo0_0 hwo0_1 hb_o0) hx1) rfl ?_
 rintro s1 vr1 st1 rfl
 have szs1 := st1.size
 have hS := hS.trans0 st1
 replace hwo0_1 := hwo0_1.up2 st1
 replace hb_o0 := hb_o0.up2 st1
 refine k_nil ?_
 refine k_keep [(0, _), (2, _), (4, _)] ⟨rfl, rfl, rfl, trivial⟩ ?_
 refine k_cond rfl (fun c2 => ?_) (fun c2 => ?_)
 ·
  have h := ibT h c2
  refine k_seq ?_
  refine k_region ?_
  refine k_assign rfl rfl ?_
  refine k_nil ?_
  refine k_keep [(0, _), (2, _)] ⟨rfl, rfl, trivial⟩ ?_
  refine k_ret ?_
  obtain rfl := Option.some.inj h
  refine ⟨_, rfl, Ret.mk hS ?_⟩
  exact rfl
 ·
  have h := ibF h c2
  refine k_skip ?_
  refine k_seq ?_
  refine k_region ?_
  refine k_move rfl rfl ?_
  refine k_nilCheck rfl rfl ?_
  refine k_field_addr fld61_4 rfl rfl ?_
  refine k_load_blk one57 rfl hb_o0 rfl rfl ?_
  refine k_len Tryd.underlying57 rfl (hwo0_1.sl).hasLen rfl ?_
  refine k_as (v := .int .i64 (a0.calls.length : Int)) (by simp only [List.length_map]) ?_
  refine k_assign rfl rfl ?_
  refine k_nil ?_
  refine k_keep [(2, _)] ⟨rfl, trivial⟩ ?_
  refine k_ret ?_
  obtain rfl := Option.some.inj h
  refine ⟨_, rfl, Ret.mk hS ?_⟩
  exact rfl

set_option maxHeartbeats 1000000 in
set_option maxRecDepth 100000 in
theorem slices_Clone_disk_picture_disk_picture_own_w {s : St} {l0 : Lab} {v0 : Value} {a0 : (List (List DiskFile))} {r : (List (List DiskFile))} (hp0 : SL s l0 v0 1 (a0.map (dL 2 dDiskFile))) (h : slices_Clone_disk_picture_disk_picture a0 = some r) : Calls Tryd.prog 51 #[v0] s.w (Ret s K0 (fun s1 v => ∃ (u0 : Value), ∃ (lu0 : Lab), v = u0 ∧ (s.n < lu0.o ∧ lu0.c = 0) ∧ Own s1 lu0 73 1 u0 (r.map (dL 2 dDiskFile)))) := by
 unfold slices_Clone_disk_picture_disk_picture at h
 obtain ⟨lf0, lf0le, lf0ne, hp0⟩ := hp0.fix
 have hS := Step.r0 K0 s
 refine k_fn (rs := [2]) (args := [v0]) Tryd.func51 rfl rfl rfl rfl ?_
 refine k_seq ?_
 refine k_region ?_
 refine k_assign rfl rfl ?_
 refine k_nil ?_
 refine k_seq ?_
 refine k_seq ?_
 refine k_region ?_
 refine k_move rfl rfl ?_
 refine k_eql_snilv Tryd.underlying56 rfl rfl hp0 rfl ?_
 refine k_nil ?_
 refine k_keep [(0, _), (2, _), (4, _)] ⟨rfl, rfl, rfl, trivial⟩ ?_
 refine k_cond rfl (fun c1 => ?_) (fun c1 => ?_)
 ·
  have hz4 := SL.nilS_nil hp0 c1
  obtain rfl : a0 = [] := by simpa using hz4
  replace h : some ([]) = some r := by simpa [app] using h
  refine k_seq ?_
  refine k_region ?_
  refine k_assign rfl rfl ?_
  refine k_nil ?_
  refine k_keep [(0, _), (2, _)] ⟨rfl, rfl, trivial⟩ ?_
  refine k_ret ?_
  obtain rfl := Option.some.inj h
  refine ⟨_, rfl, Ret.mk hS ?_⟩
  exact ⟨_, ⟨s.n + 1, 0⟩, rfl, ⟨by show s.n < s.n + 1; omega, rfl⟩, Own.nil (by simp) (Nat.le_refl _)⟩
 ·
  refine k_skip ?_
  refine k_seq ?_
  refine k_region ?_
  refine k_bslice2 (ds := ([] : List (List DiskFile)).map (dL 2 dDiskFile)) slc56 rfl RVs.nil (by rfl) (by rfl) rfl rfl ?_
  intro s2 v2 b2 st2 ge2 bl2 h2
  have szs2 := st2.size
  have hS := hS.trans0 st2
  replace hp0 := hp0.up2 st2
  have lt2 := Own.le1 h2
  refine k_move rfl rfl ?_
  obtain ⟨x1, hx1, h⟩ := ob h
  refine k_append (es := a0.map (dL 2 dDiskFile)) elem56 rfl rfl h2 hp0 (by have := (app_out hx1).1; simp only [List.length_map] at *; omega) (by have := (app_out hx1).1; simp only [List.length_map] at *; omega) rfl ?_
  intro s3 v3 st3 h3
  rw [← List.map_append, ← (app_out hx1).2] at h3
  have szs3 := st3.size
  have hS := hS.c0 st3
  refine k_assign rfl rfl ?_
  refine k_nil ?_
  refine k_keep [(2, _)] ⟨rfl, trivial⟩ ?_
  refine k_ret ?_
  obtain rfl := Option.some.inj h
  refine ⟨_, rfl, Ret.mk hS ?_⟩
  exact ⟨_, ⟨b2 + 1, 0⟩, rfl, ⟨by (try dsimp only); omega, rfl⟩, h3⟩

set_option maxHeartbeats 1000000 in
set_option maxRecDepth 100000 in
theorem slices_Clone_disk_call_disk_call_own_w {s : St} {l0 : Lab} {v0 : Value} {a0 : (List DiskCall)} {r : (List DiskCall)} (hp0 : SL s l0 v0 1 (a0.map dDiskCall)) (h : slices_Clone_disk_call_disk_call a0 = some r) : Calls Tryd.prog 52 #[v0] s.w (Ret s K0 (fun s1 v => ∃ (u0 : Value), ∃ (lu0 : Lab), v = u0 ∧ (s.n < lu0.o ∧ lu0.c = 0) ∧ Own s1 lu0 81 1 u0 (r.map dDiskCall))) := by
 unfold slices_Clone_disk_call_disk_call at h
 obtain ⟨lf0, lf0le, lf0ne, hp0⟩ := hp0.fix
 have hS := Step.r0 K0 s
 refine k_fn (rs := [2]) (args := [v0]) Tryd.func52 rfl rfl rfl rfl ?_
 refine k_seq ?_
 refine k_region ?_
 refine k_assign rfl rfl ?_
 refine k_nil ?_
 refine k_seq ?_
 refine k_seq ?_
 refine k_region ?_
 refine k_move rfl rfl ?_
 refine k_eql_snilv Tryd.underlying57 rfl rfl hp0 rfl ?_
 refine k_nil ?_
 refine k_keep [(0, _), (2, _), (4, _)] ⟨rfl, rfl, rfl, trivial⟩ ?_
 refine k_cond rfl (fun c1 => ?_) (fun c1 => ?_)
 ·
  have hz4 := SL.nilS_nil hp0 c1
  obtain rfl : a0 = [] := by simpa using hz4
  replace h : some ([]) = some r := by simpa [app] using h
  refine k_seq ?_
  refine k_region ?_
  refine k_assign rfl rfl ?_
  refine k_nil ?_
  refine k_keep [(0, _), (2, _)] ⟨rfl, rfl, trivial⟩ ?_
  refine k_ret ?_
  obtain rfl := Option.some.inj h
  refine ⟨_, rfl, Ret.mk hS ?_⟩
  exact ⟨_, ⟨s.n + 1, 0⟩, rfl, ⟨by show s.n < s.n + 1; omega, rfl⟩, Own.nil (by simp) (Nat.le_refl _)⟩
 ·
  refine k_skip ?_
  refine k_seq ?_
  refine k_region ?_
  refine k_bslice2 (ds := ([] : List DiskCall).map dDiskCall) slc57 rfl RVs.nil (by rfl) (by simp [dDiskCall_wd]) rfl rfl ?_
  intro s2 v2 b2 st2 ge2 bl2 h2
  have szs2 := st2.size
  have hS := hS.trans0 st2
  replace hp0 := hp0.up2 st2
  have lt2 := Own.le1 h2
  refine k_move rfl rfl ?_
  obtain ⟨x1, hx1, h⟩ := ob h
  refine k_append (es := a0.map dDiskCall) elem57 rfl rfl h2 hp0 (by have := (app_out hx1).1; simp only [List.length_map] at *; omega) (by have := (app_out hx1).1; simp only [List.length_map] at *; omega) rfl ?_
  intro s3 v3 st3 h3
  rw [← List.map_append, ← (app_out hx1).2] at h3
  have szs3 := st3.size
  have hS := hS.c0 st3
  refine k_assign rfl rfl ?_
  refine k_nil ?_
  refine k_keep [(2, _)] ⟨rfl, trivial⟩ ?_
  refine k_ret ?_
  obtain rfl := Option.some.inj h
  refine ⟨_, rfl, Ret.mk hS ?_⟩
  exact ⟨_, ⟨b2 + 1, 0⟩, rfl, ⟨by (try dsimp only); omega, rfl⟩, h3⟩

set_option maxHeartbeats 1000000 in
set_option maxRecDepth 100000 in
theorem disk_Disk_Copy_w {s : St} {k0 : Nat} {p0 : Value} {a0 : DiskDisk} {r : (Option DiskDisk)} (ho0 : ODiskDisk s k0 p0 a0) (h : disk_Disk_Copy a0 = some r) : Calls Tryd.prog 24 #[p0] s.w (Ret s K0 (fun s1 v => ∃ (ku0 : Nat), ∃ (u0 : Value), v = u0 ∧ s.n < ku0 ∧ OptODiskDisk s1 ku0 u0 r)) := by
 unfold disk_Disk_Copy at h
 have le0 := ho0.le
 have ne0 := ho0.ne
 obtain ⟨bo0, rfl⟩ := ho0.ptr
 obtain ⟨wo0_0, wo0_1, hb_o0, hwo0_0, hwo0_1⟩ := ho0.at_
 have hS := Step.r0 K0 s
 refine k_fn (rs := [2]) (args := [.pointer (some ⟨bo0, 0, none⟩)]) Tryd.func24 rfl rfl rfl rfl ?_
 refine k_seq ?_
 refine k_region ?_
 refine k_assign rfl rfl ?_
 refine k_nil ?_
 refine k_seq ?_
 refine k_seq ?_
 refine k_region ?_
 refine k_move rfl rfl ?_
 obtain ⟨x1, hx1, h⟩ := ob h
 refine k_call cal39 rfl (disk_Disk_none_w  (ODiskDisk.mk_ a0 (by omega) hwo0_0 hwo0_1 hb_o0) hx1) rfl ?_
 rintro s1 vr1 st1 rfl
 have szs1 := st1.size
 have hS := hS.trans0 st1
 replace hwo0_0 := hwo0_0.up2 st1
 replace hwo0_1 := hwo0_1.up2 st1
 replace hb_o0 := hb_o0.up2 st1
 refine k_nil ?_
 refine k_keep [(0, _), (2, _), (5, _)] ⟨rfl, rfl, rfl, trivial⟩ ?_
 refine k_cond rfl (fun c2 => ?_) (fun c2 => ?_)
 ·
  have h := ibT h c2
  refine k_seq ?_
  refine k_region ?_
  refine k_assign rfl rfl ?_
  refine k_nil ?_
  refine k_keep [(0, _), (2, _)] ⟨rfl, rfl, trivial⟩ ?_
  refine k_ret ?_
  obtain rfl := Option.some.inj h
  refine ⟨_, rfl, Ret.mk hS ?_⟩
  exact ⟨s1.n + 1, _, rfl, by omega, rfl⟩
 ·
  have h := ibF h c2
  refine k_skip ?_
  refine k_seq ?_
  refine k_region ?_
  refine k_move rfl rfl ?_
  refine k_nilCheck rfl rfl ?_
  refine k_load_blka (cs := [.int .i64 a0.capacity, .bool a0.made, .bool a0.down, wo0_0, wo0_1, .int .i64 a0.fuse.n, .int .i64 a0.fuse.keep, .int .i64 a0.fuse.torn]) agg61 rfl hb_o0 rfl ?_
  refine k_alloc zero61 rfl ?_
  intro s3 b3 st3 h3 ge3
  have szs3 := st3.size
  have hS := hS.trans0 st3
  replace hwo0_0 := hwo0_0.up2 st3
  replace hwo0_1 := hwo0_1.up2 st3
  replace hb_o0 := hb_o0.up2 st3
  have lt3 := h3.lt
  refine k_store_c (cs' := [.int .i64 a0.capacity, .bool a0.made, .bool a0.down, wo0_0, wo0_1, .int .i64 a0.fuse.n, .int .i64 a0.fuse.keep, .int .i64 a0.fuse.torn]) size61 rfl rfl h3 (by first | (simp; done) | omega | (dsimp only; omega)) (CellsOf.lit (vs := [.int .i64 a0.capacity, .bool a0.made, .bool a0.down, wo0_0, wo0_1, .int .i64 a0.fuse.n, .int .i64 a0.fuse.keep, .int .i64 a0.fuse.torn]) rfl (ones.cons rfl (ones.cons rfl (ones.cons rfl (ones.cons ((hwo0_0.sl)).one1 (ones.cons ((hwo0_1.sl)).one1 (ones.cons rfl (ones.cons rfl (ones.cons rfl ones.nil))))))))) rfl (by first | rfl | (simp; done) | (simp; omega)) rfl ?_
  intro s4 st4 h3
  have szs4 := st4.size
  have hS := hS.c0 st4
  replace hwo0_0 := hwo0_0.up2 st4
  replace hwo0_1 := hwo0_1.up2 st4
  replace hb_o0 := hb_o0.up2 st4
  refine k_nil ?_
  refine k_keep [(0, _), (2, _), (3, _)] ⟨rfl, rfl, rfl, trivial⟩ ?_
  refine k_seq ?_
  refine k_drawT (KN s4.n) 9 (.read 0 (.read 1 (.read 2 (.read 3 (.read 5 (.read 6 (.read 7 (.read 8 (.alt 4 .fin .no))))))))) mixed (by intro c h; (try simp only [KC, KO, KU, KN, KB] at h) <;> omega) rfl rfl rfl ?_
  intro s5 st5
  have szs5 := st5.size
  have hS := hS.trans0 st5
  replace hwo0_0 := hwo0_0.up2 st5
  replace hwo0_1 := hwo0_1.up2 st5
  replace hb_o0 := hb_o0.up2 st5
  replace h3 := h3.up2 st5
  refine rt_read (.pointer (some ⟨bo0, 0, none⟩)) rfl rfl (fun s6 st6 => ?_) ?_
  ·refine k_move rfl rfl ?_
   exact fq_end
  refine rt_read (.pointer (some ⟨bo0, 0, none⟩)) rfl rfl (fun s7 st7 => ?_) ?_
  ·refine k_nilCheck rfl rfl ?_
   exact fq_end
  refine rt_read (.pointer (some ⟨bo0, 3, none⟩)) rfl rfl (fun s8 st8 => ?_) ?_
  ·refine k_field_addr fld61_3 rfl rfl ?_
   exact fq_end
  refine rt_read (wo0_0) rfl rfl (fun s9 st9 => ?_) ?_
  ·try replace hb_o0 := hb_o0.up2 st9
   refine k_load_blk one56 rfl hb_o0 rfl rfl ?_
   exact fq_end
  refine rt_read (.pointer (some ⟨bo0, 0, none⟩)) rfl rfl (fun s10 st10 => ?_) ?_
  ·refine k_move rfl rfl ?_
   exact fq_end
  refine rt_read (.pointer (some ⟨bo0, 0, none⟩)) rfl rfl (fun s11 st11 => ?_) ?_
  ·refine k_nilCheck rfl rfl ?_
   exact fq_end
  refine rt_read (.pointer (some ⟨bo0, 4, none⟩)) rfl rfl (fun s12 st12 => ?_) ?_
  ·refine k_field_addr fld61_4 rfl rfl ?_
   exact fq_end
  refine rt_read (wo0_1) rfl rfl (fun s13 st13 => ?_) ?_
  ·try replace hb_o0 := hb_o0.up2 st13
   refine k_load_blk one57 rfl hb_o0 rfl rfl ?_
   exact fq_end
  refine rt_act rfl rfl ?_
  have hA14 := Step.r0 (KN s4.n) s5
  obtain ⟨x2, hx2, h⟩ := ob h
  refine k_call cal51 rfl (slices_Clone_disk_picture_disk_picture_own_w  (hwo0_0.sl) hx2) rfl ?_
  rintro s15 v15_0 st15 ⟨_, l15_0, rfl, hl15_0, h15_0⟩
  have szs15 := st15.size
  have hS := hS.trans0 st15
  have hA14 := hA14.trans0 st15
  replace hwo0_1 := hwo0_1.up2 st15
  replace h3 := h3.up2 st15
  obtain ⟨l15_0, hl15_0, h15_0⟩ := Own.anew 2150 h15_0 hl15_0 szs15
  have lt15_0 := Own.le1 h15_0
  refine rt_cont hA14 ?_
  refine rt_fin ?_
  obtain ⟨x3, hx3, h⟩ := ob h
  refine k_call cal52 rfl (slices_Clone_disk_call_disk_call_own_w  (hwo0_1.sl) hx3) rfl ?_
  rintro s16 v16_0 st16 ⟨_, l16_0, rfl, hl16_0, h16_0⟩
  have szs16 := st16.size
  have hS := hS.trans0 st16
  replace h3 := h3.up2 st16
  replace h15_0 := h15_0.up2 st16
  obtain ⟨l16_0, hl16_0, h16_0⟩ := Own.anew 2160 h16_0 hl16_0 szs16
  have lt16_0 := Own.le1 h16_0
  refine k_field_addr fld61_3 rfl rfl ?_
  refine k_store_c (cs' := [.int .i64 a0.capacity, .bool a0.made, .bool a0.down, v15_0, wo0_1, .int .i64 a0.fuse.n, .int .i64 a0.fuse.keep, .int .i64 a0.fuse.torn]) size56 rfl rfl h3 (by first | (simp; done) | omega | (dsimp only; omega)) (CellsOf.sl (h15_0.sl)) rfl (by first | rfl | (simp; done) | (simp; omega)) rfl ?_
  intro s17 st17 h3
  have szs17 := st17.size
  have hS := hS.c0 st17
  replace h15_0 := h15_0.up2 st17
  replace h16_0 := h16_0.up2 st17
  refine k_field_addr fld61_4 rfl rfl ?_
  refine k_store_c (cs' := [.int .i64 a0.capacity, .bool a0.made, .bool a0.down, v15_0, v16_0, .int .i64 a0.fuse.n, .int .i64 a0.fuse.keep, .int .i64 a0.fuse.torn]) size57 rfl rfl h3 (by first | (simp; done) | omega | (dsimp only; omega)) (CellsOf.sl (h16_0.sl)) rfl (by first | rfl | (simp; done) | (simp; omega)) rfl ?_
  intro s18 st18 h3
  have szs18 := st18.size
  have hS := hS.c0 st18
  replace h15_0 := h15_0.up2 st18
  replace h16_0 := h16_0.up2 st18
  refine k_nil ?_
  refine k_keep [(2, _), (3, _)] ⟨rfl, rfl, trivial⟩ ?_
  refine k_seq ?_
  refine k_region ?_
  refine k_assign rfl rfl ?_
  refine k_nil ?_
  refine k_keep [(2, _)] ⟨rfl, trivial⟩ ?_
  refine k_ret ?_
  obtain ⟨s19, e19, st19, h19⟩ := Own.relabelK (b3 + 1) 5 h15_0 (by first | omega | (dsimp only; omega)) (by first | omega | (dsimp only; omega)) (by first | omega | (dsimp only; omega))
  rw [← e19]
  have szs19 := st19.size
  have hS := hS.c0 st19
  replace h3 := h3.up2 st19
  replace h16_0 := h16_0.up2 st19
  obtain ⟨s20, e20, st20, h20⟩ := Own.relabelK (b3 + 1) 6 h16_0 (by first | omega | (dsimp only; omega)) (by first | omega | (dsimp only; omega)) (by first | omega | (dsimp only; omega))
  rw [← e20]
  have szs20 := st20.size
  have hS := hS.c0 st20
  replace h3 := h3.up2 st20
  replace h19 := h19.up2 st20
  obtain rfl := Option.some.inj h
  refine ⟨_, rfl, Ret.mk hS ?_⟩
  exact ⟨b3 + 1, _, rfl, by omega, (ODiskDisk.mk_ (⟨a0.capacity, a0.made, a0.down, x2, x3, a0.fuse⟩ : DiskDisk) (by omega) h19 h20 h3)⟩

set_option maxHeartbeats 1000000 in
set_option maxRecDepth 100000 in
theorem law05_awake_w {s : St}  {r : Bool}  (h : law05_awake = some r) : Calls Tryd.prog 13 #[] s.w (Ret s K0 (fun s1 v => v = .bool r)) := by
 unfold law05_awake at h
 have hS := Step.r0 K0 s
 refine k_fn (rs := [0]) (args := []) Tryd.func13 rfl rfl rfl rfl ?_
 refine k_seq ?_
 refine k_region ?_
 refine k_assign rfl rfl ?_
 refine k_nil ?_
 refine k_seq ?_
 refine k_region ?_
 obtain ⟨x1, hx1, h⟩ := ob h
 refine k_call cal11 rfl (disk_New_w   hx1) rfl ?_
 rintro s1 vr1 st1 ⟨ku1_0, v1_0, rfl, hk1_0, h1_0⟩
 have szs1 := st1.size
 have hS := hS.trans0 st1
 have ol1_0 := OptODiskDisk.le (k := ku1_0) h1_0
 refine k_move rfl rfl ?_
 refine k_extract rfl rfl rfl ?_
 refine k_extract rfl rfl rfl ?_
 refine k_assign rfl rfl ?_
 refine k_assign rfl rfl ?_
 refine k_nil ?_
 refine k_keep [(0, _), (1, _), (2, _)] ⟨rfl, rfl, rfl, trivial⟩ ?_
 refine k_seq ?_
 refine k_seq ?_
 refine k_region ?_
 refine k_move rfl rfl ?_
 refine k_neq rfl rfl rfl ?_
 refine k_move rfl rfl ?_
 rcases oc_out h with ⟨ho_2, h⟩ | ⟨x2, ho_2, h⟩
 ·
  rw [ho_2] at h1_0
  obtain rfl : v1_0 = .pointer none := h1_0
  have hE3 := Step.r0 K0 s1
  refine k_cutl (X := St) 3 [(0, .bool false), (1, .pointer none), (2, .int .i64 x1.2), (25, .int .i64 x1.2), (26, .bool (decide (x1.2 ≠ 0)))] (fun _ => [(30, .bool true)]) (fun sl wL => sl.w = wL ∧ Step K0 s1 sl) ?_ ?_
  ·
   refine k_again 27 rfl ?_
   refine k_split (fun c4 => ?_) (fun c4 => ?_)
   ·
    refine k_no rfl rfl rfl rfl ?_
    refine k_no rfl rfl rfl rfl ?_
    refine k_pickT rfl rfl rfl rfl ?_
    exact k_met ⟨s1, ⟨rfl, trivial⟩, ⟨rfl, rfl, rfl, rfl, rfl, trivial⟩, rfl, hE3⟩
   ·
    refine k_yes rfl rfl ?_
    refine k_move rfl rfl ?_
    refine k_yes rfl rfl ?_
    refine k_eql_pnil Tryd.underlying23 rfl rfl rfl ?_
    refine k_pickF rfl rfl rfl rfl ?_
    exact k_met ⟨s1, ⟨rfl, trivial⟩, ⟨rfl, rfl, rfl, rfl, rfl, trivial⟩, rfl, hE3⟩
  ·
   rintro s5 wL ⟨rfl, hE3⟩
   have szs5 := hE3.size
   have hS := hS.trans0 hE3
   refine k_nil ?_
   refine k_keep [(0, _), (1, _), (30, _)] ⟨rfl, rfl, rfl, trivial⟩ ?_
   refine k_cond_true rfl ?_
   refine k_seq ?_
   refine k_region ?_
   refine k_assign rfl rfl ?_
   refine k_nil ?_
   refine k_keep [(0, _), (1, _)] ⟨rfl, rfl, trivial⟩ ?_
   refine k_ret ?_
   obtain rfl := Option.some.inj h
   refine ⟨_, rfl, Ret.mk hS ?_⟩
   exact rfl
 ·
  rw [ho_2] at h1_0
  replace h1_0 : ODiskDisk s1 ku1_0 v1_0 x2 := h1_0
  replace ol1_0 := ol1_0.resolve_left (fun e => by rw [e] at ho_2; cases ho_2)
  have le2 := h1_0.le
  have ne2 := h1_0.ne
  have hE6 := Step.r0 K0 s1
  refine k_cutl (X := St) 3 [(0, .bool false), (1, v1_0), (2, .int .i64 x1.2), (25, .int .i64 x1.2), (26, .bool (decide (x1.2 ≠ 0)))] (fun _ => [(30, .bool (decide ((x1.2 ≠ 0) ∨ False)))]) (fun sl wL => sl.w = wL ∧ Step K0 s1 sl) ?_ ?_
  ·
   refine k_again 27 rfl ?_
   refine k_split (fun c7 => ?_) (fun c7 => ?_)
   ·
    refine k_no rfl rfl rfl rfl ?_
    refine k_no rfl rfl rfl rfl ?_
    refine k_pickT rfl rfl rfl rfl ?_
    exact k_met ⟨s1, ⟨(congrArg (fun b => some (Value.bool b)) (by first | exact decide_eq_decide.2 ⟨Or.inr, fun h => h.resolve_left c7⟩ | exact (decide_eq_true (Or.inl c7)).symm | (simp [c7]; done) | (simp [c7, i64] <;> omega))), trivial⟩, ⟨rfl, rfl, rfl, rfl, rfl, trivial⟩, rfl, hE6⟩
   ·
    refine k_yes rfl rfl ?_
    refine k_move rfl rfl ?_
    refine k_yes rfl rfl ?_
    obtain ⟨pb8, rfl⟩ := h1_0.ptr
    refine k_eql_pnil Tryd.underlying23 rfl rfl rfl ?_
    refine k_pickF rfl rfl rfl rfl ?_
    exact k_met ⟨s1, ⟨(congrArg (fun b => some (Value.bool b)) (by first | exact decide_eq_decide.2 ⟨Or.inr, fun h => h.resolve_left c7⟩ | exact (decide_eq_true (Or.inl c7)).symm | (simp [c7]; done) | (simp [c7, i64] <;> omega))), trivial⟩, ⟨rfl, rfl, rfl, rfl, rfl, trivial⟩, rfl, hE6⟩
  ·
   rintro s9 wL ⟨rfl, hE6⟩
   have szs9 := hE6.size
   have hS := hS.trans0 hE6
   replace h1_0 := h1_0.up2 hE6
   refine k_nil ?_
   refine k_keep [(0, _), (1, _), (30, _)] ⟨rfl, rfl, rfl, trivial⟩ ?_
   refine k_cond_dec rfl (fun c10 => ?_) (fun c10 => ?_)
   ·
    have h := itT h c10
    refine k_seq ?_
    refine k_region ?_
    refine k_assign rfl rfl ?_
    refine k_nil ?_
    refine k_keep [(0, _), (1, _)] ⟨rfl, rfl, trivial⟩ ?_
    refine k_ret ?_
    obtain rfl := Option.some.inj h
    refine ⟨_, rfl, Ret.mk hS ?_⟩
    exact rfl
   ·
    have h := itF h c10
    refine k_skip ?_
    refine k_seq ?_
    refine k_region ?_
    refine k_move rfl rfl ?_
    refine k_bslice2 (ds := ([(120 : UInt8), (121 : UInt8)] : List UInt8).map bD) slc29 rfl (RVs.cons (R.val rfl) (RVs.cons (R.val rfl) RVs.nil)) (by rfl) (by rfl) rfl rfl ?_
    intro s11 v11 b11 st11 ge11 bl11 h11
    have szs11 := st11.size
    have hS := hS.trans0 st11
    replace h1_0 := h1_0.up2 st11
    have lt11 := Own.le1 h11
    refine k_conv_sl Tryd.underlying29 Tryd.underlying5 rfl h11 (by simp) rfl ?_
    intro s12 st12 h12
    have szs12 := st12.size
    have hS := hS.c0 st12
    replace h1_0 := h1_0.up2 st12
    obtain ⟨x3, hx3, h⟩ := ob h
    refine k_call cal31 rfl (disk_Disk_Append_w  h1_0 (SL.of_R h12) (by first | assumption | omega | (simp <;> omega)) hx3) rfl ?_
    rintro s13 vr13 st13 ⟨rfl, h1_0⟩
    have szs13 := st13.size
    have hS := hS.c0 st13
    refine k_nil ?_
    refine k_keep [(0, _), (1, _)] ⟨rfl, rfl, trivial⟩ ?_
    refine k_seq ?_
    refine k_region ?_
    refine k_move rfl rfl ?_
    refine k_bslice2 (ds := ([(122 : UInt8)] : List UInt8).map bD) slc29 rfl (RVs.cons (R.val rfl) RVs.nil) (by rfl) (by rfl) rfl rfl ?_
    intro s14 v14 b14 st14 ge14 bl14 h14
    have szs14 := st14.size
    have hS := hS.trans0 st14
    replace h1_0 := h1_0.up2 st14
    have lt14 := Own.le1 h14
    refine k_conv_sl Tryd.underlying29 Tryd.underlying5 rfl h14 (by simp) rfl ?_
    intro s15 st15 h15
    have szs15 := st15.size
    have hS := hS.c0 st15
    replace h1_0 := h1_0.up2 st15
    obtain ⟨x4, hx4, h⟩ := ob h
    refine k_call cal31 rfl (disk_Disk_Append_w  h1_0 (SL.of_R h15) (by first | assumption | omega | (simp <;> omega)) hx4) rfl ?_
    rintro s16 vr16 st16 ⟨rfl, h1_0⟩
    have szs16 := st16.size
    have hS := hS.c0 st16
    refine k_nil ?_
    refine k_keep [(0, _), (1, _)] ⟨rfl, rfl, trivial⟩ ?_
    refine k_seq ?_
    refine k_region ?_
    refine k_move rfl rfl ?_
    obtain ⟨x5, hx5, h⟩ := ob h
    refine k_call cal16 rfl (disk_Disk_Sync_w  h1_0 hx5) rfl ?_
    rintro s17 vr17 st17 ⟨rfl, h1_0⟩
    have szs17 := st17.size
    have hS := hS.c0 st17
    refine k_nil ?_
    refine k_keep [(0, _), (1, _)] ⟨rfl, rfl, trivial⟩ ?_
    refine k_seq ?_
    refine k_region ?_
    refine k_move rfl rfl ?_
    refine k_bslice2 (ds := ([(117 : UInt8), (118 : UInt8), (119 : UInt8)] : List UInt8).map bD) slc29 rfl (RVs.cons (R.val rfl) (RVs.cons (R.val rfl) (RVs.cons (R.val rfl) RVs.nil))) (by rfl) (by rfl) rfl rfl ?_
    intro s18 v18 b18 st18 ge18 bl18 h18
    have szs18 := st18.size
    have hS := hS.trans0 st18
    replace h1_0 := h1_0.up2 st18
    have lt18 := Own.le1 h18
    refine k_conv_sl Tryd.underlying29 Tryd.underlying5 rfl h18 (by simp) rfl ?_
    intro s19 st19 h19
    have szs19 := st19.size
    have hS := hS.c0 st19
    replace h1_0 := h1_0.up2 st19
    obtain ⟨x6, hx6, h⟩ := ob h
    refine k_call cal31 rfl (disk_Disk_Append_w  h1_0 (SL.of_R h19) (by first | assumption | omega | (simp <;> omega)) hx6) rfl ?_
    rintro s20 vr20 st20 ⟨rfl, h1_0⟩
    have szs20 := st20.size
    have hS := hS.c0 st20
    refine k_assign rfl rfl ?_
    refine k_nil ?_
    refine k_keep [(0, _), (1, _), (3, _)] ⟨rfl, rfl, rfl, trivial⟩ ?_
    refine k_seq ?_
    refine k_region ?_
    refine k_move rfl rfl ?_
    obtain ⟨x7, hx7, h⟩ := ob h
    refine k_call cal14 rfl (disk_Disk_Waits_w  h1_0 hx7) rfl ?_
    rintro s21 vr21 st21 rfl
    have szs21 := st21.size
    have hS := hS.trans0 st21
    replace h1_0 := h1_0.up2 st21
    refine k_assign rfl rfl ?_
    refine k_nil ?_
    refine k_keep [(0, _), (1, _), (3, _), (4, _)] ⟨rfl, rfl, rfl, rfl, trivial⟩ ?_
    refine k_seq ?_
    refine k_region ?_
    refine k_move rfl rfl ?_
    obtain ⟨x8, hx8, h⟩ := ob h
    refine k_call cal17 rfl (disk_Disk_Crash_w  h1_0 hx8) rfl ?_
    rintro s22 vr22 st22 ⟨rfl, h1_0⟩
    have szs22 := st22.size
    have hS := hS.c0 st22
    refine k_assign rfl rfl ?_
    refine k_nil ?_
    refine k_keep [(0, _), (1, _), (3, _), (4, _), (5, _)] ⟨rfl, rfl, rfl, rfl, rfl, trivial⟩ ?_
    refine k_seq ?_
    refine k_region ?_
    refine k_move rfl rfl ?_
    obtain ⟨x9, hx9, h⟩ := ob h
    refine k_call cal27 rfl (disk_Disk_Read_w  h1_0 hx9) rfl ?_
    rintro s23 vr23 st23 ⟨v23_0, rfl, h23_0⟩
    have szs23 := st23.size
    have hS := hS.trans0 st23
    replace h1_0 := h1_0.up2 st23
    refine k_move rfl rfl ?_
    refine k_extract rfl rfl rfl ?_
    refine k_extract rfl rfl rfl ?_
    refine k_assign rfl rfl ?_
    refine k_assign rfl rfl ?_
    refine k_nil ?_
    refine k_keep [(0, _), (1, _), (3, _), (4, _), (5, _), (7, _)] ⟨rfl, rfl, rfl, rfl, rfl, rfl, trivial⟩ ?_
    refine k_seq ?_
    refine k_region ?_
    refine k_move rfl rfl ?_
    obtain ⟨x10, hx10, h⟩ := ob h
    refine k_call cal19 rfl (disk_Disk_Start_w  h1_0 hx10) rfl ?_
    rintro s24 vr24 st24 ⟨rfl, h1_0⟩
    have szs24 := st24.size
    have hS := hS.c0 st24
    refine k_nil ?_
    refine k_keep [(0, _), (1, _), (3, _), (4, _), (5, _), (7, _)] ⟨rfl, rfl, rfl, rfl, rfl, rfl, trivial⟩ ?_
    refine k_seq ?_
    refine k_region ?_
    refine k_move rfl rfl ?_
    obtain ⟨x11, hx11, h⟩ := ob h
    refine k_call cal27 rfl (disk_Disk_Read_w  h1_0 hx11) rfl ?_
    rintro s25 vr25 st25 ⟨v25_0, rfl, h25_0⟩
    have szs25 := st25.size
    have hS := hS.trans0 st25
    replace h1_0 := h1_0.up2 st25
    refine k_move rfl rfl ?_
    refine k_extract rfl rfl rfl ?_
    refine k_extract rfl rfl rfl ?_
    refine k_assign rfl rfl ?_
    refine k_assign rfl rfl ?_
    refine k_nil ?_
    refine k_keep [(0, _), (1, _), (3, _), (4, _), (5, _), (7, _), (8, _)] ⟨rfl, rfl, rfl, rfl, rfl, rfl, rfl, trivial⟩ ?_
    refine k_seq ?_
    refine k_region ?_
    refine k_move rfl rfl ?_
    refine k_bslice2 (ds := ([(115 : UInt8), (105 : UInt8), (120 : UInt8), (115 : UInt8), (105 : UInt8), (120 : UInt8)] : List UInt8).map bD) slc29 rfl (RVs.cons (R.val rfl) (RVs.cons (R.val rfl) (RVs.cons (R.val rfl) (RVs.cons (R.val rfl) (RVs.cons (R.val rfl) (RVs.cons (R.val rfl) RVs.nil)))))) (by rfl) (by rfl) rfl rfl ?_
    intro s26 v26 b26 st26 ge26 bl26 h26
    have szs26 := st26.size
    have hS := hS.trans0 st26
    replace h25_0 := h25_0.up2 st26
    replace h1_0 := h1_0.up2 st26
    have lt26 := Own.le1 h26
    refine k_conv_sl Tryd.underlying29 Tryd.underlying5 rfl h26 (by simp) rfl ?_
    intro s27 st27 h27
    have szs27 := st27.size
    have hS := hS.c0 st27
    replace h25_0 := h25_0.up2 st27
    replace h1_0 := h1_0.up2 st27
    obtain ⟨x12, hx12, h⟩ := ob h
    refine k_call cal32 rfl (disk_Disk_Put_w  h1_0 (SL.of_R h27) (by first | assumption | omega | (simp <;> omega)) hx12) rfl ?_
    rintro s28 vr28 st28 ⟨rfl, h1_0⟩
    have szs28 := st28.size
    have hS := hS.c0 st28
    replace h25_0 := h25_0.up2 st28
    refine k_move rfl rfl ?_
    obtain ⟨x13, hx13, h⟩ := ob h
    refine k_call cal32 rfl (disk_Disk_Put_w  h1_0 (show SL s28 L0 _ 1 (([] : List UInt8).map bD) from SL.of_R (R.of_SL (.inl ⟨rfl, none, 0, rfl, fun _ => rfl⟩))) (by first | assumption | omega | (simp <;> omega)) hx13) rfl ?_
    rintro s29 vr29 st29 ⟨rfl, h1_0⟩
    have szs29 := st29.size
    have hS := hS.c0 st29
    replace h25_0 := h25_0.up2 st29
    refine k_move rfl rfl ?_
    refine k_bslice2 (ds := ([(115 : UInt8), (105 : UInt8), (120 : UInt8), (115 : UInt8), (105 : UInt8), (120 : UInt8)] : List UInt8).map bD) slc29 rfl (RVs.cons (R.val rfl) (RVs.cons (R.val rfl) (RVs.cons (R.val rfl) (RVs.cons (R.val rfl) (RVs.cons (R.val rfl) (RVs.cons (R.val rfl) RVs.nil)))))) (by rfl) (by rfl) rfl rfl ?_
    intro s30 v30 b30 st30 ge30 bl30 h30
    have szs30 := st30.size
    have hS := hS.trans0 st30
    replace h25_0 := h25_0.up2 st30
    replace h1_0 := h1_0.up2 st30
    have lt30 := Own.le1 h30
    refine k_conv_sl Tryd.underlying29 Tryd.underlying5 rfl h30 (by simp) rfl ?_
    intro s31 st31 h31
    have szs31 := st31.size
    have hS := hS.c0 st31
    replace h25_0 := h25_0.up2 st31
    replace h1_0 := h1_0.up2 st31
    obtain ⟨x14, hx14, h⟩ := ob h
    refine k_call cal32 rfl (disk_Disk_Put_w  h1_0 (SL.of_R h31) (by first | assumption | omega | (simp <;> omega)) hx14) rfl ?_
    rintro s32 vr32 st32 ⟨rfl, h1_0⟩
    have szs32 := st32.size
    have hS := hS.c0 st32
    replace h25_0 := h25_0.up2 st32
    refine k_assign rfl rfl ?_
    refine k_assign rfl rfl ?_
    refine k_assign rfl rfl ?_
    refine k_nil ?_
    refine k_keep [(0, _), (1, _), (3, _), (4, _), (5, _), (7, _), (8, _), (10, _), (11, _), (12, _)] ⟨rfl, rfl, rfl, rfl, rfl, rfl, rfl, rfl, rfl, rfl, trivial⟩ ?_
    refine k_seq ?_
    refine k_region ?_
    refine k_move rfl rfl ?_
    obtain ⟨x15, hx15, h⟩ := ob h
    refine k_call cal29 rfl (disk_Disk_Rename_w  h1_0 hx15) rfl ?_
    rintro s33 vr33 st33 ⟨rfl, h1_0⟩
    have szs33 := st33.size
    have hS := hS.c0 st33
    replace h25_0 := h25_0.up2 st33
    refine k_assign rfl rfl ?_
    refine k_nil ?_
    refine k_keep [(0, _), (1, _), (3, _), (4, _), (5, _), (7, _), (8, _), (10, _), (11, _), (12, _), (13, _)] ⟨rfl, rfl, rfl, rfl, rfl, rfl, rfl, rfl, rfl, rfl, rfl, trivial⟩ ?_
    refine k_seq ?_
    refine k_region ?_
    refine k_move rfl rfl ?_
    obtain ⟨x16, hx16, h⟩ := ob h
    refine k_call cal26 rfl (disk_Disk_Names_w  h1_0 hx16) rfl ?_
    rintro s34 v34_0 st34 ⟨_, rfl, h34_0⟩
    have szs34 := st34.size
    have hS := hS.trans0 st34
    replace h25_0 := h25_0.up2 st34
    replace h1_0 := h1_0.up2 st34
    refine k_assign rfl rfl ?_
    refine k_nil ?_
    refine k_keep [(0, _), (1, _), (3, _), (4, _), (5, _), (7, _), (8, _), (10, _), (11, _), (12, _), (13, _), (14, _)] ⟨rfl, rfl, rfl, rfl, rfl, rfl, rfl, rfl, rfl, rfl, rfl, rfl, trivial⟩ ?_
    refine k_seq ?_
    refine k_region ?_
    refine k_move rfl rfl ?_
    obtain ⟨x17, hx17, h⟩ := ob h
    refine k_call cal27 rfl (disk_Disk_Read_w  h1_0 hx17) rfl ?_
    rintro s35 vr35 st35 ⟨v35_0, rfl, h35_0⟩
    have szs35 := st35.size
    have hS := hS.trans0 st35
    replace h25_0 := h25_0.up2 st35
    replace h34_0 := h34_0.up2 st35
    replace h1_0 := h1_0.up2 st35
    refine k_move rfl rfl ?_
    refine k_extract rfl rfl rfl ?_
    refine k_extract rfl rfl rfl ?_
    refine k_assign rfl rfl ?_
    refine k_assign rfl rfl ?_
    refine k_nil ?_
    refine k_keep [(0, _), (1, _), (3, _), (4, _), (5, _), (7, _), (8, _), (10, _), (11, _), (12, _), (13, _), (14, _), (15, _)] ⟨rfl, rfl, rfl, rfl, rfl, rfl, rfl, rfl, rfl, rfl, rfl, rfl, rfl, trivial⟩ ?_
    refine k_seq ?_
    refine k_region ?_
    refine k_move rfl rfl ?_
    obtain ⟨x18, hx18, h⟩ := ob h
    refine k_call cal25 rfl (disk_Disk_Fuse_w  h1_0 hx18) rfl ?_
    rintro s36 vr36 st36 ⟨rfl, h1_0⟩
    have szs36 := st36.size
    have hS := hS.c0 st36
    replace h25_0 := h25_0.up2 st36
    replace h34_0 := h34_0.up2 st36
    replace h35_0 := h35_0.up2 st36
    refine k_nil ?_
    refine k_keep [(0, _), (1, _), (3, _), (4, _), (5, _), (7, _), (8, _), (10, _), (11, _), (12, _), (13, _), (14, _), (15, _)] ⟨rfl, rfl, rfl, rfl, rfl, rfl, rfl, rfl, rfl, rfl, rfl, rfl, rfl, trivial⟩ ?_
    refine k_seq ?_
    refine k_region ?_
    refine k_move rfl rfl ?_
    refine k_bslice2 (ds := ([(112 : UInt8)] : List UInt8).map bD) slc29 rfl (RVs.cons (R.val rfl) RVs.nil) (by rfl) (by rfl) rfl rfl ?_
    intro s37 v37 b37 st37 ge37 bl37 h37
    have szs37 := st37.size
    have hS := hS.trans0 st37
    replace h25_0 := h25_0.up2 st37
    replace h34_0 := h34_0.up2 st37
    replace h35_0 := h35_0.up2 st37
    replace h1_0 := h1_0.up2 st37
    have lt37 := Own.le1 h37
    refine k_conv_sl Tryd.underlying29 Tryd.underlying5 rfl h37 (by simp) rfl ?_
    intro s38 st38 h38
    have szs38 := st38.size
    have hS := hS.c0 st38
    replace h25_0 := h25_0.up2 st38
    replace h34_0 := h34_0.up2 st38
    replace h35_0 := h35_0.up2 st38
    replace h1_0 := h1_0.up2 st38
    obtain ⟨x19, hx19, h⟩ := ob h
    refine k_call cal31 rfl (disk_Disk_Append_w  h1_0 (SL.of_R h38) (by first | assumption | omega | (simp <;> omega)) hx19) rfl ?_
    rintro s39 vr39 st39 ⟨rfl, h1_0⟩
    have szs39 := st39.size
    have hS := hS.c0 st39
    replace h25_0 := h25_0.up2 st39
    replace h34_0 := h34_0.up2 st39
    replace h35_0 := h35_0.up2 st39
    refine k_move rfl rfl ?_
    refine k_bslice2 (ds := ([(113 : UInt8)] : List UInt8).map bD) slc29 rfl (RVs.cons (R.val rfl) RVs.nil) (by rfl) (by rfl) rfl rfl ?_
    intro s40 v40 b40 st40 ge40 bl40 h40
    have szs40 := st40.size
    have hS := hS.trans0 st40
    replace h25_0 := h25_0.up2 st40
    replace h34_0 := h34_0.up2 st40
    replace h35_0 := h35_0.up2 st40
    replace h1_0 := h1_0.up2 st40
    have lt40 := Own.le1 h40
    refine k_conv_sl Tryd.underlying29 Tryd.underlying5 rfl h40 (by simp) rfl ?_
    intro s41 st41 h41
    have szs41 := st41.size
    have hS := hS.c0 st41
    replace h25_0 := h25_0.up2 st41
    replace h34_0 := h34_0.up2 st41
    replace h35_0 := h35_0.up2 st41
    replace h1_0 := h1_0.up2 st41
    obtain ⟨x20, hx20, h⟩ := ob h
    refine k_call cal31 rfl (disk_Disk_Append_w  h1_0 (SL.of_R h41) (by first | assumption | omega | (simp <;> omega)) hx20) rfl ?_
    rintro s42 vr42 st42 ⟨rfl, h1_0⟩
    have szs42 := st42.size
    have hS := hS.c0 st42
    replace h25_0 := h25_0.up2 st42
    replace h34_0 := h34_0.up2 st42
    replace h35_0 := h35_0.up2 st42
    refine k_assign rfl rfl ?_
    refine k_assign rfl rfl ?_
    refine k_nil ?_
    refine k_keep [(0, _), (1, _), (3, _), (4, _), (5, _), (7, _), (8, _), (10, _), (11, _), (12, _), (13, _), (14, _), (15, _), (17, _), (18, _)] ⟨rfl, rfl, rfl, rfl, rfl, rfl, rfl, rfl, rfl, rfl, rfl, rfl, rfl, rfl, rfl, trivial⟩ ?_
    refine k_seq ?_
    refine k_region ?_
    refine k_move rfl rfl ?_
    obtain ⟨x21, hx21, h⟩ := ob h
    refine k_call cal19 rfl (disk_Disk_Start_w  h1_0 hx21) rfl ?_
    rintro s43 vr43 st43 ⟨rfl, h1_0⟩
    have szs43 := st43.size
    have hS := hS.c0 st43
    replace h25_0 := h25_0.up2 st43
    replace h34_0 := h34_0.up2 st43
    replace h35_0 := h35_0.up2 st43
    refine k_nil ?_
    refine k_keep [(0, _), (1, _), (3, _), (4, _), (5, _), (7, _), (8, _), (10, _), (11, _), (12, _), (13, _), (14, _), (15, _), (17, _), (18, _)] ⟨rfl, rfl, rfl, rfl, rfl, rfl, rfl, rfl, rfl, rfl, rfl, rfl, rfl, rfl, rfl, trivial⟩ ?_
    refine k_seq ?_
    refine k_region ?_
    refine k_move rfl rfl ?_
    obtain ⟨x22, hx22, h⟩ := ob h
    refine k_call cal27 rfl (disk_Disk_Read_w  h1_0 hx22) rfl ?_
    rintro s44 vr44 st44 ⟨v44_0, rfl, h44_0⟩
    have szs44 := st44.size
    have hS := hS.trans0 st44
    replace h25_0 := h25_0.up2 st44
    replace h34_0 := h34_0.up2 st44
    replace h35_0 := h35_0.up2 st44
    refine k_move rfl rfl ?_
    refine k_extract rfl rfl rfl ?_
    refine k_extract rfl rfl rfl ?_
    refine k_assign rfl rfl ?_
    refine k_assign rfl rfl ?_
    refine k_nil ?_
    refine k_keep [(0, _), (3, _), (4, _), (5, _), (7, _), (8, _), (10, _), (11, _), (12, _), (13, _), (14, _), (15, _), (17, _), (18, _), (20, _)] ⟨rfl, rfl, rfl, rfl, rfl, rfl, rfl, rfl, rfl, rfl, rfl, rfl, rfl, rfl, rfl, trivial⟩ ?_
    refine k_seq ?_
    refine k_region ?_
    refine k_move rfl rfl ?_
    refine k_eql rfl rfl rfl ?_
    refine k_move rfl rfl ?_
    have hE45 := Step.r0 K0 s44
    refine k_cutl (X := St) 3 [(0, .bool false), (3, .int .i64 x6.1), (4, .int .i64 x7), (5, .int .i64 x8.1), (7, .int .i64 x9.2), (8, v25_0), (10, .int .i64 x12.1), (11, .int .i64 x13.1), (12, .int .i64 x14.1), (13, .int .i64 x15.1), (14, v34_0), (15, v35_0), (17, .int .i64 x19.1), (18, .int .i64 x20.1), (20, .int .i64 x22.2), (97, .int .i64 x6.1), (98, .bool (decide (x6.1 = 0)))] (fun _ => [(102, .bool (decide ((x6.1 = 0) ∧ (x7 = 1))))]) (fun sl wL => sl.w = wL ∧ Step K0 s44 sl) ?_ ?_
    ·
     refine k_again 99 rfl ?_
     refine k_split (fun c46 => ?_) (fun c46 => ?_)
     ·
      refine k_yes rfl rfl ?_
      refine k_move rfl rfl ?_
      refine k_yes rfl rfl ?_
      refine k_eql rfl rfl rfl ?_
      refine k_pickT rfl rfl rfl rfl ?_
      exact k_met ⟨s44, ⟨(congrArg (fun b => some (Value.bool b)) (by first | exact decide_eq_decide.2 ⟨fun h => ⟨c46, h⟩, fun h => h.2⟩ | exact (decide_eq_false (fun h => c46 h.1)).symm | (simp [c46]; done) | (simp [c46, i64] <;> omega))), trivial⟩, ⟨rfl, rfl, rfl, rfl, rfl, rfl, rfl, rfl, rfl, rfl, rfl, rfl, rfl, rfl, rfl, rfl, rfl, trivial⟩, rfl, hE45⟩
     ·
      refine k_no rfl rfl rfl rfl ?_
      refine k_no rfl rfl rfl rfl ?_
      refine k_pickF rfl rfl rfl rfl ?_
      exact k_met ⟨s44, ⟨(congrArg (fun b => some (Value.bool b)) (by first | exact decide_eq_decide.2 ⟨fun h => ⟨c46, h⟩, fun h => h.2⟩ | exact (decide_eq_false (fun h => c46 h.1)).symm | (simp [c46]; done) | (simp [c46, i64] <;> omega))), trivial⟩, ⟨rfl, rfl, rfl, rfl, rfl, rfl, rfl, rfl, rfl, rfl, rfl, rfl, rfl, rfl, rfl, rfl, rfl, trivial⟩, rfl, hE45⟩
    ·
     rintro s47 wL ⟨rfl, hE45⟩
     have szs47 := hE45.size
     have hS := hS.trans0 hE45
     replace h25_0 := h25_0.up2 hE45
     replace h34_0 := h34_0.up2 hE45
     replace h35_0 := h35_0.up2 hE45
     refine k_move rfl rfl ?_
     have hE48 := Step.r0 K0 s47
     refine k_cutl (X := St) 3 [(0, .bool false), (3, .int .i64 x6.1), (4, .int .i64 x7), (5, .int .i64 x8.1), (7, .int .i64 x9.2), (8, v25_0), (10, .int .i64 x12.1), (11, .int .i64 x13.1), (12, .int .i64 x14.1), (13, .int .i64 x15.1), (14, v34_0), (15, v35_0), (17, .int .i64 x19.1), (18, .int .i64 x20.1), (20, .int .i64 x22.2), (97, .int .i64 x6.1), (98, .bool (decide (x6.1 = 0))), (102, .bool (decide ((x6.1 = 0) ∧ (x7 = 1))))] (fun _ => [(106, .bool (decide (((x6.1 = 0) ∧ (x7 = 1)) ∧ (x8.1 = 0))))]) (fun sl wL => sl.w = wL ∧ Step K0 s47 sl) ?_ ?_
     ·
      refine k_again 103 rfl ?_
      refine k_split (fun c49 => ?_) (fun c49 => ?_)
      ·
       refine k_yes rfl rfl ?_
       refine k_move rfl rfl ?_
       refine k_yes rfl rfl ?_
       refine k_eql rfl rfl rfl ?_
       refine k_pickT rfl rfl rfl rfl ?_
       exact k_met ⟨s47, ⟨(congrArg (fun b => some (Value.bool b)) (by first | exact decide_eq_decide.2 ⟨fun h => ⟨c49, h⟩, fun h => h.2⟩ | exact (decide_eq_false (fun h => c49 h.1)).symm | (simp [c49]; done) | (simp [c49, i64] <;> omega))), trivial⟩, ⟨rfl, rfl, rfl, rfl, rfl, rfl, rfl, rfl, rfl, rfl, rfl, rfl, rfl, rfl, rfl, rfl, rfl, rfl, trivial⟩, rfl, hE48⟩
      ·
       refine k_no rfl rfl rfl rfl ?_
       refine k_no rfl rfl rfl rfl ?_
       refine k_pickF rfl rfl rfl rfl ?_
       exact k_met ⟨s47, ⟨(congrArg (fun b => some (Value.bool b)) (by first | exact decide_eq_decide.2 ⟨fun h => ⟨c49, h⟩, fun h => h.2⟩ | exact (decide_eq_false (fun h => c49 h.1)).symm | (simp [c49]; done) | (simp [c49, i64] <;> omega))), trivial⟩, ⟨rfl, rfl, rfl, rfl, rfl, rfl, rfl, rfl, rfl, rfl, rfl, rfl, rfl, rfl, rfl, rfl, rfl, rfl, trivial⟩, rfl, hE48⟩
     ·
      rintro s50 wL ⟨rfl, hE48⟩
      have szs50 := hE48.size
      have hS := hS.trans0 hE48
      replace h25_0 := h25_0.up2 hE48
      replace h34_0 := h34_0.up2 hE48
      replace h35_0 := h35_0.up2 hE48
      refine k_move rfl rfl ?_
      have hE51 := Step.r0 K0 s50
      refine k_cutl (X := St) 3 [(0, .bool false), (3, .int .i64 x6.1), (4, .int .i64 x7), (5, .int .i64 x8.1), (7, .int .i64 x9.2), (8, v25_0), (10, .int .i64 x12.1), (11, .int .i64 x13.1), (12, .int .i64 x14.1), (13, .int .i64 x15.1), (14, v34_0), (15, v35_0), (17, .int .i64 x19.1), (18, .int .i64 x20.1), (20, .int .i64 x22.2), (97, .int .i64 x6.1), (98, .bool (decide (x6.1 = 0))), (102, .bool (decide ((x6.1 = 0) ∧ (x7 = 1)))), (106, .bool (decide (((x6.1 = 0) ∧ (x7 = 1)) ∧ (x8.1 = 0))))] (fun _ => [(110, .bool (decide ((((x6.1 = 0) ∧ (x7 = 1)) ∧ (x8.1 = 0)) ∧ (x9.2 = 12))))]) (fun sl wL => sl.w = wL ∧ Step K0 s50 sl) ?_ ?_
      ·
       refine k_again 107 rfl ?_
       refine k_split (fun c52 => ?_) (fun c52 => ?_)
       ·
        refine k_yes rfl rfl ?_
        refine k_move rfl rfl ?_
        refine k_yes rfl rfl ?_
        refine k_eql rfl rfl rfl ?_
        refine k_pickT rfl rfl rfl rfl ?_
        exact k_met ⟨s50, ⟨(congrArg (fun b => some (Value.bool b)) (by first | exact decide_eq_decide.2 ⟨fun h => ⟨c52, h⟩, fun h => h.2⟩ | exact (decide_eq_false (fun h => c52 h.1)).symm | (simp [c52]; done) | (simp [c52, i64] <;> omega))), trivial⟩, ⟨rfl, rfl, rfl, rfl, rfl, rfl, rfl, rfl, rfl, rfl, rfl, rfl, rfl, rfl, rfl, rfl, rfl, rfl, rfl, trivial⟩, rfl, hE51⟩
       ·
        refine k_no rfl rfl rfl rfl ?_
        refine k_no rfl rfl rfl rfl ?_
        refine k_pickF rfl rfl rfl rfl ?_
        exact k_met ⟨s50, ⟨(congrArg (fun b => some (Value.bool b)) (by first | exact decide_eq_decide.2 ⟨fun h => ⟨c52, h⟩, fun h => h.2⟩ | exact (decide_eq_false (fun h => c52 h.1)).symm | (simp [c52]; done) | (simp [c52, i64] <;> omega))), trivial⟩, ⟨rfl, rfl, rfl, rfl, rfl, rfl, rfl, rfl, rfl, rfl, rfl, rfl, rfl, rfl, rfl, rfl, rfl, rfl, rfl, trivial⟩, rfl, hE51⟩
      ·
       rintro s53 wL ⟨rfl, hE51⟩
       have szs53 := hE51.size
       have hS := hS.trans0 hE51
       replace h25_0 := h25_0.up2 hE51
       replace h34_0 := h34_0.up2 hE51
       replace h35_0 := h35_0.up2 hE51
       refine k_move rfl rfl ?_
       have hE54 := Step.r0 K0 s53
       refine k_cutl (X := St) 4 [(0, .bool false), (3, .int .i64 x6.1), (4, .int .i64 x7), (5, .int .i64 x8.1), (7, .int .i64 x9.2), (8, v25_0), (10, .int .i64 x12.1), (11, .int .i64 x13.1), (12, .int .i64 x14.1), (13, .int .i64 x15.1), (14, v34_0), (15, v35_0), (17, .int .i64 x19.1), (18, .int .i64 x20.1), (20, .int .i64 x22.2), (97, .int .i64 x6.1), (98, .bool (decide (x6.1 = 0))), (102, .bool (decide ((x6.1 = 0) ∧ (x7 = 1)))), (106, .bool (decide (((x6.1 = 0) ∧ (x7 = 1)) ∧ (x8.1 = 0)))), (110, .bool (decide ((((x6.1 = 0) ∧ (x7 = 1)) ∧ (x8.1 = 0)) ∧ (x9.2 = 12))))] (fun _ => [(115, .bool (decide (((((x6.1 = 0) ∧ (x7 = 1)) ∧ (x8.1 = 0)) ∧ (x9.2 = 12)) ∧ (x11.1 = ([120, 121, 122, 117, 118] : List UInt8)))))]) (fun sl wL => sl.w = wL ∧ Step K0 s53 sl) ?_ ?_
       ·
        refine k_again 111 rfl ?_
        refine k_split (fun c55 => ?_) (fun c55 => ?_)
        ·
         refine k_yes rfl rfl ?_
         refine k_move rfl rfl ?_
         refine k_yes rfl rfl ?_
         refine k_bts (m := x11.1) Tryd.underlying29 Tryd.underlying5 Tryd.underlying9 rfl (SL.of_R h25_0) rfl ?_
         refine k_yes rfl rfl ?_
         refine k_eql_str rfl rfl rfl ?_
         refine k_pickT rfl rfl rfl rfl ?_
         exact k_met ⟨s53, ⟨(congrArg (fun b => some (Value.bool b)) (by first | exact decide_eq_decide.2 ⟨fun h => ⟨c55, h⟩, fun h => h.2⟩ | exact (decide_eq_false (fun h => c55 h.1)).symm | (simp [c55]; done) | (simp [c55, i64] <;> omega))), trivial⟩, ⟨rfl, rfl, rfl, rfl, rfl, rfl, rfl, rfl, rfl, rfl, rfl, rfl, rfl, rfl, rfl, rfl, rfl, rfl, rfl, rfl, trivial⟩, rfl, hE54⟩
        ·
         refine k_no rfl rfl rfl rfl ?_
         refine k_no rfl rfl rfl rfl ?_
         refine k_no rfl rfl rfl rfl ?_
         refine k_pickF rfl rfl rfl rfl ?_
         exact k_met ⟨s53, ⟨(congrArg (fun b => some (Value.bool b)) (by first | exact decide_eq_decide.2 ⟨fun h => ⟨c55, h⟩, fun h => h.2⟩ | exact (decide_eq_false (fun h => c55 h.1)).symm | (simp [c55]; done) | (simp [c55, i64] <;> omega))), trivial⟩, ⟨rfl, rfl, rfl, rfl, rfl, rfl, rfl, rfl, rfl, rfl, rfl, rfl, rfl, rfl, rfl, rfl, rfl, rfl, rfl, rfl, trivial⟩, rfl, hE54⟩
       ·
        rintro s56 wL ⟨rfl, hE54⟩
        have szs56 := hE54.size
        have hS := hS.trans0 hE54
        replace h34_0 := h34_0.up2 hE54
        replace h35_0 := h35_0.up2 hE54
        refine k_move rfl rfl ?_
        have hE57 := Step.r0 K0 s56
        refine k_cutl (X := St) 3 [(0, .bool false), (3, .int .i64 x6.1), (4, .int .i64 x7), (5, .int .i64 x8.1), (7, .int .i64 x9.2), (8, v25_0), (10, .int .i64 x12.1), (11, .int .i64 x13.1), (12, .int .i64 x14.1), (13, .int .i64 x15.1), (14, v34_0), (15, v35_0), (17, .int .i64 x19.1), (18, .int .i64 x20.1), (20, .int .i64 x22.2), (97, .int .i64 x6.1), (98, .bool (decide (x6.1 = 0))), (102, .bool (decide ((x6.1 = 0) ∧ (x7 = 1)))), (106, .bool (decide (((x6.1 = 0) ∧ (x7 = 1)) ∧ (x8.1 = 0)))), (110, .bool (decide ((((x6.1 = 0) ∧ (x7 = 1)) ∧ (x8.1 = 0)) ∧ (x9.2 = 12)))), (115, .bool (decide (((((x6.1 = 0) ∧ (x7 = 1)) ∧ (x8.1 = 0)) ∧ (x9.2 = 12)) ∧ (x11.1 = ([120, 121, 122, 117, 118] : List UInt8)))))] (fun _ => [(119, .bool (decide ((((((x6.1 = 0) ∧ (x7 = 1)) ∧ (x8.1 = 0)) ∧ (x9.2 = 12)) ∧ (x11.1 = ([120, 121, 122, 117, 118] : List UInt8))) ∧ (x12.1 = 3))))]) (fun sl wL => sl.w = wL ∧ Step K0 s56 sl) ?_ ?_
        ·
         refine k_again 116 rfl ?_
         refine k_split (fun c58 => ?_) (fun c58 => ?_)
         ·
          refine k_yes rfl rfl ?_
          refine k_move rfl rfl ?_
          refine k_yes rfl rfl ?_
          refine k_eql rfl rfl rfl ?_
          refine k_pickT rfl rfl rfl rfl ?_
          exact k_met ⟨s56, ⟨(congrArg (fun b => some (Value.bool b)) (by first | exact decide_eq_decide.2 ⟨fun h => ⟨c58, h⟩, fun h => h.2⟩ | exact (decide_eq_false (fun h => c58 h.1)).symm | (simp [c58]; done) | (simp [c58, i64] <;> omega))), trivial⟩, ⟨rfl, rfl, rfl, rfl, rfl, rfl, rfl, rfl, rfl, rfl, rfl, rfl, rfl, rfl, rfl, rfl, rfl, rfl, rfl, rfl, rfl, trivial⟩, rfl, hE57⟩
         ·
          refine k_no rfl rfl rfl rfl ?_
          refine k_no rfl rfl rfl rfl ?_
          refine k_pickF rfl rfl rfl rfl ?_
          exact k_met ⟨s56, ⟨(congrArg (fun b => some (Value.bool b)) (by first | exact decide_eq_decide.2 ⟨fun h => ⟨c58, h⟩, fun h => h.2⟩ | exact (decide_eq_false (fun h => c58 h.1)).symm | (simp [c58]; done) | (simp [c58, i64] <;> omega))), trivial⟩, ⟨rfl, rfl, rfl, rfl, rfl, rfl, rfl, rfl, rfl, rfl, rfl, rfl, rfl, rfl, rfl, rfl, rfl, rfl, rfl, rfl, rfl, trivial⟩, rfl, hE57⟩
        ·
         rintro s59 wL ⟨rfl, hE57⟩
         have szs59 := hE57.size
         have hS := hS.trans0 hE57
         replace h34_0 := h34_0.up2 hE57
         replace h35_0 := h35_0.up2 hE57
         refine k_move rfl rfl ?_
         have hE60 := Step.r0 K0 s59
         refine k_cutl (X := St) 3 [(0, .bool false), (3, .int .i64 x6.1), (4, .int .i64 x7), (5, .int .i64 x8.1), (7, .int .i64 x9.2), (8, v25_0), (10, .int .i64 x12.1), (11, .int .i64 x13.1), (12, .int .i64 x14.1), (13, .int .i64 x15.1), (14, v34_0), (15, v35_0), (17, .int .i64 x19.1), (18, .int .i64 x20.1), (20, .int .i64 x22.2), (97, .int .i64 x6.1), (98, .bool (decide (x6.1 = 0))), (102, .bool (decide ((x6.1 = 0) ∧ (x7 = 1)))), (106, .bool (decide (((x6.1 = 0) ∧ (x7 = 1)) ∧ (x8.1 = 0)))), (110, .bool (decide ((((x6.1 = 0) ∧ (x7 = 1)) ∧ (x8.1 = 0)) ∧ (x9.2 = 12)))), (115, .bool (decide (((((x6.1 = 0) ∧ (x7 = 1)) ∧ (x8.1 = 0)) ∧ (x9.2 = 12)) ∧ (x11.1 = ([120, 121, 122, 117, 118] : List UInt8))))), (119, .bool (decide ((((((x6.1 = 0) ∧ (x7 = 1)) ∧ (x8.1 = 0)) ∧ (x9.2 = 12)) ∧ (x11.1 = ([120, 121, 122, 117, 118] : List UInt8))) ∧ (x12.1 = 3))))] (fun _ => [(123, .bool (decide (((((((x6.1 = 0) ∧ (x7 = 1)) ∧ (x8.1 = 0)) ∧ (x9.2 = 12)) ∧ (x11.1 = ([120, 121, 122, 117, 118] : List UInt8))) ∧ (x12.1 = 3)) ∧ (x13.1 = 0))))]) (fun sl wL => sl.w = wL ∧ Step K0 s59 sl) ?_ ?_
         ·
          refine k_again 120 rfl ?_
          refine k_split (fun c61 => ?_) (fun c61 => ?_)
          ·
           refine k_yes rfl rfl ?_
           refine k_move rfl rfl ?_
           refine k_yes rfl rfl ?_
           refine k_eql rfl rfl rfl ?_
           refine k_pickT rfl rfl rfl rfl ?_
           exact k_met ⟨s59, ⟨(congrArg (fun b => some (Value.bool b)) (by first | exact decide_eq_decide.2 ⟨fun h => ⟨c61, h⟩, fun h => h.2⟩ | exact (decide_eq_false (fun h => c61 h.1)).symm | (simp [c61]; done) | (simp [c61, i64] <;> omega))), trivial⟩, ⟨rfl, rfl, rfl, rfl, rfl, rfl, rfl, rfl, rfl, rfl, rfl, rfl, rfl, rfl, rfl, rfl, rfl, rfl, rfl, rfl, rfl, rfl, trivial⟩, rfl, hE60⟩
          ·
           refine k_no rfl rfl rfl rfl ?_
           refine k_no rfl rfl rfl rfl ?_
           refine k_pickF rfl rfl rfl rfl ?_
           exact k_met ⟨s59, ⟨(congrArg (fun b => some (Value.bool b)) (by first | exact decide_eq_decide.2 ⟨fun h => ⟨c61, h⟩, fun h => h.2⟩ | exact (decide_eq_false (fun h => c61 h.1)).symm | (simp [c61]; done) | (simp [c61, i64] <;> omega))), trivial⟩, ⟨rfl, rfl, rfl, rfl, rfl, rfl, rfl, rfl, rfl, rfl, rfl, rfl, rfl, rfl, rfl, rfl, rfl, rfl, rfl, rfl, rfl, rfl, trivial⟩, rfl, hE60⟩
         ·
          rintro s62 wL ⟨rfl, hE60⟩
          have szs62 := hE60.size
          have hS := hS.trans0 hE60
          replace h34_0 := h34_0.up2 hE60
          replace h35_0 := h35_0.up2 hE60
          refine k_move rfl rfl ?_
          have hE63 := Step.r0 K0 s62
          refine k_cutl (X := St) 3 [(0, .bool false), (3, .int .i64 x6.1), (4, .int .i64 x7), (5, .int .i64 x8.1), (7, .int .i64 x9.2), (8, v25_0), (10, .int .i64 x12.1), (11, .int .i64 x13.1), (12, .int .i64 x14.1), (13, .int .i64 x15.1), (14, v34_0), (15, v35_0), (17, .int .i64 x19.1), (18, .int .i64 x20.1), (20, .int .i64 x22.2), (97, .int .i64 x6.1), (98, .bool (decide (x6.1 = 0))), (102, .bool (decide ((x6.1 = 0) ∧ (x7 = 1)))), (106, .bool (decide (((x6.1 = 0) ∧ (x7 = 1)) ∧ (x8.1 = 0)))), (110, .bool (decide ((((x6.1 = 0) ∧ (x7 = 1)) ∧ (x8.1 = 0)) ∧ (x9.2 = 12)))), (115, .bool (decide (((((x6.1 = 0) ∧ (x7 = 1)) ∧ (x8.1 = 0)) ∧ (x9.2 = 12)) ∧ (x11.1 = ([120, 121, 122, 117, 118] : List UInt8))))), (119, .bool (decide ((((((x6.1 = 0) ∧ (x7 = 1)) ∧ (x8.1 = 0)) ∧ (x9.2 = 12)) ∧ (x11.1 = ([120, 121, 122, 117, 118] : List UInt8))) ∧ (x12.1 = 3)))), (123, .bool (decide (((((((x6.1 = 0) ∧ (x7 = 1)) ∧ (x8.1 = 0)) ∧ (x9.2 = 12)) ∧ (x11.1 = ([120, 121, 122, 117, 118] : List UInt8))) ∧ (x12.1 = 3)) ∧ (x13.1 = 0))))] (fun _ => [(127, .bool (decide ((((((((x6.1 = 0) ∧ (x7 = 1)) ∧ (x8.1 = 0)) ∧ (x9.2 = 12)) ∧ (x11.1 = ([120, 121, 122, 117, 118] : List UInt8))) ∧ (x12.1 = 3)) ∧ (x13.1 = 0)) ∧ (x14.1 = 0))))]) (fun sl wL => sl.w = wL ∧ Step K0 s62 sl) ?_ ?_
          ·
           refine k_again 124 rfl ?_
           refine k_split (fun c64 => ?_) (fun c64 => ?_)
           ·
            refine k_yes rfl rfl ?_
            refine k_move rfl rfl ?_
            refine k_yes rfl rfl ?_
            refine k_eql rfl rfl rfl ?_
            refine k_pickT rfl rfl rfl rfl ?_
            exact k_met ⟨s62, ⟨(congrArg (fun b => some (Value.bool b)) (by first | exact decide_eq_decide.2 ⟨fun h => ⟨c64, h⟩, fun h => h.2⟩ | exact (decide_eq_false (fun h => c64 h.1)).symm | (simp [c64]; done) | (simp [c64, i64] <;> omega))), trivial⟩, ⟨rfl, rfl, rfl, rfl, rfl, rfl, rfl, rfl, rfl, rfl, rfl, rfl, rfl, rfl, rfl, rfl, rfl, rfl, rfl, rfl, rfl, rfl, rfl, trivial⟩, rfl, hE63⟩
           ·
            refine k_no rfl rfl rfl rfl ?_
            refine k_no rfl rfl rfl rfl ?_
            refine k_pickF rfl rfl rfl rfl ?_
            exact k_met ⟨s62, ⟨(congrArg (fun b => some (Value.bool b)) (by first | exact decide_eq_decide.2 ⟨fun h => ⟨c64, h⟩, fun h => h.2⟩ | exact (decide_eq_false (fun h => c64 h.1)).symm | (simp [c64]; done) | (simp [c64, i64] <;> omega))), trivial⟩, ⟨rfl, rfl, rfl, rfl, rfl, rfl, rfl, rfl, rfl, rfl, rfl, rfl, rfl, rfl, rfl, rfl, rfl, rfl, rfl, rfl, rfl, rfl, rfl, trivial⟩, rfl, hE63⟩
          ·
           rintro s65 wL ⟨rfl, hE63⟩
           have szs65 := hE63.size
           have hS := hS.trans0 hE63
           replace h34_0 := h34_0.up2 hE63
           replace h35_0 := h35_0.up2 hE63
           refine k_move rfl rfl ?_
           have hE66 := Step.r0 K0 s65
           refine k_cutl (X := St) 3 [(0, .bool false), (3, .int .i64 x6.1), (4, .int .i64 x7), (5, .int .i64 x8.1), (7, .int .i64 x9.2), (8, v25_0), (10, .int .i64 x12.1), (11, .int .i64 x13.1), (12, .int .i64 x14.1), (13, .int .i64 x15.1), (14, v34_0), (15, v35_0), (17, .int .i64 x19.1), (18, .int .i64 x20.1), (20, .int .i64 x22.2), (97, .int .i64 x6.1), (98, .bool (decide (x6.1 = 0))), (102, .bool (decide ((x6.1 = 0) ∧ (x7 = 1)))), (106, .bool (decide (((x6.1 = 0) ∧ (x7 = 1)) ∧ (x8.1 = 0)))), (110, .bool (decide ((((x6.1 = 0) ∧ (x7 = 1)) ∧ (x8.1 = 0)) ∧ (x9.2 = 12)))), (115, .bool (decide (((((x6.1 = 0) ∧ (x7 = 1)) ∧ (x8.1 = 0)) ∧ (x9.2 = 12)) ∧ (x11.1 = ([120, 121, 122, 117, 118] : List UInt8))))), (119, .bool (decide ((((((x6.1 = 0) ∧ (x7 = 1)) ∧ (x8.1 = 0)) ∧ (x9.2 = 12)) ∧ (x11.1 = ([120, 121, 122, 117, 118] : List UInt8))) ∧ (x12.1 = 3)))), (123, .bool (decide (((((((x6.1 = 0) ∧ (x7 = 1)) ∧ (x8.1 = 0)) ∧ (x9.2 = 12)) ∧ (x11.1 = ([120, 121, 122, 117, 118] : List UInt8))) ∧ (x12.1 = 3)) ∧ (x13.1 = 0)))), (127, .bool (decide ((((((((x6.1 = 0) ∧ (x7 = 1)) ∧ (x8.1 = 0)) ∧ (x9.2 = 12)) ∧ (x11.1 = ([120, 121, 122, 117, 118] : List UInt8))) ∧ (x12.1 = 3)) ∧ (x13.1 = 0)) ∧ (x14.1 = 0))))] (fun _ => [(131, .bool (decide (((((((((x6.1 = 0) ∧ (x7 = 1)) ∧ (x8.1 = 0)) ∧ (x9.2 = 12)) ∧ (x11.1 = ([120, 121, 122, 117, 118] : List UInt8))) ∧ (x12.1 = 3)) ∧ (x13.1 = 0)) ∧ (x14.1 = 0)) ∧ (x15.1 = 0))))]) (fun sl wL => sl.w = wL ∧ Step K0 s65 sl) ?_ ?_
           ·
            refine k_again 128 rfl ?_
            refine k_split (fun c67 => ?_) (fun c67 => ?_)
            ·
             refine k_yes rfl rfl ?_
             refine k_move rfl rfl ?_
             refine k_yes rfl rfl ?_
             refine k_eql rfl rfl rfl ?_
             refine k_pickT rfl rfl rfl rfl ?_
             exact k_met ⟨s65, ⟨(congrArg (fun b => some (Value.bool b)) (by first | exact decide_eq_decide.2 ⟨fun h => ⟨c67, h⟩, fun h => h.2⟩ | exact (decide_eq_false (fun h => c67 h.1)).symm | (simp [c67]; done) | (simp [c67, i64] <;> omega))), trivial⟩, ⟨rfl, rfl, rfl, rfl, rfl, rfl, rfl, rfl, rfl, rfl, rfl, rfl, rfl, rfl, rfl, rfl, rfl, rfl, rfl, rfl, rfl, rfl, rfl, rfl, trivial⟩, rfl, hE66⟩
            ·
             refine k_no rfl rfl rfl rfl ?_
             refine k_no rfl rfl rfl rfl ?_
             refine k_pickF rfl rfl rfl rfl ?_
             exact k_met ⟨s65, ⟨(congrArg (fun b => some (Value.bool b)) (by first | exact decide_eq_decide.2 ⟨fun h => ⟨c67, h⟩, fun h => h.2⟩ | exact (decide_eq_false (fun h => c67 h.1)).symm | (simp [c67]; done) | (simp [c67, i64] <;> omega))), trivial⟩, ⟨rfl, rfl, rfl, rfl, rfl, rfl, rfl, rfl, rfl, rfl, rfl, rfl, rfl, rfl, rfl, rfl, rfl, rfl, rfl, rfl, rfl, rfl, rfl, rfl, trivial⟩, rfl, hE66⟩
           ·
            rintro s68 wL ⟨rfl, hE66⟩
            have szs68 := hE66.size
            have hS := hS.trans0 hE66
            replace h34_0 := h34_0.up2 hE66
            replace h35_0 := h35_0.up2 hE66
            refine k_move rfl rfl ?_
            have hE69 := Step.r0 K0 s68
            refine k_cutl (X := St) 4 [(0, .bool false), (3, .int .i64 x6.1), (4, .int .i64 x7), (5, .int .i64 x8.1), (7, .int .i64 x9.2), (8, v25_0), (10, .int .i64 x12.1), (11, .int .i64 x13.1), (12, .int .i64 x14.1), (13, .int .i64 x15.1), (14, v34_0), (15, v35_0), (17, .int .i64 x19.1), (18, .int .i64 x20.1), (20, .int .i64 x22.2), (97, .int .i64 x6.1), (98, .bool (decide (x6.1 = 0))), (102, .bool (decide ((x6.1 = 0) ∧ (x7 = 1)))), (106, .bool (decide (((x6.1 = 0) ∧ (x7 = 1)) ∧ (x8.1 = 0)))), (110, .bool (decide ((((x6.1 = 0) ∧ (x7 = 1)) ∧ (x8.1 = 0)) ∧ (x9.2 = 12)))), (115, .bool (decide (((((x6.1 = 0) ∧ (x7 = 1)) ∧ (x8.1 = 0)) ∧ (x9.2 = 12)) ∧ (x11.1 = ([120, 121, 122, 117, 118] : List UInt8))))), (119, .bool (decide ((((((x6.1 = 0) ∧ (x7 = 1)) ∧ (x8.1 = 0)) ∧ (x9.2 = 12)) ∧ (x11.1 = ([120, 121, 122, 117, 118] : List UInt8))) ∧ (x12.1 = 3)))), (123, .bool (decide (((((((x6.1 = 0) ∧ (x7 = 1)) ∧ (x8.1 = 0)) ∧ (x9.2 = 12)) ∧ (x11.1 = ([120, 121, 122, 117, 118] : List UInt8))) ∧ (x12.1 = 3)) ∧ (x13.1 = 0)))), (127, .bool (decide ((((((((x6.1 = 0) ∧ (x7 = 1)) ∧ (x8.1 = 0)) ∧ (x9.2 = 12)) ∧ (x11.1 = ([120, 121, 122, 117, 118] : List UInt8))) ∧ (x12.1 = 3)) ∧ (x13.1 = 0)) ∧ (x14.1 = 0)))), (131, .bool (decide (((((((((x6.1 = 0) ∧ (x7 = 1)) ∧ (x8.1 = 0)) ∧ (x9.2 = 12)) ∧ (x11.1 = ([120, 121, 122, 117, 118] : List UInt8))) ∧ (x12.1 = 3)) ∧ (x13.1 = 0)) ∧ (x14.1 = 0)) ∧ (x15.1 = 0))))] (fun _ => [(136, .bool (decide ((((((((((x6.1 = 0) ∧ (x7 = 1)) ∧ (x8.1 = 0)) ∧ (x9.2 = 12)) ∧ (x11.1 = ([120, 121, 122, 117, 118] : List UInt8))) ∧ (x12.1 = 3)) ∧ (x13.1 = 0)) ∧ (x14.1 = 0)) ∧ (x15.1 = 0)) ∧ ((x16.length : Int) = 1))))]) (fun sl wL => sl.w = wL ∧ Step K0 s68 sl) ?_ ?_
            ·
             refine k_again 132 rfl ?_
             refine k_split (fun c70 => ?_) (fun c70 => ?_)
             ·
              refine k_yes rfl rfl ?_
              refine k_move rfl rfl ?_
              refine k_yes rfl rfl ?_
              refine k_len Tryd.underlying46 rfl (SL.of_R h34_0).hasLen rfl ?_
              refine k_as (v := .int .i64 (x16.length : Int)) (by simp only [List.length_map]) ?_
              refine k_yes rfl rfl ?_
              refine k_eql rfl rfl rfl ?_
              refine k_pickT rfl rfl rfl rfl ?_
              exact k_met ⟨s68, ⟨(congrArg (fun b => some (Value.bool b)) (by first | exact decide_eq_decide.2 ⟨fun h => ⟨c70, h⟩, fun h => h.2⟩ | exact (decide_eq_false (fun h => c70 h.1)).symm | (simp [c70]; done) | (simp [c70, i64] <;> omega))), trivial⟩, ⟨rfl, rfl, rfl, rfl, rfl, rfl, rfl, rfl, rfl, rfl, rfl, rfl, rfl, rfl, rfl, rfl, rfl, rfl, rfl, rfl, rfl, rfl, rfl, rfl, rfl, trivial⟩, rfl, hE69⟩
             ·
              refine k_no rfl rfl rfl rfl ?_
              refine k_no rfl rfl rfl rfl ?_
              refine k_no rfl rfl rfl rfl ?_
              refine k_pickF rfl rfl rfl rfl ?_
              exact k_met ⟨s68, ⟨(congrArg (fun b => some (Value.bool b)) (by first | exact decide_eq_decide.2 ⟨fun h => ⟨c70, h⟩, fun h => h.2⟩ | exact (decide_eq_false (fun h => c70 h.1)).symm | (simp [c70]; done) | (simp [c70, i64] <;> omega))), trivial⟩, ⟨rfl, rfl, rfl, rfl, rfl, rfl, rfl, rfl, rfl, rfl, rfl, rfl, rfl, rfl, rfl, rfl, rfl, rfl, rfl, rfl, rfl, rfl, rfl, rfl, rfl, trivial⟩, rfl, hE69⟩
            ·
             rintro s71 wL ⟨rfl, hE69⟩
             have szs71 := hE69.size
             have hS := hS.trans0 hE69
             replace h34_0 := h34_0.up2 hE69
             replace h35_0 := h35_0.up2 hE69
             refine k_move rfl rfl ?_
             obtain ⟨x23, hx23, h⟩ := ob h
             have hE72 := Step.r0 K0 s71
             refine k_cutl (X := St) 5 [(0, .bool false), (3, .int .i64 x6.1), (4, .int .i64 x7), (5, .int .i64 x8.1), (7, .int .i64 x9.2), (8, v25_0), (10, .int .i64 x12.1), (11, .int .i64 x13.1), (12, .int .i64 x14.1), (13, .int .i64 x15.1), (14, v34_0), (15, v35_0), (17, .int .i64 x19.1), (18, .int .i64 x20.1), (20, .int .i64 x22.2), (97, .int .i64 x6.1), (98, .bool (decide (x6.1 = 0))), (102, .bool (decide ((x6.1 = 0) ∧ (x7 = 1)))), (106, .bool (decide (((x6.1 = 0) ∧ (x7 = 1)) ∧ (x8.1 = 0)))), (110, .bool (decide ((((x6.1 = 0) ∧ (x7 = 1)) ∧ (x8.1 = 0)) ∧ (x9.2 = 12)))), (115, .bool (decide (((((x6.1 = 0) ∧ (x7 = 1)) ∧ (x8.1 = 0)) ∧ (x9.2 = 12)) ∧ (x11.1 = ([120, 121, 122, 117, 118] : List UInt8))))), (119, .bool (decide ((((((x6.1 = 0) ∧ (x7 = 1)) ∧ (x8.1 = 0)) ∧ (x9.2 = 12)) ∧ (x11.1 = ([120, 121, 122, 117, 118] : List UInt8))) ∧ (x12.1 = 3)))), (123, .bool (decide (((((((x6.1 = 0) ∧ (x7 = 1)) ∧ (x8.1 = 0)) ∧ (x9.2 = 12)) ∧ (x11.1 = ([120, 121, 122, 117, 118] : List UInt8))) ∧ (x12.1 = 3)) ∧ (x13.1 = 0)))), (127, .bool (decide ((((((((x6.1 = 0) ∧ (x7 = 1)) ∧ (x8.1 = 0)) ∧ (x9.2 = 12)) ∧ (x11.1 = ([120, 121, 122, 117, 118] : List UInt8))) ∧ (x12.1 = 3)) ∧ (x13.1 = 0)) ∧ (x14.1 = 0)))), (131, .bool (decide (((((((((x6.1 = 0) ∧ (x7 = 1)) ∧ (x8.1 = 0)) ∧ (x9.2 = 12)) ∧ (x11.1 = ([120, 121, 122, 117, 118] : List UInt8))) ∧ (x12.1 = 3)) ∧ (x13.1 = 0)) ∧ (x14.1 = 0)) ∧ (x15.1 = 0)))), (136, .bool (decide ((((((((((x6.1 = 0) ∧ (x7 = 1)) ∧ (x8.1 = 0)) ∧ (x9.2 = 12)) ∧ (x11.1 = ([120, 121, 122, 117, 118] : List UInt8))) ∧ (x12.1 = 3)) ∧ (x13.1 = 0)) ∧ (x14.1 = 0)) ∧ (x15.1 = 0)) ∧ ((x16.length : Int) = 1))))] (fun _ => [(142, .bool x23)]) (fun sl wL => sl.w = wL ∧ Step K0 s71 sl) ?_ ?_
             ·
              refine k_again 137 rfl ?_
              refine k_split (fun c73 => ?_) (fun c73 => ?_)
              ·
               have hx23 := itT hx23 c73
               refine k_yes rfl rfl ?_
               refine k_move rfl rfl ?_
               refine k_yes rfl rfl ?_
               obtain ⟨x24, hx24, hx23⟩ := ob hx23
               refine k_ixaddr Tryd.underlying46 size9 rfl rfl (SL.of_R h34_0) (geti_out hx24).1 (geti_map hx24) rfl ?_
               intro qx24 hqx24
               refine k_yes rfl rfl ?_
               refine k_load_val one9 rfl hqx24 rfl ?_
               refine k_yes rfl rfl ?_
               refine k_eql_str rfl rfl rfl ?_
               refine k_pickT rfl rfl rfl rfl ?_
               exact k_met ⟨s71, ⟨(congrArg (fun b => some (Value.bool b)) (Option.some.inj hx23)), trivial⟩, ⟨rfl, rfl, rfl, rfl, rfl, rfl, rfl, rfl, rfl, rfl, rfl, rfl, rfl, rfl, rfl, rfl, rfl, rfl, rfl, rfl, rfl, rfl, rfl, rfl, rfl, rfl, trivial⟩, rfl, hE72⟩
              ·
               have hx23 := itF hx23 c73
               refine k_no rfl rfl rfl rfl ?_
               refine k_no rfl rfl rfl rfl ?_
               refine k_no rfl rfl rfl rfl ?_
               refine k_no rfl rfl rfl rfl ?_
               refine k_pickF rfl rfl rfl rfl ?_
               exact k_met ⟨s71, ⟨(congrArg (fun b => some (Value.bool b)) (Option.some.inj hx23)), trivial⟩, ⟨rfl, rfl, rfl, rfl, rfl, rfl, rfl, rfl, rfl, rfl, rfl, rfl, rfl, rfl, rfl, rfl, rfl, rfl, rfl, rfl, rfl, rfl, rfl, rfl, rfl, rfl, trivial⟩, rfl, hE72⟩
             ·
              rintro s74 wL ⟨rfl, hE72⟩
              have szs74 := hE72.size
              have hS := hS.trans0 hE72
              replace h35_0 := h35_0.up2 hE72
              refine k_move rfl rfl ?_
              have hE75 := Step.r0 K0 s74
              refine k_cutl (X := St) 4 [(0, .bool false), (3, .int .i64 x6.1), (4, .int .i64 x7), (5, .int .i64 x8.1), (7, .int .i64 x9.2), (8, v25_0), (10, .int .i64 x12.1), (11, .int .i64 x13.1), (12, .int .i64 x14.1), (13, .int .i64 x15.1), (14, v34_0), (15, v35_0), (17, .int .i64 x19.1), (18, .int .i64 x20.1), (20, .int .i64 x22.2), (97, .int .i64 x6.1), (98, .bool (decide (x6.1 = 0))), (102, .bool (decide ((x6.1 = 0) ∧ (x7 = 1)))), (106, .bool (decide (((x6.1 = 0) ∧ (x7 = 1)) ∧ (x8.1 = 0)))), (110, .bool (decide ((((x6.1 = 0) ∧ (x7 = 1)) ∧ (x8.1 = 0)) ∧ (x9.2 = 12)))), (115, .bool (decide (((((x6.1 = 0) ∧ (x7 = 1)) ∧ (x8.1 = 0)) ∧ (x9.2 = 12)) ∧ (x11.1 = ([120, 121, 122, 117, 118] : List UInt8))))), (119, .bool (decide ((((((x6.1 = 0) ∧ (x7 = 1)) ∧ (x8.1 = 0)) ∧ (x9.2 = 12)) ∧ (x11.1 = ([120, 121, 122, 117, 118] : List UInt8))) ∧ (x12.1 = 3)))), (123, .bool (decide (((((((x6.1 = 0) ∧ (x7 = 1)) ∧ (x8.1 = 0)) ∧ (x9.2 = 12)) ∧ (x11.1 = ([120, 121, 122, 117, 118] : List UInt8))) ∧ (x12.1 = 3)) ∧ (x13.1 = 0)))), (127, .bool (decide ((((((((x6.1 = 0) ∧ (x7 = 1)) ∧ (x8.1 = 0)) ∧ (x9.2 = 12)) ∧ (x11.1 = ([120, 121, 122, 117, 118] : List UInt8))) ∧ (x12.1 = 3)) ∧ (x13.1 = 0)) ∧ (x14.1 = 0)))), (131, .bool (decide (((((((((x6.1 = 0) ∧ (x7 = 1)) ∧ (x8.1 = 0)) ∧ (x9.2 = 12)) ∧ (x11.1 = ([120, 121, 122, 117, 118] : List UInt8))) ∧ (x12.1 = 3)) ∧ (x13.1 = 0)) ∧ (x14.1 = 0)) ∧ (x15.1 = 0)))), (136, .bool (decide ((((((((((x6.1 = 0) ∧ (x7 = 1)) ∧ (x8.1 = 0)) ∧ (x9.2 = 12)) ∧ (x11.1 = ([120, 121, 122, 117, 118] : List UInt8))) ∧ (x12.1 = 3)) ∧ (x13.1 = 0)) ∧ (x14.1 = 0)) ∧ (x15.1 = 0)) ∧ ((x16.length : Int) = 1)))), (142, .bool x23)] (fun _ => [(147, .bool (decide ((x23 = true) ∧ (x17.1 = ([115, 105, 120, 115, 105, 120] : List UInt8)))))]) (fun sl wL => sl.w = wL ∧ Step K0 s74 sl) ?_ ?_
              ·
               refine k_again 143 rfl ?_
               refine k_splitb (fun c76 => ?_) (fun c76 => ?_)
               ·
                refine k_yes rfl rfl ?_
                refine k_move rfl rfl ?_
                refine k_yes rfl rfl ?_
                refine k_bts (m := x17.1) Tryd.underlying29 Tryd.underlying5 Tryd.underlying9 rfl (SL.of_R h35_0) rfl ?_
                refine k_yes rfl rfl ?_
                refine k_eql_str rfl rfl rfl ?_
                refine k_pickT rfl rfl rfl rfl ?_
                exact k_met ⟨s74, ⟨(congrArg (fun b => some (Value.bool b)) (by first | exact decide_eq_decide.2 ⟨fun h => ⟨c76, h⟩, fun h => h.2⟩ | exact (decide_eq_false (fun h => c76 h.1)).symm | (simp [c76]; done) | (simp [c76, i64] <;> omega))), trivial⟩, ⟨rfl, rfl, rfl, rfl, rfl, rfl, rfl, rfl, rfl, rfl, rfl, rfl, rfl, rfl, rfl, rfl, rfl, rfl, rfl, rfl, rfl, rfl, rfl, rfl, rfl, rfl, rfl, trivial⟩, rfl, hE75⟩
               ·
                refine k_no rfl rfl rfl rfl ?_
                refine k_no rfl rfl rfl rfl ?_
                refine k_no rfl rfl rfl rfl ?_
                refine k_pickF rfl rfl rfl rfl ?_
                exact k_met ⟨s74, ⟨(congrArg (fun b => some (Value.bool b)) (by first | exact decide_eq_decide.2 ⟨fun h => ⟨c76, h⟩, fun h => h.2⟩ | exact (decide_eq_false (fun h => c76 h.1)).symm | (simp [c76]; done) | (simp [c76, i64] <;> omega))), trivial⟩, ⟨rfl, rfl, rfl, rfl, rfl, rfl, rfl, rfl, rfl, rfl, rfl, rfl, rfl, rfl, rfl, rfl, rfl, rfl, rfl, rfl, rfl, rfl, rfl, rfl, rfl, rfl, rfl, trivial⟩, rfl, hE75⟩
              ·
               rintro s77 wL ⟨rfl, hE75⟩
               have szs77 := hE75.size
               have hS := hS.trans0 hE75
               refine k_move rfl rfl ?_
               have hE78 := Step.r0 K0 s77
               refine k_cutl (X := St) 3 [(0, .bool false), (3, .int .i64 x6.1), (4, .int .i64 x7), (5, .int .i64 x8.1), (7, .int .i64 x9.2), (8, v25_0), (10, .int .i64 x12.1), (11, .int .i64 x13.1), (12, .int .i64 x14.1), (13, .int .i64 x15.1), (14, v34_0), (15, v35_0), (17, .int .i64 x19.1), (18, .int .i64 x20.1), (20, .int .i64 x22.2), (97, .int .i64 x6.1), (98, .bool (decide (x6.1 = 0))), (102, .bool (decide ((x6.1 = 0) ∧ (x7 = 1)))), (106, .bool (decide (((x6.1 = 0) ∧ (x7 = 1)) ∧ (x8.1 = 0)))), (110, .bool (decide ((((x6.1 = 0) ∧ (x7 = 1)) ∧ (x8.1 = 0)) ∧ (x9.2 = 12)))), (115, .bool (decide (((((x6.1 = 0) ∧ (x7 = 1)) ∧ (x8.1 = 0)) ∧ (x9.2 = 12)) ∧ (x11.1 = ([120, 121, 122, 117, 118] : List UInt8))))), (119, .bool (decide ((((((x6.1 = 0) ∧ (x7 = 1)) ∧ (x8.1 = 0)) ∧ (x9.2 = 12)) ∧ (x11.1 = ([120, 121, 122, 117, 118] : List UInt8))) ∧ (x12.1 = 3)))), (123, .bool (decide (((((((x6.1 = 0) ∧ (x7 = 1)) ∧ (x8.1 = 0)) ∧ (x9.2 = 12)) ∧ (x11.1 = ([120, 121, 122, 117, 118] : List UInt8))) ∧ (x12.1 = 3)) ∧ (x13.1 = 0)))), (127, .bool (decide ((((((((x6.1 = 0) ∧ (x7 = 1)) ∧ (x8.1 = 0)) ∧ (x9.2 = 12)) ∧ (x11.1 = ([120, 121, 122, 117, 118] : List UInt8))) ∧ (x12.1 = 3)) ∧ (x13.1 = 0)) ∧ (x14.1 = 0)))), (131, .bool (decide (((((((((x6.1 = 0) ∧ (x7 = 1)) ∧ (x8.1 = 0)) ∧ (x9.2 = 12)) ∧ (x11.1 = ([120, 121, 122, 117, 118] : List UInt8))) ∧ (x12.1 = 3)) ∧ (x13.1 = 0)) ∧ (x14.1 = 0)) ∧ (x15.1 = 0)))), (136, .bool (decide ((((((((((x6.1 = 0) ∧ (x7 = 1)) ∧ (x8.1 = 0)) ∧ (x9.2 = 12)) ∧ (x11.1 = ([120, 121, 122, 117, 118] : List UInt8))) ∧ (x12.1 = 3)) ∧ (x13.1 = 0)) ∧ (x14.1 = 0)) ∧ (x15.1 = 0)) ∧ ((x16.length : Int) = 1)))), (142, .bool x23), (147, .bool (decide ((x23 = true) ∧ (x17.1 = ([115, 105, 120, 115, 105, 120] : List UInt8)))))] (fun _ => [(151, .bool (decide (((x23 = true) ∧ (x17.1 = ([115, 105, 120, 115, 105, 120] : List UInt8))) ∧ (x19.1 = 0))))]) (fun sl wL => sl.w = wL ∧ Step K0 s77 sl) ?_ ?_
               ·
                refine k_again 148 rfl ?_
                refine k_split (fun c79 => ?_) (fun c79 => ?_)
                ·
                 refine k_yes rfl rfl ?_
                 refine k_move rfl rfl ?_
                 refine k_yes rfl rfl ?_
                 refine k_eql rfl rfl rfl ?_
                 refine k_pickT rfl rfl rfl rfl ?_
                 exact k_met ⟨s77, ⟨(congrArg (fun b => some (Value.bool b)) (by first | exact decide_eq_decide.2 ⟨fun h => ⟨c79, h⟩, fun h => h.2⟩ | exact (decide_eq_false (fun h => c79 h.1)).symm | (simp [c79]; done) | (simp [c79, i64] <;> omega))), trivial⟩, ⟨rfl, rfl, rfl, rfl, rfl, rfl, rfl, rfl, rfl, rfl, rfl, rfl, rfl, rfl, rfl, rfl, rfl, rfl, rfl, rfl, rfl, rfl, rfl, rfl, rfl, rfl, rfl, rfl, trivial⟩, rfl, hE78⟩
                ·
                 refine k_no rfl rfl rfl rfl ?_
                 refine k_no rfl rfl rfl rfl ?_
                 refine k_pickF rfl rfl rfl rfl ?_
                 exact k_met ⟨s77, ⟨(congrArg (fun b => some (Value.bool b)) (by first | exact decide_eq_decide.2 ⟨fun h => ⟨c79, h⟩, fun h => h.2⟩ | exact (decide_eq_false (fun h => c79 h.1)).symm | (simp [c79]; done) | (simp [c79, i64] <;> omega))), trivial⟩, ⟨rfl, rfl, rfl, rfl, rfl, rfl, rfl, rfl, rfl, rfl, rfl, rfl, rfl, rfl, rfl, rfl, rfl, rfl, rfl, rfl, rfl, rfl, rfl, rfl, rfl, rfl, rfl, rfl, trivial⟩, rfl, hE78⟩
               ·
                rintro s80 wL ⟨rfl, hE78⟩
                have szs80 := hE78.size
                have hS := hS.trans0 hE78
                refine k_move rfl rfl ?_
                have hE81 := Step.r0 K0 s80
                refine k_cutl (X := St) 3 [(0, .bool false), (3, .int .i64 x6.1), (4, .int .i64 x7), (5, .int .i64 x8.1), (7, .int .i64 x9.2), (8, v25_0), (10, .int .i64 x12.1), (11, .int .i64 x13.1), (12, .int .i64 x14.1), (13, .int .i64 x15.1), (14, v34_0), (15, v35_0), (17, .int .i64 x19.1), (18, .int .i64 x20.1), (20, .int .i64 x22.2), (97, .int .i64 x6.1), (98, .bool (decide (x6.1 = 0))), (102, .bool (decide ((x6.1 = 0) ∧ (x7 = 1)))), (106, .bool (decide (((x6.1 = 0) ∧ (x7 = 1)) ∧ (x8.1 = 0)))), (110, .bool (decide ((((x6.1 = 0) ∧ (x7 = 1)) ∧ (x8.1 = 0)) ∧ (x9.2 = 12)))), (115, .bool (decide (((((x6.1 = 0) ∧ (x7 = 1)) ∧ (x8.1 = 0)) ∧ (x9.2 = 12)) ∧ (x11.1 = ([120, 121, 122, 117, 118] : List UInt8))))), (119, .bool (decide ((((((x6.1 = 0) ∧ (x7 = 1)) ∧ (x8.1 = 0)) ∧ (x9.2 = 12)) ∧ (x11.1 = ([120, 121, 122, 117, 118] : List UInt8))) ∧ (x12.1 = 3)))), (123, .bool (decide (((((((x6.1 = 0) ∧ (x7 = 1)) ∧ (x8.1 = 0)) ∧ (x9.2 = 12)) ∧ (x11.1 = ([120, 121, 122, 117, 118] : List UInt8))) ∧ (x12.1 = 3)) ∧ (x13.1 = 0)))), (127, .bool (decide ((((((((x6.1 = 0) ∧ (x7 = 1)) ∧ (x8.1 = 0)) ∧ (x9.2 = 12)) ∧ (x11.1 = ([120, 121, 122, 117, 118] : List UInt8))) ∧ (x12.1 = 3)) ∧ (x13.1 = 0)) ∧ (x14.1 = 0)))), (131, .bool (decide (((((((((x6.1 = 0) ∧ (x7 = 1)) ∧ (x8.1 = 0)) ∧ (x9.2 = 12)) ∧ (x11.1 = ([120, 121, 122, 117, 118] : List UInt8))) ∧ (x12.1 = 3)) ∧ (x13.1 = 0)) ∧ (x14.1 = 0)) ∧ (x15.1 = 0)))), (136, .bool (decide ((((((((((x6.1 = 0) ∧ (x7 = 1)) ∧ (x8.1 = 0)) ∧ (x9.2 = 12)) ∧ (x11.1 = ([120, 121, 122, 117, 118] : List UInt8))) ∧ (x12.1 = 3)) ∧ (x13.1 = 0)) ∧ (x14.1 = 0)) ∧ (x15.1 = 0)) ∧ ((x16.length : Int) = 1)))), (142, .bool x23), (147, .bool (decide ((x23 = true) ∧ (x17.1 = ([115, 105, 120, 115, 105, 120] : List UInt8))))), (151, .bool (decide (((x23 = true) ∧ (x17.1 = ([115, 105, 120, 115, 105, 120] : List UInt8))) ∧ (x19.1 = 0))))] (fun _ => [(155, .bool (decide ((((x23 = true) ∧ (x17.1 = ([115, 105, 120, 115, 105, 120] : List UInt8))) ∧ (x19.1 = 0)) ∧ (x20.1 = 12))))]) (fun sl wL => sl.w = wL ∧ Step K0 s80 sl) ?_ ?_
                ·
                 refine k_again 152 rfl ?_
                 refine k_split (fun c82 => ?_) (fun c82 => ?_)
                 ·
                  refine k_yes rfl rfl ?_
                  refine k_move rfl rfl ?_
                  refine k_yes rfl rfl ?_
                  refine k_eql rfl rfl rfl ?_
                  refine k_pickT rfl rfl rfl rfl ?_
                  exact k_met ⟨s80, ⟨(congrArg (fun b => some (Value.bool b)) (by first | exact decide_eq_decide.2 ⟨fun h => ⟨c82, h⟩, fun h => h.2⟩ | exact (decide_eq_false (fun h => c82 h.1)).symm | (simp [c82]; done) | (simp [c82, i64] <;> omega))), trivial⟩, ⟨rfl, rfl, rfl, rfl, rfl, rfl, rfl, rfl, rfl, rfl, rfl, rfl, rfl, rfl, rfl, rfl, rfl, rfl, rfl, rfl, rfl, rfl, rfl, rfl, rfl, rfl, rfl, rfl, rfl, trivial⟩, rfl, hE81⟩
                 ·
                  refine k_no rfl rfl rfl rfl ?_
                  refine k_no rfl rfl rfl rfl ?_
                  refine k_pickF rfl rfl rfl rfl ?_
                  exact k_met ⟨s80, ⟨(congrArg (fun b => some (Value.bool b)) (by first | exact decide_eq_decide.2 ⟨fun h => ⟨c82, h⟩, fun h => h.2⟩ | exact (decide_eq_false (fun h => c82 h.1)).symm | (simp [c82]; done) | (simp [c82, i64] <;> omega))), trivial⟩, ⟨rfl, rfl, rfl, rfl, rfl, rfl, rfl, rfl, rfl, rfl, rfl, rfl, rfl, rfl, rfl, rfl, rfl, rfl, rfl, rfl, rfl, rfl, rfl, rfl, rfl, rfl, rfl, rfl, rfl, trivial⟩, rfl, hE81⟩
                ·
                 rintro s83 wL ⟨rfl, hE81⟩
                 have szs83 := hE81.size
                 have hS := hS.trans0 hE81
                 refine k_move rfl rfl ?_
                 have hE84 := Step.r0 K0 s83
                 refine k_cutl (X := St) 3 [(0, .bool false), (3, .int .i64 x6.1), (4, .int .i64 x7), (5, .int .i64 x8.1), (7, .int .i64 x9.2), (8, v25_0), (10, .int .i64 x12.1), (11, .int .i64 x13.1), (12, .int .i64 x14.1), (13, .int .i64 x15.1), (14, v34_0), (15, v35_0), (17, .int .i64 x19.1), (18, .int .i64 x20.1), (20, .int .i64 x22.2), (97, .int .i64 x6.1), (98, .bool (decide (x6.1 = 0))), (102, .bool (decide ((x6.1 = 0) ∧ (x7 = 1)))), (106, .bool (decide (((x6.1 = 0) ∧ (x7 = 1)) ∧ (x8.1 = 0)))), (110, .bool (decide ((((x6.1 = 0) ∧ (x7 = 1)) ∧ (x8.1 = 0)) ∧ (x9.2 = 12)))), (115, .bool (decide (((((x6.1 = 0) ∧ (x7 = 1)) ∧ (x8.1 = 0)) ∧ (x9.2 = 12)) ∧ (x11.1 = ([120, 121, 122, 117, 118] : List UInt8))))), (119, .bool (decide ((((((x6.1 = 0) ∧ (x7 = 1)) ∧ (x8.1 = 0)) ∧ (x9.2 = 12)) ∧ (x11.1 = ([120, 121, 122, 117, 118] : List UInt8))) ∧ (x12.1 = 3)))), (123, .bool (decide (((((((x6.1 = 0) ∧ (x7 = 1)) ∧ (x8.1 = 0)) ∧ (x9.2 = 12)) ∧ (x11.1 = ([120, 121, 122, 117, 118] : List UInt8))) ∧ (x12.1 = 3)) ∧ (x13.1 = 0)))), (127, .bool (decide ((((((((x6.1 = 0) ∧ (x7 = 1)) ∧ (x8.1 = 0)) ∧ (x9.2 = 12)) ∧ (x11.1 = ([120, 121, 122, 117, 118] : List UInt8))) ∧ (x12.1 = 3)) ∧ (x13.1 = 0)) ∧ (x14.1 = 0)))), (131, .bool (decide (((((((((x6.1 = 0) ∧ (x7 = 1)) ∧ (x8.1 = 0)) ∧ (x9.2 = 12)) ∧ (x11.1 = ([120, 121, 122, 117, 118] : List UInt8))) ∧ (x12.1 = 3)) ∧ (x13.1 = 0)) ∧ (x14.1 = 0)) ∧ (x15.1 = 0)))), (136, .bool (decide ((((((((((x6.1 = 0) ∧ (x7 = 1)) ∧ (x8.1 = 0)) ∧ (x9.2 = 12)) ∧ (x11.1 = ([120, 121, 122, 117, 118] : List UInt8))) ∧ (x12.1 = 3)) ∧ (x13.1 = 0)) ∧ (x14.1 = 0)) ∧ (x15.1 = 0)) ∧ ((x16.length : Int) = 1)))), (142, .bool x23), (147, .bool (decide ((x23 = true) ∧ (x17.1 = ([115, 105, 120, 115, 105, 120] : List UInt8))))), (151, .bool (decide (((x23 = true) ∧ (x17.1 = ([115, 105, 120, 115, 105, 120] : List UInt8))) ∧ (x19.1 = 0)))), (155, .bool (decide ((((x23 = true) ∧ (x17.1 = ([115, 105, 120, 115, 105, 120] : List UInt8))) ∧ (x19.1 = 0)) ∧ (x20.1 = 12))))] (fun _ => [(159, .bool (decide (((((x23 = true) ∧ (x17.1 = ([115, 105, 120, 115, 105, 120] : List UInt8))) ∧ (x19.1 = 0)) ∧ (x20.1 = 12)) ∧ (x22.2 = 4))))]) (fun sl wL => sl.w = wL ∧ Step K0 s83 sl) ?_ ?_
                 ·
                  refine k_again 156 rfl ?_
                  refine k_split (fun c85 => ?_) (fun c85 => ?_)
                  ·
                   refine k_yes rfl rfl ?_
                   refine k_move rfl rfl ?_
                   refine k_yes rfl rfl ?_
                   refine k_eql rfl rfl rfl ?_
                   refine k_pickT rfl rfl rfl rfl ?_
                   exact k_met ⟨s83, ⟨(congrArg (fun b => some (Value.bool b)) (by first | exact decide_eq_decide.2 ⟨fun h => ⟨c85, h⟩, fun h => h.2⟩ | exact (decide_eq_false (fun h => c85 h.1)).symm | (simp [c85]; done) | (simp [c85, i64] <;> omega))), trivial⟩, ⟨rfl, rfl, rfl, rfl, rfl, rfl, rfl, rfl, rfl, rfl, rfl, rfl, rfl, rfl, rfl, rfl, rfl, rfl, rfl, rfl, rfl, rfl, rfl, rfl, rfl, rfl, rfl, rfl, rfl, rfl, trivial⟩, rfl, hE84⟩
                  ·
                   refine k_no rfl rfl rfl rfl ?_
                   refine k_no rfl rfl rfl rfl ?_
                   refine k_pickF rfl rfl rfl rfl ?_
                   exact k_met ⟨s83, ⟨(congrArg (fun b => some (Value.bool b)) (by first | exact decide_eq_decide.2 ⟨fun h => ⟨c85, h⟩, fun h => h.2⟩ | exact (decide_eq_false (fun h => c85 h.1)).symm | (simp [c85]; done) | (simp [c85, i64] <;> omega))), trivial⟩, ⟨rfl, rfl, rfl, rfl, rfl, rfl, rfl, rfl, rfl, rfl, rfl, rfl, rfl, rfl, rfl, rfl, rfl, rfl, rfl, rfl, rfl, rfl, rfl, rfl, rfl, rfl, rfl, rfl, rfl, rfl, trivial⟩, rfl, hE84⟩
                 ·
                  rintro s86 wL ⟨rfl, hE84⟩
                  have szs86 := hE84.size
                  have hS := hS.trans0 hE84
                  refine k_assign rfl rfl ?_
                  refine k_nil ?_
                  refine k_keep [(0, _)] ⟨rfl, trivial⟩ ?_
                  refine k_ret ?_
                  obtain rfl := Option.some.inj h
                  refine ⟨_, rfl, Ret.mk hS ?_⟩
                  exact rfl

set_option maxHeartbeats 1000000 in
set_option maxRecDepth 100000 in
theorem slices_Clone_byte_byte_own_w {s : St} {l0 : Lab} {v0 : Value} {a0 : (List UInt8)} {r : (List UInt8)} (hp0 : SL s l0 v0 1 (a0.map bD)) (h : slices_Clone_byte_byte a0 = some r) : Calls Tryd.prog 55 #[v0] s.w (Ret s K0 (fun s1 v => ∃ (u0 : Value), ∃ (lu0 : Lab), v = u0 ∧ (s.n < lu0.o ∧ lu0.c = 0) ∧ Own s1 lu0 5 1 u0 (r.map bD))) := by
 unfold slices_Clone_byte_byte at h
 obtain ⟨lf0, lf0le, lf0ne, hp0⟩ := hp0.fix
 have hS := Step.r0 K0 s
 refine k_fn (rs := [2]) (args := [v0]) Tryd.func55 rfl rfl rfl rfl ?_
 refine k_seq ?_
 refine k_region ?_
 refine k_assign rfl rfl ?_
 refine k_nil ?_
 refine k_seq ?_
 refine k_seq ?_
 refine k_region ?_
 refine k_move rfl rfl ?_
 refine k_eql_snilv Tryd.underlying29 rfl rfl hp0 rfl ?_
 refine k_nil ?_
 refine k_keep [(0, _), (2, _), (4, _)] ⟨rfl, rfl, rfl, trivial⟩ ?_
 refine k_cond rfl (fun c1 => ?_) (fun c1 => ?_)
 ·
  have hz4 := SL.nilS_nil hp0 c1
  obtain rfl : a0 = [] := by simpa using hz4
  replace h : some ([]) = some r := by simpa [app] using h
  refine k_seq ?_
  refine k_region ?_
  refine k_assign rfl rfl ?_
  refine k_nil ?_
  refine k_keep [(0, _), (2, _)] ⟨rfl, rfl, trivial⟩ ?_
  refine k_ret ?_
  obtain rfl := Option.some.inj h
  refine ⟨_, rfl, Ret.mk hS ?_⟩
  exact ⟨_, ⟨s.n + 1, 0⟩, rfl, ⟨by show s.n < s.n + 1; omega, rfl⟩, Own.nil (by simp) (Nat.le_refl _)⟩
 ·
  refine k_skip ?_
  refine k_seq ?_
  refine k_region ?_
  refine k_bslice2 (ds := ([] : List UInt8).map bD) slc29 rfl RVs.nil (by rfl) (by rfl) rfl rfl ?_
  intro s2 v2 b2 st2 ge2 bl2 h2
  have szs2 := st2.size
  have hS := hS.trans0 st2
  replace hp0 := hp0.up2 st2
  have lt2 := Own.le1 h2
  refine k_move rfl rfl ?_
  obtain ⟨x1, hx1, h⟩ := ob h
  refine k_append (es := a0.map bD) elem29 rfl rfl h2 hp0 (by have := (app_out hx1).1; simp only [List.length_map] at *; omega) (by have := (app_out hx1).1; simp only [List.length_map] at *; omega) rfl ?_
  intro s3 v3 st3 h3
  rw [← List.map_append, ← (app_out hx1).2] at h3
  have szs3 := st3.size
  have hS := hS.c0 st3
  refine k_assign rfl rfl ?_
  refine k_nil ?_
  refine k_keep [(2, _)] ⟨rfl, trivial⟩ ?_
  refine k_ret ?_
  obtain rfl := Option.some.inj h
  refine ⟨_, rfl, Ret.mk hS ?_⟩
  exact ⟨_, ⟨b2 + 1, 0⟩, rfl, ⟨by (try dsimp only); omega, rfl⟩, h3⟩

set_option maxHeartbeats 1000000 in
set_option maxRecDepth 100000 in
theorem disk_Disk_Read_own_w {s : St} {k0 : Nat} {p0 : Value} {a0 : DiskDisk} {a1 : (List UInt8)} {r : ((List UInt8) × Int)} (ho0 : ODiskDisk s k0 p0 a0) (h : disk_Disk_Read a0 a1 = some r) : Calls Tryd.prog 27 #[p0, S a1] s.w (Ret s K0 (fun s1 v => ∃ (u0 : Value), ∃ (lu0 : Lab), v = .tuple #[u0, .int .i64 r.2] ∧ (s.n < lu0.o ∧ lu0.c = 0) ∧ Own s1 lu0 5 1 u0 (r.1.map bD))) := by
 unfold disk_Disk_Read at h
 have le0 := ho0.le
 have ne0 := ho0.ne
 have hS := Step.r0 K0 s
 refine k_fn (rs := [4, 5]) (args := [p0, S a1]) Tryd.func27 rfl rfl rfl rfl ?_
 refine k_seq ?_
 refine k_region ?_
 refine k_assign rfl rfl ?_
 refine k_assign rfl rfl ?_
 refine k_nil ?_
 refine k_seq ?_
 refine k_seq ?_
 refine k_region ?_
 refine k_move rfl rfl ?_
 refine k_move rfl rfl ?_
 obtain ⟨x1, hx1, h⟩ := ob h
 refine k_call cal54 rfl (disk_Disk_there_nl_w  ho0 hx1) rfl ?_
 rintro s1 vr1 st1 rfl
 have szs1 := st1.size
 have hS := hS.trans0 st1
 replace ho0 := ho0.up2 st1
 refine k_assign rfl rfl ?_
 refine k_nil ?_
 refine k_keep [(0, _), (1, _), (4, _), (5, _), (6, _)] ⟨rfl, rfl, rfl, rfl, rfl, trivial⟩ ?_
 refine k_seq ?_
 refine k_region ?_
 refine k_move rfl rfl ?_
 refine k_neq rfl rfl rfl ?_
 refine k_nil ?_
 refine k_keep [(0, _), (1, _), (4, _), (5, _), (6, _), (11, _)] ⟨rfl, rfl, rfl, rfl, rfl, rfl, trivial⟩ ?_
 refine k_cond_dec rfl (fun c2 => ?_) (fun c2 => ?_)
 ·
  have h := itT h c2
  refine k_seq ?_
  refine k_region ?_
  refine k_move rfl rfl ?_
  refine k_assign rfl rfl ?_
  refine k_assign rfl rfl ?_
  refine k_nil ?_
  refine k_keep [(0, _), (1, _), (4, _), (5, _)] ⟨rfl, rfl, rfl, rfl, trivial⟩ ?_
  refine k_ret ?_
  obtain rfl := Option.some.inj h
  refine ⟨_, rfl, Ret.mk hS ?_⟩
  exact ⟨_, ⟨s1.n + 1, 0⟩, rfl, ⟨by show s.n < s1.n + 1; omega, rfl⟩, Own.nil (by simp) (Nat.le_refl _)⟩
 ·
  have h := itF h c2
  refine k_skip ?_
  refine k_seq ?_
  refine k_region ?_
  refine k_move rfl rfl ?_
  obtain ⟨x2, hx2, h⟩ := ob h
  refine k_call cal37 rfl (disk_Disk_seen_w  ho0 hx2) rfl ?_
  rintro s3 v3_0 st3 ⟨_, rfl, h3_0⟩
  have szs3 := st3.size
  have hS := hS.trans0 st3
  refine k_move rfl rfl ?_
  obtain ⟨x3, hx3, h⟩ := ob h
  refine k_call cal56 rfl (disk_picture_bytes_w  (SL.of_R h3_0) hx3) rfl ?_
  rintro s4 v4_0 st4 ⟨_, rfl, h4_0⟩
  have szs4 := st4.size
  have hS := hS.trans0 st4
  obtain ⟨x4, hx4, h⟩ := ob h
  refine k_call cal55 rfl (slices_Clone_byte_byte_own_w  (SL.of_R h4_0) hx4) rfl ?_
  rintro s5 v5_0 st5 ⟨_, l5_0, rfl, hl5_0, h5_0⟩
  have szs5 := st5.size
  have hS := hS.trans0 st5
  obtain ⟨l5_0, hl5_0, h5_0⟩ := Own.anew 2050 h5_0 hl5_0 szs5
  have lt5_0 := Own.le1 h5_0
  refine k_assign rfl rfl ?_
  refine k_assign rfl rfl ?_
  refine k_nil ?_
  refine k_keep [(4, _), (5, _)] ⟨rfl, rfl, trivial⟩ ?_
  refine k_ret ?_
  obtain ⟨s6, e6, st6, h5_0⟩ := h5_0.zero
  rw [← e6]
  have szs6 := st6.size
  have hS := hS.c0 st6
  obtain rfl := Option.some.inj h
  refine ⟨_, rfl, Ret.mk hS ?_⟩
  exact ⟨_, ⟨l5_0.o, 0⟩, rfl, ⟨by (try dsimp only); omega, rfl⟩, h5_0⟩

set_option maxHeartbeats 1000000 in
set_option maxRecDepth 100000 in
theorem law05_call_w {s : St} {k0 : Nat} {p0 : Value} {a0 : DiskDisk} {l1 : Lab} {v1 : Value} {a1 : Law05Call} {r : (Int × DiskDisk)} (ho0 : ODiskDisk s k0 p0 a0) (hp1 : SL s l1 v1 1 (a1.Bytes.map bD)) (hl1_k0 : l1.o ≠ k0) (h : law05_call a0 a1 = some r) : Calls Tryd.prog 15 #[p0, .agg #[.int .i64 a1.Do, S a1.A, S a1.B, v1, .int .i64 a1.K, .int .i64 a1.N, .int .i64 a1.M]] s.w (Ret s (KO k0) (fun s1 v => v = .int .i64 r.1 ∧ ODiskDisk s1 k0 p0 r.2)) := by
 unfold law05_call at h
 have le0 := ho0.le
 have ne0 := ho0.ne
 obtain ⟨lf1, lf1le, lf1ne, hp1⟩ := hp1.fix
 have lfn1_k0 := lf1ne k0 hl1_k0 (by omega)
 have hS := Step.r0 (KO k0) s
 refine k_fn (rs := [4]) (args := [p0, .agg #[.int .i64 a1.Do, S a1.A, S a1.B, v1, .int .i64 a1.K, .int .i64 a1.N, .int .i64 a1.M]]) Tryd.func15 rfl rfl rfl rfl ?_
 refine k_seq ?_
 refine k_region ?_
 refine k_box rfl rfl ?_
 intro s1 b1 st1 h1 ge1
 have szs1 := st1.size
 have hS := hS.trans0 st1
 replace hp1 := hp1.up2 st1
 replace ho0 := ho0.up2 st1
 have lt1 := h1.lt
 refine k_assign rfl rfl ?_
 refine k_nil ?_
 refine k_keep [(0, _), (3, _), (4, _)] ⟨rfl, rfl, rfl, trivial⟩ ?_
 refine k_seq ?_
 refine k_seq ?_
 refine k_region ?_
 refine k_field_addr fld31_0 rfl rfl ?_
 refine k_load_blk one3 rfl h1 rfl rfl ?_
 refine k_nil ?_
 refine k_keep [(0, _), (3, _), (4, _), (9, _)] ⟨rfl, rfl, rfl, rfl, trivial⟩ ?_
 refine k_block ?_
 refine k_seq ?_
 refine k_region ?_
 refine k_eql rfl rfl rfl ?_
 refine k_assign rfl rfl ?_
 refine k_nil ?_
 refine k_keep [(0, _), (3, _), (4, _), (9, _), (10, _)] ⟨rfl, rfl, rfl, rfl, rfl, trivial⟩ ?_
 refine k_cond_dec rfl (fun c2 => ?_) (fun c2 => ?_)
 ·
  have h := itT h c2
  refine k_seq ?_
  refine k_region ?_
  refine k_move rfl rfl ?_
  refine k_field_addr fld31_1 rfl rfl ?_
  refine k_load_blk one9 rfl h1 rfl rfl ?_
  refine k_field_addr fld31_3 rfl rfl ?_
  refine k_load_blk one29 rfl h1 rfl rfl ?_
  obtain ⟨x1, hx1, h⟩ := ob h
  refine k_call cal31 rfl (disk_Disk_Append_w  ho0 hp1 (by first | assumption | omega | (simp <;> omega)) hx1) rfl ?_
  rintro s3 vr3 st3 ⟨rfl, ho0⟩
  have szs3 := st3.size
  have hS := hS.c0 st3
  refine k_assign rfl rfl ?_
  refine k_nil ?_
  refine k_keep [(0, _), (3, _), (4, _)] ⟨rfl, rfl, rfl, trivial⟩ ?_
  refine k_ret ?_
  obtain rfl := Option.some.inj h
  refine ⟨_, rfl, Ret.mk hS ?_⟩
  exact ⟨rfl, ho0⟩
 ·
  have h := itF h c2
  refine k_seq ?_
  refine k_region ?_
  refine k_eql rfl rfl rfl ?_
  refine k_assign rfl rfl ?_
  refine k_nil ?_
  refine k_keep [(0, _), (3, _), (4, _), (9, _), (18, _)] ⟨rfl, rfl, rfl, rfl, rfl, trivial⟩ ?_
  refine k_cond_dec rfl (fun c4 => ?_) (fun c4 => ?_)
  ·
   have h := itT h c4
   refine k_seq ?_
   refine k_region ?_
   refine k_move rfl rfl ?_
   refine k_field_addr fld31_1 rfl rfl ?_
   refine k_load_blk one9 rfl h1 rfl rfl ?_
   refine k_field_addr fld31_3 rfl rfl ?_
   refine k_load_blk one29 rfl h1 rfl rfl ?_
   obtain ⟨x2, hx2, h⟩ := ob h
   refine k_call cal32 rfl (disk_Disk_Put_w  ho0 hp1 (by first | assumption | omega | (simp <;> omega)) hx2) rfl ?_
   rintro s5 vr5 st5 ⟨rfl, ho0⟩
   have szs5 := st5.size
   have hS := hS.c0 st5
   refine k_assign rfl rfl ?_
   refine k_nil ?_
   refine k_keep [(0, _), (3, _), (4, _)] ⟨rfl, rfl, rfl, trivial⟩ ?_
   refine k_ret ?_
   obtain rfl := Option.some.inj h
   refine ⟨_, rfl, Ret.mk hS ?_⟩
   exact ⟨rfl, ho0⟩
  ·
   have h := itF h c4
   refine k_seq ?_
   refine k_region ?_
   refine k_eql rfl rfl rfl ?_
   refine k_assign rfl rfl ?_
   refine k_nil ?_
   refine k_keep [(0, _), (3, _), (4, _), (9, _), (26, _)] ⟨rfl, rfl, rfl, rfl, rfl, trivial⟩ ?_
   refine k_cond_dec rfl (fun c6 => ?_) (fun c6 => ?_)
   ·
    have h := itT h c6
    refine k_seq ?_
    refine k_region ?_
    refine k_move rfl rfl ?_
    refine k_field_addr fld31_1 rfl rfl ?_
    refine k_load_blk one9 rfl h1 rfl rfl ?_
    refine k_field_addr fld31_2 rfl rfl ?_
    refine k_load_blk one9 rfl h1 rfl rfl ?_
    obtain ⟨x3, hx3, h⟩ := ob h
    refine k_call cal29 rfl (disk_Disk_Rename_w  ho0 hx3) rfl ?_
    rintro s7 vr7 st7 ⟨rfl, ho0⟩
    have szs7 := st7.size
    have hS := hS.c0 st7
    refine k_assign rfl rfl ?_
    refine k_nil ?_
    refine k_keep [(0, _), (3, _), (4, _)] ⟨rfl, rfl, rfl, trivial⟩ ?_
    refine k_ret ?_
    obtain rfl := Option.some.inj h
    refine ⟨_, rfl, Ret.mk hS ?_⟩
    exact ⟨rfl, ho0⟩
   ·
    have h := itF h c6
    refine k_seq ?_
    refine k_region ?_
    refine k_eql rfl rfl rfl ?_
    refine k_assign rfl rfl ?_
    refine k_nil ?_
    refine k_keep [(0, _), (3, _), (4, _), (9, _), (34, _)] ⟨rfl, rfl, rfl, rfl, rfl, trivial⟩ ?_
    refine k_cond_dec rfl (fun c8 => ?_) (fun c8 => ?_)
    ·
     have h := itT h c8
     refine k_seq ?_
     refine k_region ?_
     refine k_move rfl rfl ?_
     refine k_field_addr fld31_1 rfl rfl ?_
     refine k_load_blk one9 rfl h1 rfl rfl ?_
     obtain ⟨x4, hx4, h⟩ := ob h
     refine k_call cal34 rfl (disk_Disk_Remove_w  ho0 hx4) rfl ?_
     rintro s9 vr9 st9 ⟨rfl, ho0⟩
     have szs9 := st9.size
     have hS := hS.c0 st9
     refine k_assign rfl rfl ?_
     refine k_nil ?_
     refine k_keep [(0, _), (3, _), (4, _)] ⟨rfl, rfl, rfl, trivial⟩ ?_
     refine k_ret ?_
     obtain rfl := Option.some.inj h
     refine ⟨_, rfl, Ret.mk hS ?_⟩
     exact ⟨rfl, ho0⟩
    ·
     have h := itF h c8
     refine k_seq ?_
     refine k_region ?_
     refine k_eql rfl rfl rfl ?_
     refine k_assign rfl rfl ?_
     refine k_nil ?_
     refine k_keep [(0, _), (3, _), (4, _), (9, _), (40, _)] ⟨rfl, rfl, rfl, rfl, rfl, trivial⟩ ?_
     refine k_cond_dec rfl (fun c10 => ?_) (fun c10 => ?_)
     ·
      have h := itT h c10
      refine k_seq ?_
      refine k_region ?_
      refine k_move rfl rfl ?_
      obtain ⟨x5, hx5, h⟩ := ob h
      refine k_call cal16 rfl (disk_Disk_Sync_w  ho0 hx5) rfl ?_
      rintro s11 vr11 st11 ⟨rfl, ho0⟩
      have szs11 := st11.size
      have hS := hS.c0 st11
      refine k_assign rfl rfl ?_
      refine k_nil ?_
      refine k_keep [(0, _), (3, _), (4, _)] ⟨rfl, rfl, rfl, trivial⟩ ?_
      refine k_ret ?_
      obtain rfl := Option.some.inj h
      refine ⟨_, rfl, Ret.mk hS ?_⟩
      exact ⟨rfl, ho0⟩
     ·
      have h := itF h c10
      refine k_seq ?_
      refine k_region ?_
      refine k_eql rfl rfl rfl ?_
      refine k_assign rfl rfl ?_
      refine k_nil ?_
      refine k_keep [(0, _), (3, _), (4, _), (9, _), (44, _)] ⟨rfl, rfl, rfl, rfl, rfl, trivial⟩ ?_
      refine k_cond_dec rfl (fun c12 => ?_) (fun c12 => ?_)
      ·
       have h := itT h c12
       refine k_seq ?_
       refine k_region ?_
       refine k_move rfl rfl ?_
       refine k_field_addr fld31_5 rfl rfl ?_
       refine k_load_blk one3 rfl h1 rfl rfl ?_
       refine k_field_addr fld31_6 rfl rfl ?_
       refine k_load_blk one3 rfl h1 rfl rfl ?_
       obtain ⟨x6, hx6, h⟩ := ob h
       refine k_call cal17 rfl (disk_Disk_Crash_w  ho0 hx6) rfl ?_
       rintro s13 vr13 st13 ⟨rfl, ho0⟩
       have szs13 := st13.size
       have hS := hS.c0 st13
       refine k_assign rfl rfl ?_
       refine k_nil ?_
       refine k_keep [(0, _), (3, _), (4, _)] ⟨rfl, rfl, rfl, trivial⟩ ?_
       refine k_ret ?_
       obtain rfl := Option.some.inj h
       refine ⟨_, rfl, Ret.mk hS ?_⟩
       exact ⟨rfl, ho0⟩
      ·
       have h := itF h c12
       refine k_seq ?_
       refine k_region ?_
       refine k_eql rfl rfl rfl ?_
       refine k_assign rfl rfl ?_
       refine k_nil ?_
       refine k_keep [(0, _), (3, _), (4, _), (9, _), (52, _)] ⟨rfl, rfl, rfl, rfl, rfl, trivial⟩ ?_
       refine k_cond_dec rfl (fun c14 => ?_) (fun c14 => ?_)
       ·
        have h := itT h c14
        refine k_seq ?_
        refine k_region ?_
        refine k_move rfl rfl ?_
        obtain ⟨x7, hx7, h⟩ := ob h
        refine k_call cal19 rfl (disk_Disk_Start_w  ho0 hx7) rfl ?_
        rintro s15 vr15 st15 ⟨rfl, ho0⟩
        have szs15 := st15.size
        have hS := hS.c0 st15
        refine k_assign rfl rfl ?_
        refine k_nil ?_
        refine k_keep [(0, _), (3, _), (4, _)] ⟨rfl, rfl, rfl, trivial⟩ ?_
        refine k_ret ?_
        obtain rfl := Option.some.inj h
        refine ⟨_, rfl, Ret.mk hS ?_⟩
        exact ⟨rfl, ho0⟩
       ·
        have h := itF h c14
        refine k_seq ?_
        refine k_region ?_
        refine k_eql rfl rfl rfl ?_
        refine k_assign rfl rfl ?_
        refine k_nil ?_
        refine k_keep [(0, _), (3, _), (4, _), (56, _)] ⟨rfl, rfl, rfl, rfl, trivial⟩ ?_
        refine k_cond_dec rfl (fun c16 => ?_) (fun c16 => ?_)
        ·
         have h := itT h c16
         refine k_seq ?_
         refine k_region ?_
         refine k_move rfl rfl ?_
         refine k_field_addr fld31_4 rfl rfl ?_
         refine k_load_blk one3 rfl h1 rfl rfl ?_
         refine k_field_addr fld31_5 rfl rfl ?_
         refine k_load_blk one3 rfl h1 rfl rfl ?_
         refine k_field_addr fld31_6 rfl rfl ?_
         refine k_load_blk one3 rfl h1 rfl rfl ?_
         obtain ⟨x8, hx8, h⟩ := ob h
         refine k_call cal25 rfl (disk_Disk_Fuse_w  ho0 hx8) rfl ?_
         rintro s17 vr17 st17 ⟨rfl, ho0⟩
         have szs17 := st17.size
         have hS := hS.c0 st17
         refine k_assign rfl rfl ?_
         refine k_nil ?_
         refine k_keep [(0, _), (3, _), (4, _)] ⟨rfl, rfl, rfl, trivial⟩ ?_
         refine k_ret ?_
         obtain rfl := Option.some.inj h
         refine ⟨_, rfl, Ret.mk hS ?_⟩
         exact ⟨rfl, ho0⟩
        ·
         have h := itF h c16
         refine k_skip ?_
         refine k_blk ?_
         refine k_seq ?_
         refine k_region ?_
         refine k_move rfl rfl ?_
         refine k_field_addr fld31_1 rfl rfl ?_
         refine k_load_blk one9 rfl h1 rfl rfl ?_
         obtain ⟨x9, hx9, h⟩ := ob h
         refine k_call cal27 rfl (disk_Disk_Read_own_w  ho0 hx9) rfl ?_
         rintro s18 vr18 st18 ⟨v18_0, l18_0, rfl, hl18_0, h18_0⟩
         have szs18 := st18.size
         have hS := hS.trans0 st18
         replace ho0 := ho0.up2 st18
         obtain ⟨l18_0, hl18_0, h18_0⟩ := Own.anew 2180 h18_0 hl18_0 szs18
         have lt18_0 := Own.le1 h18_0
         refine k_move rfl rfl ?_
         refine k_extract rfl rfl rfl ?_
         refine k_extract rfl rfl rfl ?_
         refine k_assign rfl rfl ?_
         refine k_assign rfl rfl ?_
         refine k_nil ?_
         refine k_keep [(4, _), (5, _), (6, _)] ⟨rfl, rfl, rfl, trivial⟩ ?_
         refine k_seq ?_
         obtain ⟨kj10, hK19, h⟩ := jn_out h
         have hE19 := Step.r0 (KC l18_0.o l18_0.c) s18
         refine k_cutc (X := St × (List UInt8)) [(4, .int .i64 0), (6, .int .i64 x9.2)] (fun (xL : St × (List UInt8)) => match xL with | (sl, x11) => []) (fun (xL : St × (List UInt8)) (wL : World) => match xL with | (sl, x11) => sl.w = wL ∧ Step (KC l18_0.o l18_0.c) s18 sl ∧ (Own sl ⟨l18_0.o, l18_0.c⟩ 5 1 v18_0 (x11.map bD)) ∧ kj10 x11 = some r) ?_ ?_
         ·
          refine k_seq ?_
          refine k_region ?_
          refine k_assign rfl rfl ?_
          refine k_nil ?_
          refine k_block ?_
          refine k_loopc (X := St × Int × (List UInt8) × Nat) [(4, _), (5, _), (6, _)] (fun (xL : St × Int × (List UInt8) × Nat) => match xL with | (sl, x12, x13, j) => [(7, .int .i64 x12)]) (fun (xL : St × Int × (List UInt8) × Nat) (wL : World) => match xL with | (sl, x12, x13, j) => sl.w = wL ∧ Step (KC l18_0.o l18_0.c) s18 sl ∧ (Own sl ⟨l18_0.o, l18_0.c⟩ 5 1 v18_0 (x13.map bD)) ∧ law05_call_l1 kj10 j x12 x13 = some r) (fun (xL : St × Int × (List UInt8) × Nat) => match xL with | (sl, x12, x13, j) => j) (s18, 0, x9.1, FU) ⟨rfl, rfl, rfl, trivial⟩ ⟨(by first | rfl | (simp <;> rfl)), trivial⟩ ⟨rfl, (Step.refl _).of0 (by first | exact fun _ h => h | (intro c h; simp [KC, KO, KU, KN, KB] at h <;> omega)), h18_0, h⟩ ?_
          rintro ⟨s21, x12, x13, j⟩ wL ⟨rfl, hE20, h18_0, h⟩
          cases j with
          | zero => rw [law05_call_l1] at h; exact (noneNe h).elim
          | succ j =>
          rw [law05_call_l1] at h
          have szs21 := hE20.size
          have hS := hS.c0 hE20
          have hE19 := hE19.c0 hE20
          refine k_seq ?_
          refine k_seq ?_
          refine k_region ?_
          refine k_move rfl rfl ?_
          refine k_move rfl rfl ?_
          refine k_len Tryd.underlying29 rfl (h18_0.sl).hasLen rfl ?_
          refine k_as (v := .int .i64 (x13.length : Int)) (by simp only [List.length_map]) ?_
          refine k_lss rfl rfl rfl ?_
          refine k_nil ?_
          refine k_keep [(4, _), (5, _), (6, _), (7, _), (76, _)] ⟨rfl, rfl, rfl, rfl, rfl, trivial⟩ ?_
          refine k_cond_dec rfl (fun c22 => ?_) (fun c22 => ?_)
          ·
           have h := itT h c22
           refine k_skip ?_
           refine k_seq ?_
           refine k_block ?_
           refine k_region ?_
           refine k_move rfl rfl ?_
           refine k_move rfl rfl ?_
           obtain ⟨x14, hx14, h⟩ := ob h
           refine k_ixaddr_own Tryd.underlying29 size5 rfl rfl h18_0 (geti_out hx14).1 (geti_map hx14) rfl ?_
           intro qx14 hqx14 heqx14
           refine k_load_val one5 rfl hqx14 rfl ?_
           refine k_add rfl rfl rfl ?_
           refine k_as (congrArg (Value.int .u8) (w8 _)) ?_
           obtain ⟨x15, hx15, h⟩ := ob h
           refine k_ixaddr_own Tryd.underlying29 size5 rfl rfl h18_0 (geti_out hx15).1 (geti_map hx15) rfl ?_
           intro qx15 hqx15 heqx15
           refine k_store_elt (dd := bD (ofI8 ((x14.toNat : Int) + 1))) size5 rfl rfl h18_0 heqx15 (by rw [List.length_map]; exact (List.getElem?_eq_some_iff.1 (geti_out hx15).2.2).1) (R.val rfl) rfl ?_
           intro s23 st23 h18_0
           rw [← List.map_set] at h18_0
           have szs23 := st23.size
           have hS := hS.c0 st23
           have hE19 := hE19.c0 st23
           have hE20 := hE20.c0 st23
           refine k_nil ?_
           refine k_blk ?_
           refine k_region ?_
           refine k_move rfl rfl ?_
           refine k_add rfl rfl rfl ?_
           refine k_assign rfl rfl ?_
           refine k_nil ?_
           exact k_stop ⟨(s23, i64 (x12 + 1), x13.set (x12).toNat (ofI8 ((x14.toNat : Int) + 1)), j), ⟨(by first | rfl | (simp <;> rfl)), trivial⟩, ⟨rfl, rfl, rfl, trivial⟩, ⟨rfl, hE20, h18_0, h⟩, (by simp)⟩
          ·
           have h := itF h c22
           refine k_exit rfl ?_
           exact k_stop ⟨(s21, x13), trivial, ⟨rfl, rfl, trivial⟩, ⟨rfl, hE19, h18_0, h⟩⟩
         ·
          rintro ⟨s24, x11⟩ wL ⟨rfl, hE19, h18_0, h⟩
          rw [hK19] at h
          have szs24 := hE19.size
          have hS := hS.c0 hE19
          replace ho0 := ho0.up2 hE19
          refine k_seq ?_
          refine k_region ?_
          refine k_move rfl rfl ?_
          refine k_assign rfl rfl ?_
          refine k_nil ?_
          refine k_keep [(4, _)] ⟨rfl, trivial⟩ ?_
          refine k_ret ?_
          obtain rfl := Option.some.inj h
          refine ⟨_, rfl, Ret.mk hS ?_⟩
          exact ⟨rfl, ho0⟩

set_option maxHeartbeats 1000000 in
set_option maxRecDepth 100000 in
theorem law05_alike_w {s : St} {k0 : Nat} {p0 : Value} {a0 : DiskDisk} {k1 : Nat} {p1 : Value} {a1 : DiskDisk} {r : Bool} (ho0 : ODiskDisk s k0 p0 a0) (ho1 : ODiskDisk s k1 p1 a1) (h : law05_alike a0 a1 = some r) : Calls Tryd.prog 20 #[p0, p1] s.w (Ret s K0 (fun s1 v => v = .bool r)) := by
 unfold law05_alike at h
 have le0 := ho0.le
 have ne0 := ho0.ne
 have le1 := ho1.le
 have ne1 := ho1.ne
 have hS := Step.r0 K0 s
 refine k_fn (rs := [4]) (args := [p0, p1]) Tryd.func20 rfl rfl rfl rfl ?_
 refine k_seq ?_
 refine k_region ?_
 refine k_assign rfl rfl ?_
 refine k_nil ?_
 refine k_seq ?_
 refine k_region ?_
 refine k_move rfl rfl ?_
 obtain ⟨x1, hx1, h⟩ := ob h
 refine k_call cal26 rfl (disk_Disk_Names_w  ho0 hx1) rfl ?_
 rintro s1 v1_0 st1 ⟨_, rfl, h1_0⟩
 have szs1 := st1.size
 have hS := hS.trans0 st1
 replace ho0 := ho0.up2 st1
 replace ho1 := ho1.up2 st1
 refine k_move rfl rfl ?_
 obtain ⟨x2, hx2, h⟩ := ob h
 refine k_call cal26 rfl (disk_Disk_Names_w  ho1 hx2) rfl ?_
 rintro s2 v2_0 st2 ⟨_, rfl, h2_0⟩
 have szs2 := st2.size
 have hS := hS.trans0 st2
 replace h1_0 := h1_0.up2 st2
 replace ho0 := ho0.up2 st2
 replace ho1 := ho1.up2 st2
 refine k_assign rfl rfl ?_
 refine k_assign rfl rfl ?_
 refine k_nil ?_
 refine k_keep [(0, _), (1, _), (4, _), (5, _), (6, _)] ⟨rfl, rfl, rfl, rfl, rfl, trivial⟩ ?_
 refine k_seq ?_
 refine k_seq ?_
 refine k_region ?_
 refine k_move rfl rfl ?_
 refine k_len Tryd.underlying46 rfl (SL.of_R h1_0).hasLen rfl ?_
 refine k_as (v := .int .i64 (x1.length : Int)) (by simp only [List.length_map]) ?_
 refine k_move rfl rfl ?_
 refine k_len Tryd.underlying46 rfl (SL.of_R h2_0).hasLen rfl ?_
 refine k_as (v := .int .i64 (x2.length : Int)) (by simp only [List.length_map]) ?_
 refine k_neq rfl rfl rfl ?_
 refine k_move rfl rfl ?_
 obtain ⟨x3, hx3, h⟩ := ob h
 have hE3 := Step.r0 K0 s2
 refine k_cutl (X := St) 3 [(0, p0), (1, p1), (4, .bool false), (5, v1_0), (6, v2_0), (16, v1_0), (17, .int .i64 (x1.length : Int)), (18, v2_0), (19, .int .i64 (x2.length : Int)), (20, .bool (decide ((x1.length : Int) ≠ (x2.length : Int))))] (fun _ => [(24, .bool x3)]) (fun sl wL => sl.w = wL ∧ Step K0 s2 sl) ?_ ?_
 ·
  refine k_again 21 rfl ?_
  refine k_split (fun c4 => ?_) (fun c4 => ?_)
  ·
   have hx3 := itT hx3 c4
   refine k_no rfl rfl rfl rfl ?_
   refine k_no rfl rfl rfl rfl ?_
   refine k_pickT rfl rfl rfl rfl ?_
   exact k_met ⟨s2, ⟨(congrArg (fun b => some (Value.bool b)) (Option.some.inj hx3)), trivial⟩, ⟨rfl, rfl, rfl, rfl, rfl, rfl, rfl, rfl, rfl, rfl, trivial⟩, rfl, hE3⟩
  ·
   have hx3 := itF hx3 c4
   refine k_yes rfl rfl ?_
   refine k_move rfl rfl ?_
   refine k_yes rfl rfl ?_
   obtain ⟨x4, hx4, hx3⟩ := ob hx3
   refine k_call cal18 rfl (disk_Disk_Down_w  ho0 hx4) rfl ?_
   rintro s5 vr5 st5 rfl
   have szs5 := st5.size
   have hS := hS.trans0 st5
   have hE3 := hE3.trans0 st5
   refine k_pickF rfl rfl rfl rfl ?_
   exact k_met ⟨s5, ⟨(congrArg (fun b => some (Value.bool b)) (Option.some.inj hx3)), trivial⟩, ⟨rfl, rfl, rfl, rfl, rfl, rfl, rfl, rfl, rfl, rfl, trivial⟩, rfl, hE3⟩
 ·
  rintro s6 wL ⟨rfl, hE3⟩
  have szs6 := hE3.size
  have hS := hS.trans0 hE3
  replace h1_0 := h1_0.up2 hE3
  replace h2_0 := h2_0.up2 hE3
  replace ho0 := ho0.up2 hE3
  replace ho1 := ho1.up2 hE3
  refine k_move rfl rfl ?_
  obtain ⟨x5, hx5, h⟩ := ob h
  have hE7 := Step.r0 K0 s6
  refine k_cutl (X := St) 3 [(0, p0), (1, p1), (4, .bool false), (5, v1_0), (6, v2_0), (16, v1_0), (17, .int .i64 (x1.length : Int)), (18, v2_0), (19, .int .i64 (x2.length : Int)), (20, .bool (decide ((x1.length : Int) ≠ (x2.length : Int)))), (24, .bool x3)] (fun _ => [(28, .bool x5)]) (fun sl wL => sl.w = wL ∧ Step K0 s6 sl) ?_ ?_
  ·
   refine k_again 25 rfl ?_
   refine k_splitb (fun c8 => ?_) (fun c8 => ?_)
   ·
    have hx5 := ibT hx5 c8
    refine k_no rfl rfl rfl rfl ?_
    refine k_no rfl rfl rfl rfl ?_
    refine k_pickT rfl rfl rfl rfl ?_
    exact k_met ⟨s6, ⟨(congrArg (fun b => some (Value.bool b)) (Option.some.inj hx5)), trivial⟩, ⟨rfl, rfl, rfl, rfl, rfl, rfl, rfl, rfl, rfl, rfl, rfl, trivial⟩, rfl, hE7⟩
   ·
    have hx5 := ibF hx5 c8
    refine k_yes rfl rfl ?_
    refine k_move rfl rfl ?_
    refine k_yes rfl rfl ?_
    obtain ⟨x6, hx6, hx5⟩ := ob hx5
    refine k_call cal18 rfl (disk_Disk_Down_w  ho1 hx6) rfl ?_
    rintro s9 vr9 st9 rfl
    have szs9 := st9.size
    have hS := hS.trans0 st9
    have hE7 := hE7.trans0 st9
    refine k_pickF rfl rfl rfl rfl ?_
    exact k_met ⟨s9, ⟨(congrArg (fun b => some (Value.bool b)) (Option.some.inj hx5)), trivial⟩, ⟨rfl, rfl, rfl, rfl, rfl, rfl, rfl, rfl, rfl, rfl, rfl, trivial⟩, rfl, hE7⟩
  ·
   rintro s10 wL ⟨rfl, hE7⟩
   have szs10 := hE7.size
   have hS := hS.trans0 hE7
   replace h1_0 := h1_0.up2 hE7
   replace h2_0 := h2_0.up2 hE7
   replace ho0 := ho0.up2 hE7
   replace ho1 := ho1.up2 hE7
   refine k_nil ?_
   refine k_keep [(0, _), (1, _), (4, _), (5, _), (6, _), (28, _)] ⟨rfl, rfl, rfl, rfl, rfl, rfl, trivial⟩ ?_
   refine k_cond rfl (fun c11 => ?_) (fun c11 => ?_)
   ·
    have h := ibT h c11
    refine k_seq ?_
    refine k_region ?_
    refine k_assign rfl rfl ?_
    refine k_nil ?_
    refine k_keep [(0, _), (1, _), (4, _), (5, _), (6, _)] ⟨rfl, rfl, rfl, rfl, rfl, trivial⟩ ?_
    refine k_ret ?_
    obtain rfl := Option.some.inj h
    refine ⟨_, rfl, Ret.mk hS ?_⟩
    exact rfl
   ·
    have h := ibF h c11
    refine k_skip ?_
    refine k_seq ?_
    refine k_keep [(0, _), (1, _), (4, _), (5, _), (6, _)] ⟨rfl, rfl, rfl, rfl, rfl, trivial⟩ ?_
    obtain ⟨kj7, hK12, h⟩ := jn_out h
    have hE12 := Step.r0 K0 s10
    refine k_cutc (X := St) [(4, .bool false)] (fun (xL : St) => match xL with | sl => []) (fun (xL : St) (wL : World) => match xL with | sl => sl.w = wL ∧ Step K0 s10 sl ∧ kj7 () = some r) ?_ ?_
    ·
     refine k_seq ?_
     refine k_region ?_
     refine k_assign rfl rfl ?_
     refine k_nil ?_
     refine k_block ?_
     refine k_loopc (X := St × Int × Nat) [(0, _), (1, _), (4, _), (5, _), (6, _)] (fun (xL : St × Int × Nat) => match xL with | (sl, x8, j) => [(7, .int .i64 x8)]) (fun (xL : St × Int × Nat) (wL : World) => match xL with | (sl, x8, j) => sl.w = wL ∧ Step K0 s10 sl ∧ law05_alike_l1 x1 a0 a1 x2 kj7 j x8 = some r) (fun (xL : St × Int × Nat) => match xL with | (sl, x8, j) => j) (s10, 0, FU) ⟨rfl, rfl, rfl, rfl, rfl, trivial⟩ ⟨(by first | rfl | (simp <;> rfl)), trivial⟩ ⟨rfl, (Step.refl _).of0 (by first | exact fun _ h => h | (intro c h; simp [KC, KO, KU, KN, KB] at h <;> omega)), h⟩ ?_
     rintro ⟨s14, x8, j⟩ wL ⟨rfl, hE13, h⟩
     cases j with
     | zero => rw [law05_alike_l1] at h; exact (noneNe h).elim
     | succ j =>
     rw [law05_alike_l1] at h
     have szs14 := hE13.size
     have hS := hS.trans0 hE13
     have hE12 := hE12.trans0 hE13
     replace h1_0 := h1_0.up2 hE13
     replace h2_0 := h2_0.up2 hE13
     replace ho0 := ho0.up2 hE13
     replace ho1 := ho1.up2 hE13
     refine k_seq ?_
     refine k_seq ?_
     refine k_region ?_
     refine k_move rfl rfl ?_
     refine k_move rfl rfl ?_
     refine k_len Tryd.underlying46 rfl (SL.of_R h1_0).hasLen rfl ?_
     refine k_as (v := .int .i64 (x1.length : Int)) (by simp only [List.length_map]) ?_
     refine k_lss rfl rfl rfl ?_
     refine k_nil ?_
     refine k_keep [(0, _), (1, _), (4, _), (5, _), (6, _), (7, _), (32, _)] ⟨rfl, rfl, rfl, rfl, rfl, rfl, rfl, trivial⟩ ?_
     refine k_cond_dec rfl (fun c15 => ?_) (fun c15 => ?_)
     ·
      have h := itT h c15
      refine k_skip ?_
      refine k_seq ?_
      refine k_block ?_
      refine k_seq ?_
      refine k_region ?_
      refine k_move rfl rfl ?_
      refine k_move rfl rfl ?_
      refine k_move rfl rfl ?_
      obtain ⟨x9, hx9, h⟩ := ob h
      refine k_ixaddr Tryd.underlying46 size9 rfl rfl (SL.of_R h1_0) (geti_out hx9).1 (geti_map hx9) rfl ?_
      intro qx9 hqx9
      refine k_load_val one9 rfl hqx9 rfl ?_
      obtain ⟨x10, hx10, h⟩ := ob h
      refine k_call cal27 rfl (disk_Disk_Read_w  ho0 hx10) rfl ?_
      rintro s16 vr16 st16 ⟨v16_0, rfl, h16_0⟩
      have szs16 := st16.size
      have hS := hS.trans0 st16
      have hE12 := hE12.trans0 st16
      have hE13 := hE13.trans0 st16
      replace h1_0 := h1_0.up2 st16
      replace h2_0 := h2_0.up2 st16
      replace ho1 := ho1.up2 st16
      refine k_move rfl rfl ?_
      refine k_extract rfl rfl rfl ?_
      refine k_extract rfl rfl rfl ?_
      refine k_assign rfl rfl ?_
      refine k_assign rfl rfl ?_
      refine k_nil ?_
      refine k_keep [(0, _), (1, _), (4, _), (5, _), (6, _), (7, _), (8, _)] ⟨rfl, rfl, rfl, rfl, rfl, rfl, rfl, trivial⟩ ?_
      refine k_seq ?_
      refine k_region ?_
      refine k_move rfl rfl ?_
      refine k_move rfl rfl ?_
      refine k_move rfl rfl ?_
      obtain ⟨x11, hx11, h⟩ := ob h
      refine k_ixaddr Tryd.underlying46 size9 rfl rfl (SL.of_R h1_0) (geti_out hx11).1 (geti_map hx11) rfl ?_
      intro qx11 hqx11
      refine k_load_val one9 rfl hqx11 rfl ?_
      obtain ⟨x12, hx12, h⟩ := ob h
      refine k_call cal27 rfl (disk_Disk_Read_w  ho1 hx12) rfl ?_
      rintro s17 vr17 st17 ⟨v17_0, rfl, h17_0⟩
      have szs17 := st17.size
      have hS := hS.trans0 st17
      have hE12 := hE12.trans0 st17
      have hE13 := hE13.trans0 st17
      replace h1_0 := h1_0.up2 st17
      replace h2_0 := h2_0.up2 st17
      replace h16_0 := h16_0.up2 st17
      refine k_move rfl rfl ?_
      refine k_extract rfl rfl rfl ?_
      refine k_extract rfl rfl rfl ?_
      refine k_assign rfl rfl ?_
      refine k_assign rfl rfl ?_
      refine k_nil ?_
      refine k_keep [(0, _), (1, _), (4, _), (5, _), (6, _), (7, _), (8, _), (10, _)] ⟨rfl, rfl, rfl, rfl, rfl, rfl, rfl, rfl, trivial⟩ ?_
      refine k_seq ?_
      refine k_drawT (KN s17.n) 14 (.read 0 (.read 1 (.read 2 (.read 3 (.read 4 (.read 5 (.read 6 (.read 7 (.read 8 (.read 9 (.read 10 (.read 11 (.read 12 (.read 13 .fin)))))))))))))) mixed (by intro c h; (try simp only [KC, KO, KU, KN, KB] at h) <;> omega) rfl rfl rfl ?_
      intro s18 st18
      have szs18 := st18.size
      have hS := hS.trans0 st18
      have hE12 := hE12.trans0 st18
      have hE13 := hE13.trans0 st18
      replace h1_0 := h1_0.up2 st18
      replace h2_0 := h2_0.up2 st18
      replace h16_0 := h16_0.up2 st18
      replace h17_0 := h17_0.up2 st18
      refine rt_read (v1_0) rfl rfl (fun s19 st19 => ?_) ?_
      ·refine k_move rfl rfl ?_
       exact fq_end
      refine rt_read (.int .i64 x8) rfl rfl (fun s20 st20 => ?_) ?_
      ·refine k_move rfl rfl ?_
       exact fq_end
      obtain ⟨x13, hx13, h⟩ := ob h
      refine rt_ix rfl (wanted_none rfl) Tryd.underlying46 size9 rfl rfl (SL.of_R h1_0) (geti_out hx13).1 (geti_map hx13) rfl ?_
      intro q21 hq21
      refine rt_read (S x13) rfl rfl (fun s22 st22 => ?_) ?_
      ·try replace hq21 := hq21.up2 st22
       refine k_load_val one9 rfl hq21 rfl ?_
       exact fq_end
      refine rt_read (v2_0) rfl rfl (fun s23 st23 => ?_) ?_
      ·refine k_move rfl rfl ?_
       exact fq_end
      refine rt_read (.int .i64 x8) rfl rfl (fun s24 st24 => ?_) ?_
      ·refine k_move rfl rfl ?_
       exact fq_end
      obtain ⟨x14, hx14, h⟩ := ob h
      refine rt_ix rfl (wanted_none rfl) Tryd.underlying46 size9 rfl rfl (SL.of_R h2_0) (geti_out hx14).1 (geti_map hx14) rfl ?_
      intro q25 hq25
      refine rt_read (S x14) rfl rfl (fun s26 st26 => ?_) ?_
      ·try replace hq25 := hq25.up2 st26
       refine k_load_val one9 rfl hq25 rfl ?_
       exact fq_end
      refine rt_read (.bool (decide (x13 ≠ x14))) rfl rfl (fun s27 st27 => ?_) ?_
      ·refine k_neq_str rfl rfl rfl ?_
       exact fq_end
      refine rt_read (.bool (decide (x13 ≠ x14))) rfl rfl (fun s28 st28 => ?_) ?_
      ·refine k_move rfl rfl ?_
       exact fq_end
      refine rt_split (fun c29 => ?_) (fun c29 => ?_)
      ·
       have h := itT h c29
       refine rt_read undef rfl rfl (fun s30 st30 => ?_) ?_
       ·refine k_no rfl rfl rfl rfl ?_
        exact fq_end
       refine rt_read undef rfl rfl (fun s31 st31 => ?_) ?_
       ·refine k_no rfl rfl rfl rfl ?_
        exact fq_end
       refine rt_read undef rfl rfl (fun s32 st32 => ?_) ?_
       ·refine k_no rfl rfl rfl rfl ?_
        exact fq_end
       refine rt_read undef rfl rfl (fun s33 st33 => ?_) ?_
       ·refine k_no rfl rfl rfl rfl ?_
        exact fq_end
       refine rt_fin ?_
       refine k_no rfl rfl rfl rfl ?_
       refine k_pickT rfl rfl rfl rfl ?_
       refine k_nil ?_
       refine k_keep [(0, _), (1, _), (4, _), (5, _), (6, _), (7, _), (68, _)] ⟨rfl, rfl, rfl, rfl, rfl, rfl, rfl, trivial⟩ ?_
       refine k_cond_true rfl ?_
       refine k_seq ?_
       refine k_region ?_
       refine k_assign rfl rfl ?_
       refine k_nil ?_
       refine k_keep [(0, _), (1, _), (4, _), (5, _), (6, _), (7, _)] ⟨rfl, rfl, rfl, rfl, rfl, rfl, trivial⟩ ?_
       refine k_ret ?_
       obtain rfl := Option.some.inj h
       refine ⟨_, rfl, Ret.mk hS ?_⟩
       exact rfl
      ·
       have h := itF h c29
       refine rt_read (v16_0) rfl rfl (fun s34 st34 => ?_) ?_
       ·refine k_yes rfl rfl ?_
        refine k_move rfl rfl ?_
        exact fq_end
       refine rt_read (S x10.1) rfl rfl (fun s35 st35 => ?_) ?_
       ·try replace h16_0 := h16_0.up2 st35
        refine k_yes rfl rfl ?_
        refine k_bts (m := x10.1) Tryd.underlying29 Tryd.underlying5 Tryd.underlying9 rfl (SL.of_R h16_0) rfl ?_
        exact fq_end
       refine rt_read (v17_0) rfl rfl (fun s36 st36 => ?_) ?_
       ·refine k_yes rfl rfl ?_
        refine k_move rfl rfl ?_
        exact fq_end
       refine rt_read (S x12.1) rfl rfl (fun s37 st37 => ?_) ?_
       ·try replace h17_0 := h17_0.up2 st37
        refine k_yes rfl rfl ?_
        refine k_bts (m := x12.1) Tryd.underlying29 Tryd.underlying5 Tryd.underlying9 rfl (SL.of_R h17_0) rfl ?_
        exact fq_end
       refine rt_fin ?_
       refine k_yes rfl rfl ?_
       refine k_neq_str rfl rfl rfl ?_
       refine k_pickF rfl rfl rfl rfl ?_
       refine k_nil ?_
       refine k_keep [(0, _), (1, _), (4, _), (5, _), (6, _), (7, _), (68, _)] ⟨rfl, rfl, rfl, rfl, rfl, rfl, rfl, trivial⟩ ?_
       refine k_cond_dec rfl (fun c38 => ?_) (fun c38 => ?_)
       ·
        have h := itT h c38
        refine k_seq ?_
        refine k_region ?_
        refine k_assign rfl rfl ?_
        refine k_nil ?_
        refine k_keep [(0, _), (1, _), (4, _), (5, _), (6, _), (7, _)] ⟨rfl, rfl, rfl, rfl, rfl, rfl, trivial⟩ ?_
        refine k_ret ?_
        obtain rfl := Option.some.inj h
        refine ⟨_, rfl, Ret.mk hS ?_⟩
        exact rfl
       ·
        have h := itF h c38
        refine k_skip ?_
        refine k_blk ?_
        refine k_region ?_
        refine k_move rfl rfl ?_
        refine k_add rfl rfl rfl ?_
        refine k_assign rfl rfl ?_
        refine k_nil ?_
        exact k_stop ⟨(s18, i64 (x8 + 1), j), ⟨(by first | rfl | (simp <;> rfl)), trivial⟩, ⟨rfl, rfl, rfl, rfl, rfl, trivial⟩, ⟨rfl, hE13, h⟩, (by simp)⟩
     ·
      have h := itF h c15
      refine k_exit rfl ?_
      exact k_stop ⟨s14, trivial, ⟨rfl, trivial⟩, ⟨rfl, hE12, h⟩⟩
    ·
     rintro s39 wL ⟨rfl, hE12, h⟩
     rw [hK12] at h
     have szs39 := hE12.size
     have hS := hS.trans0 hE12
     refine k_seq ?_
     refine k_region ?_
     refine k_assign rfl rfl ?_
     refine k_nil ?_
     refine k_ret ?_
     obtain rfl := Option.some.inj h
     refine ⟨_, rfl, Ret.mk hS ?_⟩
     exact rfl

set_option maxHeartbeats 1000000 in
set_option maxRecDepth 100000 in
theorem law05_DiskFuse_w {s : St} {a0 : Int} {l1 : Lab} {v1 : Value} {a1 : (List Law05Call)} {l2 : Lab} {v2 : Value} {a2 : (List Law05Call)} {a3 : Int} {a4 : Int} {a5 : Int} {r : Bool} (hp1 : SL s l1 v1 7 (a1.map dLaw05Call)) (hp2 : SL s l2 v2 7 (a2.map dLaw05Call)) (h : law05_DiskFuse a0 a1 a2 a3 a4 a5 = some r) : Calls Tryd.prog 5 #[.int .i64 a0, v1, v2, .int .i64 a3, .int .i64 a4, .int .i64 a5] s.w (Ret s K0 (fun s1 v => v = .bool r)) := by
 unfold law05_DiskFuse at h
 obtain ⟨lf1, lf1le, lf1ne, hp1⟩ := hp1.fix
 obtain ⟨lf2, lf2le, lf2ne, hp2⟩ := hp2.fix
 have hS := Step.r0 K0 s
 refine k_fn (rs := [12]) (args := [.int .i64 a0, v1, v2, .int .i64 a3, .int .i64 a4, .int .i64 a5]) Tryd.func5 rfl rfl rfl rfl ?_
 refine k_seq ?_
 refine k_region ?_
 refine k_assign rfl rfl ?_
 refine k_nil ?_
 refine k_seq ?_
 refine k_region ?_
 refine k_move rfl rfl ?_
 obtain ⟨x1, hx1, h⟩ := ob h
 refine k_call cal11 rfl (disk_New_w   hx1) rfl ?_
 rintro s1 vr1 st1 ⟨ku1_0, v1_0, rfl, hk1_0, h1_0⟩
 have szs1 := st1.size
 have hS := hS.trans0 st1
 replace hp1 := hp1.up2 st1
 replace hp2 := hp2.up2 st1
 have ol1_0 := OptODiskDisk.le (k := ku1_0) h1_0
 refine k_move rfl rfl ?_
 refine k_extract rfl rfl rfl ?_
 refine k_extract rfl rfl rfl ?_
 refine k_assign rfl rfl ?_
 refine k_assign rfl rfl ?_
 refine k_nil ?_
 refine k_keep [(1, _), (2, _), (3, _), (4, _), (5, _), (12, _), (13, _), (14, _)] ⟨rfl, rfl, rfl, rfl, rfl, rfl, rfl, rfl, trivial⟩ ?_
 refine k_seq ?_
 refine k_seq ?_
 refine k_region ?_
 refine k_move rfl rfl ?_
 refine k_neq rfl rfl rfl ?_
 refine k_move rfl rfl ?_
 obtain ⟨x2, hx2, h⟩ := ob h
 have hE2 := Step.r0 K0 s1
 refine k_cutl (X := St) 3 [(1, v1), (2, v2), (3, .int .i64 a3), (4, .int .i64 a4), (5, .int .i64 a5), (12, .bool false), (13, v1_0), (14, .int .i64 x1.2), (26, .int .i64 x1.2), (27, .bool (decide (x1.2 ≠ 0)))] (fun _ => [(31, .bool x2)]) (fun sl wL => sl.w = wL ∧ Step K0 s1 sl) ?_ ?_
 ·
  refine k_again 28 rfl ?_
  refine k_split (fun c3 => ?_) (fun c3 => ?_)
  ·
   have hx2 := itT hx2 c3
   refine k_no rfl rfl rfl rfl ?_
   refine k_no rfl rfl rfl rfl ?_
   refine k_pickT rfl rfl rfl rfl ?_
   exact k_met ⟨s1, ⟨(congrArg (fun b => some (Value.bool b)) (Option.some.inj hx2)), trivial⟩, ⟨rfl, rfl, rfl, rfl, rfl, rfl, rfl, rfl, rfl, rfl, trivial⟩, rfl, hE2⟩
  ·
   have hx2 := itF hx2 c3
   refine k_yes rfl rfl ?_
   refine k_move rfl rfl ?_
   refine k_yes rfl rfl ?_
   obtain ⟨x3, hx3, hx2⟩ := ob hx2
   refine k_call cal12 rfl (law05_many_w  hp1 hx3) rfl ?_
   rintro s4 vr4 st4 rfl
   have szs4 := st4.size
   have hS := hS.trans0 st4
   have hE2 := hE2.trans0 st4
   replace h1_0 : OptODiskDisk s4 ku1_0 v1_0 x1.1 := OptODiskDisk.up3 h1_0 ol1_0 st4
   refine k_pickF rfl rfl rfl rfl ?_
   exact k_met ⟨s4, ⟨(congrArg (fun b => some (Value.bool b)) (Option.some.inj hx2)), trivial⟩, ⟨rfl, rfl, rfl, rfl, rfl, rfl, rfl, rfl, rfl, rfl, trivial⟩, rfl, hE2⟩
 ·
  rintro s5 wL ⟨rfl, hE2⟩
  have szs5 := hE2.size
  have hS := hS.trans0 hE2
  replace hp1 := hp1.up2 hE2
  replace hp2 := hp2.up2 hE2
  replace h1_0 : OptODiskDisk s5 ku1_0 v1_0 x1.1 := OptODiskDisk.up3 h1_0 ol1_0 hE2
  refine k_move rfl rfl ?_
  obtain ⟨x4, hx4, h⟩ := ob h
  have hE6 := Step.r0 K0 s5
  refine k_cutl (X := St) 3 [(1, v1), (2, v2), (3, .int .i64 a3), (4, .int .i64 a4), (5, .int .i64 a5), (12, .bool false), (13, v1_0), (14, .int .i64 x1.2), (26, .int .i64 x1.2), (27, .bool (decide (x1.2 ≠ 0))), (31, .bool x2)] (fun _ => [(35, .bool x4)]) (fun sl wL => sl.w = wL ∧ Step K0 s5 sl) ?_ ?_
  ·
   refine k_again 32 rfl ?_
   refine k_splitb (fun c7 => ?_) (fun c7 => ?_)
   ·
    have hx4 := ibT hx4 c7
    refine k_no rfl rfl rfl rfl ?_
    refine k_no rfl rfl rfl rfl ?_
    refine k_pickT rfl rfl rfl rfl ?_
    exact k_met ⟨s5, ⟨(congrArg (fun b => some (Value.bool b)) (Option.some.inj hx4)), trivial⟩, ⟨rfl, rfl, rfl, rfl, rfl, rfl, rfl, rfl, rfl, rfl, rfl, trivial⟩, rfl, hE6⟩
   ·
    have hx4 := ibF hx4 c7
    refine k_yes rfl rfl ?_
    refine k_move rfl rfl ?_
    refine k_yes rfl rfl ?_
    obtain ⟨x5, hx5, hx4⟩ := ob hx4
    refine k_call cal12 rfl (law05_many_w  hp2 hx5) rfl ?_
    rintro s8 vr8 st8 rfl
    have szs8 := st8.size
    have hS := hS.trans0 st8
    have hE6 := hE6.trans0 st8
    replace h1_0 : OptODiskDisk s8 ku1_0 v1_0 x1.1 := OptODiskDisk.up3 h1_0 ol1_0 st8
    refine k_pickF rfl rfl rfl rfl ?_
    exact k_met ⟨s8, ⟨(congrArg (fun b => some (Value.bool b)) (Option.some.inj hx4)), trivial⟩, ⟨rfl, rfl, rfl, rfl, rfl, rfl, rfl, rfl, rfl, rfl, rfl, trivial⟩, rfl, hE6⟩
  ·
   rintro s9 wL ⟨rfl, hE6⟩
   have szs9 := hE6.size
   have hS := hS.trans0 hE6
   replace hp1 := hp1.up2 hE6
   replace hp2 := hp2.up2 hE6
   replace h1_0 : OptODiskDisk s9 ku1_0 v1_0 x1.1 := OptODiskDisk.up3 h1_0 ol1_0 hE6
   refine k_move rfl rfl ?_
   have hE10 := Step.r0 K0 s9
   refine k_cutl (X := St) 3 [(1, v1), (2, v2), (3, .int .i64 a3), (4, .int .i64 a4), (5, .int .i64 a5), (12, .bool false), (13, v1_0), (14, .int .i64 x1.2), (26, .int .i64 x1.2), (27, .bool (decide (x1.2 ≠ 0))), (31, .bool x2), (35, .bool x4)] (fun _ => [(39, .bool (decide ((x4 = true) ∨ (a3 < 1))))]) (fun sl wL => sl.w = wL ∧ Step K0 s9 sl) ?_ ?_
   ·
    refine k_again 36 rfl ?_
    refine k_splitb (fun c11 => ?_) (fun c11 => ?_)
    ·
     refine k_no rfl rfl rfl rfl ?_
     refine k_no rfl rfl rfl rfl ?_
     refine k_pickT rfl rfl rfl rfl ?_
     exact k_met ⟨s9, ⟨(congrArg (fun b => some (Value.bool b)) (by first | exact decide_eq_decide.2 ⟨Or.inr, fun h => h.resolve_left c11⟩ | exact (decide_eq_true (Or.inl c11)).symm | (simp [c11]; done) | (simp [c11, i64] <;> omega))), trivial⟩, ⟨rfl, rfl, rfl, rfl, rfl, rfl, rfl, rfl, rfl, rfl, rfl, rfl, trivial⟩, rfl, hE10⟩
    ·
     refine k_yes rfl rfl ?_
     refine k_move rfl rfl ?_
     refine k_yes rfl rfl ?_
     refine k_lss rfl rfl rfl ?_
     refine k_pickF rfl rfl rfl rfl ?_
     exact k_met ⟨s9, ⟨(congrArg (fun b => some (Value.bool b)) (by first | exact decide_eq_decide.2 ⟨Or.inr, fun h => h.resolve_left c11⟩ | exact (decide_eq_true (Or.inl c11)).symm | (simp [c11]; done) | (simp [c11, i64] <;> omega))), trivial⟩, ⟨rfl, rfl, rfl, rfl, rfl, rfl, rfl, rfl, rfl, rfl, rfl, rfl, trivial⟩, rfl, hE10⟩
   ·
    rintro s12 wL ⟨rfl, hE10⟩
    have szs12 := hE10.size
    have hS := hS.trans0 hE10
    replace hp1 := hp1.up2 hE10
    replace hp2 := hp2.up2 hE10
    replace h1_0 : OptODiskDisk s12 ku1_0 v1_0 x1.1 := OptODiskDisk.up3 h1_0 ol1_0 hE10
    refine k_nil ?_
    refine k_keep [(1, _), (2, _), (3, _), (4, _), (5, _), (12, _), (13, _), (39, _)] ⟨rfl, rfl, rfl, rfl, rfl, rfl, rfl, rfl, trivial⟩ ?_
    refine k_cond_dec rfl (fun c13 => ?_) (fun c13 => ?_)
    ·
     have h := itT h c13
     refine k_seq ?_
     refine k_region ?_
     obtain ⟨x6, hx6, h⟩ := ob h
     refine k_call cal13 rfl (law05_awake_w   hx6) rfl ?_
     rintro s14 vr14 st14 rfl
     have szs14 := st14.size
     have hS := hS.trans0 st14
     replace h1_0 : OptODiskDisk s14 ku1_0 v1_0 x1.1 := OptODiskDisk.up3 h1_0 ol1_0 st14
     refine k_assign rfl rfl ?_
     refine k_nil ?_
     refine k_keep [(1, _), (2, _), (3, _), (4, _), (5, _), (12, _), (13, _)] ⟨rfl, rfl, rfl, rfl, rfl, rfl, rfl, trivial⟩ ?_
     refine k_ret ?_
     obtain rfl := Option.some.inj h
     refine ⟨_, rfl, Ret.mk hS ?_⟩
     exact rfl
    ·
     have h := itF h c13
     refine k_skip ?_
     refine k_seq ?_
     obtain ⟨x7, hx7, h⟩ := ob h
     replace ol1_0 := ol1_0.resolve_left (fun e => by rw [e] at hx7; cases hx7)
     rw [hx7] at h1_0
     replace h1_0 : ODiskDisk s12 ku1_0 v1_0 x7 := h1_0
     have le15 := h1_0.le
     have ne15 := h1_0.ne
     refine k_keep [(1, _), (2, _), (3, _), (4, _), (5, _), (12, _), (13, _)] ⟨rfl, rfl, rfl, rfl, rfl, rfl, rfl, trivial⟩ ?_
     obtain ⟨kj8, hK16, h⟩ := jn_out h
     have hE16 := Step.r0 (KO ku1_0) s12
     refine k_cutc (X := St × DiskDisk) [(2, v2), (3, .int .i64 a3), (4, .int .i64 a4), (5, .int .i64 a5), (12, .bool false), (13, v1_0)] (fun (xL : St × DiskDisk) => match xL with | (sl, x9) => []) (fun (xL : St × DiskDisk) (wL : World) => match xL with | (sl, x9) => sl.w = wL ∧ Step (KO ku1_0) s12 sl ∧ (ODiskDisk sl ku1_0 v1_0 x9) ∧ kj8 x9 = some r) ?_ ?_
     ·
      refine k_seq ?_
      refine k_region ?_
      refine k_assign rfl rfl ?_
      refine k_nil ?_
      refine k_block ?_
      refine k_loopc (X := St × Int × DiskDisk × Nat) [(1, _), (2, _), (3, _), (4, _), (5, _), (12, _), (13, _)] (fun (xL : St × Int × DiskDisk × Nat) => match xL with | (sl, x10, x11, j) => [(15, .int .i64 x10)]) (fun (xL : St × Int × DiskDisk × Nat) (wL : World) => match xL with | (sl, x10, x11, j) => sl.w = wL ∧ Step (KO ku1_0) s12 sl ∧ (ODiskDisk sl ku1_0 v1_0 x11) ∧ law05_DiskFuse_l1 a1 kj8 j x10 x11 = some r) (fun (xL : St × Int × DiskDisk × Nat) => match xL with | (sl, x10, x11, j) => j) (s12, 0, x7, FU) ⟨rfl, rfl, rfl, rfl, rfl, rfl, rfl, trivial⟩ ⟨(by first | rfl | (simp <;> rfl)), trivial⟩ ⟨rfl, (Step.refl _).of0 (by first | exact fun _ h => h | (intro c h; simp [KC, KO, KU, KN, KB] at h <;> omega)), h1_0, h⟩ ?_
      rintro ⟨s18, x10, x11, j⟩ wL ⟨rfl, hE17, h1_0, h⟩
      cases j with
      | zero => rw [law05_DiskFuse_l1] at h; exact (noneNe h).elim
      | succ j =>
      rw [law05_DiskFuse_l1] at h
      have szs18 := hE17.size
      have hS := hS.c0 hE17
      have hE16 := hE16.c0 hE17
      replace hp1 := hp1.up2 hE17
      refine k_seq ?_
      refine k_seq ?_
      refine k_region ?_
      refine k_move rfl rfl ?_
      refine k_move rfl rfl ?_
      refine k_len Tryd.underlying22 rfl hp1.hasLen rfl ?_
      refine k_as (v := .int .i64 (a1.length : Int)) (by simp only [List.length_map]) ?_
      refine k_lss rfl rfl rfl ?_
      refine k_nil ?_
      refine k_keep [(1, _), (2, _), (3, _), (4, _), (5, _), (12, _), (13, _), (15, _), (44, _)] ⟨rfl, rfl, rfl, rfl, rfl, rfl, rfl, rfl, rfl, trivial⟩ ?_
      refine k_cond_dec rfl (fun c19 => ?_) (fun c19 => ?_)
      ·
       have h := itT h c19
       refine k_skip ?_
       refine k_seq ?_
       refine k_block ?_
       refine k_seq ?_
       refine k_region ?_
       refine k_move rfl rfl ?_
       refine k_move rfl rfl ?_
       obtain ⟨x12, hx12, h⟩ := ob h
       refine k_ixaddr Tryd.underlying22 size31 rfl rfl hp1 (geti_out hx12).1 (geti_map hx12) rfl ?_
       intro qx12 hqx12
       refine k_field_at (o := 0) rfl hqx12 (by rfl) fld31_0 rfl ?_
       intro q20 h20
       refine k_load_val one3 rfl h20 rfl ?_
       refine k_neq rfl rfl rfl ?_
       refine k_nil ?_
       refine k_keep [(1, _), (2, _), (3, _), (4, _), (5, _), (12, _), (13, _), (15, _), (52, _)] ⟨rfl, rfl, rfl, rfl, rfl, rfl, rfl, rfl, rfl, trivial⟩ ?_
       refine k_cond_dec rfl (fun c21 => ?_) (fun c21 => ?_)
       ·
        have h := itT h c21
        refine k_region ?_
        refine k_move rfl rfl ?_
        refine k_move rfl rfl ?_
        refine k_move rfl rfl ?_
        obtain ⟨x13, hx13, h⟩ := ob h
        refine k_ixaddr Tryd.underlying22 size31 rfl rfl hp1 (geti_out hx13).1 (geti_map hx13) rfl ?_
        intro qx13 hqx13
        refine k_load_agg (by exact agg31) rfl hqx13 rfl ?_
        intro cs22 h22
        obtain ⟨q22_0, rfl, hq22_0⟩ := opnLaw05Call h22
        obtain ⟨x14, hx14, h⟩ := ob h
        refine k_call cal15 rfl (law05_call_w (a1 := x13) h1_0 (SL.of_R hq22_0) (by first | assumption | omega | (simp <;> omega)) hx14) rfl ?_
        rintro s23 vr23 st23 ⟨rfl, h1_0⟩
        have szs23 := st23.size
        have hS := hS.c0 st23
        have hE16 := hE16.c0 st23
        have hE17 := hE17.c0 st23
        refine k_nil ?_
        refine k_blk ?_
        refine k_region ?_
        refine k_move rfl rfl ?_
        refine k_add rfl rfl rfl ?_
        refine k_assign rfl rfl ?_
        refine k_nil ?_
        exact k_stop ⟨(s23, i64 (x10 + 1), x14.2, j), ⟨(by first | rfl | (simp <;> rfl)), trivial⟩, ⟨rfl, rfl, rfl, rfl, rfl, rfl, rfl, trivial⟩, ⟨rfl, hE17, h1_0, h⟩, (by simp)⟩
       ·
        have h := itF h c21
        refine k_skip ?_
        refine k_blk ?_
        refine k_region ?_
        refine k_move rfl rfl ?_
        refine k_add rfl rfl rfl ?_
        refine k_assign rfl rfl ?_
        refine k_nil ?_
        exact k_stop ⟨(s18, i64 (x10 + 1), x11, j), ⟨(by first | rfl | (simp <;> rfl)), trivial⟩, ⟨rfl, rfl, rfl, rfl, rfl, rfl, rfl, trivial⟩, ⟨rfl, hE17, h1_0, h⟩, (by simp)⟩
      ·
       have h := itF h c19
       refine k_exit rfl ?_
       exact k_stop ⟨(s18, x11), trivial, ⟨rfl, rfl, rfl, rfl, rfl, rfl, trivial⟩, ⟨rfl, hE16, h1_0, h⟩⟩
     ·
      rintro ⟨s24, x9⟩ wL ⟨rfl, hE16, h1_0, h⟩
      rw [hK16] at h
      have szs24 := hE16.size
      have hS := hS.c0 hE16
      replace hp2 := hp2.up2 hE16
      refine k_seq ?_
      refine k_region ?_
      refine k_move rfl rfl ?_
      obtain ⟨x15, hx15, h⟩ := ob h
      refine k_call cal19 rfl (disk_Disk_Start_w  h1_0 hx15) rfl ?_
      rintro s25 vr25 st25 ⟨rfl, h1_0⟩
      have szs25 := st25.size
      have hS := hS.c0 st25
      replace hp2 := hp2.up2 st25
      refine k_nil ?_
      refine k_keep [(2, _), (3, _), (4, _), (5, _), (12, _), (13, _)] ⟨rfl, rfl, rfl, rfl, rfl, rfl, trivial⟩ ?_
      refine k_seq ?_
      refine k_region ?_
      refine k_move rfl rfl ?_
      obtain ⟨x16, hx16, h⟩ := ob h
      refine k_call cal24 rfl (disk_Disk_Copy_w  h1_0 hx16) rfl ?_
      rintro s26 v26_0 st26 ⟨ku26_0, _, rfl, hk26_0, h26_0⟩
      have szs26 := st26.size
      have hS := hS.trans0 st26
      replace hp2 := hp2.up2 st26
      replace h1_0 := h1_0.up2 st26
      have ol26_0 := OptODiskDisk.le (k := ku26_0) h26_0
      refine k_assign rfl rfl ?_
      refine k_nil ?_
      refine k_keep [(2, _), (3, _), (4, _), (5, _), (12, _), (13, _), (16, _)] ⟨rfl, rfl, rfl, rfl, rfl, rfl, rfl, trivial⟩ ?_
      refine k_seq ?_
      refine k_seq ?_
      refine k_region ?_
      refine k_move rfl rfl ?_
      refine k_move rfl rfl ?_
      refine k_move rfl rfl ?_
      refine k_move rfl rfl ?_
      obtain ⟨x17, hx17, h⟩ := ob h
      refine k_call cal25 rfl (disk_Disk_Fuse_w  h1_0 hx17) rfl ?_
      rintro s27 vr27 st27 ⟨rfl, h1_0⟩
      have szs27 := st27.size
      have hS := hS.c0 st27
      replace hp2 := hp2.up2 st27
      replace h26_0 : OptODiskDisk s27 ku26_0 v26_0 x16 := OptODiskDisk.up3 h26_0 ol26_0 st27
      refine k_neq rfl rfl rfl ?_
      refine k_nil ?_
      refine k_keep [(2, _), (3, _), (4, _), (5, _), (12, _), (13, _), (16, _), (68, _)] ⟨rfl, rfl, rfl, rfl, rfl, rfl, rfl, rfl, trivial⟩ ?_
      refine k_cond_dec rfl (fun c28 => ?_) (fun c28 => ?_)
      ·
       have h := itT h c28
       refine k_seq ?_
       refine k_region ?_
       refine k_assign rfl rfl ?_
       refine k_nil ?_
       refine k_keep [(2, _), (3, _), (4, _), (5, _), (12, _), (13, _), (16, _)] ⟨rfl, rfl, rfl, rfl, rfl, rfl, rfl, trivial⟩ ?_
       refine k_ret ?_
       obtain rfl := Option.some.inj h
       refine ⟨_, rfl, Ret.mk hS ?_⟩
       exact rfl
      ·
       have h := itF h c28
       refine k_skip ?_
       refine k_seq ?_
       obtain ⟨x18, hx18, h⟩ := ob h
       replace ol26_0 := ol26_0.resolve_left (fun e => by rw [e] at hx18; cases hx18)
       rw [hx18] at h26_0
       replace h26_0 : ODiskDisk s27 ku26_0 v26_0 x18 := h26_0
       have le29 := h26_0.le
       have ne29 := h26_0.ne
       refine k_keep [(2, _), (3, _), (4, _), (5, _), (12, _), (13, _), (16, _)] ⟨rfl, rfl, rfl, rfl, rfl, rfl, rfl, trivial⟩ ?_
       obtain ⟨kj19, hK30, h⟩ := jn_out h
       have hE30 := Step.r0 (KU (KO ku1_0) (KO ku26_0)) s27
       refine k_cutc (X := St × DiskDisk × DiskDisk) [(12, .bool false)] (fun (xL : St × DiskDisk × DiskDisk) => match xL with | (sl, x20, x21) => []) (fun (xL : St × DiskDisk × DiskDisk) (wL : World) => match xL with | (sl, x20, x21) => sl.w = wL ∧ Step (KU (KO ku1_0) (KO ku26_0)) s27 sl ∧ (ODiskDisk sl ku1_0 v1_0 x20) ∧ (ODiskDisk sl ku26_0 v26_0 x21) ∧ kj19 x20 x21 = some r) ?_ ?_
       ·
        refine k_seq ?_
        refine k_region ?_
        refine k_assign rfl rfl ?_
        refine k_nil ?_
        refine k_block ?_
        refine k_loopc (X := St × Int × Int × DiskDisk × DiskDisk × Nat) [(2, _), (4, _), (5, _), (12, _), (13, _), (16, _)] (fun (xL : St × Int × Int × DiskDisk × DiskDisk × Nat) => match xL with | (sl, x22, x23, x24, x25, j) => [(3, .int .i64 x22), (17, .int .i64 x23)]) (fun (xL : St × Int × Int × DiskDisk × DiskDisk × Nat) (wL : World) => match xL with | (sl, x22, x23, x24, x25, j) => sl.w = wL ∧ Step (KU (KO ku1_0) (KO ku26_0)) s27 sl ∧ (ODiskDisk sl ku1_0 v1_0 x24) ∧ (ODiskDisk sl ku26_0 v26_0 x25) ∧ law05_DiskFuse_l2 a2 a4 a5 kj19 j x22 x23 x24 x25 = some r) (fun (xL : St × Int × Int × DiskDisk × DiskDisk × Nat) => match xL with | (sl, x22, x23, x24, x25, j) => j) (s27, a3, 0, x17.2, x18, FU) ⟨rfl, rfl, rfl, rfl, rfl, rfl, trivial⟩ ⟨(by first | rfl | (simp <;> rfl)), (by first | rfl | (simp <;> rfl)), trivial⟩ ⟨rfl, (Step.refl _).of0 (by first | exact fun _ h => h | (intro c h; simp [KC, KO, KU, KN, KB] at h <;> omega)), h1_0, h26_0, h⟩ ?_
        rintro ⟨s32, x22, x23, x24, x25, j⟩ wL ⟨rfl, hE31, h1_0, h26_0, h⟩
        cases j with
        | zero => rw [law05_DiskFuse_l2] at h; exact (noneNe h).elim
        | succ j =>
        rw [law05_DiskFuse_l2] at h
        have szs32 := hE31.size
        have hS := hS.c0 hE31
        have hE30 := hE30.c0 hE31
        replace hp2 := hp2.up2 hE31
        refine k_seq ?_
        refine k_seq ?_
        refine k_region ?_
        refine k_move rfl rfl ?_
        refine k_move rfl rfl ?_
        refine k_len Tryd.underlying22 rfl hp2.hasLen rfl ?_
        refine k_as (v := .int .i64 (a2.length : Int)) (by simp only [List.length_map]) ?_
        refine k_lss rfl rfl rfl ?_
        refine k_nil ?_
        refine k_keep [(2, _), (3, _), (4, _), (5, _), (12, _), (13, _), (16, _), (17, _), (72, _)] ⟨rfl, rfl, rfl, rfl, rfl, rfl, rfl, rfl, rfl, trivial⟩ ?_
        refine k_cond_dec rfl (fun c33 => ?_) (fun c33 => ?_)
        ·
         have h := itT h c33
         refine k_skip ?_
         refine k_seq ?_
         refine k_block ?_
         refine k_seq ?_
         refine k_seq ?_
         refine k_region ?_
         refine k_move rfl rfl ?_
         refine k_move rfl rfl ?_
         obtain ⟨x26, hx26, h⟩ := ob h
         refine k_ixaddr Tryd.underlying22 size31 rfl rfl hp2 (geti_out hx26).1 (geti_map hx26) rfl ?_
         intro qx26 hqx26
         refine k_field_at (o := 0) rfl hqx26 (by rfl) fld31_0 rfl ?_
         intro q34 h34
         refine k_load_val one3 rfl h34 rfl ?_
         refine k_lss rfl rfl rfl ?_
         refine k_move rfl rfl ?_
         obtain ⟨x27, hx27, h⟩ := ob h
         have hE35 := Step.r0 K0 s32
         refine k_cutl (X := St) 7 [(2, v2), (3, .int .i64 x22), (4, .int .i64 a4), (5, .int .i64 a5), (12, .bool false), (13, v1_0), (16, v26_0), (17, .int .i64 x23), (72, .bool (decide (x23 < (a2.length : Int)))), (75, v2), (76, .int .i64 x23), (77, qx26), (78, q34), (79, .int .i64 x26.Do), (80, .bool (decide (x26.Do < 0)))] (fun _ => [(88, .bool x27)]) (fun sl wL => sl.w = wL ∧ Step K0 s32 sl) ?_ ?_
         ·
          refine k_again 81 rfl ?_
          refine k_split (fun c36 => ?_) (fun c36 => ?_)
          ·
           have hx27 := itT hx27 c36
           refine k_no rfl rfl rfl rfl ?_
           refine k_no rfl rfl rfl rfl ?_
           refine k_no rfl rfl rfl rfl ?_
           refine k_no rfl rfl rfl rfl ?_
           refine k_no rfl rfl rfl rfl ?_
           refine k_no rfl rfl rfl rfl ?_
           refine k_pickT rfl rfl rfl rfl ?_
           exact k_met ⟨s32, ⟨(congrArg (fun b => some (Value.bool b)) (Option.some.inj hx27)), trivial⟩, ⟨rfl, rfl, rfl, rfl, rfl, rfl, rfl, rfl, rfl, rfl, rfl, rfl, rfl, rfl, rfl, trivial⟩, rfl, hE35⟩
          ·
           have hx27 := itF hx27 c36
           refine k_yes rfl rfl ?_
           refine k_move rfl rfl ?_
           refine k_yes rfl rfl ?_
           refine k_move rfl rfl ?_
           refine k_yes rfl rfl ?_
           obtain ⟨x28, hx28, hx27⟩ := ob hx27
           refine k_ixaddr Tryd.underlying22 size31 rfl rfl hp2 (geti_out hx28).1 (geti_map hx28) rfl ?_
           intro qx28 hqx28
           refine k_yes rfl rfl ?_
           refine k_field_at (o := 0) rfl hqx28 (by rfl) fld31_0 rfl ?_
           intro q37 h37
           refine k_yes rfl rfl ?_
           refine k_load_val one3 rfl h37 rfl ?_
           refine k_yes rfl rfl ?_
           refine k_gtr rfl rfl rfl ?_
           refine k_pickF rfl rfl rfl rfl ?_
           exact k_met ⟨s32, ⟨(congrArg (fun b => some (Value.bool b)) (Option.some.inj hx27)), trivial⟩, ⟨rfl, rfl, rfl, rfl, rfl, rfl, rfl, rfl, rfl, rfl, rfl, rfl, rfl, rfl, rfl, trivial⟩, rfl, hE35⟩
         ·
          rintro s38 wL ⟨rfl, hE35⟩
          have szs38 := hE35.size
          have hS := hS.trans0 hE35
          have hE30 := hE30.trans0 hE35
          have hE31 := hE31.trans0 hE35
          replace hp2 := hp2.up2 hE35
          replace h1_0 := h1_0.up2 hE35
          replace h26_0 := h26_0.up2 hE35
          refine k_nil ?_
          refine k_keep [(2, _), (3, _), (4, _), (5, _), (12, _), (13, _), (16, _), (17, _), (88, _)] ⟨rfl, rfl, rfl, rfl, rfl, rfl, rfl, rfl, rfl, trivial⟩ ?_
          refine k_cond rfl (fun c39 => ?_) (fun c39 => ?_)
          ·
           have h := ibT h c39
           refine k_exit rfl ?_
           refine k_region ?_
           refine k_move rfl rfl ?_
           refine k_add rfl rfl rfl ?_
           refine k_assign rfl rfl ?_
           refine k_nil ?_
           exact k_stop ⟨(s38, x22, i64 (x23 + 1), x24, x25, j), ⟨(by first | rfl | (simp <;> rfl)), (by first | rfl | (simp <;> rfl)), trivial⟩, ⟨rfl, rfl, rfl, rfl, rfl, rfl, trivial⟩, ⟨rfl, hE31, h1_0, h26_0, h⟩, (by simp)⟩
          ·
           have h := ibF h c39
           refine k_skip ?_
           refine k_seq ?_
           refine k_region ?_
           refine k_move rfl rfl ?_
           obtain ⟨x29, hx29, h⟩ := ob h
           refine k_call cal24 rfl (disk_Disk_Copy_w  h26_0 hx29) rfl ?_
           rintro s40 v40_0 st40 ⟨ku40_0, _, rfl, hk40_0, h40_0⟩
           have szs40 := st40.size
           have hS := hS.trans0 st40
           have hE30 := hE30.trans0 st40
           have hE31 := hE31.trans0 st40
           replace hp2 := hp2.up2 st40
           replace h1_0 := h1_0.up2 st40
           replace h26_0 := h26_0.up2 st40
           have ol40_0 := OptODiskDisk.le (k := ku40_0) h40_0
           refine k_assign rfl rfl ?_
           refine k_nil ?_
           refine k_keep [(2, _), (3, _), (4, _), (5, _), (12, _), (13, _), (16, _), (17, _), (18, _)] ⟨rfl, rfl, rfl, rfl, rfl, rfl, rfl, rfl, rfl, trivial⟩ ?_
           refine k_seq ?_
           refine k_drawT (KU (KN s40.n) (KO ku1_0)) 11 (.read 0 (.read 1 (.read 2 (.read 3 (.read 4 (.read 6 (.read 7 (.read 8 (.read 9 (.read 10 (.alt 5 .fin .no))))))))))) mixed (by intro c h; (try simp only [KC, KO, KU, KN, KB] at h) <;> omega) rfl rfl rfl ?_
           intro s41 st41
           have szs41 := st41.size
           have hS := hS.trans0 st41
           have hE30 := hE30.trans0 st41
           have hE31 := hE31.trans0 st41
           replace hp2 := hp2.up2 st41
           replace h1_0 := h1_0.up2 st41
           replace h26_0 := h26_0.up2 st41
           replace h40_0 : OptODiskDisk s41 ku40_0 v40_0 x29 := OptODiskDisk.up3 h40_0 ol40_0 st41
           refine rt_read (v1_0) rfl rfl (fun s42 st42 => ?_) ?_
           ·refine k_move rfl rfl ?_
            exact fq_end
           refine rt_read (v2) rfl rfl (fun s43 st43 => ?_) ?_
           ·refine k_move rfl rfl ?_
            exact fq_end
           refine rt_read (.int .i64 x23) rfl rfl (fun s44 st44 => ?_) ?_
           ·refine k_move rfl rfl ?_
            exact fq_end
           obtain ⟨x30, hx30, h⟩ := ob h
           refine rt_ix rfl (wanted_none rfl) Tryd.underlying22 size31 rfl rfl hp2 (geti_out hx30).1 (geti_map hx30) rfl ?_
           intro q45 hq45
           refine rt_ldagg rfl (wanted_none rfl) (by exact agg31) rfl hq45 (by first | exact id | (simp only [KC, KO, KU, KN, KB] <;> omega)) rfl ?_
           intro cs46 h46
           obtain ⟨q46_0, rfl, hq46_0⟩ := opnLaw05Call h46
           refine rt_read (v26_0) rfl rfl (fun s47 st47 => ?_) ?_
           ·refine k_move rfl rfl ?_
            exact fq_end
           refine rt_read (v2) rfl rfl (fun s48 st48 => ?_) ?_
           ·refine k_move rfl rfl ?_
            exact fq_end
           refine rt_read (.int .i64 x23) rfl rfl (fun s49 st49 => ?_) ?_
           ·refine k_move rfl rfl ?_
            exact fq_end
           obtain ⟨x31, hx31, h⟩ := ob h
           refine rt_ix rfl (wanted_none rfl) Tryd.underlying22 size31 rfl rfl hp2 (geti_out hx31).1 (geti_map hx31) rfl ?_
           intro q50 hq50
           refine rt_ldagg rfl (wanted_none rfl) (by exact agg31) rfl hq50 (by first | exact id | (simp only [KC, KO, KU, KN, KB] <;> omega)) rfl ?_
           intro cs51 h51
           obtain ⟨q51_0, rfl, hq51_0⟩ := opnLaw05Call h51
           refine rt_act rfl rfl ?_
           have hA52 := Step.r0 (KU (KN s40.n) (KO ku1_0)) s41
           obtain ⟨x32, hx32, h⟩ := ob h
           refine k_call cal15 rfl (law05_call_w (a1 := x30) h1_0 (SL.of_R hq46_0) (by first | assumption | omega | (simp <;> omega)) hx32) rfl ?_
           rintro s53 vr53 st53 ⟨rfl, h1_0⟩
           have szs53 := st53.size
           have hS := hS.c0 st53
           have hE30 := hE30.c0 st53
           have hE31 := hE31.c0 st53
           have hA52 := hA52.c0 st53
           replace hp2 := hp2.up2 st53
           replace hq51_0 := hq51_0.up2 st53
           replace h26_0 := h26_0.up2 st53
           replace h40_0 : OptODiskDisk s53 ku40_0 v40_0 x29 := OptODiskDisk.up3 h40_0 ol40_0 st53
           refine rt_cont hA52 ?_
           refine rt_fin ?_
           obtain ⟨x33, hx33, h⟩ := ob h
           refine k_call cal15 rfl (law05_call_w (a1 := x31) h26_0 (SL.of_R hq51_0) (by first | assumption | omega | (simp <;> omega)) hx33) rfl ?_
           rintro s54 vr54 st54 ⟨rfl, h26_0⟩
           have szs54 := st54.size
           have hS := hS.c0 st54
           have hE30 := hE30.c0 st54
           have hE31 := hE31.c0 st54
           replace hp2 := hp2.up2 st54
           replace h1_0 := h1_0.up2 st54
           replace h40_0 : OptODiskDisk s54 ku40_0 v40_0 x29 := OptODiskDisk.up3 h40_0 ol40_0 st54
           refine k_assign rfl rfl ?_
           refine k_assign rfl rfl ?_
           refine k_nil ?_
           refine k_keep [(2, _), (3, _), (4, _), (5, _), (12, _), (13, _), (16, _), (17, _), (18, _), (19, _), (20, _)] ⟨rfl, rfl, rfl, rfl, rfl, rfl, rfl, rfl, rfl, rfl, rfl, trivial⟩ ?_
           refine k_seq ?_
           obtain ⟨kj34, hK55, h⟩ := jn_out h
           have hE55 := Step.r0 K0 s54
           refine k_cutc (X := St × Int) [(2, v2), (4, .int .i64 a4), (5, .int .i64 a5), (12, .bool false), (13, v1_0), (16, v26_0), (17, .int .i64 x23), (18, v40_0), (19, .int .i64 x32.1), (20, .int .i64 x33.1)] (fun (xL : St × Int) => match xL with | (sl, x35) => [(3, .int .i64 x35)]) (fun (xL : St × Int) (wL : World) => match xL with | (sl, x35) => sl.w = wL ∧ Step K0 s54 sl ∧ kj34 x35 = some r) ?_ ?_
           ·
            refine k_seq ?_
            refine k_region ?_
            refine k_move rfl rfl ?_
            refine k_eql rfl rfl rfl ?_
            refine k_nil ?_
            refine k_keep [(2, _), (3, _), (4, _), (5, _), (12, _), (13, _), (16, _), (17, _), (18, _), (19, _), (20, _), (104, _)] ⟨rfl, rfl, rfl, rfl, rfl, rfl, rfl, rfl, rfl, rfl, rfl, rfl, trivial⟩ ?_
            refine k_cond_dec rfl (fun c56 => ?_) (fun c56 => ?_)
            ·
             have h := itT h c56
             refine k_region ?_
             refine k_move rfl rfl ?_
             refine k_sub_ rfl rfl rfl ?_
             refine k_assign rfl rfl ?_
             refine k_nil ?_
             exact k_stop ⟨(s54, i64 (x22 - 1)), ⟨(by first | rfl | (simp <;> rfl)), trivial⟩, ⟨rfl, rfl, rfl, rfl, rfl, rfl, rfl, rfl, rfl, rfl, trivial⟩, ⟨rfl, hE55, h⟩⟩
            ·
             have h := itF h c56
             refine k_skip ?_
             exact k_stop ⟨(s54, x22), ⟨(by first | rfl | (simp <;> rfl)), trivial⟩, ⟨rfl, rfl, rfl, rfl, rfl, rfl, rfl, rfl, rfl, rfl, trivial⟩, ⟨rfl, hE55, h⟩⟩
           ·
            rintro ⟨s57, x35⟩ wL ⟨rfl, hE55, h⟩
            rw [hK55] at h
            have szs57 := hE55.size
            have hS := hS.trans0 hE55
            have hE30 := hE30.trans0 hE55
            have hE31 := hE31.trans0 hE55
            replace hp2 := hp2.up2 hE55
            replace h1_0 := h1_0.up2 hE55
            replace h26_0 := h26_0.up2 hE55
            replace h40_0 : OptODiskDisk s57 ku40_0 v40_0 x29 := OptODiskDisk.up3 h40_0 ol40_0 hE55
            refine k_seq ?_
            refine k_seq ?_
            refine k_region ?_
            refine k_move rfl rfl ?_
            refine k_gtr rfl rfl rfl ?_
            refine k_nil ?_
            refine k_keep [(2, _), (3, _), (4, _), (5, _), (12, _), (13, _), (16, _), (17, _), (18, _), (19, _), (20, _), (108, _)] ⟨rfl, rfl, rfl, rfl, rfl, rfl, rfl, rfl, rfl, rfl, rfl, rfl, trivial⟩ ?_
            refine k_cond_dec rfl (fun c58 => ?_) (fun c58 => ?_)
            ·
             have h := itT h c58
             refine k_seq ?_
             refine k_seq ?_
             refine k_region ?_
             refine k_move rfl rfl ?_
             refine k_move rfl rfl ?_
             refine k_neq rfl rfl rfl ?_
             refine k_move rfl rfl ?_
             obtain ⟨x36, hx36, h⟩ := ob h
             have hE59 := Step.r0 K0 s57
             refine k_cutl (X := St) 5 [(2, v2), (3, .int .i64 x35), (4, .int .i64 a4), (5, .int .i64 a5), (12, .bool false), (13, v1_0), (16, v26_0), (17, .int .i64 x23), (18, v40_0), (19, .int .i64 x32.1), (20, .int .i64 x33.1), (108, .bool (decide (0 < x35))), (109, .int .i64 x32.1), (110, .int .i64 x33.1), (111, .bool (decide (x32.1 ≠ x33.1)))] (fun _ => [(117, .bool x36)]) (fun sl wL => sl.w = wL ∧ Step K0 s57 sl) ?_ ?_
             ·
              refine k_again 112 rfl ?_
              refine k_split (fun c60 => ?_) (fun c60 => ?_)
              ·
               have hx36 := itT hx36 c60
               refine k_no rfl rfl rfl rfl ?_
               refine k_no rfl rfl rfl rfl ?_
               refine k_no rfl rfl rfl rfl ?_
               refine k_no rfl rfl rfl rfl ?_
               refine k_pickT rfl rfl rfl rfl ?_
               exact k_met ⟨s57, ⟨(congrArg (fun b => some (Value.bool b)) (Option.some.inj hx36)), trivial⟩, ⟨rfl, rfl, rfl, rfl, rfl, rfl, rfl, rfl, rfl, rfl, rfl, rfl, rfl, rfl, rfl, trivial⟩, rfl, hE59⟩
              ·
               have hx36 := itF hx36 c60
               refine k_yes rfl rfl ?_
               refine k_move rfl rfl ?_
               refine k_yes rfl rfl ?_
               refine k_move rfl rfl ?_
               refine k_yes rfl rfl ?_
               obtain ⟨x37, hx37, hx36⟩ := ob hx36
               refine k_call cal20 rfl (law05_alike_w  h26_0 h1_0 hx37) rfl ?_
               rintro s61 vr61 st61 rfl
               have szs61 := st61.size
               have hS := hS.trans0 st61
               have hE30 := hE30.trans0 st61
               have hE31 := hE31.trans0 st61
               have hE59 := hE59.trans0 st61
               replace h40_0 : OptODiskDisk s61 ku40_0 v40_0 x29 := OptODiskDisk.up3 h40_0 ol40_0 st61
               refine k_yes rfl rfl ?_
               refine k_not rfl rfl ?_
               refine k_pickF rfl rfl rfl rfl ?_
               exact k_met ⟨s61, ⟨(congrArg (fun b => some (Value.bool b)) (Option.some.inj hx36)), trivial⟩, ⟨rfl, rfl, rfl, rfl, rfl, rfl, rfl, rfl, rfl, rfl, rfl, rfl, rfl, rfl, rfl, trivial⟩, rfl, hE59⟩
             ·
              rintro s62 wL ⟨rfl, hE59⟩
              have szs62 := hE59.size
              have hS := hS.trans0 hE59
              have hE30 := hE30.trans0 hE59
              have hE31 := hE31.trans0 hE59
              replace h1_0 := h1_0.up2 hE59
              replace h26_0 := h26_0.up2 hE59
              replace h40_0 : OptODiskDisk s62 ku40_0 v40_0 x29 := OptODiskDisk.up3 h40_0 ol40_0 hE59
              refine k_nil ?_
              refine k_keep [(2, _), (3, _), (4, _), (5, _), (12, _), (13, _), (16, _), (17, _), (18, _), (19, _), (117, _)] ⟨rfl, rfl, rfl, rfl, rfl, rfl, rfl, rfl, rfl, rfl, rfl, trivial⟩ ?_
              refine k_cond rfl (fun c63 => ?_) (fun c63 => ?_)
              ·
               have h := ibT h c63
               refine k_seq ?_
               refine k_region ?_
               refine k_assign rfl rfl ?_
               refine k_nil ?_
               refine k_keep [(2, _), (3, _), (4, _), (5, _), (12, _), (13, _), (16, _), (17, _), (18, _), (19, _)] ⟨rfl, rfl, rfl, rfl, rfl, rfl, rfl, rfl, rfl, rfl, trivial⟩ ?_
               refine k_ret ?_
               obtain rfl := Option.some.inj h
               refine ⟨_, rfl, Ret.mk hS ?_⟩
               exact rfl
              ·
               have h := ibF h c63
               refine k_skip ?_
               refine k_exit rfl ?_
               refine k_region ?_
               refine k_move rfl rfl ?_
               refine k_add rfl rfl rfl ?_
               refine k_assign rfl rfl ?_
               refine k_nil ?_
               exact k_stop ⟨(s62, x35, i64 (x23 + 1), x32.2, x33.2, j), ⟨(by first | rfl | (simp <;> rfl)), (by first | rfl | (simp <;> rfl)), trivial⟩, ⟨rfl, rfl, rfl, rfl, rfl, rfl, trivial⟩, ⟨rfl, hE31, h1_0, h26_0, h⟩, (by simp)⟩
            ·
             have h := itF h c58
             refine k_skip ?_
             refine k_seq ?_
             refine k_seq ?_
             refine k_region ?_
             refine k_move rfl rfl ?_
             refine k_move rfl rfl ?_
             obtain ⟨x38, hx38, h⟩ := ob h
             refine k_ixaddr Tryd.underlying22 size31 rfl rfl hp2 (geti_out hx38).1 (geti_map hx38) rfl ?_
             intro qx38 hqx38
             refine k_field_at (o := 0) rfl hqx38 (by rfl) fld31_0 rfl ?_
             intro q64 h64
             refine k_load_val one3 rfl h64 rfl ?_
             refine k_eql rfl rfl rfl ?_
             refine k_nil ?_
             refine k_keep [(2, _), (3, _), (4, _), (5, _), (12, _), (13, _), (16, _), (17, _), (18, _), (19, _), (123, _)] ⟨rfl, rfl, rfl, rfl, rfl, rfl, rfl, rfl, rfl, rfl, rfl, trivial⟩ ?_
             refine k_cond_dec rfl (fun c65 => ?_) (fun c65 => ?_)
             ·
              have h := itT h c65
              refine k_region ?_
              refine k_move rfl rfl ?_
              refine k_assign rfl rfl ?_
              refine k_nil ?_
              refine k_keep [(2, _), (3, _), (4, _), (5, _), (12, _), (13, _), (16, _), (17, _), (19, _)] ⟨rfl, rfl, rfl, rfl, rfl, rfl, rfl, rfl, rfl, trivial⟩ ?_
              refine k_seq ?_
              refine k_region ?_
              refine k_move rfl rfl ?_
              refine k_move rfl rfl ?_
              refine k_move rfl rfl ?_
              obtain ⟨x39, hx39, h⟩ := ob h
              replace ol40_0 := ol40_0.resolve_left (fun e => by rw [e] at hx39; cases hx39)
              rw [hx39] at h40_0
              replace h40_0 : ODiskDisk s57 ku40_0 v40_0 x39 := h40_0
              have le66 := h40_0.le
              have ne66 := h40_0.ne
              obtain ⟨x40, hx40, h⟩ := ob h
              refine k_call cal17 rfl (disk_Disk_Crash_w  h40_0 hx40) rfl ?_
              rintro s67 vr67 st67 ⟨rfl, h40_0⟩
              have szs67 := st67.size
              have hS := hS.c0 st67
              have hE30 := hE30.c0 st67
              have hE31 := hE31.c0 st67
              replace h1_0 := h1_0.up2 st67
              refine k_nil ?_
              refine k_keep [(2, _), (3, _), (4, _), (5, _), (12, _), (13, _), (16, _), (17, _), (19, _)] ⟨rfl, rfl, rfl, rfl, rfl, rfl, rfl, rfl, rfl, trivial⟩ ?_
              refine k_seq ?_
              refine k_region ?_
              refine k_move rfl rfl ?_
              refine k_eql rfl rfl rfl ?_
              refine k_move rfl rfl ?_
              obtain ⟨x41, hx41, h⟩ := ob h
              have hE68 := Step.r0 K0 s67
              refine k_cutl (X := St) 3 [(2, v2), (3, .int .i64 x35), (4, .int .i64 a4), (5, .int .i64 a5), (12, .bool false), (13, v1_0), (16, v40_0), (17, .int .i64 x23), (19, .int .i64 x32.1), (129, .int .i64 x32.1), (130, .bool (decide (x32.1 = 12)))] (fun _ => [(134, .bool x41)]) (fun sl wL => sl.w = wL ∧ Step K0 s67 sl) ?_ ?_
              ·
               refine k_again 131 rfl ?_
               refine k_split (fun c69 => ?_) (fun c69 => ?_)
               ·
                have hx41 := itT hx41 c69
                refine k_yes rfl rfl ?_
                refine k_move rfl rfl ?_
                refine k_yes rfl rfl ?_
                obtain ⟨x42, hx42, hx41⟩ := ob hx41
                refine k_call cal18 rfl (disk_Disk_Down_w  h1_0 hx42) rfl ?_
                rintro s70 vr70 st70 rfl
                have szs70 := st70.size
                have hS := hS.trans0 st70
                have hE30 := hE30.trans0 st70
                have hE31 := hE31.trans0 st70
                have hE68 := hE68.trans0 st70
                refine k_pickT rfl rfl rfl rfl ?_
                exact k_met ⟨s70, ⟨(congrArg (fun b => some (Value.bool b)) (Option.some.inj hx41)), trivial⟩, ⟨rfl, rfl, rfl, rfl, rfl, rfl, rfl, rfl, rfl, rfl, rfl, trivial⟩, rfl, hE68⟩
               ·
                have hx41 := itF hx41 c69
                refine k_no rfl rfl rfl rfl ?_
                refine k_no rfl rfl rfl rfl ?_
                refine k_pickF rfl rfl rfl rfl ?_
                exact k_met ⟨s67, ⟨(congrArg (fun b => some (Value.bool b)) (Option.some.inj hx41)), trivial⟩, ⟨rfl, rfl, rfl, rfl, rfl, rfl, rfl, rfl, rfl, rfl, rfl, trivial⟩, rfl, hE68⟩
              ·
               rintro s71 wL ⟨rfl, hE68⟩
               have szs71 := hE68.size
               have hS := hS.trans0 hE68
               have hE30 := hE30.trans0 hE68
               have hE31 := hE31.trans0 hE68
               replace h1_0 := h1_0.up2 hE68
               replace h40_0 := h40_0.up2 hE68
               refine k_move rfl rfl ?_
               obtain ⟨x43, hx43, h⟩ := ob h
               have hE72 := Step.r0 (KO ku40_0) s71
               refine k_cutl (X := St) 4 [(2, v2), (3, .int .i64 x35), (4, .int .i64 a4), (5, .int .i64 a5), (12, .bool false), (13, v1_0), (16, v40_0), (17, .int .i64 x23), (19, .int .i64 x32.1), (129, .int .i64 x32.1), (130, .bool (decide (x32.1 = 12))), (134, .bool x41)] (fun _ => [(139, .bool x43.1)]) (fun sl wL => sl.w = wL ∧ Step (KO ku40_0) s71 sl ∧ ODiskDisk sl ku40_0 v40_0 x43.2) ?_ ?_
               ·
                refine k_again 135 rfl ?_
                refine k_splitb (fun c73 => ?_) (fun c73 => ?_)
                ·
                 have hx43 := ibT hx43 c73
                 refine k_yes rfl rfl ?_
                 refine k_move rfl rfl ?_
                 refine k_yes rfl rfl ?_
                 obtain ⟨x44, hx44, hx43⟩ := ob hx43
                 refine k_call cal19 rfl (disk_Disk_Start_w  h40_0 hx44) rfl ?_
                 rintro s74 vr74 st74 ⟨rfl, h40_0⟩
                 have szs74 := st74.size
                 have hS := hS.c0 st74
                 have hE30 := hE30.c0 st74
                 have hE31 := hE31.c0 st74
                 have hE72 := hE72.c0 st74
                 refine k_yes rfl rfl ?_
                 refine k_eql rfl rfl rfl ?_
                 refine k_pickT rfl rfl rfl rfl ?_
                 obtain rfl := Option.some.inj hx43
                 exact k_met ⟨s74, ⟨rfl, trivial⟩, ⟨rfl, rfl, rfl, rfl, rfl, rfl, rfl, rfl, rfl, rfl, rfl, rfl, trivial⟩, rfl, hE72, h40_0⟩
                ·
                 have hx43 := ibF hx43 c73
                 refine k_no rfl rfl rfl rfl ?_
                 refine k_no rfl rfl rfl rfl ?_
                 refine k_no rfl rfl rfl rfl ?_
                 refine k_pickF rfl rfl rfl rfl ?_
                 obtain rfl := Option.some.inj hx43
                 exact k_met ⟨s71, ⟨rfl, trivial⟩, ⟨rfl, rfl, rfl, rfl, rfl, rfl, rfl, rfl, rfl, rfl, rfl, rfl, trivial⟩, rfl, hE72, h40_0⟩
               ·
                rintro s75 wL ⟨rfl, hE72, h40_0⟩
                have szs75 := hE72.size
                have hS := hS.c0 hE72
                have hE30 := hE30.c0 hE72
                have hE31 := hE31.c0 hE72
                replace h1_0 := h1_0.up2 hE72
                refine k_move rfl rfl ?_
                obtain ⟨x45, hx45, h⟩ := ob h
                have hE76 := Step.r0 (KO ku1_0) s75
                refine k_cutl (X := St) 4 [(2, v2), (3, .int .i64 x35), (4, .int .i64 a4), (5, .int .i64 a5), (12, .bool false), (13, v1_0), (16, v40_0), (17, .int .i64 x23), (19, .int .i64 x32.1), (129, .int .i64 x32.1), (130, .bool (decide (x32.1 = 12))), (134, .bool x41), (139, .bool x43.1)] (fun _ => [(144, .bool x45.1)]) (fun sl wL => sl.w = wL ∧ Step (KO ku1_0) s75 sl ∧ ODiskDisk sl ku1_0 v1_0 x45.2) ?_ ?_
                ·
                 refine k_again 140 rfl ?_
                 refine k_splitb (fun c77 => ?_) (fun c77 => ?_)
                 ·
                  have hx45 := ibT hx45 c77
                  refine k_yes rfl rfl ?_
                  refine k_move rfl rfl ?_
                  refine k_yes rfl rfl ?_
                  obtain ⟨x46, hx46, hx45⟩ := ob hx45
                  refine k_call cal19 rfl (disk_Disk_Start_w  h1_0 hx46) rfl ?_
                  rintro s78 vr78 st78 ⟨rfl, h1_0⟩
                  have szs78 := st78.size
                  have hS := hS.c0 st78
                  have hE30 := hE30.c0 st78
                  have hE31 := hE31.c0 st78
                  have hE76 := hE76.c0 st78
                  refine k_yes rfl rfl ?_
                  refine k_eql rfl rfl rfl ?_
                  refine k_pickT rfl rfl rfl rfl ?_
                  obtain rfl := Option.some.inj hx45
                  exact k_met ⟨s78, ⟨rfl, trivial⟩, ⟨rfl, rfl, rfl, rfl, rfl, rfl, rfl, rfl, rfl, rfl, rfl, rfl, rfl, trivial⟩, rfl, hE76, h1_0⟩
                 ·
                  have hx45 := ibF hx45 c77
                  refine k_no rfl rfl rfl rfl ?_
                  refine k_no rfl rfl rfl rfl ?_
                  refine k_no rfl rfl rfl rfl ?_
                  refine k_pickF rfl rfl rfl rfl ?_
                  obtain rfl := Option.some.inj hx45
                  exact k_met ⟨s75, ⟨rfl, trivial⟩, ⟨rfl, rfl, rfl, rfl, rfl, rfl, rfl, rfl, rfl, rfl, rfl, rfl, rfl, trivial⟩, rfl, hE76, h1_0⟩
                ·
                 rintro s79 wL ⟨rfl, hE76, h1_0⟩
                 have szs79 := hE76.size
                 have hS := hS.c0 hE76
                 have hE30 := hE30.c0 hE76
                 have hE31 := hE31.c0 hE76
                 replace h40_0 := h40_0.up2 hE76
                 refine k_move rfl rfl ?_
                 obtain ⟨x47, hx47, h⟩ := ob h
                 have hE80 := Step.r0 K0 s79
                 refine k_cutl (X := St) 4 [(2, v2), (3, .int .i64 x35), (4, .int .i64 a4), (5, .int .i64 a5), (12, .bool false), (13, v1_0), (16, v40_0), (17, .int .i64 x23), (19, .int .i64 x32.1), (129, .int .i64 x32.1), (130, .bool (decide (x32.1 = 12))), (134, .bool x41), (139, .bool x43.1), (144, .bool x45.1)] (fun _ => [(149, .bool x47)]) (fun sl wL => sl.w = wL ∧ Step K0 s79 sl) ?_ ?_
                 ·
                  refine k_again 145 rfl ?_
                  refine k_splitb (fun c81 => ?_) (fun c81 => ?_)
                  ·
                   have hx47 := ibT hx47 c81
                   refine k_yes rfl rfl ?_
                   refine k_move rfl rfl ?_
                   refine k_yes rfl rfl ?_
                   refine k_move rfl rfl ?_
                   refine k_yes rfl rfl ?_
                   obtain ⟨x48, hx48, hx47⟩ := ob hx47
                   refine k_call cal20 rfl (law05_alike_w  h40_0 h1_0 hx48) rfl ?_
                   rintro s82 vr82 st82 rfl
                   have szs82 := st82.size
                   have hS := hS.trans0 st82
                   have hE30 := hE30.trans0 st82
                   have hE31 := hE31.trans0 st82
                   have hE80 := hE80.trans0 st82
                   refine k_pickT rfl rfl rfl rfl ?_
                   exact k_met ⟨s82, ⟨(congrArg (fun b => some (Value.bool b)) (Option.some.inj hx47)), trivial⟩, ⟨rfl, rfl, rfl, rfl, rfl, rfl, rfl, rfl, rfl, rfl, rfl, rfl, rfl, rfl, trivial⟩, rfl, hE80⟩
                  ·
                   have hx47 := ibF hx47 c81
                   refine k_no rfl rfl rfl rfl ?_
                   refine k_no rfl rfl rfl rfl ?_
                   refine k_no rfl rfl rfl rfl ?_
                   refine k_pickF rfl rfl rfl rfl ?_
                   exact k_met ⟨s79, ⟨(congrArg (fun b => some (Value.bool b)) (Option.some.inj hx47)), trivial⟩, ⟨rfl, rfl, rfl, rfl, rfl, rfl, rfl, rfl, rfl, rfl, rfl, rfl, rfl, rfl, trivial⟩, rfl, hE80⟩
                 ·
                  rintro s83 wL ⟨rfl, hE80⟩
                  have szs83 := hE80.size
                  have hS := hS.trans0 hE80
                  have hE30 := hE30.trans0 hE80
                  have hE31 := hE31.trans0 hE80
                  replace h1_0 := h1_0.up2 hE80
                  refine k_move rfl rfl ?_
                  obtain ⟨x49, hx49, h⟩ := ob h
                  have hE84 := Step.r0 (KO ku1_0) s83
                  refine k_cutl (X := St) 4 [(2, v2), (3, .int .i64 x35), (4, .int .i64 a4), (5, .int .i64 a5), (12, .bool false), (13, v1_0), (16, v40_0), (17, .int .i64 x23), (19, .int .i64 x32.1), (129, .int .i64 x32.1), (130, .bool (decide (x32.1 = 12))), (134, .bool x41), (139, .bool x43.1), (144, .bool x45.1), (149, .bool x47)] (fun _ => [(154, .bool x49.1)]) (fun sl wL => sl.w = wL ∧ Step (KO ku1_0) s83 sl ∧ ODiskDisk sl ku1_0 v1_0 x49.2) ?_ ?_
                  ·
                   refine k_again 150 rfl ?_
                   refine k_splitb (fun c85 => ?_) (fun c85 => ?_)
                   ·
                    have hx49 := ibT hx49 c85
                    refine k_yes rfl rfl ?_
                    refine k_move rfl rfl ?_
                    refine k_yes rfl rfl ?_
                    obtain ⟨x50, hx50, hx49⟩ := ob hx49
                    refine k_call cal16 rfl (disk_Disk_Sync_w  h1_0 hx50) rfl ?_
                    rintro s86 vr86 st86 ⟨rfl, h1_0⟩
                    have szs86 := st86.size
                    have hS := hS.c0 st86
                    have hE30 := hE30.c0 st86
                    have hE31 := hE31.c0 st86
                    have hE84 := hE84.c0 st86
                    refine k_yes rfl rfl ?_
                    refine k_eql rfl rfl rfl ?_
                    refine k_pickT rfl rfl rfl rfl ?_
                    obtain rfl := Option.some.inj hx49
                    exact k_met ⟨s86, ⟨rfl, trivial⟩, ⟨rfl, rfl, rfl, rfl, rfl, rfl, rfl, rfl, rfl, rfl, rfl, rfl, rfl, rfl, rfl, trivial⟩, rfl, hE84, h1_0⟩
                   ·
                    have hx49 := ibF hx49 c85
                    refine k_no rfl rfl rfl rfl ?_
                    refine k_no rfl rfl rfl rfl ?_
                    refine k_no rfl rfl rfl rfl ?_
                    refine k_pickF rfl rfl rfl rfl ?_
                    obtain rfl := Option.some.inj hx49
                    exact k_met ⟨s83, ⟨rfl, trivial⟩, ⟨rfl, rfl, rfl, rfl, rfl, rfl, rfl, rfl, rfl, rfl, rfl, rfl, rfl, rfl, rfl, trivial⟩, rfl, hE84, h1_0⟩
                  ·
                   rintro s87 wL ⟨rfl, hE84, h1_0⟩
                   have szs87 := hE84.size
                   have hS := hS.c0 hE84
                   have hE30 := hE30.c0 hE84
                   have hE31 := hE31.c0 hE84
                   refine k_move rfl rfl ?_
                   obtain ⟨x51, hx51, h⟩ := ob h
                   have hE88 := Step.r0 K0 s87
                   refine k_cutl (X := St) 2 [(2, v2), (3, .int .i64 x35), (4, .int .i64 a4), (5, .int .i64 a5), (12, .bool false), (13, v1_0), (16, v40_0), (17, .int .i64 x23), (19, .int .i64 x32.1), (129, .int .i64 x32.1), (130, .bool (decide (x32.1 = 12))), (134, .bool x41), (139, .bool x43.1), (144, .bool x45.1), (149, .bool x47), (154, .bool x49.1)] (fun _ => [(157, .bool x51)]) (fun sl wL => sl.w = wL ∧ Step K0 s87 sl) ?_ ?_
                   ·
                    refine k_again 155 rfl ?_
                    refine k_splitb (fun c89 => ?_) (fun c89 => ?_)
                    ·
                     have hx51 := ibT hx51 c89
                     refine k_yes rfl rfl ?_
                     obtain ⟨x52, hx52, hx51⟩ := ob hx51
                     refine k_call cal13 rfl (law05_awake_w   hx52) rfl ?_
                     rintro s90 vr90 st90 rfl
                     have szs90 := st90.size
                     have hS := hS.trans0 st90
                     have hE30 := hE30.trans0 st90
                     have hE31 := hE31.trans0 st90
                     have hE88 := hE88.trans0 st90
                     refine k_pickT rfl rfl rfl rfl ?_
                     exact k_met ⟨s90, ⟨(congrArg (fun b => some (Value.bool b)) (Option.some.inj hx51)), trivial⟩, ⟨rfl, rfl, rfl, rfl, rfl, rfl, rfl, rfl, rfl, rfl, rfl, rfl, rfl, rfl, rfl, rfl, trivial⟩, rfl, hE88⟩
                    ·
                     have hx51 := ibF hx51 c89
                     refine k_no rfl rfl rfl rfl ?_
                     refine k_pickF rfl rfl rfl rfl ?_
                     exact k_met ⟨s87, ⟨(congrArg (fun b => some (Value.bool b)) (Option.some.inj hx51)), trivial⟩, ⟨rfl, rfl, rfl, rfl, rfl, rfl, rfl, rfl, rfl, rfl, rfl, rfl, rfl, rfl, rfl, rfl, trivial⟩, rfl, hE88⟩
                   ·
                    rintro s91 wL ⟨rfl, hE88⟩
                    have szs91 := hE88.size
                    have hS := hS.trans0 hE88
                    have hE30 := hE30.trans0 hE88
                    have hE31 := hE31.trans0 hE88
                    refine k_assign rfl rfl ?_
                    refine k_nil ?_
                    refine k_keep [(2, _), (3, _), (4, _), (5, _), (12, _), (13, _), (16, _), (17, _)] ⟨rfl, rfl, rfl, rfl, rfl, rfl, rfl, rfl, trivial⟩ ?_
                    refine k_ret ?_
                    obtain rfl := Option.some.inj h
                    refine ⟨_, rfl, Ret.mk hS ?_⟩
                    exact rfl
             ·
              have h := itF h c65
              refine k_skip ?_
              refine k_seq ?_
              refine k_region ?_
              refine k_move rfl rfl ?_
              refine k_move rfl rfl ?_
              refine k_move rfl rfl ?_
              obtain ⟨x53, hx53, h⟩ := ob h
              refine k_call cal17 rfl (disk_Disk_Crash_w  h26_0 hx53) rfl ?_
              rintro s92 vr92 st92 ⟨rfl, h26_0⟩
              have szs92 := st92.size
              have hS := hS.c0 st92
              have hE30 := hE30.c0 st92
              have hE31 := hE31.c0 st92
              replace h1_0 := h1_0.up2 st92
              replace h40_0 : OptODiskDisk s92 ku40_0 v40_0 x29 := OptODiskDisk.up3 h40_0 ol40_0 st92
              refine k_nil ?_
              refine k_keep [(2, _), (3, _), (4, _), (5, _), (12, _), (13, _), (16, _), (17, _), (19, _)] ⟨rfl, rfl, rfl, rfl, rfl, rfl, rfl, rfl, rfl, trivial⟩ ?_
              refine k_seq ?_
              refine k_region ?_
              refine k_move rfl rfl ?_
              refine k_eql rfl rfl rfl ?_
              refine k_move rfl rfl ?_
              obtain ⟨x54, hx54, h⟩ := ob h
              have hE93 := Step.r0 K0 s92
              refine k_cutl (X := St) 3 [(2, v2), (3, .int .i64 x35), (4, .int .i64 a4), (5, .int .i64 a5), (12, .bool false), (13, v1_0), (16, v26_0), (17, .int .i64 x23), (19, .int .i64 x32.1), (129, .int .i64 x32.1), (130, .bool (decide (x32.1 = 12)))] (fun _ => [(134, .bool x54)]) (fun sl wL => sl.w = wL ∧ Step K0 s92 sl) ?_ ?_
              ·
               refine k_again 131 rfl ?_
               refine k_split (fun c94 => ?_) (fun c94 => ?_)
               ·
                have hx54 := itT hx54 c94
                refine k_yes rfl rfl ?_
                refine k_move rfl rfl ?_
                refine k_yes rfl rfl ?_
                obtain ⟨x55, hx55, hx54⟩ := ob hx54
                refine k_call cal18 rfl (disk_Disk_Down_w  h1_0 hx55) rfl ?_
                rintro s95 vr95 st95 rfl
                have szs95 := st95.size
                have hS := hS.trans0 st95
                have hE30 := hE30.trans0 st95
                have hE31 := hE31.trans0 st95
                have hE93 := hE93.trans0 st95
                refine k_pickT rfl rfl rfl rfl ?_
                exact k_met ⟨s95, ⟨(congrArg (fun b => some (Value.bool b)) (Option.some.inj hx54)), trivial⟩, ⟨rfl, rfl, rfl, rfl, rfl, rfl, rfl, rfl, rfl, rfl, rfl, trivial⟩, rfl, hE93⟩
               ·
                have hx54 := itF hx54 c94
                refine k_no rfl rfl rfl rfl ?_
                refine k_no rfl rfl rfl rfl ?_
                refine k_pickF rfl rfl rfl rfl ?_
                exact k_met ⟨s92, ⟨(congrArg (fun b => some (Value.bool b)) (Option.some.inj hx54)), trivial⟩, ⟨rfl, rfl, rfl, rfl, rfl, rfl, rfl, rfl, rfl, rfl, rfl, trivial⟩, rfl, hE93⟩
              ·
               rintro s96 wL ⟨rfl, hE93⟩
               have szs96 := hE93.size
               have hS := hS.trans0 hE93
               have hE30 := hE30.trans0 hE93
               have hE31 := hE31.trans0 hE93
               replace h1_0 := h1_0.up2 hE93
               replace h26_0 := h26_0.up2 hE93
               refine k_move rfl rfl ?_
               obtain ⟨x56, hx56, h⟩ := ob h
               have hE97 := Step.r0 (KO ku26_0) s96
               refine k_cutl (X := St) 4 [(2, v2), (3, .int .i64 x35), (4, .int .i64 a4), (5, .int .i64 a5), (12, .bool false), (13, v1_0), (16, v26_0), (17, .int .i64 x23), (19, .int .i64 x32.1), (129, .int .i64 x32.1), (130, .bool (decide (x32.1 = 12))), (134, .bool x54)] (fun _ => [(139, .bool x56.1)]) (fun sl wL => sl.w = wL ∧ Step (KO ku26_0) s96 sl ∧ ODiskDisk sl ku26_0 v26_0 x56.2) ?_ ?_
               ·
                refine k_again 135 rfl ?_
                refine k_splitb (fun c98 => ?_) (fun c98 => ?_)
                ·
                 have hx56 := ibT hx56 c98
                 refine k_yes rfl rfl ?_
                 refine k_move rfl rfl ?_
                 refine k_yes rfl rfl ?_
                 obtain ⟨x57, hx57, hx56⟩ := ob hx56
                 refine k_call cal19 rfl (disk_Disk_Start_w  h26_0 hx57) rfl ?_
                 rintro s99 vr99 st99 ⟨rfl, h26_0⟩
                 have szs99 := st99.size
                 have hS := hS.c0 st99
                 have hE30 := hE30.c0 st99
                 have hE31 := hE31.c0 st99
                 have hE97 := hE97.c0 st99
                 refine k_yes rfl rfl ?_
                 refine k_eql rfl rfl rfl ?_
                 refine k_pickT rfl rfl rfl rfl ?_
                 obtain rfl := Option.some.inj hx56
                 exact k_met ⟨s99, ⟨rfl, trivial⟩, ⟨rfl, rfl, rfl, rfl, rfl, rfl, rfl, rfl, rfl, rfl, rfl, rfl, trivial⟩, rfl, hE97, h26_0⟩
                ·
                 have hx56 := ibF hx56 c98
                 refine k_no rfl rfl rfl rfl ?_
                 refine k_no rfl rfl rfl rfl ?_
                 refine k_no rfl rfl rfl rfl ?_
                 refine k_pickF rfl rfl rfl rfl ?_
                 obtain rfl := Option.some.inj hx56
                 exact k_met ⟨s96, ⟨rfl, trivial⟩, ⟨rfl, rfl, rfl, rfl, rfl, rfl, rfl, rfl, rfl, rfl, rfl, rfl, trivial⟩, rfl, hE97, h26_0⟩
               ·
                rintro s100 wL ⟨rfl, hE97, h26_0⟩
                have szs100 := hE97.size
                have hS := hS.c0 hE97
                have hE30 := hE30.c0 hE97
                have hE31 := hE31.c0 hE97
                replace h1_0 := h1_0.up2 hE97
                refine k_move rfl rfl ?_
                obtain ⟨x58, hx58, h⟩ := ob h
                have hE101 := Step.r0 (KO ku1_0) s100
                refine k_cutl (X := St) 4 [(2, v2), (3, .int .i64 x35), (4, .int .i64 a4), (5, .int .i64 a5), (12, .bool false), (13, v1_0), (16, v26_0), (17, .int .i64 x23), (19, .int .i64 x32.1), (129, .int .i64 x32.1), (130, .bool (decide (x32.1 = 12))), (134, .bool x54), (139, .bool x56.1)] (fun _ => [(144, .bool x58.1)]) (fun sl wL => sl.w = wL ∧ Step (KO ku1_0) s100 sl ∧ ODiskDisk sl ku1_0 v1_0 x58.2) ?_ ?_
                ·
                 refine k_again 140 rfl ?_
                 refine k_splitb (fun c102 => ?_) (fun c102 => ?_)
                 ·
                  have hx58 := ibT hx58 c102
                  refine k_yes rfl rfl ?_
                  refine k_move rfl rfl ?_
                  refine k_yes rfl rfl ?_
                  obtain ⟨x59, hx59, hx58⟩ := ob hx58
                  refine k_call cal19 rfl (disk_Disk_Start_w  h1_0 hx59) rfl ?_
                  rintro s103 vr103 st103 ⟨rfl, h1_0⟩
                  have szs103 := st103.size
                  have hS := hS.c0 st103
                  have hE30 := hE30.c0 st103
                  have hE31 := hE31.c0 st103
                  have hE101 := hE101.c0 st103
                  refine k_yes rfl rfl ?_
                  refine k_eql rfl rfl rfl ?_
                  refine k_pickT rfl rfl rfl rfl ?_
                  obtain rfl := Option.some.inj hx58
                  exact k_met ⟨s103, ⟨rfl, trivial⟩, ⟨rfl, rfl, rfl, rfl, rfl, rfl, rfl, rfl, rfl, rfl, rfl, rfl, rfl, trivial⟩, rfl, hE101, h1_0⟩
                 ·
                  have hx58 := ibF hx58 c102
                  refine k_no rfl rfl rfl rfl ?_
                  refine k_no rfl rfl rfl rfl ?_
                  refine k_no rfl rfl rfl rfl ?_
                  refine k_pickF rfl rfl rfl rfl ?_
                  obtain rfl := Option.some.inj hx58
                  exact k_met ⟨s100, ⟨rfl, trivial⟩, ⟨rfl, rfl, rfl, rfl, rfl, rfl, rfl, rfl, rfl, rfl, rfl, rfl, rfl, trivial⟩, rfl, hE101, h1_0⟩
                ·
                 rintro s104 wL ⟨rfl, hE101, h1_0⟩
                 have szs104 := hE101.size
                 have hS := hS.c0 hE101
                 have hE30 := hE30.c0 hE101
                 have hE31 := hE31.c0 hE101
                 replace h26_0 := h26_0.up2 hE101
                 refine k_move rfl rfl ?_
                 obtain ⟨x60, hx60, h⟩ := ob h
                 have hE105 := Step.r0 K0 s104
                 refine k_cutl (X := St) 4 [(2, v2), (3, .int .i64 x35), (4, .int .i64 a4), (5, .int .i64 a5), (12, .bool false), (13, v1_0), (16, v26_0), (17, .int .i64 x23), (19, .int .i64 x32.1), (129, .int .i64 x32.1), (130, .bool (decide (x32.1 = 12))), (134, .bool x54), (139, .bool x56.1), (144, .bool x58.1)] (fun _ => [(149, .bool x60)]) (fun sl wL => sl.w = wL ∧ Step K0 s104 sl) ?_ ?_
                 ·
                  refine k_again 145 rfl ?_
                  refine k_splitb (fun c106 => ?_) (fun c106 => ?_)
                  ·
                   have hx60 := ibT hx60 c106
                   refine k_yes rfl rfl ?_
                   refine k_move rfl rfl ?_
                   refine k_yes rfl rfl ?_
                   refine k_move rfl rfl ?_
                   refine k_yes rfl rfl ?_
                   obtain ⟨x61, hx61, hx60⟩ := ob hx60
                   refine k_call cal20 rfl (law05_alike_w  h26_0 h1_0 hx61) rfl ?_
                   rintro s107 vr107 st107 rfl
                   have szs107 := st107.size
                   have hS := hS.trans0 st107
                   have hE30 := hE30.trans0 st107
                   have hE31 := hE31.trans0 st107
                   have hE105 := hE105.trans0 st107
                   refine k_pickT rfl rfl rfl rfl ?_
                   exact k_met ⟨s107, ⟨(congrArg (fun b => some (Value.bool b)) (Option.some.inj hx60)), trivial⟩, ⟨rfl, rfl, rfl, rfl, rfl, rfl, rfl, rfl, rfl, rfl, rfl, rfl, rfl, rfl, trivial⟩, rfl, hE105⟩
                  ·
                   have hx60 := ibF hx60 c106
                   refine k_no rfl rfl rfl rfl ?_
                   refine k_no rfl rfl rfl rfl ?_
                   refine k_no rfl rfl rfl rfl ?_
                   refine k_pickF rfl rfl rfl rfl ?_
                   exact k_met ⟨s104, ⟨(congrArg (fun b => some (Value.bool b)) (Option.some.inj hx60)), trivial⟩, ⟨rfl, rfl, rfl, rfl, rfl, rfl, rfl, rfl, rfl, rfl, rfl, rfl, rfl, rfl, trivial⟩, rfl, hE105⟩
                 ·
                  rintro s108 wL ⟨rfl, hE105⟩
                  have szs108 := hE105.size
                  have hS := hS.trans0 hE105
                  have hE30 := hE30.trans0 hE105
                  have hE31 := hE31.trans0 hE105
                  replace h1_0 := h1_0.up2 hE105
                  refine k_move rfl rfl ?_
                  obtain ⟨x62, hx62, h⟩ := ob h
                  have hE109 := Step.r0 (KO ku1_0) s108
                  refine k_cutl (X := St) 4 [(2, v2), (3, .int .i64 x35), (4, .int .i64 a4), (5, .int .i64 a5), (12, .bool false), (13, v1_0), (16, v26_0), (17, .int .i64 x23), (19, .int .i64 x32.1), (129, .int .i64 x32.1), (130, .bool (decide (x32.1 = 12))), (134, .bool x54), (139, .bool x56.1), (144, .bool x58.1), (149, .bool x60)] (fun _ => [(154, .bool x62.1)]) (fun sl wL => sl.w = wL ∧ Step (KO ku1_0) s108 sl ∧ ODiskDisk sl ku1_0 v1_0 x62.2) ?_ ?_
                  ·
                   refine k_again 150 rfl ?_
                   refine k_splitb (fun c110 => ?_) (fun c110 => ?_)
                   ·
                    have hx62 := ibT hx62 c110
                    refine k_yes rfl rfl ?_
                    refine k_move rfl rfl ?_
                    refine k_yes rfl rfl ?_
                    obtain ⟨x63, hx63, hx62⟩ := ob hx62
                    refine k_call cal16 rfl (disk_Disk_Sync_w  h1_0 hx63) rfl ?_
                    rintro s111 vr111 st111 ⟨rfl, h1_0⟩
                    have szs111 := st111.size
                    have hS := hS.c0 st111
                    have hE30 := hE30.c0 st111
                    have hE31 := hE31.c0 st111
                    have hE109 := hE109.c0 st111
                    refine k_yes rfl rfl ?_
                    refine k_eql rfl rfl rfl ?_
                    refine k_pickT rfl rfl rfl rfl ?_
                    obtain rfl := Option.some.inj hx62
                    exact k_met ⟨s111, ⟨rfl, trivial⟩, ⟨rfl, rfl, rfl, rfl, rfl, rfl, rfl, rfl, rfl, rfl, rfl, rfl, rfl, rfl, rfl, trivial⟩, rfl, hE109, h1_0⟩
                   ·
                    have hx62 := ibF hx62 c110
                    refine k_no rfl rfl rfl rfl ?_
                    refine k_no rfl rfl rfl rfl ?_
                    refine k_no rfl rfl rfl rfl ?_
                    refine k_pickF rfl rfl rfl rfl ?_
                    obtain rfl := Option.some.inj hx62
                    exact k_met ⟨s108, ⟨rfl, trivial⟩, ⟨rfl, rfl, rfl, rfl, rfl, rfl, rfl, rfl, rfl, rfl, rfl, rfl, rfl, rfl, rfl, trivial⟩, rfl, hE109, h1_0⟩
                  ·
                   rintro s112 wL ⟨rfl, hE109, h1_0⟩
                   have szs112 := hE109.size
                   have hS := hS.c0 hE109
                   have hE30 := hE30.c0 hE109
                   have hE31 := hE31.c0 hE109
                   refine k_move rfl rfl ?_
                   obtain ⟨x64, hx64, h⟩ := ob h
                   have hE113 := Step.r0 K0 s112
                   refine k_cutl (X := St) 2 [(2, v2), (3, .int .i64 x35), (4, .int .i64 a4), (5, .int .i64 a5), (12, .bool false), (13, v1_0), (16, v26_0), (17, .int .i64 x23), (19, .int .i64 x32.1), (129, .int .i64 x32.1), (130, .bool (decide (x32.1 = 12))), (134, .bool x54), (139, .bool x56.1), (144, .bool x58.1), (149, .bool x60), (154, .bool x62.1)] (fun _ => [(157, .bool x64)]) (fun sl wL => sl.w = wL ∧ Step K0 s112 sl) ?_ ?_
                   ·
                    refine k_again 155 rfl ?_
                    refine k_splitb (fun c114 => ?_) (fun c114 => ?_)
                    ·
                     have hx64 := ibT hx64 c114
                     refine k_yes rfl rfl ?_
                     obtain ⟨x65, hx65, hx64⟩ := ob hx64
                     refine k_call cal13 rfl (law05_awake_w   hx65) rfl ?_
                     rintro s115 vr115 st115 rfl
                     have szs115 := st115.size
                     have hS := hS.trans0 st115
                     have hE30 := hE30.trans0 st115
                     have hE31 := hE31.trans0 st115
                     have hE113 := hE113.trans0 st115
                     refine k_pickT rfl rfl rfl rfl ?_
                     exact k_met ⟨s115, ⟨(congrArg (fun b => some (Value.bool b)) (Option.some.inj hx64)), trivial⟩, ⟨rfl, rfl, rfl, rfl, rfl, rfl, rfl, rfl, rfl, rfl, rfl, rfl, rfl, rfl, rfl, rfl, trivial⟩, rfl, hE113⟩
                    ·
                     have hx64 := ibF hx64 c114
                     refine k_no rfl rfl rfl rfl ?_
                     refine k_pickF rfl rfl rfl rfl ?_
                     exact k_met ⟨s112, ⟨(congrArg (fun b => some (Value.bool b)) (Option.some.inj hx64)), trivial⟩, ⟨rfl, rfl, rfl, rfl, rfl, rfl, rfl, rfl, rfl, rfl, rfl, rfl, rfl, rfl, rfl, rfl, trivial⟩, rfl, hE113⟩
                   ·
                    rintro s116 wL ⟨rfl, hE113⟩
                    have szs116 := hE113.size
                    have hS := hS.trans0 hE113
                    have hE30 := hE30.trans0 hE113
                    have hE31 := hE31.trans0 hE113
                    refine k_assign rfl rfl ?_
                    refine k_nil ?_
                    refine k_keep [(2, _), (3, _), (4, _), (5, _), (12, _), (13, _), (16, _), (17, _)] ⟨rfl, rfl, rfl, rfl, rfl, rfl, rfl, rfl, trivial⟩ ?_
                    refine k_ret ?_
                    obtain rfl := Option.some.inj h
                    refine ⟨_, rfl, Ret.mk hS ?_⟩
                    exact rfl
        ·
         have h := itF h c33
         refine k_exit rfl ?_
         exact k_stop ⟨(s32, x24, x25), trivial, ⟨rfl, trivial⟩, ⟨rfl, hE30, h1_0, h26_0, h⟩⟩
       ·
        rintro ⟨s117, x20, x21⟩ wL ⟨rfl, hE30, h1_0, h26_0, h⟩
        rw [hK30] at h
        have szs117 := hE30.size
        have hS := hS.c0 hE30
        refine k_seq ?_
        refine k_region ?_
        obtain ⟨x66, hx66, h⟩ := ob h
        refine k_call cal13 rfl (law05_awake_w   hx66) rfl ?_
        rintro s118 vr118 st118 rfl
        have szs118 := st118.size
        have hS := hS.trans0 st118
        refine k_assign rfl rfl ?_
        refine k_nil ?_
        refine k_keep [(12, _)] ⟨rfl, trivial⟩ ?_
        refine k_ret ?_
        obtain rfl := Option.some.inj h
        refine ⟨_, rfl, Ret.mk hS ?_⟩
        exact rfl
end Go.Proofs
