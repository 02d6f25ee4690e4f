import Derived.Test.YtcjcpmfnolhclaaDoorW11DLogfileNobody0
set_option linter.unusedSimpArgs false
set_option linter.unusedVariables false
namespace Go.Proofs
open Go.Fw
set_option maxHeartbeats 1000000 in
set_option maxRecDepth 100000 in
theorem disk_Disk_first_w {s : St} {k0 : Nat} {p0 : Value} {a0 : DiskDisk} {l1 : Lab} {v1 : Value} {a1 : (List (List UInt8))} {r : Int} (ho0 : ODiskDisk s k0 p0 a0) (hp1 : SL s l1 v1 1 (a1.map dS)) (h : disk_Disk_first a0 a1 = some r) : Calls Tryd.prog 44 #[p0, v1] s.w (Ret s K0 (fun s1 v => v = .int .i64 r)) := by
 unfold disk_Disk_first at h
 have le0 := ho0.le
 have ne0 := ho0.ne
 obtain ⟨lf1, lf1le, lf1ne, hp1⟩ := hp1.fix
 have hS := Step.r0 K0 s
 refine k_fn (rs := [4]) (args := [p0, v1]) Tryd.func44 rfl rfl rfl rfl ?_
 refine k_seq ?_
 refine k_region ?_
 refine k_assign rfl rfl ?_
 refine k_nil ?_
 refine k_seq ?_
 refine k_seq ?_
 refine k_region ?_
 refine k_move rfl rfl ?_
 obtain ⟨pb1, rfl⟩ := ho0.ptr
 obtain ⟨x1, hx1, h⟩ := ob h
 refine k_call cal10 rfl (disk_Disk_Down_w  ho0 hx1) rfl ?_
 rintro s2 vr2 st2 rfl
 have szs2 := st2.size
 have hS := hS.trans0 st2
 replace hp1 := hp1.up2 st2
 refine k_nil ?_
 refine k_keep [(1, _), (4, _), (8, _)] ⟨rfl, rfl, rfl, trivial⟩ ?_
 refine k_cond rfl (fun c3 => ?_) (fun c3 => ?_)
 ·
  have h := ibT h c3
  refine k_seq ?_
  refine k_region ?_
  refine k_assign rfl rfl ?_
  refine k_nil ?_
  refine k_keep [(1, _), (4, _)] ⟨rfl, rfl, trivial⟩ ?_
  refine k_ret ?_
  obtain rfl := Option.some.inj h
  refine ⟨_, rfl, Ret.mk hS ?_⟩
  exact rfl
 ·
  have h := ibF h c3
  refine k_skip ?_
  refine k_seq ?_
  refine k_keep [(1, _), (4, _)] ⟨rfl, rfl, trivial⟩ ?_
  obtain ⟨kj2, hK4, h⟩ := jn_out h
  have hE4 := Step.r0 K0 s2
  refine k_cutc (X := St) [(4, .int .i64 0)] (fun (xL : St) => match xL with | sl => []) (fun (xL : St) (wL : World) => match xL with | sl => sl.w = wL ∧ Step K0 s2 sl ∧ kj2 () = some r) ?_ ?_
  ·
   refine k_seq ?_
   refine k_region ?_
   refine k_move rfl rfl ?_
   refine k_len Tryd.underlying99 rfl hp1.hasLen rfl ?_
   refine k_as (v := .int .i64 (a1.length : Int)) (by simp only [List.length_map]) ?_
   refine k_move rfl rfl ?_
   refine k_nil ?_
   refine k_keep [(4, _), (9, _), (10, _), (11, _)] ⟨rfl, rfl, rfl, rfl, trivial⟩ ?_
   refine k_block ?_
   refine k_loopc (X := St × Int × Nat) [(4, _), (9, _), (10, _)] (fun (xL : St × Int × Nat) => match xL with | (sl, x3, j) => [(11, .int .i64 x3)]) (fun (xL : St × Int × Nat) (wL : World) => match xL with | (sl, x3, j) => sl.w = wL ∧ Step K0 s2 sl ∧ disk_Disk_first_l1 a1 kj2 j x3 = some r) (fun (xL : St × Int × Nat) => match xL with | (sl, x3, j) => j) (s2, 0, FU) ⟨rfl, rfl, rfl, trivial⟩ ⟨(by first | rfl | (simp <;> rfl)), trivial⟩ ⟨rfl, (Step.refl _).of0 (by first | exact fun _ h => h | (intro c h; simp [KC, KO, KU, KN, KB] at h <;> omega)), h⟩ ?_
   rintro ⟨s6, x3, j⟩ wL ⟨rfl, hE5, h⟩
   cases j with
   | zero => rw [disk_Disk_first_l1] at h; exact (noneNe h).elim
   | succ j =>
   rw [disk_Disk_first_l1] at h
   have szs6 := hE5.size
   have hS := hS.trans0 hE5
   have hE4 := hE4.trans0 hE5
   replace hp1 := hp1.up2 hE5
   refine k_seq ?_
   refine k_region ?_
   refine k_lss rfl rfl rfl ?_
   refine k_nil ?_
   refine k_seq ?_
   refine k_cond_dec rfl (fun c7 => ?_) (fun c7 => ?_)
   ·
    have h := itT h c7
    refine k_skip ?_
    refine k_seq ?_
    refine k_block ?_
    refine k_seq ?_
    refine k_region ?_
    obtain ⟨x4, hx4, h⟩ := ob h
    refine k_ixaddr Tryd.underlying99 size9 rfl rfl hp1 (geti_out hx4).1 (geti_map hx4) rfl ?_
    intro qx4 hqx4
    refine k_load_val one9 rfl hqx4 rfl ?_
    refine k_assign rfl rfl ?_
    refine k_nil ?_
    refine k_keep [(4, _), (6, _), (9, _), (10, _), (11, _)] ⟨rfl, rfl, rfl, rfl, rfl, trivial⟩ ?_
    refine k_seq ?_
    refine k_region ?_
    refine k_move rfl rfl ?_
    obtain ⟨x5, hx5, h⟩ := ob h
    refine k_call cal55 rfl (disk_name_w   hx5) rfl ?_
    rintro s8 vr8 st8 rfl
    have szs8 := st8.size
    have hS := hS.trans0 st8
    have hE4 := hE4.trans0 st8
    have hE5 := hE5.trans0 st8
    refine k_not rfl rfl ?_
    refine k_nil ?_
    refine k_keep [(4, _), (9, _), (10, _), (11, _), (17, _)] ⟨rfl, rfl, rfl, rfl, rfl, trivial⟩ ?_
    refine k_cond rfl (fun c9 => ?_) (fun c9 => ?_)
    ·
     have h := ibT h c9
     refine k_seq ?_
     refine k_region ?_
     refine k_assign rfl rfl ?_
     refine k_nil ?_
     refine k_keep [(4, _), (9, _), (10, _), (11, _)] ⟨rfl, rfl, rfl, rfl, trivial⟩ ?_
     refine k_ret ?_
     obtain rfl := Option.some.inj h
     refine ⟨_, rfl, Ret.mk hS ?_⟩
     exact rfl
    ·
     have h := ibF h c9
     refine k_skip ?_
     refine k_blk ?_
     refine k_region ?_
     refine k_add rfl rfl rfl ?_
     refine k_move rfl rfl ?_
     refine k_nil ?_
     exact k_stop ⟨(s8, i64 (x3 + 1), j), ⟨(by first | rfl | (simp <;> rfl)), trivial⟩, ⟨rfl, rfl, rfl, trivial⟩, ⟨rfl, hE5, h⟩, (by simp)⟩
   ·
    have h := itF h c7
    refine k_exit rfl ?_
    exact k_stop ⟨s6, trivial, ⟨rfl, trivial⟩, ⟨rfl, hE4, h⟩⟩
  ·
   rintro s10 wL ⟨rfl, hE4, h⟩
   rw [hK4] at h
   have szs10 := hE4.size
   have hS := hS.trans0 hE4
   refine k_seq ?_
   refine k_region ?_
   refine k_assign rfl rfl ?_
   refine k_nil ?_
   refine k_ret ?_
   obtain rfl := Option.some.inj h
   refine ⟨_, rfl, Ret.mk hS ?_⟩
   exact rfl

set_option maxHeartbeats 1000000 in
set_option maxRecDepth 100000 in
theorem disk_Disk_seen_w {s : St} {k0 : Nat} {p0 : Value} {a0 : DiskDisk} {r : (List DiskFile)} (ho0 : ODiskDisk s k0 p0 a0) (h : disk_Disk_seen a0 = some r) : Calls Tryd.prog 38 #[p0] s.w (Ret s K0 (fun s1 v => ∃ (u0 : Value), v = u0 ∧ R s1 u0 (.sl 2 (r.map dDiskFile)))) := by
 unfold disk_Disk_seen at h
 have le0 := ho0.le
 have ne0 := ho0.ne
 obtain ⟨bo0, rfl⟩ := ho0.ptr
 obtain ⟨wo0_0, wo0_1, hb_o0, hwo0_0, hwo0_1⟩ := ho0.at_
 have hS := Step.r0 K0 s
 refine k_fn (rs := [2]) (args := [.pointer (some ⟨bo0, 0, none⟩)]) Tryd.func38 rfl rfl rfl rfl ?_
 refine k_seq ?_
 refine k_region ?_
 refine k_assign rfl rfl ?_
 refine k_nil ?_
 refine k_seq ?_
 refine k_seq ?_
 refine k_region ?_
 refine k_move rfl rfl ?_
 obtain ⟨x1, hx1, h⟩ := ob h
 refine k_call cal10 rfl (disk_Disk_Down_w  (ODiskDisk.mk_ a0 (by omega) hwo0_0 hwo0_1 hb_o0) hx1) rfl ?_
 rintro s1 vr1 st1 rfl
 have szs1 := st1.size
 have hS := hS.trans0 st1
 replace hwo0_0 := hwo0_0.up2 st1
 replace hb_o0 := hb_o0.up2 st1
 refine k_nil ?_
 refine k_keep [(0, _), (2, _), (4, _)] ⟨rfl, rfl, rfl, trivial⟩ ?_
 refine k_cond rfl (fun c2 => ?_) (fun c2 => ?_)
 ·
  have h := ibT h c2
  refine k_seq ?_
  refine k_region ?_
  refine k_assign rfl rfl ?_
  refine k_nil ?_
  refine k_keep [(0, _), (2, _)] ⟨rfl, rfl, trivial⟩ ?_
  refine k_ret ?_
  obtain rfl := Option.some.inj h
  refine ⟨_, rfl, Ret.mk hS ?_⟩
  exact ⟨_, rfl, (R.of_SL (.inl ⟨rfl, none, 0, rfl, fun _ => rfl⟩))⟩
 ·
  have h := ibF h c2
  refine k_skip ?_
  refine k_seq ?_
  refine k_keep [(0, _), (2, _)] ⟨rfl, rfl, trivial⟩ ?_
  refine k_drawT (KN s1.n) 12 (.read 0 (.read 1 (.read 2 (.read 3 (.read 4 (.read 5 (.read 6 (.read 7 (.read 8 (.read 9 (.read 10 (.read 11 .fin)))))))))))) mixed (by intro c h; (try simp only [KC, KO, KU, KN, KB] at h) <;> omega) rfl rfl rfl ?_
  intro s3 st3
  have szs3 := st3.size
  have hS := hS.trans0 st3
  replace hwo0_0 := hwo0_0.up2 st3
  replace hb_o0 := hb_o0.up2 st3
  refine rt_read (.pointer (some ⟨bo0, 0, none⟩)) rfl rfl (fun s4 st4 => ?_) ?_
  ·refine k_move rfl rfl ?_
   exact fq_end
  refine rt_read (.pointer (some ⟨bo0, 0, none⟩)) rfl rfl (fun s5 st5 => ?_) ?_
  ·refine k_nilCheck rfl rfl ?_
   exact fq_end
  refine rt_read (.pointer (some ⟨bo0, 3, none⟩)) rfl rfl (fun s6 st6 => ?_) ?_
  ·refine k_field_addr fld64_3 rfl rfl ?_
   exact fq_end
  refine rt_read (wo0_0) rfl rfl (fun s7 st7 => ?_) ?_
  ·try replace hb_o0 := hb_o0.up2 st7
   refine k_load_blk one59 rfl hb_o0 rfl rfl ?_
   exact fq_end
  refine rt_read (.pointer (some ⟨bo0, 0, none⟩)) rfl rfl (fun s8 st8 => ?_) ?_
  ·refine k_move rfl rfl ?_
   exact fq_end
  refine rt_read (.pointer (some ⟨bo0, 0, none⟩)) rfl rfl (fun s9 st9 => ?_) ?_
  ·refine k_nilCheck rfl rfl ?_
   exact fq_end
  refine rt_read (.pointer (some ⟨bo0, 3, none⟩)) rfl rfl (fun s10 st10 => ?_) ?_
  ·refine k_field_addr fld64_3 rfl rfl ?_
   exact fq_end
  refine rt_read (wo0_0) rfl rfl (fun s11 st11 => ?_) ?_
  ·try replace hb_o0 := hb_o0.up2 st11
   refine k_load_blk one59 rfl hb_o0 rfl rfl ?_
   exact fq_end
  refine rt_read (.int .i64 (a0.pictures.length : Int)) rfl rfl (fun s12 st12 => ?_) ?_
  ·try replace hwo0_0 := hwo0_0.up2 st12
   refine k_len Tryd.underlying59 rfl (hwo0_0.sl).hasLen rfl ?_
   refine k_as (v := .int .i64 (a0.pictures.length : Int)) (by simp only [List.length_map]) ?_
   exact fq_end
  refine rt_read (.int .i64 (i64 ((a0.pictures.length : Int) - 1))) rfl rfl (fun s13 st13 => ?_) ?_
  ·refine k_sub_ rfl rfl rfl ?_
   exact fq_end
  obtain ⟨x2, hx2, h⟩ := ob h
  refine rt_ix rfl (wanted_none rfl) Tryd.underlying59 size76 rfl rfl (hwo0_0.sl) (geti_out hx2).1 (geti_map hx2) rfl ?_
  intro q14 hq14
  refine rt_ldsl rfl (wanted_none rfl) one76 rfl hq14 (by first | exact id | (simp only [KC, KO, KU, KN, KB] <;> omega)) rfl ?_
  intro v15 h15
  refine rt_fin ?_
  refine k_assign rfl rfl ?_
  refine k_nil ?_
  refine k_keep [(2, _)] ⟨rfl, trivial⟩ ?_
  refine k_ret ?_
  obtain rfl := Option.some.inj h
  refine ⟨_, rfl, Ret.mk hS ?_⟩
  exact ⟨_, rfl, h15⟩

set_option maxHeartbeats 1000000 in
set_option maxRecDepth 100000 in
theorem disk_Disk_there_nl_w {s : St} {k0 : Nat} {p0 : Value} {a0 : DiskDisk} {a1 : (List UInt8)} {r : Int} (ho0 : ODiskDisk s k0 p0 a0) (h : disk_Disk_there_nl a0 a1 = some r) : Calls Tryd.prog 37 #[p0, S a1, .slice none 0 0] s.w (Ret s K0 (fun s1 v => v = .int .i64 r)) := by
 unfold disk_Disk_there_nl at h
 have le0 := ho0.le
 have ne0 := ho0.ne
 have hS := Step.r0 K0 s
 refine k_fn (rs := [6]) (args := [p0, S a1, .slice none 0 0]) Tryd.func37 rfl rfl rfl rfl ?_
 refine k_seq ?_
 refine k_region ?_
 refine k_assign rfl rfl ?_
 refine k_nil ?_
 refine k_seq ?_
 refine k_seq ?_
 refine k_region ?_
 refine k_move rfl rfl ?_
 refine k_move rfl rfl ?_
 refine k_move rfl rfl ?_
 refine k_bslice2 (ds := ([a1] : List (List UInt8)).map dS) slc99 rfl (RVs.cons (R.val rfl) RVs.nil) (by rfl) (by rfl) rfl rfl ?_
 intro s1 v1 b1 st1 ge1 bl1 h1
 have szs1 := st1.size
 have hS := hS.trans0 st1
 replace ho0 := ho0.up2 st1
 have lt1 := Own.le1 h1
 obtain ⟨x1, hx1, h⟩ := ob h
 refine k_append_nil (es := ([a1] : List (List UInt8)).map dS) 1014 elem99 rfl rfl (h1.sl) (by have := (app_out hx1).1; simp only [List.length_map, List.length_nil] at *; omega) (by have := (app_out hx1).1; simp only [List.length_map, List.length_nil] at *; omega) rfl ?_
 intro s2 v2 st2 h2
 rw [← List.nil_append (([a1] : List (List UInt8))), ← (app_out hx1).2] at h2
 have szs2 := st2.size
 have hS := hS.trans0 st2
 replace ho0 := ho0.up2 st2
 have lq2 : s1.n + 1 ≤ s2.n := Own.le_ne h2 (fun e_ => app_ne hx1 (by simp) (List.map_eq_nil_iff.1 e_))
 obtain ⟨pb3, rfl⟩ := ho0.ptr
 obtain ⟨x2, hx2, h⟩ := ob h
 refine k_call cal44 rfl (disk_Disk_first_w  ho0 (h2.sl) hx2) rfl ?_
 rintro s4 vr4 st4 rfl
 have szs4 := st4.size
 have hS := hS.trans0 st4
 replace ho0 := ho0.up2 st4
 refine k_assign rfl rfl ?_
 refine k_nil ?_
 refine k_keep [(0, _), (1, _), (6, _), (7, _)] ⟨rfl, rfl, rfl, rfl, trivial⟩ ?_
 refine k_seq ?_
 refine k_region ?_
 refine k_move rfl rfl ?_
 refine k_neq rfl rfl rfl ?_
 refine k_nil ?_
 refine k_keep [(0, _), (1, _), (6, _), (7, _), (17, _)] ⟨rfl, rfl, rfl, rfl, rfl, trivial⟩ ?_
 refine k_cond_dec rfl (fun c5 => ?_) (fun c5 => ?_)
 ·
  have h := itT h c5
  refine k_seq ?_
  refine k_region ?_
  refine k_move rfl rfl ?_
  refine k_assign rfl rfl ?_
  refine k_nil ?_
  refine k_keep [(0, _), (1, _), (6, _)] ⟨rfl, rfl, rfl, trivial⟩ ?_
  refine k_ret ?_
  obtain rfl := Option.some.inj h
  refine ⟨_, rfl, Ret.mk hS ?_⟩
  exact rfl
 ·
  have h := itF h c5
  refine k_skip ?_
  refine k_seq ?_
  refine k_seq ?_
  refine k_region ?_
  refine k_move rfl rfl ?_
  obtain ⟨x3, hx3, h⟩ := ob h
  refine k_call cal38 rfl (disk_Disk_seen_w  ho0 hx3) rfl ?_
  rintro s6 v6_0 st6 ⟨_, rfl, h6_0⟩
  have szs6 := st6.size
  have hS := hS.trans0 st6
  refine k_move rfl rfl ?_
  obtain ⟨x4, hx4, h⟩ := ob h
  refine k_call cal51 rfl (disk_picture_find_w  (SL.of_R h6_0) hx4) rfl ?_
  rintro s7 vr7 st7 rfl
  have szs7 := st7.size
  have hS := hS.trans0 st7
  refine k_move rfl rfl ?_
  refine k_extract rfl rfl rfl ?_
  refine k_extract rfl rfl rfl ?_
  refine k_assign rfl rfl ?_
  refine k_assign rfl rfl ?_
  refine k_nil ?_
  refine k_keep [(6, _), (9, _)] ⟨rfl, rfl, trivial⟩ ?_
  refine k_seq ?_
  refine k_region ?_
  refine k_move rfl rfl ?_
  refine k_not rfl rfl ?_
  refine k_nil ?_
  refine k_keep [(6, _), (27, _)] ⟨rfl, rfl, trivial⟩ ?_
  refine k_cond rfl (fun c8 => ?_) (fun c8 => ?_)
  ·
   have h := ibT h c8
   refine k_seq ?_
   refine k_region ?_
   refine k_assign rfl rfl ?_
   refine k_nil ?_
   refine k_keep [(6, _)] ⟨rfl, trivial⟩ ?_
   refine k_ret ?_
   obtain rfl := Option.some.inj h
   refine ⟨_, rfl, Ret.mk hS ?_⟩
   exact rfl
  ·
   have h := ibF h c8
   refine k_skip ?_
   refine k_seq ?_
   refine k_region ?_
   refine k_assign rfl rfl ?_
   refine k_nil ?_
   refine k_keep [(6, _)] ⟨rfl, trivial⟩ ?_
   refine k_ret ?_
   obtain rfl := Option.some.inj h
   refine ⟨_, rfl, Ret.mk hS ?_⟩
   exact rfl

set_option maxHeartbeats 1000000 in
set_option maxRecDepth 100000 in
theorem disk_Disk_Read_w {s : St} {k0 : Nat} {p0 : Value} {a0 : DiskDisk} {a1 : (List UInt8)} {r : ((List UInt8) × Int)} (ho0 : ODiskDisk s k0 p0 a0) (h : disk_Disk_Read a0 a1 = some r) : Calls Tryd.prog 17 #[p0, S a1] s.w (Ret s K0 (fun s1 v => ∃ (u0 : Value), v = .tuple #[u0, .int .i64 r.2] ∧ R s1 u0 (.sl 1 (r.1.map bD)))) := by
 unfold disk_Disk_Read at h
 have le0 := ho0.le
 have ne0 := ho0.ne
 have hS := Step.r0 K0 s
 refine k_fn (rs := [4, 5]) (args := [p0, S a1]) Tryd.func17 rfl rfl rfl rfl ?_
 refine k_seq ?_
 refine k_region ?_
 refine k_assign rfl rfl ?_
 refine k_assign rfl rfl ?_
 refine k_nil ?_
 refine k_seq ?_
 refine k_seq ?_
 refine k_region ?_
 refine k_move rfl rfl ?_
 refine k_move rfl rfl ?_
 obtain ⟨pb1, rfl⟩ := ho0.ptr
 obtain ⟨x1, hx1, h⟩ := ob h
 refine k_call cal37 rfl (disk_Disk_there_nl_w  ho0 hx1) rfl ?_
 rintro s2 vr2 st2 rfl
 have szs2 := st2.size
 have hS := hS.trans0 st2
 replace ho0 := ho0.up2 st2
 refine k_assign rfl rfl ?_
 refine k_nil ?_
 refine k_keep [(0, _), (1, _), (4, _), (5, _), (6, _)] ⟨rfl, rfl, rfl, rfl, rfl, trivial⟩ ?_
 refine k_seq ?_
 refine k_region ?_
 refine k_move rfl rfl ?_
 refine k_neq rfl rfl rfl ?_
 refine k_nil ?_
 refine k_keep [(0, _), (1, _), (4, _), (5, _), (6, _), (11, _)] ⟨rfl, rfl, rfl, rfl, rfl, rfl, trivial⟩ ?_
 refine k_cond_dec rfl (fun c3 => ?_) (fun c3 => ?_)
 ·
  have h := itT h c3
  refine k_seq ?_
  refine k_region ?_
  refine k_move rfl rfl ?_
  refine k_assign rfl rfl ?_
  refine k_assign rfl rfl ?_
  refine k_nil ?_
  refine k_keep [(0, _), (1, _), (4, _), (5, _)] ⟨rfl, rfl, rfl, rfl, trivial⟩ ?_
  refine k_ret ?_
  obtain rfl := Option.some.inj h
  refine ⟨_, rfl, Ret.mk hS ?_⟩
  exact ⟨_, rfl, (R.of_SL (.inl ⟨rfl, none, 0, rfl, fun _ => rfl⟩))⟩
 ·
  have h := itF h c3
  refine k_skip ?_
  refine k_seq ?_
  refine k_region ?_
  refine k_move rfl rfl ?_
  obtain ⟨x2, hx2, h⟩ := ob h
  refine k_call cal38 rfl (disk_Disk_seen_w  ho0 hx2) rfl ?_
  rintro s4 v4_0 st4 ⟨_, rfl, h4_0⟩
  have szs4 := st4.size
  have hS := hS.trans0 st4
  refine k_move rfl rfl ?_
  obtain ⟨x3, hx3, h⟩ := ob h
  refine k_call cal39 rfl (disk_picture_bytes_w  (SL.of_R h4_0) hx3) rfl ?_
  rintro s5 v5_0 st5 ⟨_, rfl, h5_0⟩
  have szs5 := st5.size
  have hS := hS.trans0 st5
  obtain ⟨x4, hx4, h⟩ := ob h
  refine k_call cal34 rfl (slices_Clone_byte_byte_w  (SL.of_R h5_0) hx4) rfl ?_
  rintro s6 v6_0 st6 ⟨_, rfl, h6_0⟩
  have szs6 := st6.size
  have hS := hS.trans0 st6
  refine k_assign rfl rfl ?_
  refine k_assign rfl rfl ?_
  refine k_nil ?_
  refine k_keep [(4, _), (5, _)] ⟨rfl, rfl, trivial⟩ ?_
  refine k_ret ?_
  obtain rfl := Option.some.inj h
  refine ⟨_, rfl, Ret.mk hS ?_⟩
  exact ⟨_, rfl, h6_0⟩

set_option maxHeartbeats 1000000 in
set_option maxRecDepth 100000 in
theorem disk_picture_sizes_w {s : St} {v0 : Value} {a0 : (List DiskFile)} {r : (List DiskFile)} (hp0 : R s v0 (.sl 2 (a0.map dDiskFile))) (h : disk_picture_sizes a0 = some r) : Calls Tryd.prog 52 #[v0] s.w (Ret s K0 (fun s1 v => ∃ (ub0_0 : Nat), v = .func (.func 63) #[] #[.pointer (some ⟨ub0_0, 0, none⟩)] ∧ s.n ≤ ub0_0 ∧ BoxR s1 ub0_0 76 ((dL 2 dDiskFile) r))) := by
 unfold disk_picture_sizes at h
 have hS := Step.r0 K0 s
 refine k_fn (rs := [2]) (args := [v0]) Tryd.func52 rfl rfl rfl rfl ?_
 refine k_seq ?_
 refine k_region ?_
 refine k_box rfl rfl ?_
 intro s1 b1 st1 h1 ge1
 have szs1 := st1.size
 have hS := hS.trans0 st1
 replace hp0 := hp0.up2 st1
 rw [cells1 ((SL.of_R hp0)).one1] at h1
 have lt1 := h1.lt
 refine k_assign rfl rfl ?_
 refine k_nil ?_
 refine k_keep [(1, _), (2, _)] ⟨rfl, rfl, trivial⟩ ?_
 refine k_seq ?_
 refine k_region ?_
 refine k_makeFunc rfl rfl rfl ?_
 refine k_assign rfl rfl ?_
 refine k_nil ?_
 refine k_keep [(2, _)] ⟨rfl, trivial⟩ ?_
 refine k_ret ?_
 obtain rfl := Option.some.inj h
 refine ⟨_, rfl, Ret.mk hS ?_⟩
 exact ⟨_, rfl, (by omega), ⟨_, h1, hp0⟩⟩

set_option maxHeartbeats 1000000 in
set_option maxRecDepth 100000 in
theorem disk_picture_sizes_1_w {s : St} {l : Nat} {XT : Type} {a0 : XT → ((List UInt8) × Int) → Option (Bool × XT)} {I : XT → St → Prop} {Ky : Lab → Prop} {a50 : XT} {ub1 : Nat} {a1 : (List DiskFile)} {r : XT} (hY : Yielder Tryd.prog s.n l (fun (sl : St) (y : (List UInt8) × Int) (vs : List Value) => vs = [S y.1, .int .i64 y.2]) a0 I Ky) (hI : I a50 s) (hp1 : BoxR s ub1 76 ((dL 2 dDiskFile) a1)) (hky1 : ¬ Ky ⟨ub1 + 1, 0⟩) (h : disk_picture_sizes_1 a0 a50 a1 = some r) : Calls Tryd.prog 63 #[.func (.yield l) #[] #[], .pointer (some ⟨ub1, 0, none⟩)] s.w (Ret s (KB s.n Ky) (fun s1 v => v = .tuple #[] ∧ I r s1)) := by
 unfold disk_picture_sizes_1 at h
 replace hI := Cons.of hY hI (Nat.le_refl _)
 obtain ⟨cs1, hb_b1, hp1⟩ := hp1
 obtain ⟨w1, rfl, hp1⟩ := hp1.sl_inv
 replace hp1 : R s w1 ((dL 2 dDiskFile) a1) := hp1
 have lt1 := hb_b1.lt
 have hS := Step.r0 (KB s.n Ky) s
 refine k_fn (rs := []) (args := [.func (.yield l) #[] #[], .pointer (some ⟨ub1, 0, none⟩)]) Tryd.func63 rfl rfl rfl rfl ?_
 refine k_seq ?_
 refine k_region ?_
 refine k_load_blk one76 rfl hb_b1 rfl rfl ?_
 refine k_len Tryd.underlying76 rfl (SL.of_R hp1).hasLen rfl ?_
 refine k_as (v := .int .i64 (a1.length : Int)) (by simp only [List.length_map]) ?_
 refine k_move rfl rfl ?_
 refine k_nil ?_
 refine k_keep [(0, _), (5, _), (6, _), (7, _)] ⟨rfl, rfl, rfl, rfl, trivial⟩ ?_
 refine k_block ?_
 refine k_loopc (X := St × Int × XT × Nat) [(0, _), (5, _), (6, _)] (fun (xL : St × Int × XT × Nat) => match xL with | (sl, x1, x2, j) => [(7, .int .i64 x1)]) (fun (xL : St × Int × XT × Nat) (wL : World) => match xL with | (sl, x1, x2, j) => sl.w = wL ∧ Step (KB s.n Ky) s sl ∧ (Cons I s.n sl x2) ∧ disk_picture_sizes_1_l1 a1 a0 j x1 x2 = some r) (fun (xL : St × Int × XT × Nat) => match xL with | (sl, x1, x2, j) => j) (s, 0, a50, FU) ⟨rfl, rfl, rfl, trivial⟩ ⟨(by first | rfl | (simp <;> rfl)), trivial⟩ ⟨rfl, (Step.refl _).of0 (by first | exact fun _ h => h | (intro c h; simp [KC, KO, KU, KN, KB] at h <;> omega)), hI, h⟩ ?_
 rintro ⟨s3, x1, x2, j⟩ wL ⟨rfl, hE2, hI, h⟩
 cases j with
 | zero => rw [disk_picture_sizes_1_l1] at h; exact (noneNe h).elim
 | succ j =>
 rw [disk_picture_sizes_1_l1] at h
 have szs3 := hE2.size
 have hS : Step (KB s.n Ky) s s3 := hS.comp hE2 (by intro l hl hk; (try simp only [KC, KO, KU, KN, K0, KB] at hk ⊢); (repeat' (refine Or.elim hk (fun hk => ?_) (fun hk => ?_))) <;> first | exact hk | exact .inl hk | exact .inr hk | exact .inr (.inl hk) | exact .inr (.inr hk) | omega)
 replace hp1 := hp1.up2 hE2
 refine k_seq ?_
 refine k_region ?_
 refine k_lss rfl rfl rfl ?_
 refine k_nil ?_
 refine k_seq ?_
 refine k_cond_dec rfl (fun c4 => ?_) (fun c4 => ?_)
 ·
  have h := itT h c4
  refine k_skip ?_
  refine k_seq ?_
  refine k_block ?_
  refine k_seq ?_
  refine k_region ?_
  obtain ⟨x3, hx3, h⟩ := ob h
  refine k_ixaddr Tryd.underlying76 size80 rfl rfl (SL.of_R hp1) (geti_out hx3).1 (geti_map hx3) rfl ?_
  intro qx3 hqx3
  refine k_load_agg (by exact agg80) rfl hqx3 rfl ?_
  intro cs5 h5
  obtain ⟨q5_0, rfl, hq5_0⟩ := opnDiskFile h5
  refine k_alloc zero80 rfl ?_
  intro s6 b6 st6 h6 ge6
  have szs6 := st6.size
  have hS := hS.trans0 st6
  have hE2 := hE2.trans0 st6
  replace hq5_0 := hq5_0.up2 st6
  replace hI := hI.up2 st6
  have lt6 := h6.lt
  refine k_store_c (cs' := [S x3.name, q5_0]) size80 rfl rfl h6 (by first | (simp; done) | omega | (dsimp only; omega)) (CellsOf.lit (vs := [S x3.name, q5_0]) rfl (ones.cons rfl (ones.cons ((SL.of_R hq5_0)).one1 ones.nil))) rfl (by first | rfl | (simp; done) | (simp; omega)) rfl ?_
  intro s7 st7 h6
  have szs7 := st7.size
  have hS : Step (KB s.n Ky) s s7 := hS.comp st7 (by intro l hl hk; (try simp only [KC, KO, KU, KN, K0, KB] at hk ⊢); (repeat' (refine Or.elim hk (fun hk => ?_) (fun hk => ?_))) <;> first | exact hk | exact .inl hk | exact .inr hk | exact .inr (.inl hk) | exact .inr (.inr hk) | omega)
  have hE2 : Step (KB s.n Ky) s s7 := hE2.comp st7 (by intro l hl hk; (try simp only [KC, KO, KU, KN, K0, KB] at hk ⊢); (repeat' (refine Or.elim hk (fun hk => ?_) (fun hk => ?_))) <;> first | exact hk | exact .inl hk | exact .inr hk | exact .inr (.inl hk) | exact .inr (.inr hk) | omega)
  replace hq5_0 := hq5_0.up2 st7
  replace hI := hI.up2 st7
  refine k_nil ?_
  refine k_keep [(0, _), (4, _), (5, _), (6, _), (7, _)] ⟨rfl, rfl, rfl, rfl, rfl, trivial⟩ ?_
  refine k_seq ?_
  refine k_region ?_
  refine k_move rfl rfl ?_
  refine k_field_addr fld80_0 rfl rfl ?_
  refine k_load_blk one9 rfl h6 rfl rfl ?_
  refine k_field_addr fld80_1 rfl rfl ?_
  refine k_load_blk one33 rfl h6 rfl rfl ?_
  refine k_len Tryd.underlying33 rfl (SL.of_R hq5_0).hasLen rfl ?_
  refine k_as (v := .int .i64 (x3.b.length : Int)) (by simp only [List.length_map]) ?_
  obtain ⟨x4, hx4, h⟩ := ob h
  refine k_yield rfl rfl (hY.yield _ _ _ _ _ hI.2.1 hI.1 rfl hx4) rfl ?_
  rintro s8 _ st8 ⟨rfl, hI⟩
  replace hI := Cons.of hY hI (Nat.le_trans (by omega) st8.size)
  have szs8 := st8.size
  have hS : Step (KB s.n Ky) s s8 := hS.comp st8 (by intro l hl hk; (try simp only [KC, KO, KU, KN, K0, KB] at hk ⊢); (repeat' (refine Or.elim hk (fun hk => ?_) (fun hk => ?_))) <;> first | exact hk | exact .inl hk | exact .inr hk | exact .inr (.inl hk) | exact .inr (.inr hk) | omega)
  have hE2 : Step (KB s.n Ky) s s8 := hE2.comp st8 (by intro l hl hk; (try simp only [KC, KO, KU, KN, K0, KB] at hk ⊢); (repeat' (refine Or.elim hk (fun hk => ?_) (fun hk => ?_))) <;> first | exact hk | exact .inl hk | exact .inr hk | exact .inr (.inl hk) | exact .inr (.inr hk) | omega)
  refine k_not rfl rfl ?_
  refine k_nil ?_
  refine k_keep [(0, _), (5, _), (6, _), (7, _), (18, _)] ⟨rfl, rfl, rfl, rfl, rfl, trivial⟩ ?_
  refine k_cond rfl (fun c9 => ?_) (fun c9 => ?_)
  ·
   have h := ibT h c9
   refine k_ret ?_
   obtain rfl := Option.some.inj h
   refine ⟨_, rfl, Ret.mk hS ?_⟩
   exact ⟨rfl, hI.1⟩
  ·
   have h := ibF h c9
   refine k_skip ?_
   refine k_blk ?_
   refine k_region ?_
   refine k_add rfl rfl rfl ?_
   refine k_move rfl rfl ?_
   refine k_nil ?_
   exact k_stop ⟨(s8, i64 (x1 + 1), x4.2, j), ⟨(by first | rfl | (simp <;> rfl)), trivial⟩, ⟨rfl, rfl, rfl, trivial⟩, ⟨rfl, hE2, hI, h⟩, (by simp)⟩
 ·
  have h := itF h c4
  refine k_exit rfl ?_
  refine k_end ?_
  obtain rfl := Option.some.inj h
  refine ⟨_, rfl, Ret.mk hS ?_⟩
  exact ⟨rfl, hI.1⟩

set_option maxHeartbeats 1000000 in
set_option maxRecDepth 100000 in
theorem disk_picture_size_w {s : St} {v0 : Value} {a0 : (List DiskFile)} {r : Int} (hp0 : R s v0 (.sl 2 (a0.map dDiskFile))) (h : disk_picture_size a0 = some r) : Calls Tryd.prog 40 #[v0] s.w (Ret s K0 (fun s1 v => v = .int .i64 r)) := by
 unfold disk_picture_size at h
 have hS := Step.r0 K0 s
 refine k_fn_m (args := [v0]) Tryd.func40 rfl rfl ?_
 refine rk_seq ?_
 refine rk_run ?_
 refine k_region ?_
 refine k_assign rfl rfl ?_
 refine k_nil ?_
 refine k_stop ?_
 refine rk_seq ?_
 refine rk_run ?_
 refine k_region ?_
 refine k_alloc zero3 rfl ?_
 intro s1 b1 st1 h1 ge1
 have szs1 := st1.size
 have hS := hS.trans0 st1
 replace hp0 := hp0.up2 st1
 have lt1 := h1.lt
 refine k_store_c (cs' := [.int .i64 0]) size3 rfl rfl h1 (by first | (simp; done) | omega | (dsimp only; omega)) (CellsOf.lit rfl rfl) rfl (by first | rfl | (simp; done) | (simp; omega)) rfl ?_
 intro s2 st2 h1
 have szs2 := st2.size
 have hS := hS.c0 st2
 replace hp0 := hp0.up2 st2
 refine k_nil ?_
 refine k_stop ?_
 refine rk_seq ?_
 refine rk_seq ?_
 refine rk_run ?_
 refine k_region ?_
 refine k_move rfl rfl ?_
 obtain ⟨x1, hx1, h⟩ := ob h
 refine k_call cal52 rfl (disk_picture_sizes_w  (show R s2 v0 (.sl 2 (a0.map dDiskFile)) from hp0) hx1) rfl ?_
 rintro s3 vr3 st3 ⟨ub3_0_0, rfl, hg3_0_0, h3_0_0⟩
 have szs3 := st3.size
 have hS := hS.trans0 st3
 replace h1 := h1.up2 st3
 refine k_nil ?_
 refine k_stop ?_
 obtain ⟨x5, hx5, h⟩ := ob h
 refine rk_range (A := ((List UInt8) × Int)) (X := Int) (ps := [8, 9]) (fun (sl : St) (y : (List UInt8) × Int) (vs : List Value) => vs = [S y.1, .int .i64 y.2]) (fun (x2 : Int) (x3 : ((List UInt8) × Int)) => some (true, i64 (x2 + x3.2))) (fun (xL : Int) (sl : St) => (Blk sl b1 ⟨b1 + 1, 0⟩ [.int .i64 xL] 3)) (KC (b1 + 1) 0) rfl cal63 (fun _ _ _ h => by obtain rfl := h; rfl) (by decide) (by intro lab h; (try simp only [KC, KO, KU, KN, K0, KB] at h); first | exact h.elim | omega) 0 x5 h1 (by rintro x t1 t2 K z0 st hK; exact z0.up st (fun hk => by have hq := hK _ hk; (try dsimp only at hq); omega)) ?_ ?_ ?_
 ·
  intro l rec sR4 x2 x3 vsR rR4 hl1 hl2 hrec
  rintro h1 hL henc hc4
  obtain rfl := henc
  try dsimp only at hc4
  have hRS4 := Step.r0 (KU (KC (l + 1) 0) (KC (b1 + 1) 0)) sR4
  refine k_region ?_
  refine k_assign rfl rfl ?_
  refine k_nil ?_
  refine k_stop ?_
  refine k_begin hL hrec ?_
  intro s5 st5 hL
  have szs5 := st5.size
  have hRS4 := hRS4.c0 st5
  replace h1 := h1.up2 st5
  refine k_keep [(3, _), (5, _)] ⟨rfl, rfl, trivial⟩ ?_
  refine k_block ?_
  refine k_region ?_
  refine k_load_blk one3 rfl h1 rfl rfl ?_
  refine k_move rfl rfl ?_
  refine k_add rfl rfl rfl ?_
  refine k_store_c (cs' := [.int .i64 (i64 (x2 + x3.2))]) size3 rfl rfl h1 (by first | (simp; done) | omega | (dsimp only; omega)) (CellsOf.lit rfl rfl) rfl (by first | rfl | (simp; done) | (simp; omega)) rfl ?_
  intro s6 st6 h1
  have szs6 := st6.size
  have hRS4 := hRS4.c0 st6
  replace hL := hL.up2 st6
  refine k_nil ?_
  refine k_blk ?_
  refine k_end ?_
  obtain rfl := Option.some.inj hc4
  exact ⟨rfl, s6, rfl, hRS4, hL, h1⟩
 ·
  intro l t1 I' Ky st hl1 hl2 hK1 hK2 hY hI'
  have ltb_ub3_0_0 := h3_0_0.lt
  exact disk_picture_sizes_1_w hY hI' (h3_0_0.up2 st) (fun h => by rcases hK2 _ h with h | h <;> (simp only [KU, KN, KC, KO, K0, KB, Lab.mk.injEq] at h) <;> omega) hx5
 ·
  intro D4 s7 stn4
  rintro h1 hM4 hD4
  have szs7 := stn4.size
  have hS := hS.c0 stn4
  refine rk_last ?_
  refine k_seq ?_
  refine k_region ?_
  refine k_load_blk one3 rfl h1 rfl rfl ?_
  refine k_assign rfl rfl ?_
  refine k_nil ?_
  refine k_keep [(2, _)] ⟨rfl, trivial⟩ ?_
  refine k_ret ?_
  refine re_ret ?_
  refine re_cons hM4 (fun s8 st8 => ?_)
  have szs8 := st8.size
  have hS := hS.c0 st8
  obtain rfl := Option.some.inj h
  refine re_nil (rs := [2]) rfl rfl ?_
  refine ⟨_, rfl, Ret.mk hS ?_⟩
  exact rfl

set_option maxHeartbeats 1000000 in
set_option maxRecDepth 100000 in
theorem disk_adding_torn_w {s : St} {cs0 : List Value} {a0 : DiskAdding} {a1 : Int} {r : DiskCall} (hp0 : RC s cs0 (dDiskAdding a0)) (h : disk_adding_torn a0 a1 = some r) : Calls Tryd.prog 41 #[.agg cs0.toArray, .int .i64 a1] s.w (Ret s K0 (fun s1 v => ∃ (u0 : Value), v = u0 ∧ R s1 u0 (dDiskCall r))) := by
 unfold disk_adding_torn at h
 obtain ⟨q0_0, rfl, hq0_0⟩ := opnDiskAdding hp0
 have hS := Step.r0 K0 s
 refine k_fn (rs := [4]) (args := [.agg #[S a0.file.name, q0_0], .int .i64 a1]) Tryd.func41 rfl rfl rfl rfl ?_
 refine k_seq ?_
 refine k_region ?_
 refine k_box rfl rfl ?_
 intro s1 b1 st1 h1 ge1
 have szs1 := st1.size
 have hS := hS.trans0 st1
 replace hq0_0 := hq0_0.up2 st1
 have lt1 := h1.lt
 refine k_assign rfl rfl ?_
 refine k_nil ?_
 refine k_keep [(1, _), (2, _), (4, _)] ⟨rfl, rfl, rfl, trivial⟩ ?_
 refine k_seq ?_
 refine k_region ?_
 refine k_field_addr fld82_0 rfl rfl ?_
 refine k_field_addr fld80_1 rfl rfl ?_
 refine k_load_blk one33 rfl h1 rfl rfl ?_
 refine k_move rfl rfl ?_
 refine k_field_addr fld82_0 rfl rfl ?_
 refine k_field_addr fld80_1 rfl rfl ?_
 refine k_load_blk one33 rfl h1 rfl rfl ?_
 refine k_len Tryd.underlying33 rfl (SL.of_R hq0_0).hasLen rfl ?_
 refine k_as (v := .int .i64 (a0.file.b.length : Int)) (by simp only [List.length_map]) ?_
 refine k_min2 rfl rfl rfl ?_
 obtain ⟨x1, hx1, h⟩ := ob h
 refine k_cut_sl (i := (0 : Int).toNat) (j := (min a1 (a0.file.b.length : Int) : Int).toNat) Tryd.underlying33 size5 rfl (SL.of_R hq0_0) CutAt.none (CutAt.int rfl (Int.le_trans (subl_out hx1).1 (subl_out hx1).2.1)) (subl_ij hx1) (by rw [List.length_map]; exact subl_j hx1) rfl ?_
 intro vx1 hcx1
 rw [← List.map_drop, ← List.map_take, ← (subl_out hx1).2.2.2] at hcx1
 have hcx1 := R.of_SL hcx1
 refine k_field_addr fld82_0 rfl rfl ?_
 refine k_field_addr fld80_1 rfl rfl ?_
 refine k_store_c (cs' := [S a0.file.name, vx1]) size33 rfl rfl h1 (by first | (simp; done) | omega | (dsimp only; omega)) (CellsOf.sl (SL.of_R hcx1)) rfl (by first | rfl | (simp; done) | (simp; omega)) rfl ?_
 intro s2 st2 h1
 have szs2 := st2.size
 have hS := hS.c0 st2
 replace hcx1 := hcx1.up2 st2
 refine k_nil ?_
 refine k_keep [(2, _), (4, _)] ⟨rfl, rfl, trivial⟩ ?_
 refine k_seq ?_
 refine k_region ?_
 refine k_load_blka (cs := [S a0.file.name, vx1]) agg82 rfl h1 rfl ?_
 refine k_makeIface conc82 rfl rfl ?_
 have h3 : R s2 (.iface 82 (.agg #[S a0.file.name, vx1])) (dDiskCall (DiskCall.adding (⟨(⟨a0.file.name, x1⟩ : DiskFile)⟩ : DiskAdding))) := R.ifc_mk (show R _ (.agg #[S a0.file.name, vx1]) (dDiskAdding (⟨(⟨a0.file.name, x1⟩ : DiskFile)⟩ : DiskAdding)) from ⟨_, rfl, (clsDiskAdding (⟨(⟨a0.file.name, x1⟩ : DiskFile)⟩ : DiskAdding) hcx1)⟩)
 refine k_assign rfl rfl ?_
 refine k_nil ?_
 refine k_keep [(4, _)] ⟨rfl, trivial⟩ ?_
 refine k_ret ?_
 obtain rfl := Option.some.inj h
 refine ⟨_, rfl, Ret.mk hS ?_⟩
 exact ⟨_, rfl, h3⟩

set_option maxHeartbeats 1000000 in
set_option maxRecDepth 100000 in
theorem disk_Disk_only_w {s : St} {k0 : Nat} {p0 : Value} {a0 : DiskDisk} {v1 : Value} {a1 : (List DiskFile)} {r : DiskDisk} (ho0 : ODiskDisk s k0 p0 a0) (hp1 : R s v1 (.sl 2 (a1.map dDiskFile))) (h : disk_Disk_only a0 a1 = some r) : Calls Tryd.prog 42 #[p0, v1] s.w (Ret s (KO k0) (fun s1 v => v = .tuple #[] ∧ ODiskDisk s1 k0 p0 r)) := by
 unfold disk_Disk_only at h
 have le0 := ho0.le
 have ne0 := ho0.ne
 obtain ⟨bo0, rfl⟩ := ho0.ptr
 obtain ⟨wo0_0, wo0_1, hb_o0, hwo0_0, hwo0_1⟩ := ho0.at_
 have hS := Step.r0 (KO k0) s
 refine k_fn (rs := []) (args := [.pointer (some ⟨bo0, 0, none⟩), v1]) Tryd.func42 rfl rfl rfl rfl ?_
 refine k_region ?_
 refine k_move rfl rfl ?_
 refine k_move rfl rfl ?_
 refine k_move rfl rfl ?_
 refine k_bslice2 (ds := ([a1] : List (List DiskFile)).map (dL 2 dDiskFile)) slc59 rfl (RVs.cons hp1 RVs.nil) (by rfl) (by rfl) rfl rfl ?_
 intro s1 v1 b1 st1 ge1 bl1 h1
 have szs1 := st1.size
 have hS := hS.trans0 st1
 replace hb_o0 := hb_o0.up2 st1
 have lt1 := Own.le1 h1
 refine k_nilCheck rfl rfl ?_
 refine k_field_addr fld64_3 rfl rfl ?_
 refine k_store_c (cs' := [.int .i64 a0.capacity, .bool a0.made, .bool a0.down, v1, wo0_1, .int .i64 a0.fuse.n, .int .i64 a0.fuse.keep, .int .i64 a0.fuse.torn]) size59 rfl rfl hb_o0 (by first | (simp; done) | omega | (dsimp only; omega)) (CellsOf.sl (h1.sl)) rfl (by first | rfl | (simp; done) | (simp; omega)) rfl ?_
 intro s2 st2 hb_o0
 have szs2 := st2.size
 have hS := hS.c0 st2
 replace h1 := h1.up2 st2
 refine k_nilCheck rfl rfl ?_
 refine k_field_addr fld64_4 rfl rfl ?_
 refine k_store_c (cs' := [.int .i64 a0.capacity, .bool a0.made, .bool a0.down, v1, .slice none 0 0, .int .i64 a0.fuse.n, .int .i64 a0.fuse.keep, .int .i64 a0.fuse.torn]) size60 rfl rfl hb_o0 (by first | (simp; done) | omega | (dsimp only; omega)) (CellsOf.lit rfl rfl) rfl (by first | rfl | (simp; done) | (simp; omega)) rfl ?_
 intro s3 st3 hb_o0
 have szs3 := st3.size
 have hS := hS.c0 st3
 replace h1 := h1.up2 st3
 refine k_nil ?_
 refine k_end ?_
 obtain ⟨s4, e4, st4, h4⟩ := Own.relabelK k0 5 h1 (by first | omega | (dsimp only; omega)) (by first | omega | (dsimp only; omega)) (by first | omega | (dsimp only; omega))
 rw [← e4]
 have szs4 := st4.size
 have hS := hS.c0 st4
 replace hb_o0 := hb_o0.up2 st4
 obtain rfl := Option.some.inj h
 refine ⟨_, rfl, Ret.mk hS ?_⟩
 exact ⟨rfl, (ODiskDisk.mk_ (⟨a0.capacity, a0.made, a0.down, ([a1] : List (List DiskFile)), [], a0.fuse⟩ : DiskDisk) (by omega) h4 (Own.nil (by first | omega | (dsimp only; omega)) (by first | omega | (dsimp only; omega))) hb_o0)⟩

set_option maxHeartbeats 1000000 in
set_option maxRecDepth 100000 in
theorem disk_Disk_Crash_w {s : St} {k0 : Nat} {p0 : Value} {a0 : DiskDisk} {a1 : Int} {a2 : Int} {r : (Int × DiskDisk)} (ho0 : ODiskDisk s k0 p0 a0) (h : disk_Disk_Crash a0 a1 a2 = some r) : Calls Tryd.prog 24 #[p0, .int .i64 a1, .int .i64 a2] s.w (Ret s (KO k0) (fun s1 v => v = .int .i64 r.1 ∧ ODiskDisk s1 k0 p0 r.2)) := by
 unfold disk_Disk_Crash at h
 have le0 := ho0.le
 have ne0 := ho0.ne
 obtain ⟨bo0, rfl⟩ := ho0.ptr
 obtain ⟨wo0_0, wo0_1, hb_o0, hwo0_0, hwo0_1⟩ := ho0.at_
 have hS := Step.r0 (KO k0) s
 refine k_fn (rs := [6]) (args := [.pointer (some ⟨bo0, 0, none⟩), .int .i64 a1, .int .i64 a2]) Tryd.func24 rfl rfl rfl rfl ?_
 refine k_seq ?_
 refine k_region ?_
 refine k_assign rfl rfl ?_
 refine k_nil ?_
 refine k_seq ?_
 refine k_seq ?_
 refine k_region ?_
 refine k_move rfl rfl ?_
 obtain ⟨x1, hx1, h⟩ := ob h
 refine k_call cal10 rfl (disk_Disk_Down_w  (ODiskDisk.mk_ a0 (by omega) hwo0_0 hwo0_1 hb_o0) hx1) rfl ?_
 rintro s1 vr1 st1 rfl
 have szs1 := st1.size
 have hS := hS.trans0 st1
 replace hwo0_0 := hwo0_0.up2 st1
 replace hwo0_1 := hwo0_1.up2 st1
 replace hb_o0 := hb_o0.up2 st1
 refine k_nil ?_
 refine k_keep [(0, _), (1, _), (2, _), (6, _), (12, _)] ⟨rfl, rfl, rfl, rfl, rfl, trivial⟩ ?_
 refine k_cond rfl (fun c2 => ?_) (fun c2 => ?_)
 ·
  have h := ibT h c2
  refine k_seq ?_
  refine k_region ?_
  refine k_assign rfl rfl ?_
  refine k_nil ?_
  refine k_keep [(0, _), (1, _), (2, _), (6, _)] ⟨rfl, rfl, rfl, rfl, trivial⟩ ?_
  refine k_ret ?_
  obtain rfl := Option.some.inj h
  refine ⟨_, rfl, Ret.mk hS ?_⟩
  exact ⟨rfl, (ODiskDisk.mk_ a0 (by omega) hwo0_0 hwo0_1 hb_o0)⟩
 ·
  have h := ibF h c2
  refine k_skip ?_
  refine k_seq ?_
  refine k_region ?_
  refine k_move rfl rfl ?_
  refine k_max2 rfl rfl rfl ?_
  refine k_move rfl rfl ?_
  refine k_nilCheck rfl rfl ?_
  refine k_field_addr fld64_4 rfl rfl ?_
  refine k_load_blk one60 rfl hb_o0 rfl rfl ?_
  refine k_len Tryd.underlying60 rfl (hwo0_1.sl).hasLen rfl ?_
  refine k_as (v := .int .i64 (a0.calls.length : Int)) (by simp only [List.length_map]) ?_
  refine k_min2 rfl rfl rfl ?_
  refine k_assign rfl rfl ?_
  refine k_nil ?_
  refine k_keep [(0, _), (2, _), (6, _), (7, _)] ⟨rfl, rfl, rfl, rfl, trivial⟩ ?_
  refine k_seq ?_
  refine k_region ?_
  refine k_move rfl rfl ?_
  refine k_nilCheck rfl rfl ?_
  refine k_field_addr fld64_3 rfl rfl ?_
  refine k_load_blk one59 rfl hb_o0 rfl rfl ?_
  refine k_move rfl rfl ?_
  obtain ⟨x2, hx2, h⟩ := ob h
  refine k_ixaddr_own Tryd.underlying59 size76 rfl rfl hwo0_0 (geti_out hx2).1 (geti_map hx2) rfl ?_
  intro qx2 hqx2 heqx2
  refine k_load_sl one76 rfl hqx2 rfl ?_
  intro v3 h3
  refine k_assign rfl rfl ?_
  refine k_nil ?_
  refine k_keep [(0, _), (2, _), (6, _), (7, _), (8, _)] ⟨rfl, rfl, rfl, rfl, rfl, trivial⟩ ?_
  refine k_seq ?_
  obtain ⟨kj3, hK4, h⟩ := jn_out h
  have hE4 := Step.r0 K0 s1
  refine k_cutc (X := St × (List DiskFile) × Value) [(0, .pointer (some ⟨bo0, 0, none⟩)), (6, .int .i64 0)] (fun (xL : St × (List DiskFile) × Value) => match xL with | (sl, x4, v5) => [(8, v5)]) (fun (xL : St × (List DiskFile) × Value) (wL : World) => match xL with | (sl, x4, v5) => sl.w = wL ∧ Step K0 s1 sl ∧ (R sl v5 (.sl 2 (x4.map dDiskFile))) ∧ kj3 x4 = some r) ?_ ?_
  ·
   refine k_seq ?_
   refine k_region ?_
   refine k_move rfl rfl ?_
   refine k_move rfl rfl ?_
   refine k_nilCheck rfl rfl ?_
   refine k_field_addr fld64_4 rfl rfl ?_
   refine k_load_blk one60 rfl hb_o0 rfl rfl ?_
   refine k_len Tryd.underlying60 rfl (hwo0_1.sl).hasLen rfl ?_
   refine k_as (v := .int .i64 (a0.calls.length : Int)) (by simp only [List.length_map]) ?_
   refine k_lss rfl rfl rfl ?_
   refine k_nil ?_
   refine k_keep [(0, _), (2, _), (6, _), (7, _), (8, _), (34, _)] ⟨rfl, rfl, rfl, rfl, rfl, rfl, trivial⟩ ?_
   refine k_cond_dec rfl (fun c6 => ?_) (fun c6 => ?_)
   ·
    have h := itT h c6
    refine k_seq ?_
    refine k_region ?_
    refine k_move rfl rfl ?_
    refine k_nilCheck rfl rfl ?_
    refine k_field_addr fld64_4 rfl rfl ?_
    refine k_load_blk one60 rfl hb_o0 rfl rfl ?_
    refine k_move rfl rfl ?_
    obtain ⟨x5, hx5, h⟩ := ob h
    refine k_ixaddr_own Tryd.underlying60 size85 rfl rfl hwo0_1 (geti_out hx5).1 (geti_map hx5) rfl ?_
    intro qx5 hqx5 heqx5
    refine k_load_any one85 rfl hqx5 (dDiskCall_na _) rfl ?_
    intro v7 h7
    rcases oc_out h with ⟨ho_8, h⟩ | ⟨x6, ho_8, h⟩
    ·
     obtain ⟨tu8, u8, hv8, hn8⟩ := DiskCall.as_adding_none ho_8 h7
     refine k_assert_no (tu := tu8) (u := u8) noti82 ⟨_, Tryd.underlying82⟩ zero82 (congrArg some hv8) hn8 rfl ?_
     refine k_move rfl rfl ?_
     refine k_extract rfl rfl rfl ?_
     refine k_extract rfl rfl rfl ?_
     refine k_alloc zero82 rfl ?_
     intro s9 b9 st9 h9 ge9
     have szs9 := st9.size
     have hS := hS.trans0 st9
     have hE4 := hE4.trans0 st9
     replace h3 := h3.up2 st9
     have lt9 := h9.lt
     refine k_store_c (cs' := [S ([] : List UInt8), .slice none 0 0]) size82 rfl rfl h9 (by first | (simp; done) | omega | (dsimp only; omega)) (CellsOf.lit rfl rfl) rfl (by first | rfl | (simp; done) | (simp; omega)) rfl ?_
     intro s10 st10 h9
     have szs10 := st10.size
     have hS := hS.c0 st10
     have hE4 := hE4.c0 st10
     replace h3 := h3.up2 st10
     refine k_assign rfl rfl ?_
     refine k_nil ?_
     refine k_keep [(0, _), (2, _), (6, _), (8, _), (9, _), (10, _)] ⟨rfl, rfl, rfl, rfl, rfl, rfl, trivial⟩ ?_
     refine k_seq ?_
     refine k_region ?_
     refine k_move rfl rfl ?_
     refine k_move rfl rfl ?_
     refine k_no rfl rfl rfl rfl ?_
     refine k_no rfl rfl rfl rfl ?_
     refine k_pickF rfl rfl rfl rfl ?_
     refine k_move rfl rfl ?_
     refine k_no rfl rfl rfl rfl ?_
     refine k_no rfl rfl rfl rfl ?_
     refine k_no rfl rfl rfl rfl ?_
     refine k_no rfl rfl rfl rfl ?_
     refine k_no rfl rfl rfl rfl ?_
     refine k_pickF rfl rfl rfl rfl ?_
     refine k_nil ?_
     refine k_keep [(0, _), (2, _), (6, _), (8, _), (9, _), (57, _)] ⟨rfl, rfl, rfl, rfl, rfl, rfl, trivial⟩ ?_
     refine k_cond_false rfl ?_
     refine k_skip ?_
     exact k_stop ⟨(s10, x2, v3), ⟨(by first | rfl | (simp <;> rfl)), trivial⟩, ⟨rfl, rfl, trivial⟩, ⟨rfl, hE4, h3, h⟩⟩
    ·
     obtain ⟨u8, hv8, h8⟩ := R.ifc_inv (t := 82) (d := dDiskAdding x6) (by have hq := h7; rw [DiskCall.as_adding_some ho_8] at hq; exact hq)
     obtain ⟨⟨cs8⟩, rfl, h8⟩ := h8
     dsimp only at h8
     obtain ⟨q8_0, rfl, hq8_0⟩ := opnDiskAdding h8
     refine k_assert_yes (u := .agg #[S x6.file.name, q8_0]) noti82 ⟨_, Tryd.underlying82⟩ (congrArg some hv8) rfl ?_
     refine k_move rfl rfl ?_
     refine k_extract rfl rfl rfl ?_
     refine k_extract rfl rfl rfl ?_
     refine k_alloc zero82 rfl ?_
     intro s11 b11 st11 h11 ge11
     have szs11 := st11.size
     have hS := hS.trans0 st11
     have hE4 := hE4.trans0 st11
     replace h3 := h3.up2 st11
     replace hq8_0 := hq8_0.up2 st11
     have lt11 := h11.lt
     refine k_store_c (cs' := [S x6.file.name, q8_0]) size82 rfl rfl h11 (by first | (simp; done) | omega | (dsimp only; omega)) (CellsOf.lit (vs := [S x6.file.name, q8_0]) rfl (ones.cons rfl (ones.cons ((SL.of_R hq8_0)).one1 ones.nil))) rfl (by first | rfl | (simp; done) | (simp; omega)) rfl ?_
     intro s12 st12 h11
     have szs12 := st12.size
     have hS := hS.c0 st12
     have hE4 := hE4.c0 st12
     replace h3 := h3.up2 st12
     replace hq8_0 := hq8_0.up2 st12
     refine k_assign rfl rfl ?_
     refine k_nil ?_
     refine k_keep [(0, _), (2, _), (6, _), (8, _), (9, _), (10, _)] ⟨rfl, rfl, rfl, rfl, rfl, rfl, trivial⟩ ?_
     refine k_seq ?_
     refine k_region ?_
     refine k_move rfl rfl ?_
     refine k_move rfl rfl ?_
     refine k_yes rfl rfl ?_
     refine k_move rfl rfl ?_
     refine k_yes rfl rfl ?_
     refine k_gtr rfl rfl rfl ?_
     refine k_pickT rfl rfl rfl rfl ?_
     refine k_move rfl rfl ?_
     have hE13 := Step.r0 K0 s12
     refine k_cutl (X := St) 6 [(0, .pointer (some ⟨bo0, 0, none⟩)), (2, .int .i64 a2), (6, .int .i64 0), (8, v3), (9, .pointer (some ⟨b11, 0, none⟩)), (10, .bool true), (46, .bool true), (47, .bool true), (48, .int .i64 a2), (49, .bool (decide (0 < a2))), (50, .bool (decide (0 < a2)))] (fun _ => [(57, .bool (decide ((0 < a2) ∧ (0 < (x6.file.b.length : Int)))))]) (fun sl wL => sl.w = wL ∧ Step K0 s12 sl) ?_ ?_
     ·
      refine k_again 51 rfl ?_
      refine k_split (fun c14 => ?_) (fun c14 => ?_)
      ·
       refine k_yes rfl rfl ?_
       refine k_field_addr fld82_0 rfl rfl ?_
       refine k_yes rfl rfl ?_
       refine k_field_addr fld80_1 rfl rfl ?_
       refine k_yes rfl rfl ?_
       refine k_load_blk one33 rfl h11 rfl rfl ?_
       refine k_yes rfl rfl ?_
       refine k_len Tryd.underlying33 rfl (SL.of_R hq8_0).hasLen rfl ?_
       refine k_as (v := .int .i64 (x6.file.b.length : Int)) (by simp only [List.length_map]) ?_
       refine k_yes rfl rfl ?_
       refine k_gtr rfl rfl rfl ?_
       refine k_pickT rfl rfl rfl rfl ?_
       exact k_met ⟨s12, ⟨(congrArg (fun b => some (Value.bool b)) (by first | exact decide_eq_decide.2 ⟨fun h => ⟨c14, h⟩, fun h => h.2⟩ | exact (decide_eq_false (fun h => c14 h.1)).symm | (simp [c14]; done) | exact dec_andT c14 | exact dec_andF c14 | exact dec_orF c14 | exact dec_orT c14 | (simp [c14, i64] <;> omega))), trivial⟩, ⟨rfl, rfl, rfl, rfl, rfl, rfl, rfl, rfl, rfl, rfl, rfl, trivial⟩, rfl, hE13⟩
      ·
       refine k_no rfl rfl rfl rfl ?_
       refine k_no rfl rfl rfl rfl ?_
       refine k_no rfl rfl rfl rfl ?_
       refine k_no rfl rfl rfl rfl ?_
       refine k_no rfl rfl rfl rfl ?_
       refine k_pickF rfl rfl rfl rfl ?_
       exact k_met ⟨s12, ⟨(congrArg (fun b => some (Value.bool b)) (by first | exact decide_eq_decide.2 ⟨fun h => ⟨c14, h⟩, fun h => h.2⟩ | exact (decide_eq_false (fun h => c14 h.1)).symm | (simp [c14]; done) | exact dec_andT c14 | exact dec_andF c14 | exact dec_orF c14 | exact dec_orT c14 | (simp [c14, i64] <;> omega))), trivial⟩, ⟨rfl, rfl, rfl, rfl, rfl, rfl, rfl, rfl, rfl, rfl, rfl, trivial⟩, rfl, hE13⟩
     ·
      rintro s15 wL ⟨rfl, hE13⟩
      have szs15 := hE13.size
      have hS := hS.trans0 hE13
      have hE4 := hE4.trans0 hE13
      replace h3 := h3.up2 hE13
      replace hq8_0 := hq8_0.up2 hE13
      replace h11 := h11.up2 hE13
      refine k_nil ?_
      refine k_keep [(0, _), (2, _), (6, _), (8, _), (9, _), (57, _)] ⟨rfl, rfl, rfl, rfl, rfl, rfl, trivial⟩ ?_
      refine k_cond_dec rfl (fun c16 => ?_) (fun c16 => ?_)
      ·
       have h := itT h c16
       refine k_region ?_
       refine k_load_blka (cs := [S x6.file.name, q8_0]) agg82 rfl h11 rfl ?_
       refine k_move rfl rfl ?_
       obtain ⟨x7, hx7, h⟩ := ob h
       refine k_call cal41 rfl (disk_adding_torn_w  (clsDiskAdding x6 hq8_0) hx7) rfl ?_
       rintro s17 v17_0 st17 ⟨_, rfl, h17_0⟩
       have szs17 := st17.size
       have hS := hS.trans0 st17
       have hE4 := hE4.trans0 st17
       replace h3 := h3.up2 st17
       refine k_move rfl rfl ?_
       obtain ⟨x8, hx8, h⟩ := ob h
       refine k_invoke rfl rfl (DiskCall_next_w  (show R s17 v17_0 (dDiskCall x7) from h17_0) (show R s17 v3 (.sl 2 (x2.map dDiskFile)) from h3) hx8) rfl ?_
       rintro s18 v18_0 st18 ⟨_, rfl, h18_0⟩
       have szs18 := st18.size
       have hS := hS.trans0 st18
       have hE4 := hE4.trans0 st18
       refine k_assign rfl rfl ?_
       refine k_nil ?_
       exact k_stop ⟨(s18, x8, v18_0), ⟨(by first | rfl | (simp <;> rfl)), trivial⟩, ⟨rfl, rfl, trivial⟩, ⟨rfl, hE4, h18_0, h⟩⟩
      ·
       have h := itF h c16
       refine k_skip ?_
       exact k_stop ⟨(s15, x2, v3), ⟨(by first | rfl | (simp <;> rfl)), trivial⟩, ⟨rfl, rfl, trivial⟩, ⟨rfl, hE4, h3, h⟩⟩
   ·
    have h := itF h c6
    refine k_skip ?_
    exact k_stop ⟨(s1, x2, v3), ⟨(by first | rfl | (simp <;> rfl)), trivial⟩, ⟨rfl, rfl, trivial⟩, ⟨rfl, hE4, h3, h⟩⟩
  ·
   rintro ⟨s19, x4, v5⟩ wL ⟨rfl, hE4, h5, h⟩
   rw [hK4] at h
   have szs19 := hE4.size
   have hS := hS.trans0 hE4
   replace hwo0_0 := hwo0_0.up2 hE4
   replace hwo0_1 := hwo0_1.up2 hE4
   replace hb_o0 := hb_o0.up2 hE4
   refine k_seq ?_
   refine k_region ?_
   refine k_move rfl rfl ?_
   refine k_move rfl rfl ?_
   obtain ⟨x9, hx9, h⟩ := ob h
   refine k_call cal42 rfl (disk_Disk_only_w  (ODiskDisk.mk_ a0 (by omega) hwo0_0 hwo0_1 hb_o0) (show R s19 v5 (.sl 2 (x4.map dDiskFile)) from h5) hx9) rfl ?_
   rintro s20 vr20 st20 ⟨rfl, hm20_0⟩
   obtain ⟨w20_0_0, w20_0_1, hb_20_0, hw20_0_0, hw20_0_1⟩ := hm20_0.at_
   have szs20 := st20.size
   have hS := hS.c0 st20
   refine k_nil ?_
   refine k_keep [(0, _), (6, _)] ⟨rfl, rfl, trivial⟩ ?_
   refine k_seq ?_
   refine k_region ?_
   refine k_move rfl rfl ?_
   refine k_move rfl rfl ?_
   refine k_build plc62 zero62 rfl Parts.nil (by rfl) rfl ?_
   refine k_as (v := .agg #[.int .i64 0, .int .i64 0, .int .i64 0]) rfl ?_
   refine k_nilCheck rfl rfl ?_
   refine k_field_addr fld64_2 rfl rfl ?_
   refine k_store_c (cs' := [.int .i64 x9.capacity, .bool x9.made, .bool true, w20_0_0, w20_0_1, .int .i64 x9.fuse.n, .int .i64 x9.fuse.keep, .int .i64 x9.fuse.torn]) size4 rfl rfl hb_20_0 (by first | (simp; done) | omega | (dsimp only; omega)) (CellsOf.lit rfl rfl) rfl (by first | rfl | (simp; done) | (simp; omega)) rfl ?_
   intro s21 st21 hb_20_0
   have szs21 := st21.size
   have hS := hS.c0 st21
   replace hw20_0_0 := hw20_0_0.up2 st21
   replace hw20_0_1 := hw20_0_1.up2 st21
   refine k_nilCheck rfl rfl ?_
   refine k_field_addr fld64_5 rfl rfl ?_
   refine k_store_c (cs' := [.int .i64 x9.capacity, .bool x9.made, .bool true, w20_0_0, w20_0_1, .int .i64 0, .int .i64 0, .int .i64 0]) size62 rfl rfl hb_20_0 (by first | (simp; done) | omega | (dsimp only; omega)) (CellsOf.lit rfl rfl) rfl (by first | rfl | (simp; done) | (simp; omega)) rfl ?_
   intro s22 st22 hb_20_0
   have szs22 := st22.size
   have hS := hS.c0 st22
   replace hw20_0_0 := hw20_0_0.up2 st22
   replace hw20_0_1 := hw20_0_1.up2 st22
   refine k_nil ?_
   refine k_keep [(6, _)] ⟨rfl, trivial⟩ ?_
   refine k_seq ?_
   refine k_region ?_
   refine k_assign rfl rfl ?_
   refine k_nil ?_
   refine k_ret ?_
   obtain rfl := Option.some.inj h
   refine ⟨_, rfl, Ret.mk hS ?_⟩
   exact ⟨rfl, (ODiskDisk.mk_ (⟨x9.capacity, x9.made, true, x9.pictures, x9.calls, (⟨0, 0, 0⟩ : DiskFuse)⟩ : DiskDisk) (by omega) hw20_0_0 hw20_0_1 hb_20_0)⟩

set_option maxHeartbeats 1000000 in
set_option maxRecDepth 100000 in
theorem disk_Disk_burn_w {s : St} {k0 : Nat} {p0 : Value} {a0 : DiskDisk} {r : (Int × DiskDisk)} (ho0 : ODiskDisk s k0 p0 a0) (h : disk_Disk_burn a0 = some r) : Calls Tryd.prog 50 #[p0] s.w (Ret s (KO k0) (fun s1 v => v = .int .i64 r.1 ∧ ODiskDisk s1 k0 p0 r.2)) := by
 unfold disk_Disk_burn at h
 have le0 := ho0.le
 have ne0 := ho0.ne
 obtain ⟨bo0, rfl⟩ := ho0.ptr
 obtain ⟨wo0_0, wo0_1, hb_o0, hwo0_0, hwo0_1⟩ := ho0.at_
 have hS := Step.r0 (KO k0) s
 refine k_fn (rs := [2]) (args := [.pointer (some ⟨bo0, 0, none⟩)]) Tryd.func50 rfl rfl rfl rfl ?_
 refine k_seq ?_
 refine k_region ?_
 refine k_assign rfl rfl ?_
 refine k_nil ?_
 refine k_seq ?_
 refine k_seq ?_
 refine k_region ?_
 refine k_move rfl rfl ?_
 refine k_nilCheck rfl rfl ?_
 refine k_field_addr fld64_5 rfl rfl ?_
 refine k_field_addr fld62_0 rfl rfl ?_
 refine k_load_blk one3 rfl hb_o0 rfl rfl ?_
 refine k_nil ?_
 refine k_keep [(0, _), (2, _), (7, _)] ⟨rfl, rfl, rfl, trivial⟩ ?_
 refine k_block ?_
 refine k_seq ?_
 refine k_region ?_
 refine k_eql rfl rfl rfl ?_
 refine k_assign rfl rfl ?_
 refine k_nil ?_
 refine k_keep [(0, _), (2, _), (7, _), (8, _)] ⟨rfl, rfl, rfl, rfl, trivial⟩ ?_
 refine k_cond_dec rfl (fun c1 => ?_) (fun c1 => ?_)
 ·
  have h := itT h c1
  refine k_seq ?_
  refine k_region ?_
  refine k_assign rfl rfl ?_
  refine k_nil ?_
  refine k_keep [(0, _), (2, _)] ⟨rfl, rfl, trivial⟩ ?_
  refine k_ret ?_
  obtain rfl := Option.some.inj h
  refine ⟨_, rfl, Ret.mk hS ?_⟩
  exact ⟨rfl, (ODiskDisk.mk_ a0 (by omega) hwo0_0 hwo0_1 hb_o0)⟩
 ·
  have h := itF h c1
  refine k_seq ?_
  refine k_region ?_
  refine k_eql rfl rfl rfl ?_
  refine k_assign rfl rfl ?_
  refine k_nil ?_
  refine k_keep [(0, _), (2, _), (10, _)] ⟨rfl, rfl, rfl, trivial⟩ ?_
  refine k_cond_dec rfl (fun c2 => ?_) (fun c2 => ?_)
  ·
   have h := itT h c2
   refine k_seq ?_
   refine k_keep [(0, _), (2, _)] ⟨rfl, rfl, trivial⟩ ?_
   refine k_drawT (KN s.n) 11 (.read 0 (.read 1 (.read 2 (.read 3 (.read 4 (.read 5 (.read 6 (.read 7 (.read 8 (.read 9 (.read 10 .fin))))))))))) mixed (by intro c h; (try simp only [KC, KO, KU, KN, KB] at h) <;> omega) rfl rfl rfl ?_
   intro s3 st3
   have szs3 := st3.size
   have hS := hS.trans0 st3
   replace hwo0_0 := hwo0_0.up2 st3
   replace hwo0_1 := hwo0_1.up2 st3
   replace hb_o0 := hb_o0.up2 st3
   refine rt_read (.pointer (some ⟨bo0, 0, none⟩)) rfl rfl (fun s4 st4 => ?_) ?_
   ·refine k_move rfl rfl ?_
    exact fq_end
   refine rt_read (.pointer (some ⟨bo0, 0, none⟩)) rfl rfl (fun s5 st5 => ?_) ?_
   ·refine k_move rfl rfl ?_
    exact fq_end
   refine rt_read (.pointer (some ⟨bo0, 0, none⟩)) rfl rfl (fun s6 st6 => ?_) ?_
   ·refine k_nilCheck rfl rfl ?_
    exact fq_end
   refine rt_read (.pointer (some ⟨bo0, 5, none⟩)) rfl rfl (fun s7 st7 => ?_) ?_
   ·refine k_field_addr fld64_5 rfl rfl ?_
    exact fq_end
   refine rt_read (.pointer (some ⟨bo0, 6, none⟩)) rfl rfl (fun s8 st8 => ?_) ?_
   ·refine k_field_addr fld62_1 rfl rfl ?_
    exact fq_end
   refine rt_read (.int .i64 a0.fuse.keep) rfl rfl (fun s9 st9 => ?_) ?_
   ·try replace hb_o0 := hb_o0.up2 st9
    refine k_load_blk one3 rfl hb_o0 rfl rfl ?_
    exact fq_end
   refine rt_read (.pointer (some ⟨bo0, 0, none⟩)) rfl rfl (fun s10 st10 => ?_) ?_
   ·refine k_move rfl rfl ?_
    exact fq_end
   refine rt_read (.pointer (some ⟨bo0, 0, none⟩)) rfl rfl (fun s11 st11 => ?_) ?_
   ·refine k_nilCheck rfl rfl ?_
    exact fq_end
   refine rt_read (.pointer (some ⟨bo0, 5, none⟩)) rfl rfl (fun s12 st12 => ?_) ?_
   ·refine k_field_addr fld64_5 rfl rfl ?_
    exact fq_end
   refine rt_read (.pointer (some ⟨bo0, 7, none⟩)) rfl rfl (fun s13 st13 => ?_) ?_
   ·refine k_field_addr fld62_2 rfl rfl ?_
    exact fq_end
   refine rt_read (.int .i64 a0.fuse.torn) rfl rfl (fun s14 st14 => ?_) ?_
   ·try replace hb_o0 := hb_o0.up2 st14
    refine k_load_blk one3 rfl hb_o0 rfl rfl ?_
    exact fq_end
   refine rt_fin ?_
   obtain ⟨x1, hx1, h⟩ := ob h
   refine k_call cal24 rfl (disk_Disk_Crash_w  (ODiskDisk.mk_ a0 (by omega) hwo0_0 hwo0_1 hb_o0) hx1) rfl ?_
   rintro s15 vr15 st15 ⟨rfl, hm15_0⟩
   obtain ⟨w15_0_0, w15_0_1, hb_15_0, hw15_0_0, hw15_0_1⟩ := hm15_0.at_
   have szs15 := st15.size
   have hS := hS.c0 st15
   refine k_nil ?_
   refine k_keep [(0, _), (2, _)] ⟨rfl, rfl, trivial⟩ ?_
   refine k_seq ?_
   refine k_region ?_
   refine k_assign rfl rfl ?_
   refine k_nil ?_
   refine k_ret ?_
   obtain rfl := Option.some.inj h
   refine ⟨_, rfl, Ret.mk hS ?_⟩
   exact ⟨rfl, (ODiskDisk.mk_ x1.2 (by omega) hw15_0_0 hw15_0_1 hb_15_0)⟩
  ·
   have h := itF h c2
   refine k_skip ?_
   refine k_blk ?_
   refine k_seq ?_
   refine k_region ?_
   refine k_move rfl rfl ?_
   refine k_nilCheck rfl rfl ?_
   refine k_field_addr fld64_5 rfl rfl ?_
   refine k_field_addr fld62_0 rfl rfl ?_
   refine k_load_blk one3 rfl hb_o0 rfl rfl ?_
   refine k_sub_ rfl rfl rfl ?_
   refine k_nilCheck rfl rfl ?_
   refine k_field_addr fld64_5 rfl rfl ?_
   refine k_field_addr fld62_0 rfl rfl ?_
   refine k_store_c (cs' := [.int .i64 a0.capacity, .bool a0.made, .bool a0.down, wo0_0, wo0_1, .int .i64 (i64 (a0.fuse.n - 1)), .int .i64 a0.fuse.keep, .int .i64 a0.fuse.torn]) size3 rfl rfl hb_o0 (by first | (simp; done) | omega | (dsimp only; omega)) (CellsOf.lit rfl rfl) rfl (by first | rfl | (simp; done) | (simp; omega)) rfl ?_
   intro s16 st16 hb_o0
   have szs16 := st16.size
   have hS := hS.c0 st16
   replace hwo0_0 := hwo0_0.up2 st16
   replace hwo0_1 := hwo0_1.up2 st16
   refine k_nil ?_
   refine k_keep [(2, _)] ⟨rfl, trivial⟩ ?_
   refine k_seq ?_
   refine k_region ?_
   refine k_assign rfl rfl ?_
   refine k_nil ?_
   refine k_ret ?_
   obtain rfl := Option.some.inj h
   refine ⟨_, rfl, Ret.mk hS ?_⟩
   exact ⟨rfl, (ODiskDisk.mk_ (⟨a0.capacity, a0.made, a0.down, a0.pictures, a0.calls, (⟨i64 (a0.fuse.n - 1), a0.fuse.keep, a0.fuse.torn⟩ : DiskFuse)⟩ : DiskDisk) (by omega) hwo0_0 hwo0_1 hb_o0)⟩
end Go.Proofs
