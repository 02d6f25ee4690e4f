import Derived.Test.YtoeanjoenlghlaaDoorW05DiskApart2
set_option linter.unusedSimpArgs false
set_option linter.unusedVariables false
namespace Go.Proofs
open Go.Fw
set_option maxHeartbeats 1000000 in
set_option maxRecDepth 100000 in
theorem law05_call_w {s : St} {k0 : Nat} {p0 : Value} {a0 : DiskDisk} {l1 : Lab} {v1 : Value} {a1 : Law05Call} {r : (Int × DiskDisk)} (ho0 : ODiskDisk s k0 p0 a0) (hp1 : SL s l1 v1 1 (a1.Bytes.map bD)) (hl1_k0 : l1.o ≠ k0) (h : law05_call a0 a1 = some r) : Calls Tryd.prog 15 #[p0, .agg #[.int .i64 a1.Do, S a1.A, S a1.B, v1, .int .i64 a1.K, .int .i64 a1.N, .int .i64 a1.M]] s.w (Ret s (KO k0) (fun s1 v => v = .int .i64 r.1 ∧ ODiskDisk s1 k0 p0 r.2)) := by
 unfold law05_call at h
 have le0 := ho0.le
 have ne0 := ho0.ne
 obtain ⟨lf1, lf1le, lf1ne, hp1⟩ := hp1.fix
 have lfn1_k0 := lf1ne k0 hl1_k0 (by omega)
 have hS := Step.r0 (KO k0) s
 refine k_fn (rs := [4]) (args := [p0, .agg #[.int .i64 a1.Do, S a1.A, S a1.B, v1, .int .i64 a1.K, .int .i64 a1.N, .int .i64 a1.M]]) Tryd.func15 rfl rfl rfl rfl ?_
 refine k_seq ?_
 refine k_region ?_
 refine k_box rfl rfl ?_
 intro s1 b1 st1 h1 ge1
 have szs1 := st1.size
 have hS := hS.trans0 st1
 replace hp1 := hp1.up2 st1
 replace ho0 := ho0.up2 st1
 have lt1 := h1.lt
 refine k_assign rfl rfl ?_
 refine k_nil ?_
 refine k_keep [(0, _), (3, _), (4, _)] ⟨rfl, rfl, rfl, trivial⟩ ?_
 refine k_seq ?_
 refine k_seq ?_
 refine k_region ?_
 refine k_field_addr fld31_0 rfl rfl ?_
 refine k_load_blk one3 rfl h1 rfl rfl ?_
 refine k_nil ?_
 refine k_keep [(0, _), (3, _), (4, _), (9, _)] ⟨rfl, rfl, rfl, rfl, trivial⟩ ?_
 refine k_block ?_
 refine k_seq ?_
 refine k_region ?_
 refine k_eql rfl rfl rfl ?_
 refine k_assign rfl rfl ?_
 refine k_nil ?_
 refine k_keep [(0, _), (3, _), (4, _), (9, _), (10, _)] ⟨rfl, rfl, rfl, rfl, rfl, trivial⟩ ?_
 refine k_cond_dec rfl (fun c2 => ?_) (fun c2 => ?_)
 ·
  have h := itT h c2
  refine k_seq ?_
  refine k_region ?_
  refine k_move rfl rfl ?_
  refine k_field_addr fld31_1 rfl rfl ?_
  refine k_load_blk one9 rfl h1 rfl rfl ?_
  refine k_field_addr fld31_3 rfl rfl ?_
  refine k_load_blk one29 rfl h1 rfl rfl ?_
  obtain ⟨x1, hx1, h⟩ := ob h
  refine k_call cal31 rfl (disk_Disk_Append_w  ho0 hp1 (by first | assumption | omega | (simp <;> omega)) hx1) rfl ?_
  rintro s3 vr3 st3 ⟨rfl, ho0⟩
  have szs3 := st3.size
  have hS := hS.c0 st3
  refine k_assign rfl rfl ?_
  refine k_nil ?_
  refine k_keep [(0, _), (3, _), (4, _)] ⟨rfl, rfl, rfl, trivial⟩ ?_
  refine k_ret ?_
  obtain rfl := Option.some.inj h
  refine ⟨_, rfl, Ret.mk hS ?_⟩
  exact ⟨rfl, ho0⟩
 ·
  have h := itF h c2
  refine k_seq ?_
  refine k_region ?_
  refine k_eql rfl rfl rfl ?_
  refine k_assign rfl rfl ?_
  refine k_nil ?_
  refine k_keep [(0, _), (3, _), (4, _), (9, _), (18, _)] ⟨rfl, rfl, rfl, rfl, rfl, trivial⟩ ?_
  refine k_cond_dec rfl (fun c4 => ?_) (fun c4 => ?_)
  ·
   have h := itT h c4
   refine k_seq ?_
   refine k_region ?_
   refine k_move rfl rfl ?_
   refine k_field_addr fld31_1 rfl rfl ?_
   refine k_load_blk one9 rfl h1 rfl rfl ?_
   refine k_field_addr fld31_3 rfl rfl ?_
   refine k_load_blk one29 rfl h1 rfl rfl ?_
   obtain ⟨x2, hx2, h⟩ := ob h
   refine k_call cal32 rfl (disk_Disk_Put_w  ho0 hp1 (by first | assumption | omega | (simp <;> omega)) hx2) rfl ?_
   rintro s5 vr5 st5 ⟨rfl, ho0⟩
   have szs5 := st5.size
   have hS := hS.c0 st5
   refine k_assign rfl rfl ?_
   refine k_nil ?_
   refine k_keep [(0, _), (3, _), (4, _)] ⟨rfl, rfl, rfl, trivial⟩ ?_
   refine k_ret ?_
   obtain rfl := Option.some.inj h
   refine ⟨_, rfl, Ret.mk hS ?_⟩
   exact ⟨rfl, ho0⟩
  ·
   have h := itF h c4
   refine k_seq ?_
   refine k_region ?_
   refine k_eql rfl rfl rfl ?_
   refine k_assign rfl rfl ?_
   refine k_nil ?_
   refine k_keep [(0, _), (3, _), (4, _), (9, _), (26, _)] ⟨rfl, rfl, rfl, rfl, rfl, trivial⟩ ?_
   refine k_cond_dec rfl (fun c6 => ?_) (fun c6 => ?_)
   ·
    have h := itT h c6
    refine k_seq ?_
    refine k_region ?_
    refine k_move rfl rfl ?_
    refine k_field_addr fld31_1 rfl rfl ?_
    refine k_load_blk one9 rfl h1 rfl rfl ?_
    refine k_field_addr fld31_2 rfl rfl ?_
    refine k_load_blk one9 rfl h1 rfl rfl ?_
    obtain ⟨x3, hx3, h⟩ := ob h
    refine k_call cal29 rfl (disk_Disk_Rename_w  ho0 hx3) rfl ?_
    rintro s7 vr7 st7 ⟨rfl, ho0⟩
    have szs7 := st7.size
    have hS := hS.c0 st7
    refine k_assign rfl rfl ?_
    refine k_nil ?_
    refine k_keep [(0, _), (3, _), (4, _)] ⟨rfl, rfl, rfl, trivial⟩ ?_
    refine k_ret ?_
    obtain rfl := Option.some.inj h
    refine ⟨_, rfl, Ret.mk hS ?_⟩
    exact ⟨rfl, ho0⟩
   ·
    have h := itF h c6
    refine k_seq ?_
    refine k_region ?_
    refine k_eql rfl rfl rfl ?_
    refine k_assign rfl rfl ?_
    refine k_nil ?_
    refine k_keep [(0, _), (3, _), (4, _), (9, _), (34, _)] ⟨rfl, rfl, rfl, rfl, rfl, trivial⟩ ?_
    refine k_cond_dec rfl (fun c8 => ?_) (fun c8 => ?_)
    ·
     have h := itT h c8
     refine k_seq ?_
     refine k_region ?_
     refine k_move rfl rfl ?_
     refine k_field_addr fld31_1 rfl rfl ?_
     refine k_load_blk one9 rfl h1 rfl rfl ?_
     obtain ⟨x4, hx4, h⟩ := ob h
     refine k_call cal34 rfl (disk_Disk_Remove_w  ho0 hx4) rfl ?_
     rintro s9 vr9 st9 ⟨rfl, ho0⟩
     have szs9 := st9.size
     have hS := hS.c0 st9
     refine k_assign rfl rfl ?_
     refine k_nil ?_
     refine k_keep [(0, _), (3, _), (4, _)] ⟨rfl, rfl, rfl, trivial⟩ ?_
     refine k_ret ?_
     obtain rfl := Option.some.inj h
     refine ⟨_, rfl, Ret.mk hS ?_⟩
     exact ⟨rfl, ho0⟩
    ·
     have h := itF h c8
     refine k_seq ?_
     refine k_region ?_
     refine k_eql rfl rfl rfl ?_
     refine k_assign rfl rfl ?_
     refine k_nil ?_
     refine k_keep [(0, _), (3, _), (4, _), (9, _), (40, _)] ⟨rfl, rfl, rfl, rfl, rfl, trivial⟩ ?_
     refine k_cond_dec rfl (fun c10 => ?_) (fun c10 => ?_)
     ·
      have h := itT h c10
      refine k_seq ?_
      refine k_region ?_
      refine k_move rfl rfl ?_
      obtain ⟨x5, hx5, h⟩ := ob h
      refine k_call cal16 rfl (disk_Disk_Sync_w  ho0 hx5) rfl ?_
      rintro s11 vr11 st11 ⟨rfl, ho0⟩
      have szs11 := st11.size
      have hS := hS.c0 st11
      refine k_assign rfl rfl ?_
      refine k_nil ?_
      refine k_keep [(0, _), (3, _), (4, _)] ⟨rfl, rfl, rfl, trivial⟩ ?_
      refine k_ret ?_
      obtain rfl := Option.some.inj h
      refine ⟨_, rfl, Ret.mk hS ?_⟩
      exact ⟨rfl, ho0⟩
     ·
      have h := itF h c10
      refine k_seq ?_
      refine k_region ?_
      refine k_eql rfl rfl rfl ?_
      refine k_assign rfl rfl ?_
      refine k_nil ?_
      refine k_keep [(0, _), (3, _), (4, _), (9, _), (44, _)] ⟨rfl, rfl, rfl, rfl, rfl, trivial⟩ ?_
      refine k_cond_dec rfl (fun c12 => ?_) (fun c12 => ?_)
      ·
       have h := itT h c12
       refine k_seq ?_
       refine k_region ?_
       refine k_move rfl rfl ?_
       refine k_field_addr fld31_5 rfl rfl ?_
       refine k_load_blk one3 rfl h1 rfl rfl ?_
       refine k_field_addr fld31_6 rfl rfl ?_
       refine k_load_blk one3 rfl h1 rfl rfl ?_
       obtain ⟨x6, hx6, h⟩ := ob h
       refine k_call cal17 rfl (disk_Disk_Crash_w  ho0 hx6) rfl ?_
       rintro s13 vr13 st13 ⟨rfl, ho0⟩
       have szs13 := st13.size
       have hS := hS.c0 st13
       refine k_assign rfl rfl ?_
       refine k_nil ?_
       refine k_keep [(0, _), (3, _), (4, _)] ⟨rfl, rfl, rfl, trivial⟩ ?_
       refine k_ret ?_
       obtain rfl := Option.some.inj h
       refine ⟨_, rfl, Ret.mk hS ?_⟩
       exact ⟨rfl, ho0⟩
      ·
       have h := itF h c12
       refine k_seq ?_
       refine k_region ?_
       refine k_eql rfl rfl rfl ?_
       refine k_assign rfl rfl ?_
       refine k_nil ?_
       refine k_keep [(0, _), (3, _), (4, _), (9, _), (52, _)] ⟨rfl, rfl, rfl, rfl, rfl, trivial⟩ ?_
       refine k_cond_dec rfl (fun c14 => ?_) (fun c14 => ?_)
       ·
        have h := itT h c14
        refine k_seq ?_
        refine k_region ?_
        refine k_move rfl rfl ?_
        obtain ⟨x7, hx7, h⟩ := ob h
        refine k_call cal19 rfl (disk_Disk_Start_w  ho0 hx7) rfl ?_
        rintro s15 vr15 st15 ⟨rfl, ho0⟩
        have szs15 := st15.size
        have hS := hS.c0 st15
        refine k_assign rfl rfl ?_
        refine k_nil ?_
        refine k_keep [(0, _), (3, _), (4, _)] ⟨rfl, rfl, rfl, trivial⟩ ?_
        refine k_ret ?_
        obtain rfl := Option.some.inj h
        refine ⟨_, rfl, Ret.mk hS ?_⟩
        exact ⟨rfl, ho0⟩
       ·
        have h := itF h c14
        refine k_seq ?_
        refine k_region ?_
        refine k_eql rfl rfl rfl ?_
        refine k_assign rfl rfl ?_
        refine k_nil ?_
        refine k_keep [(0, _), (3, _), (4, _), (56, _)] ⟨rfl, rfl, rfl, rfl, trivial⟩ ?_
        refine k_cond_dec rfl (fun c16 => ?_) (fun c16 => ?_)
        ·
         have h := itT h c16
         refine k_seq ?_
         refine k_region ?_
         refine k_move rfl rfl ?_
         refine k_field_addr fld31_4 rfl rfl ?_
         refine k_load_blk one3 rfl h1 rfl rfl ?_
         refine k_field_addr fld31_5 rfl rfl ?_
         refine k_load_blk one3 rfl h1 rfl rfl ?_
         refine k_field_addr fld31_6 rfl rfl ?_
         refine k_load_blk one3 rfl h1 rfl rfl ?_
         obtain ⟨x8, hx8, h⟩ := ob h
         refine k_call cal25 rfl (disk_Disk_Fuse_w  ho0 hx8) rfl ?_
         rintro s17 vr17 st17 ⟨rfl, ho0⟩
         have szs17 := st17.size
         have hS := hS.c0 st17
         refine k_assign rfl rfl ?_
         refine k_nil ?_
         refine k_keep [(0, _), (3, _), (4, _)] ⟨rfl, rfl, rfl, trivial⟩ ?_
         refine k_ret ?_
         obtain rfl := Option.some.inj h
         refine ⟨_, rfl, Ret.mk hS ?_⟩
         exact ⟨rfl, ho0⟩
        ·
         have h := itF h c16
         refine k_skip ?_
         refine k_blk ?_
         refine k_seq ?_
         refine k_region ?_
         refine k_move rfl rfl ?_
         refine k_field_addr fld31_1 rfl rfl ?_
         refine k_load_blk one9 rfl h1 rfl rfl ?_
         obtain ⟨x9, hx9, h⟩ := ob h
         refine k_call cal27 rfl (disk_Disk_Read_own_w  ho0 hx9) rfl ?_
         rintro s18 vr18 st18 ⟨v18_0, l18_0, rfl, hl18_0, h18_0⟩
         have szs18 := st18.size
         have hS := hS.trans0 st18
         replace ho0 := ho0.up2 st18
         obtain ⟨l18_0, hl18_0, h18_0⟩ := Own.anew 2180 h18_0 hl18_0 szs18
         have lt18_0 := Own.le1 h18_0
         refine k_move rfl rfl ?_
         refine k_extract rfl rfl rfl ?_
         refine k_extract rfl rfl rfl ?_
         refine k_assign rfl rfl ?_
         refine k_assign rfl rfl ?_
         refine k_nil ?_
         refine k_keep [(4, _), (5, _), (6, _)] ⟨rfl, rfl, rfl, trivial⟩ ?_
         refine k_seq ?_
         obtain ⟨kj10, hK19, h⟩ := jn_out h
         have hE19 := Step.r0 (KC l18_0.o l18_0.c) s18
         refine k_cutc (X := St × (List UInt8)) [(4, .int .i64 0), (6, .int .i64 x9.2)] (fun (xL : St × (List UInt8)) => match xL with | (sl, x11) => []) (fun (xL : St × (List UInt8)) (wL : World) => match xL with | (sl, x11) => sl.w = wL ∧ Step (KC l18_0.o l18_0.c) s18 sl ∧ (Own sl ⟨l18_0.o, l18_0.c⟩ 5 1 v18_0 (x11.map bD)) ∧ kj10 x11 = some r) ?_ ?_
         ·
          refine k_seq ?_
          refine k_region ?_
          refine k_assign rfl rfl ?_
          refine k_nil ?_
          refine k_block ?_
          refine k_loopc (X := St × Int × (List UInt8) × Nat) [(4, _), (5, _), (6, _)] (fun (xL : St × Int × (List UInt8) × Nat) => match xL with | (sl, x12, x13, j) => [(7, .int .i64 x12)]) (fun (xL : St × Int × (List UInt8) × Nat) (wL : World) => match xL with | (sl, x12, x13, j) => sl.w = wL ∧ Step (KC l18_0.o l18_0.c) s18 sl ∧ (Own sl ⟨l18_0.o, l18_0.c⟩ 5 1 v18_0 (x13.map bD)) ∧ law05_call_l1 kj10 j x12 x13 = some r) (fun (xL : St × Int × (List UInt8) × Nat) => match xL with | (sl, x12, x13, j) => j) (s18, 0, x9.1, FU) ⟨rfl, rfl, rfl, trivial⟩ ⟨(by first | rfl | (simp <;> rfl)), trivial⟩ ⟨rfl, (Step.refl _).of0 (by first | exact fun _ h => h | (intro c h; simp [KC, KO, KU, KN, KB] at h <;> omega)), h18_0, h⟩ ?_
          rintro ⟨s21, x12, x13, j⟩ wL ⟨rfl, hE20, h18_0, h⟩
          cases j with
          | zero => rw [law05_call_l1] at h; exact (noneNe h).elim
          | succ j =>
          rw [law05_call_l1] at h
          have szs21 := hE20.size
          have hS := hS.c0 hE20
          have hE19 := hE19.c0 hE20
          refine k_seq ?_
          refine k_seq ?_
          refine k_region ?_
          refine k_move rfl rfl ?_
          refine k_move rfl rfl ?_
          refine k_len Tryd.underlying29 rfl (h18_0.sl).hasLen rfl ?_
          refine k_as (v := .int .i64 (x13.length : Int)) (by simp only [List.length_map]) ?_
          refine k_lss rfl rfl rfl ?_
          refine k_nil ?_
          refine k_keep [(4, _), (5, _), (6, _), (7, _), (76, _)] ⟨rfl, rfl, rfl, rfl, rfl, trivial⟩ ?_
          refine k_cond_dec rfl (fun c22 => ?_) (fun c22 => ?_)
          ·
           have h := itT h c22
           refine k_skip ?_
           refine k_seq ?_
           refine k_block ?_
           refine k_region ?_
           refine k_move rfl rfl ?_
           refine k_move rfl rfl ?_
           obtain ⟨x14, hx14, h⟩ := ob h
           refine k_ixaddr_own Tryd.underlying29 size5 rfl rfl h18_0 (geti_out hx14).1 (geti_map hx14) rfl ?_
           intro qx14 hqx14 heqx14
           refine k_load_val one5 rfl hqx14 rfl ?_
           refine k_add rfl rfl rfl ?_
           refine k_as (congrArg (Value.int .u8) (w8 _)) ?_
           obtain ⟨x15, hx15, h⟩ := ob h
           refine k_ixaddr_own Tryd.underlying29 size5 rfl rfl h18_0 (geti_out hx15).1 (geti_map hx15) rfl ?_
           intro qx15 hqx15 heqx15
           refine k_store_elt (dd := bD (ofI8 ((x14.toNat : Int) + 1))) size5 rfl rfl h18_0 heqx15 (by rw [List.length_map]; exact (List.getElem?_eq_some_iff.1 (geti_out hx15).2.2).1) (R.val rfl) rfl ?_
           intro s23 st23 h18_0
           rw [← List.map_set] at h18_0
           have szs23 := st23.size
           have hS := hS.c0 st23
           have hE19 := hE19.c0 st23
           have hE20 := hE20.c0 st23
           refine k_nil ?_
           refine k_blk ?_
           refine k_region ?_
           refine k_move rfl rfl ?_
           refine k_add rfl rfl rfl ?_
           refine k_assign rfl rfl ?_
           refine k_nil ?_
           exact k_stop ⟨(s23, i64 (x12 + 1), x13.set (x12).toNat (ofI8 ((x14.toNat : Int) + 1)), j), ⟨(by first | rfl | (simp <;> rfl)), trivial⟩, ⟨rfl, rfl, rfl, trivial⟩, ⟨rfl, hE20, h18_0, h⟩, (by simp)⟩
          ·
           have h := itF h c22
           refine k_exit rfl ?_
           exact k_stop ⟨(s21, x13), trivial, ⟨rfl, rfl, trivial⟩, ⟨rfl, hE19, h18_0, h⟩⟩
         ·
          rintro ⟨s24, x11⟩ wL ⟨rfl, hE19, h18_0, h⟩
          rw [hK19] at h
          have szs24 := hE19.size
          have hS := hS.c0 hE19
          replace ho0 := ho0.up2 hE19
          refine k_seq ?_
          refine k_region ?_
          refine k_move rfl rfl ?_
          refine k_assign rfl rfl ?_
          refine k_nil ?_
          refine k_keep [(4, _)] ⟨rfl, trivial⟩ ?_
          refine k_ret ?_
          obtain rfl := Option.some.inj h
          refine ⟨_, rfl, Ret.mk hS ?_⟩
          exact ⟨rfl, ho0⟩

set_option maxHeartbeats 1000000 in
set_option maxRecDepth 100000 in
theorem law05_meant_w {s : St} {k0 : Nat} {p0 : Value} {a0 : Ref05Disk} {l1 : Lab} {v1 : Value} {a1 : Law05Call} {r : (Int × Ref05Disk)} (ho0 : ORef05Disk s k0 p0 a0) (hp1 : SL s l1 v1 1 (a1.Bytes.map bD)) (hl1_k0 : l1.o ≠ k0) (h : law05_meant a0 a1 = some r) : Calls Tryd.prog 22 #[p0, .agg #[.int .i64 a1.Do, S a1.A, S a1.B, v1, .int .i64 a1.K, .int .i64 a1.N, .int .i64 a1.M]] s.w (Ret s (KO k0) (fun s1 v => v = .int .i64 r.1 ∧ ORef05Disk s1 k0 p0 r.2)) := by
 unfold law05_meant at h
 have le0 := ho0.le
 have ne0 := ho0.ne
 obtain ⟨lf1, lf1le, lf1ne, hp1⟩ := hp1.fix
 have lfn1_k0 := lf1ne k0 hl1_k0 (by omega)
 have hS := Step.r0 (KO k0) s
 refine k_fn (rs := [4]) (args := [p0, .agg #[.int .i64 a1.Do, S a1.A, S a1.B, v1, .int .i64 a1.K, .int .i64 a1.N, .int .i64 a1.M]]) Tryd.func22 rfl rfl rfl rfl ?_
 refine k_seq ?_
 refine k_region ?_
 refine k_box rfl rfl ?_
 intro s1 b1 st1 h1 ge1
 have szs1 := st1.size
 have hS := hS.trans0 st1
 replace hp1 := hp1.up2 st1
 replace ho0 := ho0.up2 st1
 have lt1 := h1.lt
 refine k_assign rfl rfl ?_
 refine k_nil ?_
 refine k_keep [(0, _), (3, _), (4, _)] ⟨rfl, rfl, rfl, trivial⟩ ?_
 refine k_seq ?_
 refine k_seq ?_
 refine k_region ?_
 refine k_field_addr fld31_0 rfl rfl ?_
 refine k_load_blk one3 rfl h1 rfl rfl ?_
 refine k_nil ?_
 refine k_keep [(0, _), (3, _), (4, _), (8, _)] ⟨rfl, rfl, rfl, rfl, trivial⟩ ?_
 refine k_block ?_
 refine k_seq ?_
 refine k_region ?_
 refine k_eql rfl rfl rfl ?_
 refine k_assign rfl rfl ?_
 refine k_nil ?_
 refine k_keep [(0, _), (3, _), (4, _), (8, _), (9, _)] ⟨rfl, rfl, rfl, rfl, rfl, trivial⟩ ?_
 refine k_cond_dec rfl (fun c2 => ?_) (fun c2 => ?_)
 ·
  have h := itT h c2
  refine k_seq ?_
  refine k_region ?_
  refine k_move rfl rfl ?_
  refine k_field_addr fld31_1 rfl rfl ?_
  refine k_load_blk one9 rfl h1 rfl rfl ?_
  refine k_field_addr fld31_3 rfl rfl ?_
  refine k_load_blk one29 rfl h1 rfl rfl ?_
  obtain ⟨x1, hx1, h⟩ := ob h
  refine k_call cal40 rfl (ref05_Disk_Append_w  ho0 hp1 (by first | assumption | omega | (simp <;> omega)) hx1) rfl ?_
  rintro s3 vr3 st3 ⟨rfl, ho0⟩
  have szs3 := st3.size
  have hS := hS.c0 st3
  refine k_assign rfl rfl ?_
  refine k_nil ?_
  refine k_keep [(0, _), (3, _), (4, _)] ⟨rfl, rfl, rfl, trivial⟩ ?_
  refine k_ret ?_
  obtain rfl := Option.some.inj h
  refine ⟨_, rfl, Ret.mk hS ?_⟩
  exact ⟨rfl, ho0⟩
 ·
  have h := itF h c2
  refine k_seq ?_
  refine k_region ?_
  refine k_eql rfl rfl rfl ?_
  refine k_assign rfl rfl ?_
  refine k_nil ?_
  refine k_keep [(0, _), (3, _), (4, _), (8, _), (17, _)] ⟨rfl, rfl, rfl, rfl, rfl, trivial⟩ ?_
  refine k_cond_dec rfl (fun c4 => ?_) (fun c4 => ?_)
  ·
   have h := itT h c4
   refine k_seq ?_
   refine k_region ?_
   refine k_move rfl rfl ?_
   refine k_field_addr fld31_1 rfl rfl ?_
   refine k_load_blk one9 rfl h1 rfl rfl ?_
   refine k_field_addr fld31_3 rfl rfl ?_
   refine k_load_blk one29 rfl h1 rfl rfl ?_
   obtain ⟨x2, hx2, h⟩ := ob h
   refine k_call cal41 rfl (ref05_Disk_Put_w  ho0 hp1 (by first | assumption | omega | (simp <;> omega)) hx2) rfl ?_
   rintro s5 vr5 st5 ⟨rfl, ho0⟩
   have szs5 := st5.size
   have hS := hS.c0 st5
   refine k_assign rfl rfl ?_
   refine k_nil ?_
   refine k_keep [(0, _), (3, _), (4, _)] ⟨rfl, rfl, rfl, trivial⟩ ?_
   refine k_ret ?_
   obtain rfl := Option.some.inj h
   refine ⟨_, rfl, Ret.mk hS ?_⟩
   exact ⟨rfl, ho0⟩
  ·
   have h := itF h c4
   refine k_seq ?_
   refine k_region ?_
   refine k_eql rfl rfl rfl ?_
   refine k_assign rfl rfl ?_
   refine k_nil ?_
   refine k_keep [(0, _), (3, _), (4, _), (8, _), (25, _)] ⟨rfl, rfl, rfl, rfl, rfl, trivial⟩ ?_
   refine k_cond_dec rfl (fun c6 => ?_) (fun c6 => ?_)
   ·
    have h := itT h c6
    refine k_seq ?_
    refine k_region ?_
    refine k_move rfl rfl ?_
    refine k_field_addr fld31_1 rfl rfl ?_
    refine k_load_blk one9 rfl h1 rfl rfl ?_
    refine k_field_addr fld31_2 rfl rfl ?_
    refine k_load_blk one9 rfl h1 rfl rfl ?_
    obtain ⟨x3, hx3, h⟩ := ob h
    refine k_call cal42 rfl (ref05_Disk_Rename_w  ho0 hx3) rfl ?_
    rintro s7 vr7 st7 ⟨rfl, ho0⟩
    have szs7 := st7.size
    have hS := hS.c0 st7
    refine k_assign rfl rfl ?_
    refine k_nil ?_
    refine k_keep [(0, _), (3, _), (4, _)] ⟨rfl, rfl, rfl, trivial⟩ ?_
    refine k_ret ?_
    obtain rfl := Option.some.inj h
    refine ⟨_, rfl, Ret.mk hS ?_⟩
    exact ⟨rfl, ho0⟩
   ·
    have h := itF h c6
    refine k_seq ?_
    refine k_region ?_
    refine k_eql rfl rfl rfl ?_
    refine k_assign rfl rfl ?_
    refine k_nil ?_
    refine k_keep [(0, _), (3, _), (4, _), (8, _), (33, _)] ⟨rfl, rfl, rfl, rfl, rfl, trivial⟩ ?_
    refine k_cond_dec rfl (fun c8 => ?_) (fun c8 => ?_)
    ·
     have h := itT h c8
     refine k_seq ?_
     refine k_region ?_
     refine k_move rfl rfl ?_
     refine k_field_addr fld31_1 rfl rfl ?_
     refine k_load_blk one9 rfl h1 rfl rfl ?_
     obtain ⟨x4, hx4, h⟩ := ob h
     refine k_call cal43 rfl (ref05_Disk_Remove_w  ho0 hx4) rfl ?_
     rintro s9 vr9 st9 ⟨rfl, ho0⟩
     have szs9 := st9.size
     have hS := hS.c0 st9
     refine k_assign rfl rfl ?_
     refine k_nil ?_
     refine k_keep [(0, _), (3, _), (4, _)] ⟨rfl, rfl, rfl, trivial⟩ ?_
     refine k_ret ?_
     obtain rfl := Option.some.inj h
     refine ⟨_, rfl, Ret.mk hS ?_⟩
     exact ⟨rfl, ho0⟩
    ·
     have h := itF h c8
     refine k_seq ?_
     refine k_region ?_
     refine k_eql rfl rfl rfl ?_
     refine k_assign rfl rfl ?_
     refine k_nil ?_
     refine k_keep [(0, _), (3, _), (4, _), (8, _), (39, _)] ⟨rfl, rfl, rfl, rfl, rfl, trivial⟩ ?_
     refine k_cond_dec rfl (fun c10 => ?_) (fun c10 => ?_)
     ·
      have h := itT h c10
      refine k_seq ?_
      refine k_region ?_
      refine k_move rfl rfl ?_
      obtain ⟨x5, hx5, h⟩ := ob h
      refine k_call cal44 rfl (ref05_Disk_Sync_w  ho0 hx5) rfl ?_
      rintro s11 vr11 st11 ⟨rfl, ho0⟩
      have szs11 := st11.size
      have hS := hS.c0 st11
      refine k_assign rfl rfl ?_
      refine k_nil ?_
      refine k_keep [(0, _), (3, _), (4, _)] ⟨rfl, rfl, rfl, trivial⟩ ?_
      refine k_ret ?_
      obtain rfl := Option.some.inj h
      refine ⟨_, rfl, Ret.mk hS ?_⟩
      exact ⟨rfl, ho0⟩
     ·
      have h := itF h c10
      refine k_seq ?_
      refine k_region ?_
      refine k_eql rfl rfl rfl ?_
      refine k_assign rfl rfl ?_
      refine k_nil ?_
      refine k_keep [(0, _), (3, _), (4, _), (8, _), (43, _)] ⟨rfl, rfl, rfl, rfl, rfl, trivial⟩ ?_
      refine k_cond_dec rfl (fun c12 => ?_) (fun c12 => ?_)
      ·
       have h := itT h c12
       refine k_seq ?_
       refine k_region ?_
       refine k_move rfl rfl ?_
       refine k_field_addr fld31_5 rfl rfl ?_
       refine k_load_blk one3 rfl h1 rfl rfl ?_
       refine k_field_addr fld31_6 rfl rfl ?_
       refine k_load_blk one3 rfl h1 rfl rfl ?_
       obtain ⟨x6, hx6, h⟩ := ob h
       refine k_call cal45 rfl (ref05_Disk_Crash_w  ho0 hx6) rfl ?_
       rintro s13 vr13 st13 ⟨rfl, ho0⟩
       have szs13 := st13.size
       have hS := hS.c0 st13
       refine k_assign rfl rfl ?_
       refine k_nil ?_
       refine k_keep [(0, _), (3, _), (4, _)] ⟨rfl, rfl, rfl, trivial⟩ ?_
       refine k_ret ?_
       obtain rfl := Option.some.inj h
       refine ⟨_, rfl, Ret.mk hS ?_⟩
       exact ⟨rfl, ho0⟩
      ·
       have h := itF h c12
       refine k_seq ?_
       refine k_region ?_
       refine k_eql rfl rfl rfl ?_
       refine k_assign rfl rfl ?_
       refine k_nil ?_
       refine k_keep [(0, _), (3, _), (4, _), (8, _), (51, _)] ⟨rfl, rfl, rfl, rfl, rfl, trivial⟩ ?_
       refine k_cond_dec rfl (fun c14 => ?_) (fun c14 => ?_)
       ·
        have h := itT h c14
        refine k_seq ?_
        refine k_region ?_
        refine k_move rfl rfl ?_
        obtain ⟨x7, hx7, h⟩ := ob h
        refine k_call cal46 rfl (ref05_Disk_Start_w  ho0 hx7) rfl ?_
        rintro s15 vr15 st15 ⟨rfl, ho0⟩
        have szs15 := st15.size
        have hS := hS.c0 st15
        refine k_assign rfl rfl ?_
        refine k_nil ?_
        refine k_keep [(0, _), (3, _), (4, _)] ⟨rfl, rfl, rfl, trivial⟩ ?_
        refine k_ret ?_
        obtain rfl := Option.some.inj h
        refine ⟨_, rfl, Ret.mk hS ?_⟩
        exact ⟨rfl, ho0⟩
       ·
        have h := itF h c14
        refine k_seq ?_
        refine k_region ?_
        refine k_eql rfl rfl rfl ?_
        refine k_assign rfl rfl ?_
        refine k_nil ?_
        refine k_keep [(0, _), (3, _), (4, _), (55, _)] ⟨rfl, rfl, rfl, rfl, trivial⟩ ?_
        refine k_cond_dec rfl (fun c16 => ?_) (fun c16 => ?_)
        ·
         have h := itT h c16
         refine k_seq ?_
         refine k_region ?_
         refine k_move rfl rfl ?_
         refine k_field_addr fld31_4 rfl rfl ?_
         refine k_load_blk one3 rfl h1 rfl rfl ?_
         refine k_field_addr fld31_5 rfl rfl ?_
         refine k_load_blk one3 rfl h1 rfl rfl ?_
         refine k_field_addr fld31_6 rfl rfl ?_
         refine k_load_blk one3 rfl h1 rfl rfl ?_
         obtain ⟨x8, hx8, h⟩ := ob h
         refine k_call cal47 rfl (ref05_Disk_Lay_w  ho0 hx8) rfl ?_
         rintro s17 vr17 st17 ⟨rfl, ho0⟩
         have szs17 := st17.size
         have hS := hS.c0 st17
         refine k_assign rfl rfl ?_
         refine k_nil ?_
         refine k_keep [(0, _), (3, _), (4, _)] ⟨rfl, rfl, rfl, trivial⟩ ?_
         refine k_ret ?_
         obtain rfl := Option.some.inj h
         refine ⟨_, rfl, Ret.mk hS ?_⟩
         exact ⟨rfl, ho0⟩
        ·
         have h := itF h c16
         refine k_skip ?_
         refine k_blk ?_
         refine k_seq ?_
         refine k_region ?_
         refine k_move rfl rfl ?_
         refine k_field_addr fld31_1 rfl rfl ?_
         refine k_load_blk one9 rfl h1 rfl rfl ?_
         obtain ⟨x9, hx9, h⟩ := ob h
         refine k_call cal48 rfl (ref05_Disk_Read_w  ho0 hx9) rfl ?_
         rintro s18 vr18 st18 ⟨v18_0, rfl, h18_0⟩
         have szs18 := st18.size
         have hS := hS.trans0 st18
         replace ho0 := ho0.up2 st18
         refine k_move rfl rfl ?_
         refine k_extract rfl rfl rfl ?_
         refine k_extract rfl rfl rfl ?_
         refine k_assign rfl rfl ?_
         refine k_assign rfl rfl ?_
         refine k_nil ?_
         refine k_keep [(4, _), (6, _)] ⟨rfl, rfl, trivial⟩ ?_
         refine k_seq ?_
         refine k_region ?_
         refine k_move rfl rfl ?_
         refine k_assign rfl rfl ?_
         refine k_nil ?_
         refine k_keep [(4, _)] ⟨rfl, trivial⟩ ?_
         refine k_ret ?_
         obtain rfl := Option.some.inj h
         refine ⟨_, rfl, Ret.mk hS ?_⟩
         exact ⟨rfl, ho0⟩

set_option maxHeartbeats 1000000 in
set_option maxRecDepth 100000 in
theorem law05_shows_w {s : St} {k0 : Nat} {p0 : Value} {a0 : DiskDisk} {k1 : Nat} {p1 : Value} {a1 : Ref05Disk} {r : Bool} (ho0 : ODiskDisk s k0 p0 a0) (ho1 : ORef05Disk s k1 p1 a1) (h : law05_shows a0 a1 = some r) : Calls Tryd.prog 23 #[p0, p1] s.w (Ret s K0 (fun s1 v => v = .bool r)) := by
 unfold law05_shows at h
 have le0 := ho0.le
 have ne0 := ho0.ne
 have le1 := ho1.le
 have ne1 := ho1.ne
 obtain ⟨bo1, rfl⟩ := ho1.ptr
 obtain ⟨wo1_0, wo1_1, hb_o1, hwo1_0, hwo1_1⟩ := ho1.at_
 have hS := Step.r0 K0 s
 refine k_fn (rs := [4]) (args := [p0, .pointer (some ⟨bo1, 0, none⟩)]) Tryd.func23 rfl rfl rfl rfl ?_
 refine k_seq ?_
 refine k_region ?_
 refine k_assign rfl rfl ?_
 refine k_nil ?_
 refine k_seq ?_
 refine k_region ?_
 refine k_move rfl rfl ?_
 obtain ⟨x1, hx1, h⟩ := ob h
 refine k_call cal26 rfl (disk_Disk_Names_w  ho0 hx1) rfl ?_
 rintro s1 v1_0 st1 ⟨_, rfl, h1_0⟩
 have szs1 := st1.size
 have hS := hS.trans0 st1
 replace ho0 := ho0.up2 st1
 replace hwo1_0 := hwo1_0.up2 st1
 replace hwo1_1 := hwo1_1.up2 st1
 replace hb_o1 := hb_o1.up2 st1
 refine k_assign rfl rfl ?_
 refine k_nil ?_
 refine k_keep [(0, _), (1, _), (4, _), (5, _)] ⟨rfl, rfl, rfl, rfl, trivial⟩ ?_
 refine k_seq ?_
 refine k_seq ?_
 refine k_region ?_
 refine k_move rfl rfl ?_
 refine k_nilCheck rfl rfl ?_
 refine k_field_addr fld68_1 rfl rfl ?_
 refine k_load_blk one4 rfl hb_o1 rfl rfl ?_
 refine k_nil ?_
 refine k_keep [(0, _), (1, _), (4, _), (5, _), (15, _)] ⟨rfl, rfl, rfl, rfl, rfl, trivial⟩ ?_
 refine k_cond rfl (fun c2 => ?_) (fun c2 => ?_)
 ·
  have h := ibT h c2
  refine k_seq ?_
  refine k_keep [(0, _), (1, _), (4, _), (5, _)] ⟨rfl, rfl, rfl, rfl, trivial⟩ ?_
  refine k_drawT (KN s1.n) 26 (.read 0 (.alt 1 (.read 2 (.read 3 (.read 4 (.read 5 (.read 6 (.read 7 (.read 8 (.alt 9 (.read 10 (.read 11 (.read 12 (.read 13 (.alt 14 (.read 15 (.read 16 (.read 17 (.read 18 (.read 20 (.read 21 (.read 22 (.read 23 (.alt 19 (.read 24 (.read 25 .fin)) .no))))))))) .no))))) .no)))))))) .no)) mixed (by intro c h; (try simp only [KC, KO, KU, KN, KB] at h) <;> omega) rfl rfl rfl ?_
  intro s3 st3
  have szs3 := st3.size
  have hS := hS.trans0 st3
  replace h1_0 := h1_0.up2 st3
  replace ho0 := ho0.up2 st3
  replace hb_o1 := hb_o1.up2 st3
  refine rt_read (p0) rfl rfl (fun s4 st4 => ?_) ?_
  ·refine k_move rfl rfl ?_
   exact fq_end
  refine rt_act rfl rfl ?_
  have hA5 := Step.r0 (KN s1.n) s3
  obtain ⟨x2, hx2, h⟩ := ob h
  refine k_call cal18 rfl (disk_Disk_Down_w  ho0 hx2) rfl ?_
  rintro s6 vr6 st6 rfl
  have szs6 := st6.size
  have hS := hS.trans0 st6
  have hA5 := hA5.trans0 st6
  replace h1_0 := h1_0.up2 st6
  replace ho0 := ho0.up2 st6
  replace hb_o1 := hb_o1.up2 st6
  refine rt_cont hA5 ?_
  refine rt_read (.bool x2) rfl rfl (fun s7 st7 => ?_) ?_
  ·refine k_move rfl rfl ?_
   exact fq_end
  refine rt_splitb (fun c8 => ?_) (fun c8 => ?_)
  ·
   have h := ibT h c8
   refine rt_read (v1_0) rfl rfl (fun s9 st9 => ?_) ?_
   ·refine k_yes rfl rfl ?_
    refine k_move rfl rfl ?_
    exact fq_end
   refine rt_read (.int .i64 (x1.length : Int)) rfl rfl (fun s10 st10 => ?_) ?_
   ·try replace h1_0 := h1_0.up2 st10
    refine k_yes rfl rfl ?_
    refine k_len Tryd.underlying46 rfl (SL.of_R h1_0).hasLen rfl ?_
    refine k_as (v := .int .i64 (x1.length : Int)) (by simp only [List.length_map]) ?_
    exact fq_end
   refine rt_read (.bool (decide ((x1.length : Int) = 0))) rfl rfl (fun s11 st11 => ?_) ?_
   ·refine k_yes rfl rfl ?_
    refine k_eql rfl rfl rfl ?_
    exact fq_end
   refine rt_read (.bool (decide ((x1.length : Int) = 0))) rfl rfl (fun s12 st12 => ?_) ?_
   ·refine k_pickT rfl rfl rfl rfl ?_
    exact fq_end
   refine rt_read (.bool (decide ((x1.length : Int) = 0))) rfl rfl (fun s13 st13 => ?_) ?_
   ·refine k_move rfl rfl ?_
    exact fq_end
   refine rt_split (fun c14 => ?_) (fun c14 => ?_)
   ·
    have h := itT h c14
    refine rt_read (p0) rfl rfl (fun s15 st15 => ?_) ?_
    ·refine k_yes rfl rfl ?_
     refine k_move rfl rfl ?_
     exact fq_end
    refine rt_act rfl rfl ?_
    refine k_yes rfl rfl ?_
    have hA16 := Step.r0 (KN s1.n) s6
    obtain ⟨x3, hx3, h⟩ := ob h
    refine k_call cal28 rfl (disk_Disk_Bytes_w  ho0 hx3) rfl ?_
    rintro s17 vr17 st17 rfl
    have szs17 := st17.size
    have hS := hS.trans0 st17
    have hA16 := hA16.trans0 st17
    replace ho0 := ho0.up2 st17
    replace hb_o1 := hb_o1.up2 st17
    refine rt_cont hA16 ?_
    refine rt_read (.bool (decide (x3 = 0))) rfl rfl (fun s18 st18 => ?_) ?_
    ·refine k_yes rfl rfl ?_
     refine k_eql rfl rfl rfl ?_
     exact fq_end
    refine rt_read (.bool (decide (x3 = 0))) rfl rfl (fun s19 st19 => ?_) ?_
    ·refine k_pickT rfl rfl rfl rfl ?_
     exact fq_end
    refine rt_read (.bool (decide (x3 = 0))) rfl rfl (fun s20 st20 => ?_) ?_
    ·refine k_move rfl rfl ?_
     exact fq_end
    refine rt_split (fun c21 => ?_) (fun c21 => ?_)
    ·
     have h := itT h c21
     refine rt_read (p0) rfl rfl (fun s22 st22 => ?_) ?_
     ·refine k_yes rfl rfl ?_
      refine k_move rfl rfl ?_
      exact fq_end
     refine rt_act rfl rfl ?_
     refine k_yes rfl rfl ?_
     have hA23 := Step.r0 (KN s1.n) s17
     obtain ⟨x4, hx4, h⟩ := ob h
     refine k_call cal14 rfl (disk_Disk_Waits_w  ho0 hx4) rfl ?_
     rintro s24 vr24 st24 rfl
     have szs24 := st24.size
     have hS := hS.trans0 st24
     have hA23 := hA23.trans0 st24
     replace ho0 := ho0.up2 st24
     replace hb_o1 := hb_o1.up2 st24
     refine rt_cont hA23 ?_
     refine rt_read (.bool (decide (x4 = 0))) rfl rfl (fun s25 st25 => ?_) ?_
     ·refine k_yes rfl rfl ?_
      refine k_eql rfl rfl rfl ?_
      exact fq_end
     refine rt_read (.bool (decide (x4 = 0))) rfl rfl (fun s26 st26 => ?_) ?_
     ·refine k_pickT rfl rfl rfl rfl ?_
      exact fq_end
     refine rt_read (.bool (decide (x4 = 0))) rfl rfl (fun s27 st27 => ?_) ?_
     ·refine k_move rfl rfl ?_
      exact fq_end
     refine rt_split (fun c28 => ?_) (fun c28 => ?_)
     ·
      have h := itT h c28
      refine rt_read (p0) rfl rfl (fun s29 st29 => ?_) ?_
      ·refine k_yes rfl rfl ?_
       refine k_move rfl rfl ?_
       exact fq_end
      refine rt_read (.pointer (some ⟨bo1, 0, none⟩)) rfl rfl (fun s30 st30 => ?_) ?_
      ·refine k_yes rfl rfl ?_
       refine k_move rfl rfl ?_
       exact fq_end
      refine rt_read (.pointer (some ⟨bo1, 0, none⟩)) rfl rfl (fun s31 st31 => ?_) ?_
      ·refine k_yes rfl rfl ?_
       refine k_nilCheck rfl rfl ?_
       exact fq_end
      refine rt_read (.pointer (some ⟨bo1, 0, none⟩)) rfl rfl (fun s32 st32 => ?_) ?_
      ·refine k_yes rfl rfl ?_
       refine k_field_addr fld68_0 rfl rfl ?_
       exact fq_end
      refine rt_read (.int .i64 a1.Most) rfl rfl (fun s33 st33 => ?_) ?_
      ·try replace hb_o1 := hb_o1.up2 st33
       refine k_yes rfl rfl ?_
       refine k_load_blk one3 rfl hb_o1 rfl rfl ?_
       exact fq_end
      refine rt_act rfl rfl ?_
      refine k_yes rfl rfl ?_
      have hA34 := Step.r0 (KN s1.n) s24
      obtain ⟨x5, hx5, h⟩ := ob h
      refine k_call cal33 rfl (disk_Disk_Capacity_w  ho0 hx5) rfl ?_
      rintro s35 vr35 st35 rfl
      have szs35 := st35.size
      have hS := hS.trans0 st35
      have hA34 := hA34.trans0 st35
      refine rt_cont hA34 ?_
      refine rt_read (.bool (decide (x5 = a1.Most))) rfl rfl (fun s36 st36 => ?_) ?_
      ·refine k_yes rfl rfl ?_
       refine k_eql rfl rfl rfl ?_
       exact fq_end
      refine rt_read (.bool (decide (x5 = a1.Most))) rfl rfl (fun s37 st37 => ?_) ?_
      ·refine k_pickT rfl rfl rfl rfl ?_
       exact fq_end
      refine rt_fin ?_
      refine k_assign rfl rfl ?_
      refine k_nil ?_
      refine k_keep [(0, _), (1, _), (4, _), (5, _)] ⟨rfl, rfl, rfl, rfl, trivial⟩ ?_
      refine k_ret ?_
      obtain rfl := Option.some.inj h
      refine ⟨_, rfl, Ret.mk hS ?_⟩
      exact rfl
     ·
      have h := itF h c28
      refine rt_read undef rfl rfl (fun s38 st38 => ?_) ?_
      ·refine k_no rfl rfl rfl rfl ?_
       exact fq_end
      refine rt_read undef rfl rfl (fun s39 st39 => ?_) ?_
      ·refine k_no rfl rfl rfl rfl ?_
       exact fq_end
      refine rt_read undef rfl rfl (fun s40 st40 => ?_) ?_
      ·refine k_no rfl rfl rfl rfl ?_
       exact fq_end
      refine rt_read undef rfl rfl (fun s41 st41 => ?_) ?_
      ·refine k_no rfl rfl rfl rfl ?_
       exact fq_end
      refine rt_read undef rfl rfl (fun s42 st42 => ?_) ?_
      ·refine k_no rfl rfl rfl rfl ?_
       exact fq_end
      refine rt_act rfl rfl ?_
      refine k_no rfl rfl rfl rfl ?_
      refine rt_cont ((Step.refl _).of0 (by first | exact fun _ h => h | (intro c h; simp [KC, KO, KU, KN, KB] at h <;> omega))) ?_
      refine rt_read undef rfl rfl (fun s43 st43 => ?_) ?_
      ·refine k_no rfl rfl rfl rfl ?_
       exact fq_end
      refine rt_read (.bool false) rfl rfl (fun s44 st44 => ?_) ?_
      ·refine k_pickF rfl rfl rfl rfl ?_
       exact fq_end
      refine rt_fin ?_
      refine k_assign rfl rfl ?_
      refine k_nil ?_
      refine k_keep [(0, _), (1, _), (4, _), (5, _)] ⟨rfl, rfl, rfl, rfl, trivial⟩ ?_
      refine k_ret ?_
      obtain rfl := Option.some.inj h
      refine ⟨_, rfl, Ret.mk hS ?_⟩
      exact rfl
    ·
     have h := itF h c21
     refine rt_read undef rfl rfl (fun s45 st45 => ?_) ?_
     ·refine k_no rfl rfl rfl rfl ?_
      exact fq_end
     refine rt_act rfl rfl ?_
     refine k_no rfl rfl rfl rfl ?_
     refine rt_cont ((Step.refl _).of0 (by first | exact fun _ h => h | (intro c h; simp [KC, KO, KU, KN, KB] at h <;> omega))) ?_
     refine rt_read undef rfl rfl (fun s46 st46 => ?_) ?_
     ·refine k_no rfl rfl rfl rfl ?_
      exact fq_end
     refine rt_read (.bool false) rfl rfl (fun s47 st47 => ?_) ?_
     ·refine k_pickF rfl rfl rfl rfl ?_
      exact fq_end
     refine rt_read (.bool false) rfl rfl (fun s48 st48 => ?_) ?_
     ·refine k_move rfl rfl ?_
      exact fq_end
     refine rt_read undef rfl rfl (fun s49 st49 => ?_) ?_
     ·refine k_no rfl rfl rfl rfl ?_
      exact fq_end
     refine rt_read undef rfl rfl (fun s50 st50 => ?_) ?_
     ·refine k_no rfl rfl rfl rfl ?_
      exact fq_end
     refine rt_read undef rfl rfl (fun s51 st51 => ?_) ?_
     ·refine k_no rfl rfl rfl rfl ?_
      exact fq_end
     refine rt_read undef rfl rfl (fun s52 st52 => ?_) ?_
     ·refine k_no rfl rfl rfl rfl ?_
      exact fq_end
     refine rt_read undef rfl rfl (fun s53 st53 => ?_) ?_
     ·refine k_no rfl rfl rfl rfl ?_
      exact fq_end
     refine rt_act rfl rfl ?_
     refine k_no rfl rfl rfl rfl ?_
     refine rt_cont ((Step.refl _).of0 (by first | exact fun _ h => h | (intro c h; simp [KC, KO, KU, KN, KB] at h <;> omega))) ?_
     refine rt_read undef rfl rfl (fun s54 st54 => ?_) ?_
     ·refine k_no rfl rfl rfl rfl ?_
      exact fq_end
     refine rt_read (.bool false) rfl rfl (fun s55 st55 => ?_) ?_
     ·refine k_pickF rfl rfl rfl rfl ?_
      exact fq_end
     refine rt_fin ?_
     refine k_assign rfl rfl ?_
     refine k_nil ?_
     refine k_keep [(0, _), (1, _), (4, _), (5, _)] ⟨rfl, rfl, rfl, rfl, trivial⟩ ?_
     refine k_ret ?_
     obtain rfl := Option.some.inj h
     refine ⟨_, rfl, Ret.mk hS ?_⟩
     exact rfl
   ·
    have h := itF h c14
    refine rt_read undef rfl rfl (fun s56 st56 => ?_) ?_
    ·refine k_no rfl rfl rfl rfl ?_
     exact fq_end
    refine rt_act rfl rfl ?_
    refine k_no rfl rfl rfl rfl ?_
    refine rt_cont ((Step.refl _).of0 (by first | exact fun _ h => h | (intro c h; simp [KC, KO, KU, KN, KB] at h <;> omega))) ?_
    refine rt_read undef rfl rfl (fun s57 st57 => ?_) ?_
    ·refine k_no rfl rfl rfl rfl ?_
     exact fq_end
    refine rt_read (.bool false) rfl rfl (fun s58 st58 => ?_) ?_
    ·refine k_pickF rfl rfl rfl rfl ?_
     exact fq_end
    refine rt_read (.bool false) rfl rfl (fun s59 st59 => ?_) ?_
    ·refine k_move rfl rfl ?_
     exact fq_end
    refine rt_read undef rfl rfl (fun s60 st60 => ?_) ?_
    ·refine k_no rfl rfl rfl rfl ?_
     exact fq_end
    refine rt_act rfl rfl ?_
    refine k_no rfl rfl rfl rfl ?_
    refine rt_cont ((Step.refl _).of0 (by first | exact fun _ h => h | (intro c h; simp [KC, KO, KU, KN, KB] at h <;> omega))) ?_
    refine rt_read undef rfl rfl (fun s61 st61 => ?_) ?_
    ·refine k_no rfl rfl rfl rfl ?_
     exact fq_end
    refine rt_read (.bool false) rfl rfl (fun s62 st62 => ?_) ?_
    ·refine k_pickF rfl rfl rfl rfl ?_
     exact fq_end
    refine rt_read (.bool false) rfl rfl (fun s63 st63 => ?_) ?_
    ·refine k_move rfl rfl ?_
     exact fq_end
    refine rt_read undef rfl rfl (fun s64 st64 => ?_) ?_
    ·refine k_no rfl rfl rfl rfl ?_
     exact fq_end
    refine rt_read undef rfl rfl (fun s65 st65 => ?_) ?_
    ·refine k_no rfl rfl rfl rfl ?_
     exact fq_end
    refine rt_read undef rfl rfl (fun s66 st66 => ?_) ?_
    ·refine k_no rfl rfl rfl rfl ?_
     exact fq_end
    refine rt_read undef rfl rfl (fun s67 st67 => ?_) ?_
    ·refine k_no rfl rfl rfl rfl ?_
     exact fq_end
    refine rt_read undef rfl rfl (fun s68 st68 => ?_) ?_
    ·refine k_no rfl rfl rfl rfl ?_
     exact fq_end
    refine rt_act rfl rfl ?_
    refine k_no rfl rfl rfl rfl ?_
    refine rt_cont ((Step.refl _).of0 (by first | exact fun _ h => h | (intro c h; simp [KC, KO, KU, KN, KB] at h <;> omega))) ?_
    refine rt_read undef rfl rfl (fun s69 st69 => ?_) ?_
    ·refine k_no rfl rfl rfl rfl ?_
     exact fq_end
    refine rt_read (.bool false) rfl rfl (fun s70 st70 => ?_) ?_
    ·refine k_pickF rfl rfl rfl rfl ?_
     exact fq_end
    refine rt_fin ?_
    refine k_assign rfl rfl ?_
    refine k_nil ?_
    refine k_keep [(0, _), (1, _), (4, _), (5, _)] ⟨rfl, rfl, rfl, rfl, trivial⟩ ?_
    refine k_ret ?_
    obtain rfl := Option.some.inj h
    refine ⟨_, rfl, Ret.mk hS ?_⟩
    exact rfl
  ·
   have h := ibF h c8
   refine rt_read undef rfl rfl (fun s71 st71 => ?_) ?_
   ·refine k_no rfl rfl rfl rfl ?_
    exact fq_end
   refine rt_read undef rfl rfl (fun s72 st72 => ?_) ?_
   ·refine k_no rfl rfl rfl rfl ?_
    exact fq_end
   refine rt_read undef rfl rfl (fun s73 st73 => ?_) ?_
   ·refine k_no rfl rfl rfl rfl ?_
    exact fq_end
   refine rt_read (.bool false) rfl rfl (fun s74 st74 => ?_) ?_
   ·refine k_pickF rfl rfl rfl rfl ?_
    exact fq_end
   refine rt_read (.bool false) rfl rfl (fun s75 st75 => ?_) ?_
   ·refine k_move rfl rfl ?_
    exact fq_end
   refine rt_read undef rfl rfl (fun s76 st76 => ?_) ?_
   ·refine k_no rfl rfl rfl rfl ?_
    exact fq_end
   refine rt_act rfl rfl ?_
   refine k_no rfl rfl rfl rfl ?_
   refine rt_cont ((Step.refl _).of0 (by first | exact fun _ h => h | (intro c h; simp [KC, KO, KU, KN, KB] at h <;> omega))) ?_
   refine rt_read undef rfl rfl (fun s77 st77 => ?_) ?_
   ·refine k_no rfl rfl rfl rfl ?_
    exact fq_end
   refine rt_read (.bool false) rfl rfl (fun s78 st78 => ?_) ?_
   ·refine k_pickF rfl rfl rfl rfl ?_
    exact fq_end
   refine rt_read (.bool false) rfl rfl (fun s79 st79 => ?_) ?_
   ·refine k_move rfl rfl ?_
    exact fq_end
   refine rt_read undef rfl rfl (fun s80 st80 => ?_) ?_
   ·refine k_no rfl rfl rfl rfl ?_
    exact fq_end
   refine rt_act rfl rfl ?_
   refine k_no rfl rfl rfl rfl ?_
   refine rt_cont ((Step.refl _).of0 (by first | exact fun _ h => h | (intro c h; simp [KC, KO, KU, KN, KB] at h <;> omega))) ?_
   refine rt_read undef rfl rfl (fun s81 st81 => ?_) ?_
   ·refine k_no rfl rfl rfl rfl ?_
    exact fq_end
   refine rt_read (.bool false) rfl rfl (fun s82 st82 => ?_) ?_
   ·refine k_pickF rfl rfl rfl rfl ?_
    exact fq_end
   refine rt_read (.bool false) rfl rfl (fun s83 st83 => ?_) ?_
   ·refine k_move rfl rfl ?_
    exact fq_end
   refine rt_read undef rfl rfl (fun s84 st84 => ?_) ?_
   ·refine k_no rfl rfl rfl rfl ?_
    exact fq_end
   refine rt_read undef rfl rfl (fun s85 st85 => ?_) ?_
   ·refine k_no rfl rfl rfl rfl ?_
    exact fq_end
   refine rt_read undef rfl rfl (fun s86 st86 => ?_) ?_
   ·refine k_no rfl rfl rfl rfl ?_
    exact fq_end
   refine rt_read undef rfl rfl (fun s87 st87 => ?_) ?_
   ·refine k_no rfl rfl rfl rfl ?_
    exact fq_end
   refine rt_read undef rfl rfl (fun s88 st88 => ?_) ?_
   ·refine k_no rfl rfl rfl rfl ?_
    exact fq_end
   refine rt_act rfl rfl ?_
   refine k_no rfl rfl rfl rfl ?_
   refine rt_cont ((Step.refl _).of0 (by first | exact fun _ h => h | (intro c h; simp [KC, KO, KU, KN, KB] at h <;> omega))) ?_
   refine rt_read undef rfl rfl (fun s89 st89 => ?_) ?_
   ·refine k_no rfl rfl rfl rfl ?_
    exact fq_end
   refine rt_read (.bool false) rfl rfl (fun s90 st90 => ?_) ?_
   ·refine k_pickF rfl rfl rfl rfl ?_
    exact fq_end
   refine rt_fin ?_
   refine k_assign rfl rfl ?_
   refine k_nil ?_
   refine k_keep [(0, _), (1, _), (4, _), (5, _)] ⟨rfl, rfl, rfl, rfl, trivial⟩ ?_
   refine k_ret ?_
   obtain rfl := Option.some.inj h
   refine ⟨_, rfl, Ret.mk hS ?_⟩
   exact rfl
 ·
  have h := ibF h c2
  refine k_skip ?_
  refine k_seq ?_
  refine k_region ?_
  refine k_move rfl rfl ?_
  obtain ⟨x6, hx6, h⟩ := ob h
  refine k_call cal49 rfl (ref05_Disk_Seen_w  (ORef05Disk.mk_ a1 (by omega) hwo1_0 hwo1_1 hb_o1) hx6) rfl ?_
  rintro s91 v91_0 st91 ⟨_, rfl, h91_0⟩
  have szs91 := st91.size
  have hS := hS.trans0 st91
  replace h1_0 := h1_0.up2 st91
  replace ho0 := ho0.up2 st91
  replace hwo1_1 := hwo1_1.up2 st91
  replace hb_o1 := hb_o1.up2 st91
  refine k_assign rfl rfl ?_
  refine k_nil ?_
  refine k_keep [(0, _), (1, _), (4, _), (5, _), (6, _)] ⟨rfl, rfl, rfl, rfl, rfl, trivial⟩ ?_
  refine k_seq ?_
  refine k_seq ?_
  refine k_drawT (KN s91.n) 35 (.read 0 (.alt 1 (.read 2 (.read 3 (.read 4 (.read 5 (.read 6 (.read 7 (.read 8 (.read 9 (.read 10 (.read 12 (.alt 11 (.alt 13 (.read 14 (.read 15 (.read 16 (.read 17 (.read 19 (.read 20 (.read 21 (.read 22 (.read 23 (.alt 18 (.read 24 (.read 25 (.read 26 (.read 27 (.read 29 (.read 30 (.read 31 (.read 32 (.alt 28 (.read 33 (.read 34 .fin)) .no))))))))) .no)))))))))) .no) .no))))))))))) .no)) mixed (by intro c h; (try simp only [KC, KO, KU, KN, KB] at h) <;> omega) rfl rfl rfl ?_
  intro s92 st92
  have szs92 := st92.size
  have hS := hS.trans0 st92
  replace h1_0 := h1_0.up2 st92
  replace h91_0 := h91_0.up2 st92
  replace ho0 := ho0.up2 st92
  replace hwo1_1 := hwo1_1.up2 st92
  replace hb_o1 := hb_o1.up2 st92
  refine rt_read (p0) rfl rfl (fun s93 st93 => ?_) ?_
  ·refine k_move rfl rfl ?_
   exact fq_end
  refine rt_act rfl rfl ?_
  have hA94 := Step.r0 (KN s91.n) s92
  obtain ⟨x7, hx7, h⟩ := ob h
  refine k_call cal18 rfl (disk_Disk_Down_w  ho0 hx7) rfl ?_
  rintro s95 vr95 st95 rfl
  have szs95 := st95.size
  have hS := hS.trans0 st95
  have hA94 := hA94.trans0 st95
  replace h1_0 := h1_0.up2 st95
  replace h91_0 := h91_0.up2 st95
  replace ho0 := ho0.up2 st95
  replace hwo1_1 := hwo1_1.up2 st95
  replace hb_o1 := hb_o1.up2 st95
  refine rt_cont hA94 ?_
  refine rt_read (.bool x7) rfl rfl (fun s96 st96 => ?_) ?_
  ·refine k_move rfl rfl ?_
   exact fq_end
  refine rt_splitb (fun c97 => ?_) (fun c97 => ?_)
  ·
   have h := ibT h c97
   refine rt_read undef rfl rfl (fun s98 st98 => ?_) ?_
   ·refine k_no rfl rfl rfl rfl ?_
    exact fq_end
   refine rt_read undef rfl rfl (fun s99 st99 => ?_) ?_
   ·refine k_no rfl rfl rfl rfl ?_
    exact fq_end
   refine rt_read undef rfl rfl (fun s100 st100 => ?_) ?_
   ·refine k_no rfl rfl rfl rfl ?_
    exact fq_end
   refine rt_read undef rfl rfl (fun s101 st101 => ?_) ?_
   ·refine k_no rfl rfl rfl rfl ?_
    exact fq_end
   refine rt_read undef rfl rfl (fun s102 st102 => ?_) ?_
   ·refine k_no rfl rfl rfl rfl ?_
    exact fq_end
   refine rt_read (.bool true) rfl rfl (fun s103 st103 => ?_) ?_
   ·refine k_pickT rfl rfl rfl rfl ?_
    exact fq_end
   refine rt_read (.bool true) rfl rfl (fun s104 st104 => ?_) ?_
   ·refine k_move rfl rfl ?_
    exact fq_end
   refine rt_read undef rfl rfl (fun s105 st105 => ?_) ?_
   ·refine k_no rfl rfl rfl rfl ?_
    exact fq_end
   refine rt_read undef rfl rfl (fun s106 st106 => ?_) ?_
   ·refine k_no rfl rfl rfl rfl ?_
    exact fq_end
   refine rt_act rfl rfl ?_
   refine k_no rfl rfl rfl rfl ?_
   refine rt_cont ((Step.refl _).of0 (by first | exact fun _ h => h | (intro c h; simp [KC, KO, KU, KN, KB] at h <;> omega))) ?_
   refine rt_act rfl rfl ?_
   refine k_no rfl rfl rfl rfl ?_
   refine rt_cont ((Step.refl _).of0 (by first | exact fun _ h => h | (intro c h; simp [KC, KO, KU, KN, KB] at h <;> omega))) ?_
   refine rt_read undef rfl rfl (fun s107 st107 => ?_) ?_
   ·refine k_no rfl rfl rfl rfl ?_
    exact fq_end
   refine rt_read (.bool true) rfl rfl (fun s108 st108 => ?_) ?_
   ·refine k_pickT rfl rfl rfl rfl ?_
    exact fq_end
   refine rt_read (.bool true) rfl rfl (fun s109 st109 => ?_) ?_
   ·refine k_move rfl rfl ?_
    exact fq_end
   refine rt_read undef rfl rfl (fun s110 st110 => ?_) ?_
   ·refine k_no rfl rfl rfl rfl ?_
    exact fq_end
   refine rt_read undef rfl rfl (fun s111 st111 => ?_) ?_
   ·refine k_no rfl rfl rfl rfl ?_
    exact fq_end
   refine rt_read undef rfl rfl (fun s112 st112 => ?_) ?_
   ·refine k_no rfl rfl rfl rfl ?_
    exact fq_end
   refine rt_read undef rfl rfl (fun s113 st113 => ?_) ?_
   ·refine k_no rfl rfl rfl rfl ?_
    exact fq_end
   refine rt_read undef rfl rfl (fun s114 st114 => ?_) ?_
   ·refine k_no rfl rfl rfl rfl ?_
    exact fq_end
   refine rt_read undef rfl rfl (fun s115 st115 => ?_) ?_
   ·refine k_no rfl rfl rfl rfl ?_
    exact fq_end
   refine rt_act rfl rfl ?_
   refine k_no rfl rfl rfl rfl ?_
   refine rt_cont ((Step.refl _).of0 (by first | exact fun _ h => h | (intro c h; simp [KC, KO, KU, KN, KB] at h <;> omega))) ?_
   refine rt_read undef rfl rfl (fun s116 st116 => ?_) ?_
   ·refine k_no rfl rfl rfl rfl ?_
    exact fq_end
   refine rt_read (.bool true) rfl rfl (fun s117 st117 => ?_) ?_
   ·refine k_pickT rfl rfl rfl rfl ?_
    exact fq_end
   refine rt_read (.bool true) rfl rfl (fun s118 st118 => ?_) ?_
   ·refine k_move rfl rfl ?_
    exact fq_end
   refine rt_read undef rfl rfl (fun s119 st119 => ?_) ?_
   ·refine k_no rfl rfl rfl rfl ?_
    exact fq_end
   refine rt_read undef rfl rfl (fun s120 st120 => ?_) ?_
   ·refine k_no rfl rfl rfl rfl ?_
    exact fq_end
   refine rt_read undef rfl rfl (fun s121 st121 => ?_) ?_
   ·refine k_no rfl rfl rfl rfl ?_
    exact fq_end
   refine rt_read undef rfl rfl (fun s122 st122 => ?_) ?_
   ·refine k_no rfl rfl rfl rfl ?_
    exact fq_end
   refine rt_read undef rfl rfl (fun s123 st123 => ?_) ?_
   ·refine k_no rfl rfl rfl rfl ?_
    exact fq_end
   refine rt_act rfl rfl ?_
   refine k_no rfl rfl rfl rfl ?_
   refine rt_cont ((Step.refl _).of0 (by first | exact fun _ h => h | (intro c h; simp [KC, KO, KU, KN, KB] at h <;> omega))) ?_
   refine rt_read undef rfl rfl (fun s124 st124 => ?_) ?_
   ·refine k_no rfl rfl rfl rfl ?_
    exact fq_end
   refine rt_read (.bool true) rfl rfl (fun s125 st125 => ?_) ?_
   ·refine k_pickT rfl rfl rfl rfl ?_
    exact fq_end
   refine rt_fin ?_
   refine k_nil ?_
   refine k_keep [(0, _), (4, _), (5, _), (6, _), (78, _)] ⟨rfl, rfl, rfl, rfl, rfl, trivial⟩ ?_
   refine k_cond_true rfl ?_
   refine k_seq ?_
   refine k_region ?_
   refine k_assign rfl rfl ?_
   refine k_nil ?_
   refine k_keep [(0, _), (4, _), (5, _), (6, _)] ⟨rfl, rfl, rfl, rfl, trivial⟩ ?_
   refine k_ret ?_
   obtain rfl := Option.some.inj h
   refine ⟨_, rfl, Ret.mk hS ?_⟩
   exact rfl
  ·
   have h := ibF h c97
   refine rt_read (v1_0) rfl rfl (fun s126 st126 => ?_) ?_
   ·refine k_yes rfl rfl ?_
    refine k_move rfl rfl ?_
    exact fq_end
   refine rt_read (.int .i64 (x1.length : Int)) rfl rfl (fun s127 st127 => ?_) ?_
   ·try replace h1_0 := h1_0.up2 st127
    refine k_yes rfl rfl ?_
    refine k_len Tryd.underlying46 rfl (SL.of_R h1_0).hasLen rfl ?_
    refine k_as (v := .int .i64 (x1.length : Int)) (by simp only [List.length_map]) ?_
    exact fq_end
   refine rt_read (v91_0) rfl rfl (fun s128 st128 => ?_) ?_
   ·refine k_yes rfl rfl ?_
    refine k_move rfl rfl ?_
    exact fq_end
   refine rt_read (.int .i64 (x6.length : Int)) rfl rfl (fun s129 st129 => ?_) ?_
   ·try replace h91_0 := h91_0.up2 st129
    refine k_yes rfl rfl ?_
    refine k_len Tryd.underlying65 rfl (SL.of_R h91_0).hasLen rfl ?_
    refine k_as (v := .int .i64 (x6.length : Int)) (by simp only [List.length_map]) ?_
    exact fq_end
   refine rt_read (.bool (decide ((x1.length : Int) ≠ (x6.length : Int)))) rfl rfl (fun s130 st130 => ?_) ?_
   ·refine k_yes rfl rfl ?_
    refine k_neq rfl rfl rfl ?_
    exact fq_end
   refine rt_read (.bool (decide ((x1.length : Int) ≠ (x6.length : Int)))) rfl rfl (fun s131 st131 => ?_) ?_
   ·refine k_pickF rfl rfl rfl rfl ?_
    exact fq_end
   refine rt_read (.bool (decide ((x1.length : Int) ≠ (x6.length : Int)))) rfl rfl (fun s132 st132 => ?_) ?_
   ·refine k_move rfl rfl ?_
    exact fq_end
   refine rt_split (fun c133 => ?_) (fun c133 => ?_)
   ·
    have h := itT h c133
    refine rt_read undef rfl rfl (fun s134 st134 => ?_) ?_
    ·refine k_no rfl rfl rfl rfl ?_
     exact fq_end
    refine rt_read undef rfl rfl (fun s135 st135 => ?_) ?_
    ·refine k_no rfl rfl rfl rfl ?_
     exact fq_end
    refine rt_act rfl rfl ?_
    refine k_no rfl rfl rfl rfl ?_
    refine rt_cont ((Step.refl _).of0 (by first | exact fun _ h => h | (intro c h; simp [KC, KO, KU, KN, KB] at h <;> omega))) ?_
    refine rt_act rfl rfl ?_
    refine k_no rfl rfl rfl rfl ?_
    refine rt_cont ((Step.refl _).of0 (by first | exact fun _ h => h | (intro c h; simp [KC, KO, KU, KN, KB] at h <;> omega))) ?_
    refine rt_read undef rfl rfl (fun s136 st136 => ?_) ?_
    ·refine k_no rfl rfl rfl rfl ?_
     exact fq_end
    refine rt_read (.bool true) rfl rfl (fun s137 st137 => ?_) ?_
    ·refine k_pickT rfl rfl rfl rfl ?_
     exact fq_end
    refine rt_read (.bool true) rfl rfl (fun s138 st138 => ?_) ?_
    ·refine k_move rfl rfl ?_
     exact fq_end
    refine rt_read undef rfl rfl (fun s139 st139 => ?_) ?_
    ·refine k_no rfl rfl rfl rfl ?_
     exact fq_end
    refine rt_read undef rfl rfl (fun s140 st140 => ?_) ?_
    ·refine k_no rfl rfl rfl rfl ?_
     exact fq_end
    refine rt_read undef rfl rfl (fun s141 st141 => ?_) ?_
    ·refine k_no rfl rfl rfl rfl ?_
     exact fq_end
    refine rt_read undef rfl rfl (fun s142 st142 => ?_) ?_
    ·refine k_no rfl rfl rfl rfl ?_
     exact fq_end
    refine rt_read undef rfl rfl (fun s143 st143 => ?_) ?_
    ·refine k_no rfl rfl rfl rfl ?_
     exact fq_end
    refine rt_read undef rfl rfl (fun s144 st144 => ?_) ?_
    ·refine k_no rfl rfl rfl rfl ?_
     exact fq_end
    refine rt_act rfl rfl ?_
    refine k_no rfl rfl rfl rfl ?_
    refine rt_cont ((Step.refl _).of0 (by first | exact fun _ h => h | (intro c h; simp [KC, KO, KU, KN, KB] at h <;> omega))) ?_
    refine rt_read undef rfl rfl (fun s145 st145 => ?_) ?_
    ·refine k_no rfl rfl rfl rfl ?_
     exact fq_end
    refine rt_read (.bool true) rfl rfl (fun s146 st146 => ?_) ?_
    ·refine k_pickT rfl rfl rfl rfl ?_
     exact fq_end
    refine rt_read (.bool true) rfl rfl (fun s147 st147 => ?_) ?_
    ·refine k_move rfl rfl ?_
     exact fq_end
    refine rt_read undef rfl rfl (fun s148 st148 => ?_) ?_
    ·refine k_no rfl rfl rfl rfl ?_
     exact fq_end
    refine rt_read undef rfl rfl (fun s149 st149 => ?_) ?_
    ·refine k_no rfl rfl rfl rfl ?_
     exact fq_end
    refine rt_read undef rfl rfl (fun s150 st150 => ?_) ?_
    ·refine k_no rfl rfl rfl rfl ?_
     exact fq_end
    refine rt_read undef rfl rfl (fun s151 st151 => ?_) ?_
    ·refine k_no rfl rfl rfl rfl ?_
     exact fq_end
    refine rt_read undef rfl rfl (fun s152 st152 => ?_) ?_
    ·refine k_no rfl rfl rfl rfl ?_
     exact fq_end
    refine rt_act rfl rfl ?_
    refine k_no rfl rfl rfl rfl ?_
    refine rt_cont ((Step.refl _).of0 (by first | exact fun _ h => h | (intro c h; simp [KC, KO, KU, KN, KB] at h <;> omega))) ?_
    refine rt_read undef rfl rfl (fun s153 st153 => ?_) ?_
    ·refine k_no rfl rfl rfl rfl ?_
     exact fq_end
    refine rt_read (.bool true) rfl rfl (fun s154 st154 => ?_) ?_
    ·refine k_pickT rfl rfl rfl rfl ?_
     exact fq_end
    refine rt_fin ?_
    refine k_nil ?_
    refine k_keep [(0, _), (4, _), (5, _), (6, _), (78, _)] ⟨rfl, rfl, rfl, rfl, rfl, trivial⟩ ?_
    refine k_cond_true rfl ?_
    refine k_seq ?_
    refine k_region ?_
    refine k_assign rfl rfl ?_
    refine k_nil ?_
    refine k_keep [(0, _), (4, _), (5, _), (6, _)] ⟨rfl, rfl, rfl, rfl, trivial⟩ ?_
    refine k_ret ?_
    obtain rfl := Option.some.inj h
    refine ⟨_, rfl, Ret.mk hS ?_⟩
    exact rfl
   ·
    have h := itF h c133
    refine rt_read (p0) rfl rfl (fun s155 st155 => ?_) ?_
    ·refine k_yes rfl rfl ?_
     refine k_move rfl rfl ?_
     exact fq_end
    refine rt_read (v91_0) rfl rfl (fun s156 st156 => ?_) ?_
    ·refine k_yes rfl rfl ?_
     refine k_move rfl rfl ?_
     exact fq_end
    refine rt_act rfl rfl ?_
    refine k_yes rfl rfl ?_
    have hA157 := Step.r0 (KN s91.n) s95
    obtain ⟨x8, hx8, h⟩ := ob h
    refine k_call cal28 rfl (disk_Disk_Bytes_w  ho0 hx8) rfl ?_
    rintro s158 vr158 st158 rfl
    have szs158 := st158.size
    have hS := hS.trans0 st158
    have hA157 := hA157.trans0 st158
    replace h1_0 := h1_0.up2 st158
    replace h91_0 := h91_0.up2 st158
    replace ho0 := ho0.up2 st158
    replace hwo1_1 := hwo1_1.up2 st158
    replace hb_o1 := hb_o1.up2 st158
    refine rt_cont hA157 ?_
    refine rt_act rfl rfl ?_
    refine k_yes rfl rfl ?_
    have hA159 := Step.r0 (KN s91.n) s158
    obtain ⟨x9, hx9, h⟩ := ob h
    refine k_call cal50 rfl (ref05_Size_w  (SL.of_R h91_0) hx9) rfl ?_
    rintro s160 vr160 st160 rfl
    have szs160 := st160.size
    have hS := hS.trans0 st160
    have hA159 := hA159.trans0 st160
    replace h1_0 := h1_0.up2 st160
    replace h91_0 := h91_0.up2 st160
    replace ho0 := ho0.up2 st160
    replace hwo1_1 := hwo1_1.up2 st160
    replace hb_o1 := hb_o1.up2 st160
    refine rt_cont hA159 ?_
    refine rt_read (.bool (decide (x8 ≠ x9))) rfl rfl (fun s161 st161 => ?_) ?_
    ·refine k_yes rfl rfl ?_
     refine k_neq rfl rfl rfl ?_
     exact fq_end
    refine rt_read (.bool (decide (x8 ≠ x9))) rfl rfl (fun s162 st162 => ?_) ?_
    ·refine k_pickF rfl rfl rfl rfl ?_
     exact fq_end
    refine rt_read (.bool (decide (x8 ≠ x9))) rfl rfl (fun s163 st163 => ?_) ?_
    ·refine k_move rfl rfl ?_
     exact fq_end
    refine rt_split (fun c164 => ?_) (fun c164 => ?_)
    ·
     have h := itT h c164
     refine rt_read undef rfl rfl (fun s165 st165 => ?_) ?_
     ·refine k_no rfl rfl rfl rfl ?_
      exact fq_end
     refine rt_read undef rfl rfl (fun s166 st166 => ?_) ?_
     ·refine k_no rfl rfl rfl rfl ?_
      exact fq_end
     refine rt_read undef rfl rfl (fun s167 st167 => ?_) ?_
     ·refine k_no rfl rfl rfl rfl ?_
      exact fq_end
     refine rt_read undef rfl rfl (fun s168 st168 => ?_) ?_
     ·refine k_no rfl rfl rfl rfl ?_
      exact fq_end
     refine rt_read undef rfl rfl (fun s169 st169 => ?_) ?_
     ·refine k_no rfl rfl rfl rfl ?_
      exact fq_end
     refine rt_read undef rfl rfl (fun s170 st170 => ?_) ?_
     ·refine k_no rfl rfl rfl rfl ?_
      exact fq_end
     refine rt_act rfl rfl ?_
     refine k_no rfl rfl rfl rfl ?_
     refine rt_cont ((Step.refl _).of0 (by first | exact fun _ h => h | (intro c h; simp [KC, KO, KU, KN, KB] at h <;> omega))) ?_
     refine rt_read undef rfl rfl (fun s171 st171 => ?_) ?_
     ·refine k_no rfl rfl rfl rfl ?_
      exact fq_end
     refine rt_read (.bool true) rfl rfl (fun s172 st172 => ?_) ?_
     ·refine k_pickT rfl rfl rfl rfl ?_
      exact fq_end
     refine rt_read (.bool true) rfl rfl (fun s173 st173 => ?_) ?_
     ·refine k_move rfl rfl ?_
      exact fq_end
     refine rt_read undef rfl rfl (fun s174 st174 => ?_) ?_
     ·refine k_no rfl rfl rfl rfl ?_
      exact fq_end
     refine rt_read undef rfl rfl (fun s175 st175 => ?_) ?_
     ·refine k_no rfl rfl rfl rfl ?_
      exact fq_end
     refine rt_read undef rfl rfl (fun s176 st176 => ?_) ?_
     ·refine k_no rfl rfl rfl rfl ?_
      exact fq_end
     refine rt_read undef rfl rfl (fun s177 st177 => ?_) ?_
     ·refine k_no rfl rfl rfl rfl ?_
      exact fq_end
     refine rt_read undef rfl rfl (fun s178 st178 => ?_) ?_
     ·refine k_no rfl rfl rfl rfl ?_
      exact fq_end
     refine rt_act rfl rfl ?_
     refine k_no rfl rfl rfl rfl ?_
     refine rt_cont ((Step.refl _).of0 (by first | exact fun _ h => h | (intro c h; simp [KC, KO, KU, KN, KB] at h <;> omega))) ?_
     refine rt_read undef rfl rfl (fun s179 st179 => ?_) ?_
     ·refine k_no rfl rfl rfl rfl ?_
      exact fq_end
     refine rt_read (.bool true) rfl rfl (fun s180 st180 => ?_) ?_
     ·refine k_pickT rfl rfl rfl rfl ?_
      exact fq_end
     refine rt_fin ?_
     refine k_nil ?_
     refine k_keep [(0, _), (4, _), (5, _), (6, _), (78, _)] ⟨rfl, rfl, rfl, rfl, rfl, trivial⟩ ?_
     refine k_cond_true rfl ?_
     refine k_seq ?_
     refine k_region ?_
     refine k_assign rfl rfl ?_
     refine k_nil ?_
     refine k_keep [(0, _), (4, _), (5, _), (6, _)] ⟨rfl, rfl, rfl, rfl, trivial⟩ ?_
     refine k_ret ?_
     obtain rfl := Option.some.inj h
     refine ⟨_, rfl, Ret.mk hS ?_⟩
     exact rfl
    ·
     have h := itF h c164
     refine rt_read (p0) rfl rfl (fun s181 st181 => ?_) ?_
     ·refine k_yes rfl rfl ?_
      refine k_move rfl rfl ?_
      exact fq_end
     refine rt_read (.pointer (some ⟨bo1, 0, none⟩)) rfl rfl (fun s182 st182 => ?_) ?_
     ·refine k_yes rfl rfl ?_
      refine k_move rfl rfl ?_
      exact fq_end
     refine rt_read (.pointer (some ⟨bo1, 0, none⟩)) rfl rfl (fun s183 st183 => ?_) ?_
     ·refine k_yes rfl rfl ?_
      refine k_nilCheck rfl rfl ?_
      exact fq_end
     refine rt_read (.pointer (some ⟨bo1, 3, none⟩)) rfl rfl (fun s184 st184 => ?_) ?_
     ·refine k_yes rfl rfl ?_
      refine k_field_addr fld68_3 rfl rfl ?_
      exact fq_end
     refine rt_read (wo1_1) rfl rfl (fun s185 st185 => ?_) ?_
     ·try replace hb_o1 := hb_o1.up2 st185
      refine k_yes rfl rfl ?_
      refine k_load_blk one65 rfl hb_o1 rfl rfl ?_
      exact fq_end
     refine rt_read (.int .i64 (a1.Made.length : Int)) rfl rfl (fun s186 st186 => ?_) ?_
     ·try replace hwo1_1 := hwo1_1.up2 st186
      refine k_yes rfl rfl ?_
      refine k_len Tryd.underlying65 rfl (SL.of_R hwo1_1).hasLen rfl ?_
      refine k_as (v := .int .i64 (a1.Made.length : Int)) (by simp only [List.length_map]) ?_
      exact fq_end
     refine rt_act rfl rfl ?_
     refine k_yes rfl rfl ?_
     have hA187 := Step.r0 (KN s91.n) s160
     obtain ⟨x10, hx10, h⟩ := ob h
     refine k_call cal14 rfl (disk_Disk_Waits_w  ho0 hx10) rfl ?_
     rintro s188 vr188 st188 rfl
     have szs188 := st188.size
     have hS := hS.trans0 st188
     have hA187 := hA187.trans0 st188
     replace h1_0 := h1_0.up2 st188
     replace h91_0 := h91_0.up2 st188
     replace ho0 := ho0.up2 st188
     replace hb_o1 := hb_o1.up2 st188
     refine rt_cont hA187 ?_
     refine rt_read (.bool (decide (x10 ≠ (a1.Made.length : Int)))) rfl rfl (fun s189 st189 => ?_) ?_
     ·refine k_yes rfl rfl ?_
      refine k_neq rfl rfl rfl ?_
      exact fq_end
     refine rt_read (.bool (decide (x10 ≠ (a1.Made.length : Int)))) rfl rfl (fun s190 st190 => ?_) ?_
     ·refine k_pickF rfl rfl rfl rfl ?_
      exact fq_end
     refine rt_read (.bool (decide (x10 ≠ (a1.Made.length : Int)))) rfl rfl (fun s191 st191 => ?_) ?_
     ·refine k_move rfl rfl ?_
      exact fq_end
     refine rt_split (fun c192 => ?_) (fun c192 => ?_)
     ·
      have h := itT h c192
      refine rt_read undef rfl rfl (fun s193 st193 => ?_) ?_
      ·refine k_no rfl rfl rfl rfl ?_
       exact fq_end
      refine rt_read undef rfl rfl (fun s194 st194 => ?_) ?_
      ·refine k_no rfl rfl rfl rfl ?_
       exact fq_end
      refine rt_read undef rfl rfl (fun s195 st195 => ?_) ?_
      ·refine k_no rfl rfl rfl rfl ?_
       exact fq_end
      refine rt_read undef rfl rfl (fun s196 st196 => ?_) ?_
      ·refine k_no rfl rfl rfl rfl ?_
       exact fq_end
      refine rt_read undef rfl rfl (fun s197 st197 => ?_) ?_
      ·refine k_no rfl rfl rfl rfl ?_
       exact fq_end
      refine rt_act rfl rfl ?_
      refine k_no rfl rfl rfl rfl ?_
      refine rt_cont ((Step.refl _).of0 (by first | exact fun _ h => h | (intro c h; simp [KC, KO, KU, KN, KB] at h <;> omega))) ?_
      refine rt_read undef rfl rfl (fun s198 st198 => ?_) ?_
      ·refine k_no rfl rfl rfl rfl ?_
       exact fq_end
      refine rt_read (.bool true) rfl rfl (fun s199 st199 => ?_) ?_
      ·refine k_pickT rfl rfl rfl rfl ?_
       exact fq_end
      refine rt_fin ?_
      refine k_nil ?_
      refine k_keep [(0, _), (4, _), (5, _), (6, _), (78, _)] ⟨rfl, rfl, rfl, rfl, rfl, trivial⟩ ?_
      refine k_cond_true rfl ?_
      refine k_seq ?_
      refine k_region ?_
      refine k_assign rfl rfl ?_
      refine k_nil ?_
      refine k_keep [(0, _), (4, _), (5, _), (6, _)] ⟨rfl, rfl, rfl, rfl, trivial⟩ ?_
      refine k_ret ?_
      obtain rfl := Option.some.inj h
      refine ⟨_, rfl, Ret.mk hS ?_⟩
      exact rfl
     ·
      have h := itF h c192
      refine rt_read (p0) rfl rfl (fun s200 st200 => ?_) ?_
      ·refine k_yes rfl rfl ?_
       refine k_move rfl rfl ?_
       exact fq_end
      refine rt_read (.pointer (some ⟨bo1, 0, none⟩)) rfl rfl (fun s201 st201 => ?_) ?_
      ·refine k_yes rfl rfl ?_
       refine k_move rfl rfl ?_
       exact fq_end
      refine rt_read (.pointer (some ⟨bo1, 0, none⟩)) rfl rfl (fun s202 st202 => ?_) ?_
      ·refine k_yes rfl rfl ?_
       refine k_nilCheck rfl rfl ?_
       exact fq_end
      refine rt_read (.pointer (some ⟨bo1, 0, none⟩)) rfl rfl (fun s203 st203 => ?_) ?_
      ·refine k_yes rfl rfl ?_
       refine k_field_addr fld68_0 rfl rfl ?_
       exact fq_end
      refine rt_read (.int .i64 a1.Most) rfl rfl (fun s204 st204 => ?_) ?_
      ·try replace hb_o1 := hb_o1.up2 st204
       refine k_yes rfl rfl ?_
       refine k_load_blk one3 rfl hb_o1 rfl rfl ?_
       exact fq_end
      refine rt_act rfl rfl ?_
      refine k_yes rfl rfl ?_
      have hA205 := Step.r0 (KN s91.n) s188
      obtain ⟨x11, hx11, h⟩ := ob h
      refine k_call cal33 rfl (disk_Disk_Capacity_w  ho0 hx11) rfl ?_
      rintro s206 vr206 st206 rfl
      have szs206 := st206.size
      have hS := hS.trans0 st206
      have hA205 := hA205.trans0 st206
      replace h1_0 := h1_0.up2 st206
      replace h91_0 := h91_0.up2 st206
      replace ho0 := ho0.up2 st206
      refine rt_cont hA205 ?_
      refine rt_read (.bool (decide (x11 ≠ a1.Most))) rfl rfl (fun s207 st207 => ?_) ?_
      ·refine k_yes rfl rfl ?_
       refine k_neq rfl rfl rfl ?_
       exact fq_end
      refine rt_read (.bool (decide (x11 ≠ a1.Most))) rfl rfl (fun s208 st208 => ?_) ?_
      ·refine k_pickF rfl rfl rfl rfl ?_
       exact fq_end
      refine rt_fin ?_
      refine k_nil ?_
      refine k_keep [(0, _), (4, _), (5, _), (6, _), (78, _)] ⟨rfl, rfl, rfl, rfl, rfl, trivial⟩ ?_
      refine k_cond_dec rfl (fun c209 => ?_) (fun c209 => ?_)
      ·
       have h := itT h c209
       refine k_seq ?_
       refine k_region ?_
       refine k_assign rfl rfl ?_
       refine k_nil ?_
       refine k_keep [(0, _), (4, _), (5, _), (6, _)] ⟨rfl, rfl, rfl, rfl, trivial⟩ ?_
       refine k_ret ?_
       obtain rfl := Option.some.inj h
       refine ⟨_, rfl, Ret.mk hS ?_⟩
       exact rfl
      ·
       have h := itF h c209
       refine k_skip ?_
       refine k_seq ?_
       refine k_keep [(0, _), (4, _), (5, _), (6, _)] ⟨rfl, rfl, rfl, rfl, trivial⟩ ?_
       obtain ⟨kj12, hK210, h⟩ := jn_out h
       have hE210 := Step.r0 K0 s206
       refine k_cutc (X := St) [(4, .bool false)] (fun (xL : St) => match xL with | sl => []) (fun (xL : St) (wL : World) => match xL with | sl => sl.w = wL ∧ Step K0 s206 sl ∧ kj12 () = some r) ?_ ?_
       ·
        refine k_seq ?_
        refine k_region ?_
        refine k_assign rfl rfl ?_
        refine k_nil ?_
        refine k_block ?_
        refine k_loopc (X := St × Int × Nat) [(0, _), (4, _), (5, _), (6, _)] (fun (xL : St × Int × Nat) => match xL with | (sl, x13, j) => [(7, .int .i64 x13)]) (fun (xL : St × Int × Nat) (wL : World) => match xL with | (sl, x13, j) => sl.w = wL ∧ Step K0 s206 sl ∧ law05_shows_l1 x6 a0 x1 kj12 j x13 = some r) (fun (xL : St × Int × Nat) => match xL with | (sl, x13, j) => j) (s206, 0, FU) ⟨rfl, rfl, rfl, rfl, trivial⟩ ⟨(by first | rfl | (simp <;> rfl)), trivial⟩ ⟨rfl, (Step.refl _).of0 (by first | exact fun _ h => h | (intro c h; simp [KC, KO, KU, KN, KB] at h <;> omega)), h⟩ ?_
        rintro ⟨s212, x13, j⟩ wL ⟨rfl, hE211, h⟩
        cases j with
        | zero => rw [law05_shows_l1] at h; exact (noneNe h).elim
        | succ j =>
        rw [law05_shows_l1] at h
        have szs212 := hE211.size
        have hS := hS.trans0 hE211
        have hE210 := hE210.trans0 hE211
        replace h1_0 := h1_0.up2 hE211
        replace h91_0 := h91_0.up2 hE211
        replace ho0 := ho0.up2 hE211
        refine k_seq ?_
        refine k_seq ?_
        refine k_region ?_
        refine k_move rfl rfl ?_
        refine k_move rfl rfl ?_
        refine k_len Tryd.underlying65 rfl (SL.of_R h91_0).hasLen rfl ?_
        refine k_as (v := .int .i64 (x6.length : Int)) (by simp only [List.length_map]) ?_
        refine k_lss rfl rfl rfl ?_
        refine k_nil ?_
        refine k_keep [(0, _), (4, _), (5, _), (6, _), (7, _), (82, _)] ⟨rfl, rfl, rfl, rfl, rfl, rfl, trivial⟩ ?_
        refine k_cond_dec rfl (fun c213 => ?_) (fun c213 => ?_)
        ·
         have h := itT h c213
         refine k_skip ?_
         refine k_seq ?_
         refine k_block ?_
         refine k_seq ?_
         refine k_region ?_
         refine k_move rfl rfl ?_
         refine k_move rfl rfl ?_
         refine k_move rfl rfl ?_
         obtain ⟨x14, hx14, h⟩ := ob h
         refine k_ixaddr Tryd.underlying65 size87 rfl rfl (SL.of_R h91_0) (geti_out hx14).1 (geti_map hx14) rfl ?_
         intro qx14 hqx14
         refine k_field_at (o := 0) rfl hqx14 (by rfl) fld87_0 rfl ?_
         intro q214 h214
         refine k_load_val one9 rfl h214 rfl ?_
         obtain ⟨x15, hx15, h⟩ := ob h
         refine k_call cal27 rfl (disk_Disk_Read_w  ho0 hx15) rfl ?_
         rintro s215 vr215 st215 ⟨v215_0, rfl, h215_0⟩
         have szs215 := st215.size
         have hS := hS.trans0 st215
         have hE210 := hE210.trans0 st215
         have hE211 := hE211.trans0 st215
         replace h1_0 := h1_0.up2 st215
         replace h91_0 := h91_0.up2 st215
         replace ho0 := ho0.up2 st215
         refine k_move rfl rfl ?_
         refine k_extract rfl rfl rfl ?_
         refine k_extract rfl rfl rfl ?_
         refine k_assign rfl rfl ?_
         refine k_assign rfl rfl ?_
         refine k_nil ?_
         refine k_keep [(0, _), (4, _), (5, _), (6, _), (7, _), (8, _), (9, _)] ⟨rfl, rfl, rfl, rfl, rfl, rfl, rfl, trivial⟩ ?_
         refine k_seq ?_
         refine k_drawT (KN s215.n) 36 (.read 0 (.read 1 (.read 2 (.read 3 (.read 4 (.read 5 (.read 6 (.read 7 (.read 8 (.read 9 (.read 10 (.read 11 (.read 12 (.read 13 (.read 14 (.read 15 (.read 16 (.read 17 (.read 18 (.read 19 (.read 20 (.read 21 (.read 22 (.read 23 (.read 24 (.read 25 (.read 26 (.read 27 (.read 28 (.read 29 (.read 30 (.read 32 (.read 33 (.alt 31 (.read 34 (.read 35 .fin)) .no)))))))))))))))))))))))))))))))))) mixed (by intro c h; (try simp only [KC, KO, KU, KN, KB] at h) <;> omega) rfl rfl rfl ?_
         intro s216 st216
         have szs216 := st216.size
         have hS := hS.trans0 st216
         have hE210 := hE210.trans0 st216
         have hE211 := hE211.trans0 st216
         replace h1_0 := h1_0.up2 st216
         replace h91_0 := h91_0.up2 st216
         replace h215_0 := h215_0.up2 st216
         replace ho0 := ho0.up2 st216
         refine rt_read (v1_0) rfl rfl (fun s217 st217 => ?_) ?_
         ·refine k_move rfl rfl ?_
          exact fq_end
         refine rt_read (.int .i64 x13) rfl rfl (fun s218 st218 => ?_) ?_
         ·refine k_move rfl rfl ?_
          exact fq_end
         obtain ⟨x16, hx16, h⟩ := ob h
         refine rt_ix rfl (wanted_none rfl) Tryd.underlying46 size9 rfl rfl (SL.of_R h1_0) (geti_out hx16).1 (geti_map hx16) rfl ?_
         intro q219 hq219
         refine rt_read (S x16) rfl rfl (fun s220 st220 => ?_) ?_
         ·try replace hq219 := hq219.up2 st220
          refine k_load_val one9 rfl hq219 rfl ?_
          exact fq_end
         refine rt_read (v91_0) rfl rfl (fun s221 st221 => ?_) ?_
         ·refine k_move rfl rfl ?_
          exact fq_end
         refine rt_read (.int .i64 x13) rfl rfl (fun s222 st222 => ?_) ?_
         ·refine k_move rfl rfl ?_
          exact fq_end
         obtain ⟨x17, hx17, h⟩ := ob h
         refine rt_ix rfl (wanted_none rfl) Tryd.underlying65 size87 rfl rfl (SL.of_R h91_0) (geti_out hx17).1 (geti_map hx17) rfl ?_
         intro q223 hq223
         refine rt_fa rfl (wanted_none rfl) rfl hq223 (by rfl) fld87_0 rfl ?_
         intro q224 h224
         refine rt_read (S x17.Name) rfl rfl (fun s225 st225 => ?_) ?_
         ·try replace h224 := h224.up2 st225
          refine k_load_val one9 rfl h224 rfl ?_
          exact fq_end
         refine rt_read (.bool (decide (x16 ≠ x17.Name))) rfl rfl (fun s226 st226 => ?_) ?_
         ·refine k_neq_str rfl rfl rfl ?_
          exact fq_end
         refine rt_read (.bool (decide (x16 ≠ x17.Name))) rfl rfl (fun s227 st227 => ?_) ?_
         ·refine k_move rfl rfl ?_
          exact fq_end
         refine rt_split (fun c228 => ?_) (fun c228 => ?_)
         ·
          have h := itT h c228
          refine rt_read undef rfl rfl (fun s229 st229 => ?_) ?_
          ·refine k_no rfl rfl rfl rfl ?_
           exact fq_end
          refine rt_read undef rfl rfl (fun s230 st230 => ?_) ?_
          ·refine k_no rfl rfl rfl rfl ?_
           exact fq_end
          refine rt_read (.bool true) rfl rfl (fun s231 st231 => ?_) ?_
          ·refine k_pickT rfl rfl rfl rfl ?_
           exact fq_end
          refine rt_read (.bool true) rfl rfl (fun s232 st232 => ?_) ?_
          ·refine k_move rfl rfl ?_
           exact fq_end
          refine rt_read undef rfl rfl (fun s233 st233 => ?_) ?_
          ·refine k_no rfl rfl rfl rfl ?_
           exact fq_end
          refine rt_read undef rfl rfl (fun s234 st234 => ?_) ?_
          ·refine k_no rfl rfl rfl rfl ?_
           exact fq_end
          refine rt_read undef rfl rfl (fun s235 st235 => ?_) ?_
          ·refine k_no rfl rfl rfl rfl ?_
           exact fq_end
          refine rt_read undef rfl rfl (fun s236 st236 => ?_) ?_
          ·refine k_no rfl rfl rfl rfl ?_
           exact fq_end
          refine rt_read undef rfl rfl (fun s237 st237 => ?_) ?_
          ·refine k_no rfl rfl rfl rfl ?_
           exact fq_end
          refine rt_read undef rfl rfl (fun s238 st238 => ?_) ?_
          ·refine k_no rfl rfl rfl rfl ?_
           exact fq_end
          refine rt_read undef rfl rfl (fun s239 st239 => ?_) ?_
          ·refine k_no rfl rfl rfl rfl ?_
           exact fq_end
          refine rt_read undef rfl rfl (fun s240 st240 => ?_) ?_
          ·refine k_no rfl rfl rfl rfl ?_
           exact fq_end
          refine rt_read undef rfl rfl (fun s241 st241 => ?_) ?_
          ·refine k_no rfl rfl rfl rfl ?_
           exact fq_end
          refine rt_read (.bool true) rfl rfl (fun s242 st242 => ?_) ?_
          ·refine k_pickT rfl rfl rfl rfl ?_
           exact fq_end
          refine rt_read (.bool true) rfl rfl (fun s243 st243 => ?_) ?_
          ·refine k_move rfl rfl ?_
           exact fq_end
          refine rt_read undef rfl rfl (fun s244 st244 => ?_) ?_
          ·refine k_no rfl rfl rfl rfl ?_
           exact fq_end
          refine rt_read undef rfl rfl (fun s245 st245 => ?_) ?_
          ·refine k_no rfl rfl rfl rfl ?_
           exact fq_end
          refine rt_read undef rfl rfl (fun s246 st246 => ?_) ?_
          ·refine k_no rfl rfl rfl rfl ?_
           exact fq_end
          refine rt_read undef rfl rfl (fun s247 st247 => ?_) ?_
          ·refine k_no rfl rfl rfl rfl ?_
           exact fq_end
          refine rt_read undef rfl rfl (fun s248 st248 => ?_) ?_
          ·refine k_no rfl rfl rfl rfl ?_
           exact fq_end
          refine rt_read undef rfl rfl (fun s249 st249 => ?_) ?_
          ·refine k_no rfl rfl rfl rfl ?_
           exact fq_end
          refine rt_read undef rfl rfl (fun s250 st250 => ?_) ?_
          ·refine k_no rfl rfl rfl rfl ?_
           exact fq_end
          refine rt_act rfl rfl ?_
          refine k_no rfl rfl rfl rfl ?_
          refine rt_cont ((Step.refl _).of0 (by first | exact fun _ h => h | (intro c h; simp [KC, KO, KU, KN, KB] at h <;> omega))) ?_
          refine rt_read undef rfl rfl (fun s251 st251 => ?_) ?_
          ·refine k_no rfl rfl rfl rfl ?_
           exact fq_end
          refine rt_read (.bool true) rfl rfl (fun s252 st252 => ?_) ?_
          ·refine k_pickT rfl rfl rfl rfl ?_
           exact fq_end
          refine rt_fin ?_
          refine k_nil ?_
          refine k_keep [(0, _), (4, _), (5, _), (6, _), (7, _), (130, _)] ⟨rfl, rfl, rfl, rfl, rfl, rfl, trivial⟩ ?_
          refine k_cond_true rfl ?_
          refine k_seq ?_
          refine k_region ?_
          refine k_assign rfl rfl ?_
          refine k_nil ?_
          refine k_keep [(0, _), (4, _), (5, _), (6, _), (7, _)] ⟨rfl, rfl, rfl, rfl, rfl, trivial⟩ ?_
          refine k_ret ?_
          obtain rfl := Option.some.inj h
          refine ⟨_, rfl, Ret.mk hS ?_⟩
          exact rfl
         ·
          have h := itF h c228
          refine rt_read (.int .i64 x15.2) rfl rfl (fun s253 st253 => ?_) ?_
          ·refine k_yes rfl rfl ?_
           refine k_move rfl rfl ?_
           exact fq_end
          refine rt_read (.bool (decide (x15.2 ≠ 0))) rfl rfl (fun s254 st254 => ?_) ?_
          ·refine k_yes rfl rfl ?_
           refine k_neq rfl rfl rfl ?_
           exact fq_end
          refine rt_read (.bool (decide (x15.2 ≠ 0))) rfl rfl (fun s255 st255 => ?_) ?_
          ·refine k_pickF rfl rfl rfl rfl ?_
           exact fq_end
          refine rt_read (.bool (decide (x15.2 ≠ 0))) rfl rfl (fun s256 st256 => ?_) ?_
          ·refine k_move rfl rfl ?_
           exact fq_end
          refine rt_split (fun c257 => ?_) (fun c257 => ?_)
          ·
           have h := itT h c257
           refine rt_read undef rfl rfl (fun s258 st258 => ?_) ?_
           ·refine k_no rfl rfl rfl rfl ?_
            exact fq_end
           refine rt_read undef rfl rfl (fun s259 st259 => ?_) ?_
           ·refine k_no rfl rfl rfl rfl ?_
            exact fq_end
           refine rt_read undef rfl rfl (fun s260 st260 => ?_) ?_
           ·refine k_no rfl rfl rfl rfl ?_
            exact fq_end
           refine rt_read undef rfl rfl (fun s261 st261 => ?_) ?_
           ·refine k_no rfl rfl rfl rfl ?_
            exact fq_end
           refine rt_read undef rfl rfl (fun s262 st262 => ?_) ?_
           ·refine k_no rfl rfl rfl rfl ?_
            exact fq_end
           refine rt_read undef rfl rfl (fun s263 st263 => ?_) ?_
           ·refine k_no rfl rfl rfl rfl ?_
            exact fq_end
           refine rt_read undef rfl rfl (fun s264 st264 => ?_) ?_
           ·refine k_no rfl rfl rfl rfl ?_
            exact fq_end
           refine rt_read undef rfl rfl (fun s265 st265 => ?_) ?_
           ·refine k_no rfl rfl rfl rfl ?_
            exact fq_end
           refine rt_read undef rfl rfl (fun s266 st266 => ?_) ?_
           ·refine k_no rfl rfl rfl rfl ?_
            exact fq_end
           refine rt_read (.bool true) rfl rfl (fun s267 st267 => ?_) ?_
           ·refine k_pickT rfl rfl rfl rfl ?_
            exact fq_end
           refine rt_read (.bool true) rfl rfl (fun s268 st268 => ?_) ?_
           ·refine k_move rfl rfl ?_
            exact fq_end
           refine rt_read undef rfl rfl (fun s269 st269 => ?_) ?_
           ·refine k_no rfl rfl rfl rfl ?_
            exact fq_end
           refine rt_read undef rfl rfl (fun s270 st270 => ?_) ?_
           ·refine k_no rfl rfl rfl rfl ?_
            exact fq_end
           refine rt_read undef rfl rfl (fun s271 st271 => ?_) ?_
           ·refine k_no rfl rfl rfl rfl ?_
            exact fq_end
           refine rt_read undef rfl rfl (fun s272 st272 => ?_) ?_
           ·refine k_no rfl rfl rfl rfl ?_
            exact fq_end
           refine rt_read undef rfl rfl (fun s273 st273 => ?_) ?_
           ·refine k_no rfl rfl rfl rfl ?_
            exact fq_end
           refine rt_read undef rfl rfl (fun s274 st274 => ?_) ?_
           ·refine k_no rfl rfl rfl rfl ?_
            exact fq_end
           refine rt_read undef rfl rfl (fun s275 st275 => ?_) ?_
           ·refine k_no rfl rfl rfl rfl ?_
            exact fq_end
           refine rt_act rfl rfl ?_
           refine k_no rfl rfl rfl rfl ?_
           refine rt_cont ((Step.refl _).of0 (by first | exact fun _ h => h | (intro c h; simp [KC, KO, KU, KN, KB] at h <;> omega))) ?_
           refine rt_read undef rfl rfl (fun s276 st276 => ?_) ?_
           ·refine k_no rfl rfl rfl rfl ?_
            exact fq_end
           refine rt_read (.bool true) rfl rfl (fun s277 st277 => ?_) ?_
           ·refine k_pickT rfl rfl rfl rfl ?_
            exact fq_end
           refine rt_fin ?_
           refine k_nil ?_
           refine k_keep [(0, _), (4, _), (5, _), (6, _), (7, _), (130, _)] ⟨rfl, rfl, rfl, rfl, rfl, rfl, trivial⟩ ?_
           refine k_cond_true rfl ?_
           refine k_seq ?_
           refine k_region ?_
           refine k_assign rfl rfl ?_
           refine k_nil ?_
           refine k_keep [(0, _), (4, _), (5, _), (6, _), (7, _)] ⟨rfl, rfl, rfl, rfl, rfl, trivial⟩ ?_
           refine k_ret ?_
           obtain rfl := Option.some.inj h
           refine ⟨_, rfl, Ret.mk hS ?_⟩
           exact rfl
          ·
           have h := itF h c257
           refine rt_read (v215_0) rfl rfl (fun s278 st278 => ?_) ?_
           ·refine k_yes rfl rfl ?_
            refine k_move rfl rfl ?_
            exact fq_end
           refine rt_read (S x15.1) rfl rfl (fun s279 st279 => ?_) ?_
           ·try replace h215_0 := h215_0.up2 st279
            refine k_yes rfl rfl ?_
            refine k_bts (m := x15.1) Tryd.underlying29 Tryd.underlying5 Tryd.underlying9 rfl (SL.of_R h215_0) rfl ?_
            exact fq_end
           refine rt_read (v91_0) rfl rfl (fun s280 st280 => ?_) ?_
           ·refine k_yes rfl rfl ?_
            refine k_move rfl rfl ?_
            exact fq_end
           refine rt_read (.int .i64 x13) rfl rfl (fun s281 st281 => ?_) ?_
           ·refine k_yes rfl rfl ?_
            refine k_move rfl rfl ?_
            exact fq_end
           obtain ⟨x18, hx18, h⟩ := ob h
           refine rt_ix rfl (wanted_yes rfl rfl rfl) Tryd.underlying65 size87 rfl rfl (SL.of_R h91_0) (geti_out hx18).1 (geti_map hx18) rfl ?_
           intro q282 hq282
           refine rt_fa rfl (wanted_yes rfl rfl rfl) rfl hq282 (by rfl) fld87_1 rfl ?_
           intro q283 h283
           refine rt_ldsl rfl (wanted_yes rfl rfl rfl) one29 rfl h283 (by first | exact id | (simp only [KC, KO, KU, KN, KB] <;> omega)) rfl ?_
           intro v284 h284
           refine rt_read (S x18.Bytes) rfl rfl (fun s285 st285 => ?_) ?_
           ·try replace h284 := h284.up2 st285
            refine k_yes rfl rfl ?_
            refine k_bts (m := x18.Bytes) Tryd.underlying29 Tryd.underlying5 Tryd.underlying9 rfl (SL.of_R h284) rfl ?_
            exact fq_end
           refine rt_read (.bool (decide (x15.1 ≠ x18.Bytes))) rfl rfl (fun s286 st286 => ?_) ?_
           ·refine k_yes rfl rfl ?_
            refine k_neq_str rfl rfl rfl ?_
            exact fq_end
           refine rt_read (.bool (decide (x15.1 ≠ x18.Bytes))) rfl rfl (fun s287 st287 => ?_) ?_
           ·refine k_pickF rfl rfl rfl rfl ?_
            exact fq_end
           refine rt_read (.bool (decide (x15.1 ≠ x18.Bytes))) rfl rfl (fun s288 st288 => ?_) ?_
           ·refine k_move rfl rfl ?_
            exact fq_end
           refine rt_split (fun c289 => ?_) (fun c289 => ?_)
           ·
            have h := itT h c289
            refine rt_read undef rfl rfl (fun s290 st290 => ?_) ?_
            ·refine k_no rfl rfl rfl rfl ?_
             exact fq_end
            refine rt_read undef rfl rfl (fun s291 st291 => ?_) ?_
            ·refine k_no rfl rfl rfl rfl ?_
             exact fq_end
            refine rt_read undef rfl rfl (fun s292 st292 => ?_) ?_
            ·refine k_no rfl rfl rfl rfl ?_
             exact fq_end
            refine rt_read undef rfl rfl (fun s293 st293 => ?_) ?_
            ·refine k_no rfl rfl rfl rfl ?_
             exact fq_end
            refine rt_read undef rfl rfl (fun s294 st294 => ?_) ?_
            ·refine k_no rfl rfl rfl rfl ?_
             exact fq_end
            refine rt_read undef rfl rfl (fun s295 st295 => ?_) ?_
            ·refine k_no rfl rfl rfl rfl ?_
             exact fq_end
            refine rt_read undef rfl rfl (fun s296 st296 => ?_) ?_
            ·refine k_no rfl rfl rfl rfl ?_
             exact fq_end
            refine rt_act rfl rfl ?_
            refine k_no rfl rfl rfl rfl ?_
            refine rt_cont ((Step.refl _).of0 (by first | exact fun _ h => h | (intro c h; simp [KC, KO, KU, KN, KB] at h <;> omega))) ?_
            refine rt_read undef rfl rfl (fun s297 st297 => ?_) ?_
            ·refine k_no rfl rfl rfl rfl ?_
             exact fq_end
            refine rt_read (.bool true) rfl rfl (fun s298 st298 => ?_) ?_
            ·refine k_pickT rfl rfl rfl rfl ?_
             exact fq_end
            refine rt_fin ?_
            refine k_nil ?_
            refine k_keep [(0, _), (4, _), (5, _), (6, _), (7, _), (130, _)] ⟨rfl, rfl, rfl, rfl, rfl, rfl, trivial⟩ ?_
            refine k_cond_true rfl ?_
            refine k_seq ?_
            refine k_region ?_
            refine k_assign rfl rfl ?_
            refine k_nil ?_
            refine k_keep [(0, _), (4, _), (5, _), (6, _), (7, _)] ⟨rfl, rfl, rfl, rfl, rfl, trivial⟩ ?_
            refine k_ret ?_
            obtain rfl := Option.some.inj h
            refine ⟨_, rfl, Ret.mk hS ?_⟩
            exact rfl
           ·
            have h := itF h c289
            refine rt_read (p0) rfl rfl (fun s299 st299 => ?_) ?_
            ·refine k_yes rfl rfl ?_
             refine k_move rfl rfl ?_
             exact fq_end
            refine rt_read (v1_0) rfl rfl (fun s300 st300 => ?_) ?_
            ·refine k_yes rfl rfl ?_
             refine k_move rfl rfl ?_
             exact fq_end
            refine rt_read (.int .i64 x13) rfl rfl (fun s301 st301 => ?_) ?_
            ·refine k_yes rfl rfl ?_
             refine k_move rfl rfl ?_
             exact fq_end
            obtain ⟨x19, hx19, h⟩ := ob h
            refine rt_ix rfl (wanted_yes rfl rfl rfl) Tryd.underlying46 size9 rfl rfl (SL.of_R h1_0) (geti_out hx19).1 (geti_map hx19) rfl ?_
            intro q302 hq302
            refine rt_read (S x19) rfl rfl (fun s303 st303 => ?_) ?_
            ·try replace hq302 := hq302.up2 st303
             refine k_yes rfl rfl ?_
             refine k_load_val one9 rfl hq302 rfl ?_
             exact fq_end
            refine rt_read (v215_0) rfl rfl (fun s304 st304 => ?_) ?_
            ·refine k_yes rfl rfl ?_
             refine k_move rfl rfl ?_
             exact fq_end
            refine rt_read (.int .i64 (x15.1.length : Int)) rfl rfl (fun s305 st305 => ?_) ?_
            ·try replace h215_0 := h215_0.up2 st305
             refine k_yes rfl rfl ?_
             refine k_len Tryd.underlying29 rfl (SL.of_R h215_0).hasLen rfl ?_
             refine k_as (v := .int .i64 (x15.1.length : Int)) (by simp only [List.length_map]) ?_
             exact fq_end
            refine rt_act rfl rfl ?_
            refine k_yes rfl rfl ?_
            have hA306 := Step.r0 (KN s215.n) s216
            obtain ⟨x20, hx20, h⟩ := ob h
            refine k_call cal30 rfl (disk_Disk_Size_w  ho0 hx20) rfl ?_
            rintro s307 vr307 st307 rfl
            have szs307 := st307.size
            have hS := hS.trans0 st307
            have hE210 := hE210.trans0 st307
            have hE211 := hE211.trans0 st307
            have hA306 := hA306.trans0 st307
            refine rt_cont hA306 ?_
            refine rt_read (.bool (decide (x20 ≠ (x15.1.length : Int)))) rfl rfl (fun s308 st308 => ?_) ?_
            ·refine k_yes rfl rfl ?_
             refine k_neq rfl rfl rfl ?_
             exact fq_end
            refine rt_read (.bool (decide (x20 ≠ (x15.1.length : Int)))) rfl rfl (fun s309 st309 => ?_) ?_
            ·refine k_pickF rfl rfl rfl rfl ?_
             exact fq_end
            refine rt_fin ?_
            refine k_nil ?_
            refine k_keep [(0, _), (4, _), (5, _), (6, _), (7, _), (130, _)] ⟨rfl, rfl, rfl, rfl, rfl, rfl, trivial⟩ ?_
            refine k_cond_dec rfl (fun c310 => ?_) (fun c310 => ?_)
            ·
             have h := itT h c310
             refine k_seq ?_
             refine k_region ?_
             refine k_assign rfl rfl ?_
             refine k_nil ?_
             refine k_keep [(0, _), (4, _), (5, _), (6, _), (7, _)] ⟨rfl, rfl, rfl, rfl, rfl, trivial⟩ ?_
             refine k_ret ?_
             obtain rfl := Option.some.inj h
             refine ⟨_, rfl, Ret.mk hS ?_⟩
             exact rfl
            ·
             have h := itF h c310
             refine k_skip ?_
             refine k_blk ?_
             refine k_region ?_
             refine k_move rfl rfl ?_
             refine k_add rfl rfl rfl ?_
             refine k_assign rfl rfl ?_
             refine k_nil ?_
             exact k_stop ⟨(s307, i64 (x13 + 1), j), ⟨(by first | rfl | (simp <;> rfl)), trivial⟩, ⟨rfl, rfl, rfl, rfl, trivial⟩, ⟨rfl, hE211, h⟩, (by simp)⟩
        ·
         have h := itF h c213
         refine k_exit rfl ?_
         exact k_stop ⟨s212, trivial, ⟨rfl, trivial⟩, ⟨rfl, hE210, h⟩⟩
       ·
        rintro s311 wL ⟨rfl, hE210, h⟩
        rw [hK210] at h
        have szs311 := hE210.size
        have hS := hS.trans0 hE210
        refine k_seq ?_
        refine k_region ?_
        refine k_assign rfl rfl ?_
        refine k_nil ?_
        refine k_ret ?_
        obtain rfl := Option.some.inj h
        refine ⟨_, rfl, Ret.mk hS ?_⟩
        exact rfl

set_option maxHeartbeats 1000000 in
set_option maxRecDepth 100000 in
theorem law05_DiskApart_w {s : St} {a0 : Int} {l1 : Lab} {v1 : Value} {a1 : (List Law05Call)} {l2 : Lab} {v2 : Value} {a2 : (List Law05Call)} {l3 : Lab} {v3 : Value} {a3 : (List Law05Call)} {r : Bool} (hp1 : SL s l1 v1 7 (a1.map dLaw05Call)) (hp2 : SL s l2 v2 7 (a2.map dLaw05Call)) (hp3 : SL s l3 v3 7 (a3.map dLaw05Call)) (h : law05_DiskApart a0 a1 a2 a3 = some r) : Calls Tryd.prog 10 #[.int .i64 a0, v1, v2, v3] s.w (Ret s K0 (fun s1 v => v = .bool r)) := by
 unfold law05_DiskApart at h
 obtain ⟨lf1, lf1le, lf1ne, hp1⟩ := hp1.fix
 obtain ⟨lf2, lf2le, lf2ne, hp2⟩ := hp2.fix
 obtain ⟨lf3, lf3le, lf3ne, hp3⟩ := hp3.fix
 have hS := Step.r0 K0 s
 refine k_fn (rs := [8]) (args := [.int .i64 a0, v1, v2, v3]) Tryd.func10 rfl rfl rfl rfl ?_
 refine k_seq ?_
 refine k_region ?_
 refine k_assign rfl rfl ?_
 refine k_nil ?_
 refine k_seq ?_
 refine k_region ?_
 refine k_move rfl rfl ?_
 obtain ⟨x1, hx1, h⟩ := ob h
 refine k_call cal11 rfl (disk_New_w   hx1) rfl ?_
 rintro s1 vr1 st1 ⟨ku1_0, v1_0, rfl, hk1_0, h1_0⟩
 have szs1 := st1.size
 have hS := hS.trans0 st1
 replace hp1 := hp1.up2 st1
 replace hp2 := hp2.up2 st1
 replace hp3 := hp3.up2 st1
 have ol1_0 := OptODiskDisk.le (k := ku1_0) h1_0
 refine k_move rfl rfl ?_
 refine k_extract rfl rfl rfl ?_
 refine k_extract rfl rfl rfl ?_
 refine k_assign rfl rfl ?_
 refine k_assign rfl rfl ?_
 refine k_nil ?_
 refine k_keep [(0, _), (1, _), (2, _), (3, _), (8, _), (9, _), (10, _)] ⟨rfl, rfl, rfl, rfl, rfl, rfl, rfl, trivial⟩ ?_
 refine k_seq ?_
 refine k_region ?_
 refine k_move rfl rfl ?_
 obtain ⟨x2, hx2, h⟩ := ob h
 refine k_call cal21 rfl (ref05_New_w   hx2) rfl ?_
 rintro s2 v2_0 st2 ⟨ku2_0, _, rfl, hk2_0, h2_0⟩
 have szs2 := st2.size
 have hS := hS.trans0 st2
 replace hp1 := hp1.up2 st2
 replace hp2 := hp2.up2 st2
 replace hp3 := hp3.up2 st2
 replace h1_0 : OptODiskDisk s2 ku1_0 v1_0 x1.1 := OptODiskDisk.up3 h1_0 ol1_0 st2
 have ol2_0 := OptORef05Disk.le (k := ku2_0) h2_0
 refine k_assign rfl rfl ?_
 refine k_nil ?_
 refine k_keep [(1, _), (2, _), (3, _), (8, _), (9, _), (10, _), (11, _)] ⟨rfl, rfl, rfl, rfl, rfl, rfl, rfl, trivial⟩ ?_
 refine k_seq ?_
 refine k_seq ?_
 refine k_region ?_
 refine k_move rfl rfl ?_
 refine k_neq rfl rfl rfl ?_
 refine k_move rfl rfl ?_
 rcases oc_out h with ⟨ho_3, h⟩ | ⟨x3, ho_3, h⟩
 ·
  rw [ho_3] at h2_0
  obtain rfl : v2_0 = .pointer none := h2_0
  have hE4 := Step.r0 K0 s2
  refine k_cutl (X := St) 3 [(1, v1), (2, v2), (3, v3), (8, .bool false), (9, v1_0), (10, .int .i64 x1.2), (11, .pointer none), (23, .int .i64 x1.2), (24, .bool (decide (x1.2 ≠ 0)))] (fun _ => [(28, .bool true)]) (fun sl wL => sl.w = wL ∧ Step K0 s2 sl) ?_ ?_
  ·
   refine k_again 25 rfl ?_
   refine k_split (fun c5 => ?_) (fun c5 => ?_)
   ·
    refine k_no rfl rfl rfl rfl ?_
    refine k_no rfl rfl rfl rfl ?_
    refine k_pickT rfl rfl rfl rfl ?_
    exact k_met ⟨s2, ⟨rfl, trivial⟩, ⟨rfl, rfl, rfl, rfl, rfl, rfl, rfl, rfl, rfl, trivial⟩, rfl, hE4⟩
   ·
    refine k_yes rfl rfl ?_
    refine k_move rfl rfl ?_
    refine k_yes rfl rfl ?_
    refine k_eql_pnil Tryd.underlying38 rfl rfl rfl ?_
    refine k_pickF rfl rfl rfl rfl ?_
    exact k_met ⟨s2, ⟨rfl, trivial⟩, ⟨rfl, rfl, rfl, rfl, rfl, rfl, rfl, rfl, rfl, trivial⟩, rfl, hE4⟩
  ·
   rintro s6 wL ⟨rfl, hE4⟩
   have szs6 := hE4.size
   have hS := hS.trans0 hE4
   replace h1_0 : OptODiskDisk s6 ku1_0 v1_0 x1.1 := OptODiskDisk.up3 h1_0 ol1_0 hE4
   refine k_move rfl rfl ?_
   refine k_no rfl rfl rfl rfl ?_
   refine k_no rfl rfl rfl rfl ?_
   refine k_pickT rfl rfl rfl rfl ?_
   refine k_move rfl rfl ?_
   refine k_no rfl rfl rfl rfl ?_
   refine k_no rfl rfl rfl rfl ?_
   refine k_pickT rfl rfl rfl rfl ?_
   refine k_move rfl rfl ?_
   refine k_no rfl rfl rfl rfl ?_
   refine k_no rfl rfl rfl rfl ?_
   refine k_pickT rfl rfl rfl rfl ?_
   refine k_nil ?_
   refine k_keep [(1, _), (2, _), (3, _), (8, _), (9, _), (11, _), (40, _)] ⟨rfl, rfl, rfl, rfl, rfl, rfl, rfl, trivial⟩ ?_
   refine k_cond_true rfl ?_
   refine k_seq ?_
   refine k_region ?_
   obtain ⟨x4, hx4, h⟩ := ob h
   refine k_call cal13 rfl (law05_awake_w   hx4) rfl ?_
   rintro s7 vr7 st7 rfl
   have szs7 := st7.size
   have hS := hS.trans0 st7
   replace h1_0 : OptODiskDisk s7 ku1_0 v1_0 x1.1 := OptODiskDisk.up3 h1_0 ol1_0 st7
   refine k_assign rfl rfl ?_
   refine k_nil ?_
   refine k_keep [(1, _), (2, _), (3, _), (8, _), (9, _), (11, _)] ⟨rfl, rfl, rfl, rfl, rfl, rfl, trivial⟩ ?_
   refine k_ret ?_
   obtain rfl := Option.some.inj h
   refine ⟨_, rfl, Ret.mk hS ?_⟩
   exact rfl
 ·
  rw [ho_3] at h2_0
  replace h2_0 : ORef05Disk s2 ku2_0 v2_0 x3 := h2_0
  replace ol2_0 := ol2_0.resolve_left (fun e => by rw [e] at ho_3; cases ho_3)
  have le3 := h2_0.le
  have ne3 := h2_0.ne
  have hE8 := Step.r0 K0 s2
  refine k_cutl (X := St) 3 [(1, v1), (2, v2), (3, v3), (8, .bool false), (9, v1_0), (10, .int .i64 x1.2), (11, v2_0), (23, .int .i64 x1.2), (24, .bool (decide (x1.2 ≠ 0)))] (fun _ => [(28, .bool (decide ((x1.2 ≠ 0) ∨ False)))]) (fun sl wL => sl.w = wL ∧ Step K0 s2 sl) ?_ ?_
  ·
   refine k_again 25 rfl ?_
   refine k_split (fun c9 => ?_) (fun c9 => ?_)
   ·
    refine k_no rfl rfl rfl rfl ?_
    refine k_no rfl rfl rfl rfl ?_
    refine k_pickT rfl rfl rfl rfl ?_
    exact k_met ⟨s2, ⟨(congrArg (fun b => some (Value.bool b)) (by first | exact decide_eq_decide.2 ⟨Or.inr, fun h => h.resolve_left c9⟩ | exact (decide_eq_true (Or.inl c9)).symm | (simp [c9]; done) | (simp [c9, i64] <;> omega))), trivial⟩, ⟨rfl, rfl, rfl, rfl, rfl, rfl, rfl, rfl, rfl, trivial⟩, rfl, hE8⟩
   ·
    refine k_yes rfl rfl ?_
    refine k_move rfl rfl ?_
    refine k_yes rfl rfl ?_
    obtain ⟨pb10, rfl⟩ := h2_0.ptr
    refine k_eql_pnil Tryd.underlying38 rfl rfl rfl ?_
    refine k_pickF rfl rfl rfl rfl ?_
    exact k_met ⟨s2, ⟨(congrArg (fun b => some (Value.bool b)) (by first | exact decide_eq_decide.2 ⟨Or.inr, fun h => h.resolve_left c9⟩ | exact (decide_eq_true (Or.inl c9)).symm | (simp [c9]; done) | (simp [c9, i64] <;> omega))), trivial⟩, ⟨rfl, rfl, rfl, rfl, rfl, rfl, rfl, rfl, rfl, trivial⟩, rfl, hE8⟩
  ·
   rintro s11 wL ⟨rfl, hE8⟩
   have szs11 := hE8.size
   have hS := hS.trans0 hE8
   replace hp1 := hp1.up2 hE8
   replace hp2 := hp2.up2 hE8
   replace hp3 := hp3.up2 hE8
   replace h1_0 : OptODiskDisk s11 ku1_0 v1_0 x1.1 := OptODiskDisk.up3 h1_0 ol1_0 hE8
   replace h2_0 := h2_0.up2 hE8
   refine k_move rfl rfl ?_
   obtain ⟨x5, hx5, h⟩ := ob h
   have hE12 := Step.r0 K0 s11
   refine k_cutl (X := St) 3 [(1, v1), (2, v2), (3, v3), (8, .bool false), (9, v1_0), (10, .int .i64 x1.2), (11, v2_0), (23, .int .i64 x1.2), (24, .bool (decide (x1.2 ≠ 0))), (28, .bool (decide ((x1.2 ≠ 0) ∨ False)))] (fun _ => [(32, .bool x5)]) (fun sl wL => sl.w = wL ∧ Step K0 s11 sl) ?_ ?_
   ·
    refine k_again 29 rfl ?_
    refine k_split (fun c13 => ?_) (fun c13 => ?_)
    ·
     have hx5 := itT hx5 c13
     refine k_no rfl rfl rfl rfl ?_
     refine k_no rfl rfl rfl rfl ?_
     refine k_pickT rfl rfl rfl rfl ?_
     exact k_met ⟨s11, ⟨(congrArg (fun b => some (Value.bool b)) (Option.some.inj hx5)), trivial⟩, ⟨rfl, rfl, rfl, rfl, rfl, rfl, rfl, rfl, rfl, rfl, trivial⟩, rfl, hE12⟩
    ·
     have hx5 := itF hx5 c13
     refine k_yes rfl rfl ?_
     refine k_move rfl rfl ?_
     refine k_yes rfl rfl ?_
     obtain ⟨x6, hx6, hx5⟩ := ob hx5
     refine k_call cal12 rfl (law05_many_w  hp1 hx6) rfl ?_
     rintro s14 vr14 st14 rfl
     have szs14 := st14.size
     have hS := hS.trans0 st14
     have hE12 := hE12.trans0 st14
     replace h1_0 : OptODiskDisk s14 ku1_0 v1_0 x1.1 := OptODiskDisk.up3 h1_0 ol1_0 st14
     refine k_pickF rfl rfl rfl rfl ?_
     exact k_met ⟨s14, ⟨(congrArg (fun b => some (Value.bool b)) (Option.some.inj hx5)), trivial⟩, ⟨rfl, rfl, rfl, rfl, rfl, rfl, rfl, rfl, rfl, rfl, trivial⟩, rfl, hE12⟩
   ·
    rintro s15 wL ⟨rfl, hE12⟩
    have szs15 := hE12.size
    have hS := hS.trans0 hE12
    replace hp1 := hp1.up2 hE12
    replace hp2 := hp2.up2 hE12
    replace hp3 := hp3.up2 hE12
    replace h1_0 : OptODiskDisk s15 ku1_0 v1_0 x1.1 := OptODiskDisk.up3 h1_0 ol1_0 hE12
    replace h2_0 := h2_0.up2 hE12
    refine k_move rfl rfl ?_
    obtain ⟨x7, hx7, h⟩ := ob h
    have hE16 := Step.r0 K0 s15
    refine k_cutl (X := St) 3 [(1, v1), (2, v2), (3, v3), (8, .bool false), (9, v1_0), (10, .int .i64 x1.2), (11, v2_0), (23, .int .i64 x1.2), (24, .bool (decide (x1.2 ≠ 0))), (28, .bool (decide ((x1.2 ≠ 0) ∨ False))), (32, .bool x5)] (fun _ => [(36, .bool x7)]) (fun sl wL => sl.w = wL ∧ Step K0 s15 sl) ?_ ?_
    ·
     refine k_again 33 rfl ?_
     refine k_splitb (fun c17 => ?_) (fun c17 => ?_)
     ·
      have hx7 := ibT hx7 c17
      refine k_no rfl rfl rfl rfl ?_
      refine k_no rfl rfl rfl rfl ?_
      refine k_pickT rfl rfl rfl rfl ?_
      exact k_met ⟨s15, ⟨(congrArg (fun b => some (Value.bool b)) (Option.some.inj hx7)), trivial⟩, ⟨rfl, rfl, rfl, rfl, rfl, rfl, rfl, rfl, rfl, rfl, rfl, trivial⟩, rfl, hE16⟩
     ·
      have hx7 := ibF hx7 c17
      refine k_yes rfl rfl ?_
      refine k_move rfl rfl ?_
      refine k_yes rfl rfl ?_
      obtain ⟨x8, hx8, hx7⟩ := ob hx7
      refine k_call cal12 rfl (law05_many_w  hp2 hx8) rfl ?_
      rintro s18 vr18 st18 rfl
      have szs18 := st18.size
      have hS := hS.trans0 st18
      have hE16 := hE16.trans0 st18
      replace h1_0 : OptODiskDisk s18 ku1_0 v1_0 x1.1 := OptODiskDisk.up3 h1_0 ol1_0 st18
      refine k_pickF rfl rfl rfl rfl ?_
      exact k_met ⟨s18, ⟨(congrArg (fun b => some (Value.bool b)) (Option.some.inj hx7)), trivial⟩, ⟨rfl, rfl, rfl, rfl, rfl, rfl, rfl, rfl, rfl, rfl, rfl, trivial⟩, rfl, hE16⟩
    ·
     rintro s19 wL ⟨rfl, hE16⟩
     have szs19 := hE16.size
     have hS := hS.trans0 hE16
     replace hp1 := hp1.up2 hE16
     replace hp2 := hp2.up2 hE16
     replace hp3 := hp3.up2 hE16
     replace h1_0 : OptODiskDisk s19 ku1_0 v1_0 x1.1 := OptODiskDisk.up3 h1_0 ol1_0 hE16
     replace h2_0 := h2_0.up2 hE16
     refine k_move rfl rfl ?_
     obtain ⟨x9, hx9, h⟩ := ob h
     have hE20 := Step.r0 K0 s19
     refine k_cutl (X := St) 3 [(1, v1), (2, v2), (3, v3), (8, .bool false), (9, v1_0), (10, .int .i64 x1.2), (11, v2_0), (23, .int .i64 x1.2), (24, .bool (decide (x1.2 ≠ 0))), (28, .bool (decide ((x1.2 ≠ 0) ∨ False))), (32, .bool x5), (36, .bool x7)] (fun _ => [(40, .bool x9)]) (fun sl wL => sl.w = wL ∧ Step K0 s19 sl) ?_ ?_
     ·
      refine k_again 37 rfl ?_
      refine k_splitb (fun c21 => ?_) (fun c21 => ?_)
      ·
       have hx9 := ibT hx9 c21
       refine k_no rfl rfl rfl rfl ?_
       refine k_no rfl rfl rfl rfl ?_
       refine k_pickT rfl rfl rfl rfl ?_
       exact k_met ⟨s19, ⟨(congrArg (fun b => some (Value.bool b)) (Option.some.inj hx9)), trivial⟩, ⟨rfl, rfl, rfl, rfl, rfl, rfl, rfl, rfl, rfl, rfl, rfl, rfl, trivial⟩, rfl, hE20⟩
      ·
       have hx9 := ibF hx9 c21
       refine k_yes rfl rfl ?_
       refine k_move rfl rfl ?_
       refine k_yes rfl rfl ?_
       obtain ⟨x10, hx10, hx9⟩ := ob hx9
       refine k_call cal12 rfl (law05_many_w  hp3 hx10) rfl ?_
       rintro s22 vr22 st22 rfl
       have szs22 := st22.size
       have hS := hS.trans0 st22
       have hE20 := hE20.trans0 st22
       replace h1_0 : OptODiskDisk s22 ku1_0 v1_0 x1.1 := OptODiskDisk.up3 h1_0 ol1_0 st22
       refine k_pickF rfl rfl rfl rfl ?_
       exact k_met ⟨s22, ⟨(congrArg (fun b => some (Value.bool b)) (Option.some.inj hx9)), trivial⟩, ⟨rfl, rfl, rfl, rfl, rfl, rfl, rfl, rfl, rfl, rfl, rfl, rfl, trivial⟩, rfl, hE20⟩
     ·
      rintro s23 wL ⟨rfl, hE20⟩
      have szs23 := hE20.size
      have hS := hS.trans0 hE20
      replace hp1 := hp1.up2 hE20
      replace hp2 := hp2.up2 hE20
      replace hp3 := hp3.up2 hE20
      replace h1_0 : OptODiskDisk s23 ku1_0 v1_0 x1.1 := OptODiskDisk.up3 h1_0 ol1_0 hE20
      replace h2_0 := h2_0.up2 hE20
      refine k_nil ?_
      refine k_keep [(1, _), (2, _), (3, _), (8, _), (9, _), (11, _), (40, _)] ⟨rfl, rfl, rfl, rfl, rfl, rfl, rfl, trivial⟩ ?_
      refine k_cond rfl (fun c24 => ?_) (fun c24 => ?_)
      ·
       have h := ibT h c24
       refine k_seq ?_
       refine k_region ?_
       obtain ⟨x11, hx11, h⟩ := ob h
       refine k_call cal13 rfl (law05_awake_w   hx11) rfl ?_
       rintro s25 vr25 st25 rfl
       have szs25 := st25.size
       have hS := hS.trans0 st25
       replace h1_0 : OptODiskDisk s25 ku1_0 v1_0 x1.1 := OptODiskDisk.up3 h1_0 ol1_0 st25
       refine k_assign rfl rfl ?_
       refine k_nil ?_
       refine k_keep [(1, _), (2, _), (3, _), (8, _), (9, _), (11, _)] ⟨rfl, rfl, rfl, rfl, rfl, rfl, trivial⟩ ?_
       refine k_ret ?_
       obtain rfl := Option.some.inj h
       refine ⟨_, rfl, Ret.mk hS ?_⟩
       exact rfl
      ·
       have h := ibF h c24
       refine k_skip ?_
       refine k_seq ?_
       obtain ⟨x12, hx12, h⟩ := ob h
       replace ol1_0 := ol1_0.resolve_left (fun e => by rw [e] at hx12; cases hx12)
       rw [hx12] at h1_0
       replace h1_0 : ODiskDisk s23 ku1_0 v1_0 x12 := h1_0
       have le26 := h1_0.le
       have ne26 := h1_0.ne
       refine k_keep [(1, _), (2, _), (3, _), (8, _), (9, _), (11, _)] ⟨rfl, rfl, rfl, rfl, rfl, rfl, trivial⟩ ?_
       obtain ⟨kj13, hK27, h⟩ := jn_out h
       have hE27 := Step.r0 (KU (KO ku1_0) (KO ku2_0)) s23
       refine k_cutc (X := St × DiskDisk × Ref05Disk) [(2, v2), (3, v3), (8, .bool false), (9, v1_0), (11, v2_0)] (fun (xL : St × DiskDisk × Ref05Disk) => match xL with | (sl, x14, x15) => []) (fun (xL : St × DiskDisk × Ref05Disk) (wL : World) => match xL with | (sl, x14, x15) => sl.w = wL ∧ Step (KU (KO ku1_0) (KO ku2_0)) s23 sl ∧ (ODiskDisk sl ku1_0 v1_0 x14) ∧ (ORef05Disk sl ku2_0 v2_0 x15) ∧ kj13 x14 x15 = some r) ?_ ?_
       ·
        refine k_seq ?_
        refine k_region ?_
        refine k_assign rfl rfl ?_
        refine k_nil ?_
        refine k_block ?_
        refine k_loopc (X := St × Int × DiskDisk × Ref05Disk × Nat) [(1, _), (2, _), (3, _), (8, _), (9, _), (11, _)] (fun (xL : St × Int × DiskDisk × Ref05Disk × Nat) => match xL with | (sl, x16, x17, x18, j) => [(12, .int .i64 x16)]) (fun (xL : St × Int × DiskDisk × Ref05Disk × Nat) (wL : World) => match xL with | (sl, x16, x17, x18, j) => sl.w = wL ∧ Step (KU (KO ku1_0) (KO ku2_0)) s23 sl ∧ (ODiskDisk sl ku1_0 v1_0 x17) ∧ (ORef05Disk sl ku2_0 v2_0 x18) ∧ law05_DiskApart_l1 a1 kj13 j x16 x17 x18 = some r) (fun (xL : St × Int × DiskDisk × Ref05Disk × Nat) => match xL with | (sl, x16, x17, x18, j) => j) (s23, 0, x12, x3, FU) ⟨rfl, rfl, rfl, rfl, rfl, rfl, trivial⟩ ⟨(by first | rfl | (simp <;> rfl)), trivial⟩ ⟨rfl, (Step.refl _).of0 (by first | exact fun _ h => h | (intro c h; simp [KC, KO, KU, KN, KB] at h <;> omega)), h1_0, h2_0, h⟩ ?_
        rintro ⟨s29, x16, x17, x18, j⟩ wL ⟨rfl, hE28, h1_0, h2_0, h⟩
        cases j with
        | zero => rw [law05_DiskApart_l1] at h; exact (noneNe h).elim
        | succ j =>
        rw [law05_DiskApart_l1] at h
        have szs29 := hE28.size
        have hS := hS.c0 hE28
        have hE27 := hE27.c0 hE28
        replace hp1 := hp1.up2 hE28
        refine k_seq ?_
        refine k_seq ?_
        refine k_region ?_
        refine k_move rfl rfl ?_
        refine k_move rfl rfl ?_
        refine k_len Tryd.underlying22 rfl hp1.hasLen rfl ?_
        refine k_as (v := .int .i64 (a1.length : Int)) (by simp only [List.length_map]) ?_
        refine k_lss rfl rfl rfl ?_
        refine k_nil ?_
        refine k_keep [(1, _), (2, _), (3, _), (8, _), (9, _), (11, _), (12, _), (45, _)] ⟨rfl, rfl, rfl, rfl, rfl, rfl, rfl, rfl, trivial⟩ ?_
        refine k_cond_dec rfl (fun c30 => ?_) (fun c30 => ?_)
        ·
         have h := itT h c30
         refine k_skip ?_
         refine k_seq ?_
         refine k_block ?_
         refine k_seq ?_
         refine k_region ?_
         refine k_move rfl rfl ?_
         refine k_move rfl rfl ?_
         refine k_move rfl rfl ?_
         obtain ⟨x19, hx19, h⟩ := ob h
         refine k_ixaddr Tryd.underlying22 size31 rfl rfl hp1 (geti_out hx19).1 (geti_map hx19) rfl ?_
         intro qx19 hqx19
         refine k_load_agg (by exact agg31) rfl hqx19 rfl ?_
         intro cs31 h31
         obtain ⟨q31_0, rfl, hq31_0⟩ := opnLaw05Call h31
         obtain ⟨x20, hx20, h⟩ := ob h
         refine k_call cal15 rfl (law05_call_w (a1 := x19) h1_0 (SL.of_R hq31_0) (by first | assumption | omega | (simp <;> omega)) hx20) rfl ?_
         rintro s32 vr32 st32 ⟨rfl, h1_0⟩
         have szs32 := st32.size
         have hS := hS.c0 st32
         have hE27 := hE27.c0 st32
         have hE28 := hE28.c0 st32
         replace hp1 := hp1.up2 st32
         replace h2_0 := h2_0.up2 st32
         refine k_nil ?_
         refine k_keep [(1, _), (2, _), (3, _), (8, _), (9, _), (11, _), (12, _)] ⟨rfl, rfl, rfl, rfl, rfl, rfl, rfl, trivial⟩ ?_
         refine k_region ?_
         refine k_move rfl rfl ?_
         refine k_move rfl rfl ?_
         refine k_move rfl rfl ?_
         obtain ⟨x21, hx21, h⟩ := ob h
         refine k_ixaddr Tryd.underlying22 size31 rfl rfl hp1 (geti_out hx21).1 (geti_map hx21) rfl ?_
         intro qx21 hqx21
         refine k_load_agg (by exact agg31) rfl hqx21 rfl ?_
         intro cs33 h33
         obtain ⟨q33_0, rfl, hq33_0⟩ := opnLaw05Call h33
         obtain ⟨x22, hx22, h⟩ := ob h
         refine k_call cal22 rfl (law05_meant_w (a1 := x21) h2_0 (SL.of_R hq33_0) (by first | assumption | omega | (simp <;> omega)) hx22) rfl ?_
         rintro s34 vr34 st34 ⟨rfl, h2_0⟩
         have szs34 := st34.size
         have hS := hS.c0 st34
         have hE27 := hE27.c0 st34
         have hE28 := hE28.c0 st34
         replace h1_0 := h1_0.up2 st34
         refine k_nil ?_
         refine k_blk ?_
         refine k_region ?_
         refine k_move rfl rfl ?_
         refine k_add rfl rfl rfl ?_
         refine k_assign rfl rfl ?_
         refine k_nil ?_
         exact k_stop ⟨(s34, i64 (x16 + 1), x20.2, x22.2, j), ⟨(by first | rfl | (simp <;> rfl)), trivial⟩, ⟨rfl, rfl, rfl, rfl, rfl, rfl, trivial⟩, ⟨rfl, hE28, h1_0, h2_0, h⟩, (by simp)⟩
        ·
         have h := itF h c30
         refine k_exit rfl ?_
         exact k_stop ⟨(s29, x17, x18), trivial, ⟨rfl, rfl, rfl, rfl, rfl, trivial⟩, ⟨rfl, hE27, h1_0, h2_0, h⟩⟩
       ·
        rintro ⟨s35, x14, x15⟩ wL ⟨rfl, hE27, h1_0, h2_0, h⟩
        rw [hK27] at h
        have szs35 := hE27.size
        have hS := hS.c0 hE27
        replace hp2 := hp2.up2 hE27
        replace hp3 := hp3.up2 hE27
        refine k_seq ?_
        refine k_region ?_
        refine k_move rfl rfl ?_
        obtain ⟨x23, hx23, h⟩ := ob h
        refine k_call cal24 rfl (disk_Disk_Copy_w  h1_0 hx23) rfl ?_
        rintro s36 v36_0 st36 ⟨ku36_0, _, rfl, hk36_0, h36_0⟩
        have szs36 := st36.size
        have hS := hS.trans0 st36
        replace hp2 := hp2.up2 st36
        replace hp3 := hp3.up2 st36
        replace h1_0 := h1_0.up2 st36
        replace h2_0 := h2_0.up2 st36
        have ol36_0 := OptODiskDisk.le (k := ku36_0) h36_0
        refine k_assign rfl rfl ?_
        refine k_nil ?_
        refine k_keep [(2, _), (3, _), (8, _), (9, _), (11, _), (13, _)] ⟨rfl, rfl, rfl, rfl, rfl, rfl, trivial⟩ ?_
        refine k_seq ?_
        refine k_region ?_
        refine k_move rfl rfl ?_
        obtain ⟨ob37, rfl⟩ := h2_0.ptr
        obtain ⟨wt37_0, wt37_1, hb_t37, hwt37_0, hwt37_1⟩ := h2_0.at_
        refine k_nilCheck rfl rfl ?_
        refine k_load_blka (cs := [.int .i64 x15.Most, .bool x15.Off, wt37_0, wt37_1, .int .i64 x15.Fuse.e0, .int .i64 x15.Fuse.e1, .int .i64 x15.Fuse.e2]) agg68 rfl hb_t37 rfl ?_
        refine k_alloc zero68 rfl ?_
        intro s38 b38 st38 h38 ge38
        have szs38 := st38.size
        have hS := hS.trans0 st38
        replace hp2 := hp2.up2 st38
        replace hp3 := hp3.up2 st38
        replace hwt37_0 := hwt37_0.up2 st38
        replace hwt37_1 := hwt37_1.up2 st38
        replace h1_0 := h1_0.up2 st38
        replace hb_t37 := hb_t37.up2 st38
        replace h36_0 : OptODiskDisk s38 ku36_0 v36_0 x23 := OptODiskDisk.up3 h36_0 ol36_0 st38
        have lt38 := h38.lt
        refine k_store_c (cs' := [.int .i64 x15.Most, .bool x15.Off, wt37_0, wt37_1, .int .i64 x15.Fuse.e0, .int .i64 x15.Fuse.e1, .int .i64 x15.Fuse.e2]) size68 rfl rfl h38 (by first | (simp; done) | omega | (dsimp only; omega)) (CellsOf.lit (vs := [.int .i64 x15.Most, .bool x15.Off, wt37_0, wt37_1, .int .i64 x15.Fuse.e0, .int .i64 x15.Fuse.e1, .int .i64 x15.Fuse.e2]) rfl (ones.cons rfl (ones.cons rfl (ones.cons ((SL.of_R hwt37_0)).one1 (ones.cons ((SL.of_R hwt37_1)).one1 (ones.cons rfl (ones.cons rfl (ones.cons rfl ones.nil)))))))) rfl (by first | rfl | (simp; done) | (simp; omega)) rfl ?_
        intro s39 st39 h38
        have szs39 := st39.size
        have hS := hS.c0 st39
        replace hp2 := hp2.up2 st39
        replace hp3 := hp3.up2 st39
        replace hwt37_0 := hwt37_0.up2 st39
        replace hwt37_1 := hwt37_1.up2 st39
        replace h1_0 := h1_0.up2 st39
        replace hb_t37 := hb_t37.up2 st39
        replace h36_0 : OptODiskDisk s39 ku36_0 v36_0 x23 := OptODiskDisk.up3 h36_0 ol36_0 st39
        refine k_nil ?_
        refine k_keep [(2, _), (3, _), (8, _), (9, _), (11, _), (13, _), (14, _)] ⟨rfl, rfl, rfl, rfl, rfl, rfl, rfl, trivial⟩ ?_
        refine k_seq ?_
        obtain ⟨x24, hx24, h⟩ := ob h
        replace ol36_0 := ol36_0.resolve_left (fun e => by rw [e] at hx24; cases hx24)
        rw [hx24] at h36_0
        replace h36_0 : ODiskDisk s39 ku36_0 v36_0 x24 := h36_0
        have le40 := h36_0.le
        have ne40 := h36_0.ne
        obtain ⟨kj25, hK41, h⟩ := jn_out h
        have hE41 := Step.r0 (KU (KO ku1_0) (KU (KO ku2_0) (KU (KO ku36_0) (KO (b38 + 1))))) s39
        refine k_cutc (X := St × DiskDisk × Int × Bool × (List (List Ref05File)) × Value × (List Ref05File) × Value × Int × Int × Int × DiskDisk × Int × Bool × (List (List Ref05File)) × Value × (List Ref05File) × Value × Int × Int × Int) [(8, .bool false), (9, v1_0), (11, .pointer (some ⟨ob37, 0, none⟩)), (13, v36_0), (14, .pointer (some ⟨b38, 0, none⟩))] (fun (xL : St × DiskDisk × Int × Bool × (List (List Ref05File)) × Value × (List Ref05File) × Value × Int × Int × Int × DiskDisk × Int × Bool × (List (List Ref05File)) × Value × (List Ref05File) × Value × Int × Int × Int) => match xL with | (sl, x26, x27, x28, x29, v42, x30, v43, x31, x32, x33, x34, x35, x36, x37, v44, x38, v45, x39, x40, x41) => []) (fun (xL : St × DiskDisk × Int × Bool × (List (List Ref05File)) × Value × (List Ref05File) × Value × Int × Int × Int × DiskDisk × Int × Bool × (List (List Ref05File)) × Value × (List Ref05File) × Value × Int × Int × Int) (wL : World) => match xL with | (sl, x26, x27, x28, x29, v42, x30, v43, x31, x32, x33, x34, x35, x36, x37, v44, x38, v45, x39, x40, x41) => sl.w = wL ∧ Step (KU (KO ku1_0) (KU (KO ku2_0) (KU (KO ku36_0) (KO (b38 + 1))))) s39 sl ∧ (ODiskDisk sl ku1_0 v1_0 x26) ∧ (R sl v42 (.sl 1 (x29.map (dL 2 dRef05File)))) ∧ (R sl v43 (.sl 2 (x30.map dRef05File))) ∧ (Blk sl ob37 ⟨ku2_0, 0⟩ [.int .i64 x27, .bool x28, v42, v43, .int .i64 x31, .int .i64 x32, .int .i64 x33] 68) ∧ (ODiskDisk sl ku36_0 v36_0 x34) ∧ (R sl v44 (.sl 1 (x37.map (dL 2 dRef05File)))) ∧ (R sl v45 (.sl 2 (x38.map dRef05File))) ∧ (Blk sl b38 ⟨b38 + 1, 0⟩ [.int .i64 x35, .bool x36, v44, v45, .int .i64 x39, .int .i64 x40, .int .i64 x41] 68) ∧ kj25 x26 x27 x28 x29 x30 x31 x32 x33 x34 x35 x36 x37 x38 x39 x40 x41 = some r) ?_ ?_
        ·
         refine k_seq ?_
         refine k_region ?_
         refine k_assign rfl rfl ?_
         refine k_nil ?_
         refine k_block ?_
         refine k_loopc (X := St × Int × DiskDisk × Int × Bool × (List (List Ref05File)) × Value × (List Ref05File) × Value × Int × Int × Int × DiskDisk × Int × Bool × (List (List Ref05File)) × Value × (List Ref05File) × Value × Int × Int × Int × Nat) [(2, _), (3, _), (8, _), (9, _), (11, _), (13, _), (14, _)] (fun (xL : St × Int × DiskDisk × Int × Bool × (List (List Ref05File)) × Value × (List Ref05File) × Value × Int × Int × Int × DiskDisk × Int × Bool × (List (List Ref05File)) × Value × (List Ref05File) × Value × Int × Int × Int × Nat) => match xL with | (sl, x42, x43, x44, x45, x46, v47, x47, v48, x48, x49, x50, x51, x52, x53, x54, v49, x55, v50, x56, x57, x58, j) => [(15, .int .i64 x42)]) (fun (xL : St × Int × DiskDisk × Int × Bool × (List (List Ref05File)) × Value × (List Ref05File) × Value × Int × Int × Int × DiskDisk × Int × Bool × (List (List Ref05File)) × Value × (List Ref05File) × Value × Int × Int × Int × Nat) (wL : World) => match xL with | (sl, x42, x43, x44, x45, x46, v47, x47, v48, x48, x49, x50, x51, x52, x53, x54, v49, x55, v50, x56, x57, x58, j) => sl.w = wL ∧ Step (KU (KO ku1_0) (KU (KO ku2_0) (KU (KO ku36_0) (KO (b38 + 1))))) s39 sl ∧ (ODiskDisk sl ku1_0 v1_0 x43) ∧ (R sl v47 (.sl 1 (x46.map (dL 2 dRef05File)))) ∧ (R sl v48 (.sl 2 (x47.map dRef05File))) ∧ (Blk sl ob37 ⟨ku2_0, 0⟩ [.int .i64 x44, .bool x45, v47, v48, .int .i64 x48, .int .i64 x49, .int .i64 x50] 68) ∧ (ODiskDisk sl ku36_0 v36_0 x51) ∧ (R sl v49 (.sl 1 (x54.map (dL 2 dRef05File)))) ∧ (R sl v50 (.sl 2 (x55.map dRef05File))) ∧ (Blk sl b38 ⟨b38 + 1, 0⟩ [.int .i64 x52, .bool x53, v49, v50, .int .i64 x56, .int .i64 x57, .int .i64 x58] 68) ∧ law05_DiskApart_l2 a2 a3 kj25 j x42 x43 x44 x45 x46 x47 x48 x49 x50 x51 x52 x53 x54 x55 x56 x57 x58 = some r) (fun (xL : St × Int × DiskDisk × Int × Bool × (List (List Ref05File)) × Value × (List Ref05File) × Value × Int × Int × Int × DiskDisk × Int × Bool × (List (List Ref05File)) × Value × (List Ref05File) × Value × Int × Int × Int × Nat) => match xL with | (sl, x42, x43, x44, x45, x46, v47, x47, v48, x48, x49, x50, x51, x52, x53, x54, v49, x55, v50, x56, x57, x58, j) => j) (s39, 0, x14, x15.Most, x15.Off, x15.Pictures, wt37_0, x15.Made, wt37_1, x15.Fuse.e0, x15.Fuse.e1, x15.Fuse.e2, x24, x15.Most, x15.Off, x15.Pictures, wt37_0, x15.Made, wt37_1, x15.Fuse.e0, x15.Fuse.e1, x15.Fuse.e2, FU) ⟨rfl, rfl, rfl, rfl, rfl, rfl, rfl, trivial⟩ ⟨(by first | rfl | (simp <;> rfl)), trivial⟩ ⟨rfl, (Step.refl _).of0 (by first | exact fun _ h => h | (intro c h; simp [KC, KO, KU, KN, KB] at h <;> omega)), h1_0, hwt37_0, hwt37_1, hb_t37, h36_0, hwt37_0, hwt37_1, h38, h⟩ ?_
         rintro ⟨s51, x42, x43, x44, x45, x46, v47, x47, v48, x48, x49, x50, x51, x52, x53, x54, v49, x55, v50, x56, x57, x58, j⟩ wL ⟨rfl, hE46, h1_0, h47, h48, hb_t37, h36_0, h49, h50, h38, h⟩
         cases j with
         | zero => rw [law05_DiskApart_l2] at h; exact (noneNe h).elim
         | succ j =>
         rw [law05_DiskApart_l2] at h
         have szs51 := hE46.size
         have hS := hS.c0 hE46
         have hE41 := hE41.c0 hE46
         replace hp2 := hp2.up2 hE46
         replace hp3 := hp3.up2 hE46
         refine k_seq ?_
         refine k_seq ?_
         refine k_region ?_
         refine k_move rfl rfl ?_
         refine k_move rfl rfl ?_
         refine k_len Tryd.underlying22 rfl hp2.hasLen rfl ?_
         refine k_as (v := .int .i64 (a2.length : Int)) (by simp only [List.length_map]) ?_
         refine k_lss rfl rfl rfl ?_
         refine k_move rfl rfl ?_
         have hE52 := Step.r0 K0 s51
         refine k_cutl (X := St) 5 [(2, v2), (3, v3), (8, .bool false), (9, v1_0), (11, .pointer (some ⟨ob37, 0, none⟩)), (13, v36_0), (14, .pointer (some ⟨b38, 0, none⟩)), (15, .int .i64 x42), (65, .int .i64 x42), (66, v2), (67, .int .i64 (a2.length : Int)), (68, .bool (decide (x42 < (a2.length : Int))))] (fun _ => [(74, .bool (decide ((x42 < (a2.length : Int)) ∨ (x42 < (a3.length : Int)))))]) (fun sl wL => sl.w = wL ∧ Step K0 s51 sl) ?_ ?_
         ·
          refine k_again 69 rfl ?_
          refine k_split (fun c53 => ?_) (fun c53 => ?_)
          ·
           refine k_no rfl rfl rfl rfl ?_
           refine k_no rfl rfl rfl rfl ?_
           refine k_no rfl rfl rfl rfl ?_
           refine k_no rfl rfl rfl rfl ?_
           refine k_pickT rfl rfl rfl rfl ?_
           exact k_met ⟨s51, ⟨(congrArg (fun b => some (Value.bool b)) (by first | exact decide_eq_decide.2 ⟨Or.inr, fun h => h.resolve_left c53⟩ | exact (decide_eq_true (Or.inl c53)).symm | (simp [c53]; done) | (simp [c53, i64] <;> omega))), trivial⟩, ⟨rfl, rfl, rfl, rfl, rfl, rfl, rfl, rfl, rfl, rfl, rfl, rfl, trivial⟩, rfl, hE52⟩
          ·
           refine k_yes rfl rfl ?_
           refine k_move rfl rfl ?_
           refine k_yes rfl rfl ?_
           refine k_move rfl rfl ?_
           refine k_yes rfl rfl ?_
           refine k_len Tryd.underlying22 rfl hp3.hasLen rfl ?_
           refine k_as (v := .int .i64 (a3.length : Int)) (by simp only [List.length_map]) ?_
           refine k_yes rfl rfl ?_
           refine k_lss rfl rfl rfl ?_
           refine k_pickF rfl rfl rfl rfl ?_
           exact k_met ⟨s51, ⟨(congrArg (fun b => some (Value.bool b)) (by first | exact decide_eq_decide.2 ⟨Or.inr, fun h => h.resolve_left c53⟩ | exact (decide_eq_true (Or.inl c53)).symm | (simp [c53]; done) | (simp [c53, i64] <;> omega))), trivial⟩, ⟨rfl, rfl, rfl, rfl, rfl, rfl, rfl, rfl, rfl, rfl, rfl, rfl, trivial⟩, rfl, hE52⟩
         ·
          rintro s54 wL ⟨rfl, hE52⟩
          have szs54 := hE52.size
          have hS := hS.trans0 hE52
          have hE41 := hE41.trans0 hE52
          have hE46 := hE46.trans0 hE52
          replace hp2 := hp2.up2 hE52
          replace hp3 := hp3.up2 hE52
          replace h1_0 := h1_0.up2 hE52
          replace h47 := h47.up2 hE52
          replace h48 := h48.up2 hE52
          replace hb_t37 := hb_t37.up2 hE52
          replace h36_0 := h36_0.up2 hE52
          replace h49 := h49.up2 hE52
          replace h50 := h50.up2 hE52
          replace h38 := h38.up2 hE52
          refine k_nil ?_
          refine k_keep [(2, _), (3, _), (8, _), (9, _), (11, _), (13, _), (14, _), (15, _), (74, _)] ⟨rfl, rfl, rfl, rfl, rfl, rfl, rfl, rfl, rfl, trivial⟩ ?_
          refine k_cond_dec rfl (fun c55 => ?_) (fun c55 => ?_)
          ·
           have h := itT h c55
           refine k_skip ?_
           refine k_seq ?_
           refine k_block ?_
           refine k_seq ?_
           refine k_keep [(2, _), (3, _), (8, _), (9, _), (11, _), (13, _), (14, _), (15, _)] ⟨rfl, rfl, rfl, rfl, rfl, rfl, rfl, rfl, trivial⟩ ?_
           refine k_drawT (KU (KN s54.n) (KU (KO ku1_0) (KU (KO ku2_0) (KU (KO ku36_0) (KO (b38 + 1)))))) 39 (.read 0 (.read 1 (.read 2 (.read 3 (.read 4 (.read 5 (.read 6 (.read 7 (.read 8 (.read 9 (.read 11 (.read 12 (.read 13 (.read 14 (.read 15 (.alt 10 (.alt 16 (.read 17 (.read 18 (.read 19 (.read 20 (.read 21 (.read 22 (.read 23 (.read 24 (.read 25 (.read 26 (.read 27 (.read 28 (.read 29 (.read 31 (.read 32 (.read 33 (.read 34 (.alt 30 (.alt 35 (.read 36 (.read 37 (.read 38 .fin))) .no) .no)))))))))))))))))) .no) .no)))))))))))))))) mixed (by intro c h; (try simp only [KC, KO, KU, KN, KB] at h) <;> omega) rfl rfl rfl ?_
           intro s56 st56
           have szs56 := st56.size
           have hS := hS.trans0 st56
           have hE41 := hE41.trans0 st56
           have hE46 := hE46.trans0 st56
           replace hp2 := hp2.up2 st56
           replace hp3 := hp3.up2 st56
           replace h1_0 := h1_0.up2 st56
           replace h47 := h47.up2 st56
           replace h48 := h48.up2 st56
           replace hb_t37 := hb_t37.up2 st56
           replace h36_0 := h36_0.up2 st56
           replace h49 := h49.up2 st56
           replace h50 := h50.up2 st56
           replace h38 := h38.up2 st56
           refine rt_read (.int .i64 x42) rfl rfl (fun s57 st57 => ?_) ?_
           ·refine k_move rfl rfl ?_
            exact fq_end
           refine rt_read (v2) rfl rfl (fun s58 st58 => ?_) ?_
           ·refine k_move rfl rfl ?_
            exact fq_end
           refine rt_read (.int .i64 (a2.length : Int)) rfl rfl (fun s59 st59 => ?_) ?_
           ·try replace hp2 := hp2.up2 st59
            refine k_len Tryd.underlying22 rfl hp2.hasLen rfl ?_
            refine k_as (v := .int .i64 (a2.length : Int)) (by simp only [List.length_map]) ?_
            exact fq_end
           refine rt_read (.bool (decide (x42 < (a2.length : Int)))) rfl rfl (fun s60 st60 => ?_) ?_
           ·refine k_lss rfl rfl rfl ?_
            exact fq_end
           refine rt_read (.bool (decide (x42 < (a2.length : Int)))) rfl rfl (fun s61 st61 => ?_) ?_
           ·refine k_move rfl rfl ?_
            exact fq_end
           refine rt_split (fun c62 => ?_) (fun c62 => ?_)
           ·
            have h := itT h c62
            refine rt_read (v1_0) rfl rfl (fun s63 st63 => ?_) ?_
            ·refine k_yes rfl rfl ?_
             refine k_move rfl rfl ?_
             exact fq_end
            refine rt_read (v2) rfl rfl (fun s64 st64 => ?_) ?_
            ·refine k_yes rfl rfl ?_
             refine k_move rfl rfl ?_
             exact fq_end
            refine rt_read (.int .i64 x42) rfl rfl (fun s65 st65 => ?_) ?_
            ·refine k_yes rfl rfl ?_
             refine k_move rfl rfl ?_
             exact fq_end
            obtain ⟨x59, hx59, h⟩ := ob h
            refine rt_ix rfl (wanted_yes rfl rfl rfl) Tryd.underlying22 size31 rfl rfl hp2 (geti_out hx59).1 (geti_map hx59) rfl ?_
            intro q66 hq66
            refine rt_ldagg rfl (wanted_yes rfl rfl rfl) (by exact agg31) rfl hq66 (by first | exact id | (simp only [KC, KO, KU, KN, KB] <;> omega)) rfl ?_
            intro cs67 h67
            obtain ⟨q67_0, rfl, hq67_0⟩ := opnLaw05Call h67
            refine rt_read (.pointer (some ⟨ob37, 0, none⟩)) rfl rfl (fun s68 st68 => ?_) ?_
            ·refine k_yes rfl rfl ?_
             refine k_move rfl rfl ?_
             exact fq_end
            refine rt_read (v2) rfl rfl (fun s69 st69 => ?_) ?_
            ·refine k_yes rfl rfl ?_
             refine k_move rfl rfl ?_
             exact fq_end
            refine rt_read (.int .i64 x42) rfl rfl (fun s70 st70 => ?_) ?_
            ·refine k_yes rfl rfl ?_
             refine k_move rfl rfl ?_
             exact fq_end
            obtain ⟨x60, hx60, h⟩ := ob h
            refine rt_ix rfl (wanted_yes rfl rfl rfl) Tryd.underlying22 size31 rfl rfl hp2 (geti_out hx60).1 (geti_map hx60) rfl ?_
            intro q71 hq71
            refine rt_ldagg rfl (wanted_yes rfl rfl rfl) (by exact agg31) rfl hq71 (by first | exact id | (simp only [KC, KO, KU, KN, KB] <;> omega)) rfl ?_
            intro cs72 h72
            obtain ⟨q72_0, rfl, hq72_0⟩ := opnLaw05Call h72
            refine rt_act rfl rfl ?_
            refine k_yes rfl rfl ?_
            have hA73 := Step.r0 (KU (KN s54.n) (KU (KO ku1_0) (KU (KO ku2_0) (KU (KO ku36_0) (KO (b38 + 1)))))) s56
            obtain ⟨x61, hx61, h⟩ := ob h
            refine k_call cal15 rfl (law05_call_w (a1 := x59) h1_0 (SL.of_R hq67_0) (by first | assumption | omega | (simp <;> omega)) hx61) rfl ?_
            rintro s74 vr74 st74 ⟨rfl, h1_0⟩
            have szs74 := st74.size
            have hS := hS.c0 st74
            have hE41 := hE41.c0 st74
            have hE46 := hE46.c0 st74
            have hA73 := hA73.c0 st74
            replace hp3 := hp3.up2 st74
            replace hq72_0 := hq72_0.up2 st74
            replace h47 := h47.up2 st74
            replace h48 := h48.up2 st74
            replace hb_t37 := hb_t37.up2 st74
            replace h36_0 := h36_0.up2 st74
            replace h49 := h49.up2 st74
            replace h50 := h50.up2 st74
            replace h38 := h38.up2 st74
            refine rt_cont hA73 ?_
            refine rt_act rfl rfl ?_
            refine k_yes rfl rfl ?_
            have hA75 := Step.r0 (KU (KN s54.n) (KU (KO ku1_0) (KU (KO ku2_0) (KU (KO ku36_0) (KO (b38 + 1)))))) s74
            obtain ⟨x62, hx62, h⟩ := ob h
            refine k_call cal22 rfl (law05_meant_w (a1 := x60) (ORef05Disk.mk_ (⟨x44, x45, x46, x47, (⟨x48, x49, x50⟩ : St66)⟩ : Ref05Disk) (by omega) h47 h48 hb_t37) (SL.of_R hq72_0) (by first | assumption | omega | (simp <;> omega)) hx62) rfl ?_
            rintro s76 vr76 st76 ⟨rfl, hm76_0⟩
            obtain ⟨w76_0_0, w76_0_1, hb_76_0, hw76_0_0, hw76_0_1⟩ := hm76_0.at_
            have szs76 := st76.size
            have hS := hS.c0 st76
            have hE41 := hE41.c0 st76
            have hE46 := hE46.c0 st76
            have hA75 := hA75.c0 st76
            replace hp3 := hp3.up2 st76
            replace h1_0 := h1_0.up2 st76
            replace h36_0 := h36_0.up2 st76
            replace h49 := h49.up2 st76
            replace h50 := h50.up2 st76
            replace h38 := h38.up2 st76
            refine rt_cont hA75 ?_
            refine rt_read (.bool (decide (x61.1 ≠ x62.1))) rfl rfl (fun s77 st77 => ?_) ?_
            ·refine k_yes rfl rfl ?_
             refine k_neq rfl rfl rfl ?_
             exact fq_end
            refine rt_read (.bool (decide (x61.1 ≠ x62.1))) rfl rfl (fun s78 st78 => ?_) ?_
            ·refine k_pickT rfl rfl rfl rfl ?_
             exact fq_end
            refine rt_read (.bool (decide (x61.1 ≠ x62.1))) rfl rfl (fun s79 st79 => ?_) ?_
            ·refine k_move rfl rfl ?_
             exact fq_end
            refine rt_split (fun c80 => ?_) (fun c80 => ?_)
            ·
             have h := itT h c80
             refine rt_read undef rfl rfl (fun s81 st81 => ?_) ?_
             ·refine k_no rfl rfl rfl rfl ?_
              exact fq_end
             refine rt_read undef rfl rfl (fun s82 st82 => ?_) ?_
             ·refine k_no rfl rfl rfl rfl ?_
              exact fq_end
             refine rt_read undef rfl rfl (fun s83 st83 => ?_) ?_
             ·refine k_no rfl rfl rfl rfl ?_
              exact fq_end
             refine rt_read undef rfl rfl (fun s84 st84 => ?_) ?_
             ·refine k_no rfl rfl rfl rfl ?_
              exact fq_end
             refine rt_read undef rfl rfl (fun s85 st85 => ?_) ?_
             ·refine k_no rfl rfl rfl rfl ?_
              exact fq_end
             refine rt_read undef rfl rfl (fun s86 st86 => ?_) ?_
             ·refine k_nou rfl rfl rfl rfl ?_
              exact fq_end
             refine rt_read undef rfl rfl (fun s87 st87 => ?_) ?_
             ·refine k_nou rfl rfl rfl rfl ?_
              exact fq_end
             refine rt_read undef rfl rfl (fun s88 st88 => ?_) ?_
             ·refine k_nou rfl rfl rfl rfl ?_
              exact fq_end
             refine rt_read undef rfl rfl (fun s89 st89 => ?_) ?_
             ·refine k_nou rfl rfl rfl rfl ?_
              exact fq_end
             refine rt_read undef rfl rfl (fun s90 st90 => ?_) ?_
             ·refine k_nou rfl rfl rfl rfl ?_
              exact fq_end
             refine rt_read undef rfl rfl (fun s91 st91 => ?_) ?_
             ·refine k_nou rfl rfl rfl rfl ?_
              exact fq_end
             refine rt_read undef rfl rfl (fun s92 st92 => ?_) ?_
             ·refine k_nou rfl rfl rfl rfl ?_
              exact fq_end
             refine rt_read undef rfl rfl (fun s93 st93 => ?_) ?_
             ·refine k_nou rfl rfl rfl rfl ?_
              exact fq_end
             refine rt_read undef rfl rfl (fun s94 st94 => ?_) ?_
             ·refine k_nou rfl rfl rfl rfl ?_
              exact fq_end
             refine rt_act rfl rfl ?_
             refine k_nou rfl rfl rfl rfl ?_
             refine rt_cont ((Step.refl _).of0 (by first | exact fun _ h => h | (intro c h; simp [KC, KO, KU, KN, KB] at h <;> omega))) ?_
             refine rt_act rfl rfl ?_
             refine k_nou rfl rfl rfl rfl ?_
             refine rt_cont ((Step.refl _).of0 (by first | exact fun _ h => h | (intro c h; simp [KC, KO, KU, KN, KB] at h <;> omega))) ?_
             refine rt_read undef rfl rfl (fun s95 st95 => ?_) ?_
             ·refine k_nou rfl rfl rfl rfl ?_
              exact fq_end
             refine rt_read undef rfl rfl (fun s96 st96 => ?_) ?_
             ·refine k_no rfl rfl rfl rfl ?_
              exact fq_end
             refine rt_read (.bool true) rfl rfl (fun s97 st97 => ?_) ?_
             ·refine k_pickT rfl rfl rfl rfl ?_
              exact fq_end
             refine rt_fin ?_
             refine k_nil ?_
             refine k_keep [(2, _), (3, _), (8, _), (9, _), (11, _), (13, _), (14, _), (15, _), (115, _)] ⟨rfl, rfl, rfl, rfl, rfl, rfl, rfl, rfl, rfl, trivial⟩ ?_
             refine k_cond_true rfl ?_
             refine k_seq ?_
             refine k_region ?_
             refine k_assign rfl rfl ?_
             refine k_nil ?_
             refine k_keep [(2, _), (3, _), (8, _), (9, _), (11, _), (13, _), (14, _), (15, _)] ⟨rfl, rfl, rfl, rfl, rfl, rfl, rfl, rfl, trivial⟩ ?_
             refine k_ret ?_
             obtain rfl := Option.some.inj h
             refine ⟨_, rfl, Ret.mk hS ?_⟩
             exact rfl
            ·
             have h := itF h c80
             refine rt_read (.int .i64 x42) rfl rfl (fun s98 st98 => ?_) ?_
             ·refine k_yes rfl rfl ?_
              refine k_move rfl rfl ?_
              exact fq_end
             refine rt_read (v3) rfl rfl (fun s99 st99 => ?_) ?_
             ·refine k_yes rfl rfl ?_
              refine k_move rfl rfl ?_
              exact fq_end
             refine rt_read (.int .i64 (a3.length : Int)) rfl rfl (fun s100 st100 => ?_) ?_
             ·try replace hp3 := hp3.up2 st100
              refine k_yes rfl rfl ?_
              refine k_len Tryd.underlying22 rfl hp3.hasLen rfl ?_
              refine k_as (v := .int .i64 (a3.length : Int)) (by simp only [List.length_map]) ?_
              exact fq_end
             refine rt_read (.bool (decide (x42 < (a3.length : Int)))) rfl rfl (fun s101 st101 => ?_) ?_
             ·refine k_yes rfl rfl ?_
              refine k_lss rfl rfl rfl ?_
              exact fq_end
             refine rt_read (.bool (decide (x42 < (a3.length : Int)))) rfl rfl (fun s102 st102 => ?_) ?_
             ·refine k_yes rfl rfl ?_
              refine k_move rfl rfl ?_
              exact fq_end
             refine rt_split (fun c103 => ?_) (fun c103 => ?_)
             ·
              have h := itT h c103
              refine rt_read (v36_0) rfl rfl (fun s104 st104 => ?_) ?_
              ·refine k_yes rfl rfl ?_
               refine k_move rfl rfl ?_
               exact fq_end
              refine rt_read (v3) rfl rfl (fun s105 st105 => ?_) ?_
              ·refine k_yes rfl rfl ?_
               refine k_move rfl rfl ?_
               exact fq_end
              refine rt_read (.int .i64 x42) rfl rfl (fun s106 st106 => ?_) ?_
              ·refine k_yes rfl rfl ?_
               refine k_move rfl rfl ?_
               exact fq_end
              obtain ⟨x63, hx63, h⟩ := ob h
              refine rt_ix rfl (wanted_yes rfl rfl rfl) Tryd.underlying22 size31 rfl rfl hp3 (geti_out hx63).1 (geti_map hx63) rfl ?_
              intro q107 hq107
              refine rt_ldagg rfl (wanted_yes rfl rfl rfl) (by exact agg31) rfl hq107 (by first | exact id | (simp only [KC, KO, KU, KN, KB] <;> omega)) rfl ?_
              intro cs108 h108
              obtain ⟨q108_0, rfl, hq108_0⟩ := opnLaw05Call h108
              refine rt_read (v3) rfl rfl (fun s109 st109 => ?_) ?_
              ·refine k_yes rfl rfl ?_
               refine k_move rfl rfl ?_
               exact fq_end
              refine rt_read (.int .i64 x42) rfl rfl (fun s110 st110 => ?_) ?_
              ·refine k_yes rfl rfl ?_
               refine k_move rfl rfl ?_
               exact fq_end
              obtain ⟨x64, hx64, h⟩ := ob h
              refine rt_ix rfl (wanted_yes rfl rfl rfl) Tryd.underlying22 size31 rfl rfl hp3 (geti_out hx64).1 (geti_map hx64) rfl ?_
              intro q111 hq111
              refine rt_ldagg rfl (wanted_yes rfl rfl rfl) (by exact agg31) rfl hq111 (by first | exact id | (simp only [KC, KO, KU, KN, KB] <;> omega)) rfl ?_
              intro cs112 h112
              obtain ⟨q112_0, rfl, hq112_0⟩ := opnLaw05Call h112
              refine rt_act rfl rfl ?_
              refine k_yes rfl rfl ?_
              have hA113 := Step.r0 (KU (KN s54.n) (KU (KO ku1_0) (KU (KO ku2_0) (KU (KO ku36_0) (KO (b38 + 1)))))) s76
              obtain ⟨x65, hx65, h⟩ := ob h
              refine k_call cal15 rfl (law05_call_w (a1 := x63) h36_0 (SL.of_R hq108_0) (by first | assumption | omega | (simp <;> omega)) hx65) rfl ?_
              rintro s114 vr114 st114 ⟨rfl, h36_0⟩
              have szs114 := st114.size
              have hS := hS.c0 st114
              have hE41 := hE41.c0 st114
              have hE46 := hE46.c0 st114
              have hA113 := hA113.c0 st114
              replace hq112_0 := hq112_0.up2 st114
              replace h1_0 := h1_0.up2 st114
              replace hw76_0_0 := hw76_0_0.up2 st114
              replace hw76_0_1 := hw76_0_1.up2 st114
              replace hb_76_0 := hb_76_0.up2 st114
              replace h49 := h49.up2 st114
              replace h50 := h50.up2 st114
              replace h38 := h38.up2 st114
              refine rt_cont hA113 ?_
              refine rt_act rfl rfl ?_
              refine k_yes rfl rfl ?_
              have hA115 := Step.r0 (KU (KN s54.n) (KU (KO ku1_0) (KU (KO ku2_0) (KU (KO ku36_0) (KO (b38 + 1)))))) s114
              obtain ⟨x66, hx66, h⟩ := ob h
              refine k_call cal22 rfl (law05_meant_w (a1 := x64) (ORef05Disk.mk_ (⟨x52, x53, x54, x55, (⟨x56, x57, x58⟩ : St66)⟩ : Ref05Disk) (by omega) h49 h50 h38) (SL.of_R hq112_0) (by first | assumption | omega | (simp <;> omega)) hx66) rfl ?_
              rintro s116 vr116 st116 ⟨rfl, hm116_0⟩
              obtain ⟨w116_0_0, w116_0_1, hb_116_0, hw116_0_0, hw116_0_1⟩ := hm116_0.at_
              have szs116 := st116.size
              have hS := hS.c0 st116
              have hE41 := hE41.c0 st116
              have hE46 := hE46.c0 st116
              have hA115 := hA115.c0 st116
              replace h1_0 := h1_0.up2 st116
              replace hw76_0_0 := hw76_0_0.up2 st116
              replace hw76_0_1 := hw76_0_1.up2 st116
              replace hb_76_0 := hb_76_0.up2 st116
              replace h36_0 := h36_0.up2 st116
              refine rt_cont hA115 ?_
              refine rt_read (.bool (decide (x65.1 ≠ x66.1))) rfl rfl (fun s117 st117 => ?_) ?_
              ·refine k_yes rfl rfl ?_
               refine k_neq rfl rfl rfl ?_
               exact fq_end
              refine rt_read (.bool (decide (x65.1 ≠ x66.1))) rfl rfl (fun s118 st118 => ?_) ?_
              ·refine k_yes rfl rfl ?_
               refine k_pickT rfl rfl rfl rfl ?_
               exact fq_end
              refine rt_read (.bool (decide (x65.1 ≠ x66.1))) rfl rfl (fun s119 st119 => ?_) ?_
              ·refine k_pickF rfl rfl rfl rfl ?_
               exact fq_end
              refine rt_fin ?_
              refine k_nil ?_
              refine k_keep [(2, _), (3, _), (8, _), (9, _), (11, _), (13, _), (14, _), (15, _), (115, _)] ⟨rfl, rfl, rfl, rfl, rfl, rfl, rfl, rfl, rfl, trivial⟩ ?_
              refine k_cond_dec rfl (fun c120 => ?_) (fun c120 => ?_)
              ·
               have h := itT h c120
               refine k_seq ?_
               refine k_region ?_
               refine k_assign rfl rfl ?_
               refine k_nil ?_
               refine k_keep [(2, _), (3, _), (8, _), (9, _), (11, _), (13, _), (14, _), (15, _)] ⟨rfl, rfl, rfl, rfl, rfl, rfl, rfl, rfl, trivial⟩ ?_
               refine k_ret ?_
               obtain rfl := Option.some.inj h
               refine ⟨_, rfl, Ret.mk hS ?_⟩
               exact rfl
              ·
               have h := itF h c120
               refine k_skip ?_
               refine k_blk ?_
               refine k_region ?_
               refine k_move rfl rfl ?_
               refine k_add rfl rfl rfl ?_
               refine k_assign rfl rfl ?_
               refine k_nil ?_
               exact k_stop ⟨(s116, i64 (x42 + 1), x61.2, x62.2.Most, x62.2.Off, x62.2.Pictures, w76_0_0, x62.2.Made, w76_0_1, x62.2.Fuse.e0, x62.2.Fuse.e1, x62.2.Fuse.e2, x65.2, x66.2.Most, x66.2.Off, x66.2.Pictures, w116_0_0, x66.2.Made, w116_0_1, x66.2.Fuse.e0, x66.2.Fuse.e1, x66.2.Fuse.e2, j), ⟨(by first | rfl | (simp <;> rfl)), trivial⟩, ⟨rfl, rfl, rfl, rfl, rfl, rfl, rfl, trivial⟩, ⟨rfl, hE46, h1_0, hw76_0_0, hw76_0_1, hb_76_0, h36_0, hw116_0_0, hw116_0_1, hb_116_0, h⟩, (by simp)⟩
             ·
              have h := itF h c103
              refine rt_read undef rfl rfl (fun s121 st121 => ?_) ?_
              ·refine k_no rfl rfl rfl rfl ?_
               exact fq_end
              refine rt_read undef rfl rfl (fun s122 st122 => ?_) ?_
              ·refine k_no rfl rfl rfl rfl ?_
               exact fq_end
              refine rt_read undef rfl rfl (fun s123 st123 => ?_) ?_
              ·refine k_no rfl rfl rfl rfl ?_
               exact fq_end
              refine rt_read undef rfl rfl (fun s124 st124 => ?_) ?_
              ·refine k_no rfl rfl rfl rfl ?_
               exact fq_end
              refine rt_read undef rfl rfl (fun s125 st125 => ?_) ?_
              ·refine k_no rfl rfl rfl rfl ?_
               exact fq_end
              refine rt_read undef rfl rfl (fun s126 st126 => ?_) ?_
              ·refine k_no rfl rfl rfl rfl ?_
               exact fq_end
              refine rt_read undef rfl rfl (fun s127 st127 => ?_) ?_
              ·refine k_no rfl rfl rfl rfl ?_
               exact fq_end
              refine rt_read undef rfl rfl (fun s128 st128 => ?_) ?_
              ·refine k_no rfl rfl rfl rfl ?_
               exact fq_end
              refine rt_read undef rfl rfl (fun s129 st129 => ?_) ?_
              ·refine k_no rfl rfl rfl rfl ?_
               exact fq_end
              refine rt_act rfl rfl ?_
              refine k_no rfl rfl rfl rfl ?_
              refine rt_cont ((Step.refl _).of0 (by first | exact fun _ h => h | (intro c h; simp [KC, KO, KU, KN, KB] at h <;> omega))) ?_
              refine rt_act rfl rfl ?_
              refine k_no rfl rfl rfl rfl ?_
              refine rt_cont ((Step.refl _).of0 (by first | exact fun _ h => h | (intro c h; simp [KC, KO, KU, KN, KB] at h <;> omega))) ?_
              refine rt_read undef rfl rfl (fun s130 st130 => ?_) ?_
              ·refine k_no rfl rfl rfl rfl ?_
               exact fq_end
              refine rt_read (.bool false) rfl rfl (fun s131 st131 => ?_) ?_
              ·refine k_yes rfl rfl ?_
               refine k_pickF rfl rfl rfl rfl ?_
               exact fq_end
              refine rt_read (.bool false) rfl rfl (fun s132 st132 => ?_) ?_
              ·refine k_pickF rfl rfl rfl rfl ?_
               exact fq_end
              refine rt_fin ?_
              refine k_nil ?_
              refine k_keep [(2, _), (3, _), (8, _), (9, _), (11, _), (13, _), (14, _), (15, _), (115, _)] ⟨rfl, rfl, rfl, rfl, rfl, rfl, rfl, rfl, rfl, trivial⟩ ?_
              refine k_cond_false rfl ?_
              refine k_skip ?_
              refine k_blk ?_
              refine k_region ?_
              refine k_move rfl rfl ?_
              refine k_add rfl rfl rfl ?_
              refine k_assign rfl rfl ?_
              refine k_nil ?_
              exact k_stop ⟨(s76, i64 (x42 + 1), x61.2, x62.2.Most, x62.2.Off, x62.2.Pictures, w76_0_0, x62.2.Made, w76_0_1, x62.2.Fuse.e0, x62.2.Fuse.e1, x62.2.Fuse.e2, x51, x52, x53, x54, v49, x55, v50, x56, x57, x58, j), ⟨(by first | rfl | (simp <;> rfl)), trivial⟩, ⟨rfl, rfl, rfl, rfl, rfl, rfl, rfl, trivial⟩, ⟨rfl, hE46, h1_0, hw76_0_0, hw76_0_1, hb_76_0, h36_0, h49, h50, h38, h⟩, (by simp)⟩
           ·
            have h := itF h c62
            refine rt_read undef rfl rfl (fun s133 st133 => ?_) ?_
            ·refine k_no rfl rfl rfl rfl ?_
             exact fq_end
            refine rt_read undef rfl rfl (fun s134 st134 => ?_) ?_
            ·refine k_no rfl rfl rfl rfl ?_
             exact fq_end
            refine rt_read undef rfl rfl (fun s135 st135 => ?_) ?_
            ·refine k_no rfl rfl rfl rfl ?_
             exact fq_end
            refine rt_read undef rfl rfl (fun s136 st136 => ?_) ?_
            ·refine k_no rfl rfl rfl rfl ?_
             exact fq_end
            refine rt_read undef rfl rfl (fun s137 st137 => ?_) ?_
            ·refine k_no rfl rfl rfl rfl ?_
             exact fq_end
            refine rt_read undef rfl rfl (fun s138 st138 => ?_) ?_
            ·refine k_no rfl rfl rfl rfl ?_
             exact fq_end
            refine rt_read undef rfl rfl (fun s139 st139 => ?_) ?_
            ·refine k_no rfl rfl rfl rfl ?_
             exact fq_end
            refine rt_read undef rfl rfl (fun s140 st140 => ?_) ?_
            ·refine k_no rfl rfl rfl rfl ?_
             exact fq_end
            refine rt_read undef rfl rfl (fun s141 st141 => ?_) ?_
            ·refine k_no rfl rfl rfl rfl ?_
             exact fq_end
            refine rt_read undef rfl rfl (fun s142 st142 => ?_) ?_
            ·refine k_no rfl rfl rfl rfl ?_
             exact fq_end
            refine rt_act rfl rfl ?_
            refine k_no rfl rfl rfl rfl ?_
            refine rt_cont ((Step.refl _).of0 (by first | exact fun _ h => h | (intro c h; simp [KC, KO, KU, KN, KB] at h <;> omega))) ?_
            refine rt_act rfl rfl ?_
            refine k_no rfl rfl rfl rfl ?_
            refine rt_cont ((Step.refl _).of0 (by first | exact fun _ h => h | (intro c h; simp [KC, KO, KU, KN, KB] at h <;> omega))) ?_
            refine rt_read undef rfl rfl (fun s143 st143 => ?_) ?_
            ·refine k_no rfl rfl rfl rfl ?_
             exact fq_end
            refine rt_read (.bool false) rfl rfl (fun s144 st144 => ?_) ?_
            ·refine k_pickF rfl rfl rfl rfl ?_
             exact fq_end
            refine rt_read (.bool false) rfl rfl (fun s145 st145 => ?_) ?_
            ·refine k_move rfl rfl ?_
             exact fq_end
            refine rt_read (.int .i64 x42) rfl rfl (fun s146 st146 => ?_) ?_
            ·refine k_yes rfl rfl ?_
             refine k_move rfl rfl ?_
             exact fq_end
            refine rt_read (v3) rfl rfl (fun s147 st147 => ?_) ?_
            ·refine k_yes rfl rfl ?_
             refine k_move rfl rfl ?_
             exact fq_end
            refine rt_read (.int .i64 (a3.length : Int)) rfl rfl (fun s148 st148 => ?_) ?_
            ·try replace hp3 := hp3.up2 st148
             refine k_yes rfl rfl ?_
             refine k_len Tryd.underlying22 rfl hp3.hasLen rfl ?_
             refine k_as (v := .int .i64 (a3.length : Int)) (by simp only [List.length_map]) ?_
             exact fq_end
            refine rt_read (.bool (decide (x42 < (a3.length : Int)))) rfl rfl (fun s149 st149 => ?_) ?_
            ·refine k_yes rfl rfl ?_
             refine k_lss rfl rfl rfl ?_
             exact fq_end
            refine rt_read (.bool (decide (x42 < (a3.length : Int)))) rfl rfl (fun s150 st150 => ?_) ?_
            ·refine k_yes rfl rfl ?_
             refine k_move rfl rfl ?_
             exact fq_end
            refine rt_split (fun c151 => ?_) (fun c151 => ?_)
            ·
             have h := itT h c151
             refine rt_read (v36_0) rfl rfl (fun s152 st152 => ?_) ?_
             ·refine k_yes rfl rfl ?_
              refine k_move rfl rfl ?_
              exact fq_end
             refine rt_read (v3) rfl rfl (fun s153 st153 => ?_) ?_
             ·refine k_yes rfl rfl ?_
              refine k_move rfl rfl ?_
              exact fq_end
             refine rt_read (.int .i64 x42) rfl rfl (fun s154 st154 => ?_) ?_
             ·refine k_yes rfl rfl ?_
              refine k_move rfl rfl ?_
              exact fq_end
             obtain ⟨x67, hx67, h⟩ := ob h
             refine rt_ix rfl (wanted_yes rfl rfl rfl) Tryd.underlying22 size31 rfl rfl hp3 (geti_out hx67).1 (geti_map hx67) rfl ?_
             intro q155 hq155
             refine rt_ldagg rfl (wanted_yes rfl rfl rfl) (by exact agg31) rfl hq155 (by first | exact id | (simp only [KC, KO, KU, KN, KB] <;> omega)) rfl ?_
             intro cs156 h156
             obtain ⟨q156_0, rfl, hq156_0⟩ := opnLaw05Call h156
             refine rt_read (v3) rfl rfl (fun s157 st157 => ?_) ?_
             ·refine k_yes rfl rfl ?_
              refine k_move rfl rfl ?_
              exact fq_end
             refine rt_read (.int .i64 x42) rfl rfl (fun s158 st158 => ?_) ?_
             ·refine k_yes rfl rfl ?_
              refine k_move rfl rfl ?_
              exact fq_end
             obtain ⟨x68, hx68, h⟩ := ob h
             refine rt_ix rfl (wanted_yes rfl rfl rfl) Tryd.underlying22 size31 rfl rfl hp3 (geti_out hx68).1 (geti_map hx68) rfl ?_
             intro q159 hq159
             refine rt_ldagg rfl (wanted_yes rfl rfl rfl) (by exact agg31) rfl hq159 (by first | exact id | (simp only [KC, KO, KU, KN, KB] <;> omega)) rfl ?_
             intro cs160 h160
             obtain ⟨q160_0, rfl, hq160_0⟩ := opnLaw05Call h160
             refine rt_act rfl rfl ?_
             refine k_yes rfl rfl ?_
             have hA161 := Step.r0 (KU (KN s54.n) (KU (KO ku1_0) (KU (KO ku2_0) (KU (KO ku36_0) (KO (b38 + 1)))))) s56
             obtain ⟨x69, hx69, h⟩ := ob h
             refine k_call cal15 rfl (law05_call_w (a1 := x67) h36_0 (SL.of_R hq156_0) (by first | assumption | omega | (simp <;> omega)) hx69) rfl ?_
             rintro s162 vr162 st162 ⟨rfl, h36_0⟩
             have szs162 := st162.size
             have hS := hS.c0 st162
             have hE41 := hE41.c0 st162
             have hE46 := hE46.c0 st162
             have hA161 := hA161.c0 st162
             replace hq160_0 := hq160_0.up2 st162
             replace h1_0 := h1_0.up2 st162
             replace h47 := h47.up2 st162
             replace h48 := h48.up2 st162
             replace hb_t37 := hb_t37.up2 st162
             replace h49 := h49.up2 st162
             replace h50 := h50.up2 st162
             replace h38 := h38.up2 st162
             refine rt_cont hA161 ?_
             refine rt_act rfl rfl ?_
             refine k_yes rfl rfl ?_
             have hA163 := Step.r0 (KU (KN s54.n) (KU (KO ku1_0) (KU (KO ku2_0) (KU (KO ku36_0) (KO (b38 + 1)))))) s162
             obtain ⟨x70, hx70, h⟩ := ob h
             refine k_call cal22 rfl (law05_meant_w (a1 := x68) (ORef05Disk.mk_ (⟨x52, x53, x54, x55, (⟨x56, x57, x58⟩ : St66)⟩ : Ref05Disk) (by omega) h49 h50 h38) (SL.of_R hq160_0) (by first | assumption | omega | (simp <;> omega)) hx70) rfl ?_
             rintro s164 vr164 st164 ⟨rfl, hm164_0⟩
             obtain ⟨w164_0_0, w164_0_1, hb_164_0, hw164_0_0, hw164_0_1⟩ := hm164_0.at_
             have szs164 := st164.size
             have hS := hS.c0 st164
             have hE41 := hE41.c0 st164
             have hE46 := hE46.c0 st164
             have hA163 := hA163.c0 st164
             replace h1_0 := h1_0.up2 st164
             replace h47 := h47.up2 st164
             replace h48 := h48.up2 st164
             replace hb_t37 := hb_t37.up2 st164
             replace h36_0 := h36_0.up2 st164
             refine rt_cont hA163 ?_
             refine rt_read (.bool (decide (x69.1 ≠ x70.1))) rfl rfl (fun s165 st165 => ?_) ?_
             ·refine k_yes rfl rfl ?_
              refine k_neq rfl rfl rfl ?_
              exact fq_end
             refine rt_read (.bool (decide (x69.1 ≠ x70.1))) rfl rfl (fun s166 st166 => ?_) ?_
             ·refine k_yes rfl rfl ?_
              refine k_pickT rfl rfl rfl rfl ?_
              exact fq_end
             refine rt_read (.bool (decide (x69.1 ≠ x70.1))) rfl rfl (fun s167 st167 => ?_) ?_
             ·refine k_pickF rfl rfl rfl rfl ?_
              exact fq_end
             refine rt_fin ?_
             refine k_nil ?_
             refine k_keep [(2, _), (3, _), (8, _), (9, _), (11, _), (13, _), (14, _), (15, _), (115, _)] ⟨rfl, rfl, rfl, rfl, rfl, rfl, rfl, rfl, rfl, trivial⟩ ?_
             refine k_cond_dec rfl (fun c168 => ?_) (fun c168 => ?_)
             ·
              have h := itT h c168
              refine k_seq ?_
              refine k_region ?_
              refine k_assign rfl rfl ?_
              refine k_nil ?_
              refine k_keep [(2, _), (3, _), (8, _), (9, _), (11, _), (13, _), (14, _), (15, _)] ⟨rfl, rfl, rfl, rfl, rfl, rfl, rfl, rfl, trivial⟩ ?_
              refine k_ret ?_
              obtain rfl := Option.some.inj h
              refine ⟨_, rfl, Ret.mk hS ?_⟩
              exact rfl
             ·
              have h := itF h c168
              refine k_skip ?_
              refine k_blk ?_
              refine k_region ?_
              refine k_move rfl rfl ?_
              refine k_add rfl rfl rfl ?_
              refine k_assign rfl rfl ?_
              refine k_nil ?_
              exact k_stop ⟨(s164, i64 (x42 + 1), x43, x44, x45, x46, v47, x47, v48, x48, x49, x50, x69.2, x70.2.Most, x70.2.Off, x70.2.Pictures, w164_0_0, x70.2.Made, w164_0_1, x70.2.Fuse.e0, x70.2.Fuse.e1, x70.2.Fuse.e2, j), ⟨(by first | rfl | (simp <;> rfl)), trivial⟩, ⟨rfl, rfl, rfl, rfl, rfl, rfl, rfl, trivial⟩, ⟨rfl, hE46, h1_0, h47, h48, hb_t37, h36_0, hw164_0_0, hw164_0_1, hb_164_0, h⟩, (by simp)⟩
            ·
             have h := itF h c151
             refine rt_read undef rfl rfl (fun s169 st169 => ?_) ?_
             ·refine k_no rfl rfl rfl rfl ?_
              exact fq_end
             refine rt_read undef rfl rfl (fun s170 st170 => ?_) ?_
             ·refine k_no rfl rfl rfl rfl ?_
              exact fq_end
             refine rt_read undef rfl rfl (fun s171 st171 => ?_) ?_
             ·refine k_no rfl rfl rfl rfl ?_
              exact fq_end
             refine rt_read undef rfl rfl (fun s172 st172 => ?_) ?_
             ·refine k_no rfl rfl rfl rfl ?_
              exact fq_end
             refine rt_read undef rfl rfl (fun s173 st173 => ?_) ?_
             ·refine k_no rfl rfl rfl rfl ?_
              exact fq_end
             refine rt_read undef rfl rfl (fun s174 st174 => ?_) ?_
             ·refine k_no rfl rfl rfl rfl ?_
              exact fq_end
             refine rt_read undef rfl rfl (fun s175 st175 => ?_) ?_
             ·refine k_no rfl rfl rfl rfl ?_
              exact fq_end
             refine rt_read undef rfl rfl (fun s176 st176 => ?_) ?_
             ·refine k_no rfl rfl rfl rfl ?_
              exact fq_end
             refine rt_read undef rfl rfl (fun s177 st177 => ?_) ?_
             ·refine k_no rfl rfl rfl rfl ?_
              exact fq_end
             refine rt_act rfl rfl ?_
             refine k_no rfl rfl rfl rfl ?_
             refine rt_cont ((Step.refl _).of0 (by first | exact fun _ h => h | (intro c h; simp [KC, KO, KU, KN, KB] at h <;> omega))) ?_
             refine rt_act rfl rfl ?_
             refine k_no rfl rfl rfl rfl ?_
             refine rt_cont ((Step.refl _).of0 (by first | exact fun _ h => h | (intro c h; simp [KC, KO, KU, KN, KB] at h <;> omega))) ?_
             refine rt_read undef rfl rfl (fun s178 st178 => ?_) ?_
             ·refine k_no rfl rfl rfl rfl ?_
              exact fq_end
             refine rt_read (.bool false) rfl rfl (fun s179 st179 => ?_) ?_
             ·refine k_yes rfl rfl ?_
              refine k_pickF rfl rfl rfl rfl ?_
              exact fq_end
             refine rt_read (.bool false) rfl rfl (fun s180 st180 => ?_) ?_
             ·refine k_pickF rfl rfl rfl rfl ?_
              exact fq_end
             refine rt_fin ?_
             refine k_nil ?_
             refine k_keep [(2, _), (3, _), (8, _), (9, _), (11, _), (13, _), (14, _), (15, _), (115, _)] ⟨rfl, rfl, rfl, rfl, rfl, rfl, rfl, rfl, rfl, trivial⟩ ?_
             refine k_cond_false rfl ?_
             refine k_skip ?_
             refine k_blk ?_
             refine k_region ?_
             refine k_move rfl rfl ?_
             refine k_add rfl rfl rfl ?_
             refine k_assign rfl rfl ?_
             refine k_nil ?_
             exact k_stop ⟨(s56, i64 (x42 + 1), x43, x44, x45, x46, v47, x47, v48, x48, x49, x50, x51, x52, x53, x54, v49, x55, v50, x56, x57, x58, j), ⟨(by first | rfl | (simp <;> rfl)), trivial⟩, ⟨rfl, rfl, rfl, rfl, rfl, rfl, rfl, trivial⟩, ⟨rfl, hE46, h1_0, h47, h48, hb_t37, h36_0, h49, h50, h38, h⟩, (by simp)⟩
          ·
           have h := itF h c55
           refine k_exit rfl ?_
           exact k_stop ⟨(s54, x43, x44, x45, x46, v47, x47, v48, x48, x49, x50, x51, x52, x53, x54, v49, x55, v50, x56, x57, x58), trivial, ⟨rfl, rfl, rfl, rfl, rfl, trivial⟩, ⟨rfl, hE41, h1_0, h47, h48, hb_t37, h36_0, h49, h50, h38, h⟩⟩
        ·
         rintro ⟨s181, x26, x27, x28, x29, v42, x30, v43, x31, x32, x33, x34, x35, x36, x37, v44, x38, v45, x39, x40, x41⟩ wL ⟨rfl, hE41, h1_0, h42, h43, hb_t37, h36_0, h44, h45, h38, h⟩
         rw [hK41] at h
         have szs181 := hE41.size
         have hS := hS.c0 hE41
         refine k_seq ?_
         refine k_region ?_
         refine k_move rfl rfl ?_
         refine k_move rfl rfl ?_
         obtain ⟨x71, hx71, h⟩ := ob h
         refine k_call cal23 rfl (law05_shows_w  h1_0 (ORef05Disk.mk_ (⟨x27, x28, x29, x30, (⟨x31, x32, x33⟩ : St66)⟩ : Ref05Disk) (by omega) h42 h43 hb_t37) hx71) rfl ?_
         rintro s182 vr182 st182 rfl
         have szs182 := st182.size
         have hS := hS.trans0 st182
         replace h36_0 := h36_0.up2 st182
         replace h44 := h44.up2 st182
         replace h45 := h45.up2 st182
         replace h38 := h38.up2 st182
         refine k_move rfl rfl ?_
         obtain ⟨x72, hx72, h⟩ := ob h
         have hE183 := Step.r0 K0 s182
         refine k_cutl (X := St) 3 [(8, .bool false), (9, v1_0), (11, .pointer (some ⟨ob37, 0, none⟩)), (13, v36_0), (14, .pointer (some ⟨b38, 0, none⟩)), (116, v1_0), (117, .pointer (some ⟨ob37, 0, none⟩)), (118, .bool x71)] (fun _ => [(122, .bool x72)]) (fun sl wL => sl.w = wL ∧ Step K0 s182 sl) ?_ ?_
         ·
          refine k_again 119 rfl ?_
          refine k_splitb (fun c184 => ?_) (fun c184 => ?_)
          ·
           have hx72 := ibT hx72 c184
           refine k_yes rfl rfl ?_
           refine k_move rfl rfl ?_
           refine k_yes rfl rfl ?_
           obtain ⟨x73, hx73, hx72⟩ := ob hx72
           refine k_call cal23 rfl (law05_shows_w  h36_0 (ORef05Disk.mk_ (⟨x35, x36, x37, x38, (⟨x39, x40, x41⟩ : St66)⟩ : Ref05Disk) (by omega) h44 h45 h38) hx73) rfl ?_
           rintro s185 vr185 st185 rfl
           have szs185 := st185.size
           have hS := hS.trans0 st185
           have hE183 := hE183.trans0 st185
           refine k_pickT rfl rfl rfl rfl ?_
           exact k_met ⟨s185, ⟨(congrArg (fun b => some (Value.bool b)) (Option.some.inj hx72)), trivial⟩, ⟨rfl, rfl, rfl, rfl, rfl, rfl, rfl, rfl, trivial⟩, rfl, hE183⟩
          ·
           have hx72 := ibF hx72 c184
           refine k_no rfl rfl rfl rfl ?_
           refine k_no rfl rfl rfl rfl ?_
           refine k_pickF rfl rfl rfl rfl ?_
           exact k_met ⟨s182, ⟨(congrArg (fun b => some (Value.bool b)) (Option.some.inj hx72)), trivial⟩, ⟨rfl, rfl, rfl, rfl, rfl, rfl, rfl, rfl, trivial⟩, rfl, hE183⟩
         ·
          rintro s186 wL ⟨rfl, hE183⟩
          have szs186 := hE183.size
          have hS := hS.trans0 hE183
          refine k_move rfl rfl ?_
          obtain ⟨x74, hx74, h⟩ := ob h
          have hE187 := Step.r0 K0 s186
          refine k_cutl (X := St) 2 [(8, .bool false), (9, v1_0), (11, .pointer (some ⟨ob37, 0, none⟩)), (13, v36_0), (14, .pointer (some ⟨b38, 0, none⟩)), (116, v1_0), (117, .pointer (some ⟨ob37, 0, none⟩)), (118, .bool x71), (122, .bool x72)] (fun _ => [(125, .bool x74)]) (fun sl wL => sl.w = wL ∧ Step K0 s186 sl) ?_ ?_
          ·
           refine k_again 123 rfl ?_
           refine k_splitb (fun c188 => ?_) (fun c188 => ?_)
           ·
            have hx74 := ibT hx74 c188
            refine k_yes rfl rfl ?_
            obtain ⟨x75, hx75, hx74⟩ := ob hx74
            refine k_call cal13 rfl (law05_awake_w   hx75) rfl ?_
            rintro s189 vr189 st189 rfl
            have szs189 := st189.size
            have hS := hS.trans0 st189
            have hE187 := hE187.trans0 st189
            refine k_pickT rfl rfl rfl rfl ?_
            exact k_met ⟨s189, ⟨(congrArg (fun b => some (Value.bool b)) (Option.some.inj hx74)), trivial⟩, ⟨rfl, rfl, rfl, rfl, rfl, rfl, rfl, rfl, rfl, trivial⟩, rfl, hE187⟩
           ·
            have hx74 := ibF hx74 c188
            refine k_no rfl rfl rfl rfl ?_
            refine k_pickF rfl rfl rfl rfl ?_
            exact k_met ⟨s186, ⟨(congrArg (fun b => some (Value.bool b)) (Option.some.inj hx74)), trivial⟩, ⟨rfl, rfl, rfl, rfl, rfl, rfl, rfl, rfl, rfl, trivial⟩, rfl, hE187⟩
          ·
           rintro s190 wL ⟨rfl, hE187⟩
           have szs190 := hE187.size
           have hS := hS.trans0 hE187
           refine k_assign rfl rfl ?_
           refine k_nil ?_
           refine k_keep [(8, _)] ⟨rfl, trivial⟩ ?_
           refine k_ret ?_
           obtain rfl := Option.some.inj h
           refine ⟨_, rfl, Ret.mk hS ?_⟩
           exact rfl
end Go.Proofs
