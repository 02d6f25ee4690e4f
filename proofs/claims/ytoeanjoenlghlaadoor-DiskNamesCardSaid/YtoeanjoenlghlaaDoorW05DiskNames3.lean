import Derived.Test.YtoeanjoenlghlaaDoorW05DiskNames2
set_option linter.unusedSimpArgs false
set_option linter.unusedVariables false
namespace Go.Proofs
open Go.Fw
set_option maxHeartbeats 1000000 in
set_option maxRecDepth 100000 in
theorem law05_DiskNames_w {s : St} {a0 : Int} {l1 : Lab} {v1 : Value} {a1 : (List Law05Call)} {a2 : (List UInt8)} {a3 : (List UInt8)} {r : Bool} (hp1 : SL s l1 v1 7 (a1.map dLaw05Call)) (h : law05_DiskNames a0 a1 a2 a3 = some r) : Calls Tryd.prog 7 #[.int .i64 a0, v1, S a2, S a3] s.w (Ret s K0 (fun s1 v => v = .bool r)) := by
  unfold law05_DiskNames at h
  obtain ⟨lf1, lf1le, lf1ne, hp1⟩ := hp1.fix
  have hS : Step K0 s s := (Step.refl _).of0 (by first | exact fun _ h => h | (intro c h; simp [KC, KO, KU, KN, KB] at h <;> omega))
  refine k_fn (rs := [8]) (args := [.int .i64 a0, v1, S a2, S a3]) Tryd.func7 rfl rfl rfl rfl ?_
  refine k_seq ?_
  refine k_region ?_
  refine k_assign rfl rfl ?_
  refine k_nil ?_
  refine k_seq ?_
  refine k_region ?_
  refine k_move rfl rfl ?_
  obtain ⟨x1, hx1, h⟩ := ob h
  refine k_call cal11 rfl (disk_New_w   hx1) rfl ?_
  rintro s1 vr1 st1 ⟨ku1_0, v1_0, rfl, hk1_0, h1_0⟩
  have szs1 := st1.size
  have hS : Step K0 s s1 := hS.trans0 st1
  replace hp1 := hp1.up2 st1
  have ol1_0 := OptODiskDisk.le (k := ku1_0) h1_0
  refine k_move rfl rfl ?_
  refine k_extract rfl rfl rfl ?_
  refine k_extract rfl rfl rfl ?_
  refine k_assign rfl rfl ?_
  refine k_assign rfl rfl ?_
  refine k_nil ?_
  refine k_keep [(1, _), (2, _), (3, _), (8, _), (9, _), (10, _)] ⟨rfl, rfl, rfl, rfl, rfl, rfl, trivial⟩ ?_
  refine k_seq ?_
  refine k_seq ?_
  refine k_region ?_
  refine k_move rfl rfl ?_
  refine k_neq rfl rfl rfl ?_
  refine k_move rfl rfl ?_
  obtain ⟨x2, hx2, h⟩ := ob h
  have hE2 : Step K0 s1 s1 := (Step.refl _).of0 (by first | exact fun _ h => h | (intro c h; simp [KC, KO, KU, KN, KB] at h <;> omega))
  refine k_cutl (X := St) 3 [(1, v1), (2, S a2), (3, S a3), (8, .bool false), (9, v1_0), (10, .int .i64 x1.2), (27, .int .i64 x1.2), (28, .bool (decide (x1.2 ≠ 0)))] (fun _ => [(32, .bool x2)]) (fun sl wL => sl.w = wL ∧ Step K0 s1 sl) ?_ ?_
  · -- the ways
    refine k_again 29 rfl ?_
    refine k_split (fun c3 => ?_) (fun c3 => ?_)
    · -- t29 True
      have hx2 := itT hx2 c3
      refine k_no rfl rfl rfl rfl ?_
      refine k_no rfl rfl rfl rfl ?_
      refine k_pickT rfl rfl rfl rfl ?_
      exact k_met ⟨s1, ⟨(congrArg (fun b => some (Value.bool b)) (Option.some.inj hx2)), trivial⟩, ⟨rfl, rfl, rfl, rfl, rfl, rfl, rfl, rfl, trivial⟩, rfl, hE2⟩
    · -- t29 False
      have hx2 := itF hx2 c3
      refine k_yes rfl rfl ?_
      refine k_move rfl rfl ?_
      refine k_yes rfl rfl ?_
      obtain ⟨x3, hx3, hx2⟩ := ob hx2
      refine k_call cal12 rfl (law05_many_w  hp1 hx3) rfl ?_
      rintro s4 vr4 st4 rfl
      have szs4 := st4.size
      have hS : Step K0 s s4 := hS.trans0 st4
      have hE2 : Step K0 s1 s4 := hE2.trans0 st4
      replace h1_0 : OptODiskDisk s4 ku1_0 v1_0 x1.1 := OptODiskDisk.up3 h1_0 ol1_0 st4
      refine k_pickF rfl rfl rfl rfl ?_
      exact k_met ⟨s4, ⟨(congrArg (fun b => some (Value.bool b)) (Option.some.inj hx2)), trivial⟩, ⟨rfl, rfl, rfl, rfl, rfl, rfl, rfl, rfl, trivial⟩, rfl, hE2⟩
  · -- behind
    rintro s5 wL ⟨rfl, hE2⟩
    have szs5 := hE2.size
    have hS : Step K0 s s5 := hS.trans0 hE2
    replace hp1 := hp1.up2 hE2
    replace h1_0 : OptODiskDisk s5 ku1_0 v1_0 x1.1 := OptODiskDisk.up3 h1_0 ol1_0 hE2
    refine k_move rfl rfl ?_
    have hE6 : Step K0 s5 s5 := (Step.refl _).of0 (by first | exact fun _ h => h | (intro c h; simp [KC, KO, KU, KN, KB] at h <;> omega))
    refine k_cutl (X := St) 4 [(1, v1), (2, S a2), (3, S a3), (8, .bool false), (9, v1_0), (10, .int .i64 x1.2), (27, .int .i64 x1.2), (28, .bool (decide (x1.2 ≠ 0))), (32, .bool x2)] (fun _ => [(37, .bool (decide ((x2 = true) ∨ (100 < (a2.length : Int)))))]) (fun sl wL => sl.w = wL ∧ Step K0 s5 sl) ?_ ?_
    · -- the ways
      refine k_again 33 rfl ?_
      refine k_splitb (fun c7 => ?_) (fun c7 => ?_)
      · -- t33 True
        refine k_no rfl rfl rfl rfl ?_
        refine k_no rfl rfl rfl rfl ?_
        refine k_no rfl rfl rfl rfl ?_
        refine k_pickT rfl rfl rfl rfl ?_
        exact k_met ⟨s5, ⟨(congrArg (fun b => some (Value.bool b)) (by first | exact decide_eq_decide.2 ⟨Or.inr, fun h => h.resolve_left c7⟩ | exact (decide_eq_true (Or.inl c7)).symm | (simp [c7]; done) | (simp [c7, i64] <;> omega))), trivial⟩, ⟨rfl, rfl, rfl, rfl, rfl, rfl, rfl, rfl, rfl, trivial⟩, rfl, hE6⟩
      · -- t33 False
        refine k_yes rfl rfl ?_
        refine k_move rfl rfl ?_
        refine k_yes rfl rfl ?_
        refine k_len_str Tryd.underlying9 rfl rfl ?_
        refine k_yes rfl rfl ?_
        refine k_gtr rfl rfl rfl ?_
        refine k_pickF rfl rfl rfl rfl ?_
        exact k_met ⟨s5, ⟨(congrArg (fun b => some (Value.bool b)) (by first | exact decide_eq_decide.2 ⟨Or.inr, fun h => h.resolve_left c7⟩ | exact (decide_eq_true (Or.inl c7)).symm | (simp [c7]; done) | (simp [c7, i64] <;> omega))), trivial⟩, ⟨rfl, rfl, rfl, rfl, rfl, rfl, rfl, rfl, rfl, trivial⟩, rfl, hE6⟩
    · -- behind
      rintro s8 wL ⟨rfl, hE6⟩
      have szs8 := hE6.size
      have hS : Step K0 s s8 := hS.trans0 hE6
      replace hp1 := hp1.up2 hE6
      replace h1_0 : OptODiskDisk s8 ku1_0 v1_0 x1.1 := OptODiskDisk.up3 h1_0 ol1_0 hE6
      refine k_move rfl rfl ?_
      have hE9 : Step K0 s8 s8 := (Step.refl _).of0 (by first | exact fun _ h => h | (intro c h; simp [KC, KO, KU, KN, KB] at h <;> omega))
      refine k_cutl (X := St) 4 [(1, v1), (2, S a2), (3, S a3), (8, .bool false), (9, v1_0), (10, .int .i64 x1.2), (27, .int .i64 x1.2), (28, .bool (decide (x1.2 ≠ 0))), (32, .bool x2), (37, .bool (decide ((x2 = true) ∨ (100 < (a2.length : Int)))))] (fun _ => [(42, .bool (decide (((x2 = true) ∨ (100 < (a2.length : Int))) ∨ (100 < (a3.length : Int)))))]) (fun sl wL => sl.w = wL ∧ Step K0 s8 sl) ?_ ?_
      · -- the ways
        refine k_again 38 rfl ?_
        refine k_split (fun c10 => ?_) (fun c10 => ?_)
        · -- t38 True
          refine k_no rfl rfl rfl rfl ?_
          refine k_no rfl rfl rfl rfl ?_
          refine k_no rfl rfl rfl rfl ?_
          refine k_pickT rfl rfl rfl rfl ?_
          exact k_met ⟨s8, ⟨(congrArg (fun b => some (Value.bool b)) (by first | exact decide_eq_decide.2 ⟨Or.inr, fun h => h.resolve_left c10⟩ | exact (decide_eq_true (Or.inl c10)).symm | (simp [c10]; done) | (simp [c10, i64] <;> omega))), trivial⟩, ⟨rfl, rfl, rfl, rfl, rfl, rfl, rfl, rfl, rfl, rfl, trivial⟩, rfl, hE9⟩
        · -- t38 False
          refine k_yes rfl rfl ?_
          refine k_move rfl rfl ?_
          refine k_yes rfl rfl ?_
          refine k_len_str Tryd.underlying9 rfl rfl ?_
          refine k_yes rfl rfl ?_
          refine k_gtr rfl rfl rfl ?_
          refine k_pickF rfl rfl rfl rfl ?_
          exact k_met ⟨s8, ⟨(congrArg (fun b => some (Value.bool b)) (by first | exact decide_eq_decide.2 ⟨Or.inr, fun h => h.resolve_left c10⟩ | exact (decide_eq_true (Or.inl c10)).symm | (simp [c10]; done) | (simp [c10, i64] <;> omega))), trivial⟩, ⟨rfl, rfl, rfl, rfl, rfl, rfl, rfl, rfl, rfl, rfl, trivial⟩, rfl, hE9⟩
      · -- behind
        rintro s11 wL ⟨rfl, hE9⟩
        have szs11 := hE9.size
        have hS : Step K0 s s11 := hS.trans0 hE9
        replace hp1 := hp1.up2 hE9
        replace h1_0 : OptODiskDisk s11 ku1_0 v1_0 x1.1 := OptODiskDisk.up3 h1_0 ol1_0 hE9
        refine k_nil ?_
        refine k_keep [(1, _), (2, _), (3, _), (8, _), (9, _), (42, _)] ⟨rfl, rfl, rfl, rfl, rfl, rfl, trivial⟩ ?_
        refine k_cond_dec rfl (fun c12 => ?_) (fun c12 => ?_)
        · -- T
          have h := itT h c12
          refine k_seq ?_
          refine k_region ?_
          obtain ⟨x4, hx4, h⟩ := ob h
          refine k_call cal13 rfl (law05_awake_w   hx4) rfl ?_
          rintro s13 vr13 st13 rfl
          have szs13 := st13.size
          have hS : Step K0 s s13 := hS.trans0 st13
          replace h1_0 : OptODiskDisk s13 ku1_0 v1_0 x1.1 := OptODiskDisk.up3 h1_0 ol1_0 st13
          refine k_assign rfl rfl ?_
          refine k_nil ?_
          refine k_keep [(1, _), (2, _), (3, _), (8, _), (9, _)] ⟨rfl, rfl, rfl, rfl, rfl, trivial⟩ ?_
          refine k_ret ?_
          obtain rfl := Option.some.inj h
          refine ⟨_, rfl, Ret.mk hS ?_⟩
          exact rfl
        · -- F
          have h := itF h c12
          refine k_skip ?_
          refine k_seq ?_
          obtain ⟨x5, hx5, h⟩ := ob h
          replace ol1_0 := ol1_0.resolve_left (fun e => by rw [e] at hx5; cases hx5)
          rw [hx5] at h1_0
          replace h1_0 : ODiskDisk s11 ku1_0 v1_0 x5 := h1_0
          have le14 := h1_0.le
          have ne14 := h1_0.ne
          refine k_keep [(1, _), (2, _), (3, _), (8, _), (9, _)] ⟨rfl, rfl, rfl, rfl, rfl, trivial⟩ ?_
          obtain ⟨kj6, hK15, h⟩ := jn_out h
          have hE15 : Step (KO ku1_0) s11 s11 := (Step.refl _).of0 (by first | exact fun _ h => h | (intro c h; simp [KC, KO, KU, KN, KB] at h <;> omega))
          refine k_cutc (X := St × DiskDisk) [(2, S a2), (3, S a3), (8, .bool false), (9, v1_0)] (fun (xL : St × DiskDisk) => match xL with | (sl, x7) => []) (fun (xL : St × DiskDisk) (wL : World) => match xL with | (sl, x7) => sl.w = wL ∧ Step (KO ku1_0) s11 sl ∧ (ODiskDisk sl ku1_0 v1_0 x7) ∧ kj6 x7 = some r) ?_ ?_
          · -- the ways
            refine k_seq ?_
            refine k_region ?_
            refine k_assign rfl rfl ?_
            refine k_nil ?_
            refine k_block ?_
            refine k_loopc (X := St × Int × DiskDisk × Nat) [(1, _), (2, _), (3, _), (8, _), (9, _)] (fun (xL : St × Int × DiskDisk × Nat) => match xL with | (sl, x8, x9, j) => [(11, .int .i64 x8)]) (fun (xL : St × Int × DiskDisk × Nat) (wL : World) => match xL with | (sl, x8, x9, j) => sl.w = wL ∧ Step (KO ku1_0) s11 sl ∧ (ODiskDisk sl ku1_0 v1_0 x9) ∧ law05_DiskNames_l1 a1 kj6 j x8 x9 = some r) (fun (xL : St × Int × DiskDisk × Nat) => match xL with | (sl, x8, x9, j) => j) (s11, 0, x5, FU) ⟨rfl, rfl, rfl, rfl, rfl, trivial⟩ ⟨(by first | rfl | (simp <;> rfl)), trivial⟩ ⟨rfl, (Step.refl _).of0 (by first | exact fun _ h => h | (intro c h; simp [KC, KO, KU, KN, KB] at h <;> omega)), h1_0, h⟩ ?_
            rintro ⟨s17, x8, x9, j⟩ wL ⟨rfl, hE16, h1_0, h⟩
            cases j with
            | zero => rw [law05_DiskNames_l1] at h; exact (noneNe h).elim
            | succ j =>
            rw [law05_DiskNames_l1] at h
            have szs17 := hE16.size
            have hS : Step K0 s s17 := hS.comp hE16 (by intro l hl hk; (try simp only [KC, KO, KU, KN, K0, KB] at hk ⊢) <;> omega)
            have hE15 : Step (KO ku1_0) s11 s17 := hE15.comp hE16 (by intro l hl hk; (try simp only [KC, KO, KU, KN, K0, KB] at hk ⊢) <;> omega)
            replace hp1 := hp1.up2 hE16
            refine k_seq ?_
            refine k_seq ?_
            refine k_region ?_
            refine k_move rfl rfl ?_
            refine k_move rfl rfl ?_
            refine k_len Tryd.underlying22 rfl hp1.hasLen rfl ?_
            refine k_as (v := .int .i64 (a1.length : Int)) (by simp only [List.length_map]) ?_
            refine k_lss rfl rfl rfl ?_
            refine k_nil ?_
            refine k_keep [(1, _), (2, _), (3, _), (8, _), (9, _), (11, _), (47, _)] ⟨rfl, rfl, rfl, rfl, rfl, rfl, rfl, trivial⟩ ?_
            refine k_cond_dec rfl (fun c18 => ?_) (fun c18 => ?_)
            · -- T
              have h := itT h c18
              refine k_skip ?_
              refine k_seq ?_
              refine k_block ?_
              refine k_seq ?_
              refine k_region ?_
              refine k_move rfl rfl ?_
              refine k_move rfl rfl ?_
              obtain ⟨x10, hx10, h⟩ := ob h
              refine k_ixaddr Tryd.underlying22 size31 rfl rfl hp1 (geti_out hx10).1 (geti_map hx10) rfl ?_
              intro qx10 hqx10
              refine k_field_at (o := 0) rfl hqx10 (by rfl) fld31_0 rfl ?_
              intro q19 h19
              refine k_load_val one3 rfl h19 rfl ?_
              refine k_neq rfl rfl rfl ?_
              refine k_nil ?_
              refine k_keep [(1, _), (2, _), (3, _), (8, _), (9, _), (11, _), (55, _)] ⟨rfl, rfl, rfl, rfl, rfl, rfl, rfl, trivial⟩ ?_
              refine k_cond_dec rfl (fun c20 => ?_) (fun c20 => ?_)
              · -- T
                have h := itT h c20
                refine k_region ?_
                refine k_move rfl rfl ?_
                refine k_move rfl rfl ?_
                refine k_move rfl rfl ?_
                obtain ⟨x11, hx11, h⟩ := ob h
                refine k_ixaddr Tryd.underlying22 size31 rfl rfl hp1 (geti_out hx11).1 (geti_map hx11) rfl ?_
                intro qx11 hqx11
                refine k_load_agg (by exact agg31) rfl hqx11 rfl ?_
                intro cs21 h21
                obtain ⟨q21_0, rfl, hq21_0⟩ := opnLaw05Call h21
                obtain ⟨x12, hx12, h⟩ := ob h
                refine k_call cal15 rfl (law05_call_w (a1 := x11) h1_0 (SL.of_R hq21_0) (by first | assumption | omega | (simp <;> omega)) hx12) rfl ?_
                rintro s22 vr22 st22 ⟨rfl, h1_0⟩
                have szs22 := st22.size
                have hS : Step K0 s s22 := hS.comp st22 (by intro l hl hk; (try simp only [KC, KO, KU, KN, K0, KB] at hk ⊢) <;> omega)
                have hE15 : Step (KO ku1_0) s11 s22 := hE15.comp st22 (by intro l hl hk; (try simp only [KC, KO, KU, KN, K0, KB] at hk ⊢) <;> omega)
                have hE16 : Step (KO ku1_0) s11 s22 := hE16.comp st22 (by intro l hl hk; (try simp only [KC, KO, KU, KN, K0, KB] at hk ⊢) <;> omega)
                refine k_nil ?_
                refine k_blk ?_
                refine k_region ?_
                refine k_move rfl rfl ?_
                refine k_add rfl rfl rfl ?_
                refine k_assign rfl rfl ?_
                refine k_nil ?_
                exact k_stop ⟨(s22, i64 (x8 + 1), x12.2, j), ⟨(by first | rfl | (simp <;> rfl)), trivial⟩, ⟨rfl, rfl, rfl, rfl, rfl, trivial⟩, ⟨rfl, hE16, h1_0, h⟩, (by simp)⟩
              · -- F
                have h := itF h c20
                refine k_skip ?_
                refine k_blk ?_
                refine k_region ?_
                refine k_move rfl rfl ?_
                refine k_add rfl rfl rfl ?_
                refine k_assign rfl rfl ?_
                refine k_nil ?_
                exact k_stop ⟨(s17, i64 (x8 + 1), x9, j), ⟨(by first | rfl | (simp <;> rfl)), trivial⟩, ⟨rfl, rfl, rfl, rfl, rfl, trivial⟩, ⟨rfl, hE16, h1_0, h⟩, (by simp)⟩
            · -- F
              have h := itF h c18
              refine k_exit rfl ?_
              exact k_stop ⟨(s17, x9), trivial, ⟨rfl, rfl, rfl, rfl, trivial⟩, ⟨rfl, hE15, h1_0, h⟩⟩
          · -- behind
            rintro ⟨s23, x7⟩ wL ⟨rfl, hE15, h1_0, h⟩
            rw [hK15] at h
            have szs23 := hE15.size
            have hS : Step K0 s s23 := hS.comp hE15 (by intro l hl hk; (try simp only [KC, KO, KU, KN, K0, KB] at hk ⊢) <;> omega)
            refine k_seq ?_
            refine k_region ?_
            refine k_move rfl rfl ?_
            obtain ⟨x13, hx13, h⟩ := ob h
            refine k_call cal19 rfl (disk_Disk_Start_w  h1_0 hx13) rfl ?_
            rintro s24 vr24 st24 ⟨rfl, h1_0⟩
            have szs24 := st24.size
            have hS : Step K0 s s24 := hS.comp st24 (by intro l hl hk; (try simp only [KC, KO, KU, KN, K0, KB] at hk ⊢) <;> omega)
            refine k_nil ?_
            refine k_keep [(2, _), (3, _), (8, _), (9, _)] ⟨rfl, rfl, rfl, rfl, trivial⟩ ?_
            refine k_seq ?_
            refine k_region ?_
            refine k_move rfl rfl ?_
            obtain ⟨x14, hx14, h⟩ := ob h
            refine k_call cal25 rfl (disk_Disk_Fuse_w  h1_0 hx14) rfl ?_
            rintro s25 vr25 st25 ⟨rfl, h1_0⟩
            have szs25 := st25.size
            have hS : Step K0 s s25 := hS.comp st25 (by intro l hl hk; (try simp only [KC, KO, KU, KN, K0, KB] at hk ⊢) <;> omega)
            refine k_nil ?_
            refine k_keep [(2, _), (3, _), (8, _), (9, _)] ⟨rfl, rfl, rfl, rfl, trivial⟩ ?_
            refine k_seq ?_
            refine k_region ?_
            refine k_move rfl rfl ?_
            obtain ⟨x15, hx15, h⟩ := ob h
            refine k_call cal24 rfl (disk_Disk_Copy_w  h1_0 hx15) rfl ?_
            rintro s26 v26_0 st26 ⟨ku26_0, _, rfl, hk26_0, h26_0⟩
            have szs26 := st26.size
            have hS : Step K0 s s26 := hS.trans0 st26
            replace h1_0 := h1_0.up2 st26
            have ol26_0 := OptODiskDisk.le (k := ku26_0) h26_0
            refine k_assign rfl rfl ?_
            refine k_nil ?_
            refine k_keep [(2, _), (3, _), (8, _), (9, _), (12, _)] ⟨rfl, rfl, rfl, rfl, rfl, trivial⟩ ?_
            refine k_seq ?_
            refine k_region ?_
            refine k_move rfl rfl ?_
            obtain ⟨x16, hx16, h⟩ := ob h
            refine k_call cal26 rfl (disk_Disk_Names_w  h1_0 hx16) rfl ?_
            rintro s27 v27_0 st27 ⟨_, rfl, h27_0⟩
            have szs27 := st27.size
            have hS : Step K0 s s27 := hS.trans0 st27
            replace h1_0 := h1_0.up2 st27
            replace h26_0 : OptODiskDisk s27 ku26_0 v26_0 x15 := OptODiskDisk.up3 h26_0 ol26_0 st27
            refine k_assign rfl rfl ?_
            refine k_nil ?_
            refine k_keep [(2, _), (3, _), (8, _), (9, _), (12, _), (13, _)] ⟨rfl, rfl, rfl, rfl, rfl, rfl, trivial⟩ ?_
            refine k_seq ?_
            obtain ⟨x17, hx17, h⟩ := ob h
            replace ol26_0 := ol26_0.resolve_left (fun e => by rw [e] at hx17; cases hx17)
            rw [hx17] at h26_0
            replace h26_0 : ODiskDisk s27 ku26_0 v26_0 x17 := h26_0
            have le28 := h26_0.le
            have ne28 := h26_0.ne
            obtain ⟨kj18, hK29, h⟩ := jn_out h
            have hE29 : Step K0 s27 s27 := (Step.refl _).of0 (by first | exact fun _ h => h | (intro c h; simp [KC, KO, KU, KN, KB] at h <;> omega))
            refine k_cutc (X := St) [(2, S a2), (3, S a3), (8, .bool false), (9, v1_0), (12, v26_0), (13, v27_0)] (fun (xL : St) => match xL with | sl => []) (fun (xL : St) (wL : World) => match xL with | sl => sl.w = wL ∧ Step K0 s27 sl ∧ kj18 () = some r) ?_ ?_
            · -- the ways
              refine k_seq ?_
              refine k_region ?_
              refine k_assign rfl rfl ?_
              refine k_nil ?_
              refine k_block ?_
              refine k_loopc (X := St × Int × Nat) [(2, _), (3, _), (8, _), (9, _), (12, _), (13, _)] (fun (xL : St × Int × Nat) => match xL with | (sl, x19, j) => [(14, .int .i64 x19)]) (fun (xL : St × Int × Nat) (wL : World) => match xL with | (sl, x19, j) => sl.w = wL ∧ Step K0 s27 sl ∧ law05_DiskNames_l2 x16 kj18 j x19 = some r) (fun (xL : St × Int × Nat) => match xL with | (sl, x19, j) => j) (s27, 1, FU) ⟨rfl, rfl, rfl, rfl, rfl, rfl, trivial⟩ ⟨(by first | rfl | (simp <;> rfl)), trivial⟩ ⟨rfl, (Step.refl _).of0 (by first | exact fun _ h => h | (intro c h; simp [KC, KO, KU, KN, KB] at h <;> omega)), h⟩ ?_
              rintro ⟨s31, x19, j⟩ wL ⟨rfl, hE30, h⟩
              cases j with
              | zero => rw [law05_DiskNames_l2] at h; exact (noneNe h).elim
              | succ j =>
              rw [law05_DiskNames_l2] at h
              have szs31 := hE30.size
              have hS : Step K0 s s31 := hS.trans0 hE30
              have hE29 : Step K0 s27 s31 := hE29.trans0 hE30
              replace h27_0 := h27_0.up2 hE30
              refine k_seq ?_
              refine k_seq ?_
              refine k_region ?_
              refine k_move rfl rfl ?_
              refine k_move rfl rfl ?_
              refine k_len Tryd.underlying46 rfl (SL.of_R h27_0).hasLen rfl ?_
              refine k_as (v := .int .i64 (x16.length : Int)) (by simp only [List.length_map]) ?_
              refine k_lss rfl rfl rfl ?_
              refine k_nil ?_
              refine k_keep [(2, _), (3, _), (8, _), (9, _), (12, _), (13, _), (14, _), (73, _)] ⟨rfl, rfl, rfl, rfl, rfl, rfl, rfl, rfl, trivial⟩ ?_
              refine k_cond_dec rfl (fun c32 => ?_) (fun c32 => ?_)
              · -- T
                have h := itT h c32
                refine k_skip ?_
                refine k_seq ?_
                refine k_block ?_
                refine k_seq ?_
                refine k_keep [(2, _), (3, _), (8, _), (9, _), (12, _), (13, _), (14, _)] ⟨rfl, rfl, rfl, rfl, rfl, rfl, rfl, trivial⟩ ?_
                refine k_drawT (KN s31.n) 9 (.read 0 (.read 1 (.read 2 (.read 3 (.read 4 (.read 5 (.read 6 (.read 7 (.read 8 .fin))))))))) mixed (by intro c h; (try simp only [KC, KO, KU, KN, KB] at h) <;> omega) rfl rfl rfl ?_
                intro s33 st33
                have szs33 := st33.size
                have hS : Step K0 s s33 := hS.trans0 st33
                have hE29 : Step K0 s27 s33 := hE29.trans0 st33
                have hE30 : Step K0 s27 s33 := hE30.trans0 st33
                replace h27_0 := h27_0.up2 st33
                refine rt_read (v27_0) rfl rfl (fun s34 st34 => ?_) ?_
                · refine k_move rfl rfl ?_
                  exact fq_end
                refine rt_read (.int .i64 x19) rfl rfl (fun s35 st35 => ?_) ?_
                · refine k_move rfl rfl ?_
                  exact fq_end
                refine rt_read (.int .i64 (i64 (x19 - 1))) rfl rfl (fun s36 st36 => ?_) ?_
                · refine k_sub_ rfl rfl rfl ?_
                  exact fq_end
                obtain ⟨x20, hx20, h⟩ := ob h
                refine rt_ix rfl (wanted_none rfl) Tryd.underlying46 size9 rfl rfl (SL.of_R h27_0) (geti_out hx20).1 (geti_map hx20) rfl ?_
                intro q37 hq37
                refine rt_read (S x20) rfl rfl (fun s38 st38 => ?_) ?_
                · try replace hq37 := hq37.up2 st38
                  refine k_load_val one9 rfl hq37 rfl ?_
                  exact fq_end
                refine rt_read (v27_0) rfl rfl (fun s39 st39 => ?_) ?_
                · refine k_move rfl rfl ?_
                  exact fq_end
                refine rt_read (.int .i64 x19) rfl rfl (fun s40 st40 => ?_) ?_
                · refine k_move rfl rfl ?_
                  exact fq_end
                obtain ⟨x21, hx21, h⟩ := ob h
                refine rt_ix rfl (wanted_none rfl) Tryd.underlying46 size9 rfl rfl (SL.of_R h27_0) (geti_out hx21).1 (geti_map hx21) rfl ?_
                intro q41 hq41
                refine rt_read (S x21) rfl rfl (fun s42 st42 => ?_) ?_
                · try replace hq41 := hq41.up2 st42
                  refine k_load_val one9 rfl hq41 rfl ?_
                  exact fq_end
                refine rt_fin ?_
                refine k_geq_str rfl rfl rfl ?_
                refine k_nil ?_
                refine k_keep [(2, _), (3, _), (8, _), (9, _), (12, _), (13, _), (14, _), (85, _)] ⟨rfl, rfl, rfl, rfl, rfl, rfl, rfl, rfl, trivial⟩ ?_
                refine k_cond rfl (fun c43 => ?_) (fun c43 => ?_)
                · -- T
                  have h := ibT h c43
                  refine k_seq ?_
                  refine k_region ?_
                  refine k_assign rfl rfl ?_
                  refine k_nil ?_
                  refine k_keep [(2, _), (3, _), (8, _), (9, _), (12, _), (13, _), (14, _)] ⟨rfl, rfl, rfl, rfl, rfl, rfl, rfl, trivial⟩ ?_
                  refine k_ret ?_
                  obtain rfl := Option.some.inj h
                  refine ⟨_, rfl, Ret.mk hS ?_⟩
                  exact rfl
                · -- F
                  have h := ibF h c43
                  refine k_skip ?_
                  refine k_blk ?_
                  refine k_region ?_
                  refine k_move rfl rfl ?_
                  refine k_add rfl rfl rfl ?_
                  refine k_assign rfl rfl ?_
                  refine k_nil ?_
                  exact k_stop ⟨(s33, i64 (x19 + 1), j), ⟨(by first | rfl | (simp <;> rfl)), trivial⟩, ⟨rfl, rfl, rfl, rfl, rfl, rfl, trivial⟩, ⟨rfl, hE30, h⟩, (by simp)⟩
              · -- F
                have h := itF h c32
                refine k_exit rfl ?_
                exact k_stop ⟨s31, trivial, ⟨rfl, rfl, rfl, rfl, rfl, rfl, trivial⟩, ⟨rfl, hE29, h⟩⟩
            · -- behind
              rintro s44 wL ⟨rfl, hE29, h⟩
              rw [hK29] at h
              have szs44 := hE29.size
              have hS : Step K0 s s44 := hS.trans0 hE29
              replace h27_0 := h27_0.up2 hE29
              replace h1_0 := h1_0.up2 hE29
              replace h26_0 := h26_0.up2 hE29
              refine k_seq ?_
              refine k_region ?_
              refine k_move rfl rfl ?_
              refine k_move rfl rfl ?_
              obtain ⟨x22, hx22, h⟩ := ob h
              refine k_call cal27 rfl (disk_Disk_Read_w  h1_0 hx22) rfl ?_
              rintro s45 vr45 st45 ⟨v45_0, rfl, h45_0⟩
              have szs45 := st45.size
              have hS : Step K0 s s45 := hS.trans0 st45
              replace h27_0 := h27_0.up2 st45
              replace h1_0 := h1_0.up2 st45
              replace h26_0 := h26_0.up2 st45
              refine k_move rfl rfl ?_
              refine k_extract rfl rfl rfl ?_
              refine k_extract rfl rfl rfl ?_
              refine k_assign rfl rfl ?_
              refine k_assign rfl rfl ?_
              refine k_nil ?_
              refine k_keep [(2, _), (3, _), (8, _), (9, _), (12, _), (13, _), (15, _), (16, _)] ⟨rfl, rfl, rfl, rfl, rfl, rfl, rfl, rfl, trivial⟩ ?_
              refine k_seq ?_
              refine k_region ?_
              refine k_move rfl rfl ?_
              refine k_move rfl rfl ?_
              obtain ⟨x23, hx23, h⟩ := ob h
              refine k_call cal27 rfl (disk_Disk_Read_w  h1_0 hx23) rfl ?_
              rintro s46 vr46 st46 ⟨v46_0, rfl, h46_0⟩
              have szs46 := st46.size
              have hS : Step K0 s s46 := hS.trans0 st46
              replace h27_0 := h27_0.up2 st46
              replace h45_0 := h45_0.up2 st46
              replace h1_0 := h1_0.up2 st46
              replace h26_0 := h26_0.up2 st46
              refine k_move rfl rfl ?_
              refine k_extract rfl rfl rfl ?_
              refine k_extract rfl rfl rfl ?_
              refine k_assign rfl rfl ?_
              refine k_assign rfl rfl ?_
              refine k_nil ?_
              refine k_keep [(2, _), (3, _), (8, _), (9, _), (12, _), (13, _), (15, _), (16, _), (18, _)] ⟨rfl, rfl, rfl, rfl, rfl, rfl, rfl, rfl, rfl, trivial⟩ ?_
              refine k_seq ?_
              refine k_region ?_
              refine k_move rfl rfl ?_
              refine k_move rfl rfl ?_
              refine k_move rfl rfl ?_
              obtain ⟨x24, hx24, h⟩ := ob h
              refine k_call cal29 rfl (disk_Disk_Rename_w  h1_0 hx24) rfl ?_
              rintro s47 vr47 st47 ⟨rfl, h1_0⟩
              have szs47 := st47.size
              have hS : Step K0 s s47 := hS.comp st47 (by intro l hl hk; (try simp only [KC, KO, KU, KN, K0, KB] at hk ⊢) <;> omega)
              replace h27_0 := h27_0.up2 st47
              replace h45_0 := h45_0.up2 st47
              replace h26_0 := h26_0.up2 st47
              refine k_assign rfl rfl ?_
              refine k_nil ?_
              refine k_keep [(2, _), (3, _), (8, _), (9, _), (12, _), (13, _), (15, _), (16, _), (18, _), (19, _)] ⟨rfl, rfl, rfl, rfl, rfl, rfl, rfl, rfl, rfl, rfl, trivial⟩ ?_
              refine k_seq ?_
              refine k_seq ?_
              refine k_region ?_
              refine k_move rfl rfl ?_
              refine k_neq rfl rfl rfl ?_
              refine k_nil ?_
              refine k_keep [(2, _), (3, _), (8, _), (9, _), (12, _), (13, _), (15, _), (16, _), (18, _), (103, _)] ⟨rfl, rfl, rfl, rfl, rfl, rfl, rfl, rfl, rfl, rfl, trivial⟩ ?_
              refine k_cond_dec rfl (fun c48 => ?_) (fun c48 => ?_)
              · -- T
                have h := itT h c48
                refine k_seq ?_
                refine k_region ?_
                refine k_move rfl rfl ?_
                refine k_move rfl rfl ?_
                obtain ⟨x25, hx25, h⟩ := ob h
                refine k_call cal20 rfl (law05_alike_w  h26_0 h1_0 hx25) rfl ?_
                rintro s49 vr49 st49 rfl
                have szs49 := st49.size
                have hS : Step K0 s s49 := hS.trans0 st49
                refine k_move rfl rfl ?_
                have hE50 : Step K0 s49 s49 := (Step.refl _).of0 (by first | exact fun _ h => h | (intro c h; simp [KC, KO, KU, KN, KB] at h <;> omega))
                refine k_cutl (X := St) 7 [(2, S a2), (3, S a3), (8, .bool false), (9, v1_0), (12, v26_0), (13, v27_0), (15, v45_0), (16, .int .i64 x22.2), (18, .int .i64 x23.2), (103, .bool (decide (x24.1 ≠ 0))), (104, v26_0), (105, v1_0), (106, .bool x25)] (fun _ => [(114, .bool (decide ((x25 = true) ∧ ((x22.2 ≠ 0) ∨ (x23.2 = 1)))))]) (fun sl wL => sl.w = wL ∧ Step K0 s49 sl) ?_ ?_
                · -- the ways
                  refine k_again 107 rfl ?_
                  refine k_splitb (fun c51 => ?_) (fun c51 => ?_)
                  · -- t107 True
                    refine k_yes rfl rfl ?_
                    refine k_move rfl rfl ?_
                    refine k_yes rfl rfl ?_
                    refine k_neq rfl rfl rfl ?_
                    refine k_yes rfl rfl ?_
                    refine k_move rfl rfl ?_
                    have hE52 : Step K0 s49 s49 := (Step.refl _).of0 (by first | exact fun _ h => h | (intro c h; simp [KC, KO, KU, KN, KB] at h <;> omega))
                    refine k_cutl (X := St) 3 [(2, S a2), (3, S a3), (8, .bool false), (9, v1_0), (12, v26_0), (13, v27_0), (15, v45_0), (16, .int .i64 x22.2), (18, .int .i64 x23.2), (103, .bool (decide (x24.1 ≠ 0))), (104, v26_0), (105, v1_0), (106, .bool x25), (107, .bool true), (108, .int .i64 x22.2), (109, .bool (decide (x22.2 ≠ 0)))] (fun _ => [(113, .bool (decide ((x22.2 ≠ 0) ∨ (x23.2 = 1))))]) (fun sl wL => sl.w = wL ∧ Step K0 s49 sl) ?_ ?_
                    · -- the ways
                      refine k_again 110 rfl ?_
                      refine k_split (fun c53 => ?_) (fun c53 => ?_)
                      · -- t110 True
                        refine k_no rfl rfl rfl rfl ?_
                        refine k_no rfl rfl rfl rfl ?_
                        refine k_yes rfl rfl ?_
                        refine k_pickT rfl rfl rfl rfl ?_
                        exact k_met ⟨s49, ⟨(congrArg (fun b => some (Value.bool b)) (by first | exact decide_eq_decide.2 ⟨Or.inr, fun h => h.resolve_left c53⟩ | exact (decide_eq_true (Or.inl c53)).symm | (simp [c53]; done) | (simp [c53, i64] <;> omega))), trivial⟩, ⟨rfl, rfl, rfl, rfl, rfl, rfl, rfl, rfl, rfl, rfl, rfl, rfl, rfl, rfl, rfl, rfl, trivial⟩, rfl, hE52⟩
                      · -- t110 False
                        refine k_yes rfl rfl ?_
                        refine k_move rfl rfl ?_
                        refine k_yes rfl rfl ?_
                        refine k_eql rfl rfl rfl ?_
                        refine k_yes rfl rfl ?_
                        refine k_pickF rfl rfl rfl rfl ?_
                        exact k_met ⟨s49, ⟨(congrArg (fun b => some (Value.bool b)) (by first | exact decide_eq_decide.2 ⟨Or.inr, fun h => h.resolve_left c53⟩ | exact (decide_eq_true (Or.inl c53)).symm | (simp [c53]; done) | (simp [c53, i64] <;> omega))), trivial⟩, ⟨rfl, rfl, rfl, rfl, rfl, rfl, rfl, rfl, rfl, rfl, rfl, rfl, rfl, rfl, rfl, rfl, trivial⟩, rfl, hE52⟩
                    · -- behind
                      rintro s54 wL ⟨rfl, hE52⟩
                      have szs54 := hE52.size
                      have hS : Step K0 s s54 := hS.trans0 hE52
                      have hE50 : Step K0 s49 s54 := hE50.trans0 hE52
                      refine k_pickT rfl rfl rfl rfl ?_
                      exact k_met ⟨s54, ⟨(congrArg (fun b => some (Value.bool b)) (by first | exact decide_eq_decide.2 ⟨fun h => ⟨c51, h⟩, fun h => h.2⟩ | exact (decide_eq_false (fun h => c51 h.1)).symm | (simp [c51]; done) | (simp [c51, i64] <;> omega))), trivial⟩, ⟨rfl, rfl, rfl, rfl, rfl, rfl, rfl, rfl, rfl, rfl, rfl, rfl, rfl, trivial⟩, rfl, hE50⟩
                  · -- t107 False
                    refine k_no rfl rfl rfl rfl ?_
                    refine k_no rfl rfl rfl rfl ?_
                    refine k_no rfl rfl rfl rfl ?_
                    refine k_nou rfl rfl rfl rfl ?_
                    refine k_nou rfl rfl rfl rfl ?_
                    refine k_no rfl rfl rfl rfl ?_
                    refine k_pickF rfl rfl rfl rfl ?_
                    exact k_met ⟨s49, ⟨(congrArg (fun b => some (Value.bool b)) (by first | exact decide_eq_decide.2 ⟨fun h => ⟨c51, h⟩, fun h => h.2⟩ | exact (decide_eq_false (fun h => c51 h.1)).symm | (simp [c51]; done) | (simp [c51, i64] <;> omega))), trivial⟩, ⟨rfl, rfl, rfl, rfl, rfl, rfl, rfl, rfl, rfl, rfl, rfl, rfl, rfl, trivial⟩, rfl, hE50⟩
                · -- behind
                  rintro s55 wL ⟨rfl, hE50⟩
                  have szs55 := hE50.size
                  have hS : Step K0 s s55 := hS.trans0 hE50
                  refine k_move rfl rfl ?_
                  obtain ⟨x26, hx26, h⟩ := ob h
                  have hE56 : Step K0 s55 s55 := (Step.refl _).of0 (by first | exact fun _ h => h | (intro c h; simp [KC, KO, KU, KN, KB] at h <;> omega))
                  refine k_cutl (X := St) 2 [(2, S a2), (3, S a3), (8, .bool false), (9, v1_0), (12, v26_0), (13, v27_0), (15, v45_0), (16, .int .i64 x22.2), (18, .int .i64 x23.2), (103, .bool (decide (x24.1 ≠ 0))), (104, v26_0), (105, v1_0), (106, .bool x25), (114, .bool (decide ((x25 = true) ∧ ((x22.2 ≠ 0) ∨ (x23.2 = 1)))))] (fun _ => [(117, .bool x26)]) (fun sl wL => sl.w = wL ∧ Step K0 s55 sl) ?_ ?_
                  · -- the ways
                    refine k_again 115 rfl ?_
                    refine k_split (fun c57 => ?_) (fun c57 => ?_)
                    · -- t115 True
                      have hx26 := itT hx26 c57
                      refine k_yes rfl rfl ?_
                      obtain ⟨x27, hx27, hx26⟩ := ob hx26
                      refine k_call cal13 rfl (law05_awake_w   hx27) rfl ?_
                      rintro s58 vr58 st58 rfl
                      have szs58 := st58.size
                      have hS : Step K0 s s58 := hS.trans0 st58
                      have hE56 : Step K0 s55 s58 := hE56.trans0 st58
                      refine k_pickT rfl rfl rfl rfl ?_
                      exact k_met ⟨s58, ⟨(congrArg (fun b => some (Value.bool b)) (Option.some.inj hx26)), trivial⟩, ⟨rfl, rfl, rfl, rfl, rfl, rfl, rfl, rfl, rfl, rfl, rfl, rfl, rfl, rfl, trivial⟩, rfl, hE56⟩
                    · -- t115 False
                      have hx26 := itF hx26 c57
                      refine k_no rfl rfl rfl rfl ?_
                      refine k_pickF rfl rfl rfl rfl ?_
                      exact k_met ⟨s55, ⟨(congrArg (fun b => some (Value.bool b)) (Option.some.inj hx26)), trivial⟩, ⟨rfl, rfl, rfl, rfl, rfl, rfl, rfl, rfl, rfl, rfl, rfl, rfl, rfl, rfl, trivial⟩, rfl, hE56⟩
                  · -- behind
                    rintro s59 wL ⟨rfl, hE56⟩
                    have szs59 := hE56.size
                    have hS : Step K0 s s59 := hS.trans0 hE56
                    refine k_assign rfl rfl ?_
                    refine k_nil ?_
                    refine k_keep [(2, _), (3, _), (8, _), (9, _), (12, _), (13, _), (15, _), (16, _), (18, _)] ⟨rfl, rfl, rfl, rfl, rfl, rfl, rfl, rfl, rfl, trivial⟩ ?_
                    refine k_ret ?_
                    obtain rfl := Option.some.inj h
                    refine ⟨_, rfl, Ret.mk hS ?_⟩
                    exact rfl
              · -- F
                have h := itF h c48
                refine k_skip ?_
                refine k_seq ?_
                refine k_region ?_
                refine k_move rfl rfl ?_
                refine k_move rfl rfl ?_
                obtain ⟨x28, hx28, h⟩ := ob h
                refine k_call cal27 rfl (disk_Disk_Read_w  h1_0 hx28) rfl ?_
                rintro s60 vr60 st60 ⟨v60_0, rfl, h60_0⟩
                have szs60 := st60.size
                have hS : Step K0 s s60 := hS.trans0 st60
                replace h27_0 := h27_0.up2 st60
                replace h45_0 := h45_0.up2 st60
                replace h1_0 := h1_0.up2 st60
                replace h26_0 := h26_0.up2 st60
                refine k_move rfl rfl ?_
                refine k_extract rfl rfl rfl ?_
                refine k_extract rfl rfl rfl ?_
                refine k_assign rfl rfl ?_
                refine k_assign rfl rfl ?_
                refine k_nil ?_
                refine k_keep [(2, _), (3, _), (8, _), (9, _), (12, _), (13, _), (15, _), (16, _), (18, _), (20, _), (21, _)] ⟨rfl, rfl, rfl, rfl, rfl, rfl, rfl, rfl, rfl, rfl, rfl, trivial⟩ ?_
                refine k_seq ?_
                refine k_seq ?_
                refine k_region ?_
                refine k_move rfl rfl ?_
                refine k_neq rfl rfl rfl ?_
                refine k_move rfl rfl ?_
                have hE61 : Step K0 s60 s60 := (Step.refl _).of0 (by first | exact fun _ h => h | (intro c h; simp [KC, KO, KU, KN, KB] at h <;> omega))
                refine k_cutl (X := St) 3 [(2, S a2), (3, S a3), (8, .bool false), (9, v1_0), (12, v26_0), (13, v27_0), (15, v45_0), (16, .int .i64 x22.2), (18, .int .i64 x23.2), (20, v60_0), (21, .int .i64 x28.2), (124, .int .i64 x22.2), (125, .bool (decide (x22.2 ≠ 0)))] (fun _ => [(129, .bool (decide ((x22.2 ≠ 0) ∨ (x28.2 ≠ 0))))]) (fun sl wL => sl.w = wL ∧ Step K0 s60 sl) ?_ ?_
                · -- the ways
                  refine k_again 126 rfl ?_
                  refine k_split (fun c62 => ?_) (fun c62 => ?_)
                  · -- t126 True
                    refine k_no rfl rfl rfl rfl ?_
                    refine k_no rfl rfl rfl rfl ?_
                    refine k_pickT rfl rfl rfl rfl ?_
                    exact k_met ⟨s60, ⟨(congrArg (fun b => some (Value.bool b)) (by first | exact decide_eq_decide.2 ⟨Or.inr, fun h => h.resolve_left c62⟩ | exact (decide_eq_true (Or.inl c62)).symm | (simp [c62]; done) | (simp [c62, i64] <;> omega))), trivial⟩, ⟨rfl, rfl, rfl, rfl, rfl, rfl, rfl, rfl, rfl, rfl, rfl, rfl, rfl, trivial⟩, rfl, hE61⟩
                  · -- t126 False
                    refine k_yes rfl rfl ?_
                    refine k_move rfl rfl ?_
                    refine k_yes rfl rfl ?_
                    refine k_neq rfl rfl rfl ?_
                    refine k_pickF rfl rfl rfl rfl ?_
                    exact k_met ⟨s60, ⟨(congrArg (fun b => some (Value.bool b)) (by first | exact decide_eq_decide.2 ⟨Or.inr, fun h => h.resolve_left c62⟩ | exact (decide_eq_true (Or.inl c62)).symm | (simp [c62]; done) | (simp [c62, i64] <;> omega))), trivial⟩, ⟨rfl, rfl, rfl, rfl, rfl, rfl, rfl, rfl, rfl, rfl, rfl, rfl, rfl, trivial⟩, rfl, hE61⟩
                · -- behind
                  rintro s63 wL ⟨rfl, hE61⟩
                  have szs63 := hE61.size
                  have hS : Step K0 s s63 := hS.trans0 hE61
                  replace h27_0 := h27_0.up2 hE61
                  replace h45_0 := h45_0.up2 hE61
                  replace h60_0 := h60_0.up2 hE61
                  replace h1_0 := h1_0.up2 hE61
                  replace h26_0 := h26_0.up2 hE61
                  refine k_move rfl rfl ?_
                  have hE64 : Step K0 s63 s63 := (Step.refl _).of0 (by first | exact fun _ h => h | (intro c h; simp [KC, KO, KU, KN, KB] at h <;> omega))
                  refine k_cutl (X := St) 6 [(2, S a2), (3, S a3), (8, .bool false), (9, v1_0), (12, v26_0), (13, v27_0), (15, v45_0), (16, .int .i64 x22.2), (18, .int .i64 x23.2), (20, v60_0), (21, .int .i64 x28.2), (124, .int .i64 x22.2), (125, .bool (decide (x22.2 ≠ 0))), (129, .bool (decide ((x22.2 ≠ 0) ∨ (x28.2 ≠ 0))))] (fun _ => [(136, .bool (decide (((x22.2 ≠ 0) ∨ (x28.2 ≠ 0)) ∨ (x28.1 ≠ x22.1))))]) (fun sl wL => sl.w = wL ∧ Step K0 s63 sl) ?_ ?_
                  · -- the ways
                    refine k_again 130 rfl ?_
                    refine k_split (fun c65 => ?_) (fun c65 => ?_)
                    · -- t130 True
                      refine k_no rfl rfl rfl rfl ?_
                      refine k_no rfl rfl rfl rfl ?_
                      refine k_no rfl rfl rfl rfl ?_
                      refine k_no rfl rfl rfl rfl ?_
                      refine k_no rfl rfl rfl rfl ?_
                      refine k_pickT rfl rfl rfl rfl ?_
                      exact k_met ⟨s63, ⟨(congrArg (fun b => some (Value.bool b)) (by first | exact decide_eq_decide.2 ⟨Or.inr, fun h => h.resolve_left c65⟩ | exact (decide_eq_true (Or.inl c65)).symm | (simp [c65]; done) | (simp [c65, i64] <;> omega))), trivial⟩, ⟨rfl, rfl, rfl, rfl, rfl, rfl, rfl, rfl, rfl, rfl, rfl, rfl, rfl, rfl, trivial⟩, rfl, hE64⟩
                    · -- t130 False
                      refine k_yes rfl rfl ?_
                      refine k_move rfl rfl ?_
                      refine k_yes rfl rfl ?_
                      refine k_bts (m := x28.1) Tryd.underlying29 Tryd.underlying5 Tryd.underlying9 rfl (SL.of_R h60_0) rfl ?_
                      refine k_yes rfl rfl ?_
                      refine k_move rfl rfl ?_
                      refine k_yes rfl rfl ?_
                      refine k_bts (m := x22.1) Tryd.underlying29 Tryd.underlying5 Tryd.underlying9 rfl (SL.of_R h45_0) rfl ?_
                      refine k_yes rfl rfl ?_
                      refine k_neq_str rfl rfl rfl ?_
                      refine k_pickF rfl rfl rfl rfl ?_
                      exact k_met ⟨s63, ⟨(congrArg (fun b => some (Value.bool b)) (by first | exact decide_eq_decide.2 ⟨Or.inr, fun h => h.resolve_left c65⟩ | exact (decide_eq_true (Or.inl c65)).symm | (simp [c65]; done) | (simp [c65, i64] <;> omega))), trivial⟩, ⟨rfl, rfl, rfl, rfl, rfl, rfl, rfl, rfl, rfl, rfl, rfl, rfl, rfl, rfl, trivial⟩, rfl, hE64⟩
                  · -- behind
                    rintro s66 wL ⟨rfl, hE64⟩
                    have szs66 := hE64.size
                    have hS : Step K0 s s66 := hS.trans0 hE64
                    replace h27_0 := h27_0.up2 hE64
                    replace h1_0 := h1_0.up2 hE64
                    replace h26_0 := h26_0.up2 hE64
                    refine k_move rfl rfl ?_
                    obtain ⟨x29, hx29, h⟩ := ob h
                    have hE67 : Step K0 s66 s66 := (Step.refl _).of0 (by first | exact fun _ h => h | (intro c h; simp [KC, KO, KU, KN, KB] at h <;> omega))
                    refine k_cutl (X := St) 10 [(2, S a2), (3, S a3), (8, .bool false), (9, v1_0), (12, v26_0), (13, v27_0), (15, v45_0), (16, .int .i64 x22.2), (18, .int .i64 x23.2), (20, v60_0), (21, .int .i64 x28.2), (124, .int .i64 x22.2), (125, .bool (decide (x22.2 ≠ 0))), (129, .bool (decide ((x22.2 ≠ 0) ∨ (x28.2 ≠ 0)))), (136, .bool (decide (((x22.2 ≠ 0) ∨ (x28.2 ≠ 0)) ∨ (x28.1 ≠ x22.1))))] (fun _ => [(147, .bool x29)]) (fun sl wL => sl.w = wL ∧ Step K0 s66 sl) ?_ ?_
                    · -- the ways
                      refine k_again 137 rfl ?_
                      refine k_split (fun c68 => ?_) (fun c68 => ?_)
                      · -- t137 True
                        have hx29 := itT hx29 c68
                        refine k_no rfl rfl rfl rfl ?_
                        refine k_no rfl rfl rfl rfl ?_
                        refine k_no rfl rfl rfl rfl ?_
                        refine k_no rfl rfl rfl rfl ?_
                        refine k_nou rfl rfl rfl rfl ?_
                        refine k_nou rfl rfl rfl rfl ?_
                        refine k_nou rfl rfl rfl rfl ?_
                        refine k_nou rfl rfl rfl rfl ?_
                        refine k_no rfl rfl rfl rfl ?_
                        refine k_pickT rfl rfl rfl rfl ?_
                        exact k_met ⟨s66, ⟨(congrArg (fun b => some (Value.bool b)) (Option.some.inj hx29)), trivial⟩, ⟨rfl, rfl, rfl, rfl, rfl, rfl, rfl, rfl, rfl, rfl, rfl, rfl, rfl, rfl, rfl, trivial⟩, rfl, hE67⟩
                      · -- t137 False
                        have hx29 := itF hx29 c68
                        refine k_yes rfl rfl ?_
                        refine k_move rfl rfl ?_
                        refine k_yes rfl rfl ?_
                        refine k_move rfl rfl ?_
                        refine k_yes rfl rfl ?_
                        refine k_neq_str rfl rfl rfl ?_
                        refine k_yes rfl rfl ?_
                        refine k_move rfl rfl ?_
                        obtain ⟨x30, hx30, hx29⟩ := ob hx29
                        have hE69 : Step K0 s66 s66 := (Step.refl _).of0 (by first | exact fun _ h => h | (intro c h; simp [KC, KO, KU, KN, KB] at h <;> omega))
                        refine k_cutl (X := St) 5 [(2, S a2), (3, S a3), (8, .bool false), (9, v1_0), (12, v26_0), (13, v27_0), (15, v45_0), (16, .int .i64 x22.2), (18, .int .i64 x23.2), (20, v60_0), (21, .int .i64 x28.2), (124, .int .i64 x22.2), (125, .bool (decide (x22.2 ≠ 0))), (129, .bool (decide ((x22.2 ≠ 0) ∨ (x28.2 ≠ 0)))), (136, .bool (decide (((x22.2 ≠ 0) ∨ (x28.2 ≠ 0)) ∨ (x28.1 ≠ x22.1)))), (137, .bool false), (138, S a2), (139, S a3), (140, .bool (decide (a2 ≠ a3)))] (fun _ => [(146, .bool x30)]) (fun sl wL => sl.w = wL ∧ Step K0 s66 sl) ?_ ?_
                        · -- the ways
                          refine k_again 141 rfl ?_
                          refine k_split (fun c70 => ?_) (fun c70 => ?_)
                          · -- t141 True
                            have hx30 := itT hx30 c70
                            refine k_yes rfl rfl ?_
                            refine k_move rfl rfl ?_
                            refine k_yes rfl rfl ?_
                            refine k_move rfl rfl ?_
                            refine k_yes rfl rfl ?_
                            obtain ⟨x31, hx31, hx30⟩ := ob hx30
                            refine k_call cal30 rfl (disk_Disk_Size_w  h1_0 hx31) rfl ?_
                            rintro s71 vr71 st71 rfl
                            have szs71 := st71.size
                            have hS : Step K0 s s71 := hS.trans0 st71
                            have hE67 : Step K0 s66 s71 := hE67.trans0 st71
                            have hE69 : Step K0 s66 s71 := hE69.trans0 st71
                            refine k_yes rfl rfl ?_
                            refine k_neq rfl rfl rfl ?_
                            refine k_yes rfl rfl ?_
                            refine k_pickT rfl rfl rfl rfl ?_
                            exact k_met ⟨s71, ⟨(congrArg (fun b => some (Value.bool b)) (Option.some.inj hx30)), trivial⟩, ⟨rfl, rfl, rfl, rfl, rfl, rfl, rfl, rfl, rfl, rfl, rfl, rfl, rfl, rfl, rfl, rfl, rfl, rfl, rfl, trivial⟩, rfl, hE69⟩
                          · -- t141 False
                            have hx30 := itF hx30 c70
                            refine k_no rfl rfl rfl rfl ?_
                            refine k_no rfl rfl rfl rfl ?_
                            refine k_no rfl rfl rfl rfl ?_
                            refine k_no rfl rfl rfl rfl ?_
                            refine k_yes rfl rfl ?_
                            refine k_pickF rfl rfl rfl rfl ?_
                            exact k_met ⟨s66, ⟨(congrArg (fun b => some (Value.bool b)) (Option.some.inj hx30)), trivial⟩, ⟨rfl, rfl, rfl, rfl, rfl, rfl, rfl, rfl, rfl, rfl, rfl, rfl, rfl, rfl, rfl, rfl, rfl, rfl, rfl, trivial⟩, rfl, hE69⟩
                        · -- behind
                          rintro s72 wL ⟨rfl, hE69⟩
                          have szs72 := hE69.size
                          have hS : Step K0 s s72 := hS.trans0 hE69
                          have hE67 : Step K0 s66 s72 := hE67.trans0 hE69
                          refine k_pickF rfl rfl rfl rfl ?_
                          exact k_met ⟨s72, ⟨(congrArg (fun b => some (Value.bool b)) (Option.some.inj hx29)), trivial⟩, ⟨rfl, rfl, rfl, rfl, rfl, rfl, rfl, rfl, rfl, rfl, rfl, rfl, rfl, rfl, rfl, trivial⟩, rfl, hE67⟩
                    · -- behind
                      rintro s73 wL ⟨rfl, hE67⟩
                      have szs73 := hE67.size
                      have hS : Step K0 s s73 := hS.trans0 hE67
                      replace h27_0 := h27_0.up2 hE67
                      replace h1_0 := h1_0.up2 hE67
                      replace h26_0 := h26_0.up2 hE67
                      refine k_nil ?_
                      refine k_keep [(2, _), (3, _), (8, _), (9, _), (12, _), (13, _), (18, _), (147, _)] ⟨rfl, rfl, rfl, rfl, rfl, rfl, rfl, rfl, trivial⟩ ?_
                      refine k_cond rfl (fun c74 => ?_) (fun c74 => ?_)
                      · -- T
                        have h := ibT h c74
                        refine k_seq ?_
                        refine k_region ?_
                        refine k_assign rfl rfl ?_
                        refine k_nil ?_
                        refine k_keep [(2, _), (3, _), (8, _), (9, _), (12, _), (13, _), (18, _)] ⟨rfl, rfl, rfl, rfl, rfl, rfl, rfl, trivial⟩ ?_
                        refine k_ret ?_
                        obtain rfl := Option.some.inj h
                        refine ⟨_, rfl, Ret.mk hS ?_⟩
                        exact rfl
                      · -- F
                        have h := ibF h c74
                        refine k_skip ?_
                        refine k_seq ?_
                        refine k_seq ?_
                        refine k_region ?_
                        refine k_move rfl rfl ?_
                        refine k_eql rfl rfl rfl ?_
                        refine k_nil ?_
                        refine k_keep [(2, _), (3, _), (8, _), (9, _), (12, _), (13, _), (149, _)] ⟨rfl, rfl, rfl, rfl, rfl, rfl, rfl, trivial⟩ ?_
                        refine k_cond_dec rfl (fun c75 => ?_) (fun c75 => ?_)
                        · -- T
                          have h := itT h c75
                          refine k_seq ?_
                          refine k_region ?_
                          refine k_move rfl rfl ?_
                          refine k_move rfl rfl ?_
                          refine k_move rfl rfl ?_
                          obtain ⟨x32, hx32, h⟩ := ob h
                          refine k_call cal29 rfl (disk_Disk_Rename_w  h1_0 hx32) rfl ?_
                          rintro s76 vr76 st76 ⟨rfl, h1_0⟩
                          have szs76 := st76.size
                          have hS : Step K0 s s76 := hS.comp st76 (by intro l hl hk; (try simp only [KC, KO, KU, KN, K0, KB] at hk ⊢) <;> omega)
                          replace h26_0 := h26_0.up2 st76
                          refine k_eql rfl rfl rfl ?_
                          refine k_move rfl rfl ?_
                          obtain ⟨x33, hx33, h⟩ := ob h
                          have hE77 : Step K0 s76 s76 := (Step.refl _).of0 (by first | exact fun _ h => h | (intro c h; simp [KC, KO, KU, KN, KB] at h <;> omega))
                          refine k_cutl (X := St) 4 [(2, S a2), (3, S a3), (8, .bool false), (9, v1_0), (12, v26_0), (13, v27_0), (149, .bool (decide (x23.2 = 4))), (150, v1_0), (151, S a3), (152, S a2), (153, .int .i64 x32.1), (154, .bool (decide (x32.1 = 0)))] (fun _ => [(159, .bool x33)]) (fun sl wL => sl.w = wL ∧ Step K0 s76 sl) ?_ ?_
                          · -- the ways
                            refine k_again 155 rfl ?_
                            refine k_split (fun c78 => ?_) (fun c78 => ?_)
                            · -- t155 True
                              have hx33 := itT hx33 c78
                              refine k_yes rfl rfl ?_
                              refine k_move rfl rfl ?_
                              refine k_yes rfl rfl ?_
                              refine k_move rfl rfl ?_
                              refine k_yes rfl rfl ?_
                              obtain ⟨x34, hx34, hx33⟩ := ob hx33
                              refine k_call cal20 rfl (law05_alike_w  h26_0 h1_0 hx34) rfl ?_
                              rintro s79 vr79 st79 rfl
                              have szs79 := st79.size
                              have hS : Step K0 s s79 := hS.trans0 st79
                              have hE77 : Step K0 s76 s79 := hE77.trans0 st79
                              refine k_pickT rfl rfl rfl rfl ?_
                              exact k_met ⟨s79, ⟨(congrArg (fun b => some (Value.bool b)) (Option.some.inj hx33)), trivial⟩, ⟨rfl, rfl, rfl, rfl, rfl, rfl, rfl, rfl, rfl, rfl, rfl, rfl, trivial⟩, rfl, hE77⟩
                            · -- t155 False
                              have hx33 := itF hx33 c78
                              refine k_no rfl rfl rfl rfl ?_
                              refine k_no rfl rfl rfl rfl ?_
                              refine k_no rfl rfl rfl rfl ?_
                              refine k_pickF rfl rfl rfl rfl ?_
                              exact k_met ⟨s76, ⟨(congrArg (fun b => some (Value.bool b)) (Option.some.inj hx33)), trivial⟩, ⟨rfl, rfl, rfl, rfl, rfl, rfl, rfl, rfl, rfl, rfl, rfl, rfl, trivial⟩, rfl, hE77⟩
                          · -- behind
                            rintro s80 wL ⟨rfl, hE77⟩
                            have szs80 := hE77.size
                            have hS : Step K0 s s80 := hS.trans0 hE77
                            refine k_move rfl rfl ?_
                            obtain ⟨x35, hx35, h⟩ := ob h
                            have hE81 : Step K0 s80 s80 := (Step.refl _).of0 (by first | exact fun _ h => h | (intro c h; simp [KC, KO, KU, KN, KB] at h <;> omega))
                            refine k_cutl (X := St) 2 [(2, S a2), (3, S a3), (8, .bool false), (9, v1_0), (12, v26_0), (13, v27_0), (149, .bool (decide (x23.2 = 4))), (150, v1_0), (151, S a3), (152, S a2), (153, .int .i64 x32.1), (154, .bool (decide (x32.1 = 0))), (159, .bool x33)] (fun _ => [(162, .bool x35)]) (fun sl wL => sl.w = wL ∧ Step K0 s80 sl) ?_ ?_
                            · -- the ways
                              refine k_again 160 rfl ?_
                              refine k_splitb (fun c82 => ?_) (fun c82 => ?_)
                              · -- t160 True
                                have hx35 := ibT hx35 c82
                                refine k_yes rfl rfl ?_
                                obtain ⟨x36, hx36, hx35⟩ := ob hx35
                                refine k_call cal13 rfl (law05_awake_w   hx36) rfl ?_
                                rintro s83 vr83 st83 rfl
                                have szs83 := st83.size
                                have hS : Step K0 s s83 := hS.trans0 st83
                                have hE81 : Step K0 s80 s83 := hE81.trans0 st83
                                refine k_pickT rfl rfl rfl rfl ?_
                                exact k_met ⟨s83, ⟨(congrArg (fun b => some (Value.bool b)) (Option.some.inj hx35)), trivial⟩, ⟨rfl, rfl, rfl, rfl, rfl, rfl, rfl, rfl, rfl, rfl, rfl, rfl, rfl, trivial⟩, rfl, hE81⟩
                              · -- t160 False
                                have hx35 := ibF hx35 c82
                                refine k_no rfl rfl rfl rfl ?_
                                refine k_pickF rfl rfl rfl rfl ?_
                                exact k_met ⟨s80, ⟨(congrArg (fun b => some (Value.bool b)) (Option.some.inj hx35)), trivial⟩, ⟨rfl, rfl, rfl, rfl, rfl, rfl, rfl, rfl, rfl, rfl, rfl, rfl, rfl, trivial⟩, rfl, hE81⟩
                            · -- behind
                              rintro s84 wL ⟨rfl, hE81⟩
                              have szs84 := hE81.size
                              have hS : Step K0 s s84 := hS.trans0 hE81
                              refine k_assign rfl rfl ?_
                              refine k_nil ?_
                              refine k_keep [(2, _), (3, _), (8, _), (9, _), (13, _)] ⟨rfl, rfl, rfl, rfl, rfl, trivial⟩ ?_
                              refine k_ret ?_
                              obtain rfl := Option.some.inj h
                              refine ⟨_, rfl, Ret.mk hS ?_⟩
                              exact rfl
                        · -- F
                          have h := itF h c75
                          refine k_skip ?_
                          refine k_seq ?_
                          refine k_region ?_
                          refine k_move rfl rfl ?_
                          obtain ⟨x37, hx37, h⟩ := ob h
                          refine k_call cal26 rfl (disk_Disk_Names_w  h1_0 hx37) rfl ?_
                          rintro s85 v85_0 st85 ⟨_, rfl, h85_0⟩
                          have szs85 := st85.size
                          have hS : Step K0 s s85 := hS.trans0 st85
                          replace h27_0 := h27_0.up2 st85
                          replace h1_0 := h1_0.up2 st85
                          refine k_len Tryd.underlying46 rfl (SL.of_R h85_0).hasLen rfl ?_
                          refine k_as (v := .int .i64 (x37.length : Int)) (by simp only [List.length_map]) ?_
                          refine k_move rfl rfl ?_
                          refine k_len Tryd.underlying46 rfl (SL.of_R h27_0).hasLen rfl ?_
                          refine k_as (v := .int .i64 (x16.length : Int)) (by simp only [List.length_map]) ?_
                          refine k_eql rfl rfl rfl ?_
                          refine k_move rfl rfl ?_
                          obtain ⟨x38, hx38, h⟩ := ob h
                          have hE86 : Step K0 s85 s85 := (Step.refl _).of0 (by first | exact fun _ h => h | (intro c h; simp [KC, KO, KU, KN, KB] at h <;> omega))
                          refine k_cutl (X := St) 13 [(2, S a2), (3, S a3), (8, .bool false), (9, v1_0), (12, v26_0), (13, v27_0), (149, .bool (decide (x23.2 = 4))), (163, v1_0), (164, v85_0), (165, .int .i64 (x37.length : Int)), (166, v27_0), (167, .int .i64 (x16.length : Int)), (168, .bool (decide ((x37.length : Int) = (x16.length : Int))))] (fun _ => [(182, .bool x38)]) (fun sl wL => sl.w = wL ∧ Step K0 s85 sl) ?_ ?_
                          · -- the ways
                            refine k_again 169 rfl ?_
                            refine k_split (fun c87 => ?_) (fun c87 => ?_)
                            · -- t169 True
                              have hx38 := itT hx38 c87
                              refine k_no rfl rfl rfl rfl ?_
                              refine k_no rfl rfl rfl rfl ?_
                              refine k_no rfl rfl rfl rfl ?_
                              refine k_no rfl rfl rfl rfl ?_
                              refine k_nou rfl rfl rfl rfl ?_
                              refine k_nou rfl rfl rfl rfl ?_
                              refine k_nou rfl rfl rfl rfl ?_
                              refine k_nou rfl rfl rfl rfl ?_
                              refine k_nou rfl rfl rfl rfl ?_
                              refine k_nou rfl rfl rfl rfl ?_
                              refine k_nou rfl rfl rfl rfl ?_
                              refine k_no rfl rfl rfl rfl ?_
                              refine k_pickT rfl rfl rfl rfl ?_
                              exact k_met ⟨s85, ⟨(congrArg (fun b => some (Value.bool b)) (Option.some.inj hx38)), trivial⟩, ⟨rfl, rfl, rfl, rfl, rfl, rfl, rfl, rfl, rfl, rfl, rfl, rfl, rfl, trivial⟩, rfl, hE86⟩
                            · -- t169 False
                              have hx38 := itF hx38 c87
                              refine k_yes rfl rfl ?_
                              refine k_move rfl rfl ?_
                              refine k_yes rfl rfl ?_
                              refine k_move rfl rfl ?_
                              refine k_yes rfl rfl ?_
                              refine k_neq_str rfl rfl rfl ?_
                              refine k_yes rfl rfl ?_
                              refine k_move rfl rfl ?_
                              obtain ⟨x39, hx39, hx38⟩ := ob hx38
                              have hE88 : Step K0 s85 s85 := (Step.refl _).of0 (by first | exact fun _ h => h | (intro c h; simp [KC, KO, KU, KN, KB] at h <;> omega))
                              refine k_cutl (X := St) 8 [(2, S a2), (3, S a3), (8, .bool false), (9, v1_0), (12, v26_0), (13, v27_0), (149, .bool (decide (x23.2 = 4))), (163, v1_0), (164, v85_0), (165, .int .i64 (x37.length : Int)), (166, v27_0), (167, .int .i64 (x16.length : Int)), (168, .bool (decide ((x37.length : Int) = (x16.length : Int)))), (169, .bool false), (170, S a2), (171, S a3), (172, .bool (decide (a2 ≠ a3)))] (fun _ => [(181, .bool x39)]) (fun sl wL => sl.w = wL ∧ Step K0 s85 sl) ?_ ?_
                              · -- the ways
                                refine k_again 173 rfl ?_
                                refine k_split (fun c89 => ?_) (fun c89 => ?_)
                                · -- t173 True
                                  have hx39 := itT hx39 c89
                                  refine k_yes rfl rfl ?_
                                  refine k_move rfl rfl ?_
                                  refine k_yes rfl rfl ?_
                                  obtain ⟨x40, hx40, hx39⟩ := ob hx39
                                  refine k_call cal26 rfl (disk_Disk_Names_w  h1_0 hx40) rfl ?_
                                  rintro s90 v90_0 st90 ⟨_, rfl, h90_0⟩
                                  have szs90 := st90.size
                                  have hS : Step K0 s s90 := hS.trans0 st90
                                  have hE86 : Step K0 s85 s90 := hE86.trans0 st90
                                  have hE88 : Step K0 s85 s90 := hE88.trans0 st90
                                  replace h27_0 := h27_0.up2 st90
                                  refine k_yes rfl rfl ?_
                                  refine k_len Tryd.underlying46 rfl (SL.of_R h90_0).hasLen rfl ?_
                                  refine k_as (v := .int .i64 (x40.length : Int)) (by simp only [List.length_map]) ?_
                                  refine k_yes rfl rfl ?_
                                  refine k_move rfl rfl ?_
                                  refine k_yes rfl rfl ?_
                                  refine k_len Tryd.underlying46 rfl (SL.of_R h27_0).hasLen rfl ?_
                                  refine k_as (v := .int .i64 (x16.length : Int)) (by simp only [List.length_map]) ?_
                                  refine k_yes rfl rfl ?_
                                  refine k_sub_ rfl rfl rfl ?_
                                  refine k_yes rfl rfl ?_
                                  refine k_eql rfl rfl rfl ?_
                                  refine k_yes rfl rfl ?_
                                  refine k_pickT rfl rfl rfl rfl ?_
                                  exact k_met ⟨s90, ⟨(congrArg (fun b => some (Value.bool b)) (Option.some.inj hx39)), trivial⟩, ⟨rfl, rfl, rfl, rfl, rfl, rfl, rfl, rfl, rfl, rfl, rfl, rfl, rfl, rfl, rfl, rfl, rfl, trivial⟩, rfl, hE88⟩
                                · -- t173 False
                                  have hx39 := itF hx39 c89
                                  refine k_no rfl rfl rfl rfl ?_
                                  refine k_no rfl rfl rfl rfl ?_
                                  refine k_no rfl rfl rfl rfl ?_
                                  refine k_no rfl rfl rfl rfl ?_
                                  refine k_no rfl rfl rfl rfl ?_
                                  refine k_no rfl rfl rfl rfl ?_
                                  refine k_no rfl rfl rfl rfl ?_
                                  refine k_yes rfl rfl ?_
                                  refine k_pickF rfl rfl rfl rfl ?_
                                  exact k_met ⟨s85, ⟨(congrArg (fun b => some (Value.bool b)) (Option.some.inj hx39)), trivial⟩, ⟨rfl, rfl, rfl, rfl, rfl, rfl, rfl, rfl, rfl, rfl, rfl, rfl, rfl, rfl, rfl, rfl, rfl, trivial⟩, rfl, hE88⟩
                              · -- behind
                                rintro s91 wL ⟨rfl, hE88⟩
                                have szs91 := hE88.size
                                have hS : Step K0 s s91 := hS.trans0 hE88
                                have hE86 : Step K0 s85 s91 := hE86.trans0 hE88
                                refine k_pickF rfl rfl rfl rfl ?_
                                exact k_met ⟨s91, ⟨(congrArg (fun b => some (Value.bool b)) (Option.some.inj hx38)), trivial⟩, ⟨rfl, rfl, rfl, rfl, rfl, rfl, rfl, rfl, rfl, rfl, rfl, rfl, rfl, trivial⟩, rfl, hE86⟩
                          · -- behind
                            rintro s92 wL ⟨rfl, hE86⟩
                            have szs92 := hE86.size
                            have hS : Step K0 s s92 := hS.trans0 hE86
                            refine k_move rfl rfl ?_
                            obtain ⟨x41, hx41, h⟩ := ob h
                            have hE93 : Step K0 s92 s92 := (Step.refl _).of0 (by first | exact fun _ h => h | (intro c h; simp [KC, KO, KU, KN, KB] at h <;> omega))
                            refine k_cutl (X := St) 2 [(2, S a2), (3, S a3), (8, .bool false), (9, v1_0), (12, v26_0), (13, v27_0), (149, .bool (decide (x23.2 = 4))), (163, v1_0), (164, v85_0), (165, .int .i64 (x37.length : Int)), (166, v27_0), (167, .int .i64 (x16.length : Int)), (168, .bool (decide ((x37.length : Int) = (x16.length : Int)))), (182, .bool x38)] (fun _ => [(185, .bool x41)]) (fun sl wL => sl.w = wL ∧ Step K0 s92 sl) ?_ ?_
                            · -- the ways
                              refine k_again 183 rfl ?_
                              refine k_splitb (fun c94 => ?_) (fun c94 => ?_)
                              · -- t183 True
                                have hx41 := ibT hx41 c94
                                refine k_yes rfl rfl ?_
                                obtain ⟨x42, hx42, hx41⟩ := ob hx41
                                refine k_call cal13 rfl (law05_awake_w   hx42) rfl ?_
                                rintro s95 vr95 st95 rfl
                                have szs95 := st95.size
                                have hS : Step K0 s s95 := hS.trans0 st95
                                have hE93 : Step K0 s92 s95 := hE93.trans0 st95
                                refine k_pickT rfl rfl rfl rfl ?_
                                exact k_met ⟨s95, ⟨(congrArg (fun b => some (Value.bool b)) (Option.some.inj hx41)), trivial⟩, ⟨rfl, rfl, rfl, rfl, rfl, rfl, rfl, rfl, rfl, rfl, rfl, rfl, rfl, rfl, trivial⟩, rfl, hE93⟩
                              · -- t183 False
                                have hx41 := ibF hx41 c94
                                refine k_no rfl rfl rfl rfl ?_
                                refine k_pickF rfl rfl rfl rfl ?_
                                exact k_met ⟨s92, ⟨(congrArg (fun b => some (Value.bool b)) (Option.some.inj hx41)), trivial⟩, ⟨rfl, rfl, rfl, rfl, rfl, rfl, rfl, rfl, rfl, rfl, rfl, rfl, rfl, rfl, trivial⟩, rfl, hE93⟩
                            · -- behind
                              rintro s96 wL ⟨rfl, hE93⟩
                              have szs96 := hE93.size
                              have hS : Step K0 s s96 := hS.trans0 hE93
                              refine k_assign rfl rfl ?_
                              refine k_nil ?_
                              refine k_keep [(8, _)] ⟨rfl, trivial⟩ ?_
                              refine k_ret ?_
                              obtain rfl := Option.some.inj h
                              refine ⟨_, rfl, Ret.mk hS ?_⟩
                              exact rfl
end Go.Proofs
