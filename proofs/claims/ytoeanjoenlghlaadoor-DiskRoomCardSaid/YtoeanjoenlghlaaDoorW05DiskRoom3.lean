import Derived.Test.YtoeanjoenlghlaaDoorW05DiskRoom2
set_option linter.unusedSimpArgs false
set_option linter.unusedVariables false
namespace Go.Proofs
open Go.Fw
set_option maxHeartbeats 1000000 in
set_option maxRecDepth 100000 in
theorem law05_DiskRoom_w {s : St} {a0 : Int} {v1 : Value} {a1 : (List Law05Call)} {a2 : (List UInt8)} {l3 : Lab} {v3 : Value} {a3 : (List UInt8)} {r : Bool} (hp1 : R s v1 (.sl 7 (a1.map dLaw05Call))) (hp3 : SL s l3 v3 1 (a3.map bD)) (h : law05_DiskRoom a0 a1 a2 a3 = some r) : Calls Tryd.prog 8 #[.int .i64 a0, v1, S a2, v3] s.w (Ret s K0 (fun s1 v => v = .bool r)) := by
  unfold law05_DiskRoom at h
  obtain ⟨lf3, lf3le, lf3ne, hp3⟩ := hp3.fix
  have hS : Step K0 s s := (Step.refl _).of0 (by first | exact fun _ h => h | (intro c h; simp [KC, KO, KU, KN, KB] at h <;> omega))
  refine k_fn (rs := [8]) (args := [.int .i64 a0, v1, S a2, v3]) Tryd.func8 rfl rfl rfl rfl ?_
  refine k_seq ?_
  refine k_region ?_
  refine k_assign rfl rfl ?_
  refine k_nil ?_
  refine k_seq ?_
  refine k_region ?_
  refine k_move rfl rfl ?_
  obtain ⟨x1, hx1, h⟩ := ob h
  refine k_call cal11 rfl (disk_New_w   hx1) rfl ?_
  rintro s1 vr1 st1 ⟨ku1_0, v1_0, rfl, hk1_0, h1_0⟩
  have szs1 := st1.size
  have hS : Step K0 s s1 := hS.trans0 st1
  replace hp1 := hp1.up2 st1
  replace hp3 := hp3.up2 st1
  have ol1_0 := OptODiskDisk.le (k := ku1_0) h1_0
  refine k_move rfl rfl ?_
  refine k_extract rfl rfl rfl ?_
  refine k_extract rfl rfl rfl ?_
  refine k_assign rfl rfl ?_
  refine k_assign rfl rfl ?_
  refine k_nil ?_
  refine k_keep [(0, _), (1, _), (2, _), (3, _), (8, _), (9, _), (10, _)] ⟨rfl, rfl, rfl, rfl, rfl, rfl, rfl, trivial⟩ ?_
  refine k_seq ?_
  refine k_seq ?_
  refine k_region ?_
  refine k_move rfl rfl ?_
  refine k_neq rfl rfl rfl ?_
  refine k_move rfl rfl ?_
  obtain ⟨x2, hx2, h⟩ := ob h
  have hE2 : Step K0 s1 s1 := (Step.refl _).of0 (by first | exact fun _ h => h | (intro c h; simp [KC, KO, KU, KN, KB] at h <;> omega))
  refine k_cutl (X := St) 3 [(0, .int .i64 a0), (1, v1), (2, S a2), (3, v3), (8, .bool false), (9, v1_0), (10, .int .i64 x1.2), (21, .int .i64 x1.2), (22, .bool (decide (x1.2 ≠ 0)))] (fun _ => [(26, .bool x2)]) (fun sl wL => sl.w = wL ∧ Step K0 s1 sl) ?_ ?_
  · -- the ways
    refine k_again 23 rfl ?_
    refine k_split (fun c3 => ?_) (fun c3 => ?_)
    · -- t23 True
      have hx2 := itT hx2 c3
      refine k_no rfl rfl rfl rfl ?_
      refine k_no rfl rfl rfl rfl ?_
      refine k_pickT rfl rfl rfl rfl ?_
      exact k_met ⟨s1, ⟨(congrArg (fun b => some (Value.bool b)) (Option.some.inj hx2)), trivial⟩, ⟨rfl, rfl, rfl, rfl, rfl, rfl, rfl, rfl, rfl, trivial⟩, rfl, hE2⟩
    · -- t23 False
      have hx2 := itF hx2 c3
      refine k_yes rfl rfl ?_
      refine k_move rfl rfl ?_
      refine k_yes rfl rfl ?_
      obtain ⟨x3, hx3, hx2⟩ := ob hx2
      refine k_call cal12 rfl (law05_many_w  (SL.of_R hp1) hx3) rfl ?_
      rintro s4 vr4 st4 rfl
      have szs4 := st4.size
      have hS : Step K0 s s4 := hS.trans0 st4
      have hE2 : Step K0 s1 s4 := hE2.trans0 st4
      replace h1_0 : OptODiskDisk s4 ku1_0 v1_0 x1.1 := OptODiskDisk.up3 h1_0 ol1_0 st4
      refine k_pickF rfl rfl rfl rfl ?_
      exact k_met ⟨s4, ⟨(congrArg (fun b => some (Value.bool b)) (Option.some.inj hx2)), trivial⟩, ⟨rfl, rfl, rfl, rfl, rfl, rfl, rfl, rfl, rfl, trivial⟩, rfl, hE2⟩
  · -- behind
    rintro s5 wL ⟨rfl, hE2⟩
    have szs5 := hE2.size
    have hS : Step K0 s s5 := hS.trans0 hE2
    replace hp1 := hp1.up2 hE2
    replace hp3 := hp3.up2 hE2
    replace h1_0 : OptODiskDisk s5 ku1_0 v1_0 x1.1 := OptODiskDisk.up3 h1_0 ol1_0 hE2
    refine k_move rfl rfl ?_
    have hE6 : Step K0 s5 s5 := (Step.refl _).of0 (by first | exact fun _ h => h | (intro c h; simp [KC, KO, KU, KN, KB] at h <;> omega))
    refine k_cutl (X := St) 4 [(0, .int .i64 a0), (1, v1), (2, S a2), (3, v3), (8, .bool false), (9, v1_0), (10, .int .i64 x1.2), (21, .int .i64 x1.2), (22, .bool (decide (x1.2 ≠ 0))), (26, .bool x2)] (fun _ => [(31, .bool (decide ((x2 = true) ∨ (70000 < (a3.length : Int)))))]) (fun sl wL => sl.w = wL ∧ Step K0 s5 sl) ?_ ?_
    · -- the ways
      refine k_again 27 rfl ?_
      refine k_splitb (fun c7 => ?_) (fun c7 => ?_)
      · -- t27 True
        refine k_no rfl rfl rfl rfl ?_
        refine k_no rfl rfl rfl rfl ?_
        refine k_no rfl rfl rfl rfl ?_
        refine k_pickT rfl rfl rfl rfl ?_
        exact k_met ⟨s5, ⟨(congrArg (fun b => some (Value.bool b)) (by first | exact decide_eq_decide.2 ⟨Or.inr, fun h => h.resolve_left c7⟩ | exact (decide_eq_true (Or.inl c7)).symm | (simp [c7]; done) | (simp [c7, i64] <;> omega))), trivial⟩, ⟨rfl, rfl, rfl, rfl, rfl, rfl, rfl, rfl, rfl, rfl, trivial⟩, rfl, hE6⟩
      · -- t27 False
        refine k_yes rfl rfl ?_
        refine k_move rfl rfl ?_
        refine k_yes rfl rfl ?_
        refine k_len Tryd.underlying29 rfl hp3.hasLen rfl ?_
        refine k_as (v := .int .i64 (a3.length : Int)) (by simp only [List.length_map]) ?_
        refine k_yes rfl rfl ?_
        refine k_gtr rfl rfl rfl ?_
        refine k_pickF rfl rfl rfl rfl ?_
        exact k_met ⟨s5, ⟨(congrArg (fun b => some (Value.bool b)) (by first | exact decide_eq_decide.2 ⟨Or.inr, fun h => h.resolve_left c7⟩ | exact (decide_eq_true (Or.inl c7)).symm | (simp [c7]; done) | (simp [c7, i64] <;> omega))), trivial⟩, ⟨rfl, rfl, rfl, rfl, rfl, rfl, rfl, rfl, rfl, rfl, trivial⟩, rfl, hE6⟩
    · -- behind
      rintro s8 wL ⟨rfl, hE6⟩
      have szs8 := hE6.size
      have hS : Step K0 s s8 := hS.trans0 hE6
      replace hp1 := hp1.up2 hE6
      replace hp3 := hp3.up2 hE6
      replace h1_0 : OptODiskDisk s8 ku1_0 v1_0 x1.1 := OptODiskDisk.up3 h1_0 ol1_0 hE6
      refine k_move rfl rfl ?_
      have hE9 : Step K0 s8 s8 := (Step.refl _).of0 (by first | exact fun _ h => h | (intro c h; simp [KC, KO, KU, KN, KB] at h <;> omega))
      refine k_cutl (X := St) 4 [(0, .int .i64 a0), (1, v1), (2, S a2), (3, v3), (8, .bool false), (9, v1_0), (10, .int .i64 x1.2), (21, .int .i64 x1.2), (22, .bool (decide (x1.2 ≠ 0))), (26, .bool x2), (31, .bool (decide ((x2 = true) ∨ (70000 < (a3.length : Int)))))] (fun _ => [(36, .bool (decide (((x2 = true) ∨ (70000 < (a3.length : Int))) ∨ (100 < (a2.length : Int)))))]) (fun sl wL => sl.w = wL ∧ Step K0 s8 sl) ?_ ?_
      · -- the ways
        refine k_again 32 rfl ?_
        refine k_split (fun c10 => ?_) (fun c10 => ?_)
        · -- t32 True
          refine k_no rfl rfl rfl rfl ?_
          refine k_no rfl rfl rfl rfl ?_
          refine k_no rfl rfl rfl rfl ?_
          refine k_pickT rfl rfl rfl rfl ?_
          exact k_met ⟨s8, ⟨(congrArg (fun b => some (Value.bool b)) (by first | exact decide_eq_decide.2 ⟨Or.inr, fun h => h.resolve_left c10⟩ | exact (decide_eq_true (Or.inl c10)).symm | (simp [c10]; done) | (simp [c10, i64] <;> omega))), trivial⟩, ⟨rfl, rfl, rfl, rfl, rfl, rfl, rfl, rfl, rfl, rfl, rfl, trivial⟩, rfl, hE9⟩
        · -- t32 False
          refine k_yes rfl rfl ?_
          refine k_move rfl rfl ?_
          refine k_yes rfl rfl ?_
          refine k_len_str Tryd.underlying9 rfl rfl ?_
          refine k_yes rfl rfl ?_
          refine k_gtr rfl rfl rfl ?_
          refine k_pickF rfl rfl rfl rfl ?_
          exact k_met ⟨s8, ⟨(congrArg (fun b => some (Value.bool b)) (by first | exact decide_eq_decide.2 ⟨Or.inr, fun h => h.resolve_left c10⟩ | exact (decide_eq_true (Or.inl c10)).symm | (simp [c10]; done) | (simp [c10, i64] <;> omega))), trivial⟩, ⟨rfl, rfl, rfl, rfl, rfl, rfl, rfl, rfl, rfl, rfl, rfl, trivial⟩, rfl, hE9⟩
      · -- behind
        rintro s11 wL ⟨rfl, hE9⟩
        have szs11 := hE9.size
        have hS : Step K0 s s11 := hS.trans0 hE9
        replace hp1 := hp1.up2 hE9
        replace hp3 := hp3.up2 hE9
        replace h1_0 : OptODiskDisk s11 ku1_0 v1_0 x1.1 := OptODiskDisk.up3 h1_0 ol1_0 hE9
        refine k_nil ?_
        refine k_keep [(0, _), (1, _), (2, _), (3, _), (8, _), (9, _), (36, _)] ⟨rfl, rfl, rfl, rfl, rfl, rfl, rfl, trivial⟩ ?_
        refine k_cond_dec rfl (fun c12 => ?_) (fun c12 => ?_)
        · -- T
          have h := itT h c12
          refine k_seq ?_
          refine k_region ?_
          obtain ⟨x4, hx4, h⟩ := ob h
          refine k_call cal13 rfl (law05_awake_w   hx4) rfl ?_
          rintro s13 vr13 st13 rfl
          have szs13 := st13.size
          have hS : Step K0 s s13 := hS.trans0 st13
          replace h1_0 : OptODiskDisk s13 ku1_0 v1_0 x1.1 := OptODiskDisk.up3 h1_0 ol1_0 st13
          refine k_assign rfl rfl ?_
          refine k_nil ?_
          refine k_keep [(0, _), (1, _), (2, _), (3, _), (8, _), (9, _)] ⟨rfl, rfl, rfl, rfl, rfl, rfl, trivial⟩ ?_
          refine k_ret ?_
          obtain rfl := Option.some.inj h
          refine ⟨_, rfl, Ret.mk hS ?_⟩
          exact rfl
        · -- F
          have h := itF h c12
          refine k_skip ?_
          refine k_seq ?_
          obtain ⟨x5, hx5, h⟩ := ob h
          replace ol1_0 := ol1_0.resolve_left (fun e => by rw [e] at hx5; cases hx5)
          rw [hx5] at h1_0
          replace h1_0 : ODiskDisk s11 ku1_0 v1_0 x5 := h1_0
          have le14 := h1_0.le
          have ne14 := h1_0.ne
          refine k_keep [(0, _), (1, _), (2, _), (3, _), (8, _), (9, _)] ⟨rfl, rfl, rfl, rfl, rfl, rfl, trivial⟩ ?_
          obtain ⟨kj6, hK15, h⟩ := jn_out h
          have hE15 : Step (KO ku1_0) s11 s11 := (Step.refl _).of0 (by first | exact fun _ h => h | (intro c h; simp [KC, KO, KU, KN, KB] at h <;> omega))
          refine k_cutc (X := St × DiskDisk) [(0, .int .i64 a0), (2, S a2), (3, v3), (8, .bool false), (9, v1_0)] (fun (xL : St × DiskDisk) => match xL with | (sl, x7) => []) (fun (xL : St × DiskDisk) (wL : World) => match xL with | (sl, x7) => sl.w = wL ∧ Step (KO ku1_0) s11 sl ∧ (ODiskDisk sl ku1_0 v1_0 x7) ∧ kj6 x7 = some r) ?_ ?_
          · -- the ways
            refine k_seq ?_
            refine k_region ?_
            refine k_assign rfl rfl ?_
            refine k_nil ?_
            refine k_block ?_
            refine k_loopc (X := St × Int × DiskDisk × Nat) [(0, _), (1, _), (2, _), (3, _), (8, _), (9, _)] (fun (xL : St × Int × DiskDisk × Nat) => match xL with | (sl, x8, x9, j) => [(11, .int .i64 x8)]) (fun (xL : St × Int × DiskDisk × Nat) (wL : World) => match xL with | (sl, x8, x9, j) => sl.w = wL ∧ Step (KO ku1_0) s11 sl ∧ (ODiskDisk sl ku1_0 v1_0 x9) ∧ law05_DiskRoom_l1 a1 a0 kj6 j x8 x9 = some r) (fun (xL : St × Int × DiskDisk × Nat) => match xL with | (sl, x8, x9, j) => j) (s11, 0, x5, FU) ⟨rfl, rfl, rfl, rfl, rfl, rfl, trivial⟩ ⟨(by first | rfl | (simp <;> rfl)), trivial⟩ ⟨rfl, (Step.refl _).of0 (by first | exact fun _ h => h | (intro c h; simp [KC, KO, KU, KN, KB] at h <;> omega)), h1_0, h⟩ ?_
            rintro ⟨s17, x8, x9, j⟩ wL ⟨rfl, hE16, h1_0, h⟩
            cases j with
            | zero => rw [law05_DiskRoom_l1] at h; exact (noneNe h).elim
            | succ j =>
            rw [law05_DiskRoom_l1] at h
            have szs17 := hE16.size
            have hS : Step K0 s s17 := hS.comp hE16 (by intro l hl hk; (try simp only [KC, KO, KU, KN, K0, KB] at hk ⊢) <;> omega)
            have hE15 : Step (KO ku1_0) s11 s17 := hE15.comp hE16 (by intro l hl hk; (try simp only [KC, KO, KU, KN, K0, KB] at hk ⊢) <;> omega)
            replace hp1 := hp1.up2 hE16
            refine k_seq ?_
            refine k_seq ?_
            refine k_region ?_
            refine k_move rfl rfl ?_
            refine k_move rfl rfl ?_
            refine k_len Tryd.underlying22 rfl (SL.of_R hp1).hasLen rfl ?_
            refine k_as (v := .int .i64 (a1.length : Int)) (by simp only [List.length_map]) ?_
            refine k_lss rfl rfl rfl ?_
            refine k_nil ?_
            refine k_keep [(0, _), (1, _), (2, _), (3, _), (8, _), (9, _), (11, _), (41, _)] ⟨rfl, rfl, rfl, rfl, rfl, rfl, rfl, rfl, trivial⟩ ?_
            refine k_cond_dec rfl (fun c18 => ?_) (fun c18 => ?_)
            · -- T
              have h := itT h c18
              refine k_skip ?_
              refine k_seq ?_
              refine k_block ?_
              refine k_seq ?_
              refine k_keep [(0, _), (1, _), (2, _), (3, _), (8, _), (9, _), (11, _)] ⟨rfl, rfl, rfl, rfl, rfl, rfl, rfl, trivial⟩ ?_
              obtain ⟨kj10, hK19, h⟩ := jn_out h
              have hE19 : Step (KO ku1_0) s17 s17 := (Step.refl _).of0 (by first | exact fun _ h => h | (intro c h; simp [KC, KO, KU, KN, KB] at h <;> omega))
              refine k_cutc (X := St × DiskDisk) [(0, .int .i64 a0), (1, v1), (2, S a2), (3, v3), (8, .bool false), (9, v1_0), (11, .int .i64 x8)] (fun (xL : St × DiskDisk) => match xL with | (sl, x11) => []) (fun (xL : St × DiskDisk) (wL : World) => match xL with | (sl, x11) => sl.w = wL ∧ Step (KO ku1_0) s17 sl ∧ (ODiskDisk sl ku1_0 v1_0 x11) ∧ kj10 x11 = some r) ?_ ?_
              · -- the ways
                refine k_seq ?_
                refine k_region ?_
                refine k_move rfl rfl ?_
                refine k_move rfl rfl ?_
                obtain ⟨x12, hx12, h⟩ := ob h
                refine k_ixaddr Tryd.underlying22 size31 rfl rfl (SL.of_R hp1) (geti_out hx12).1 (geti_map hx12) rfl ?_
                intro qx12 hqx12
                refine k_field_at (o := 0) rfl hqx12 (by rfl) fld31_0 rfl ?_
                intro q20 h20
                refine k_load_val one3 rfl h20 rfl ?_
                refine k_neq rfl rfl rfl ?_
                refine k_nil ?_
                refine k_keep [(0, _), (1, _), (2, _), (3, _), (8, _), (9, _), (11, _), (49, _)] ⟨rfl, rfl, rfl, rfl, rfl, rfl, rfl, rfl, trivial⟩ ?_
                refine k_cond_dec rfl (fun c21 => ?_) (fun c21 => ?_)
                · -- T
                  have h := itT h c21
                  refine k_region ?_
                  refine k_move rfl rfl ?_
                  refine k_move rfl rfl ?_
                  refine k_move rfl rfl ?_
                  obtain ⟨x13, hx13, h⟩ := ob h
                  refine k_ixaddr Tryd.underlying22 size31 rfl rfl (SL.of_R hp1) (geti_out hx13).1 (geti_map hx13) rfl ?_
                  intro qx13 hqx13
                  refine k_load_agg (by exact agg31) rfl hqx13 rfl ?_
                  intro cs22 h22
                  obtain ⟨q22_0, rfl, hq22_0⟩ := opnLaw05Call h22
                  obtain ⟨x14, hx14, h⟩ := ob h
                  refine k_call cal15 rfl (law05_call_w (a1 := x13) h1_0 (SL.of_R hq22_0) (by first | assumption | omega | (simp <;> omega)) hx14) rfl ?_
                  rintro s23 vr23 st23 ⟨rfl, h1_0⟩
                  have szs23 := st23.size
                  have hS : Step K0 s s23 := hS.comp st23 (by intro l hl hk; (try simp only [KC, KO, KU, KN, K0, KB] at hk ⊢) <;> omega)
                  have hE15 : Step (KO ku1_0) s11 s23 := hE15.comp st23 (by intro l hl hk; (try simp only [KC, KO, KU, KN, K0, KB] at hk ⊢) <;> omega)
                  have hE16 : Step (KO ku1_0) s11 s23 := hE16.comp st23 (by intro l hl hk; (try simp only [KC, KO, KU, KN, K0, KB] at hk ⊢) <;> omega)
                  have hE19 : Step (KO ku1_0) s17 s23 := hE19.comp st23 (by intro l hl hk; (try simp only [KC, KO, KU, KN, K0, KB] at hk ⊢) <;> omega)
                  refine k_nil ?_
                  exact k_stop ⟨(s23, x14.2), trivial, ⟨rfl, rfl, rfl, rfl, rfl, rfl, rfl, trivial⟩, ⟨rfl, hE19, h1_0, h⟩⟩
                · -- F
                  have h := itF h c21
                  refine k_skip ?_
                  exact k_stop ⟨(s17, x9), trivial, ⟨rfl, rfl, rfl, rfl, rfl, rfl, rfl, trivial⟩, ⟨rfl, hE19, h1_0, h⟩⟩
              · -- behind
                rintro ⟨s24, x11⟩ wL ⟨rfl, hE19, h1_0, h⟩
                rw [hK19] at h
                have szs24 := hE19.size
                have hS : Step K0 s s24 := hS.comp hE19 (by intro l hl hk; (try simp only [KC, KO, KU, KN, K0, KB] at hk ⊢) <;> omega)
                have hE15 : Step (KO ku1_0) s11 s24 := hE15.comp hE19 (by intro l hl hk; (try simp only [KC, KO, KU, KN, K0, KB] at hk ⊢) <;> omega)
                have hE16 : Step (KO ku1_0) s11 s24 := hE16.comp hE19 (by intro l hl hk; (try simp only [KC, KO, KU, KN, K0, KB] at hk ⊢) <;> omega)
                refine k_seq ?_
                refine k_region ?_
                refine k_move rfl rfl ?_
                obtain ⟨x15, hx15, h⟩ := ob h
                refine k_call cal28 rfl (disk_Disk_Bytes_w  h1_0 hx15) rfl ?_
                rintro s25 vr25 st25 rfl
                have szs25 := st25.size
                have hS : Step K0 s s25 := hS.trans0 st25
                have hE15 : Step (KO ku1_0) s11 s25 := hE15.trans0 st25
                have hE16 : Step (KO ku1_0) s11 s25 := hE16.trans0 st25
                replace h1_0 := h1_0.up2 st25
                refine k_move rfl rfl ?_
                refine k_gtr rfl rfl rfl ?_
                refine k_nil ?_
                refine k_keep [(0, _), (1, _), (2, _), (3, _), (8, _), (9, _), (11, _), (59, _)] ⟨rfl, rfl, rfl, rfl, rfl, rfl, rfl, rfl, trivial⟩ ?_
                refine k_cond_dec rfl (fun c26 => ?_) (fun c26 => ?_)
                · -- T
                  have h := itT h c26
                  refine k_seq ?_
                  refine k_region ?_
                  refine k_assign rfl rfl ?_
                  refine k_nil ?_
                  refine k_keep [(0, _), (1, _), (2, _), (3, _), (8, _), (9, _), (11, _)] ⟨rfl, rfl, rfl, rfl, rfl, rfl, rfl, trivial⟩ ?_
                  refine k_ret ?_
                  obtain rfl := Option.some.inj h
                  refine ⟨_, rfl, Ret.mk hS ?_⟩
                  exact rfl
                · -- F
                  have h := itF h c26
                  refine k_skip ?_
                  refine k_blk ?_
                  refine k_region ?_
                  refine k_move rfl rfl ?_
                  refine k_add rfl rfl rfl ?_
                  refine k_assign rfl rfl ?_
                  refine k_nil ?_
                  exact k_stop ⟨(s25, i64 (x8 + 1), x11, j), ⟨(by first | rfl | (simp <;> rfl)), trivial⟩, ⟨rfl, rfl, rfl, rfl, rfl, rfl, trivial⟩, ⟨rfl, hE16, h1_0, h⟩, (by simp)⟩
            · -- F
              have h := itF h c18
              refine k_exit rfl ?_
              exact k_stop ⟨(s17, x9), trivial, ⟨rfl, rfl, rfl, rfl, rfl, trivial⟩, ⟨rfl, hE15, h1_0, h⟩⟩
          · -- behind
            rintro ⟨s27, x7⟩ wL ⟨rfl, hE15, h1_0, h⟩
            rw [hK15] at h
            have szs27 := hE15.size
            have hS : Step K0 s s27 := hS.comp hE15 (by intro l hl hk; (try simp only [KC, KO, KU, KN, K0, KB] at hk ⊢) <;> omega)
            replace hp3 := hp3.up2 hE15
            refine k_seq ?_
            refine k_region ?_
            refine k_move rfl rfl ?_
            obtain ⟨x16, hx16, h⟩ := ob h
            refine k_call cal19 rfl (disk_Disk_Start_w  h1_0 hx16) rfl ?_
            rintro s28 vr28 st28 ⟨rfl, h1_0⟩
            have szs28 := st28.size
            have hS : Step K0 s s28 := hS.comp st28 (by intro l hl hk; (try simp only [KC, KO, KU, KN, K0, KB] at hk ⊢) <;> omega)
            replace hp3 := hp3.up2 st28
            refine k_nil ?_
            refine k_keep [(0, _), (2, _), (3, _), (8, _), (9, _)] ⟨rfl, rfl, rfl, rfl, rfl, trivial⟩ ?_
            refine k_seq ?_
            refine k_region ?_
            refine k_move rfl rfl ?_
            obtain ⟨x17, hx17, h⟩ := ob h
            refine k_call cal25 rfl (disk_Disk_Fuse_w  h1_0 hx17) rfl ?_
            rintro s29 vr29 st29 ⟨rfl, h1_0⟩
            have szs29 := st29.size
            have hS : Step K0 s s29 := hS.comp st29 (by intro l hl hk; (try simp only [KC, KO, KU, KN, K0, KB] at hk ⊢) <;> omega)
            replace hp3 := hp3.up2 st29
            refine k_nil ?_
            refine k_keep [(0, _), (2, _), (3, _), (8, _), (9, _)] ⟨rfl, rfl, rfl, rfl, rfl, trivial⟩ ?_
            refine k_seq ?_
            obtain ⟨kj18, hK30, h⟩ := jn_out h
            have hE30 : Step (KO ku1_0) s29 s29 := (Step.refl _).of0 (by first | exact fun _ h => h | (intro c h; simp [KC, KO, KU, KN, KB] at h <;> omega))
            refine k_cutc (X := St × DiskDisk) [(8, .bool false)] (fun (xL : St × DiskDisk) => match xL with | (sl, x19) => []) (fun (xL : St × DiskDisk) (wL : World) => match xL with | (sl, x19) => sl.w = wL ∧ Step (KO ku1_0) s29 sl ∧ (ODiskDisk sl ku1_0 v1_0 x19) ∧ kj18 x19 = some r) ?_ ?_
            · -- the ways
              refine k_seq ?_
              refine k_region ?_
              refine k_assign rfl rfl ?_
              refine k_nil ?_
              refine k_block ?_
              refine k_loopc (X := St × Int × DiskDisk × Nat) [(0, _), (2, _), (3, _), (8, _), (9, _)] (fun (xL : St × Int × DiskDisk × Nat) => match xL with | (sl, x20, x21, j) => [(12, .int .i64 x20)]) (fun (xL : St × Int × DiskDisk × Nat) (wL : World) => match xL with | (sl, x20, x21, j) => sl.w = wL ∧ Step (KO ku1_0) s29 sl ∧ (ODiskDisk sl ku1_0 v1_0 x21) ∧ law05_DiskRoom_l2 a0 a2 a3 kj18 j x20 x21 = some r) (fun (xL : St × Int × DiskDisk × Nat) => match xL with | (sl, x20, x21, j) => j) (s29, 0, x17.2, FU) ⟨rfl, rfl, rfl, rfl, rfl, trivial⟩ ⟨(by first | rfl | (simp <;> rfl)), trivial⟩ ⟨rfl, (Step.refl _).of0 (by first | exact fun _ h => h | (intro c h; simp [KC, KO, KU, KN, KB] at h <;> omega)), h1_0, h⟩ ?_
              rintro ⟨s32, x20, x21, j⟩ wL ⟨rfl, hE31, h1_0, h⟩
              cases j with
              | zero => rw [law05_DiskRoom_l2] at h; exact (noneNe h).elim
              | succ j =>
              rw [law05_DiskRoom_l2] at h
              have szs32 := hE31.size
              have hS : Step K0 s s32 := hS.comp hE31 (by intro l hl hk; (try simp only [KC, KO, KU, KN, K0, KB] at hk ⊢) <;> omega)
              have hE30 : Step (KO ku1_0) s29 s32 := hE30.comp hE31 (by intro l hl hk; (try simp only [KC, KO, KU, KN, K0, KB] at hk ⊢) <;> omega)
              replace hp3 := hp3.up2 hE31
              refine k_seq ?_
              refine k_seq ?_
              refine k_region ?_
              refine k_move rfl rfl ?_
              refine k_lss rfl rfl rfl ?_
              refine k_nil ?_
              refine k_keep [(0, _), (2, _), (3, _), (8, _), (9, _), (12, _), (65, _)] ⟨rfl, rfl, rfl, rfl, rfl, rfl, rfl, trivial⟩ ?_
              refine k_cond_dec rfl (fun c33 => ?_) (fun c33 => ?_)
              · -- T
                have h := itT h c33
                refine k_skip ?_
                refine k_seq ?_
                refine k_block ?_
                refine k_seq ?_
                refine k_region ?_
                refine k_move rfl rfl ?_
                obtain ⟨x22, hx22, h⟩ := ob h
                refine k_call cal24 rfl (disk_Disk_Copy_w  h1_0 hx22) rfl ?_
                rintro s34 v34_0 st34 ⟨ku34_0, _, rfl, hk34_0, h34_0⟩
                have szs34 := st34.size
                have hS : Step K0 s s34 := hS.trans0 st34
                have hE30 : Step (KO ku1_0) s29 s34 := hE30.trans0 st34
                have hE31 : Step (KO ku1_0) s29 s34 := hE31.trans0 st34
                replace hp3 := hp3.up2 st34
                replace h1_0 := h1_0.up2 st34
                have ol34_0 := OptODiskDisk.le (k := ku34_0) h34_0
                refine k_assign rfl rfl ?_
                refine k_nil ?_
                refine k_keep [(0, _), (2, _), (3, _), (8, _), (9, _), (12, _), (13, _)] ⟨rfl, rfl, rfl, rfl, rfl, rfl, rfl, trivial⟩ ?_
                refine k_seq ?_
                refine k_region ?_
                refine k_move rfl rfl ?_
                refine k_len Tryd.underlying29 rfl hp3.hasLen rfl ?_
                refine k_as (v := .int .i64 (a3.length : Int)) (by simp only [List.length_map]) ?_
                refine k_assign rfl rfl ?_
                refine k_nil ?_
                refine k_keep [(0, _), (2, _), (3, _), (8, _), (9, _), (12, _), (13, _), (14, _)] ⟨rfl, rfl, rfl, rfl, rfl, rfl, rfl, rfl, trivial⟩ ?_
                refine k_seq ?_
                refine k_region ?_
                refine k_assign rfl rfl ?_
                refine k_nil ?_
                refine k_seq ?_
                obtain ⟨kj23, hK35, h⟩ := jn_out h
                have hE35 : Step (KO ku1_0) s34 s34 := (Step.refl _).of0 (by first | exact fun _ h => h | (intro c h; simp [KC, KO, KU, KN, KB] at h <;> omega))
                refine k_cutc (X := St × Int × Int × DiskDisk) [(0, .int .i64 a0), (2, S a2), (3, v3), (8, .bool false), (9, v1_0), (12, .int .i64 x20), (13, v34_0)] (fun (xL : St × Int × Int × DiskDisk) => match xL with | (sl, x24, x25, x26) => [(14, .int .i64 x24), (15, .int .i64 x25)]) (fun (xL : St × Int × Int × DiskDisk) (wL : World) => match xL with | (sl, x24, x25, x26) => sl.w = wL ∧ Step (KO ku1_0) s34 sl ∧ (ODiskDisk sl ku1_0 v1_0 x26) ∧ kj23 x24 x25 x26 = some r) ?_ ?_
                · -- the ways
                  refine k_seq ?_
                  refine k_region ?_
                  refine k_move rfl rfl ?_
                  refine k_eql rfl rfl rfl ?_
                  refine k_nil ?_
                  refine k_keep [(0, _), (2, _), (3, _), (8, _), (9, _), (12, _), (13, _), (14, _), (15, _), (73, _)] ⟨rfl, rfl, rfl, rfl, rfl, rfl, rfl, rfl, rfl, rfl, trivial⟩ ?_
                  refine k_cond_dec rfl (fun c36 => ?_) (fun c36 => ?_)
                  · -- T
                    have h := itT h c36
                    refine k_region ?_
                    refine k_move rfl rfl ?_
                    refine k_move rfl rfl ?_
                    refine k_move rfl rfl ?_
                    obtain ⟨x27, hx27, h⟩ := ob h
                    refine k_call cal31 rfl (disk_Disk_Append_w  h1_0 hp3 (by first | assumption | omega | (simp <;> omega)) hx27) rfl ?_
                    rintro s37 vr37 st37 ⟨rfl, h1_0⟩
                    have szs37 := st37.size
                    have hS : Step K0 s s37 := hS.comp st37 (by intro l hl hk; (try simp only [KC, KO, KU, KN, K0, KB] at hk ⊢) <;> omega)
                    have hE30 : Step (KO ku1_0) s29 s37 := hE30.comp st37 (by intro l hl hk; (try simp only [KC, KO, KU, KN, K0, KB] at hk ⊢) <;> omega)
                    have hE31 : Step (KO ku1_0) s29 s37 := hE31.comp st37 (by intro l hl hk; (try simp only [KC, KO, KU, KN, K0, KB] at hk ⊢) <;> omega)
                    have hE35 : Step (KO ku1_0) s34 s37 := hE35.comp st37 (by intro l hl hk; (try simp only [KC, KO, KU, KN, K0, KB] at hk ⊢) <;> omega)
                    replace h34_0 : OptODiskDisk s37 ku34_0 v34_0 x22 := OptODiskDisk.up3 h34_0 ol34_0 st37
                    refine k_assign rfl rfl ?_
                    refine k_nil ?_
                    exact k_stop ⟨(s37, (a3.length : Int), x27.1, x27.2), ⟨(by first | rfl | (simp <;> rfl)), (by first | rfl | (simp <;> rfl)), trivial⟩, ⟨rfl, rfl, rfl, rfl, rfl, rfl, rfl, trivial⟩, ⟨rfl, hE35, h1_0, h⟩⟩
                  · -- F
                    have h := itF h c36
                    refine k_seq ?_
                    refine k_region ?_
                    refine k_move rfl rfl ?_
                    refine k_move rfl rfl ?_
                    refine k_move rfl rfl ?_
                    obtain ⟨x28, hx28, h⟩ := ob h
                    refine k_call cal30 rfl (disk_Disk_Size_w  h1_0 hx28) rfl ?_
                    rintro s38 vr38 st38 rfl
                    have szs38 := st38.size
                    have hS : Step K0 s s38 := hS.trans0 st38
                    have hE30 : Step (KO ku1_0) s29 s38 := hE30.trans0 st38
                    have hE31 : Step (KO ku1_0) s29 s38 := hE31.trans0 st38
                    have hE35 : Step (KO ku1_0) s34 s38 := hE35.trans0 st38
                    replace hp3 := hp3.up2 st38
                    replace h1_0 := h1_0.up2 st38
                    replace h34_0 : OptODiskDisk s38 ku34_0 v34_0 x22 := OptODiskDisk.up3 h34_0 ol34_0 st38
                    refine k_sub_ rfl rfl rfl ?_
                    refine k_assign rfl rfl ?_
                    refine k_nil ?_
                    refine k_keep [(0, _), (2, _), (3, _), (8, _), (9, _), (12, _), (13, _), (14, _), (15, _)] ⟨rfl, rfl, rfl, rfl, rfl, rfl, rfl, rfl, rfl, trivial⟩ ?_
                    refine k_region ?_
                    refine k_move rfl rfl ?_
                    refine k_move rfl rfl ?_
                    refine k_move rfl rfl ?_
                    obtain ⟨x29, hx29, h⟩ := ob h
                    refine k_call cal32 rfl (disk_Disk_Put_w  h1_0 hp3 (by first | assumption | omega | (simp <;> omega)) hx29) rfl ?_
                    rintro s39 vr39 st39 ⟨rfl, h1_0⟩
                    have szs39 := st39.size
                    have hS : Step K0 s s39 := hS.comp st39 (by intro l hl hk; (try simp only [KC, KO, KU, KN, K0, KB] at hk ⊢) <;> omega)
                    have hE30 : Step (KO ku1_0) s29 s39 := hE30.comp st39 (by intro l hl hk; (try simp only [KC, KO, KU, KN, K0, KB] at hk ⊢) <;> omega)
                    have hE31 : Step (KO ku1_0) s29 s39 := hE31.comp st39 (by intro l hl hk; (try simp only [KC, KO, KU, KN, K0, KB] at hk ⊢) <;> omega)
                    have hE35 : Step (KO ku1_0) s34 s39 := hE35.comp st39 (by intro l hl hk; (try simp only [KC, KO, KU, KN, K0, KB] at hk ⊢) <;> omega)
                    replace h34_0 : OptODiskDisk s39 ku34_0 v34_0 x22 := OptODiskDisk.up3 h34_0 ol34_0 st39
                    refine k_assign rfl rfl ?_
                    refine k_nil ?_
                    exact k_stop ⟨(s39, i64 ((a3.length : Int) - x28), x29.1, x29.2), ⟨(by first | rfl | (simp <;> rfl)), (by first | rfl | (simp <;> rfl)), trivial⟩, ⟨rfl, rfl, rfl, rfl, rfl, rfl, rfl, trivial⟩, ⟨rfl, hE35, h1_0, h⟩⟩
                · -- behind
                  rintro ⟨s40, x24, x25, x26⟩ wL ⟨rfl, hE35, h1_0, h⟩
                  rw [hK35] at h
                  have szs40 := hE35.size
                  have hS : Step K0 s s40 := hS.comp hE35 (by intro l hl hk; (try simp only [KC, KO, KU, KN, K0, KB] at hk ⊢) <;> omega)
                  have hE30 : Step (KO ku1_0) s29 s40 := hE30.comp hE35 (by intro l hl hk; (try simp only [KC, KO, KU, KN, K0, KB] at hk ⊢) <;> omega)
                  have hE31 : Step (KO ku1_0) s29 s40 := hE31.comp hE35 (by intro l hl hk; (try simp only [KC, KO, KU, KN, K0, KB] at hk ⊢) <;> omega)
                  replace hp3 := hp3.up2 hE35
                  replace h34_0 : OptODiskDisk s40 ku34_0 v34_0 x22 := OptODiskDisk.up3 h34_0 ol34_0 hE35
                  refine k_seq ?_
                  refine k_seq ?_
                  refine k_region ?_
                  refine k_move rfl rfl ?_
                  refine k_eql rfl rfl rfl ?_
                  refine k_nil ?_
                  refine k_keep [(0, _), (2, _), (3, _), (8, _), (9, _), (12, _), (13, _), (14, _), (15, _), (88, _)] ⟨rfl, rfl, rfl, rfl, rfl, rfl, rfl, rfl, rfl, rfl, trivial⟩ ?_
                  refine k_cond_dec rfl (fun c41 => ?_) (fun c41 => ?_)
                  · -- T
                    have h := itT h c41
                    refine k_seq ?_
                    refine k_region ?_
                    refine k_move rfl rfl ?_
                    refine k_move rfl rfl ?_
                    obtain ⟨x30, hx30, h⟩ := ob h
                    replace ol34_0 := ol34_0.resolve_left (fun e => by rw [e] at hx30; cases hx30)
                    rw [hx30] at h34_0
                    replace h34_0 : ODiskDisk s40 ku34_0 v34_0 x30 := h34_0
                    have le42 := h34_0.le
                    have ne42 := h34_0.ne
                    obtain ⟨x31, hx31, h⟩ := ob h
                    refine k_call cal20 rfl (law05_alike_w  h34_0 h1_0 hx31) rfl ?_
                    rintro s43 vr43 st43 rfl
                    have szs43 := st43.size
                    have hS : Step K0 s s43 := hS.trans0 st43
                    have hE30 : Step (KO ku1_0) s29 s43 := hE30.trans0 st43
                    have hE31 : Step (KO ku1_0) s29 s43 := hE31.trans0 st43
                    refine k_move rfl rfl ?_
                    obtain ⟨x32, hx32, h⟩ := ob h
                    have hE44 : Step K0 s43 s43 := (Step.refl _).of0 (by first | exact fun _ h => h | (intro c h; simp [KC, KO, KU, KN, KB] at h <;> omega))
                    refine k_cutl (X := St) 2 [(0, .int .i64 a0), (2, S a2), (3, v3), (8, .bool false), (9, v1_0), (12, .int .i64 x20), (13, v34_0), (14, .int .i64 x24), (15, .int .i64 x25), (88, .bool (decide (x25 = 1))), (89, v34_0), (90, v1_0), (91, .bool x31)] (fun _ => [(94, .bool x32)]) (fun sl wL => sl.w = wL ∧ Step K0 s43 sl) ?_ ?_
                    · -- the ways
                      refine k_again 92 rfl ?_
                      refine k_splitb (fun c45 => ?_) (fun c45 => ?_)
                      · -- t92 True
                        have hx32 := ibT hx32 c45
                        refine k_yes rfl rfl ?_
                        obtain ⟨x33, hx33, hx32⟩ := ob hx32
                        refine k_call cal13 rfl (law05_awake_w   hx33) rfl ?_
                        rintro s46 vr46 st46 rfl
                        have szs46 := st46.size
                        have hS : Step K0 s s46 := hS.trans0 st46
                        have hE30 : Step (KO ku1_0) s29 s46 := hE30.trans0 st46
                        have hE31 : Step (KO ku1_0) s29 s46 := hE31.trans0 st46
                        have hE44 : Step K0 s43 s46 := hE44.trans0 st46
                        refine k_pickT rfl rfl rfl rfl ?_
                        exact k_met ⟨s46, ⟨(congrArg (fun b => some (Value.bool b)) (Option.some.inj hx32)), trivial⟩, ⟨rfl, rfl, rfl, rfl, rfl, rfl, rfl, rfl, rfl, rfl, rfl, rfl, rfl, trivial⟩, rfl, hE44⟩
                      · -- t92 False
                        have hx32 := ibF hx32 c45
                        refine k_no rfl rfl rfl rfl ?_
                        refine k_pickF rfl rfl rfl rfl ?_
                        exact k_met ⟨s43, ⟨(congrArg (fun b => some (Value.bool b)) (Option.some.inj hx32)), trivial⟩, ⟨rfl, rfl, rfl, rfl, rfl, rfl, rfl, rfl, rfl, rfl, rfl, rfl, rfl, trivial⟩, rfl, hE44⟩
                    · -- behind
                      rintro s47 wL ⟨rfl, hE44⟩
                      have szs47 := hE44.size
                      have hS : Step K0 s s47 := hS.trans0 hE44
                      have hE30 : Step (KO ku1_0) s29 s47 := hE30.trans0 hE44
                      have hE31 : Step (KO ku1_0) s29 s47 := hE31.trans0 hE44
                      refine k_assign rfl rfl ?_
                      refine k_nil ?_
                      refine k_keep [(0, _), (2, _), (3, _), (8, _), (9, _), (12, _), (13, _), (14, _), (15, _)] ⟨rfl, rfl, rfl, rfl, rfl, rfl, rfl, rfl, rfl, trivial⟩ ?_
                      refine k_ret ?_
                      obtain rfl := Option.some.inj h
                      refine ⟨_, rfl, Ret.mk hS ?_⟩
                      exact rfl
                  · -- F
                    have h := itF h c41
                    refine k_skip ?_
                    refine k_seq ?_
                    refine k_seq ?_
                    refine k_region ?_
                    refine k_move rfl rfl ?_
                    refine k_eql rfl rfl rfl ?_
                    refine k_move rfl rfl ?_
                    refine k_move rfl rfl ?_
                    refine k_move rfl rfl ?_
                    obtain ⟨x34, hx34, h⟩ := ob h
                    replace ol34_0 := ol34_0.resolve_left (fun e => by rw [e] at hx34; cases hx34)
                    rw [hx34] at h34_0
                    replace h34_0 : ODiskDisk s40 ku34_0 v34_0 x34 := h34_0
                    have le48 := h34_0.le
                    have ne48 := h34_0.ne
                    obtain ⟨x35, hx35, h⟩ := ob h
                    refine k_call cal28 rfl (disk_Disk_Bytes_w  h34_0 hx35) rfl ?_
                    rintro s49 vr49 st49 rfl
                    have szs49 := st49.size
                    have hS : Step K0 s s49 := hS.trans0 st49
                    have hE30 : Step (KO ku1_0) s29 s49 := hE30.trans0 st49
                    have hE31 : Step (KO ku1_0) s29 s49 := hE31.trans0 st49
                    replace hp3 := hp3.up2 st49
                    replace h1_0 := h1_0.up2 st49
                    replace h34_0 := h34_0.up2 st49
                    refine k_sub_ rfl rfl rfl ?_
                    refine k_gtr rfl rfl rfl ?_
                    refine k_neqb Tryd.underlying4 rfl rfl rfl ?_
                    refine k_move rfl rfl ?_
                    obtain ⟨x36, hx36, h⟩ := ob h
                    have hE50 : Step K0 s49 s49 := (Step.refl _).of0 (by first | exact fun _ h => h | (intro c h; simp [KC, KO, KU, KN, KB] at h <;> omega))
                    refine k_cutl (X := St) 16 [(0, .int .i64 a0), (2, S a2), (3, v3), (8, .bool false), (9, v1_0), (12, .int .i64 x20), (13, v34_0), (14, .int .i64 x24), (15, .int .i64 x25), (88, .bool (decide (x25 = 1))), (95, .int .i64 x25), (96, .bool (decide (x25 = 3))), (97, .int .i64 x24), (98, .int .i64 a0), (99, v34_0), (100, .int .i64 x35), (101, .int .i64 (i64 (a0 - x35))), (102, .bool (decide (i64 (a0 - x35) < x24))), (103, .bool (!(decide (x25 = 3) == decide (i64 (a0 - x35) < x24))))] (fun _ => [(120, .bool x36)]) (fun sl wL => sl.w = wL ∧ Step K0 s49 sl) ?_ ?_
                    · -- the ways
                      refine k_again 104 rfl ?_
                      refine k_splitb (fun c51 => ?_) (fun c51 => ?_)
                      · -- t104 True
                        have hx36 := ibT hx36 c51
                        refine k_no rfl rfl rfl rfl ?_
                        refine k_no rfl rfl rfl rfl ?_
                        refine k_no rfl rfl rfl rfl ?_
                        refine k_nou rfl rfl rfl rfl ?_
                        refine k_nou rfl rfl rfl rfl ?_
                        refine k_nou rfl rfl rfl rfl ?_
                        refine k_nou rfl rfl rfl rfl ?_
                        refine k_nou rfl rfl rfl rfl ?_
                        refine k_nou rfl rfl rfl rfl ?_
                        refine k_nou rfl rfl rfl rfl ?_
                        refine k_nou rfl rfl rfl rfl ?_
                        refine k_nou rfl rfl rfl rfl ?_
                        refine k_nou rfl rfl rfl rfl ?_
                        refine k_nou rfl rfl rfl rfl ?_
                        refine k_no rfl rfl rfl rfl ?_
                        refine k_pickT rfl rfl rfl rfl ?_
                        exact k_met ⟨s49, ⟨(congrArg (fun b => some (Value.bool b)) (Option.some.inj hx36)), trivial⟩, ⟨rfl, rfl, rfl, rfl, rfl, rfl, rfl, rfl, rfl, rfl, rfl, rfl, rfl, rfl, rfl, rfl, rfl, rfl, rfl, trivial⟩, rfl, hE50⟩
                      · -- t104 False
                        have hx36 := ibF hx36 c51
                        refine k_yes rfl rfl ?_
                        refine k_move rfl rfl ?_
                        refine k_yes rfl rfl ?_
                        refine k_eql rfl rfl rfl ?_
                        refine k_yes rfl rfl ?_
                        refine k_move rfl rfl ?_
                        obtain ⟨x37, hx37, hx36⟩ := ob hx36
                        have hE52 : Step K0 s49 s49 := (Step.refl _).of0 (by first | exact fun _ h => h | (intro c h; simp [KC, KO, KU, KN, KB] at h <;> omega))
                        refine k_cutl (X := St) 12 [(0, .int .i64 a0), (2, S a2), (3, v3), (8, .bool false), (9, v1_0), (12, .int .i64 x20), (13, v34_0), (14, .int .i64 x24), (15, .int .i64 x25), (88, .bool (decide (x25 = 1))), (95, .int .i64 x25), (96, .bool (decide (x25 = 3))), (97, .int .i64 x24), (98, .int .i64 a0), (99, v34_0), (100, .int .i64 x35), (101, .int .i64 (i64 (a0 - x35))), (102, .bool (decide (i64 (a0 - x35) < x24))), (103, .bool (!(decide (x25 = 3) == decide (i64 (a0 - x35) < x24)))), (104, .bool false), (105, .int .i64 x25), (106, .bool (decide (x25 = 3)))] (fun _ => [(119, .bool x37)]) (fun sl wL => sl.w = wL ∧ Step K0 s49 sl) ?_ ?_
                        · -- the ways
                          refine k_again 107 rfl ?_
                          refine k_split (fun c53 => ?_) (fun c53 => ?_)
                          · -- t107 True
                            have hx37 := itT hx37 c53
                            refine k_yes rfl rfl ?_
                            refine k_move rfl rfl ?_
                            refine k_yes rfl rfl ?_
                            refine k_move rfl rfl ?_
                            refine k_yes rfl rfl ?_
                            obtain ⟨x38, hx38, hx37⟩ := ob hx37
                            refine k_call cal20 rfl (law05_alike_w  h34_0 h1_0 hx38) rfl ?_
                            rintro s54 vr54 st54 rfl
                            have szs54 := st54.size
                            have hS : Step K0 s s54 := hS.trans0 st54
                            have hE30 : Step (KO ku1_0) s29 s54 := hE30.trans0 st54
                            have hE31 : Step (KO ku1_0) s29 s54 := hE31.trans0 st54
                            have hE50 : Step K0 s49 s54 := hE50.trans0 st54
                            have hE52 : Step K0 s49 s54 := hE52.trans0 st54
                            replace h1_0 := h1_0.up2 st54
                            replace h34_0 := h34_0.up2 st54
                            refine k_yes rfl rfl ?_
                            refine k_not rfl rfl ?_
                            refine k_yes rfl rfl ?_
                            refine k_move rfl rfl ?_
                            obtain ⟨x39, hx39, hx37⟩ := ob hx37
                            have hE55 : Step K0 s54 s54 := (Step.refl _).of0 (by first | exact fun _ h => h | (intro c h; simp [KC, KO, KU, KN, KB] at h <;> omega))
                            refine k_cutl (X := St) 6 [(0, .int .i64 a0), (2, S a2), (3, v3), (8, .bool false), (9, v1_0), (12, .int .i64 x20), (13, v34_0), (14, .int .i64 x24), (15, .int .i64 x25), (88, .bool (decide (x25 = 1))), (95, .int .i64 x25), (96, .bool (decide (x25 = 3))), (97, .int .i64 x24), (98, .int .i64 a0), (99, v34_0), (100, .int .i64 x35), (101, .int .i64 (i64 (a0 - x35))), (102, .bool (decide (i64 (a0 - x35) < x24))), (103, .bool (!(decide (x25 = 3) == decide (i64 (a0 - x35) < x24)))), (104, .bool false), (105, .int .i64 x25), (106, .bool (decide (x25 = 3))), (107, .bool true), (108, v34_0), (109, v1_0), (110, .bool x38), (111, .bool (!x38))] (fun _ => [(118, .bool x39)]) (fun sl wL => sl.w = wL ∧ Step K0 s54 sl) ?_ ?_
                            · -- the ways
                              refine k_again 112 rfl ?_
                              refine k_splitb (fun c56 => ?_) (fun c56 => ?_)
                              · -- t112 True
                                have hx39 := ibT hx39 c56
                                refine k_no rfl rfl rfl rfl ?_
                                refine k_no rfl rfl rfl rfl ?_
                                refine k_no rfl rfl rfl rfl ?_
                                refine k_no rfl rfl rfl rfl ?_
                                refine k_no rfl rfl rfl rfl ?_
                                refine k_yes rfl rfl ?_
                                refine k_pickT rfl rfl rfl rfl ?_
                                exact k_met ⟨s54, ⟨(congrArg (fun b => some (Value.bool b)) (Option.some.inj hx39)), trivial⟩, ⟨rfl, rfl, rfl, rfl, rfl, rfl, rfl, rfl, rfl, rfl, rfl, rfl, rfl, rfl, rfl, rfl, rfl, rfl, rfl, rfl, rfl, rfl, rfl, rfl, rfl, rfl, rfl, trivial⟩, rfl, hE55⟩
                              · -- t112 False
                                have hx39 := ibF hx39 c56
                                refine k_yes rfl rfl ?_
                                refine k_move rfl rfl ?_
                                refine k_yes rfl rfl ?_
                                obtain ⟨x40, hx40, hx39⟩ := ob hx39
                                refine k_call cal14 rfl (disk_Disk_Waits_w  h1_0 hx40) rfl ?_
                                rintro s57 vr57 st57 rfl
                                have szs57 := st57.size
                                have hS : Step K0 s s57 := hS.trans0 st57
                                have hE30 : Step (KO ku1_0) s29 s57 := hE30.trans0 st57
                                have hE31 : Step (KO ku1_0) s29 s57 := hE31.trans0 st57
                                have hE50 : Step K0 s49 s57 := hE50.trans0 st57
                                have hE52 : Step K0 s49 s57 := hE52.trans0 st57
                                have hE55 : Step K0 s54 s57 := hE55.trans0 st57
                                replace h34_0 := h34_0.up2 st57
                                refine k_yes rfl rfl ?_
                                refine k_move rfl rfl ?_
                                refine k_yes rfl rfl ?_
                                obtain ⟨x41, hx41, hx39⟩ := ob hx39
                                refine k_call cal14 rfl (disk_Disk_Waits_w  h34_0 hx41) rfl ?_
                                rintro s58 vr58 st58 rfl
                                have szs58 := st58.size
                                have hS : Step K0 s s58 := hS.trans0 st58
                                have hE30 : Step (KO ku1_0) s29 s58 := hE30.trans0 st58
                                have hE31 : Step (KO ku1_0) s29 s58 := hE31.trans0 st58
                                have hE50 : Step K0 s49 s58 := hE50.trans0 st58
                                have hE52 : Step K0 s49 s58 := hE52.trans0 st58
                                have hE55 : Step K0 s54 s58 := hE55.trans0 st58
                                refine k_yes rfl rfl ?_
                                refine k_neq rfl rfl rfl ?_
                                refine k_yes rfl rfl ?_
                                refine k_pickF rfl rfl rfl rfl ?_
                                exact k_met ⟨s58, ⟨(congrArg (fun b => some (Value.bool b)) (Option.some.inj hx39)), trivial⟩, ⟨rfl, rfl, rfl, rfl, rfl, rfl, rfl, rfl, rfl, rfl, rfl, rfl, rfl, rfl, rfl, rfl, rfl, rfl, rfl, rfl, rfl, rfl, rfl, rfl, rfl, rfl, rfl, trivial⟩, rfl, hE55⟩
                            · -- behind
                              rintro s59 wL ⟨rfl, hE55⟩
                              have szs59 := hE55.size
                              have hS : Step K0 s s59 := hS.trans0 hE55
                              have hE30 : Step (KO ku1_0) s29 s59 := hE30.trans0 hE55
                              have hE31 : Step (KO ku1_0) s29 s59 := hE31.trans0 hE55
                              have hE50 : Step K0 s49 s59 := hE50.trans0 hE55
                              have hE52 : Step K0 s49 s59 := hE52.trans0 hE55
                              refine k_yes rfl rfl ?_
                              refine k_pickT rfl rfl rfl rfl ?_
                              exact k_met ⟨s59, ⟨(congrArg (fun b => some (Value.bool b)) (Option.some.inj hx37)), trivial⟩, ⟨rfl, rfl, rfl, rfl, rfl, rfl, rfl, rfl, rfl, rfl, rfl, rfl, rfl, rfl, rfl, rfl, rfl, rfl, rfl, rfl, rfl, rfl, trivial⟩, rfl, hE52⟩
                          · -- t107 False
                            have hx37 := itF hx37 c53
                            refine k_no rfl rfl rfl rfl ?_
                            refine k_no rfl rfl rfl rfl ?_
                            refine k_no rfl rfl rfl rfl ?_
                            refine k_no rfl rfl rfl rfl ?_
                            refine k_no rfl rfl rfl rfl ?_
                            refine k_nou rfl rfl rfl rfl ?_
                            refine k_nou rfl rfl rfl rfl ?_
                            refine k_nou rfl rfl rfl rfl ?_
                            refine k_nou rfl rfl rfl rfl ?_
                            refine k_nou rfl rfl rfl rfl ?_
                            refine k_no rfl rfl rfl rfl ?_
                            refine k_yes rfl rfl ?_
                            refine k_pickF rfl rfl rfl rfl ?_
                            exact k_met ⟨s49, ⟨(congrArg (fun b => some (Value.bool b)) (Option.some.inj hx37)), trivial⟩, ⟨rfl, rfl, rfl, rfl, rfl, rfl, rfl, rfl, rfl, rfl, rfl, rfl, rfl, rfl, rfl, rfl, rfl, rfl, rfl, rfl, rfl, rfl, trivial⟩, rfl, hE52⟩
                        · -- behind
                          rintro s60 wL ⟨rfl, hE52⟩
                          have szs60 := hE52.size
                          have hS : Step K0 s s60 := hS.trans0 hE52
                          have hE30 : Step (KO ku1_0) s29 s60 := hE30.trans0 hE52
                          have hE31 : Step (KO ku1_0) s29 s60 := hE31.trans0 hE52
                          have hE50 : Step K0 s49 s60 := hE50.trans0 hE52
                          refine k_pickF rfl rfl rfl rfl ?_
                          exact k_met ⟨s60, ⟨(congrArg (fun b => some (Value.bool b)) (Option.some.inj hx36)), trivial⟩, ⟨rfl, rfl, rfl, rfl, rfl, rfl, rfl, rfl, rfl, rfl, rfl, rfl, rfl, rfl, rfl, rfl, rfl, rfl, rfl, trivial⟩, rfl, hE50⟩
                    · -- behind
                      rintro s61 wL ⟨rfl, hE50⟩
                      have szs61 := hE50.size
                      have hS : Step K0 s s61 := hS.trans0 hE50
                      have hE30 : Step (KO ku1_0) s29 s61 := hE30.trans0 hE50
                      have hE31 : Step (KO ku1_0) s29 s61 := hE31.trans0 hE50
                      replace hp3 := hp3.up2 hE50
                      replace h1_0 := h1_0.up2 hE50
                      replace h34_0 := h34_0.up2 hE50
                      refine k_nil ?_
                      refine k_keep [(0, _), (2, _), (3, _), (8, _), (9, _), (12, _), (13, _), (14, _), (15, _), (120, _)] ⟨rfl, rfl, rfl, rfl, rfl, rfl, rfl, rfl, rfl, rfl, trivial⟩ ?_
                      refine k_cond rfl (fun c62 => ?_) (fun c62 => ?_)
                      · -- T
                        have h := ibT h c62
                        refine k_seq ?_
                        refine k_region ?_
                        refine k_assign rfl rfl ?_
                        refine k_nil ?_
                        refine k_keep [(0, _), (2, _), (3, _), (8, _), (9, _), (12, _), (13, _), (14, _), (15, _)] ⟨rfl, rfl, rfl, rfl, rfl, rfl, rfl, rfl, rfl, trivial⟩ ?_
                        refine k_ret ?_
                        obtain rfl := Option.some.inj h
                        refine ⟨_, rfl, Ret.mk hS ?_⟩
                        exact rfl
                      · -- F
                        have h := ibF h c62
                        refine k_skip ?_
                        refine k_seq ?_
                        refine k_seq ?_
                        refine k_region ?_
                        refine k_move rfl rfl ?_
                        refine k_neq rfl rfl rfl ?_
                        refine k_nil ?_
                        refine k_keep [(0, _), (2, _), (3, _), (8, _), (9, _), (12, _), (13, _), (14, _), (122, _)] ⟨rfl, rfl, rfl, rfl, rfl, rfl, rfl, rfl, rfl, trivial⟩ ?_
                        refine k_cond_dec rfl (fun c63 => ?_) (fun c63 => ?_)
                        · -- T
                          have h := itT h c63
                          refine k_exit rfl ?_
                          refine k_region ?_
                          refine k_move rfl rfl ?_
                          refine k_add rfl rfl rfl ?_
                          refine k_assign rfl rfl ?_
                          refine k_nil ?_
                          exact k_stop ⟨(s61, i64 (x20 + 1), x26, j), ⟨(by first | rfl | (simp <;> rfl)), trivial⟩, ⟨rfl, rfl, rfl, rfl, rfl, trivial⟩, ⟨rfl, hE31, h1_0, h⟩, (by simp)⟩
                        · -- F
                          have h := itF h c63
                          refine k_skip ?_
                          refine k_seq ?_
                          refine k_region ?_
                          refine k_move rfl rfl ?_
                          obtain ⟨x42, hx42, h⟩ := ob h
                          refine k_call cal28 rfl (disk_Disk_Bytes_w  h1_0 hx42) rfl ?_
                          rintro s64 vr64 st64 rfl
                          have szs64 := st64.size
                          have hS : Step K0 s s64 := hS.trans0 st64
                          have hE30 : Step (KO ku1_0) s29 s64 := hE30.trans0 st64
                          have hE31 : Step (KO ku1_0) s29 s64 := hE31.trans0 st64
                          replace hp3 := hp3.up2 st64
                          replace h1_0 := h1_0.up2 st64
                          replace h34_0 := h34_0.up2 st64
                          refine k_move rfl rfl ?_
                          obtain ⟨x43, hx43, h⟩ := ob h
                          refine k_call cal28 rfl (disk_Disk_Bytes_w  h34_0 hx43) rfl ?_
                          rintro s65 vr65 st65 rfl
                          have szs65 := st65.size
                          have hS : Step K0 s s65 := hS.trans0 st65
                          have hE30 : Step (KO ku1_0) s29 s65 := hE30.trans0 st65
                          have hE31 : Step (KO ku1_0) s29 s65 := hE31.trans0 st65
                          replace hp3 := hp3.up2 st65
                          replace h1_0 := h1_0.up2 st65
                          replace h34_0 := h34_0.up2 st65
                          refine k_move rfl rfl ?_
                          refine k_add rfl rfl rfl ?_
                          refine k_neq rfl rfl rfl ?_
                          refine k_move rfl rfl ?_
                          obtain ⟨x44, hx44, h⟩ := ob h
                          have hE66 : Step K0 s65 s65 := (Step.refl _).of0 (by first | exact fun _ h => h | (intro c h; simp [KC, KO, KU, KN, KB] at h <;> omega))
                          refine k_cutl (X := St) 7 [(0, .int .i64 a0), (2, S a2), (3, v3), (8, .bool false), (9, v1_0), (12, .int .i64 x20), (13, v34_0), (14, .int .i64 x24), (122, .bool (decide (x25 ≠ 0))), (123, v1_0), (124, .int .i64 x42), (125, v34_0), (126, .int .i64 x43), (127, .int .i64 x24), (128, .int .i64 (i64 (x43 + x24))), (129, .bool (decide (x42 ≠ i64 (x43 + x24))))] (fun _ => [(137, .bool x44)]) (fun sl wL => sl.w = wL ∧ Step K0 s65 sl) ?_ ?_
                          · -- the ways
                            refine k_again 130 rfl ?_
                            refine k_split (fun c67 => ?_) (fun c67 => ?_)
                            · -- t130 True
                              have hx44 := itT hx44 c67
                              refine k_no rfl rfl rfl rfl ?_
                              refine k_no rfl rfl rfl rfl ?_
                              refine k_no rfl rfl rfl rfl ?_
                              refine k_no rfl rfl rfl rfl ?_
                              refine k_no rfl rfl rfl rfl ?_
                              refine k_no rfl rfl rfl rfl ?_
                              refine k_pickT rfl rfl rfl rfl ?_
                              exact k_met ⟨s65, ⟨(congrArg (fun b => some (Value.bool b)) (Option.some.inj hx44)), trivial⟩, ⟨rfl, rfl, rfl, rfl, rfl, rfl, rfl, rfl, rfl, rfl, rfl, rfl, rfl, rfl, rfl, rfl, trivial⟩, rfl, hE66⟩
                            · -- t130 False
                              have hx44 := itF hx44 c67
                              refine k_yes rfl rfl ?_
                              refine k_move rfl rfl ?_
                              refine k_yes rfl rfl ?_
                              obtain ⟨x45, hx45, hx44⟩ := ob hx44
                              refine k_call cal14 rfl (disk_Disk_Waits_w  h1_0 hx45) rfl ?_
                              rintro s68 vr68 st68 rfl
                              have szs68 := st68.size
                              have hS : Step K0 s s68 := hS.trans0 st68
                              have hE30 : Step (KO ku1_0) s29 s68 := hE30.trans0 st68
                              have hE31 : Step (KO ku1_0) s29 s68 := hE31.trans0 st68
                              have hE66 : Step K0 s65 s68 := hE66.trans0 st68
                              replace h34_0 := h34_0.up2 st68
                              refine k_yes rfl rfl ?_
                              refine k_move rfl rfl ?_
                              refine k_yes rfl rfl ?_
                              obtain ⟨x46, hx46, hx44⟩ := ob hx44
                              refine k_call cal14 rfl (disk_Disk_Waits_w  h34_0 hx46) rfl ?_
                              rintro s69 vr69 st69 rfl
                              have szs69 := st69.size
                              have hS : Step K0 s s69 := hS.trans0 st69
                              have hE30 : Step (KO ku1_0) s29 s69 := hE30.trans0 st69
                              have hE31 : Step (KO ku1_0) s29 s69 := hE31.trans0 st69
                              have hE66 : Step K0 s65 s69 := hE66.trans0 st69
                              refine k_yes rfl rfl ?_
                              refine k_add rfl rfl rfl ?_
                              refine k_yes rfl rfl ?_
                              refine k_neq rfl rfl rfl ?_
                              refine k_pickF rfl rfl rfl rfl ?_
                              exact k_met ⟨s69, ⟨(congrArg (fun b => some (Value.bool b)) (Option.some.inj hx44)), trivial⟩, ⟨rfl, rfl, rfl, rfl, rfl, rfl, rfl, rfl, rfl, rfl, rfl, rfl, rfl, rfl, rfl, rfl, trivial⟩, rfl, hE66⟩
                          · -- behind
                            rintro s70 wL ⟨rfl, hE66⟩
                            have szs70 := hE66.size
                            have hS : Step K0 s s70 := hS.trans0 hE66
                            have hE30 : Step (KO ku1_0) s29 s70 := hE30.trans0 hE66
                            have hE31 : Step (KO ku1_0) s29 s70 := hE31.trans0 hE66
                            replace hp3 := hp3.up2 hE66
                            replace h1_0 := h1_0.up2 hE66
                            replace h34_0 := h34_0.up2 hE66
                            refine k_move rfl rfl ?_
                            obtain ⟨x47, hx47, h⟩ := ob h
                            have hE71 : Step K0 s70 s70 := (Step.refl _).of0 (by first | exact fun _ h => h | (intro c h; simp [KC, KO, KU, KN, KB] at h <;> omega))
                            refine k_cutl (X := St) 11 [(0, .int .i64 a0), (2, S a2), (3, v3), (8, .bool false), (9, v1_0), (12, .int .i64 x20), (13, v34_0), (14, .int .i64 x24), (122, .bool (decide (x25 ≠ 0))), (123, v1_0), (124, .int .i64 x42), (125, v34_0), (126, .int .i64 x43), (127, .int .i64 x24), (128, .int .i64 (i64 (x43 + x24))), (129, .bool (decide (x42 ≠ i64 (x43 + x24)))), (137, .bool x44)] (fun _ => [(149, .bool x47)]) (fun sl wL => sl.w = wL ∧ Step K0 s70 sl) ?_ ?_
                            · -- the ways
                              refine k_again 138 rfl ?_
                              refine k_splitb (fun c72 => ?_) (fun c72 => ?_)
                              · -- t138 True
                                have hx47 := ibT hx47 c72
                                refine k_no rfl rfl rfl rfl ?_
                                refine k_no rfl rfl rfl rfl ?_
                                refine k_no rfl rfl rfl rfl ?_
                                refine k_nou rfl rfl rfl rfl ?_
                                refine k_nou rfl rfl rfl rfl ?_
                                refine k_nou rfl rfl rfl rfl ?_
                                refine k_nou rfl rfl rfl rfl ?_
                                refine k_nou rfl rfl rfl rfl ?_
                                refine k_nou rfl rfl rfl rfl ?_
                                refine k_no rfl rfl rfl rfl ?_
                                refine k_pickT rfl rfl rfl rfl ?_
                                exact k_met ⟨s70, ⟨(congrArg (fun b => some (Value.bool b)) (Option.some.inj hx47)), trivial⟩, ⟨rfl, rfl, rfl, rfl, rfl, rfl, rfl, rfl, rfl, rfl, rfl, rfl, rfl, rfl, rfl, rfl, rfl, trivial⟩, rfl, hE71⟩
                              · -- t138 False
                                have hx47 := ibF hx47 c72
                                refine k_yes rfl rfl ?_
                                refine k_move rfl rfl ?_
                                refine k_yes rfl rfl ?_
                                refine k_eql rfl rfl rfl ?_
                                refine k_yes rfl rfl ?_
                                refine k_move rfl rfl ?_
                                obtain ⟨x48, hx48, hx47⟩ := ob hx47
                                have hE73 : Step K0 s70 s70 := (Step.refl _).of0 (by first | exact fun _ h => h | (intro c h; simp [KC, KO, KU, KN, KB] at h <;> omega))
                                refine k_cutl (X := St) 7 [(0, .int .i64 a0), (2, S a2), (3, v3), (8, .bool false), (9, v1_0), (12, .int .i64 x20), (13, v34_0), (14, .int .i64 x24), (122, .bool (decide (x25 ≠ 0))), (123, v1_0), (124, .int .i64 x42), (125, v34_0), (126, .int .i64 x43), (127, .int .i64 x24), (128, .int .i64 (i64 (x43 + x24))), (129, .bool (decide (x42 ≠ i64 (x43 + x24)))), (137, .bool x44), (138, .bool false), (139, .int .i64 x20), (140, .bool (decide (x20 = 1)))] (fun _ => [(148, .bool x48)]) (fun sl wL => sl.w = wL ∧ Step K0 s70 sl) ?_ ?_
                                · -- the ways
                                  refine k_again 141 rfl ?_
                                  refine k_split (fun c74 => ?_) (fun c74 => ?_)
                                  · -- t141 True
                                    have hx48 := itT hx48 c74
                                    refine k_yes rfl rfl ?_
                                    refine k_move rfl rfl ?_
                                    refine k_yes rfl rfl ?_
                                    refine k_move rfl rfl ?_
                                    refine k_yes rfl rfl ?_
                                    obtain ⟨x49, hx49, hx48⟩ := ob hx48
                                    refine k_call cal30 rfl (disk_Disk_Size_w  h1_0 hx49) rfl ?_
                                    rintro s75 vr75 st75 rfl
                                    have szs75 := st75.size
                                    have hS : Step K0 s s75 := hS.trans0 st75
                                    have hE30 : Step (KO ku1_0) s29 s75 := hE30.trans0 st75
                                    have hE31 : Step (KO ku1_0) s29 s75 := hE31.trans0 st75
                                    have hE71 : Step K0 s70 s75 := hE71.trans0 st75
                                    have hE73 : Step K0 s70 s75 := hE73.trans0 st75
                                    replace hp3 := hp3.up2 st75
                                    refine k_yes rfl rfl ?_
                                    refine k_move rfl rfl ?_
                                    refine k_yes rfl rfl ?_
                                    refine k_len Tryd.underlying29 rfl hp3.hasLen rfl ?_
                                    refine k_as (v := .int .i64 (a3.length : Int)) (by simp only [List.length_map]) ?_
                                    refine k_yes rfl rfl ?_
                                    refine k_neq rfl rfl rfl ?_
                                    refine k_yes rfl rfl ?_
                                    refine k_pickT rfl rfl rfl rfl ?_
                                    exact k_met ⟨s75, ⟨(congrArg (fun b => some (Value.bool b)) (Option.some.inj hx48)), trivial⟩, ⟨rfl, rfl, rfl, rfl, rfl, rfl, rfl, rfl, rfl, rfl, rfl, rfl, rfl, rfl, rfl, rfl, rfl, rfl, rfl, rfl, trivial⟩, rfl, hE73⟩
                                  · -- t141 False
                                    have hx48 := itF hx48 c74
                                    refine k_no rfl rfl rfl rfl ?_
                                    refine k_no rfl rfl rfl rfl ?_
                                    refine k_no rfl rfl rfl rfl ?_
                                    refine k_no rfl rfl rfl rfl ?_
                                    refine k_no rfl rfl rfl rfl ?_
                                    refine k_no rfl rfl rfl rfl ?_
                                    refine k_yes rfl rfl ?_
                                    refine k_pickF rfl rfl rfl rfl ?_
                                    exact k_met ⟨s70, ⟨(congrArg (fun b => some (Value.bool b)) (Option.some.inj hx48)), trivial⟩, ⟨rfl, rfl, rfl, rfl, rfl, rfl, rfl, rfl, rfl, rfl, rfl, rfl, rfl, rfl, rfl, rfl, rfl, rfl, rfl, rfl, trivial⟩, rfl, hE73⟩
                                · -- behind
                                  rintro s76 wL ⟨rfl, hE73⟩
                                  have szs76 := hE73.size
                                  have hS : Step K0 s s76 := hS.trans0 hE73
                                  have hE30 : Step (KO ku1_0) s29 s76 := hE30.trans0 hE73
                                  have hE31 : Step (KO ku1_0) s29 s76 := hE31.trans0 hE73
                                  have hE71 : Step K0 s70 s76 := hE71.trans0 hE73
                                  refine k_pickF rfl rfl rfl rfl ?_
                                  exact k_met ⟨s76, ⟨(congrArg (fun b => some (Value.bool b)) (Option.some.inj hx47)), trivial⟩, ⟨rfl, rfl, rfl, rfl, rfl, rfl, rfl, rfl, rfl, rfl, rfl, rfl, rfl, rfl, rfl, rfl, rfl, trivial⟩, rfl, hE71⟩
                            · -- behind
                              rintro s77 wL ⟨rfl, hE71⟩
                              have szs77 := hE71.size
                              have hS : Step K0 s s77 := hS.trans0 hE71
                              have hE30 : Step (KO ku1_0) s29 s77 := hE30.trans0 hE71
                              have hE31 : Step (KO ku1_0) s29 s77 := hE31.trans0 hE71
                              replace hp3 := hp3.up2 hE71
                              replace h1_0 := h1_0.up2 hE71
                              replace h34_0 := h34_0.up2 hE71
                              refine k_move rfl rfl ?_
                              obtain ⟨x50, hx50, h⟩ := ob h
                              have hE78 : Step K0 s77 s77 := (Step.refl _).of0 (by first | exact fun _ h => h | (intro c h; simp [KC, KO, KU, KN, KB] at h <;> omega))
                              refine k_cutl (X := St) 15 [(0, .int .i64 a0), (2, S a2), (3, v3), (8, .bool false), (9, v1_0), (12, .int .i64 x20), (13, v34_0), (14, .int .i64 x24), (122, .bool (decide (x25 ≠ 0))), (123, v1_0), (124, .int .i64 x42), (125, v34_0), (126, .int .i64 x43), (127, .int .i64 x24), (128, .int .i64 (i64 (x43 + x24))), (129, .bool (decide (x42 ≠ i64 (x43 + x24)))), (137, .bool x44), (149, .bool x47)] (fun _ => [(165, .bool x50)]) (fun sl wL => sl.w = wL ∧ Step K0 s77 sl) ?_ ?_
                              · -- the ways
                                refine k_again 150 rfl ?_
                                refine k_splitb (fun c79 => ?_) (fun c79 => ?_)
                                · -- t150 True
                                  have hx50 := ibT hx50 c79
                                  refine k_no rfl rfl rfl rfl ?_
                                  refine k_no rfl rfl rfl rfl ?_
                                  refine k_no rfl rfl rfl rfl ?_
                                  refine k_nou rfl rfl rfl rfl ?_
                                  refine k_nou rfl rfl rfl rfl ?_
                                  refine k_nou rfl rfl rfl rfl ?_
                                  refine k_nou rfl rfl rfl rfl ?_
                                  refine k_nou rfl rfl rfl rfl ?_
                                  refine k_nou rfl rfl rfl rfl ?_
                                  refine k_nou rfl rfl rfl rfl ?_
                                  refine k_nou rfl rfl rfl rfl ?_
                                  refine k_nou rfl rfl rfl rfl ?_
                                  refine k_nou rfl rfl rfl rfl ?_
                                  refine k_no rfl rfl rfl rfl ?_
                                  refine k_pickT rfl rfl rfl rfl ?_
                                  exact k_met ⟨s77, ⟨(congrArg (fun b => some (Value.bool b)) (Option.some.inj hx50)), trivial⟩, ⟨rfl, rfl, rfl, rfl, rfl, rfl, rfl, rfl, rfl, rfl, rfl, rfl, rfl, rfl, rfl, rfl, rfl, rfl, trivial⟩, rfl, hE78⟩
                                · -- t150 False
                                  have hx50 := ibF hx50 c79
                                  refine k_yes rfl rfl ?_
                                  refine k_move rfl rfl ?_
                                  refine k_yes rfl rfl ?_
                                  refine k_eql rfl rfl rfl ?_
                                  refine k_yes rfl rfl ?_
                                  refine k_move rfl rfl ?_
                                  obtain ⟨x51, hx51, hx50⟩ := ob hx50
                                  have hE80 : Step K0 s77 s77 := (Step.refl _).of0 (by first | exact fun _ h => h | (intro c h; simp [KC, KO, KU, KN, KB] at h <;> omega))
                                  refine k_cutl (X := St) 11 [(0, .int .i64 a0), (2, S a2), (3, v3), (8, .bool false), (9, v1_0), (12, .int .i64 x20), (13, v34_0), (14, .int .i64 x24), (122, .bool (decide (x25 ≠ 0))), (123, v1_0), (124, .int .i64 x42), (125, v34_0), (126, .int .i64 x43), (127, .int .i64 x24), (128, .int .i64 (i64 (x43 + x24))), (129, .bool (decide (x42 ≠ i64 (x43 + x24)))), (137, .bool x44), (149, .bool x47), (150, .bool false), (151, .int .i64 x20), (152, .bool (decide (x20 = 0)))] (fun _ => [(164, .bool x51)]) (fun sl wL => sl.w = wL ∧ Step K0 s77 sl) ?_ ?_
                                  · -- the ways
                                    refine k_again 153 rfl ?_
                                    refine k_split (fun c81 => ?_) (fun c81 => ?_)
                                    · -- t153 True
                                      have hx51 := itT hx51 c81
                                      refine k_yes rfl rfl ?_
                                      refine k_move rfl rfl ?_
                                      refine k_yes rfl rfl ?_
                                      refine k_move rfl rfl ?_
                                      refine k_yes rfl rfl ?_
                                      obtain ⟨x52, hx52, hx51⟩ := ob hx51
                                      refine k_call cal30 rfl (disk_Disk_Size_w  h1_0 hx52) rfl ?_
                                      rintro s82 vr82 st82 rfl
                                      have szs82 := st82.size
                                      have hS : Step K0 s s82 := hS.trans0 st82
                                      have hE30 : Step (KO ku1_0) s29 s82 := hE30.trans0 st82
                                      have hE31 : Step (KO ku1_0) s29 s82 := hE31.trans0 st82
                                      have hE78 : Step K0 s77 s82 := hE78.trans0 st82
                                      have hE80 : Step K0 s77 s82 := hE80.trans0 st82
                                      replace hp3 := hp3.up2 st82
                                      replace h34_0 := h34_0.up2 st82
                                      refine k_yes rfl rfl ?_
                                      refine k_move rfl rfl ?_
                                      refine k_yes rfl rfl ?_
                                      refine k_move rfl rfl ?_
                                      refine k_yes rfl rfl ?_
                                      obtain ⟨x53, hx53, hx51⟩ := ob hx51
                                      refine k_call cal30 rfl (disk_Disk_Size_w  h34_0 hx53) rfl ?_
                                      rintro s83 vr83 st83 rfl
                                      have szs83 := st83.size
                                      have hS : Step K0 s s83 := hS.trans0 st83
                                      have hE30 : Step (KO ku1_0) s29 s83 := hE30.trans0 st83
                                      have hE31 : Step (KO ku1_0) s29 s83 := hE31.trans0 st83
                                      have hE78 : Step K0 s77 s83 := hE78.trans0 st83
                                      have hE80 : Step K0 s77 s83 := hE80.trans0 st83
                                      replace hp3 := hp3.up2 st83
                                      refine k_yes rfl rfl ?_
                                      refine k_move rfl rfl ?_
                                      refine k_yes rfl rfl ?_
                                      refine k_len Tryd.underlying29 rfl hp3.hasLen rfl ?_
                                      refine k_as (v := .int .i64 (a3.length : Int)) (by simp only [List.length_map]) ?_
                                      refine k_yes rfl rfl ?_
                                      refine k_add rfl rfl rfl ?_
                                      refine k_yes rfl rfl ?_
                                      refine k_neq rfl rfl rfl ?_
                                      refine k_yes rfl rfl ?_
                                      refine k_pickT rfl rfl rfl rfl ?_
                                      exact k_met ⟨s83, ⟨(congrArg (fun b => some (Value.bool b)) (Option.some.inj hx51)), trivial⟩, ⟨rfl, rfl, rfl, rfl, rfl, rfl, rfl, rfl, rfl, rfl, rfl, rfl, rfl, rfl, rfl, rfl, rfl, rfl, rfl, rfl, rfl, trivial⟩, rfl, hE80⟩
                                    · -- t153 False
                                      have hx51 := itF hx51 c81
                                      refine k_no rfl rfl rfl rfl ?_
                                      refine k_no rfl rfl rfl rfl ?_
                                      refine k_no rfl rfl rfl rfl ?_
                                      refine k_no rfl rfl rfl rfl ?_
                                      refine k_no rfl rfl rfl rfl ?_
                                      refine k_no rfl rfl rfl rfl ?_
                                      refine k_no rfl rfl rfl rfl ?_
                                      refine k_no rfl rfl rfl rfl ?_
                                      refine k_no rfl rfl rfl rfl ?_
                                      refine k_no rfl rfl rfl rfl ?_
                                      refine k_yes rfl rfl ?_
                                      refine k_pickF rfl rfl rfl rfl ?_
                                      exact k_met ⟨s77, ⟨(congrArg (fun b => some (Value.bool b)) (Option.some.inj hx51)), trivial⟩, ⟨rfl, rfl, rfl, rfl, rfl, rfl, rfl, rfl, rfl, rfl, rfl, rfl, rfl, rfl, rfl, rfl, rfl, rfl, rfl, rfl, rfl, trivial⟩, rfl, hE80⟩
                                  · -- behind
                                    rintro s84 wL ⟨rfl, hE80⟩
                                    have szs84 := hE80.size
                                    have hS : Step K0 s s84 := hS.trans0 hE80
                                    have hE30 : Step (KO ku1_0) s29 s84 := hE30.trans0 hE80
                                    have hE31 : Step (KO ku1_0) s29 s84 := hE31.trans0 hE80
                                    have hE78 : Step K0 s77 s84 := hE78.trans0 hE80
                                    refine k_pickF rfl rfl rfl rfl ?_
                                    exact k_met ⟨s84, ⟨(congrArg (fun b => some (Value.bool b)) (Option.some.inj hx50)), trivial⟩, ⟨rfl, rfl, rfl, rfl, rfl, rfl, rfl, rfl, rfl, rfl, rfl, rfl, rfl, rfl, rfl, rfl, rfl, rfl, trivial⟩, rfl, hE78⟩
                              · -- behind
                                rintro s85 wL ⟨rfl, hE78⟩
                                have szs85 := hE78.size
                                have hS : Step K0 s s85 := hS.trans0 hE78
                                have hE30 : Step (KO ku1_0) s29 s85 := hE30.trans0 hE78
                                have hE31 : Step (KO ku1_0) s29 s85 := hE31.trans0 hE78
                                replace h1_0 := h1_0.up2 hE78
                                refine k_nil ?_
                                refine k_keep [(0, _), (2, _), (3, _), (8, _), (9, _), (12, _), (165, _)] ⟨rfl, rfl, rfl, rfl, rfl, rfl, rfl, trivial⟩ ?_
                                refine k_cond rfl (fun c86 => ?_) (fun c86 => ?_)
                                · -- T
                                  have h := ibT h c86
                                  refine k_seq ?_
                                  refine k_region ?_
                                  refine k_assign rfl rfl ?_
                                  refine k_nil ?_
                                  refine k_keep [(0, _), (2, _), (3, _), (8, _), (9, _), (12, _)] ⟨rfl, rfl, rfl, rfl, rfl, rfl, trivial⟩ ?_
                                  refine k_ret ?_
                                  obtain rfl := Option.some.inj h
                                  refine ⟨_, rfl, Ret.mk hS ?_⟩
                                  exact rfl
                                · -- F
                                  have h := ibF h c86
                                  refine k_skip ?_
                                  refine k_blk ?_
                                  refine k_region ?_
                                  refine k_move rfl rfl ?_
                                  refine k_add rfl rfl rfl ?_
                                  refine k_assign rfl rfl ?_
                                  refine k_nil ?_
                                  exact k_stop ⟨(s85, i64 (x20 + 1), x26, j), ⟨(by first | rfl | (simp <;> rfl)), trivial⟩, ⟨rfl, rfl, rfl, rfl, rfl, trivial⟩, ⟨rfl, hE31, h1_0, h⟩, (by simp)⟩
              · -- F
                have h := itF h c33
                refine k_exit rfl ?_
                exact k_stop ⟨(s32, x21), trivial, ⟨rfl, trivial⟩, ⟨rfl, hE30, h1_0, h⟩⟩
            · -- behind
              rintro ⟨s87, x19⟩ wL ⟨rfl, hE30, h1_0, h⟩
              rw [hK30] at h
              have szs87 := hE30.size
              have hS : Step K0 s s87 := hS.comp hE30 (by intro l hl hk; (try simp only [KC, KO, KU, KN, K0, KB] at hk ⊢) <;> omega)
              refine k_seq ?_
              refine k_region ?_
              obtain ⟨x54, hx54, h⟩ := ob h
              refine k_call cal13 rfl (law05_awake_w   hx54) rfl ?_
              rintro s88 vr88 st88 rfl
              have szs88 := st88.size
              have hS : Step K0 s s88 := hS.trans0 st88
              refine k_assign rfl rfl ?_
              refine k_nil ?_
              refine k_keep [(8, _)] ⟨rfl, trivial⟩ ?_
              refine k_ret ?_
              obtain rfl := Option.some.inj h
              refine ⟨_, rfl, Ret.mk hS ?_⟩
              exact rfl
end Go.Proofs
