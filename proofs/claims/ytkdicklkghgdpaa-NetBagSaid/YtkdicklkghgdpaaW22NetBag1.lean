import Derived.Test.YtkdicklkghgdpaaW22NetBag0
set_option linter.unusedSimpArgs false
set_option linter.unusedVariables false
namespace Go.Proofs
open Go.Fw
set_option maxHeartbeats 1000000 in
set_option maxRecDepth 100000 in
theorem law22_NetBag_w {s : St} {a0 : Int} {l1 : Lab} {v1 : Value} {a1 : (List Law22Call)} {v2 : Value} {a2 : (List Int)} {r : Bool} (hp1 : SL s l1 v1 5 (a1.map dLaw22Call)) (hp2 : R s v2 (.sl 1 (a2.map dI64))) (h : law22_NetBag a0 a1 a2 = some r) : Calls Try.prog 7 #[.int .i64 a0, v1, v2] s.w (Ret s K0 (fun s1 v => v = .bool r)) := by
  unfold law22_NetBag at h
  obtain ⟨lf1, lf1le, lf1ne, hp1⟩ := hp1.fix
  have hS : Step K0 s s := (Step.refl _).of0 (by first | exact fun _ h => h | (intro c h; simp [KC, KO, KU, KN] at h <;> omega))
  refine k_fn (rs := [6]) (args := [.int .i64 a0, v1, v2]) Try.func7 rfl rfl rfl rfl ?_
  refine k_seq ?_
  refine k_region ?_
  refine k_assign rfl rfl ?_
  refine k_nil ?_
  refine k_seq ?_
  refine k_region ?_
  refine k_move rfl rfl ?_
  obtain ⟨x1, hx1, h⟩ := ob h
  refine k_call cal8 rfl (net_New_w   hx1) rfl ?_
  rintro s1 vr1 st1 ⟨ku1_0, v1_0, rfl, hk1_0, h1_0⟩
  have szs1 := st1.size
  have hS : Step K0 s s1 := hS.trans0 st1
  replace hp1 := hp1.up2 st1
  replace hp2 := hp2.up2 st1
  have ol1_0 := OptONetNet.le (k := ku1_0) h1_0
  refine k_move rfl rfl ?_
  refine k_extract rfl rfl rfl ?_
  refine k_extract rfl rfl rfl ?_
  refine k_assign rfl rfl ?_
  refine k_assign rfl rfl ?_
  refine k_nil ?_
  refine k_keep [(1, _), (2, _), (6, _), (7, _), (8, _)] ⟨rfl, rfl, rfl, rfl, rfl, trivial⟩ ?_
  refine k_seq ?_
  refine k_seq ?_
  refine k_region ?_
  refine k_move rfl rfl ?_
  refine k_neq rfl rfl rfl ?_
  refine k_move rfl rfl ?_
  obtain ⟨x2, hx2, h⟩ := ob h
  have hE2 : Step K0 s1 s1 := (Step.refl _).of0 (by first | exact fun _ h => h | (intro c h; simp [KC, KO, KU, KN] at h <;> omega))
  refine k_cutl (X := St) 3 [(1, v1), (2, v2), (6, .bool false), (7, v1_0), (8, .int .i64 x1.2), (31, .int .i64 x1.2), (32, .bool (decide (x1.2 ≠ 0)))] (fun _ => [(36, .bool x2)]) (fun sl wL => sl.w = wL ∧ Step K0 s1 sl) ?_ ?_
  · -- the ways
    refine k_again 33 rfl ?_
    refine k_split (fun c3 => ?_) (fun c3 => ?_)
    · -- t33 True
      have hx2 := itT hx2 c3
      refine k_no rfl rfl rfl rfl ?_
      refine k_no rfl rfl rfl rfl ?_
      refine k_pickT rfl rfl rfl rfl ?_
      exact k_met ⟨s1, ⟨(congrArg (fun b => some (Value.bool b)) (Option.some.inj hx2)), trivial⟩, ⟨rfl, rfl, rfl, rfl, rfl, rfl, rfl, trivial⟩, rfl, hE2⟩
    · -- t33 False
      have hx2 := itF hx2 c3
      refine k_yes rfl rfl ?_
      refine k_move rfl rfl ?_
      refine k_yes rfl rfl ?_
      obtain ⟨x3, hx3, hx2⟩ := ob hx2
      refine k_call cal9 rfl (law22_many_w  hp1 hx3) rfl ?_
      rintro s4 vr4 st4 rfl
      have szs4 := st4.size
      have hS : Step K0 s s4 := hS.trans0 st4
      have hE2 : Step K0 s1 s4 := hE2.trans0 st4
      replace hp1 := hp1.up2 st4
      replace hp2 := hp2.up2 st4
      replace h1_0 : OptONetNet s4 ku1_0 v1_0 x1.1 := OptONetNet.up3 h1_0 ol1_0 st4
      refine k_pickF rfl rfl rfl rfl ?_
      exact k_met ⟨s4, ⟨(congrArg (fun b => some (Value.bool b)) (Option.some.inj hx2)), trivial⟩, ⟨rfl, rfl, rfl, rfl, rfl, rfl, rfl, trivial⟩, rfl, hE2⟩
  · -- behind
    rintro s5 wL ⟨rfl, hE2⟩
    have szs5 := hE2.size
    have hS : Step K0 s s5 := hS.trans0 hE2
    replace hp1 := hp1.up2 hE2
    replace hp2 := hp2.up2 hE2
    replace h1_0 : OptONetNet s5 ku1_0 v1_0 x1.1 := OptONetNet.up3 h1_0 ol1_0 hE2
    refine k_move rfl rfl ?_
    have hE6 : Step K0 s5 s5 := (Step.refl _).of0 (by first | exact fun _ h => h | (intro c h; simp [KC, KO, KU, KN] at h <;> omega))
    refine k_cutl (X := St) 4 [(1, v1), (2, v2), (6, .bool false), (7, v1_0), (8, .int .i64 x1.2), (31, .int .i64 x1.2), (32, .bool (decide (x1.2 ≠ 0))), (36, .bool x2)] (fun _ => [(41, .bool (decide ((x2 = true) ∨ (400 < (a2.length : Int)))))]) (fun sl wL => sl.w = wL ∧ Step K0 s5 sl) ?_ ?_
    · -- the ways
      refine k_again 37 rfl ?_
      refine k_splitb (fun c7 => ?_) (fun c7 => ?_)
      · -- t37 True
        refine k_no rfl rfl rfl rfl ?_
        refine k_no rfl rfl rfl rfl ?_
        refine k_no rfl rfl rfl rfl ?_
        refine k_pickT rfl rfl rfl rfl ?_
        exact k_met ⟨s5, ⟨(congrArg (fun b => some (Value.bool b)) (by first | exact decide_eq_decide.2 ⟨Or.inr, fun h => h.resolve_left c7⟩ | exact (decide_eq_true (Or.inl c7)).symm | (simp [c7]; done) | (simp [c7, i64] <;> omega))), trivial⟩, ⟨rfl, rfl, rfl, rfl, rfl, rfl, rfl, rfl, trivial⟩, rfl, hE6⟩
      · -- t37 False
        refine k_yes rfl rfl ?_
        refine k_move rfl rfl ?_
        refine k_yes rfl rfl ?_
        refine k_len Try.underlying47 rfl (SL.of_R hp2).hasLen rfl ?_
        refine k_as (v := .int .i64 (a2.length : Int)) (by simp only [List.length_map]) ?_
        refine k_yes rfl rfl ?_
        refine k_gtr rfl rfl rfl ?_
        refine k_pickF rfl rfl rfl rfl ?_
        exact k_met ⟨s5, ⟨(congrArg (fun b => some (Value.bool b)) (by first | exact decide_eq_decide.2 ⟨Or.inr, fun h => h.resolve_left c7⟩ | exact (decide_eq_true (Or.inl c7)).symm | (simp [c7]; done) | (simp [c7, i64] <;> omega))), trivial⟩, ⟨rfl, rfl, rfl, rfl, rfl, rfl, rfl, rfl, trivial⟩, rfl, hE6⟩
    · -- behind
      rintro s8 wL ⟨rfl, hE6⟩
      have szs8 := hE6.size
      have hS : Step K0 s s8 := hS.trans0 hE6
      replace hp1 := hp1.up2 hE6
      replace hp2 := hp2.up2 hE6
      replace h1_0 : OptONetNet s8 ku1_0 v1_0 x1.1 := OptONetNet.up3 h1_0 ol1_0 hE6
      refine k_nil ?_
      refine k_keep [(1, _), (2, _), (6, _), (7, _), (41, _)] ⟨rfl, rfl, rfl, rfl, rfl, trivial⟩ ?_
      refine k_cond_dec rfl (fun c9 => ?_) (fun c9 => ?_)
      · -- T
        have h := itT h c9
        refine k_seq ?_
        refine k_region ?_
        obtain ⟨x4, hx4, h⟩ := ob h
        refine k_call cal10 rfl (law22_awake_w   hx4) rfl ?_
        rintro s10 vr10 st10 rfl
        have szs10 := st10.size
        have hS : Step K0 s s10 := hS.trans0 st10
        replace hp1 := hp1.up2 st10
        replace hp2 := hp2.up2 st10
        replace h1_0 : OptONetNet s10 ku1_0 v1_0 x1.1 := OptONetNet.up3 h1_0 ol1_0 st10
        refine k_assign rfl rfl ?_
        refine k_nil ?_
        refine k_keep [(1, _), (2, _), (6, _), (7, _)] ⟨rfl, rfl, rfl, rfl, trivial⟩ ?_
        refine k_ret ?_
        obtain rfl := Option.some.inj h
        refine ⟨_, rfl, Ret.mk hS ?_⟩
        exact rfl
      · -- F
        have h := itF h c9
        refine k_skip ?_
        refine k_seq ?_
        obtain ⟨x5, hx5, h⟩ := ob h
        replace ol1_0 := ol1_0.resolve_left (fun e => by rw [e] at hx5; cases hx5)
        rw [hx5] at h1_0
        replace h1_0 : ONetNet s8 ku1_0 v1_0 x5 := h1_0
        have le11 := h1_0.le
        have ne11 := h1_0.ne
        refine k_keep [(1, _), (2, _), (6, _), (7, _)] ⟨rfl, rfl, rfl, rfl, trivial⟩ ?_
        obtain ⟨kj6, hK12, h⟩ := jn_out h
        have hE12 : Step (KO ku1_0) s8 s8 := (Step.refl _).of0 (by first | exact fun _ h => h | (intro c h; simp [KC, KO, KU, KN] at h <;> omega))
        refine k_cutc (X := St × NetNet) [(2, v2), (6, .bool false), (7, v1_0)] (fun (xL : St × NetNet) => match xL with | (sl, x7) => []) (fun (xL : St × NetNet) (wL : World) => match xL with | (sl, x7) => sl.w = wL ∧ Step (KO ku1_0) s8 sl ∧ (ONetNet sl ku1_0 v1_0 x7) ∧ kj6 x7 = some r) ?_ ?_
        · -- the ways
          refine k_seq ?_
          refine k_region ?_
          refine k_assign rfl rfl ?_
          refine k_nil ?_
          refine k_block ?_
          refine k_loopc (X := St × Int × NetNet × Nat) [(1, _), (2, _), (6, _), (7, _)] (fun (xL : St × Int × NetNet × Nat) => match xL with | (sl, x8, x9, j) => [(9, .int .i64 x8)]) (fun (xL : St × Int × NetNet × Nat) (wL : World) => match xL with | (sl, x8, x9, j) => sl.w = wL ∧ Step (KO ku1_0) s8 sl ∧ (ONetNet sl ku1_0 v1_0 x9) ∧ law22_NetBag_l1 a1 kj6 j x8 x9 = some r) (fun (xL : St × Int × NetNet × Nat) => match xL with | (sl, x8, x9, j) => j) (s8, 0, x5, FU) ⟨rfl, rfl, rfl, rfl, trivial⟩ ⟨(by first | rfl | (simp <;> rfl)), trivial⟩ ⟨rfl, (Step.refl _).of0 (by first | exact fun _ h => h | (intro c h; simp [KC, KO, KU, KN] at h <;> omega)), h1_0, h⟩ ?_
          rintro ⟨s14, x8, x9, j⟩ wL ⟨rfl, hE13, h1_0, h⟩
          cases j with
          | zero => rw [law22_NetBag_l1] at h; exact (noneNe h).elim
          | succ j =>
          rw [law22_NetBag_l1] at h
          have szs14 := hE13.size
          have hS : Step K0 s s14 := hS.comp hE13 (by intro l hl hk; (try simp only [KC, KO, KU, KN, K0] at hk ⊢) <;> omega)
          have hE12 : Step (KO ku1_0) s8 s14 := hE12.comp hE13 (by intro l hl hk; (try simp only [KC, KO, KU, KN, K0] at hk ⊢) <;> omega)
          replace hp1 := hp1.up2 hE13
          replace hp2 := hp2.up2 hE13
          refine k_seq ?_
          refine k_seq ?_
          refine k_region ?_
          refine k_move rfl rfl ?_
          refine k_move rfl rfl ?_
          refine k_len Try.underlying22 rfl hp1.hasLen rfl ?_
          refine k_as (v := .int .i64 (a1.length : Int)) (by simp only [List.length_map]) ?_
          refine k_lss rfl rfl rfl ?_
          refine k_nil ?_
          refine k_keep [(1, _), (2, _), (6, _), (7, _), (9, _), (46, _)] ⟨rfl, rfl, rfl, rfl, rfl, rfl, trivial⟩ ?_
          refine k_cond_dec rfl (fun c15 => ?_) (fun c15 => ?_)
          · -- T
            have h := itT h c15
            refine k_skip ?_
            refine k_seq ?_
            refine k_block ?_
            refine k_seq ?_
            refine k_region ?_
            refine k_move rfl rfl ?_
            refine k_move rfl rfl ?_
            obtain ⟨x10, hx10, h⟩ := ob h
            refine k_ixaddr Try.underlying22 size32 rfl rfl hp1 (geti_out hx10).1 (geti_map hx10) rfl ?_
            intro qx10 hqx10
            refine k_field_at (o := 0) rfl hqx10 (by rfl) fld32_0 rfl ?_
            intro q16 h16
            refine k_load_val one3 rfl h16 rfl ?_
            refine k_nil ?_
            refine k_keep [(1, _), (2, _), (6, _), (7, _), (9, _), (53, _)] ⟨rfl, rfl, rfl, rfl, rfl, rfl, trivial⟩ ?_
            refine k_block ?_
            refine k_seq ?_
            refine k_region ?_
            refine k_eql rfl rfl rfl ?_
            refine k_assign rfl rfl ?_
            refine k_nil ?_
            refine k_keep [(1, _), (2, _), (6, _), (7, _), (9, _), (53, _), (54, _)] ⟨rfl, rfl, rfl, rfl, rfl, rfl, rfl, trivial⟩ ?_
            refine k_cond_dec rfl (fun c17 => ?_) (fun c17 => ?_)
            · -- T
              have h := itT h c17
              refine k_keep [(1, _), (2, _), (6, _), (7, _), (9, _)] ⟨rfl, rfl, rfl, rfl, rfl, trivial⟩ ?_
              refine k_drawT (KU (KN s14.n) (KO ku1_0)) 17 (.read 0 (.read 1 (.read 2 (.read 3 (.read 4 (.read 5 (.read 6 (.read 7 (.read 8 (.read 9 (.read 10 (.read 11 (.read 12 (.read 13 (.read 14 (.read 15 (.alt 16 .fin .no))))))))))))))))) mixed (by intro c h; (try simp only [KC, KO, KU, KN] at h) <;> omega) rfl rfl rfl ?_
              intro s18 st18
              have szs18 := st18.size
              have hS : Step K0 s s18 := hS.trans0 st18
              have hE12 : Step (KO ku1_0) s8 s18 := hE12.trans0 st18
              have hE13 : Step (KO ku1_0) s8 s18 := hE13.trans0 st18
              replace hp1 := hp1.up2 st18
              replace hp2 := hp2.up2 st18
              replace h1_0 := h1_0.up2 st18
              refine rt_read (v1_0) rfl rfl (fun s19 st19 => ?_) ?_
              · try replace hp1 := hp1.up2 st19
                try replace hp2 := hp2.up2 st19
                try replace h1_0 := h1_0.up2 st19
                refine k_move rfl rfl ?_
                exact fq_end
              refine rt_read (v1) rfl rfl (fun s20 st20 => ?_) ?_
              · try replace hp1 := hp1.up2 st20
                try replace hp2 := hp2.up2 st20
                try replace h1_0 := h1_0.up2 st20
                refine k_move rfl rfl ?_
                exact fq_end
              refine rt_read (.int .i64 x8) rfl rfl (fun s21 st21 => ?_) ?_
              · try replace hp1 := hp1.up2 st21
                try replace hp2 := hp2.up2 st21
                try replace h1_0 := h1_0.up2 st21
                refine k_move rfl rfl ?_
                exact fq_end
              obtain ⟨x11, hx11, h⟩ := ob h
              refine rt_ix rfl (wanted_none rfl) Try.underlying22 size32 rfl rfl hp1 (geti_out hx11).1 (geti_map hx11) rfl ?_
              intro q22 hq22
              refine rt_fa rfl (wanted_none rfl) rfl hq22 (by rfl) fld32_1 rfl ?_
              intro q23 h23
              refine rt_read (.int .i64 x11.A) rfl rfl (fun s24 st24 => ?_) ?_
              · try replace hp1 := hp1.up2 st24
                try replace hp2 := hp2.up2 st24
                try replace hq22 := hq22.up2 st24
                try replace h23 := h23.up2 st24
                try replace h1_0 := h1_0.up2 st24
                refine k_load_val one3 rfl h23 rfl ?_
                exact fq_end
              refine rt_read (v1) rfl rfl (fun s25 st25 => ?_) ?_
              · try replace hp1 := hp1.up2 st25
                try replace hp2 := hp2.up2 st25
                try replace hq22 := hq22.up2 st25
                try replace h23 := h23.up2 st25
                try replace h1_0 := h1_0.up2 st25
                refine k_move rfl rfl ?_
                exact fq_end
              refine rt_read (.int .i64 x8) rfl rfl (fun s26 st26 => ?_) ?_
              · try replace hp1 := hp1.up2 st26
                try replace hp2 := hp2.up2 st26
                try replace hq22 := hq22.up2 st26
                try replace h23 := h23.up2 st26
                try replace h1_0 := h1_0.up2 st26
                refine k_move rfl rfl ?_
                exact fq_end
              obtain ⟨x12, hx12, h⟩ := ob h
              refine rt_ix rfl (wanted_none rfl) Try.underlying22 size32 rfl rfl hp1 (geti_out hx12).1 (geti_map hx12) rfl ?_
              intro q27 hq27
              refine rt_fa rfl (wanted_none rfl) rfl hq27 (by rfl) fld32_2 rfl ?_
              intro q28 h28
              refine rt_read (.int .i64 x12.B) rfl rfl (fun s29 st29 => ?_) ?_
              · try replace hp1 := hp1.up2 st29
                try replace hp2 := hp2.up2 st29
                try replace hq22 := hq22.up2 st29
                try replace h23 := h23.up2 st29
                try replace hq27 := hq27.up2 st29
                try replace h28 := h28.up2 st29
                try replace h1_0 := h1_0.up2 st29
                refine k_load_val one3 rfl h28 rfl ?_
                exact fq_end
              refine rt_read (v1) rfl rfl (fun s30 st30 => ?_) ?_
              · try replace hp1 := hp1.up2 st30
                try replace hp2 := hp2.up2 st30
                try replace hq22 := hq22.up2 st30
                try replace h23 := h23.up2 st30
                try replace hq27 := hq27.up2 st30
                try replace h28 := h28.up2 st30
                try replace h1_0 := h1_0.up2 st30
                refine k_move rfl rfl ?_
                exact fq_end
              refine rt_read (.int .i64 x8) rfl rfl (fun s31 st31 => ?_) ?_
              · try replace hp1 := hp1.up2 st31
                try replace hp2 := hp2.up2 st31
                try replace hq22 := hq22.up2 st31
                try replace h23 := h23.up2 st31
                try replace hq27 := hq27.up2 st31
                try replace h28 := h28.up2 st31
                try replace h1_0 := h1_0.up2 st31
                refine k_move rfl rfl ?_
                exact fq_end
              obtain ⟨x13, hx13, h⟩ := ob h
              refine rt_ix rfl (wanted_none rfl) Try.underlying22 size32 rfl rfl hp1 (geti_out hx13).1 (geti_map hx13) rfl ?_
              intro q32 hq32
              refine rt_fa rfl (wanted_none rfl) rfl hq32 (by rfl) fld32_4 rfl ?_
              intro q33 h33
              refine rt_ldsl rfl (wanted_none rfl) one23 rfl h33 (by first | exact id | (simp only [KC, KO, KU, KN] <;> omega)) rfl ?_
              intro v34 h34
              refine rt_act rfl rfl ?_
              have hA35 : Step (KU (KN s14.n) (KO ku1_0)) s18 s18 := (Step.refl _).of0 (by first | exact fun _ h => h | (intro c h; simp [KC, KO, KU, KN] at h <;> omega))
              obtain ⟨x14, hx14, h⟩ := ob h
              refine k_call cal11 rfl (net_Net_Send_w  h1_0 (SL.of_R h34) (by first | assumption | omega | (simp <;> omega)) hx14) rfl ?_
              rintro s36 vr36 st36 ⟨rfl, h1_0⟩
              have szs36 := st36.size
              have hS : Step K0 s s36 := hS.comp st36 (by intro l hl hk; (try simp only [KC, KO, KU, KN, K0] at hk ⊢) <;> omega)
              have hE12 : Step (KO ku1_0) s8 s36 := hE12.comp st36 (by intro l hl hk; (try simp only [KC, KO, KU, KN, K0] at hk ⊢) <;> omega)
              have hE13 : Step (KO ku1_0) s8 s36 := hE13.comp st36 (by intro l hl hk; (try simp only [KC, KO, KU, KN, K0] at hk ⊢) <;> omega)
              have hA35 : Step (KU (KN s14.n) (KO ku1_0)) s18 s36 := hA35.comp st36 (by intro l hl hk; (try simp only [KC, KO, KU, KN, K0] at hk ⊢) <;> omega)
              replace hp1 := hp1.up2 st36
              replace hp2 := hp2.up2 st36
              replace hq22 := hq22.up2 st36
              replace h23 := h23.up2 st36
              replace hq27 := hq27.up2 st36
              replace h28 := h28.up2 st36
              replace hq32 := hq32.up2 st36
              replace h33 := h33.up2 st36
              replace h34 := h34.up2 st36
              refine rt_cont hA35 ?_
              refine rt_fin ?_
              refine k_nil ?_
              refine k_blk ?_
              refine k_blk ?_
              refine k_region ?_
              refine k_move rfl rfl ?_
              refine k_add rfl rfl rfl ?_
              refine k_assign rfl rfl ?_
              refine k_nil ?_
              exact k_stop ⟨(s36, i64 (x8 + 1), x14.2.2, j), ⟨(by first | rfl | (simp <;> rfl)), trivial⟩, ⟨rfl, rfl, rfl, rfl, trivial⟩, ⟨rfl, hE13, h1_0, h⟩, (by simp)⟩
            · -- F
              have h := itF h c17
              refine k_seq ?_
              refine k_region ?_
              refine k_eql rfl rfl rfl ?_
              refine k_assign rfl rfl ?_
              refine k_nil ?_
              refine k_keep [(1, _), (2, _), (6, _), (7, _), (9, _), (53, _), (73, _)] ⟨rfl, rfl, rfl, rfl, rfl, rfl, rfl, trivial⟩ ?_
              refine k_cond_dec rfl (fun c37 => ?_) (fun c37 => ?_)
              · -- T
                have h := itT h c37
                refine k_region ?_
                refine k_move rfl rfl ?_
                refine k_move rfl rfl ?_
                refine k_move rfl rfl ?_
                obtain ⟨x15, hx15, h⟩ := ob h
                refine k_ixaddr Try.underlying22 size32 rfl rfl hp1 (geti_out hx15).1 (geti_map hx15) rfl ?_
                intro qx15 hqx15
                refine k_field_at (o := 0) rfl hqx15 (by rfl) fld32_3 rfl ?_
                intro q38 h38
                refine k_load_val one30 rfl h38 rfl ?_
                obtain ⟨x16, hx16, h⟩ := ob h
                refine k_call cal15 rfl (net_Net_Drop_w  h1_0 hx16) rfl ?_
                rintro s39 vr39 st39 ⟨rfl, h1_0⟩
                have szs39 := st39.size
                have hS : Step K0 s s39 := hS.comp st39 (by intro l hl hk; (try simp only [KC, KO, KU, KN, K0] at hk ⊢) <;> omega)
                have hE12 : Step (KO ku1_0) s8 s39 := hE12.comp st39 (by intro l hl hk; (try simp only [KC, KO, KU, KN, K0] at hk ⊢) <;> omega)
                have hE13 : Step (KO ku1_0) s8 s39 := hE13.comp st39 (by intro l hl hk; (try simp only [KC, KO, KU, KN, K0] at hk ⊢) <;> omega)
                replace hp1 := hp1.up2 st39
                replace hp2 := hp2.up2 st39
                replace hqx15 := hqx15.up2 st39
                replace h38 := h38.up2 st39
                refine k_nil ?_
                refine k_blk ?_
                refine k_blk ?_
                refine k_region ?_
                refine k_move rfl rfl ?_
                refine k_add rfl rfl rfl ?_
                refine k_assign rfl rfl ?_
                refine k_nil ?_
                exact k_stop ⟨(s39, i64 (x8 + 1), x16.2, j), ⟨(by first | rfl | (simp <;> rfl)), trivial⟩, ⟨rfl, rfl, rfl, rfl, trivial⟩, ⟨rfl, hE13, h1_0, h⟩, (by simp)⟩
              · -- F
                have h := itF h c37
                refine k_seq ?_
                refine k_region ?_
                refine k_eql rfl rfl rfl ?_
                refine k_assign rfl rfl ?_
                refine k_nil ?_
                refine k_keep [(1, _), (2, _), (6, _), (7, _), (9, _), (82, _)] ⟨rfl, rfl, rfl, rfl, rfl, rfl, trivial⟩ ?_
                refine k_cond_dec rfl (fun c40 => ?_) (fun c40 => ?_)
                · -- T
                  have h := itT h c40
                  refine k_region ?_
                  refine k_move rfl rfl ?_
                  refine k_move rfl rfl ?_
                  refine k_move rfl rfl ?_
                  obtain ⟨x17, hx17, h⟩ := ob h
                  refine k_ixaddr Try.underlying22 size32 rfl rfl hp1 (geti_out hx17).1 (geti_map hx17) rfl ?_
                  intro qx17 hqx17
                  refine k_field_at (o := 0) rfl hqx17 (by rfl) fld32_3 rfl ?_
                  intro q41 h41
                  refine k_load_val one30 rfl h41 rfl ?_
                  obtain ⟨x18, hx18, h⟩ := ob h
                  refine k_call cal13 rfl (net_Net_Double_w  h1_0 hx18) rfl ?_
                  rintro s42 vr42 st42 ⟨rfl, h1_0⟩
                  have szs42 := st42.size
                  have hS : Step K0 s s42 := hS.comp st42 (by intro l hl hk; (try simp only [KC, KO, KU, KN, K0] at hk ⊢) <;> omega)
                  have hE12 : Step (KO ku1_0) s8 s42 := hE12.comp st42 (by intro l hl hk; (try simp only [KC, KO, KU, KN, K0] at hk ⊢) <;> omega)
                  have hE13 : Step (KO ku1_0) s8 s42 := hE13.comp st42 (by intro l hl hk; (try simp only [KC, KO, KU, KN, K0] at hk ⊢) <;> omega)
                  replace hp1 := hp1.up2 st42
                  replace hp2 := hp2.up2 st42
                  replace hqx17 := hqx17.up2 st42
                  replace h41 := h41.up2 st42
                  refine k_nil ?_
                  refine k_blk ?_
                  refine k_blk ?_
                  refine k_region ?_
                  refine k_move rfl rfl ?_
                  refine k_add rfl rfl rfl ?_
                  refine k_assign rfl rfl ?_
                  refine k_nil ?_
                  exact k_stop ⟨(s42, i64 (x8 + 1), x18.2.2, j), ⟨(by first | rfl | (simp <;> rfl)), trivial⟩, ⟨rfl, rfl, rfl, rfl, trivial⟩, ⟨rfl, hE13, h1_0, h⟩, (by simp)⟩
                · -- F
                  have h := itF h c40
                  refine k_skip ?_
                  refine k_blk ?_
                  refine k_blk ?_
                  refine k_region ?_
                  refine k_move rfl rfl ?_
                  refine k_add rfl rfl rfl ?_
                  refine k_assign rfl rfl ?_
                  refine k_nil ?_
                  exact k_stop ⟨(s14, i64 (x8 + 1), x9, j), ⟨(by first | rfl | (simp <;> rfl)), trivial⟩, ⟨rfl, rfl, rfl, rfl, trivial⟩, ⟨rfl, hE13, h1_0, h⟩, (by simp)⟩
          · -- F
            have h := itF h c15
            refine k_exit rfl ?_
            exact k_stop ⟨(s14, x9), trivial, ⟨rfl, rfl, rfl, trivial⟩, ⟨rfl, hE12, h1_0, h⟩⟩
        · -- behind
          rintro ⟨s43, x7⟩ wL ⟨rfl, hE12, h1_0, h⟩
          rw [hK12] at h
          have szs43 := hE12.size
          have hS : Step K0 s s43 := hS.comp hE12 (by intro l hl hk; (try simp only [KC, KO, KU, KN, K0] at hk ⊢) <;> omega)
          replace hp2 := hp2.up2 hE12
          refine k_seq ?_
          refine k_region ?_
          refine k_move rfl rfl ?_
          obtain ⟨x19, hx19, h⟩ := ob h
          refine k_call cal22 rfl (net_Net_Copy_w  h1_0 hx19) rfl ?_
          rintro s44 v44_0 st44 ⟨ku44_0, _, rfl, hk44_0, h44_0⟩
          have szs44 := st44.size
          have hS : Step K0 s s44 := hS.trans0 st44
          replace hp2 := hp2.up2 st44
          replace h1_0 := h1_0.up2 st44
          have ol44_0 := OptONetNet.le (k := ku44_0) h44_0
          refine k_assign rfl rfl ?_
          refine k_nil ?_
          refine k_keep [(2, _), (6, _), (7, _), (10, _)] ⟨rfl, rfl, rfl, rfl, trivial⟩ ?_
          refine k_seq ?_
          refine k_region ?_
          refine k_move rfl rfl ?_
          obtain ⟨x20, hx20, h⟩ := ob h
          refine k_call cal14 rfl (net_Net_Letters_w  h1_0 hx20) rfl ?_
          rintro s45 v45_0 st45 ⟨_, rfl, h45_0⟩
          have szs45 := st45.size
          have hS : Step K0 s s45 := hS.trans0 st45
          replace hp2 := hp2.up2 st45
          replace h1_0 := h1_0.up2 st45
          replace h44_0 : OptONetNet s45 ku44_0 v44_0 x19 := OptONetNet.up3 h44_0 ol44_0 st45
          refine k_assign rfl rfl ?_
          refine k_nil ?_
          refine k_keep [(2, _), (6, _), (7, _), (10, _), (11, _)] ⟨rfl, rfl, rfl, rfl, rfl, trivial⟩ ?_
          refine k_seq ?_
          refine k_region ?_
          refine k_move rfl rfl ?_
          refine k_len Try.underlying40 rfl (SL.of_R h45_0).hasLen rfl ?_
          refine k_as (v := .int .i64 (x20.length : Int)) (by simp only [List.length_map]) ?_
          obtain ⟨x21, hx21, h⟩ := ob h
          refine k_makeI2 (dz := dApiMessage (⟨0, 0, []⟩ : ApiMessage)) (p := (x20.length : Int)) elem46 rfl rfl (makel_out hx21).1 (clsApiMessage (⟨0, 0, []⟩ : ApiMessage) (R.of_SL (.inl ⟨rfl, none, 0, rfl, fun _ => rfl⟩))) rfl (by have := (makel_out hx21).2.1; omega) (by have := (makel_out hx21).2.1; omega) rfl ?_
          intro s46 v46 b46 st46 ge46 bl46 h46
          rw [← List.map_replicate, ← (makel_out hx21).2.2] at h46
          have szs46 := st46.size
          have hS : Step K0 s s46 := hS.trans0 st46
          replace hp2 := hp2.up2 st46
          replace h45_0 := h45_0.up2 st46
          replace h1_0 := h1_0.up2 st46
          replace h44_0 : OptONetNet s46 ku44_0 v44_0 x19 := OptONetNet.up3 h44_0 ol44_0 st46
          have lt46 := Own.le1 h46
          refine k_assign rfl rfl ?_
          refine k_nil ?_
          refine k_keep [(2, _), (6, _), (7, _), (10, _), (11, _), (12, _)] ⟨rfl, rfl, rfl, rfl, rfl, rfl, trivial⟩ ?_
          refine k_seq ?_
          obtain ⟨x22, hx22, h⟩ := ob h
          replace ol44_0 := ol44_0.resolve_left (fun e => by rw [e] at hx22; cases hx22)
          rw [hx22] at h44_0
          replace h44_0 : ONetNet s46 ku44_0 v44_0 x22 := h44_0
          have le47 := h44_0.le
          have ne47 := h44_0.ne
          obtain ⟨kj23, hK48, h⟩ := jn_out h
          have hE48 : Step (KU (KO ku1_0) (KC (b46 + 1) 0)) s46 s46 := (Step.refl _).of0 (by first | exact fun _ h => h | (intro c h; simp [KC, KO, KU, KN] at h <;> omega))
          refine k_cutc (X := St × NetNet × (List ApiMessage)) [(2, v2), (6, .bool false), (7, v1_0), (10, v44_0), (11, v45_0), (12, v46)] (fun (xL : St × NetNet × (List ApiMessage)) => match xL with | (sl, x24, x25) => []) (fun (xL : St × NetNet × (List ApiMessage)) (wL : World) => match xL with | (sl, x24, x25) => sl.w = wL ∧ Step (KU (KO ku1_0) (KC (b46 + 1) 0)) s46 sl ∧ (ONetNet sl ku1_0 v1_0 x24) ∧ (Own sl ⟨b46 + 1, 0⟩ 36 3 v46 (x25.map dApiMessage)) ∧ kj23 x24 x25 = some r) ?_ ?_
          · -- the ways
            refine k_seq ?_
            refine k_region ?_
            refine k_assign rfl rfl ?_
            refine k_nil ?_
            refine k_block ?_
            refine k_loopc (X := St × Int × NetNet × (List ApiMessage) × Nat) [(2, _), (6, _), (7, _), (10, _), (11, _), (12, _)] (fun (xL : St × Int × NetNet × (List ApiMessage) × Nat) => match xL with | (sl, x26, x27, x28, j) => [(13, .int .i64 x26)]) (fun (xL : St × Int × NetNet × (List ApiMessage) × Nat) (wL : World) => match xL with | (sl, x26, x27, x28, j) => sl.w = wL ∧ Step (KU (KO ku1_0) (KC (b46 + 1) 0)) s46 sl ∧ (ONetNet sl ku1_0 v1_0 x27) ∧ (Own sl ⟨b46 + 1, 0⟩ 36 3 v46 (x28.map dApiMessage)) ∧ law22_NetBag_l2 x20 kj23 j x26 x27 x28 = some r) (fun (xL : St × Int × NetNet × (List ApiMessage) × Nat) => match xL with | (sl, x26, x27, x28, j) => j) (s46, 0, x7, x21, FU) ⟨rfl, rfl, rfl, rfl, rfl, rfl, trivial⟩ ⟨(by first | rfl | (simp <;> rfl)), trivial⟩ ⟨rfl, (Step.refl _).of0 (by first | exact fun _ h => h | (intro c h; simp [KC, KO, KU, KN] at h <;> omega)), h1_0, h46, h⟩ ?_
            rintro ⟨s50, x26, x27, x28, j⟩ wL ⟨rfl, hE49, h1_0, h46, h⟩
            cases j with
            | zero => rw [law22_NetBag_l2] at h; exact (noneNe h).elim
            | succ j =>
            rw [law22_NetBag_l2] at h
            have szs50 := hE49.size
            have hS : Step K0 s s50 := hS.comp hE49 (by intro l hl hk; (try simp only [KC, KO, KU, KN, K0] at hk ⊢) <;> omega)
            have hE48 : Step (KU (KO ku1_0) (KC (b46 + 1) 0)) s46 s50 := hE48.comp hE49 (by intro l hl hk; (try simp only [KC, KO, KU, KN, K0] at hk ⊢) <;> omega)
            replace hp2 := hp2.up2 hE49
            replace h45_0 := h45_0.up2 hE49
            replace h44_0 := h44_0.up2 hE49
            refine k_seq ?_
            refine k_seq ?_
            refine k_region ?_
            refine k_move rfl rfl ?_
            refine k_move rfl rfl ?_
            refine k_len Try.underlying40 rfl (SL.of_R h45_0).hasLen rfl ?_
            refine k_as (v := .int .i64 (x20.length : Int)) (by simp only [List.length_map]) ?_
            refine k_lss rfl rfl rfl ?_
            refine k_nil ?_
            refine k_keep [(2, _), (6, _), (7, _), (10, _), (11, _), (12, _), (13, _), (101, _)] ⟨rfl, rfl, rfl, rfl, rfl, rfl, rfl, rfl, trivial⟩ ?_
            refine k_cond_dec rfl (fun c51 => ?_) (fun c51 => ?_)
            · -- T
              have h := itT h c51
              refine k_skip ?_
              refine k_seq ?_
              refine k_block ?_
              refine k_seq ?_
              refine k_region ?_
              refine k_move rfl rfl ?_
              refine k_move rfl rfl ?_
              refine k_move rfl rfl ?_
              obtain ⟨x29, hx29, h⟩ := ob h
              refine k_ixaddr Try.underlying40 size43 rfl rfl (SL.of_R h45_0) (geti_out hx29).1 (geti_map hx29) rfl ?_
              intro qx29 hqx29
              refine k_field_at (o := 0) rfl hqx29 (by rfl) fld43_0 rfl ?_
              intro q52 h52
              refine k_load_val one30 rfl h52 rfl ?_
              obtain ⟨x30, hx30, h⟩ := ob h
              refine k_call cal12 rfl (net_Net_Deliver_w  h1_0 hx30) rfl ?_
              rintro s53 vr53 st53 ⟨cs53_0, rfl, h53_0, h1_0⟩
              have szs53 := st53.size
              have hS : Step K0 s s53 := hS.comp st53 (by intro l hl hk; (try simp only [KC, KO, KU, KN, K0] at hk ⊢) <;> omega)
              have hE48 : Step (KU (KO ku1_0) (KC (b46 + 1) 0)) s46 s53 := hE48.comp st53 (by intro l hl hk; (try simp only [KC, KO, KU, KN, K0] at hk ⊢) <;> omega)
              have hE49 : Step (KU (KO ku1_0) (KC (b46 + 1) 0)) s46 s53 := hE49.comp st53 (by intro l hl hk; (try simp only [KC, KO, KU, KN, K0] at hk ⊢) <;> omega)
              replace hp2 := hp2.up2 st53
              replace h45_0 := h45_0.up2 st53
              replace hqx29 := hqx29.up2 st53
              replace h52 := h52.up2 st53
              replace h44_0 := h44_0.up2 st53
              replace h46 := h46.up2 st53
              obtain ⟨q53_0_0, rfl, hq53_0_0⟩ := opnApiMessage h53_0
              refine k_move rfl rfl ?_
              refine k_extract rfl rfl rfl ?_
              refine k_extract rfl rfl rfl ?_
              refine k_alloc zero36 rfl ?_
              intro s54 b54 st54 h54 ge54
              have szs54 := st54.size
              have hS : Step K0 s s54 := hS.trans0 st54
              have hE48 : Step (KU (KO ku1_0) (KC (b46 + 1) 0)) s46 s54 := hE48.trans0 st54
              have hE49 : Step (KU (KO ku1_0) (KC (b46 + 1) 0)) s46 s54 := hE49.trans0 st54
              replace hp2 := hp2.up2 st54
              replace h45_0 := h45_0.up2 st54
              replace hqx29 := hqx29.up2 st54
              replace h52 := h52.up2 st54
              replace hq53_0_0 := hq53_0_0.up2 st54
              replace h1_0 := h1_0.up2 st54
              replace h44_0 := h44_0.up2 st54
              replace h46 := h46.up2 st54
              have lt54 := h54.lt
              refine k_store_c (cs' := [.int .i64 x30.1.From, .int .i64 x30.1.To, q53_0_0]) size36 rfl rfl h54 (by first | (simp; done) | omega | (dsimp only; omega)) (CellsOf.lit (vs := [.int .i64 x30.1.From, .int .i64 x30.1.To, q53_0_0]) rfl (ones.cons rfl (ones.cons rfl (ones.cons ((SL.of_R hq53_0_0)).one1 ones.nil)))) rfl (by first | rfl | (simp; done) | (simp; omega)) rfl ?_
              intro s55 st55 h54
              have szs55 := st55.size
              have hS : Step K0 s s55 := hS.comp st55 (by intro l hl hk; (try simp only [KC, KO, KU, KN, K0] at hk ⊢) <;> omega)
              have hE48 : Step (KU (KO ku1_0) (KC (b46 + 1) 0)) s46 s55 := hE48.comp st55 (by intro l hl hk; (try simp only [KC, KO, KU, KN, K0] at hk ⊢) <;> omega)
              have hE49 : Step (KU (KO ku1_0) (KC (b46 + 1) 0)) s46 s55 := hE49.comp st55 (by intro l hl hk; (try simp only [KC, KO, KU, KN, K0] at hk ⊢) <;> omega)
              replace hp2 := hp2.up2 st55
              replace h45_0 := h45_0.up2 st55
              replace hqx29 := hqx29.up2 st55
              replace h52 := h52.up2 st55
              replace hq53_0_0 := hq53_0_0.up2 st55
              replace h1_0 := h1_0.up2 st55
              replace h44_0 := h44_0.up2 st55
              replace h46 := h46.up2 st55
              refine k_assign rfl rfl ?_
              refine k_nil ?_
              refine k_keep [(2, _), (6, _), (7, _), (10, _), (11, _), (12, _), (13, _), (14, _), (15, _)] ⟨rfl, rfl, rfl, rfl, rfl, rfl, rfl, rfl, rfl, trivial⟩ ?_
              refine k_seq ?_
              refine k_seq ?_
              refine k_drawT (KN s55.n) 33 (.read 0 (.read 1 (.read 2 (.read 3 (.read 4 (.read 5 (.read 6 (.read 7 (.read 8 (.read 9 (.read 10 (.read 11 (.read 12 (.read 13 (.read 14 (.read 15 (.read 16 (.read 17 (.read 18 (.read 19 (.read 20 (.read 21 (.read 22 (.read 23 (.read 24 (.read 25 (.read 26 (.read 27 (.read 28 (.read 29 (.read 30 (.read 31 (.read 32 .fin))))))))))))))))))))))))))))))))) mixed (by intro c h; (try simp only [KC, KO, KU, KN] at h) <;> omega) rfl rfl rfl ?_
              intro s56 st56
              have szs56 := st56.size
              have hS : Step K0 s s56 := hS.trans0 st56
              have hE48 : Step (KU (KO ku1_0) (KC (b46 + 1) 0)) s46 s56 := hE48.trans0 st56
              have hE49 : Step (KU (KO ku1_0) (KC (b46 + 1) 0)) s46 s56 := hE49.trans0 st56
              replace hp2 := hp2.up2 st56
              replace h45_0 := h45_0.up2 st56
              replace h1_0 := h1_0.up2 st56
              replace h44_0 := h44_0.up2 st56
              replace h46 := h46.up2 st56
              replace hq53_0_0 := hq53_0_0.up2 st56
              replace h54 := h54.up2 st56
              refine rt_read (.int .i64 x30.2.1) rfl rfl (fun s57 st57 => ?_) ?_
              · try replace hp2 := hp2.up2 st57
                try replace h45_0 := h45_0.up2 st57
                try replace h1_0 := h1_0.up2 st57
                try replace h44_0 := h44_0.up2 st57
                try replace h46 := h46.up2 st57
                try replace hq53_0_0 := hq53_0_0.up2 st57
                try replace h54 := h54.up2 st57
                refine k_move rfl rfl ?_
                exact fq_end
              refine rt_read (.bool (decide (x30.2.1 ≠ 0))) rfl rfl (fun s58 st58 => ?_) ?_
              · try replace hp2 := hp2.up2 st58
                try replace h45_0 := h45_0.up2 st58
                try replace h1_0 := h1_0.up2 st58
                try replace h44_0 := h44_0.up2 st58
                try replace h46 := h46.up2 st58
                try replace hq53_0_0 := hq53_0_0.up2 st58
                try replace h54 := h54.up2 st58
                refine k_neq rfl rfl rfl ?_
                exact fq_end
              refine rt_read (.bool (decide (x30.2.1 ≠ 0))) rfl rfl (fun s59 st59 => ?_) ?_
              · try replace hp2 := hp2.up2 st59
                try replace h45_0 := h45_0.up2 st59
                try replace h1_0 := h1_0.up2 st59
                try replace h44_0 := h44_0.up2 st59
                try replace h46 := h46.up2 st59
                try replace hq53_0_0 := hq53_0_0.up2 st59
                try replace h54 := h54.up2 st59
                refine k_move rfl rfl ?_
                exact fq_end
              refine rt_split (fun c60 => ?_) (fun c60 => ?_)
              · -- t116 True
                have h := itT h c60
                refine rt_read undef rfl rfl (fun s61 st61 => ?_) ?_
                · refine k_no rfl rfl rfl rfl ?_
                  exact fq_end
                refine rt_read undef rfl rfl (fun s62 st62 => ?_) ?_
                · refine k_no rfl rfl rfl rfl ?_
                  exact fq_end
                refine rt_read undef rfl rfl (fun s63 st63 => ?_) ?_
                · refine k_no rfl rfl rfl rfl ?_
                  exact fq_end
                refine rt_read undef rfl rfl (fun s64 st64 => ?_) ?_
                · refine k_no rfl rfl rfl rfl ?_
                  exact fq_end
                refine rt_read undef rfl rfl (fun s65 st65 => ?_) ?_
                · refine k_no rfl rfl rfl rfl ?_
                  exact fq_end
                refine rt_read undef rfl rfl (fun s66 st66 => ?_) ?_
                · refine k_no rfl rfl rfl rfl ?_
                  exact fq_end
                refine rt_read undef rfl rfl (fun s67 st67 => ?_) ?_
                · refine k_no rfl rfl rfl rfl ?_
                  exact fq_end
                refine rt_read undef rfl rfl (fun s68 st68 => ?_) ?_
                · refine k_no rfl rfl rfl rfl ?_
                  exact fq_end
                refine rt_read (.bool true) rfl rfl (fun s69 st69 => ?_) ?_
                · try replace hp2 := hp2.up2 st69
                  try replace h45_0 := h45_0.up2 st69
                  try replace h1_0 := h1_0.up2 st69
                  try replace h44_0 := h44_0.up2 st69
                  try replace h46 := h46.up2 st69
                  try replace hq53_0_0 := hq53_0_0.up2 st69
                  try replace h54 := h54.up2 st69
                  refine k_pickT rfl rfl rfl rfl ?_
                  exact fq_end
                refine rt_read (.bool true) rfl rfl (fun s70 st70 => ?_) ?_
                · try replace hp2 := hp2.up2 st70
                  try replace h45_0 := h45_0.up2 st70
                  try replace h1_0 := h1_0.up2 st70
                  try replace h44_0 := h44_0.up2 st70
                  try replace h46 := h46.up2 st70
                  try replace hq53_0_0 := hq53_0_0.up2 st70
                  try replace h54 := h54.up2 st70
                  refine k_move rfl rfl ?_
                  exact fq_end
                refine rt_read undef rfl rfl (fun s71 st71 => ?_) ?_
                · refine k_no rfl rfl rfl rfl ?_
                  exact fq_end
                refine rt_read undef rfl rfl (fun s72 st72 => ?_) ?_
                · refine k_no rfl rfl rfl rfl ?_
                  exact fq_end
                refine rt_read undef rfl rfl (fun s73 st73 => ?_) ?_
                · refine k_no rfl rfl rfl rfl ?_
                  exact fq_end
                refine rt_read undef rfl rfl (fun s74 st74 => ?_) ?_
                · refine k_no rfl rfl rfl rfl ?_
                  exact fq_end
                refine rt_read undef rfl rfl (fun s75 st75 => ?_) ?_
                · refine k_no rfl rfl rfl rfl ?_
                  exact fq_end
                refine rt_read undef rfl rfl (fun s76 st76 => ?_) ?_
                · refine k_no rfl rfl rfl rfl ?_
                  exact fq_end
                refine rt_read undef rfl rfl (fun s77 st77 => ?_) ?_
                · refine k_no rfl rfl rfl rfl ?_
                  exact fq_end
                refine rt_read undef rfl rfl (fun s78 st78 => ?_) ?_
                · refine k_no rfl rfl rfl rfl ?_
                  exact fq_end
                refine rt_read (.bool true) rfl rfl (fun s79 st79 => ?_) ?_
                · try replace hp2 := hp2.up2 st79
                  try replace h45_0 := h45_0.up2 st79
                  try replace h1_0 := h1_0.up2 st79
                  try replace h44_0 := h44_0.up2 st79
                  try replace h46 := h46.up2 st79
                  try replace hq53_0_0 := hq53_0_0.up2 st79
                  try replace h54 := h54.up2 st79
                  refine k_pickT rfl rfl rfl rfl ?_
                  exact fq_end
                refine rt_read (.bool true) rfl rfl (fun s80 st80 => ?_) ?_
                · try replace hp2 := hp2.up2 st80
                  try replace h45_0 := h45_0.up2 st80
                  try replace h1_0 := h1_0.up2 st80
                  try replace h44_0 := h44_0.up2 st80
                  try replace h46 := h46.up2 st80
                  try replace hq53_0_0 := hq53_0_0.up2 st80
                  try replace h54 := h54.up2 st80
                  refine k_move rfl rfl ?_
                  exact fq_end
                refine rt_read undef rfl rfl (fun s81 st81 => ?_) ?_
                · refine k_no rfl rfl rfl rfl ?_
                  exact fq_end
                refine rt_read undef rfl rfl (fun s82 st82 => ?_) ?_
                · refine k_no rfl rfl rfl rfl ?_
                  exact fq_end
                refine rt_read undef rfl rfl (fun s83 st83 => ?_) ?_
                · refine k_no rfl rfl rfl rfl ?_
                  exact fq_end
                refine rt_read undef rfl rfl (fun s84 st84 => ?_) ?_
                · refine k_no rfl rfl rfl rfl ?_
                  exact fq_end
                refine rt_read undef rfl rfl (fun s85 st85 => ?_) ?_
                · refine k_no rfl rfl rfl rfl ?_
                  exact fq_end
                refine rt_read undef rfl rfl (fun s86 st86 => ?_) ?_
                · refine k_no rfl rfl rfl rfl ?_
                  exact fq_end
                refine rt_read undef rfl rfl (fun s87 st87 => ?_) ?_
                · refine k_no rfl rfl rfl rfl ?_
                  exact fq_end
                refine rt_read undef rfl rfl (fun s88 st88 => ?_) ?_
                · refine k_no rfl rfl rfl rfl ?_
                  exact fq_end
                refine rt_read undef rfl rfl (fun s89 st89 => ?_) ?_
                · refine k_no rfl rfl rfl rfl ?_
                  exact fq_end
                refine rt_read (.bool true) rfl rfl (fun s90 st90 => ?_) ?_
                · try replace hp2 := hp2.up2 st90
                  try replace h45_0 := h45_0.up2 st90
                  try replace h1_0 := h1_0.up2 st90
                  try replace h44_0 := h44_0.up2 st90
                  try replace h46 := h46.up2 st90
                  try replace hq53_0_0 := hq53_0_0.up2 st90
                  try replace h54 := h54.up2 st90
                  refine k_pickT rfl rfl rfl rfl ?_
                  exact fq_end
                refine rt_fin ?_
                refine k_nil ?_
                refine k_keep [(2, _), (6, _), (7, _), (10, _), (11, _), (12, _), (13, _), (14, _), (146, _)] ⟨rfl, rfl, rfl, rfl, rfl, rfl, rfl, rfl, rfl, trivial⟩ ?_
                refine k_cond_true rfl ?_
                refine k_seq ?_
                refine k_region ?_
                refine k_assign rfl rfl ?_
                refine k_nil ?_
                refine k_keep [(2, _), (6, _), (7, _), (10, _), (11, _), (12, _), (13, _), (14, _)] ⟨rfl, rfl, rfl, rfl, rfl, rfl, rfl, rfl, trivial⟩ ?_
                refine k_ret ?_
                obtain rfl := Option.some.inj h
                refine ⟨_, rfl, Ret.mk hS ?_⟩
                exact rfl
              · -- t116 False
                have h := itF h c60
                refine rt_read (.pointer (some ⟨b54, 0, none⟩)) rfl rfl (fun s91 st91 => ?_) ?_
                · try replace hp2 := hp2.up2 st91
                  try replace h45_0 := h45_0.up2 st91
                  try replace h1_0 := h1_0.up2 st91
                  try replace h44_0 := h44_0.up2 st91
                  try replace h46 := h46.up2 st91
                  try replace hq53_0_0 := hq53_0_0.up2 st91
                  try replace h54 := h54.up2 st91
                  refine k_yes rfl rfl ?_
                  refine k_field_addr fld36_0 rfl rfl ?_
                  exact fq_end
                refine rt_read (.int .i64 x30.1.From) rfl rfl (fun s92 st92 => ?_) ?_
                · try replace hp2 := hp2.up2 st92
                  try replace h45_0 := h45_0.up2 st92
                  try replace h1_0 := h1_0.up2 st92
                  try replace h44_0 := h44_0.up2 st92
                  try replace h46 := h46.up2 st92
                  try replace hq53_0_0 := hq53_0_0.up2 st92
                  try replace h54 := h54.up2 st92
                  refine k_yes rfl rfl ?_
                  refine k_load_blk one3 rfl h54 rfl rfl ?_
                  exact fq_end
                refine rt_read (v45_0) rfl rfl (fun s93 st93 => ?_) ?_
                · try replace hp2 := hp2.up2 st93
                  try replace h45_0 := h45_0.up2 st93
                  try replace h1_0 := h1_0.up2 st93
                  try replace h44_0 := h44_0.up2 st93
                  try replace h46 := h46.up2 st93
                  try replace hq53_0_0 := hq53_0_0.up2 st93
                  try replace h54 := h54.up2 st93
                  refine k_yes rfl rfl ?_
                  refine k_move rfl rfl ?_
                  exact fq_end
                refine rt_read (.int .i64 x26) rfl rfl (fun s94 st94 => ?_) ?_
                · try replace hp2 := hp2.up2 st94
                  try replace h45_0 := h45_0.up2 st94
                  try replace h1_0 := h1_0.up2 st94
                  try replace h44_0 := h44_0.up2 st94
                  try replace h46 := h46.up2 st94
                  try replace hq53_0_0 := hq53_0_0.up2 st94
                  try replace h54 := h54.up2 st94
                  refine k_yes rfl rfl ?_
                  refine k_move rfl rfl ?_
                  exact fq_end
                obtain ⟨x31, hx31, h⟩ := ob h
                refine rt_ix rfl (wanted_yes rfl rfl rfl) Try.underlying40 size43 rfl rfl (SL.of_R h45_0) (geti_out hx31).1 (geti_map hx31) rfl ?_
                intro q95 hq95
                refine rt_fa rfl (wanted_yes rfl rfl rfl) rfl hq95 (by rfl) fld43_1 rfl ?_
                intro q96 h96
                refine rt_read (.int .i64 x31.From) rfl rfl (fun s97 st97 => ?_) ?_
                · try replace hp2 := hp2.up2 st97
                  try replace h45_0 := h45_0.up2 st97
                  try replace hq95 := hq95.up2 st97
                  try replace h96 := h96.up2 st97
                  try replace h1_0 := h1_0.up2 st97
                  try replace h44_0 := h44_0.up2 st97
                  try replace h46 := h46.up2 st97
                  try replace hq53_0_0 := hq53_0_0.up2 st97
                  try replace h54 := h54.up2 st97
                  refine k_yes rfl rfl ?_
                  refine k_load_val one3 rfl h96 rfl ?_
                  exact fq_end
                refine rt_read (.bool (decide (x30.1.From ≠ x31.From))) rfl rfl (fun s98 st98 => ?_) ?_
                · try replace hp2 := hp2.up2 st98
                  try replace h45_0 := h45_0.up2 st98
                  try replace hq95 := hq95.up2 st98
                  try replace h96 := h96.up2 st98
                  try replace h1_0 := h1_0.up2 st98
                  try replace h44_0 := h44_0.up2 st98
                  try replace h46 := h46.up2 st98
                  try replace hq53_0_0 := hq53_0_0.up2 st98
                  try replace h54 := h54.up2 st98
                  refine k_yes rfl rfl ?_
                  refine k_neq rfl rfl rfl ?_
                  exact fq_end
                refine rt_read (.bool (decide (x30.1.From ≠ x31.From))) rfl rfl (fun s99 st99 => ?_) ?_
                · try replace hp2 := hp2.up2 st99
                  try replace h45_0 := h45_0.up2 st99
                  try replace hq95 := hq95.up2 st99
                  try replace h96 := h96.up2 st99
                  try replace h1_0 := h1_0.up2 st99
                  try replace h44_0 := h44_0.up2 st99
                  try replace h46 := h46.up2 st99
                  try replace hq53_0_0 := hq53_0_0.up2 st99
                  try replace h54 := h54.up2 st99
                  refine k_pickF rfl rfl rfl rfl ?_
                  exact fq_end
                refine rt_read (.bool (decide (x30.1.From ≠ x31.From))) rfl rfl (fun s100 st100 => ?_) ?_
                · try replace hp2 := hp2.up2 st100
                  try replace h45_0 := h45_0.up2 st100
                  try replace hq95 := hq95.up2 st100
                  try replace h96 := h96.up2 st100
                  try replace h1_0 := h1_0.up2 st100
                  try replace h44_0 := h44_0.up2 st100
                  try replace h46 := h46.up2 st100
                  try replace hq53_0_0 := hq53_0_0.up2 st100
                  try replace h54 := h54.up2 st100
                  refine k_move rfl rfl ?_
                  exact fq_end
                refine rt_split (fun c101 => ?_) (fun c101 => ?_)
                · -- t126 True
                  have h := itT h c101
                  refine rt_read undef rfl rfl (fun s102 st102 => ?_) ?_
                  · refine k_no rfl rfl rfl rfl ?_
                    exact fq_end
                  refine rt_read undef rfl rfl (fun s103 st103 => ?_) ?_
                  · refine k_no rfl rfl rfl rfl ?_
                    exact fq_end
                  refine rt_read undef rfl rfl (fun s104 st104 => ?_) ?_
                  · refine k_no rfl rfl rfl rfl ?_
                    exact fq_end
                  refine rt_read undef rfl rfl (fun s105 st105 => ?_) ?_
                  · refine k_no rfl rfl rfl rfl ?_
                    exact fq_end
                  refine rt_read undef rfl rfl (fun s106 st106 => ?_) ?_
                  · refine k_no rfl rfl rfl rfl ?_
                    exact fq_end
                  refine rt_read undef rfl rfl (fun s107 st107 => ?_) ?_
                  · refine k_no rfl rfl rfl rfl ?_
                    exact fq_end
                  refine rt_read undef rfl rfl (fun s108 st108 => ?_) ?_
                  · refine k_no rfl rfl rfl rfl ?_
                    exact fq_end
                  refine rt_read undef rfl rfl (fun s109 st109 => ?_) ?_
                  · refine k_no rfl rfl rfl rfl ?_
                    exact fq_end
                  refine rt_read (.bool true) rfl rfl (fun s110 st110 => ?_) ?_
                  · try replace hp2 := hp2.up2 st110
                    try replace h45_0 := h45_0.up2 st110
                    try replace hq95 := hq95.up2 st110
                    try replace h96 := h96.up2 st110
                    try replace h1_0 := h1_0.up2 st110
                    try replace h44_0 := h44_0.up2 st110
                    try replace h46 := h46.up2 st110
                    try replace hq53_0_0 := hq53_0_0.up2 st110
                    try replace h54 := h54.up2 st110
                    refine k_pickT rfl rfl rfl rfl ?_
                    exact fq_end
                  refine rt_read (.bool true) rfl rfl (fun s111 st111 => ?_) ?_
                  · try replace hp2 := hp2.up2 st111
                    try replace h45_0 := h45_0.up2 st111
                    try replace hq95 := hq95.up2 st111
                    try replace h96 := h96.up2 st111
                    try replace h1_0 := h1_0.up2 st111
                    try replace h44_0 := h44_0.up2 st111
                    try replace h46 := h46.up2 st111
                    try replace hq53_0_0 := hq53_0_0.up2 st111
                    try replace h54 := h54.up2 st111
                    refine k_move rfl rfl ?_
                    exact fq_end
                  refine rt_read undef rfl rfl (fun s112 st112 => ?_) ?_
                  · refine k_no rfl rfl rfl rfl ?_
                    exact fq_end
                  refine rt_read undef rfl rfl (fun s113 st113 => ?_) ?_
                  · refine k_no rfl rfl rfl rfl ?_
                    exact fq_end
                  refine rt_read undef rfl rfl (fun s114 st114 => ?_) ?_
                  · refine k_no rfl rfl rfl rfl ?_
                    exact fq_end
                  refine rt_read undef rfl rfl (fun s115 st115 => ?_) ?_
                  · refine k_no rfl rfl rfl rfl ?_
                    exact fq_end
                  refine rt_read undef rfl rfl (fun s116 st116 => ?_) ?_
                  · refine k_no rfl rfl rfl rfl ?_
                    exact fq_end
                  refine rt_read undef rfl rfl (fun s117 st117 => ?_) ?_
                  · refine k_no rfl rfl rfl rfl ?_
                    exact fq_end
                  refine rt_read undef rfl rfl (fun s118 st118 => ?_) ?_
                  · refine k_no rfl rfl rfl rfl ?_
                    exact fq_end
                  refine rt_read undef rfl rfl (fun s119 st119 => ?_) ?_
                  · refine k_no rfl rfl rfl rfl ?_
                    exact fq_end
                  refine rt_read undef rfl rfl (fun s120 st120 => ?_) ?_
                  · refine k_no rfl rfl rfl rfl ?_
                    exact fq_end
                  refine rt_read (.bool true) rfl rfl (fun s121 st121 => ?_) ?_
                  · try replace hp2 := hp2.up2 st121
                    try replace h45_0 := h45_0.up2 st121
                    try replace hq95 := hq95.up2 st121
                    try replace h96 := h96.up2 st121
                    try replace h1_0 := h1_0.up2 st121
                    try replace h44_0 := h44_0.up2 st121
                    try replace h46 := h46.up2 st121
                    try replace hq53_0_0 := hq53_0_0.up2 st121
                    try replace h54 := h54.up2 st121
                    refine k_pickT rfl rfl rfl rfl ?_
                    exact fq_end
                  refine rt_fin ?_
                  refine k_nil ?_
                  refine k_keep [(2, _), (6, _), (7, _), (10, _), (11, _), (12, _), (13, _), (14, _), (146, _)] ⟨rfl, rfl, rfl, rfl, rfl, rfl, rfl, rfl, rfl, trivial⟩ ?_
                  refine k_cond_true rfl ?_
                  refine k_seq ?_
                  refine k_region ?_
                  refine k_assign rfl rfl ?_
                  refine k_nil ?_
                  refine k_keep [(2, _), (6, _), (7, _), (10, _), (11, _), (12, _), (13, _), (14, _)] ⟨rfl, rfl, rfl, rfl, rfl, rfl, rfl, rfl, trivial⟩ ?_
                  refine k_ret ?_
                  obtain rfl := Option.some.inj h
                  refine ⟨_, rfl, Ret.mk hS ?_⟩
                  exact rfl
                · -- t126 False
                  have h := itF h c101
                  refine rt_read (.pointer (some ⟨b54, 1, none⟩)) rfl rfl (fun s122 st122 => ?_) ?_
                  · try replace hp2 := hp2.up2 st122
                    try replace h45_0 := h45_0.up2 st122
                    try replace hq95 := hq95.up2 st122
                    try replace h96 := h96.up2 st122
                    try replace h1_0 := h1_0.up2 st122
                    try replace h44_0 := h44_0.up2 st122
                    try replace h46 := h46.up2 st122
                    try replace hq53_0_0 := hq53_0_0.up2 st122
                    try replace h54 := h54.up2 st122
                    refine k_yes rfl rfl ?_
                    refine k_field_addr fld36_1 rfl rfl ?_
                    exact fq_end
                  refine rt_read (.int .i64 x30.1.To) rfl rfl (fun s123 st123 => ?_) ?_
                  · try replace hp2 := hp2.up2 st123
                    try replace h45_0 := h45_0.up2 st123
                    try replace hq95 := hq95.up2 st123
                    try replace h96 := h96.up2 st123
                    try replace h1_0 := h1_0.up2 st123
                    try replace h44_0 := h44_0.up2 st123
                    try replace h46 := h46.up2 st123
                    try replace hq53_0_0 := hq53_0_0.up2 st123
                    try replace h54 := h54.up2 st123
                    refine k_yes rfl rfl ?_
                    refine k_load_blk one3 rfl h54 rfl rfl ?_
                    exact fq_end
                  refine rt_read (v45_0) rfl rfl (fun s124 st124 => ?_) ?_
                  · try replace hp2 := hp2.up2 st124
                    try replace h45_0 := h45_0.up2 st124
                    try replace hq95 := hq95.up2 st124
                    try replace h96 := h96.up2 st124
                    try replace h1_0 := h1_0.up2 st124
                    try replace h44_0 := h44_0.up2 st124
                    try replace h46 := h46.up2 st124
                    try replace hq53_0_0 := hq53_0_0.up2 st124
                    try replace h54 := h54.up2 st124
                    refine k_yes rfl rfl ?_
                    refine k_move rfl rfl ?_
                    exact fq_end
                  refine rt_read (.int .i64 x26) rfl rfl (fun s125 st125 => ?_) ?_
                  · try replace hp2 := hp2.up2 st125
                    try replace h45_0 := h45_0.up2 st125
                    try replace hq95 := hq95.up2 st125
                    try replace h96 := h96.up2 st125
                    try replace h1_0 := h1_0.up2 st125
                    try replace h44_0 := h44_0.up2 st125
                    try replace h46 := h46.up2 st125
                    try replace hq53_0_0 := hq53_0_0.up2 st125
                    try replace h54 := h54.up2 st125
                    refine k_yes rfl rfl ?_
                    refine k_move rfl rfl ?_
                    exact fq_end
                  obtain ⟨x32, hx32, h⟩ := ob h
                  refine rt_ix rfl (wanted_yes rfl rfl rfl) Try.underlying40 size43 rfl rfl (SL.of_R h45_0) (geti_out hx32).1 (geti_map hx32) rfl ?_
                  intro q126 hq126
                  refine rt_fa rfl (wanted_yes rfl rfl rfl) rfl hq126 (by rfl) fld43_2 rfl ?_
                  intro q127 h127
                  refine rt_read (.int .i64 x32.To) rfl rfl (fun s128 st128 => ?_) ?_
                  · try replace hp2 := hp2.up2 st128
                    try replace h45_0 := h45_0.up2 st128
                    try replace hq95 := hq95.up2 st128
                    try replace h96 := h96.up2 st128
                    try replace hq126 := hq126.up2 st128
                    try replace h127 := h127.up2 st128
                    try replace h1_0 := h1_0.up2 st128
                    try replace h44_0 := h44_0.up2 st128
                    try replace h46 := h46.up2 st128
                    try replace hq53_0_0 := hq53_0_0.up2 st128
                    try replace h54 := h54.up2 st128
                    refine k_yes rfl rfl ?_
                    refine k_load_val one3 rfl h127 rfl ?_
                    exact fq_end
                  refine rt_read (.bool (decide (x30.1.To ≠ x32.To))) rfl rfl (fun s129 st129 => ?_) ?_
                  · try replace hp2 := hp2.up2 st129
                    try replace h45_0 := h45_0.up2 st129
                    try replace hq95 := hq95.up2 st129
                    try replace h96 := h96.up2 st129
                    try replace hq126 := hq126.up2 st129
                    try replace h127 := h127.up2 st129
                    try replace h1_0 := h1_0.up2 st129
                    try replace h44_0 := h44_0.up2 st129
                    try replace h46 := h46.up2 st129
                    try replace hq53_0_0 := hq53_0_0.up2 st129
                    try replace h54 := h54.up2 st129
                    refine k_yes rfl rfl ?_
                    refine k_neq rfl rfl rfl ?_
                    exact fq_end
                  refine rt_read (.bool (decide (x30.1.To ≠ x32.To))) rfl rfl (fun s130 st130 => ?_) ?_
                  · try replace hp2 := hp2.up2 st130
                    try replace h45_0 := h45_0.up2 st130
                    try replace hq95 := hq95.up2 st130
                    try replace h96 := h96.up2 st130
                    try replace hq126 := hq126.up2 st130
                    try replace h127 := h127.up2 st130
                    try replace h1_0 := h1_0.up2 st130
                    try replace h44_0 := h44_0.up2 st130
                    try replace h46 := h46.up2 st130
                    try replace hq53_0_0 := hq53_0_0.up2 st130
                    try replace h54 := h54.up2 st130
                    refine k_pickF rfl rfl rfl rfl ?_
                    exact fq_end
                  refine rt_read (.bool (decide (x30.1.To ≠ x32.To))) rfl rfl (fun s131 st131 => ?_) ?_
                  · try replace hp2 := hp2.up2 st131
                    try replace h45_0 := h45_0.up2 st131
                    try replace hq95 := hq95.up2 st131
                    try replace h96 := h96.up2 st131
                    try replace hq126 := hq126.up2 st131
                    try replace h127 := h127.up2 st131
                    try replace h1_0 := h1_0.up2 st131
                    try replace h44_0 := h44_0.up2 st131
                    try replace h46 := h46.up2 st131
                    try replace hq53_0_0 := hq53_0_0.up2 st131
                    try replace h54 := h54.up2 st131
                    refine k_move rfl rfl ?_
                    exact fq_end
                  refine rt_split (fun c132 => ?_) (fun c132 => ?_)
                  · -- t136 True
                    have h := itT h c132
                    refine rt_read undef rfl rfl (fun s133 st133 => ?_) ?_
                    · refine k_no rfl rfl rfl rfl ?_
                      exact fq_end
                    refine rt_read undef rfl rfl (fun s134 st134 => ?_) ?_
                    · refine k_no rfl rfl rfl rfl ?_
                      exact fq_end
                    refine rt_read undef rfl rfl (fun s135 st135 => ?_) ?_
                    · refine k_no rfl rfl rfl rfl ?_
                      exact fq_end
                    refine rt_read undef rfl rfl (fun s136 st136 => ?_) ?_
                    · refine k_no rfl rfl rfl rfl ?_
                      exact fq_end
                    refine rt_read undef rfl rfl (fun s137 st137 => ?_) ?_
                    · refine k_no rfl rfl rfl rfl ?_
                      exact fq_end
                    refine rt_read undef rfl rfl (fun s138 st138 => ?_) ?_
                    · refine k_no rfl rfl rfl rfl ?_
                      exact fq_end
                    refine rt_read undef rfl rfl (fun s139 st139 => ?_) ?_
                    · refine k_no rfl rfl rfl rfl ?_
                      exact fq_end
                    refine rt_read undef rfl rfl (fun s140 st140 => ?_) ?_
                    · refine k_no rfl rfl rfl rfl ?_
                      exact fq_end
                    refine rt_read undef rfl rfl (fun s141 st141 => ?_) ?_
                    · refine k_no rfl rfl rfl rfl ?_
                      exact fq_end
                    refine rt_read (.bool true) rfl rfl (fun s142 st142 => ?_) ?_
                    · try replace hp2 := hp2.up2 st142
                      try replace h45_0 := h45_0.up2 st142
                      try replace hq95 := hq95.up2 st142
                      try replace h96 := h96.up2 st142
                      try replace hq126 := hq126.up2 st142
                      try replace h127 := h127.up2 st142
                      try replace h1_0 := h1_0.up2 st142
                      try replace h44_0 := h44_0.up2 st142
                      try replace h46 := h46.up2 st142
                      try replace hq53_0_0 := hq53_0_0.up2 st142
                      try replace h54 := h54.up2 st142
                      refine k_pickT rfl rfl rfl rfl ?_
                      exact fq_end
                    refine rt_fin ?_
                    refine k_nil ?_
                    refine k_keep [(2, _), (6, _), (7, _), (10, _), (11, _), (12, _), (13, _), (14, _), (146, _)] ⟨rfl, rfl, rfl, rfl, rfl, rfl, rfl, rfl, rfl, trivial⟩ ?_
                    refine k_cond_true rfl ?_
                    refine k_seq ?_
                    refine k_region ?_
                    refine k_assign rfl rfl ?_
                    refine k_nil ?_
                    refine k_keep [(2, _), (6, _), (7, _), (10, _), (11, _), (12, _), (13, _), (14, _)] ⟨rfl, rfl, rfl, rfl, rfl, rfl, rfl, rfl, trivial⟩ ?_
                    refine k_ret ?_
                    obtain rfl := Option.some.inj h
                    refine ⟨_, rfl, Ret.mk hS ?_⟩
                    exact rfl
                  · -- t136 False
                    have h := itF h c132
                    refine rt_read (.pointer (some ⟨b54, 2, none⟩)) rfl rfl (fun s143 st143 => ?_) ?_
                    · try replace hp2 := hp2.up2 st143
                      try replace h45_0 := h45_0.up2 st143
                      try replace hq95 := hq95.up2 st143
                      try replace h96 := h96.up2 st143
                      try replace hq126 := hq126.up2 st143
                      try replace h127 := h127.up2 st143
                      try replace h1_0 := h1_0.up2 st143
                      try replace h44_0 := h44_0.up2 st143
                      try replace h46 := h46.up2 st143
                      try replace hq53_0_0 := hq53_0_0.up2 st143
                      try replace h54 := h54.up2 st143
                      refine k_yes rfl rfl ?_
                      refine k_field_addr fld36_2 rfl rfl ?_
                      exact fq_end
                    refine rt_read (q53_0_0) rfl rfl (fun s144 st144 => ?_) ?_
                    · try replace hp2 := hp2.up2 st144
                      try replace h45_0 := h45_0.up2 st144
                      try replace hq95 := hq95.up2 st144
                      try replace h96 := h96.up2 st144
                      try replace hq126 := hq126.up2 st144
                      try replace h127 := h127.up2 st144
                      try replace h1_0 := h1_0.up2 st144
                      try replace h44_0 := h44_0.up2 st144
                      try replace h46 := h46.up2 st144
                      try replace hq53_0_0 := hq53_0_0.up2 st144
                      try replace h54 := h54.up2 st144
                      refine k_yes rfl rfl ?_
                      refine k_load_blk one23 rfl h54 rfl rfl ?_
                      exact fq_end
                    refine rt_read (.int .i64 (x30.1.Bytes.length : Int)) rfl rfl (fun s145 st145 => ?_) ?_
                    · try replace hp2 := hp2.up2 st145
                      try replace h45_0 := h45_0.up2 st145
                      try replace hq95 := hq95.up2 st145
                      try replace h96 := h96.up2 st145
                      try replace hq126 := hq126.up2 st145
                      try replace h127 := h127.up2 st145
                      try replace hq53_0_0 := hq53_0_0.up2 st145
                      try replace h1_0 := h1_0.up2 st145
                      try replace h44_0 := h44_0.up2 st145
                      try replace h46 := h46.up2 st145
                      try replace h54 := h54.up2 st145
                      refine k_yes rfl rfl ?_
                      refine k_len Try.underlying23 rfl (SL.of_R hq53_0_0).hasLen rfl ?_
                      refine k_as (v := .int .i64 (x30.1.Bytes.length : Int)) (by simp only [List.length_map]) ?_
                      exact fq_end
                    refine rt_read (v45_0) rfl rfl (fun s146 st146 => ?_) ?_
                    · try replace hp2 := hp2.up2 st146
                      try replace h45_0 := h45_0.up2 st146
                      try replace hq95 := hq95.up2 st146
                      try replace h96 := h96.up2 st146
                      try replace hq126 := hq126.up2 st146
                      try replace h127 := h127.up2 st146
                      try replace hq53_0_0 := hq53_0_0.up2 st146
                      try replace h1_0 := h1_0.up2 st146
                      try replace h44_0 := h44_0.up2 st146
                      try replace h46 := h46.up2 st146
                      try replace h54 := h54.up2 st146
                      refine k_yes rfl rfl ?_
                      refine k_move rfl rfl ?_
                      exact fq_end
                    refine rt_read (.int .i64 x26) rfl rfl (fun s147 st147 => ?_) ?_
                    · try replace hp2 := hp2.up2 st147
                      try replace h45_0 := h45_0.up2 st147
                      try replace hq95 := hq95.up2 st147
                      try replace h96 := h96.up2 st147
                      try replace hq126 := hq126.up2 st147
                      try replace h127 := h127.up2 st147
                      try replace hq53_0_0 := hq53_0_0.up2 st147
                      try replace h1_0 := h1_0.up2 st147
                      try replace h44_0 := h44_0.up2 st147
                      try replace h46 := h46.up2 st147
                      try replace h54 := h54.up2 st147
                      refine k_yes rfl rfl ?_
                      refine k_move rfl rfl ?_
                      exact fq_end
                    obtain ⟨x33, hx33, h⟩ := ob h
                    refine rt_ix rfl (wanted_yes rfl rfl rfl) Try.underlying40 size43 rfl rfl (SL.of_R h45_0) (geti_out hx33).1 (geti_map hx33) rfl ?_
                    intro q148 hq148
                    refine rt_fa rfl (wanted_yes rfl rfl rfl) rfl hq148 (by rfl) fld43_3 rfl ?_
                    intro q149 h149
                    refine rt_read (.int .i64 x33.Size) rfl rfl (fun s150 st150 => ?_) ?_
                    · try replace hp2 := hp2.up2 st150
                      try replace h45_0 := h45_0.up2 st150
                      try replace hq95 := hq95.up2 st150
                      try replace h96 := h96.up2 st150
                      try replace hq126 := hq126.up2 st150
                      try replace h127 := h127.up2 st150
                      try replace hq53_0_0 := hq53_0_0.up2 st150
                      try replace hq148 := hq148.up2 st150
                      try replace h149 := h149.up2 st150
                      try replace h1_0 := h1_0.up2 st150
                      try replace h44_0 := h44_0.up2 st150
                      try replace h46 := h46.up2 st150
                      try replace h54 := h54.up2 st150
                      refine k_yes rfl rfl ?_
                      refine k_load_val one3 rfl h149 rfl ?_
                      exact fq_end
                    refine rt_read (.bool (decide ((x30.1.Bytes.length : Int) ≠ x33.Size))) rfl rfl (fun s151 st151 => ?_) ?_
                    · try replace hp2 := hp2.up2 st151
                      try replace h45_0 := h45_0.up2 st151
                      try replace hq95 := hq95.up2 st151
                      try replace h96 := h96.up2 st151
                      try replace hq126 := hq126.up2 st151
                      try replace h127 := h127.up2 st151
                      try replace hq53_0_0 := hq53_0_0.up2 st151
                      try replace hq148 := hq148.up2 st151
                      try replace h149 := h149.up2 st151
                      try replace h1_0 := h1_0.up2 st151
                      try replace h44_0 := h44_0.up2 st151
                      try replace h46 := h46.up2 st151
                      try replace h54 := h54.up2 st151
                      refine k_yes rfl rfl ?_
                      refine k_neq rfl rfl rfl ?_
                      exact fq_end
                    refine rt_read (.bool (decide ((x30.1.Bytes.length : Int) ≠ x33.Size))) rfl rfl (fun s152 st152 => ?_) ?_
                    · try replace hp2 := hp2.up2 st152
                      try replace h45_0 := h45_0.up2 st152
                      try replace hq95 := hq95.up2 st152
                      try replace h96 := h96.up2 st152
                      try replace hq126 := hq126.up2 st152
                      try replace h127 := h127.up2 st152
                      try replace hq53_0_0 := hq53_0_0.up2 st152
                      try replace hq148 := hq148.up2 st152
                      try replace h149 := h149.up2 st152
                      try replace h1_0 := h1_0.up2 st152
                      try replace h44_0 := h44_0.up2 st152
                      try replace h46 := h46.up2 st152
                      try replace h54 := h54.up2 st152
                      refine k_pickF rfl rfl rfl rfl ?_
                      exact fq_end
                    refine rt_fin ?_
                    refine k_nil ?_
                    refine k_keep [(2, _), (6, _), (7, _), (10, _), (11, _), (12, _), (13, _), (14, _), (146, _)] ⟨rfl, rfl, rfl, rfl, rfl, rfl, rfl, rfl, rfl, trivial⟩ ?_
                    refine k_cond_dec rfl (fun c153 => ?_) (fun c153 => ?_)
                    · -- T
                      have h := itT h c153
                      refine k_seq ?_
                      refine k_region ?_
                      refine k_assign rfl rfl ?_
                      refine k_nil ?_
                      refine k_keep [(2, _), (6, _), (7, _), (10, _), (11, _), (12, _), (13, _), (14, _)] ⟨rfl, rfl, rfl, rfl, rfl, rfl, rfl, rfl, trivial⟩ ?_
                      refine k_ret ?_
                      obtain rfl := Option.some.inj h
                      refine ⟨_, rfl, Ret.mk hS ?_⟩
                      exact rfl
                    · -- F
                      have h := itF h c153
                      refine k_skip ?_
                      refine k_region ?_
                      refine k_move rfl rfl ?_
                      refine k_move rfl rfl ?_
                      refine k_load_blka (cs := [.int .i64 x30.1.From, .int .i64 x30.1.To, q53_0_0]) agg36 rfl h54 rfl ?_
                      obtain ⟨x34, hx34, h⟩ := ob h
                      refine k_ixaddr_own Try.underlying46 size36 rfl rfl h46 (geti_out hx34).1 (geti_map hx34) rfl ?_
                      intro qx34 hqx34 heqx34
                      refine k_store_elt (dd := dApiMessage x30.1) size36 rfl rfl h46 heqx34 (by rw [List.length_map]; exact (List.getElem?_eq_some_iff.1 (geti_out hx34).2.2).1) (⟨_, rfl, (clsApiMessage x30.1 hq53_0_0)⟩) rfl ?_
                      intro s154 st154 h46
                      rw [← List.map_set] at h46
                      have szs154 := st154.size
                      have hS : Step K0 s s154 := hS.comp st154 (by intro l hl hk; (try simp only [KC, KO, KU, KN, K0] at hk ⊢) <;> omega)
                      have hE48 : Step (KU (KO ku1_0) (KC (b46 + 1) 0)) s46 s154 := hE48.comp st154 (by intro l hl hk; (try simp only [KC, KO, KU, KN, K0] at hk ⊢) <;> omega)
                      have hE49 : Step (KU (KO ku1_0) (KC (b46 + 1) 0)) s46 s154 := hE49.comp st154 (by intro l hl hk; (try simp only [KC, KO, KU, KN, K0] at hk ⊢) <;> omega)
                      replace hp2 := hp2.up2 st154
                      replace h45_0 := h45_0.up2 st154
                      replace hq53_0_0 := hq53_0_0.up2 st154
                      replace h1_0 := h1_0.up2 st154
                      replace h44_0 := h44_0.up2 st154
                      replace h54 := h54.up2 st154
                      refine k_nil ?_
                      refine k_blk ?_
                      refine k_region ?_
                      refine k_move rfl rfl ?_
                      refine k_add rfl rfl rfl ?_
                      refine k_assign rfl rfl ?_
                      refine k_nil ?_
                      exact k_stop ⟨(s154, i64 (x26 + 1), x30.2.2, x28.set (x26).toNat x30.1, j), ⟨(by first | rfl | (simp <;> rfl)), trivial⟩, ⟨rfl, rfl, rfl, rfl, rfl, rfl, trivial⟩, ⟨rfl, hE49, h1_0, h46, h⟩, (by simp)⟩
            · -- F
              have h := itF h c51
              refine k_exit rfl ?_
              exact k_stop ⟨(s50, x27, x28), trivial, ⟨rfl, rfl, rfl, rfl, rfl, rfl, trivial⟩, ⟨rfl, hE48, h1_0, h46, h⟩⟩
          · -- behind
            rintro ⟨s155, x24, x25⟩ wL ⟨rfl, hE48, h1_0, h46, h⟩
            rw [hK48] at h
            have szs155 := hE48.size
            have hS : Step K0 s s155 := hS.comp hE48 (by intro l hl hk; (try simp only [KC, KO, KU, KN, K0] at hk ⊢) <;> omega)
            replace hp2 := hp2.up2 hE48
            replace h45_0 := h45_0.up2 hE48
            replace h44_0 := h44_0.up2 hE48
            refine k_seq ?_
            obtain ⟨kj35, hK156, h⟩ := jn_out h
            have hE156 : Step (KO ku44_0) s155 s155 := (Step.refl _).of0 (by first | exact fun _ h => h | (intro c h; simp [KC, KO, KU, KN] at h <;> omega))
            refine k_cutc (X := St × NetNet) [(6, .bool false), (7, v1_0), (10, v44_0)] (fun (xL : St × NetNet) => match xL with | (sl, x36) => []) (fun (xL : St × NetNet) (wL : World) => match xL with | (sl, x36) => sl.w = wL ∧ Step (KO ku44_0) s155 sl ∧ (ONetNet sl ku44_0 v44_0 x36) ∧ kj35 x36 = some r) ?_ ?_
            · -- the ways
              refine k_seq ?_
              refine k_region ?_
              refine k_assign rfl rfl ?_
              refine k_nil ?_
              refine k_block ?_
              refine k_loopc (X := St × Int × NetNet × Nat) [(2, _), (6, _), (7, _), (10, _), (11, _), (12, _)] (fun (xL : St × Int × NetNet × Nat) => match xL with | (sl, x37, x38, j) => [(16, .int .i64 x37)]) (fun (xL : St × Int × NetNet × Nat) (wL : World) => match xL with | (sl, x37, x38, j) => sl.w = wL ∧ Step (KO ku44_0) s155 sl ∧ (ONetNet sl ku44_0 v44_0 x38) ∧ law22_NetBag_l3 x20 x25 a2 kj35 j x37 x38 = some r) (fun (xL : St × Int × NetNet × Nat) => match xL with | (sl, x37, x38, j) => j) (s155, 0, x22, FU) ⟨rfl, rfl, rfl, rfl, rfl, rfl, trivial⟩ ⟨(by first | rfl | (simp <;> rfl)), trivial⟩ ⟨rfl, (Step.refl _).of0 (by first | exact fun _ h => h | (intro c h; simp [KC, KO, KU, KN] at h <;> omega)), h44_0, h⟩ ?_
              rintro ⟨s158, x37, x38, j⟩ wL ⟨rfl, hE157, h44_0, h⟩
              cases j with
              | zero => rw [law22_NetBag_l3] at h; exact (noneNe h).elim
              | succ j =>
              rw [law22_NetBag_l3] at h
              have szs158 := hE157.size
              have hS : Step K0 s s158 := hS.comp hE157 (by intro l hl hk; (try simp only [KC, KO, KU, KN, K0] at hk ⊢) <;> omega)
              have hE156 : Step (KO ku44_0) s155 s158 := hE156.comp hE157 (by intro l hl hk; (try simp only [KC, KO, KU, KN, K0] at hk ⊢) <;> omega)
              replace hp2 := hp2.up2 hE157
              replace h45_0 := h45_0.up2 hE157
              replace h1_0 := h1_0.up2 hE157
              replace h46 := h46.up2 hE157
              obtain ⟨kj39, hkj39, h⟩ := jn_out h
              refine k_seq ?_
              refine k_seq ?_
              refine k_region ?_
              refine k_move rfl rfl ?_
              obtain ⟨x40, hx40, h⟩ := ob h
              refine k_call cal18 rfl (net_Net_Count_w  h44_0 hx40) rfl ?_
              rintro s159 vr159 st159 rfl
              have szs159 := st159.size
              have hS : Step K0 s s159 := hS.trans0 st159
              have hE156 : Step (KO ku44_0) s155 s159 := hE156.trans0 st159
              have hE157 : Step (KO ku44_0) s155 s159 := hE157.trans0 st159
              replace hp2 := hp2.up2 st159
              replace h45_0 := h45_0.up2 st159
              replace h1_0 := h1_0.up2 st159
              replace h44_0 := h44_0.up2 st159
              replace h46 := h46.up2 st159
              refine k_gtr rfl rfl rfl ?_
              refine k_move rfl rfl ?_
              have hE160 : Step K0 s159 s159 := (Step.refl _).of0 (by first | exact fun _ h => h | (intro c h; simp [KC, KO, KU, KN] at h <;> omega))
              refine k_cutl (X := St) 3 [(2, v2), (6, .bool false), (7, v1_0), (10, v44_0), (11, v45_0), (12, v46), (16, .int .i64 x37), (151, v44_0), (152, .int .i64 x40), (153, .bool (decide (0 < x40)))] (fun _ => [(157, .bool (decide ((0 < x40) ∧ (x37 < 1000))))]) (fun sl wL => sl.w = wL ∧ Step K0 s159 sl) ?_ ?_
              · -- the ways
                refine k_again 154 rfl ?_
                refine k_split (fun c161 => ?_) (fun c161 => ?_)
                · -- t154 True
                  refine k_yes rfl rfl ?_
                  refine k_move rfl rfl ?_
                  refine k_yes rfl rfl ?_
                  refine k_lss rfl rfl rfl ?_
                  refine k_pickT rfl rfl rfl rfl ?_
                  exact k_met ⟨s159, ⟨(congrArg (fun b => some (Value.bool b)) (by first | exact decide_eq_decide.2 ⟨fun h => ⟨c161, h⟩, fun h => h.2⟩ | exact (decide_eq_false (fun h => c161 h.1)).symm | (simp [c161]; done) | (simp [c161, i64] <;> omega))), trivial⟩, ⟨rfl, rfl, rfl, rfl, rfl, rfl, rfl, rfl, rfl, rfl, trivial⟩, rfl, hE160⟩
                · -- t154 False
                  refine k_no rfl rfl rfl rfl ?_
                  refine k_no rfl rfl rfl rfl ?_
                  refine k_pickF rfl rfl rfl rfl ?_
                  exact k_met ⟨s159, ⟨(congrArg (fun b => some (Value.bool b)) (by first | exact decide_eq_decide.2 ⟨fun h => ⟨c161, h⟩, fun h => h.2⟩ | exact (decide_eq_false (fun h => c161 h.1)).symm | (simp [c161]; done) | (simp [c161, i64] <;> omega))), trivial⟩, ⟨rfl, rfl, rfl, rfl, rfl, rfl, rfl, rfl, rfl, rfl, trivial⟩, rfl, hE160⟩
              · -- behind
                rintro s162 wL ⟨rfl, hE160⟩
                have szs162 := hE160.size
                have hS : Step K0 s s162 := hS.trans0 hE160
                have hE156 : Step (KO ku44_0) s155 s162 := hE156.trans0 hE160
                have hE157 : Step (KO ku44_0) s155 s162 := hE157.trans0 hE160
                replace hp2 := hp2.up2 hE160
                replace h45_0 := h45_0.up2 hE160
                replace h1_0 := h1_0.up2 hE160
                replace h44_0 := h44_0.up2 hE160
                replace h46 := h46.up2 hE160
                refine k_nil ?_
                refine k_keep [(2, _), (6, _), (7, _), (10, _), (11, _), (12, _), (16, _), (157, _)] ⟨rfl, rfl, rfl, rfl, rfl, rfl, rfl, rfl, trivial⟩ ?_
                refine k_cond_dec rfl (fun c163 => ?_) (fun c163 => ?_)
                · -- T
                  have h := itT h c163
                  refine k_skip ?_
                  refine k_seq ?_
                  refine k_keep [(2, _), (6, _), (7, _), (10, _), (11, _), (12, _), (16, _)] ⟨rfl, rfl, rfl, rfl, rfl, rfl, rfl, trivial⟩ ?_
                  obtain ⟨kj41, hK164, h⟩ := jn_out h
                  have hE164 : Step (KO ku44_0) s162 s162 := (Step.refl _).of0 (by first | exact fun _ h => h | (intro c h; simp [KC, KO, KU, KN] at h <;> omega))
                  refine k_cutc (X := St × NetNet) [(2, v2), (6, .bool false), (7, v1_0), (10, v44_0), (11, v45_0), (12, v46), (16, .int .i64 x37)] (fun (xL : St × NetNet) => match xL with | (sl, x42) => []) (fun (xL : St × NetNet) (wL : World) => match xL with | (sl, x42) => sl.w = wL ∧ Step (KO ku44_0) s162 sl ∧ (ONetNet sl ku44_0 v44_0 x42) ∧ kj41 x42 = some r) ?_ ?_
                  · -- the ways
                    refine k_block ?_
                    refine k_seq ?_
                    refine k_region ?_
                    refine k_move rfl rfl ?_
                    obtain ⟨x43, hx43, h⟩ := ob h
                    refine k_call cal14 rfl (net_Net_Letters_w  h44_0 hx43) rfl ?_
                    rintro s165 v165_0 st165 ⟨_, rfl, h165_0⟩
                    have szs165 := st165.size
                    have hS : Step K0 s s165 := hS.trans0 st165
                    have hE156 : Step (KO ku44_0) s155 s165 := hE156.trans0 st165
                    have hE157 : Step (KO ku44_0) s155 s165 := hE157.trans0 st165
                    have hE164 : Step (KO ku44_0) s162 s165 := hE164.trans0 st165
                    replace hp2 := hp2.up2 st165
                    replace h45_0 := h45_0.up2 st165
                    replace h1_0 := h1_0.up2 st165
                    replace h44_0 := h44_0.up2 st165
                    replace h46 := h46.up2 st165
                    refine k_assign rfl rfl ?_
                    refine k_nil ?_
                    refine k_keep [(2, _), (6, _), (7, _), (10, _), (11, _), (12, _), (16, _), (17, _)] ⟨rfl, rfl, rfl, rfl, rfl, rfl, rfl, rfl, trivial⟩ ?_
                    refine k_seq ?_
                    refine k_seq ?_
                    refine k_region ?_
                    refine k_move rfl rfl ?_
                    refine k_len Try.underlying40 rfl (SL.of_R h165_0).hasLen rfl ?_
                    refine k_as (v := .int .i64 (x43.length : Int)) (by simp only [List.length_map]) ?_
                    refine k_eql rfl rfl rfl ?_
                    refine k_nil ?_
                    refine k_keep [(2, _), (6, _), (7, _), (10, _), (11, _), (12, _), (16, _), (17, _), (164, _)] ⟨rfl, rfl, rfl, rfl, rfl, rfl, rfl, rfl, rfl, trivial⟩ ?_
                    refine k_cond_dec rfl (fun c166 => ?_) (fun c166 => ?_)
                    · -- T
                      have h := itT h c166
                      refine k_seq ?_
                      refine k_region ?_
                      refine k_assign rfl rfl ?_
                      refine k_nil ?_
                      refine k_keep [(2, _), (6, _), (7, _), (10, _), (11, _), (12, _), (16, _), (17, _)] ⟨rfl, rfl, rfl, rfl, rfl, rfl, rfl, rfl, trivial⟩ ?_
                      refine k_ret ?_
                      obtain rfl := Option.some.inj h
                      refine ⟨_, rfl, Ret.mk hS ?_⟩
                      exact rfl
                    · -- F
                      have h := itF h c166
                      refine k_skip ?_
                      refine k_seq ?_
                      refine k_region ?_
                      refine k_assign rfl rfl ?_
                      refine k_nil ?_
                      refine k_keep [(2, _), (6, _), (7, _), (10, _), (11, _), (12, _), (16, _), (17, _), (18, _)] ⟨rfl, rfl, rfl, rfl, rfl, rfl, rfl, rfl, rfl, trivial⟩ ?_
                      refine k_seq ?_
                      obtain ⟨kj44, hK167, h⟩ := jn_out h
                      have hE167 : Step K0 s165 s165 := (Step.refl _).of0 (by first | exact fun _ h => h | (intro c h; simp [KC, KO, KU, KN] at h <;> omega))
                      refine k_cutc (X := St × Int) [(2, v2), (6, .bool false), (7, v1_0), (10, v44_0), (11, v45_0), (12, v46), (16, .int .i64 x37), (17, v165_0)] (fun (xL : St × Int) => match xL with | (sl, x45) => [(18, .int .i64 x45)]) (fun (xL : St × Int) (wL : World) => match xL with | (sl, x45) => sl.w = wL ∧ Step K0 s165 sl ∧ kj44 x45 = some r) ?_ ?_
                      · -- the ways
                        refine k_seq ?_
                        refine k_region ?_
                        refine k_move rfl rfl ?_
                        refine k_move rfl rfl ?_
                        refine k_len Try.underlying47 rfl (SL.of_R hp2).hasLen rfl ?_
                        refine k_as (v := .int .i64 (a2.length : Int)) (by simp only [List.length_map]) ?_
                        refine k_lss rfl rfl rfl ?_
                        refine k_nil ?_
                        refine k_keep [(2, _), (6, _), (7, _), (10, _), (11, _), (12, _), (16, _), (17, _), (18, _), (168, _)] ⟨rfl, rfl, rfl, rfl, rfl, rfl, rfl, rfl, rfl, rfl, trivial⟩ ?_
                        refine k_cond_dec rfl (fun c168 => ?_) (fun c168 => ?_)
                        · -- T
                          have h := itT h c168
                          refine k_region ?_
                          refine k_move rfl rfl ?_
                          refine k_move rfl rfl ?_
                          obtain ⟨x46, hx46, h⟩ := ob h
                          refine k_ixaddr Try.underlying47 size3 rfl rfl (SL.of_R hp2) (geti_out hx46).1 (geti_map hx46) rfl ?_
                          intro qx46 hqx46
                          refine k_load_val one3 rfl hqx46 rfl ?_
                          refine k_bits (p := x46) (q := 65535) (.inl ⟨rfl, rfl⟩) rfl rfl rfl ?_
                          refine k_as (v := .int .i64 (andI x46 65535)) rfl ?_
                          refine k_move rfl rfl ?_
                          refine k_len Try.underlying40 rfl (SL.of_R h165_0).hasLen rfl ?_
                          refine k_as (v := .int .i64 (x43.length : Int)) (by simp only [List.length_map]) ?_
                          by_cases c169 : (x43.length : Int) ≠ 0
                          case neg => exact (noneNe (itF h c169)).elim
                          replace h := itT h c169
                          refine k_rem rfl rfl c169 rfl ?_
                          refine k_assign rfl rfl ?_
                          refine k_nil ?_
                          exact k_stop ⟨(s165, (andI x46 65535).tmod (x43.length : Int)), ⟨(by first | rfl | (simp <;> rfl)), trivial⟩, ⟨rfl, rfl, rfl, rfl, rfl, rfl, rfl, rfl, trivial⟩, ⟨rfl, hE167, h⟩⟩
                        · -- F
                          have h := itF h c168
                          refine k_skip ?_
                          exact k_stop ⟨(s165, 0), ⟨(by first | rfl | (simp <;> rfl)), trivial⟩, ⟨rfl, rfl, rfl, rfl, rfl, rfl, rfl, rfl, trivial⟩, ⟨rfl, hE167, h⟩⟩
                      · -- behind
                        rintro ⟨s170, x45⟩ wL ⟨rfl, hE167, h⟩
                        rw [hK167] at h
                        have szs170 := hE167.size
                        have hS : Step K0 s s170 := hS.trans0 hE167
                        have hE156 : Step (KO ku44_0) s155 s170 := hE156.trans0 hE167
                        have hE157 : Step (KO ku44_0) s155 s170 := hE157.trans0 hE167
                        have hE164 : Step (KO ku44_0) s162 s170 := hE164.trans0 hE167
                        replace hp2 := hp2.up2 hE167
                        replace h45_0 := h45_0.up2 hE167
                        replace h165_0 := h165_0.up2 hE167
                        replace h1_0 := h1_0.up2 hE167
                        replace h44_0 := h44_0.up2 hE167
                        replace h46 := h46.up2 hE167
                        refine k_seq ?_
                        refine k_region ?_
                        refine k_move rfl rfl ?_
                        refine k_move rfl rfl ?_
                        refine k_move rfl rfl ?_
                        obtain ⟨x47, hx47, h⟩ := ob h
                        refine k_ixaddr Try.underlying40 size43 rfl rfl (SL.of_R h165_0) (geti_out hx47).1 (geti_map hx47) rfl ?_
                        intro qx47 hqx47
                        refine k_field_at (o := 0) rfl hqx47 (by rfl) fld43_0 rfl ?_
                        intro q171 h171
                        refine k_load_val one30 rfl h171 rfl ?_
                        obtain ⟨x48, hx48, h⟩ := ob h
                        refine k_call cal12 rfl (net_Net_Deliver_w  h44_0 hx48) rfl ?_
                        rintro s172 vr172 st172 ⟨cs172_0, rfl, h172_0, h44_0⟩
                        have szs172 := st172.size
                        have hS : Step K0 s s172 := hS.comp st172 (by intro l hl hk; (try simp only [KC, KO, KU, KN, K0] at hk ⊢) <;> omega)
                        have hE156 : Step (KO ku44_0) s155 s172 := hE156.comp st172 (by intro l hl hk; (try simp only [KC, KO, KU, KN, K0] at hk ⊢) <;> omega)
                        have hE157 : Step (KO ku44_0) s155 s172 := hE157.comp st172 (by intro l hl hk; (try simp only [KC, KO, KU, KN, K0] at hk ⊢) <;> omega)
                        have hE164 : Step (KO ku44_0) s162 s172 := hE164.comp st172 (by intro l hl hk; (try simp only [KC, KO, KU, KN, K0] at hk ⊢) <;> omega)
                        replace hp2 := hp2.up2 st172
                        replace h45_0 := h45_0.up2 st172
                        replace h165_0 := h165_0.up2 st172
                        replace hqx47 := hqx47.up2 st172
                        replace h171 := h171.up2 st172
                        replace h1_0 := h1_0.up2 st172
                        replace h46 := h46.up2 st172
                        obtain ⟨q172_0_0, rfl, hq172_0_0⟩ := opnApiMessage h172_0
                        refine k_move rfl rfl ?_
                        refine k_extract rfl rfl rfl ?_
                        refine k_extract rfl rfl rfl ?_
                        refine k_alloc zero36 rfl ?_
                        intro s173 b173 st173 h173 ge173
                        have szs173 := st173.size
                        have hS : Step K0 s s173 := hS.trans0 st173
                        have hE156 : Step (KO ku44_0) s155 s173 := hE156.trans0 st173
                        have hE157 : Step (KO ku44_0) s155 s173 := hE157.trans0 st173
                        have hE164 : Step (KO ku44_0) s162 s173 := hE164.trans0 st173
                        replace hp2 := hp2.up2 st173
                        replace h45_0 := h45_0.up2 st173
                        replace h165_0 := h165_0.up2 st173
                        replace hqx47 := hqx47.up2 st173
                        replace h171 := h171.up2 st173
                        replace hq172_0_0 := hq172_0_0.up2 st173
                        replace h1_0 := h1_0.up2 st173
                        replace h44_0 := h44_0.up2 st173
                        replace h46 := h46.up2 st173
                        have lt173 := h173.lt
                        refine k_store_c (cs' := [.int .i64 x48.1.From, .int .i64 x48.1.To, q172_0_0]) size36 rfl rfl h173 (by first | (simp; done) | omega | (dsimp only; omega)) (CellsOf.lit (vs := [.int .i64 x48.1.From, .int .i64 x48.1.To, q172_0_0]) rfl (ones.cons rfl (ones.cons rfl (ones.cons ((SL.of_R hq172_0_0)).one1 ones.nil)))) rfl (by first | rfl | (simp; done) | (simp; omega)) rfl ?_
                        intro s174 st174 h173
                        have szs174 := st174.size
                        have hS : Step K0 s s174 := hS.comp st174 (by intro l hl hk; (try simp only [KC, KO, KU, KN, K0] at hk ⊢) <;> omega)
                        have hE156 : Step (KO ku44_0) s155 s174 := hE156.comp st174 (by intro l hl hk; (try simp only [KC, KO, KU, KN, K0] at hk ⊢) <;> omega)
                        have hE157 : Step (KO ku44_0) s155 s174 := hE157.comp st174 (by intro l hl hk; (try simp only [KC, KO, KU, KN, K0] at hk ⊢) <;> omega)
                        have hE164 : Step (KO ku44_0) s162 s174 := hE164.comp st174 (by intro l hl hk; (try simp only [KC, KO, KU, KN, K0] at hk ⊢) <;> omega)
                        replace hp2 := hp2.up2 st174
                        replace h45_0 := h45_0.up2 st174
                        replace h165_0 := h165_0.up2 st174
                        replace hqx47 := hqx47.up2 st174
                        replace h171 := h171.up2 st174
                        replace hq172_0_0 := hq172_0_0.up2 st174
                        replace h1_0 := h1_0.up2 st174
                        replace h44_0 := h44_0.up2 st174
                        replace h46 := h46.up2 st174
                        refine k_assign rfl rfl ?_
                        refine k_nil ?_
                        refine k_keep [(2, _), (6, _), (7, _), (10, _), (11, _), (12, _), (16, _), (17, _), (18, _), (19, _), (20, _)] ⟨rfl, rfl, rfl, rfl, rfl, rfl, rfl, rfl, rfl, rfl, rfl, trivial⟩ ?_
                        refine k_seq ?_
                        refine k_seq ?_
                        refine k_region ?_
                        refine k_move rfl rfl ?_
                        refine k_neq rfl rfl rfl ?_
                        refine k_nil ?_
                        refine k_keep [(2, _), (6, _), (7, _), (10, _), (11, _), (12, _), (16, _), (17, _), (18, _), (19, _), (188, _)] ⟨rfl, rfl, rfl, rfl, rfl, rfl, rfl, rfl, rfl, rfl, rfl, trivial⟩ ?_
                        refine k_cond_dec rfl (fun c175 => ?_) (fun c175 => ?_)
                        · -- T
                          have h := itT h c175
                          refine k_seq ?_
                          refine k_region ?_
                          refine k_assign rfl rfl ?_
                          refine k_nil ?_
                          refine k_keep [(2, _), (6, _), (7, _), (10, _), (11, _), (12, _), (16, _), (17, _), (18, _), (19, _)] ⟨rfl, rfl, rfl, rfl, rfl, rfl, rfl, rfl, rfl, rfl, trivial⟩ ?_
                          refine k_ret ?_
                          obtain rfl := Option.some.inj h
                          refine ⟨_, rfl, Ret.mk hS ?_⟩
                          exact rfl
                        · -- F
                          have h := itF h c175
                          refine k_skip ?_
                          refine k_seq ?_
                          refine k_region ?_
                          refine k_assign rfl rfl ?_
                          refine k_nil ?_
                          refine k_keep [(2, _), (6, _), (7, _), (10, _), (11, _), (12, _), (16, _), (17, _), (18, _), (19, _), (21, _)] ⟨rfl, rfl, rfl, rfl, rfl, rfl, rfl, rfl, rfl, rfl, rfl, trivial⟩ ?_
                          refine k_block ?_
                          refine k_loopc (X := St × Int × Nat) [(2, _), (6, _), (7, _), (10, _), (11, _), (12, _), (16, _), (17, _), (18, _), (19, _)] (fun (xL : St × Int × Nat) => match xL with | (sl, x49, j) => [(21, .int .i64 x49)]) (fun (xL : St × Int × Nat) (wL : World) => match xL with | (sl, x49, j) => sl.w = wL ∧ Step K0 s174 sl ∧ law22_NetBag_l4 x20 x43 x45 x25 x48 kj41 j x49 = some r) (fun (xL : St × Int × Nat) => match xL with | (sl, x49, j) => j) (s174, 0, FU) ⟨rfl, rfl, rfl, rfl, rfl, rfl, rfl, rfl, rfl, rfl, trivial⟩ ⟨(by first | rfl | (simp <;> rfl)), trivial⟩ ⟨rfl, (Step.refl _).of0 (by first | exact fun _ h => h | (intro c h; simp [KC, KO, KU, KN] at h <;> omega)), h⟩ ?_
                          rintro ⟨s177, x49, j⟩ wL ⟨rfl, hE176, h⟩
                          cases j with
                          | zero => rw [law22_NetBag_l4] at h; exact (noneNe h).elim
                          | succ j =>
                          rw [law22_NetBag_l4] at h
                          have szs177 := hE176.size
                          have hS : Step K0 s s177 := hS.trans0 hE176
                          have hE156 : Step (KO ku44_0) s155 s177 := hE156.trans0 hE176
                          have hE157 : Step (KO ku44_0) s155 s177 := hE157.trans0 hE176
                          have hE164 : Step (KO ku44_0) s162 s177 := hE164.trans0 hE176
                          replace hp2 := hp2.up2 hE176
                          replace h45_0 := h45_0.up2 hE176
                          replace h165_0 := h165_0.up2 hE176
                          replace h1_0 := h1_0.up2 hE176
                          replace h44_0 := h44_0.up2 hE176
                          replace h46 := h46.up2 hE176
                          replace hq172_0_0 := hq172_0_0.up2 hE176
                          replace h173 := h173.up2 hE176
                          refine k_seq ?_
                          refine k_seq ?_
                          refine k_region ?_
                          refine k_move rfl rfl ?_
                          refine k_move rfl rfl ?_
                          refine k_len Try.underlying40 rfl (SL.of_R h45_0).hasLen rfl ?_
                          refine k_as (v := .int .i64 (x20.length : Int)) (by simp only [List.length_map]) ?_
                          refine k_lss rfl rfl rfl ?_
                          refine k_nil ?_
                          refine k_keep [(2, _), (6, _), (7, _), (10, _), (11, _), (12, _), (16, _), (17, _), (18, _), (19, _), (21, _), (192, _)] ⟨rfl, rfl, rfl, rfl, rfl, rfl, rfl, rfl, rfl, rfl, rfl, rfl, trivial⟩ ?_
                          refine k_cond_dec rfl (fun c178 => ?_) (fun c178 => ?_)
                          · -- T
                            have h := itT h c178
                            refine k_skip ?_
                            refine k_seq ?_
                            refine k_block ?_
                            refine k_seq ?_
                            refine k_keep [(2, _), (6, _), (7, _), (10, _), (11, _), (12, _), (16, _), (17, _), (18, _), (19, _), (21, _)] ⟨rfl, rfl, rfl, rfl, rfl, rfl, rfl, rfl, rfl, rfl, rfl, trivial⟩ ?_
                            refine k_drawT (KN s177.n) 20 (.read 0 (.read 1 (.read 2 (.read 3 (.read 4 (.read 5 (.read 6 (.read 7 (.read 8 (.read 9 (.read 10 (.read 11 (.read 12 (.read 13 (.read 14 (.read 15 (.read 16 (.alt 17 (.read 18 (.read 19 .fin)) .no)))))))))))))))))) mixed (by intro c h; (try simp only [KC, KO, KU, KN] at h) <;> omega) rfl rfl rfl ?_
                            intro s179 st179
                            have szs179 := st179.size
                            have hS : Step K0 s s179 := hS.trans0 st179
                            have hE156 : Step (KO ku44_0) s155 s179 := hE156.trans0 st179
                            have hE157 : Step (KO ku44_0) s155 s179 := hE157.trans0 st179
                            have hE164 : Step (KO ku44_0) s162 s179 := hE164.trans0 st179
                            have hE176 : Step K0 s174 s179 := hE176.trans0 st179
                            replace hp2 := hp2.up2 st179
                            replace h45_0 := h45_0.up2 st179
                            replace h165_0 := h165_0.up2 st179
                            replace h1_0 := h1_0.up2 st179
                            replace h44_0 := h44_0.up2 st179
                            replace h46 := h46.up2 st179
                            replace hq172_0_0 := hq172_0_0.up2 st179
                            replace h173 := h173.up2 st179
                            refine rt_read (v45_0) rfl rfl (fun s180 st180 => ?_) ?_
                            · try replace hp2 := hp2.up2 st180
                              try replace h45_0 := h45_0.up2 st180
                              try replace h165_0 := h165_0.up2 st180
                              try replace h1_0 := h1_0.up2 st180
                              try replace h44_0 := h44_0.up2 st180
                              try replace h46 := h46.up2 st180
                              try replace hq172_0_0 := hq172_0_0.up2 st180
                              try replace h173 := h173.up2 st180
                              refine k_move rfl rfl ?_
                              exact fq_end
                            refine rt_read (.int .i64 x49) rfl rfl (fun s181 st181 => ?_) ?_
                            · try replace hp2 := hp2.up2 st181
                              try replace h45_0 := h45_0.up2 st181
                              try replace h165_0 := h165_0.up2 st181
                              try replace h1_0 := h1_0.up2 st181
                              try replace h44_0 := h44_0.up2 st181
                              try replace h46 := h46.up2 st181
                              try replace hq172_0_0 := hq172_0_0.up2 st181
                              try replace h173 := h173.up2 st181
                              refine k_move rfl rfl ?_
                              exact fq_end
                            obtain ⟨x50, hx50, h⟩ := ob h
                            refine rt_ix rfl (wanted_none rfl) Try.underlying40 size43 rfl rfl (SL.of_R h45_0) (geti_out hx50).1 (geti_map hx50) rfl ?_
                            intro q182 hq182
                            refine rt_fa rfl (wanted_none rfl) rfl hq182 (by rfl) fld43_0 rfl ?_
                            intro q183 h183
                            refine rt_read (.int .u64 (x50.Id.toNat : Int)) rfl rfl (fun s184 st184 => ?_) ?_
                            · try replace hp2 := hp2.up2 st184
                              try replace h45_0 := h45_0.up2 st184
                              try replace h165_0 := h165_0.up2 st184
                              try replace hq182 := hq182.up2 st184
                              try replace h183 := h183.up2 st184
                              try replace h1_0 := h1_0.up2 st184
                              try replace h44_0 := h44_0.up2 st184
                              try replace h46 := h46.up2 st184
                              try replace hq172_0_0 := hq172_0_0.up2 st184
                              try replace h173 := h173.up2 st184
                              refine k_load_val one30 rfl h183 rfl ?_
                              exact fq_end
                            refine rt_read (v165_0) rfl rfl (fun s185 st185 => ?_) ?_
                            · try replace hp2 := hp2.up2 st185
                              try replace h45_0 := h45_0.up2 st185
                              try replace h165_0 := h165_0.up2 st185
                              try replace hq182 := hq182.up2 st185
                              try replace h183 := h183.up2 st185
                              try replace h1_0 := h1_0.up2 st185
                              try replace h44_0 := h44_0.up2 st185
                              try replace h46 := h46.up2 st185
                              try replace hq172_0_0 := hq172_0_0.up2 st185
                              try replace h173 := h173.up2 st185
                              refine k_move rfl rfl ?_
                              exact fq_end
                            refine rt_read (.int .i64 x45) rfl rfl (fun s186 st186 => ?_) ?_
                            · try replace hp2 := hp2.up2 st186
                              try replace h45_0 := h45_0.up2 st186
                              try replace h165_0 := h165_0.up2 st186
                              try replace hq182 := hq182.up2 st186
                              try replace h183 := h183.up2 st186
                              try replace h1_0 := h1_0.up2 st186
                              try replace h44_0 := h44_0.up2 st186
                              try replace h46 := h46.up2 st186
                              try replace hq172_0_0 := hq172_0_0.up2 st186
                              try replace h173 := h173.up2 st186
                              refine k_move rfl rfl ?_
                              exact fq_end
                            obtain ⟨x51, hx51, h⟩ := ob h
                            refine rt_ix rfl (wanted_none rfl) Try.underlying40 size43 rfl rfl (SL.of_R h165_0) (geti_out hx51).1 (geti_map hx51) rfl ?_
                            intro q187 hq187
                            refine rt_fa rfl (wanted_none rfl) rfl hq187 (by rfl) fld43_0 rfl ?_
                            intro q188 h188
                            refine rt_read (.int .u64 (x51.Id.toNat : Int)) rfl rfl (fun s189 st189 => ?_) ?_
                            · try replace hp2 := hp2.up2 st189
                              try replace h45_0 := h45_0.up2 st189
                              try replace h165_0 := h165_0.up2 st189
                              try replace hq182 := hq182.up2 st189
                              try replace h183 := h183.up2 st189
                              try replace hq187 := hq187.up2 st189
                              try replace h188 := h188.up2 st189
                              try replace h1_0 := h1_0.up2 st189
                              try replace h44_0 := h44_0.up2 st189
                              try replace h46 := h46.up2 st189
                              try replace hq172_0_0 := hq172_0_0.up2 st189
                              try replace h173 := h173.up2 st189
                              refine k_load_val one30 rfl h188 rfl ?_
                              exact fq_end
                            refine rt_read (.bool (decide ((x50.Id.toNat : Int) = (x51.Id.toNat : Int)))) rfl rfl (fun s190 st190 => ?_) ?_
                            · try replace hp2 := hp2.up2 st190
                              try replace h45_0 := h45_0.up2 st190
                              try replace h165_0 := h165_0.up2 st190
                              try replace hq182 := hq182.up2 st190
                              try replace h183 := h183.up2 st190
                              try replace hq187 := hq187.up2 st190
                              try replace h188 := h188.up2 st190
                              try replace h1_0 := h1_0.up2 st190
                              try replace h44_0 := h44_0.up2 st190
                              try replace h46 := h46.up2 st190
                              try replace hq172_0_0 := hq172_0_0.up2 st190
                              try replace h173 := h173.up2 st190
                              refine k_eql rfl rfl rfl ?_
                              exact fq_end
                            refine rt_read (.bool (decide ((x50.Id.toNat : Int) = (x51.Id.toNat : Int)))) rfl rfl (fun s191 st191 => ?_) ?_
                            · try replace hp2 := hp2.up2 st191
                              try replace h45_0 := h45_0.up2 st191
                              try replace h165_0 := h165_0.up2 st191
                              try replace hq182 := hq182.up2 st191
                              try replace h183 := h183.up2 st191
                              try replace hq187 := hq187.up2 st191
                              try replace h188 := h188.up2 st191
                              try replace h1_0 := h1_0.up2 st191
                              try replace h44_0 := h44_0.up2 st191
                              try replace h46 := h46.up2 st191
                              try replace hq172_0_0 := hq172_0_0.up2 st191
                              try replace h173 := h173.up2 st191
                              refine k_move rfl rfl ?_
                              exact fq_end
                            refine rt_split (fun c192 => ?_) (fun c192 => ?_)
                            · -- t206 True
                              have h := itT h c192
                              refine rt_read (.agg #[.int .i64 x48.1.From, .int .i64 x48.1.To, q172_0_0]) rfl rfl (fun s193 st193 => ?_) ?_
                              · try replace hp2 := hp2.up2 st193
                                try replace h45_0 := h45_0.up2 st193
                                try replace h165_0 := h165_0.up2 st193
                                try replace hq182 := hq182.up2 st193
                                try replace h183 := h183.up2 st193
                                try replace hq187 := hq187.up2 st193
                                try replace h188 := h188.up2 st193
                                try replace h1_0 := h1_0.up2 st193
                                try replace h44_0 := h44_0.up2 st193
                                try replace h46 := h46.up2 st193
                                try replace hq172_0_0 := hq172_0_0.up2 st193
                                try replace h173 := h173.up2 st193
                                refine k_yes rfl rfl ?_
                                refine k_load_blka (cs := [.int .i64 x48.1.From, .int .i64 x48.1.To, q172_0_0]) agg36 rfl h173 rfl ?_
                                exact fq_end
                              refine rt_read (v46) rfl rfl (fun s194 st194 => ?_) ?_
                              · try replace hp2 := hp2.up2 st194
                                try replace h45_0 := h45_0.up2 st194
                                try replace h165_0 := h165_0.up2 st194
                                try replace hq182 := hq182.up2 st194
                                try replace h183 := h183.up2 st194
                                try replace hq187 := hq187.up2 st194
                                try replace h188 := h188.up2 st194
                                try replace hq172_0_0 := hq172_0_0.up2 st194
                                try replace h1_0 := h1_0.up2 st194
                                try replace h44_0 := h44_0.up2 st194
                                try replace h46 := h46.up2 st194
                                try replace h173 := h173.up2 st194
                                refine k_yes rfl rfl ?_
                                refine k_move rfl rfl ?_
                                exact fq_end
                              refine rt_read (.int .i64 x49) rfl rfl (fun s195 st195 => ?_) ?_
                              · try replace hp2 := hp2.up2 st195
                                try replace h45_0 := h45_0.up2 st195
                                try replace h165_0 := h165_0.up2 st195
                                try replace hq182 := hq182.up2 st195
                                try replace h183 := h183.up2 st195
                                try replace hq187 := hq187.up2 st195
                                try replace h188 := h188.up2 st195
                                try replace hq172_0_0 := hq172_0_0.up2 st195
                                try replace h1_0 := h1_0.up2 st195
                                try replace h44_0 := h44_0.up2 st195
                                try replace h46 := h46.up2 st195
                                try replace h173 := h173.up2 st195
                                refine k_yes rfl rfl ?_
                                refine k_move rfl rfl ?_
                                exact fq_end
                              obtain ⟨x52, hx52, h⟩ := ob h
                              refine rt_ix rfl (wanted_yes rfl rfl rfl) Try.underlying46 size36 rfl rfl (h46.sl) (geti_out hx52).1 (geti_map hx52) rfl ?_
                              intro q196 hq196
                              refine rt_ldagg rfl (wanted_yes rfl rfl rfl) (by exact agg36) rfl hq196 (by first | exact id | (simp only [KC, KO, KU, KN] <;> omega)) rfl ?_
                              intro cs197 h197
                              obtain ⟨q197_0, rfl, hq197_0⟩ := opnApiMessage h197
                              refine rt_act rfl rfl ?_
                              refine k_yes rfl rfl ?_
                              have hA198 : Step (KN s177.n) s179 s179 := (Step.refl _).of0 (by first | exact fun _ h => h | (intro c h; simp [KC, KO, KU, KN] at h <;> omega))
                              obtain ⟨x53, hx53, h⟩ := ob h
                              refine k_call cal17 rfl (ref22_Same_w (a0 := x48.1) (a1 := x52) (SL.of_R hq172_0_0) (SL.of_R hq197_0) hx53) rfl ?_
                              rintro s199 vr199 st199 rfl
                              have szs199 := st199.size
                              have hS : Step K0 s s199 := hS.trans0 st199
                              have hE156 : Step (KO ku44_0) s155 s199 := hE156.trans0 st199
                              have hE157 : Step (KO ku44_0) s155 s199 := hE157.trans0 st199
                              have hE164 : Step (KO ku44_0) s162 s199 := hE164.trans0 st199
                              have hE176 : Step K0 s174 s199 := hE176.trans0 st199
                              have hA198 : Step (KN s177.n) s179 s199 := hA198.trans0 st199
                              replace hp2 := hp2.up2 st199
                              replace h45_0 := h45_0.up2 st199
                              replace h165_0 := h165_0.up2 st199
                              replace hq182 := hq182.up2 st199
                              replace h183 := h183.up2 st199
                              replace hq187 := hq187.up2 st199
                              replace h188 := h188.up2 st199
                              replace hq172_0_0 := hq172_0_0.up2 st199
                              replace hq196 := hq196.up2 st199
                              replace hq197_0 := hq197_0.up2 st199
                              replace h1_0 := h1_0.up2 st199
                              replace h44_0 := h44_0.up2 st199
                              replace h46 := h46.up2 st199
                              replace h173 := h173.up2 st199
                              refine rt_cont hA198 ?_
                              refine rt_read (.bool (!x53)) rfl rfl (fun s200 st200 => ?_) ?_
                              · try replace hp2 := hp2.up2 st200
                                try replace h45_0 := h45_0.up2 st200
                                try replace h165_0 := h165_0.up2 st200
                                try replace hq182 := hq182.up2 st200
                                try replace h183 := h183.up2 st200
                                try replace hq187 := hq187.up2 st200
                                try replace h188 := h188.up2 st200
                                try replace hq172_0_0 := hq172_0_0.up2 st200
                                try replace hq196 := hq196.up2 st200
                                try replace hq197_0 := hq197_0.up2 st200
                                try replace h1_0 := h1_0.up2 st200
                                try replace h44_0 := h44_0.up2 st200
                                try replace h46 := h46.up2 st200
                                try replace h173 := h173.up2 st200
                                refine k_yes rfl rfl ?_
                                refine k_not rfl rfl ?_
                                exact fq_end
                              refine rt_read (.bool (!x53)) rfl rfl (fun s201 st201 => ?_) ?_
                              · try replace hp2 := hp2.up2 st201
                                try replace h45_0 := h45_0.up2 st201
                                try replace h165_0 := h165_0.up2 st201
                                try replace hq182 := hq182.up2 st201
                                try replace h183 := h183.up2 st201
                                try replace hq187 := hq187.up2 st201
                                try replace h188 := h188.up2 st201
                                try replace hq172_0_0 := hq172_0_0.up2 st201
                                try replace hq196 := hq196.up2 st201
                                try replace hq197_0 := hq197_0.up2 st201
                                try replace h1_0 := h1_0.up2 st201
                                try replace h44_0 := h44_0.up2 st201
                                try replace h46 := h46.up2 st201
                                try replace h173 := h173.up2 st201
                                refine k_pickT rfl rfl rfl rfl ?_
                                exact fq_end
                              refine rt_fin ?_
                              refine k_nil ?_
                              refine k_keep [(2, _), (6, _), (7, _), (10, _), (11, _), (12, _), (16, _), (17, _), (18, _), (19, _), (21, _), (214, _)] ⟨rfl, rfl, rfl, rfl, rfl, rfl, rfl, rfl, rfl, rfl, rfl, rfl, trivial⟩ ?_
                              refine k_cond rfl (fun c202 => ?_) (fun c202 => ?_)
                              · -- T
                                have h := ibT h c202
                                refine k_seq ?_
                                refine k_region ?_
                                refine k_assign rfl rfl ?_
                                refine k_nil ?_
                                refine k_keep [(2, _), (6, _), (7, _), (10, _), (11, _), (12, _), (16, _), (17, _), (18, _), (19, _), (21, _)] ⟨rfl, rfl, rfl, rfl, rfl, rfl, rfl, rfl, rfl, rfl, rfl, trivial⟩ ?_
                                refine k_ret ?_
                                obtain rfl := Option.some.inj h
                                refine ⟨_, rfl, Ret.mk hS ?_⟩
                                exact rfl
                              · -- F
                                have h := ibF h c202
                                refine k_skip ?_
                                refine k_blk ?_
                                refine k_region ?_
                                refine k_move rfl rfl ?_
                                refine k_add rfl rfl rfl ?_
                                refine k_assign rfl rfl ?_
                                refine k_nil ?_
                                exact k_stop ⟨(s199, i64 (x49 + 1), j), ⟨(by first | rfl | (simp <;> rfl)), trivial⟩, ⟨rfl, rfl, rfl, rfl, rfl, rfl, rfl, rfl, rfl, rfl, trivial⟩, ⟨rfl, hE176, h⟩, (by simp)⟩
                            · -- t206 False
                              have h := itF h c192
                              refine rt_read undef rfl rfl (fun s203 st203 => ?_) ?_
                              · refine k_no rfl rfl rfl rfl ?_
                                exact fq_end
                              refine rt_read undef rfl rfl (fun s204 st204 => ?_) ?_
                              · refine k_no rfl rfl rfl rfl ?_
                                exact fq_end
                              refine rt_read undef rfl rfl (fun s205 st205 => ?_) ?_
                              · refine k_no rfl rfl rfl rfl ?_
                                exact fq_end
                              refine rt_read undef rfl rfl (fun s206 st206 => ?_) ?_
                              · refine k_no rfl rfl rfl rfl ?_
                                exact fq_end
                              refine rt_read undef rfl rfl (fun s207 st207 => ?_) ?_
                              · refine k_no rfl rfl rfl rfl ?_
                                exact fq_end
                              refine rt_act rfl rfl ?_
                              refine k_no rfl rfl rfl rfl ?_
                              refine rt_cont ((Step.refl _).of0 (by first | exact fun _ h => h | (intro c h; simp [KC, KO, KU, KN] at h <;> omega))) ?_
                              refine rt_read undef rfl rfl (fun s208 st208 => ?_) ?_
                              · refine k_no rfl rfl rfl rfl ?_
                                exact fq_end
                              refine rt_read (.bool false) rfl rfl (fun s209 st209 => ?_) ?_
                              · try replace hp2 := hp2.up2 st209
                                try replace h45_0 := h45_0.up2 st209
                                try replace h165_0 := h165_0.up2 st209
                                try replace hq182 := hq182.up2 st209
                                try replace h183 := h183.up2 st209
                                try replace hq187 := hq187.up2 st209
                                try replace h188 := h188.up2 st209
                                try replace h1_0 := h1_0.up2 st209
                                try replace h44_0 := h44_0.up2 st209
                                try replace h46 := h46.up2 st209
                                try replace hq172_0_0 := hq172_0_0.up2 st209
                                try replace h173 := h173.up2 st209
                                refine k_pickF rfl rfl rfl rfl ?_
                                exact fq_end
                              refine rt_fin ?_
                              refine k_nil ?_
                              refine k_keep [(2, _), (6, _), (7, _), (10, _), (11, _), (12, _), (16, _), (17, _), (18, _), (19, _), (21, _), (214, _)] ⟨rfl, rfl, rfl, rfl, rfl, rfl, rfl, rfl, rfl, rfl, rfl, rfl, trivial⟩ ?_
                              refine k_cond_false rfl ?_
                              refine k_skip ?_
                              refine k_blk ?_
                              refine k_region ?_
                              refine k_move rfl rfl ?_
                              refine k_add rfl rfl rfl ?_
                              refine k_assign rfl rfl ?_
                              refine k_nil ?_
                              exact k_stop ⟨(s179, i64 (x49 + 1), j), ⟨(by first | rfl | (simp <;> rfl)), trivial⟩, ⟨rfl, rfl, rfl, rfl, rfl, rfl, rfl, rfl, rfl, rfl, trivial⟩, ⟨rfl, hE176, h⟩, (by simp)⟩
                          · -- F
                            have h := itF h c178
                            refine k_exit rfl ?_
                            refine k_blk ?_
                            exact k_stop ⟨(s177, x48.2.2), trivial, ⟨rfl, rfl, rfl, rfl, rfl, rfl, rfl, trivial⟩, ⟨rfl, hE164, h44_0, h⟩⟩
                  · -- behind
                    rintro ⟨s210, x42⟩ wL ⟨rfl, hE164, h44_0, h⟩
                    rw [hK164] at h
                    have szs210 := hE164.size
                    have hS : Step K0 s s210 := hS.comp hE164 (by intro l hl hk; (try simp only [KC, KO, KU, KN, K0] at hk ⊢) <;> omega)
                    have hE156 : Step (KO ku44_0) s155 s210 := hE156.comp hE164 (by intro l hl hk; (try simp only [KC, KO, KU, KN, K0] at hk ⊢) <;> omega)
                    have hE157 : Step (KO ku44_0) s155 s210 := hE157.comp hE164 (by intro l hl hk; (try simp only [KC, KO, KU, KN, K0] at hk ⊢) <;> omega)
                    replace hp2 := hp2.up2 hE164
                    replace h45_0 := h45_0.up2 hE164
                    replace h1_0 := h1_0.up2 hE164
                    replace h46 := h46.up2 hE164
                    refine k_region ?_
                    refine k_move rfl rfl ?_
                    refine k_add rfl rfl rfl ?_
                    refine k_assign rfl rfl ?_
                    refine k_nil ?_
                    rw [hkj39] at h
                    exact k_stop ⟨(s210, i64 (x37 + 1), x42, j), ⟨(by first | rfl | (simp <;> rfl)), trivial⟩, ⟨rfl, rfl, rfl, rfl, rfl, rfl, trivial⟩, ⟨rfl, hE157, h44_0, h⟩, (by simp)⟩
                · -- F
                  have h := itF h c163
                  refine k_exit rfl ?_
                  exact k_stop ⟨(s162, x38), trivial, ⟨rfl, rfl, rfl, trivial⟩, ⟨rfl, hE156, h44_0, h⟩⟩
            · -- behind
              rintro ⟨s211, x36⟩ wL ⟨rfl, hE156, h44_0, h⟩
              rw [hK156] at h
              have szs211 := hE156.size
              have hS : Step K0 s s211 := hS.comp hE156 (by intro l hl hk; (try simp only [KC, KO, KU, KN, K0] at hk ⊢) <;> omega)
              replace h1_0 := h1_0.up2 hE156
              refine k_seq ?_
              refine k_region ?_
              refine k_move rfl rfl ?_
              obtain ⟨x54, hx54, h⟩ := ob h
              refine k_call cal11 rfl (net_Net_Send_w  h1_0 (show SL s211 L0 _ 1 (([] : List UInt8).map bD) from SL.of_R (R.of_SL (.inl ⟨rfl, none, 0, rfl, fun _ => rfl⟩))) (by first | assumption | omega | (simp <;> omega)) hx54) rfl ?_
              rintro s212 vr212 st212 ⟨rfl, h1_0⟩
              have szs212 := st212.size
              have hS : Step K0 s s212 := hS.comp st212 (by intro l hl hk; (try simp only [KC, KO, KU, KN, K0] at hk ⊢) <;> omega)
              replace h44_0 := h44_0.up2 st212
              refine k_move rfl rfl ?_
              refine k_extract rfl rfl rfl ?_
              refine k_extract rfl rfl rfl ?_
              refine k_assign rfl rfl ?_
              refine k_assign rfl rfl ?_
              refine k_nil ?_
              refine k_keep [(6, _), (7, _), (10, _), (22, _), (23, _)] ⟨rfl, rfl, rfl, rfl, rfl, trivial⟩ ?_
              refine k_seq ?_
              refine k_region ?_
              refine k_move rfl rfl ?_
              obtain ⟨x55, hx55, h⟩ := ob h
              refine k_call cal11 rfl (net_Net_Send_w  h44_0 (show SL s212 L0 _ 1 (([] : List UInt8).map bD) from SL.of_R (R.of_SL (.inl ⟨rfl, none, 0, rfl, fun _ => rfl⟩))) (by first | assumption | omega | (simp <;> omega)) hx55) rfl ?_
              rintro s213 vr213 st213 ⟨rfl, h44_0⟩
              have szs213 := st213.size
              have hS : Step K0 s s213 := hS.comp st213 (by intro l hl hk; (try simp only [KC, KO, KU, KN, K0] at hk ⊢) <;> omega)
              replace h1_0 := h1_0.up2 st213
              refine k_move rfl rfl ?_
              refine k_extract rfl rfl rfl ?_
              refine k_extract rfl rfl rfl ?_
              refine k_assign rfl rfl ?_
              refine k_assign rfl rfl ?_
              refine k_nil ?_
              refine k_keep [(6, _), (7, _), (10, _), (22, _), (23, _), (24, _), (25, _)] ⟨rfl, rfl, rfl, rfl, rfl, rfl, rfl, trivial⟩ ?_
              refine k_seq ?_
              refine k_region ?_
              refine k_move rfl rfl ?_
              obtain ⟨x56, hx56, h⟩ := ob h
              refine k_call cal18 rfl (net_Net_Count_w  h1_0 hx56) rfl ?_
              rintro s214 vr214 st214 rfl
              have szs214 := st214.size
              have hS : Step K0 s s214 := hS.trans0 st214
              replace h1_0 := h1_0.up2 st214
              replace h44_0 := h44_0.up2 st214
              refine k_move rfl rfl ?_
              obtain ⟨x57, hx57, h⟩ := ob h
              refine k_call cal18 rfl (net_Net_Count_w  h44_0 hx57) rfl ?_
              rintro s215 vr215 st215 rfl
              have szs215 := st215.size
              have hS : Step K0 s s215 := hS.trans0 st215
              replace h1_0 := h1_0.up2 st215
              replace h44_0 := h44_0.up2 st215
              refine k_eql rfl rfl rfl ?_
              refine k_move rfl rfl ?_
              have hE216 : Step K0 s215 s215 := (Step.refl _).of0 (by first | exact fun _ h => h | (intro c h; simp [KC, KO, KU, KN] at h <;> omega))
              refine k_cutl (X := St) 4 [(6, .bool false), (7, v1_0), (10, v44_0), (22, .int .u64 (x54.1.toNat : Int)), (23, .int .i64 x54.2.1), (24, .int .u64 (x55.1.toNat : Int)), (25, .int .i64 x55.2.1), (225, v1_0), (226, .int .i64 x56), (227, v44_0), (228, .int .i64 x57), (229, .bool (decide (x56 = x57)))] (fun _ => [(234, .bool (decide ((x56 = x57) ∧ ((x54.1.toNat : Int) = (x55.1.toNat : Int)))))]) (fun sl wL => sl.w = wL ∧ Step K0 s215 sl) ?_ ?_
              · -- the ways
                refine k_again 230 rfl ?_
                refine k_split (fun c217 => ?_) (fun c217 => ?_)
                · -- t230 True
                  refine k_yes rfl rfl ?_
                  refine k_move rfl rfl ?_
                  refine k_yes rfl rfl ?_
                  refine k_move rfl rfl ?_
                  refine k_yes rfl rfl ?_
                  refine k_eql rfl rfl rfl ?_
                  refine k_pickT rfl rfl rfl rfl ?_
                  exact k_met ⟨s215, ⟨(congrArg (fun b => some (Value.bool b)) (by first | exact decide_eq_decide.2 ⟨fun h => ⟨c217, h⟩, fun h => h.2⟩ | exact (decide_eq_false (fun h => c217 h.1)).symm | (simp [c217]; done) | (simp [c217, i64] <;> omega))), trivial⟩, ⟨rfl, rfl, rfl, rfl, rfl, rfl, rfl, rfl, rfl, rfl, rfl, rfl, trivial⟩, rfl, hE216⟩
                · -- t230 False
                  refine k_no rfl rfl rfl rfl ?_
                  refine k_no rfl rfl rfl rfl ?_
                  refine k_no rfl rfl rfl rfl ?_
                  refine k_pickF rfl rfl rfl rfl ?_
                  exact k_met ⟨s215, ⟨(congrArg (fun b => some (Value.bool b)) (by first | exact decide_eq_decide.2 ⟨fun h => ⟨c217, h⟩, fun h => h.2⟩ | exact (decide_eq_false (fun h => c217 h.1)).symm | (simp [c217]; done) | (simp [c217, i64] <;> omega))), trivial⟩, ⟨rfl, rfl, rfl, rfl, rfl, rfl, rfl, rfl, rfl, rfl, rfl, rfl, trivial⟩, rfl, hE216⟩
              · -- behind
                rintro s218 wL ⟨rfl, hE216⟩
                have szs218 := hE216.size
                have hS : Step K0 s s218 := hS.trans0 hE216
                replace h1_0 := h1_0.up2 hE216
                replace h44_0 := h44_0.up2 hE216
                refine k_move rfl rfl ?_
                have hE219 : Step K0 s218 s218 := (Step.refl _).of0 (by first | exact fun _ h => h | (intro c h; simp [KC, KO, KU, KN] at h <;> omega))
                refine k_cutl (X := St) 4 [(6, .bool false), (7, v1_0), (10, v44_0), (22, .int .u64 (x54.1.toNat : Int)), (23, .int .i64 x54.2.1), (24, .int .u64 (x55.1.toNat : Int)), (25, .int .i64 x55.2.1), (225, v1_0), (226, .int .i64 x56), (227, v44_0), (228, .int .i64 x57), (229, .bool (decide (x56 = x57))), (234, .bool (decide ((x56 = x57) ∧ ((x54.1.toNat : Int) = (x55.1.toNat : Int)))))] (fun _ => [(239, .bool (decide (((x56 = x57) ∧ ((x54.1.toNat : Int) = (x55.1.toNat : Int))) ∧ (x54.2.1 = x55.2.1))))]) (fun sl wL => sl.w = wL ∧ Step K0 s218 sl) ?_ ?_
                · -- the ways
                  refine k_again 235 rfl ?_
                  refine k_split (fun c220 => ?_) (fun c220 => ?_)
                  · -- t235 True
                    refine k_yes rfl rfl ?_
                    refine k_move rfl rfl ?_
                    refine k_yes rfl rfl ?_
                    refine k_move rfl rfl ?_
                    refine k_yes rfl rfl ?_
                    refine k_eql rfl rfl rfl ?_
                    refine k_pickT rfl rfl rfl rfl ?_
                    exact k_met ⟨s218, ⟨(congrArg (fun b => some (Value.bool b)) (by first | exact decide_eq_decide.2 ⟨fun h => ⟨c220, h⟩, fun h => h.2⟩ | exact (decide_eq_false (fun h => c220 h.1)).symm | (simp [c220]; done) | (simp [c220, i64] <;> omega))), trivial⟩, ⟨rfl, rfl, rfl, rfl, rfl, rfl, rfl, rfl, rfl, rfl, rfl, rfl, rfl, trivial⟩, rfl, hE219⟩
                  · -- t235 False
                    refine k_no rfl rfl rfl rfl ?_
                    refine k_no rfl rfl rfl rfl ?_
                    refine k_no rfl rfl rfl rfl ?_
                    refine k_pickF rfl rfl rfl rfl ?_
                    exact k_met ⟨s218, ⟨(congrArg (fun b => some (Value.bool b)) (by first | exact decide_eq_decide.2 ⟨fun h => ⟨c220, h⟩, fun h => h.2⟩ | exact (decide_eq_false (fun h => c220 h.1)).symm | (simp [c220]; done) | (simp [c220, i64] <;> omega))), trivial⟩, ⟨rfl, rfl, rfl, rfl, rfl, rfl, rfl, rfl, rfl, rfl, rfl, rfl, rfl, trivial⟩, rfl, hE219⟩
                · -- behind
                  rintro s221 wL ⟨rfl, hE219⟩
                  have szs221 := hE219.size
                  have hS : Step K0 s s221 := hS.trans0 hE219
                  replace h1_0 := h1_0.up2 hE219
                  replace h44_0 := h44_0.up2 hE219
                  refine k_move rfl rfl ?_
                  obtain ⟨x58, hx58, h⟩ := ob h
                  have hE222 : Step K0 s221 s221 := (Step.refl _).of0 (by first | exact fun _ h => h | (intro c h; simp [KC, KO, KU, KN] at h <;> omega))
                  refine k_cutl (X := St) 2 [(6, .bool false), (7, v1_0), (10, v44_0), (22, .int .u64 (x54.1.toNat : Int)), (23, .int .i64 x54.2.1), (24, .int .u64 (x55.1.toNat : Int)), (25, .int .i64 x55.2.1), (225, v1_0), (226, .int .i64 x56), (227, v44_0), (228, .int .i64 x57), (229, .bool (decide (x56 = x57))), (234, .bool (decide ((x56 = x57) ∧ ((x54.1.toNat : Int) = (x55.1.toNat : Int))))), (239, .bool (decide (((x56 = x57) ∧ ((x54.1.toNat : Int) = (x55.1.toNat : Int))) ∧ (x54.2.1 = x55.2.1))))] (fun _ => [(242, .bool x58)]) (fun sl wL => sl.w = wL ∧ Step K0 s221 sl) ?_ ?_
                  · -- the ways
                    refine k_again 240 rfl ?_
                    refine k_split (fun c223 => ?_) (fun c223 => ?_)
                    · -- t240 True
                      have hx58 := itT hx58 c223
                      refine k_yes rfl rfl ?_
                      obtain ⟨x59, hx59, hx58⟩ := ob hx58
                      refine k_call cal10 rfl (law22_awake_w   hx59) rfl ?_
                      rintro s224 vr224 st224 rfl
                      have szs224 := st224.size
                      have hS : Step K0 s s224 := hS.trans0 st224
                      have hE222 : Step K0 s221 s224 := hE222.trans0 st224
                      replace h1_0 := h1_0.up2 st224
                      replace h44_0 := h44_0.up2 st224
                      refine k_pickT rfl rfl rfl rfl ?_
                      exact k_met ⟨s224, ⟨(congrArg (fun b => some (Value.bool b)) (Option.some.inj hx58)), trivial⟩, ⟨rfl, rfl, rfl, rfl, rfl, rfl, rfl, rfl, rfl, rfl, rfl, rfl, rfl, rfl, trivial⟩, rfl, hE222⟩
                    · -- t240 False
                      have hx58 := itF hx58 c223
                      refine k_no rfl rfl rfl rfl ?_
                      refine k_pickF rfl rfl rfl rfl ?_
                      exact k_met ⟨s221, ⟨(congrArg (fun b => some (Value.bool b)) (Option.some.inj hx58)), trivial⟩, ⟨rfl, rfl, rfl, rfl, rfl, rfl, rfl, rfl, rfl, rfl, rfl, rfl, rfl, rfl, trivial⟩, rfl, hE222⟩
                  · -- behind
                    rintro s225 wL ⟨rfl, hE222⟩
                    have szs225 := hE222.size
                    have hS : Step K0 s s225 := hS.trans0 hE222
                    replace h1_0 := h1_0.up2 hE222
                    replace h44_0 := h44_0.up2 hE222
                    refine k_assign rfl rfl ?_
                    refine k_nil ?_
                    refine k_keep [(6, _)] ⟨rfl, trivial⟩ ?_
                    refine k_ret ?_
                    obtain rfl := Option.some.inj h
                    refine ⟨_, rfl, Ret.mk hS ?_⟩
                    exact rfl
end Go.Proofs
