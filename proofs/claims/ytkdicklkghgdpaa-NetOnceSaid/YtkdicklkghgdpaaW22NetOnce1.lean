import Derived.Test.YtkdicklkghgdpaaW22NetOnce0
set_option linter.unusedSimpArgs false
set_option linter.unusedVariables false
namespace Go.Proofs
open Go.Fw
set_option maxHeartbeats 1000000 in
set_option maxRecDepth 100000 in
theorem law22_NetOnce_w {s : St} {a0 : Int} {l1 : Lab} {v1 : Value} {a1 : (List Law22Call)} {r : Bool} (hp1 : SL s l1 v1 5 (a1.map dLaw22Call)) (h : law22_NetOnce a0 a1 = some r) : Calls Try.prog 4 #[.int .i64 a0, v1] s.w (Ret s K0 (fun s1 v => v = .bool r)) := by
  unfold law22_NetOnce at h
  obtain ⟨lf1, lf1le, lf1ne, hp1⟩ := hp1.fix
  have hS : Step K0 s s := (Step.refl _).of0 (by first | exact fun _ h => h | (intro c h; simp [KC, KO, KU, KN] at h <;> omega))
  refine k_fn (rs := [4]) (args := [.int .i64 a0, v1]) Try.func4 rfl rfl rfl rfl ?_
  refine k_seq ?_
  refine k_region ?_
  refine k_assign rfl rfl ?_
  refine k_nil ?_
  refine k_seq ?_
  refine k_region ?_
  refine k_move rfl rfl ?_
  obtain ⟨x1, hx1, h⟩ := ob h
  refine k_call cal8 rfl (net_New_w   hx1) rfl ?_
  rintro s1 vr1 st1 ⟨ku1_0, v1_0, rfl, hk1_0, h1_0⟩
  have szs1 := st1.size
  have hS : Step K0 s s1 := hS.trans0 st1
  replace hp1 := hp1.up2 st1
  have ol1_0 := OptONetNet.le (k := ku1_0) h1_0
  refine k_move rfl rfl ?_
  refine k_extract rfl rfl rfl ?_
  refine k_extract rfl rfl rfl ?_
  refine k_assign rfl rfl ?_
  refine k_assign rfl rfl ?_
  refine k_nil ?_
  refine k_keep [(1, _), (4, _), (5, _), (6, _)] ⟨rfl, rfl, rfl, rfl, trivial⟩ ?_
  refine k_seq ?_
  refine k_seq ?_
  refine k_region ?_
  refine k_move rfl rfl ?_
  refine k_neq rfl rfl rfl ?_
  refine k_move rfl rfl ?_
  obtain ⟨x2, hx2, h⟩ := ob h
  have hE2 : Step K0 s1 s1 := (Step.refl _).of0 (by first | exact fun _ h => h | (intro c h; simp [KC, KO, KU, KN] at h <;> omega))
  refine k_cutl (X := St) 3 [(1, v1), (4, .bool false), (5, v1_0), (6, .int .i64 x1.2), (28, .int .i64 x1.2), (29, .bool (decide (x1.2 ≠ 0)))] (fun _ => [(33, .bool x2)]) (fun sl wL => sl.w = wL ∧ Step K0 s1 sl) ?_ ?_
  · -- the ways
    refine k_again 30 rfl ?_
    refine k_split (fun c3 => ?_) (fun c3 => ?_)
    · -- t30 True
      have hx2 := itT hx2 c3
      refine k_no rfl rfl rfl rfl ?_
      refine k_no rfl rfl rfl rfl ?_
      refine k_pickT rfl rfl rfl rfl ?_
      exact k_met ⟨s1, ⟨(congrArg (fun b => some (Value.bool b)) (Option.some.inj hx2)), trivial⟩, ⟨rfl, rfl, rfl, rfl, rfl, rfl, trivial⟩, rfl, hE2⟩
    · -- t30 False
      have hx2 := itF hx2 c3
      refine k_yes rfl rfl ?_
      refine k_move rfl rfl ?_
      refine k_yes rfl rfl ?_
      obtain ⟨x3, hx3, hx2⟩ := ob hx2
      refine k_call cal9 rfl (law22_many_w  hp1 hx3) rfl ?_
      rintro s4 vr4 st4 rfl
      have szs4 := st4.size
      have hS : Step K0 s s4 := hS.trans0 st4
      have hE2 : Step K0 s1 s4 := hE2.trans0 st4
      replace hp1 := hp1.up2 st4
      replace h1_0 : OptONetNet s4 ku1_0 v1_0 x1.1 := OptONetNet.up3 h1_0 ol1_0 st4
      refine k_pickF rfl rfl rfl rfl ?_
      exact k_met ⟨s4, ⟨(congrArg (fun b => some (Value.bool b)) (Option.some.inj hx2)), trivial⟩, ⟨rfl, rfl, rfl, rfl, rfl, rfl, trivial⟩, rfl, hE2⟩
  · -- behind
    rintro s5 wL ⟨rfl, hE2⟩
    have szs5 := hE2.size
    have hS : Step K0 s s5 := hS.trans0 hE2
    replace hp1 := hp1.up2 hE2
    replace h1_0 : OptONetNet s5 ku1_0 v1_0 x1.1 := OptONetNet.up3 h1_0 ol1_0 hE2
    refine k_nil ?_
    refine k_keep [(1, _), (4, _), (5, _), (33, _)] ⟨rfl, rfl, rfl, rfl, trivial⟩ ?_
    refine k_cond rfl (fun c6 => ?_) (fun c6 => ?_)
    · -- T
      have h := ibT h c6
      refine k_seq ?_
      refine k_region ?_
      obtain ⟨x4, hx4, h⟩ := ob h
      refine k_call cal10 rfl (law22_awake_w   hx4) rfl ?_
      rintro s7 vr7 st7 rfl
      have szs7 := st7.size
      have hS : Step K0 s s7 := hS.trans0 st7
      replace hp1 := hp1.up2 st7
      replace h1_0 : OptONetNet s7 ku1_0 v1_0 x1.1 := OptONetNet.up3 h1_0 ol1_0 st7
      refine k_assign rfl rfl ?_
      refine k_nil ?_
      refine k_keep [(1, _), (4, _), (5, _)] ⟨rfl, rfl, rfl, trivial⟩ ?_
      refine k_ret ?_
      obtain rfl := Option.some.inj h
      refine ⟨_, rfl, Ret.mk hS ?_⟩
      exact rfl
    · -- F
      have h := ibF h c6
      refine k_skip ?_
      refine k_seq ?_
      refine k_region ?_
      refine k_build plc36 zero36 rfl Parts.nil (by rfl) rfl ?_
      refine k_as (v := .agg #[.int .i64 0, .int .i64 0, .slice none 0 0]) rfl ?_
      refine k_bslice2 (ds := ([(⟨0, 0, []⟩ : ApiMessage)] : List ApiMessage).map dApiMessage) slc46 rfl (RVs.cons ⟨_, rfl, (clsApiMessage (⟨0, 0, []⟩ : ApiMessage) (R.of_SL (.inl ⟨rfl, none, 0, rfl, fun _ => rfl⟩)))⟩ RVs.nil) (by rfl) (by rfl) rfl rfl ?_
      intro s8 v8 b8 st8 ge8 bl8 h8
      have szs8 := st8.size
      have hS : Step K0 s s8 := hS.trans0 st8
      replace hp1 := hp1.up2 st8
      replace h1_0 : OptONetNet s8 ku1_0 v1_0 x1.1 := OptONetNet.up3 h1_0 ol1_0 st8
      have lt8 := Own.le1 h8
      refine k_assign rfl rfl ?_
      refine k_nil ?_
      refine k_keep [(1, _), (4, _), (5, _), (7, _)] ⟨rfl, rfl, rfl, rfl, trivial⟩ ?_
      refine k_seq ?_
      refine k_region ?_
      refine k_bslice2 (ds := ([0] : List Int).map dI64) slc47 rfl (RVs.cons (R.val rfl) RVs.nil) (by rfl) (by rfl) rfl rfl ?_
      intro s9 v9 b9 st9 ge9 bl9 h9
      have szs9 := st9.size
      have hS : Step K0 s s9 := hS.trans0 st9
      replace hp1 := hp1.up2 st9
      replace h1_0 : OptONetNet s9 ku1_0 v1_0 x1.1 := OptONetNet.up3 h1_0 ol1_0 st9
      replace h8 := h8.up2 st9
      have lt9 := Own.le1 h9
      refine k_assign rfl rfl ?_
      refine k_nil ?_
      refine k_keep [(1, _), (4, _), (5, _), (7, _), (8, _)] ⟨rfl, rfl, rfl, rfl, rfl, trivial⟩ ?_
      refine k_seq ?_
      obtain ⟨x5, hx5, h⟩ := ob h
      replace ol1_0 := ol1_0.resolve_left (fun e => by rw [e] at hx5; cases hx5)
      rw [hx5] at h1_0
      replace h1_0 : ONetNet s9 ku1_0 v1_0 x5 := h1_0
      have le10 := h1_0.le
      have ne10 := h1_0.ne
      obtain ⟨kj6, hK11, h⟩ := jn_out h
      have hE11 : Step (KU (KO ku1_0) (KU (KC (b8 + 1) 0) (KC (b9 + 1) 0))) s9 s9 := (Step.refl _).of0 (by first | exact fun _ h => h | (intro c h; simp [KC, KO, KU, KN] at h <;> omega))
      refine k_cutc (X := St × (List ApiMessage) × Value × (List Int) × Value × NetNet) [(4, .bool false), (5, v1_0)] (fun (xL : St × (List ApiMessage) × Value × (List Int) × Value × NetNet) => match xL with | (sl, x7, v12, x8, v13, x9) => [(7, v12), (8, v13)]) (fun (xL : St × (List ApiMessage) × Value × (List Int) × Value × NetNet) (wL : World) => match xL with | (sl, x7, v12, x8, v13, x9) => sl.w = wL ∧ Step (KU (KO ku1_0) (KU (KC (b8 + 1) 0) (KC (b9 + 1) 0))) s9 sl ∧ (Own sl ⟨b8 + 1, 0⟩ 36 3 v12 (x7.map dApiMessage)) ∧ (Own sl ⟨b9 + 1, 0⟩ 3 1 v13 (x8.map dI64)) ∧ (ONetNet sl ku1_0 v1_0 x9) ∧ kj6 x7 x8 x9 = some r) ?_ ?_
      · -- the ways
        refine k_seq ?_
        refine k_region ?_
        refine k_assign rfl rfl ?_
        refine k_nil ?_
        refine k_block ?_
        refine k_loopc (X := St × (List ApiMessage) × Value × (List Int) × Value × Int × NetNet × Nat) [(1, _), (4, _), (5, _)] (fun (xL : St × (List ApiMessage) × Value × (List Int) × Value × Int × NetNet × Nat) => match xL with | (sl, x10, v15, x11, v16, x12, x13, j) => [(7, v15), (8, v16), (9, .int .i64 x12)]) (fun (xL : St × (List ApiMessage) × Value × (List Int) × Value × Int × NetNet × Nat) (wL : World) => match xL with | (sl, x10, v15, x11, v16, x12, x13, j) => sl.w = wL ∧ Step (KU (KO ku1_0) (KU (KC (b8 + 1) 0) (KC (b9 + 1) 0))) s9 sl ∧ (Own sl ⟨b8 + 1, 0⟩ 36 3 v15 (x10.map dApiMessage)) ∧ (Own sl ⟨b9 + 1, 0⟩ 3 1 v16 (x11.map dI64)) ∧ (ONetNet sl ku1_0 v1_0 x13) ∧ law22_NetOnce_l1 a1 kj6 j x10 x11 x12 x13 = some r) (fun (xL : St × (List ApiMessage) × Value × (List Int) × Value × Int × NetNet × Nat) => match xL with | (sl, x10, v15, x11, v16, x12, x13, j) => j) (s9, ([(⟨0, 0, []⟩ : ApiMessage)] : List ApiMessage), v8, ([0] : List Int), v9, 0, x5, FU) ⟨rfl, rfl, rfl, trivial⟩ ⟨(by first | rfl | (simp <;> rfl)), (by first | rfl | (simp <;> rfl)), (by first | rfl | (simp <;> rfl)), trivial⟩ ⟨rfl, (Step.refl _).of0 (by first | exact fun _ h => h | (intro c h; simp [KC, KO, KU, KN] at h <;> omega)), h8, h9, h1_0, h⟩ ?_
        rintro ⟨s17, x10, v15, x11, v16, x12, x13, j⟩ wL ⟨rfl, hE14, h15, h16, h1_0, h⟩
        cases j with
        | zero => rw [law22_NetOnce_l1] at h; exact (noneNe h).elim
        | succ j =>
        rw [law22_NetOnce_l1] at h
        have szs17 := hE14.size
        have hS : Step K0 s s17 := hS.comp hE14 (by intro l hl hk; (try simp only [KC, KO, KU, KN, K0] at hk ⊢) <;> omega)
        have hE11 : Step (KU (KO ku1_0) (KU (KC (b8 + 1) 0) (KC (b9 + 1) 0))) s9 s17 := hE11.comp hE14 (by intro l hl hk; (try simp only [KC, KO, KU, KN, K0] at hk ⊢) <;> omega)
        replace hp1 := hp1.up2 hE14
        refine k_seq ?_
        refine k_seq ?_
        refine k_region ?_
        refine k_move rfl rfl ?_
        refine k_move rfl rfl ?_
        refine k_len Try.underlying22 rfl hp1.hasLen rfl ?_
        refine k_as (v := .int .i64 (a1.length : Int)) (by simp only [List.length_map]) ?_
        refine k_lss rfl rfl rfl ?_
        refine k_nil ?_
        refine k_keep [(1, _), (4, _), (5, _), (7, _), (8, _), (9, _), (41, _)] ⟨rfl, rfl, rfl, rfl, rfl, rfl, rfl, trivial⟩ ?_
        refine k_cond_dec rfl (fun c18 => ?_) (fun c18 => ?_)
        · -- T
          have h := itT h c18
          refine k_skip ?_
          refine k_seq ?_
          refine k_block ?_
          refine k_seq ?_
          refine k_region ?_
          refine k_move rfl rfl ?_
          refine k_move rfl rfl ?_
          obtain ⟨x14, hx14, h⟩ := ob h
          refine k_ixaddr Try.underlying22 size32 rfl rfl hp1 (geti_out hx14).1 (geti_map hx14) rfl ?_
          intro qx14 hqx14
          refine k_load_agg (by exact agg32) rfl hqx14 rfl ?_
          intro cs19 h19
          obtain ⟨q19_0, rfl, hq19_0⟩ := opnLaw22Call h19
          refine k_alloc zero32 rfl ?_
          intro s20 b20 st20 h20 ge20
          have szs20 := st20.size
          have hS : Step K0 s s20 := hS.trans0 st20
          have hE11 : Step (KU (KO ku1_0) (KU (KC (b8 + 1) 0) (KC (b9 + 1) 0))) s9 s20 := hE11.trans0 st20
          have hE14 : Step (KU (KO ku1_0) (KU (KC (b8 + 1) 0) (KC (b9 + 1) 0))) s9 s20 := hE14.trans0 st20
          replace hp1 := hp1.up2 st20
          replace hqx14 := hqx14.up2 st20
          replace hq19_0 := hq19_0.up2 st20
          replace h1_0 := h1_0.up2 st20
          replace h15 := h15.up2 st20
          replace h16 := h16.up2 st20
          have lt20 := h20.lt
          refine k_store_c (cs' := [.int .i64 x14.Do, .int .i64 x14.A, .int .i64 x14.B, .int .u64 (x14.Id.toNat : Int), q19_0]) size32 rfl rfl h20 (by first | (simp; done) | omega | (dsimp only; omega)) (CellsOf.lit (vs := [.int .i64 x14.Do, .int .i64 x14.A, .int .i64 x14.B, .int .u64 (x14.Id.toNat : Int), q19_0]) rfl (ones.cons rfl (ones.cons rfl (ones.cons rfl (ones.cons rfl (ones.cons ((SL.of_R hq19_0)).one1 ones.nil)))))) rfl (by first | rfl | (simp; done) | (simp; omega)) rfl ?_
          intro s21 st21 h20
          have szs21 := st21.size
          have hS : Step K0 s s21 := hS.comp st21 (by intro l hl hk; (try simp only [KC, KO, KU, KN, K0] at hk ⊢) <;> omega)
          have hE11 : Step (KU (KO ku1_0) (KU (KC (b8 + 1) 0) (KC (b9 + 1) 0))) s9 s21 := hE11.comp st21 (by intro l hl hk; (try simp only [KC, KO, KU, KN, K0] at hk ⊢) <;> omega)
          have hE14 : Step (KU (KO ku1_0) (KU (KC (b8 + 1) 0) (KC (b9 + 1) 0))) s9 s21 := hE14.comp st21 (by intro l hl hk; (try simp only [KC, KO, KU, KN, K0] at hk ⊢) <;> omega)
          replace hp1 := hp1.up2 st21
          replace hqx14 := hqx14.up2 st21
          replace hq19_0 := hq19_0.up2 st21
          replace h1_0 := h1_0.up2 st21
          replace h15 := h15.up2 st21
          replace h16 := h16.up2 st21
          refine k_nil ?_
          refine k_keep [(1, _), (4, _), (5, _), (7, _), (8, _), (9, _), (10, _)] ⟨rfl, rfl, rfl, rfl, rfl, rfl, rfl, trivial⟩ ?_
          refine k_seq ?_
          refine k_region ?_
          refine k_field_addr fld32_3 rfl rfl ?_
          refine k_load_blk one30 rfl h20 rfl rfl ?_
          refine k_geq rfl rfl rfl ?_
          refine k_move rfl rfl ?_
          have hE22 : Step K0 s21 s21 := (Step.refl _).of0 (by first | exact fun _ h => h | (intro c h; simp [KC, KO, KU, KN] at h <;> omega))
          refine k_cutl (X := St) 7 [(1, v1), (4, .bool false), (5, v1_0), (7, v15), (8, v16), (9, .int .i64 x12), (10, .pointer (some ⟨b20, 0, none⟩)), (48, .pointer (some ⟨b20, 3, none⟩)), (49, .int .u64 (x14.Id.toNat : Int)), (50, .bool (decide (1 ≤ (x14.Id.toNat : Int))))] (fun _ => [(58, .bool (decide ((1 ≤ (x14.Id.toNat : Int)) ∧ ((x14.Id.toNat : Int) < ((ofI64 (x10.length : Int)).toNat : Int)))))]) (fun sl wL => sl.w = wL ∧ Step K0 s21 sl) ?_ ?_
          · -- the ways
            refine k_again 51 rfl ?_
            refine k_split (fun c23 => ?_) (fun c23 => ?_)
            · -- t51 True
              refine k_yes rfl rfl ?_
              refine k_field_addr fld32_3 rfl rfl ?_
              refine k_yes rfl rfl ?_
              refine k_load_blk one30 rfl h20 rfl rfl ?_
              refine k_yes rfl rfl ?_
              refine k_move rfl rfl ?_
              refine k_yes rfl rfl ?_
              refine k_len Try.underlying46 rfl (h15.sl).hasLen rfl ?_
              refine k_as (v := .int .i64 (x10.length : Int)) (by simp only [List.length_map]) ?_
              refine k_yes rfl rfl ?_
              refine k_conv (p := (x10.length : Int)) Try.underlying3 Try.underlying30 rfl rfl ?_
              refine k_as (congrArg (Value.int .u64) (w64 _)) ?_
              refine k_yes rfl rfl ?_
              refine k_lss rfl rfl rfl ?_
              refine k_pickT rfl rfl rfl rfl ?_
              exact k_met ⟨s21, ⟨(congrArg (fun b => some (Value.bool b)) (by first | exact decide_eq_decide.2 ⟨fun h => ⟨c23, h⟩, fun h => h.2⟩ | exact (decide_eq_false (fun h => c23 h.1)).symm | (simp [c23]; done) | (simp [c23, i64] <;> omega))), trivial⟩, ⟨rfl, rfl, rfl, rfl, rfl, rfl, rfl, rfl, rfl, rfl, trivial⟩, rfl, hE22⟩
            · -- t51 False
              refine k_no rfl rfl rfl rfl ?_
              refine k_no rfl rfl rfl rfl ?_
              refine k_no rfl rfl rfl rfl ?_
              refine k_no rfl rfl rfl rfl ?_
              refine k_no rfl rfl rfl rfl ?_
              refine k_no rfl rfl rfl rfl ?_
              refine k_pickF rfl rfl rfl rfl ?_
              exact k_met ⟨s21, ⟨(congrArg (fun b => some (Value.bool b)) (by first | exact decide_eq_decide.2 ⟨fun h => ⟨c23, h⟩, fun h => h.2⟩ | exact (decide_eq_false (fun h => c23 h.1)).symm | (simp [c23]; done) | (simp [c23, i64] <;> omega))), trivial⟩, ⟨rfl, rfl, rfl, rfl, rfl, rfl, rfl, rfl, rfl, rfl, trivial⟩, rfl, hE22⟩
          · -- behind
            rintro s24 wL ⟨rfl, hE22⟩
            have szs24 := hE22.size
            have hS : Step K0 s s24 := hS.trans0 hE22
            have hE11 : Step (KU (KO ku1_0) (KU (KC (b8 + 1) 0) (KC (b9 + 1) 0))) s9 s24 := hE11.trans0 hE22
            have hE14 : Step (KU (KO ku1_0) (KU (KC (b8 + 1) 0) (KC (b9 + 1) 0))) s9 s24 := hE14.trans0 hE22
            replace hp1 := hp1.up2 hE22
            replace h1_0 := h1_0.up2 hE22
            replace h15 := h15.up2 hE22
            replace h16 := h16.up2 hE22
            replace hq19_0 := hq19_0.up2 hE22
            replace h20 := h20.up2 hE22
            refine k_move rfl rfl ?_
            obtain ⟨x15, hx15, h⟩ := ob h
            have hE25 : Step K0 s24 s24 := (Step.refl _).of0 (by first | exact fun _ h => h | (intro c h; simp [KC, KO, KU, KN] at h <;> omega))
            refine k_cutl (X := St) 7 [(1, v1), (4, .bool false), (5, v1_0), (7, v15), (8, v16), (9, .int .i64 x12), (10, .pointer (some ⟨b20, 0, none⟩)), (48, .pointer (some ⟨b20, 3, none⟩)), (49, .int .u64 (x14.Id.toNat : Int)), (50, .bool (decide (1 ≤ (x14.Id.toNat : Int)))), (58, .bool (decide ((1 ≤ (x14.Id.toNat : Int)) ∧ ((x14.Id.toNat : Int) < ((ofI64 (x10.length : Int)).toNat : Int)))))] (fun _ => [(66, .bool x15)]) (fun sl wL => sl.w = wL ∧ Step K0 s24 sl) ?_ ?_
            · -- the ways
              refine k_again 59 rfl ?_
              refine k_split (fun c26 => ?_) (fun c26 => ?_)
              · -- t59 True
                have hx15 := itT hx15 c26
                refine k_yes rfl rfl ?_
                refine k_move rfl rfl ?_
                refine k_yes rfl rfl ?_
                refine k_field_addr fld32_3 rfl rfl ?_
                refine k_yes rfl rfl ?_
                refine k_load_blk one30 rfl h20 rfl rfl ?_
                refine k_yes rfl rfl ?_
                obtain ⟨x16, hx16, hx15⟩ := ob hx15
                refine k_ixaddr_own Try.underlying47 size3 rfl rfl h16 (geti_out hx16).1 (geti_map hx16) rfl ?_
                intro qx16 hqx16 heqx16
                refine k_yes rfl rfl ?_
                refine k_load_val one3 rfl hqx16 rfl ?_
                refine k_yes rfl rfl ?_
                refine k_eql rfl rfl rfl ?_
                refine k_pickT rfl rfl rfl rfl ?_
                exact k_met ⟨s24, ⟨(congrArg (fun b => some (Value.bool b)) (Option.some.inj hx15)), trivial⟩, ⟨rfl, rfl, rfl, rfl, rfl, rfl, rfl, rfl, rfl, rfl, rfl, trivial⟩, rfl, hE25⟩
              · -- t59 False
                have hx15 := itF hx15 c26
                refine k_no rfl rfl rfl rfl ?_
                refine k_no rfl rfl rfl rfl ?_
                refine k_no rfl rfl rfl rfl ?_
                refine k_no rfl rfl rfl rfl ?_
                refine k_no rfl rfl rfl rfl ?_
                refine k_no rfl rfl rfl rfl ?_
                refine k_pickF rfl rfl rfl rfl ?_
                exact k_met ⟨s24, ⟨(congrArg (fun b => some (Value.bool b)) (Option.some.inj hx15)), trivial⟩, ⟨rfl, rfl, rfl, rfl, rfl, rfl, rfl, rfl, rfl, rfl, rfl, trivial⟩, rfl, hE25⟩
            · -- behind
              rintro s27 wL ⟨rfl, hE25⟩
              have szs27 := hE25.size
              have hS : Step K0 s s27 := hS.trans0 hE25
              have hE11 : Step (KU (KO ku1_0) (KU (KC (b8 + 1) 0) (KC (b9 + 1) 0))) s9 s27 := hE11.trans0 hE25
              have hE14 : Step (KU (KO ku1_0) (KU (KC (b8 + 1) 0) (KC (b9 + 1) 0))) s9 s27 := hE14.trans0 hE25
              replace hp1 := hp1.up2 hE25
              replace h1_0 := h1_0.up2 hE25
              replace h15 := h15.up2 hE25
              replace h16 := h16.up2 hE25
              replace hq19_0 := hq19_0.up2 hE25
              replace h20 := h20.up2 hE25
              refine k_assign rfl rfl ?_
              refine k_nil ?_
              refine k_keep [(1, _), (4, _), (5, _), (7, _), (8, _), (9, _), (10, _), (11, _)] ⟨rfl, rfl, rfl, rfl, rfl, rfl, rfl, rfl, trivial⟩ ?_
              refine k_seq ?_
              refine k_region ?_
              refine k_field_addr fld32_0 rfl rfl ?_
              refine k_load_blk one3 rfl h20 rfl rfl ?_
              refine k_nil ?_
              refine k_keep [(1, _), (4, _), (5, _), (7, _), (8, _), (9, _), (10, _), (11, _), (68, _)] ⟨rfl, rfl, rfl, rfl, rfl, rfl, rfl, rfl, rfl, trivial⟩ ?_
              refine k_block ?_
              refine k_seq ?_
              refine k_region ?_
              refine k_eql rfl rfl rfl ?_
              refine k_assign rfl rfl ?_
              refine k_nil ?_
              refine k_keep [(1, _), (4, _), (5, _), (7, _), (8, _), (9, _), (10, _), (11, _), (68, _), (69, _)] ⟨rfl, rfl, rfl, rfl, rfl, rfl, rfl, rfl, rfl, rfl, trivial⟩ ?_
              refine k_cond_dec rfl (fun c28 => ?_) (fun c28 => ?_)
              · -- T
                have h := itT h c28
                refine k_seq ?_
                refine k_region ?_
                refine k_move rfl rfl ?_
                refine k_field_addr fld32_1 rfl rfl ?_
                refine k_load_blk one3 rfl h20 rfl rfl ?_
                refine k_field_addr fld32_2 rfl rfl ?_
                refine k_load_blk one3 rfl h20 rfl rfl ?_
                refine k_field_addr fld32_4 rfl rfl ?_
                refine k_load_blk one23 rfl h20 rfl rfl ?_
                obtain ⟨x17, hx17, h⟩ := ob h
                refine k_call cal11 rfl (net_Net_Send_w  h1_0 (SL.of_R hq19_0) (by first | assumption | omega | (simp <;> omega)) hx17) rfl ?_
                rintro s29 vr29 st29 ⟨rfl, h1_0⟩
                have szs29 := st29.size
                have hS : Step K0 s s29 := hS.comp st29 (by intro l hl hk; (try simp only [KC, KO, KU, KN, K0] at hk ⊢) <;> omega)
                have hE11 : Step (KU (KO ku1_0) (KU (KC (b8 + 1) 0) (KC (b9 + 1) 0))) s9 s29 := hE11.comp st29 (by intro l hl hk; (try simp only [KC, KO, KU, KN, K0] at hk ⊢) <;> omega)
                have hE14 : Step (KU (KO ku1_0) (KU (KC (b8 + 1) 0) (KC (b9 + 1) 0))) s9 s29 := hE14.comp st29 (by intro l hl hk; (try simp only [KC, KO, KU, KN, K0] at hk ⊢) <;> omega)
                replace hp1 := hp1.up2 st29
                replace hq19_0 := hq19_0.up2 st29
                replace h15 := h15.up2 st29
                replace h16 := h16.up2 st29
                replace h20 := h20.up2 st29
                refine k_move rfl rfl ?_
                refine k_extract rfl rfl rfl ?_
                refine k_extract rfl rfl rfl ?_
                refine k_assign rfl rfl ?_
                refine k_assign rfl rfl ?_
                refine k_nil ?_
                refine k_keep [(1, _), (4, _), (5, _), (7, _), (8, _), (9, _), (10, _), (12, _), (13, _)] ⟨rfl, rfl, rfl, rfl, rfl, rfl, rfl, rfl, rfl, trivial⟩ ?_
                refine k_seq ?_
                refine k_region ?_
                refine k_move rfl rfl ?_
                refine k_eql rfl rfl rfl ?_
                refine k_nil ?_
                refine k_keep [(1, _), (4, _), (5, _), (7, _), (8, _), (9, _), (10, _), (12, _), (83, _)] ⟨rfl, rfl, rfl, rfl, rfl, rfl, rfl, rfl, rfl, trivial⟩ ?_
                refine k_cond_dec rfl (fun c30 => ?_) (fun c30 => ?_)
                · -- T
                  have h := itT h c30
                  refine k_seq ?_
                  refine k_seq ?_
                  refine k_region ?_
                  refine k_move rfl rfl ?_
                  refine k_move rfl rfl ?_
                  refine k_len Try.underlying46 rfl (h15.sl).hasLen rfl ?_
                  refine k_as (v := .int .i64 (x10.length : Int)) (by simp only [List.length_map]) ?_
                  refine k_conv (p := (x10.length : Int)) Try.underlying3 Try.underlying30 rfl rfl ?_
                  refine k_as (congrArg (Value.int .u64) (w64 _)) ?_
                  refine k_neq rfl rfl rfl ?_
                  refine k_nil ?_
                  refine k_keep [(1, _), (4, _), (5, _), (7, _), (8, _), (9, _), (10, _), (88, _)] ⟨rfl, rfl, rfl, rfl, rfl, rfl, rfl, rfl, trivial⟩ ?_
                  refine k_cond_dec rfl (fun c31 => ?_) (fun c31 => ?_)
                  · -- T
                    have h := itT h c31
                    refine k_seq ?_
                    refine k_region ?_
                    refine k_assign rfl rfl ?_
                    refine k_nil ?_
                    refine k_keep [(1, _), (4, _), (5, _), (7, _), (8, _), (9, _), (10, _)] ⟨rfl, rfl, rfl, rfl, rfl, rfl, rfl, trivial⟩ ?_
                    refine k_ret ?_
                    obtain rfl := Option.some.inj h
                    refine ⟨_, rfl, Ret.mk hS ?_⟩
                    exact rfl
                  · -- F
                    have h := itF h c31
                    refine k_skip ?_
                    refine k_seq ?_
                    refine k_region ?_
                    refine k_move rfl rfl ?_
                    refine k_field_addr fld32_1 rfl rfl ?_
                    refine k_load_blk one3 rfl h20 rfl rfl ?_
                    refine k_field_addr fld32_2 rfl rfl ?_
                    refine k_load_blk one3 rfl h20 rfl rfl ?_
                    refine k_field_addr fld32_4 rfl rfl ?_
                    refine k_load_blk one23 rfl h20 rfl rfl ?_
                    refine k_build plc36 zero36 rfl (Parts.cons (CellsOf.lit rfl rfl).1 (Parts.cons (CellsOf.lit rfl rfl).1 (Parts.cons (CellsOf.sl (SL.of_R hq19_0)).1 Parts.nil))) (by rfl) rfl ?_
                    refine k_as (v := .agg #[.int .i64 x14.A, .int .i64 x14.B, q19_0]) rfl ?_
                    refine k_bslice2 (ds := ([(⟨x14.A, x14.B, x14.Bytes⟩ : ApiMessage)] : List ApiMessage).map dApiMessage) slc46 rfl (RVs.cons ⟨_, rfl, (clsApiMessage (⟨x14.A, x14.B, x14.Bytes⟩ : ApiMessage) hq19_0)⟩ RVs.nil) (by rfl) (by rfl) rfl rfl ?_
                    intro s32 v32 b32 st32 ge32 bl32 h32
                    have szs32 := st32.size
                    have hS : Step K0 s s32 := hS.trans0 st32
                    have hE11 : Step (KU (KO ku1_0) (KU (KC (b8 + 1) 0) (KC (b9 + 1) 0))) s9 s32 := hE11.trans0 st32
                    have hE14 : Step (KU (KO ku1_0) (KU (KC (b8 + 1) 0) (KC (b9 + 1) 0))) s9 s32 := hE14.trans0 st32
                    replace hp1 := hp1.up2 st32
                    replace hq19_0 := hq19_0.up2 st32
                    replace h1_0 := h1_0.up2 st32
                    replace h15 := h15.up2 st32
                    replace h16 := h16.up2 st32
                    replace h20 := h20.up2 st32
                    have lt32 := Own.le1 h32
                    obtain ⟨x18, hx18, h⟩ := ob h
                    refine k_append (es := ([(⟨x14.A, x14.B, x14.Bytes⟩ : ApiMessage)] : List ApiMessage).map dApiMessage) elem46 rfl rfl h15 (h32.sl) (by have := (app_out hx18).1; simp only [List.length_map] at *; omega) (by have := (app_out hx18).1; simp only [List.length_map] at *; omega) rfl ?_
                    intro s33 v33 st33 h33
                    rw [← List.map_append, ← (app_out hx18).2] at h33
                    have szs33 := st33.size
                    have hS : Step K0 s s33 := hS.comp st33 (by intro l hl hk; (try simp only [KC, KO, KU, KN, K0] at hk ⊢) <;> omega)
                    have hE11 : Step (KU (KO ku1_0) (KU (KC (b8 + 1) 0) (KC (b9 + 1) 0))) s9 s33 := hE11.comp st33 (by intro l hl hk; (try simp only [KC, KO, KU, KN, K0] at hk ⊢) <;> omega)
                    have hE14 : Step (KU (KO ku1_0) (KU (KC (b8 + 1) 0) (KC (b9 + 1) 0))) s9 s33 := hE14.comp st33 (by intro l hl hk; (try simp only [KC, KO, KU, KN, K0] at hk ⊢) <;> omega)
                    replace hp1 := hp1.up2 st33
                    replace hq19_0 := hq19_0.up2 st33
                    replace h1_0 := h1_0.up2 st33
                    replace h16 := h16.up2 st33
                    replace h20 := h20.up2 st33
                    replace h32 := h32.up2 st33
                    refine k_assign rfl rfl ?_
                    refine k_nil ?_
                    refine k_keep [(1, _), (4, _), (5, _), (7, _), (8, _), (9, _)] ⟨rfl, rfl, rfl, rfl, rfl, rfl, trivial⟩ ?_
                    refine k_region ?_
                    refine k_move rfl rfl ?_
                    refine k_bslice2 (ds := ([0] : List Int).map dI64) slc47 rfl (RVs.cons (R.val rfl) RVs.nil) (by rfl) (by rfl) rfl rfl ?_
                    intro s34 v34 b34 st34 ge34 bl34 h34
                    have szs34 := st34.size
                    have hS : Step K0 s s34 := hS.trans0 st34
                    have hE11 : Step (KU (KO ku1_0) (KU (KC (b8 + 1) 0) (KC (b9 + 1) 0))) s9 s34 := hE11.trans0 st34
                    have hE14 : Step (KU (KO ku1_0) (KU (KC (b8 + 1) 0) (KC (b9 + 1) 0))) s9 s34 := hE14.trans0 st34
                    replace hp1 := hp1.up2 st34
                    replace h1_0 := h1_0.up2 st34
                    replace h16 := h16.up2 st34
                    replace h33 := h33.up2 st34
                    have lt34 := Own.le1 h34
                    obtain ⟨x19, hx19, h⟩ := ob h
                    refine k_append (es := ([0] : List Int).map dI64) elem47 rfl rfl h16 (h34.sl) (by have := (app_out hx19).1; simp only [List.length_map] at *; omega) (by have := (app_out hx19).1; simp only [List.length_map] at *; omega) rfl ?_
                    intro s35 v35 st35 h35
                    rw [← List.map_append, ← (app_out hx19).2] at h35
                    have szs35 := st35.size
                    have hS : Step K0 s s35 := hS.comp st35 (by intro l hl hk; (try simp only [KC, KO, KU, KN, K0] at hk ⊢) <;> omega)
                    have hE11 : Step (KU (KO ku1_0) (KU (KC (b8 + 1) 0) (KC (b9 + 1) 0))) s9 s35 := hE11.comp st35 (by intro l hl hk; (try simp only [KC, KO, KU, KN, K0] at hk ⊢) <;> omega)
                    have hE14 : Step (KU (KO ku1_0) (KU (KC (b8 + 1) 0) (KC (b9 + 1) 0))) s9 s35 := hE14.comp st35 (by intro l hl hk; (try simp only [KC, KO, KU, KN, K0] at hk ⊢) <;> omega)
                    replace hp1 := hp1.up2 st35
                    replace h1_0 := h1_0.up2 st35
                    replace h33 := h33.up2 st35
                    replace h34 := h34.up2 st35
                    refine k_assign rfl rfl ?_
                    refine k_nil ?_
                    refine k_blk ?_
                    refine k_blk ?_
                    refine k_region ?_
                    refine k_move rfl rfl ?_
                    refine k_add rfl rfl rfl ?_
                    refine k_assign rfl rfl ?_
                    refine k_nil ?_
                    exact k_stop ⟨(s35, x18, v33, x19, v35, i64 (x12 + 1), x17.2.2, j), ⟨(by first | rfl | (simp <;> rfl)), (by first | rfl | (simp <;> rfl)), (by first | rfl | (simp <;> rfl)), trivial⟩, ⟨rfl, rfl, rfl, trivial⟩, ⟨rfl, hE14, h33, h35, h1_0, h⟩, (by simp)⟩
                · -- F
                  have h := itF h c30
                  refine k_skip ?_
                  refine k_blk ?_
                  refine k_blk ?_
                  refine k_region ?_
                  refine k_move rfl rfl ?_
                  refine k_add rfl rfl rfl ?_
                  refine k_assign rfl rfl ?_
                  refine k_nil ?_
                  exact k_stop ⟨(s29, x10, v15, x11, v16, i64 (x12 + 1), x17.2.2, j), ⟨(by first | rfl | (simp <;> rfl)), (by first | rfl | (simp <;> rfl)), (by first | rfl | (simp <;> rfl)), trivial⟩, ⟨rfl, rfl, rfl, trivial⟩, ⟨rfl, hE14, h15, h16, h1_0, h⟩, (by simp)⟩
              · -- F
                have h := itF h c28
                refine k_seq ?_
                refine k_region ?_
                refine k_eql rfl rfl rfl ?_
                refine k_assign rfl rfl ?_
                refine k_nil ?_
                refine k_keep [(1, _), (4, _), (5, _), (7, _), (8, _), (9, _), (10, _), (11, _), (68, _), (102, _)] ⟨rfl, rfl, rfl, rfl, rfl, rfl, rfl, rfl, rfl, rfl, trivial⟩ ?_
                refine k_cond_dec rfl (fun c36 => ?_) (fun c36 => ?_)
                · -- T
                  have h := itT h c36
                  refine k_seq ?_
                  refine k_region ?_
                  refine k_move rfl rfl ?_
                  refine k_field_addr fld32_3 rfl rfl ?_
                  refine k_load_blk one30 rfl h20 rfl rfl ?_
                  obtain ⟨x20, hx20, h⟩ := ob h
                  refine k_call cal13 rfl (net_Net_Double_w  h1_0 hx20) rfl ?_
                  rintro s37 vr37 st37 ⟨rfl, h1_0⟩
                  have szs37 := st37.size
                  have hS : Step K0 s s37 := hS.comp st37 (by intro l hl hk; (try simp only [KC, KO, KU, KN, K0] at hk ⊢) <;> omega)
                  have hE11 : Step (KU (KO ku1_0) (KU (KC (b8 + 1) 0) (KC (b9 + 1) 0))) s9 s37 := hE11.comp st37 (by intro l hl hk; (try simp only [KC, KO, KU, KN, K0] at hk ⊢) <;> omega)
                  have hE14 : Step (KU (KO ku1_0) (KU (KC (b8 + 1) 0) (KC (b9 + 1) 0))) s9 s37 := hE14.comp st37 (by intro l hl hk; (try simp only [KC, KO, KU, KN, K0] at hk ⊢) <;> omega)
                  replace hp1 := hp1.up2 st37
                  replace h15 := h15.up2 st37
                  replace h16 := h16.up2 st37
                  replace hq19_0 := hq19_0.up2 st37
                  replace h20 := h20.up2 st37
                  refine k_move rfl rfl ?_
                  refine k_extract rfl rfl rfl ?_
                  refine k_extract rfl rfl rfl ?_
                  refine k_assign rfl rfl ?_
                  refine k_assign rfl rfl ?_
                  refine k_nil ?_
                  refine k_keep [(1, _), (4, _), (5, _), (7, _), (8, _), (9, _), (10, _), (11, _), (14, _), (15, _)] ⟨rfl, rfl, rfl, rfl, rfl, rfl, rfl, rfl, rfl, rfl, trivial⟩ ?_
                  refine k_seq ?_
                  refine k_seq ?_
                  refine k_region ?_
                  refine k_move rfl rfl ?_
                  refine k_eql rfl rfl rfl ?_
                  refine k_move rfl rfl ?_
                  refine k_eqlb Try.underlying4 rfl rfl rfl ?_
                  refine k_nil ?_
                  refine k_keep [(1, _), (4, _), (5, _), (7, _), (8, _), (9, _), (10, _), (14, _), (15, _), (114, _)] ⟨rfl, rfl, rfl, rfl, rfl, rfl, rfl, rfl, rfl, rfl, trivial⟩ ?_
                  refine k_cond rfl (fun c38 => ?_) (fun c38 => ?_)
                  · -- T
                    have h := ibT h c38
                    refine k_seq ?_
                    refine k_region ?_
                    refine k_assign rfl rfl ?_
                    refine k_nil ?_
                    refine k_keep [(1, _), (4, _), (5, _), (7, _), (8, _), (9, _), (10, _), (14, _), (15, _)] ⟨rfl, rfl, rfl, rfl, rfl, rfl, rfl, rfl, rfl, trivial⟩ ?_
                    refine k_ret ?_
                    obtain rfl := Option.some.inj h
                    refine ⟨_, rfl, Ret.mk hS ?_⟩
                    exact rfl
                  · -- F
                    have h := ibF h c38
                    refine k_skip ?_
                    refine k_seq ?_
                    refine k_region ?_
                    refine k_move rfl rfl ?_
                    refine k_eql rfl rfl rfl ?_
                    refine k_nil ?_
                    refine k_keep [(1, _), (4, _), (5, _), (7, _), (8, _), (9, _), (10, _), (14, _), (116, _)] ⟨rfl, rfl, rfl, rfl, rfl, rfl, rfl, rfl, rfl, trivial⟩ ?_
                    refine k_cond_dec rfl (fun c39 => ?_) (fun c39 => ?_)
                    · -- T
                      have h := itT h c39
                      refine k_seq ?_
                      refine k_seq ?_
                      refine k_region ?_
                      refine k_move rfl rfl ?_
                      refine k_move rfl rfl ?_
                      refine k_len Try.underlying46 rfl (h15.sl).hasLen rfl ?_
                      refine k_as (v := .int .i64 (x10.length : Int)) (by simp only [List.length_map]) ?_
                      refine k_conv (p := (x10.length : Int)) Try.underlying3 Try.underlying30 rfl rfl ?_
                      refine k_as (congrArg (Value.int .u64) (w64 _)) ?_
                      refine k_neq rfl rfl rfl ?_
                      refine k_nil ?_
                      refine k_keep [(1, _), (4, _), (5, _), (7, _), (8, _), (9, _), (10, _), (121, _)] ⟨rfl, rfl, rfl, rfl, rfl, rfl, rfl, rfl, trivial⟩ ?_
                      refine k_cond_dec rfl (fun c40 => ?_) (fun c40 => ?_)
                      · -- T
                        have h := itT h c40
                        refine k_seq ?_
                        refine k_region ?_
                        refine k_assign rfl rfl ?_
                        refine k_nil ?_
                        refine k_keep [(1, _), (4, _), (5, _), (7, _), (8, _), (9, _), (10, _)] ⟨rfl, rfl, rfl, rfl, rfl, rfl, rfl, trivial⟩ ?_
                        refine k_ret ?_
                        obtain rfl := Option.some.inj h
                        refine ⟨_, rfl, Ret.mk hS ?_⟩
                        exact rfl
                      · -- F
                        have h := itF h c40
                        refine k_skip ?_
                        refine k_seq ?_
                        refine k_region ?_
                        refine k_move rfl rfl ?_
                        refine k_move rfl rfl ?_
                        refine k_field_addr fld32_3 rfl rfl ?_
                        refine k_load_blk one30 rfl h20 rfl rfl ?_
                        obtain ⟨x21, hx21, h⟩ := ob h
                        refine k_ixaddr_own Try.underlying46 size36 rfl rfl h15 (geti_out hx21).1 (geti_map hx21) rfl ?_
                        intro qx21 hqx21 heqx21
                        refine k_load_agg (by exact agg36) rfl hqx21 rfl ?_
                        intro cs41 h41
                        obtain ⟨q41_0, rfl, hq41_0⟩ := opnApiMessage h41
                        refine k_bslice2 (ds := ([x21] : List ApiMessage).map dApiMessage) slc46 rfl (RVs.cons ⟨_, rfl, (clsApiMessage x21 hq41_0)⟩ RVs.nil) (by rfl) (by rfl) rfl rfl ?_
                        intro s42 v42 b42 st42 ge42 bl42 h42
                        have szs42 := st42.size
                        have hS : Step K0 s s42 := hS.trans0 st42
                        have hE11 : Step (KU (KO ku1_0) (KU (KC (b8 + 1) 0) (KC (b9 + 1) 0))) s9 s42 := hE11.trans0 st42
                        have hE14 : Step (KU (KO ku1_0) (KU (KC (b8 + 1) 0) (KC (b9 + 1) 0))) s9 s42 := hE14.trans0 st42
                        replace hp1 := hp1.up2 st42
                        replace hqx21 := hqx21.up2 st42
                        replace hq41_0 := hq41_0.up2 st42
                        replace h1_0 := h1_0.up2 st42
                        replace h15 := h15.up2 st42
                        replace h16 := h16.up2 st42
                        replace hq19_0 := hq19_0.up2 st42
                        replace h20 := h20.up2 st42
                        have lt42 := Own.le1 h42
                        obtain ⟨x22, hx22, h⟩ := ob h
                        refine k_append (es := ([x21] : List ApiMessage).map dApiMessage) elem46 rfl rfl h15 (h42.sl) (by have := (app_out hx22).1; simp only [List.length_map] at *; omega) (by have := (app_out hx22).1; simp only [List.length_map] at *; omega) rfl ?_
                        intro s43 v43 st43 h43
                        rw [← List.map_append, ← (app_out hx22).2] at h43
                        have szs43 := st43.size
                        have hS : Step K0 s s43 := hS.comp st43 (by intro l hl hk; (try simp only [KC, KO, KU, KN, K0] at hk ⊢) <;> omega)
                        have hE11 : Step (KU (KO ku1_0) (KU (KC (b8 + 1) 0) (KC (b9 + 1) 0))) s9 s43 := hE11.comp st43 (by intro l hl hk; (try simp only [KC, KO, KU, KN, K0] at hk ⊢) <;> omega)
                        have hE14 : Step (KU (KO ku1_0) (KU (KC (b8 + 1) 0) (KC (b9 + 1) 0))) s9 s43 := hE14.comp st43 (by intro l hl hk; (try simp only [KC, KO, KU, KN, K0] at hk ⊢) <;> omega)
                        replace hp1 := hp1.up2 st43
                        replace hq41_0 := hq41_0.up2 st43
                        replace h1_0 := h1_0.up2 st43
                        replace h16 := h16.up2 st43
                        replace hq19_0 := hq19_0.up2 st43
                        replace h20 := h20.up2 st43
                        replace h42 := h42.up2 st43
                        refine k_assign rfl rfl ?_
                        refine k_nil ?_
                        refine k_keep [(1, _), (4, _), (5, _), (7, _), (8, _), (9, _)] ⟨rfl, rfl, rfl, rfl, rfl, rfl, trivial⟩ ?_
                        refine k_region ?_
                        refine k_move rfl rfl ?_
                        refine k_bslice2 (ds := ([0] : List Int).map dI64) slc47 rfl (RVs.cons (R.val rfl) RVs.nil) (by rfl) (by rfl) rfl rfl ?_
                        intro s44 v44 b44 st44 ge44 bl44 h44
                        have szs44 := st44.size
                        have hS : Step K0 s s44 := hS.trans0 st44
                        have hE11 : Step (KU (KO ku1_0) (KU (KC (b8 + 1) 0) (KC (b9 + 1) 0))) s9 s44 := hE11.trans0 st44
                        have hE14 : Step (KU (KO ku1_0) (KU (KC (b8 + 1) 0) (KC (b9 + 1) 0))) s9 s44 := hE14.trans0 st44
                        replace hp1 := hp1.up2 st44
                        replace h1_0 := h1_0.up2 st44
                        replace h16 := h16.up2 st44
                        replace h43 := h43.up2 st44
                        have lt44 := Own.le1 h44
                        obtain ⟨x23, hx23, h⟩ := ob h
                        refine k_append (es := ([0] : List Int).map dI64) elem47 rfl rfl h16 (h44.sl) (by have := (app_out hx23).1; simp only [List.length_map] at *; omega) (by have := (app_out hx23).1; simp only [List.length_map] at *; omega) rfl ?_
                        intro s45 v45 st45 h45
                        rw [← List.map_append, ← (app_out hx23).2] at h45
                        have szs45 := st45.size
                        have hS : Step K0 s s45 := hS.comp st45 (by intro l hl hk; (try simp only [KC, KO, KU, KN, K0] at hk ⊢) <;> omega)
                        have hE11 : Step (KU (KO ku1_0) (KU (KC (b8 + 1) 0) (KC (b9 + 1) 0))) s9 s45 := hE11.comp st45 (by intro l hl hk; (try simp only [KC, KO, KU, KN, K0] at hk ⊢) <;> omega)
                        have hE14 : Step (KU (KO ku1_0) (KU (KC (b8 + 1) 0) (KC (b9 + 1) 0))) s9 s45 := hE14.comp st45 (by intro l hl hk; (try simp only [KC, KO, KU, KN, K0] at hk ⊢) <;> omega)
                        replace hp1 := hp1.up2 st45
                        replace h1_0 := h1_0.up2 st45
                        replace h43 := h43.up2 st45
                        replace h44 := h44.up2 st45
                        refine k_assign rfl rfl ?_
                        refine k_nil ?_
                        refine k_blk ?_
                        refine k_blk ?_
                        refine k_region ?_
                        refine k_move rfl rfl ?_
                        refine k_add rfl rfl rfl ?_
                        refine k_assign rfl rfl ?_
                        refine k_nil ?_
                        exact k_stop ⟨(s45, x22, v43, x23, v45, i64 (x12 + 1), x20.2.2, j), ⟨(by first | rfl | (simp <;> rfl)), (by first | rfl | (simp <;> rfl)), (by first | rfl | (simp <;> rfl)), trivial⟩, ⟨rfl, rfl, rfl, trivial⟩, ⟨rfl, hE14, h43, h45, h1_0, h⟩, (by simp)⟩
                    · -- F
                      have h := itF h c39
                      refine k_skip ?_
                      refine k_blk ?_
                      refine k_blk ?_
                      refine k_region ?_
                      refine k_move rfl rfl ?_
                      refine k_add rfl rfl rfl ?_
                      refine k_assign rfl rfl ?_
                      refine k_nil ?_
                      exact k_stop ⟨(s37, x10, v15, x11, v16, i64 (x12 + 1), x20.2.2, j), ⟨(by first | rfl | (simp <;> rfl)), (by first | rfl | (simp <;> rfl)), (by first | rfl | (simp <;> rfl)), trivial⟩, ⟨rfl, rfl, rfl, trivial⟩, ⟨rfl, hE14, h15, h16, h1_0, h⟩, (by simp)⟩
                · -- F
                  have h := itF h c36
                  refine k_seq ?_
                  refine k_keep [(1, _), (4, _), (5, _), (7, _), (8, _), (9, _), (10, _), (11, _), (68, _)] ⟨rfl, rfl, rfl, rfl, rfl, rfl, rfl, rfl, rfl, trivial⟩ ?_
                  obtain ⟨kj24, hK46, h⟩ := jn_out h
                  have hE46 : Step K0 s27 s27 := (Step.refl _).of0 (by first | exact fun _ h => h | (intro c h; simp [KC, KO, KU, KN] at h <;> omega))
                  refine k_cutc (X := St × Bool) [(1, v1), (4, .bool false), (5, v1_0), (7, v15), (8, v16), (9, .int .i64 x12), (10, .pointer (some ⟨b20, 0, none⟩)), (11, .bool x15)] (fun (xL : St × Bool) => match xL with | (sl, x25) => [(133, .bool x25)]) (fun (xL : St × Bool) (wL : World) => match xL with | (sl, x25) => sl.w = wL ∧ Step K0 s27 sl ∧ kj24 x25 = some r) ?_ ?_
                  · -- the ways
                    refine k_seq ?_
                    refine k_region ?_
                    refine k_eql rfl rfl rfl ?_
                    refine k_assign rfl rfl ?_
                    refine k_nil ?_
                    refine k_keep [(1, _), (4, _), (5, _), (7, _), (8, _), (9, _), (10, _), (11, _), (68, _), (133, _)] ⟨rfl, rfl, rfl, rfl, rfl, rfl, rfl, rfl, rfl, rfl, trivial⟩ ?_
                    refine k_cond_dec rfl (fun c47 => ?_) (fun c47 => ?_)
                    · -- T
                      have h := itT h c47
                      refine k_skip ?_
                      exact k_stop ⟨(s27, decide (x14.Do = 1)), ⟨(by first | rfl | (simp <;> rfl)), trivial⟩, ⟨rfl, rfl, rfl, rfl, rfl, rfl, rfl, rfl, trivial⟩, ⟨rfl, hE46, h⟩⟩
                    · -- F
                      have h := itF h c47
                      refine k_region ?_
                      refine k_eql rfl rfl rfl ?_
                      refine k_assign rfl rfl ?_
                      refine k_nil ?_
                      exact k_stop ⟨(s27, decide (x14.Do = 2)), ⟨(by first | rfl | (simp <;> rfl)), trivial⟩, ⟨rfl, rfl, rfl, rfl, rfl, rfl, rfl, rfl, trivial⟩, ⟨rfl, hE46, h⟩⟩
                  · -- behind
                    rintro ⟨s48, x25⟩ wL ⟨rfl, hE46, h⟩
                    rw [hK46] at h
                    have szs48 := hE46.size
                    have hS : Step K0 s s48 := hS.trans0 hE46
                    have hE11 : Step (KU (KO ku1_0) (KU (KC (b8 + 1) 0) (KC (b9 + 1) 0))) s9 s48 := hE11.trans0 hE46
                    have hE14 : Step (KU (KO ku1_0) (KU (KC (b8 + 1) 0) (KC (b9 + 1) 0))) s9 s48 := hE14.trans0 hE46
                    replace hp1 := hp1.up2 hE46
                    replace h1_0 := h1_0.up2 hE46
                    replace h15 := h15.up2 hE46
                    replace h16 := h16.up2 hE46
                    replace hq19_0 := hq19_0.up2 hE46
                    replace h20 := h20.up2 hE46
                    refine k_cond rfl (fun c49 => ?_) (fun c49 => ?_)
                    · -- T
                      have h := ibT h c49
                      refine k_seq ?_
                      refine k_region ?_
                      refine k_move rfl rfl ?_
                      refine k_field_addr fld32_3 rfl rfl ?_
                      refine k_load_blk one30 rfl h20 rfl rfl ?_
                      obtain ⟨x26, hx26, h⟩ := ob h
                      refine k_call cal16 rfl (net_Net_At_w  h1_0 hx26) rfl ?_
                      rintro s50 vr50 st50 ⟨cs50_0, rfl, h50_0⟩
                      have szs50 := st50.size
                      have hS : Step K0 s s50 := hS.trans0 st50
                      have hE11 : Step (KU (KO ku1_0) (KU (KC (b8 + 1) 0) (KC (b9 + 1) 0))) s9 s50 := hE11.trans0 st50
                      have hE14 : Step (KU (KO ku1_0) (KU (KC (b8 + 1) 0) (KC (b9 + 1) 0))) s9 s50 := hE14.trans0 st50
                      replace hp1 := hp1.up2 st50
                      replace h1_0 := h1_0.up2 st50
                      replace h15 := h15.up2 st50
                      replace h16 := h16.up2 st50
                      replace hq19_0 := hq19_0.up2 st50
                      replace h20 := h20.up2 st50
                      obtain ⟨q50_0_0, rfl, hq50_0_0⟩ := opnApiMessage h50_0
                      refine k_move rfl rfl ?_
                      refine k_extract rfl rfl rfl ?_
                      refine k_extract rfl rfl rfl ?_
                      refine k_alloc zero36 rfl ?_
                      intro s51 b51 st51 h51 ge51
                      have szs51 := st51.size
                      have hS : Step K0 s s51 := hS.trans0 st51
                      have hE11 : Step (KU (KO ku1_0) (KU (KC (b8 + 1) 0) (KC (b9 + 1) 0))) s9 s51 := hE11.trans0 st51
                      have hE14 : Step (KU (KO ku1_0) (KU (KC (b8 + 1) 0) (KC (b9 + 1) 0))) s9 s51 := hE14.trans0 st51
                      replace hp1 := hp1.up2 st51
                      replace hq50_0_0 := hq50_0_0.up2 st51
                      replace h1_0 := h1_0.up2 st51
                      replace h15 := h15.up2 st51
                      replace h16 := h16.up2 st51
                      replace hq19_0 := hq19_0.up2 st51
                      replace h20 := h20.up2 st51
                      have lt51 := h51.lt
                      refine k_store_c (cs' := [.int .i64 x26.1.From, .int .i64 x26.1.To, q50_0_0]) size36 rfl rfl h51 (by first | (simp; done) | omega | (dsimp only; omega)) (CellsOf.lit (vs := [.int .i64 x26.1.From, .int .i64 x26.1.To, q50_0_0]) rfl (ones.cons rfl (ones.cons rfl (ones.cons ((SL.of_R hq50_0_0)).one1 ones.nil)))) rfl (by first | rfl | (simp; done) | (simp; omega)) rfl ?_
                      intro s52 st52 h51
                      have szs52 := st52.size
                      have hS : Step K0 s s52 := hS.comp st52 (by intro l hl hk; (try simp only [KC, KO, KU, KN, K0] at hk ⊢) <;> omega)
                      have hE11 : Step (KU (KO ku1_0) (KU (KC (b8 + 1) 0) (KC (b9 + 1) 0))) s9 s52 := hE11.comp st52 (by intro l hl hk; (try simp only [KC, KO, KU, KN, K0] at hk ⊢) <;> omega)
                      have hE14 : Step (KU (KO ku1_0) (KU (KC (b8 + 1) 0) (KC (b9 + 1) 0))) s9 s52 := hE14.comp st52 (by intro l hl hk; (try simp only [KC, KO, KU, KN, K0] at hk ⊢) <;> omega)
                      replace hp1 := hp1.up2 st52
                      replace hq50_0_0 := hq50_0_0.up2 st52
                      replace h1_0 := h1_0.up2 st52
                      replace h15 := h15.up2 st52
                      replace h16 := h16.up2 st52
                      replace hq19_0 := hq19_0.up2 st52
                      replace h20 := h20.up2 st52
                      refine k_assign rfl rfl ?_
                      refine k_nil ?_
                      refine k_keep [(1, _), (4, _), (5, _), (7, _), (8, _), (9, _), (10, _), (11, _), (16, _), (17, _)] ⟨rfl, rfl, rfl, rfl, rfl, rfl, rfl, rfl, rfl, rfl, trivial⟩ ?_
                      refine k_seq ?_
                      obtain ⟨kj27, hK53, h⟩ := jn_out h
                      have hE53 : Step (KU (KO ku1_0) (KC (b51 + 1) 0)) s52 s52 := (Step.refl _).of0 (by first | exact fun _ h => h | (intro c h; simp [KC, KO, KU, KN] at h <;> omega))
                      refine k_cutc (X := St × Int × NetNet × Int × Int × (List UInt8) × Value) [(1, v1), (4, .bool false), (5, v1_0), (7, v15), (8, v16), (9, .int .i64 x12), (10, .pointer (some ⟨b20, 0, none⟩)), (11, .bool x15), (16, .pointer (some ⟨b51, 0, none⟩))] (fun (xL : St × Int × NetNet × Int × Int × (List UInt8) × Value) => match xL with | (sl, x28, x29, x30, x31, x32, v54) => [(17, .int .i64 x28)]) (fun (xL : St × Int × NetNet × Int × Int × (List UInt8) × Value) (wL : World) => match xL with | (sl, x28, x29, x30, x31, x32, v54) => sl.w = wL ∧ Step (KU (KO ku1_0) (KC (b51 + 1) 0)) s52 sl ∧ (ONetNet sl ku1_0 v1_0 x29) ∧ (R sl v54 (.sl 1 (x32.map bD))) ∧ (Blk sl b51 ⟨b51 + 1, 0⟩ [.int .i64 x30, .int .i64 x31, v54] 36) ∧ kj27 x28 x29 x30 x31 x32 = some r) ?_ ?_
                      · -- the ways
                        refine k_seq ?_
                        refine k_region ?_
                        refine k_field_addr fld32_0 rfl rfl ?_
                        refine k_load_blk one3 rfl h20 rfl rfl ?_
                        refine k_eql rfl rfl rfl ?_
                        refine k_nil ?_
                        refine k_keep [(1, _), (4, _), (5, _), (7, _), (8, _), (9, _), (10, _), (11, _), (16, _), (17, _), (145, _)] ⟨rfl, rfl, rfl, rfl, rfl, rfl, rfl, rfl, rfl, rfl, rfl, trivial⟩ ?_
                        refine k_cond_dec rfl (fun c55 => ?_) (fun c55 => ?_)
                        · -- T
                          have h := itT h c55
                          refine k_region ?_
                          refine k_move rfl rfl ?_
                          refine k_field_addr fld32_3 rfl rfl ?_
                          refine k_load_blk one30 rfl h20 rfl rfl ?_
                          obtain ⟨x33, hx33, h⟩ := ob h
                          refine k_call cal12 rfl (net_Net_Deliver_w  h1_0 hx33) rfl ?_
                          rintro s56 vr56 st56 ⟨cs56_0, rfl, h56_0, h1_0⟩
                          have szs56 := st56.size
                          have hS : Step K0 s s56 := hS.comp st56 (by intro l hl hk; (try simp only [KC, KO, KU, KN, K0] at hk ⊢) <;> omega)
                          have hE11 : Step (KU (KO ku1_0) (KU (KC (b8 + 1) 0) (KC (b9 + 1) 0))) s9 s56 := hE11.comp st56 (by intro l hl hk; (try simp only [KC, KO, KU, KN, K0] at hk ⊢) <;> omega)
                          have hE14 : Step (KU (KO ku1_0) (KU (KC (b8 + 1) 0) (KC (b9 + 1) 0))) s9 s56 := hE14.comp st56 (by intro l hl hk; (try simp only [KC, KO, KU, KN, K0] at hk ⊢) <;> omega)
                          have hE53 : Step (KU (KO ku1_0) (KC (b51 + 1) 0)) s52 s56 := hE53.comp st56 (by intro l hl hk; (try simp only [KC, KO, KU, KN, K0] at hk ⊢) <;> omega)
                          replace hp1 := hp1.up2 st56
                          replace h15 := h15.up2 st56
                          replace h16 := h16.up2 st56
                          replace hq19_0 := hq19_0.up2 st56
                          replace h20 := h20.up2 st56
                          replace hq50_0_0 := hq50_0_0.up2 st56
                          replace h51 := h51.up2 st56
                          obtain ⟨q56_0_0, rfl, hq56_0_0⟩ := opnApiMessage h56_0
                          refine k_move rfl rfl ?_
                          refine k_extract rfl rfl rfl ?_
                          refine k_extract rfl rfl rfl ?_
                          refine k_store_c (cs' := [.int .i64 x33.1.From, .int .i64 x33.1.To, q56_0_0]) size36 rfl rfl h51 (by first | (simp; done) | omega | (dsimp only; omega)) (CellsOf.lit (vs := [.int .i64 x33.1.From, .int .i64 x33.1.To, q56_0_0]) rfl (ones.cons rfl (ones.cons rfl (ones.cons ((SL.of_R hq56_0_0)).one1 ones.nil)))) rfl (by first | rfl | (simp; done) | (simp; omega)) rfl ?_
                          intro s57 st57 h51
                          have szs57 := st57.size
                          have hS : Step K0 s s57 := hS.comp st57 (by intro l hl hk; (try simp only [KC, KO, KU, KN, K0] at hk ⊢) <;> omega)
                          have hE11 : Step (KU (KO ku1_0) (KU (KC (b8 + 1) 0) (KC (b9 + 1) 0))) s9 s57 := hE11.comp st57 (by intro l hl hk; (try simp only [KC, KO, KU, KN, K0] at hk ⊢) <;> omega)
                          have hE14 : Step (KU (KO ku1_0) (KU (KC (b8 + 1) 0) (KC (b9 + 1) 0))) s9 s57 := hE14.comp st57 (by intro l hl hk; (try simp only [KC, KO, KU, KN, K0] at hk ⊢) <;> omega)
                          have hE53 : Step (KU (KO ku1_0) (KC (b51 + 1) 0)) s52 s57 := hE53.comp st57 (by intro l hl hk; (try simp only [KC, KO, KU, KN, K0] at hk ⊢) <;> omega)
                          replace hp1 := hp1.up2 st57
                          replace hq56_0_0 := hq56_0_0.up2 st57
                          replace h1_0 := h1_0.up2 st57
                          replace h15 := h15.up2 st57
                          replace h16 := h16.up2 st57
                          replace hq19_0 := hq19_0.up2 st57
                          replace h20 := h20.up2 st57
                          refine k_assign rfl rfl ?_
                          refine k_nil ?_
                          exact k_stop ⟨(s57, x33.2.1, x33.2.2, x33.1.From, x33.1.To, x33.1.Bytes, q56_0_0), ⟨(by first | rfl | (simp <;> rfl)), trivial⟩, ⟨rfl, rfl, rfl, rfl, rfl, rfl, rfl, rfl, rfl, trivial⟩, ⟨rfl, hE53, h1_0, hq56_0_0, h51, h⟩⟩
                        · -- F
                          have h := itF h c55
                          refine k_seq ?_
                          refine k_region ?_
                          refine k_move rfl rfl ?_
                          refine k_field_addr fld32_3 rfl rfl ?_
                          refine k_load_blk one30 rfl h20 rfl rfl ?_
                          obtain ⟨x34, hx34, h⟩ := ob h
                          refine k_call cal15 rfl (net_Net_Drop_w  h1_0 hx34) rfl ?_
                          rintro s58 vr58 st58 ⟨rfl, h1_0⟩
                          have szs58 := st58.size
                          have hS : Step K0 s s58 := hS.comp st58 (by intro l hl hk; (try simp only [KC, KO, KU, KN, K0] at hk ⊢) <;> omega)
                          have hE11 : Step (KU (KO ku1_0) (KU (KC (b8 + 1) 0) (KC (b9 + 1) 0))) s9 s58 := hE11.comp st58 (by intro l hl hk; (try simp only [KC, KO, KU, KN, K0] at hk ⊢) <;> omega)
                          have hE14 : Step (KU (KO ku1_0) (KU (KC (b8 + 1) 0) (KC (b9 + 1) 0))) s9 s58 := hE14.comp st58 (by intro l hl hk; (try simp only [KC, KO, KU, KN, K0] at hk ⊢) <;> omega)
                          have hE53 : Step (KU (KO ku1_0) (KC (b51 + 1) 0)) s52 s58 := hE53.comp st58 (by intro l hl hk; (try simp only [KC, KO, KU, KN, K0] at hk ⊢) <;> omega)
                          replace hp1 := hp1.up2 st58
                          replace h15 := h15.up2 st58
                          replace h16 := h16.up2 st58
                          replace hq19_0 := hq19_0.up2 st58
                          replace h20 := h20.up2 st58
                          replace hq50_0_0 := hq50_0_0.up2 st58
                          replace h51 := h51.up2 st58
                          refine k_assign rfl rfl ?_
                          refine k_nil ?_
                          refine k_keep [(1, _), (4, _), (5, _), (7, _), (8, _), (9, _), (10, _), (11, _), (16, _), (17, _), (18, _)] ⟨rfl, rfl, rfl, rfl, rfl, rfl, rfl, rfl, rfl, rfl, rfl, trivial⟩ ?_
                          refine k_seq ?_
                          refine k_region ?_
                          refine k_move rfl rfl ?_
                          refine k_move rfl rfl ?_
                          refine k_neq rfl rfl rfl ?_
                          refine k_nil ?_
                          refine k_keep [(1, _), (4, _), (5, _), (7, _), (8, _), (9, _), (10, _), (11, _), (16, _), (17, _), (159, _)] ⟨rfl, rfl, rfl, rfl, rfl, rfl, rfl, rfl, rfl, rfl, rfl, trivial⟩ ?_
                          refine k_cond_dec rfl (fun c59 => ?_) (fun c59 => ?_)
                          · -- T
                            have h := itT h c59
                            refine k_seq ?_
                            refine k_region ?_
                            refine k_assign rfl rfl ?_
                            refine k_nil ?_
                            refine k_keep [(1, _), (4, _), (5, _), (7, _), (8, _), (9, _), (10, _), (11, _), (16, _), (17, _)] ⟨rfl, rfl, rfl, rfl, rfl, rfl, rfl, rfl, rfl, rfl, trivial⟩ ?_
                            refine k_ret ?_
                            obtain rfl := Option.some.inj h
                            refine ⟨_, rfl, Ret.mk hS ?_⟩
                            exact rfl
                          · -- F
                            have h := itF h c59
                            refine k_skip ?_
                            exact k_stop ⟨(s58, x26.2, x34.2, x26.1.From, x26.1.To, x26.1.Bytes, q50_0_0), ⟨(by first | rfl | (simp <;> rfl)), trivial⟩, ⟨rfl, rfl, rfl, rfl, rfl, rfl, rfl, rfl, rfl, trivial⟩, ⟨rfl, hE53, h1_0, hq50_0_0, h51, h⟩⟩
                      · -- behind
                        rintro ⟨s60, x28, x29, x30, x31, x32, v54⟩ wL ⟨rfl, hE53, h1_0, h54, h51, h⟩
                        rw [hK53] at h
                        have szs60 := hE53.size
                        have hS : Step K0 s s60 := hS.comp hE53 (by intro l hl hk; (try simp only [KC, KO, KU, KN, K0] at hk ⊢) <;> omega)
                        have hE11 : Step (KU (KO ku1_0) (KU (KC (b8 + 1) 0) (KC (b9 + 1) 0))) s9 s60 := hE11.comp hE53 (by intro l hl hk; (try simp only [KC, KO, KU, KN, K0] at hk ⊢) <;> omega)
                        have hE14 : Step (KU (KO ku1_0) (KU (KC (b8 + 1) 0) (KC (b9 + 1) 0))) s9 s60 := hE14.comp hE53 (by intro l hl hk; (try simp only [KC, KO, KU, KN, K0] at hk ⊢) <;> omega)
                        replace hp1 := hp1.up2 hE53
                        replace h15 := h15.up2 hE53
                        replace h16 := h16.up2 hE53
                        replace hq19_0 := hq19_0.up2 hE53
                        replace h20 := h20.up2 hE53
                        refine k_seq ?_
                        refine k_seq ?_
                        refine k_drawT (KN s60.n) 17 (.read 0 (.read 1 (.read 2 (.read 3 (.read 4 (.read 5 (.read 6 (.read 7 (.read 8 (.read 9 (.read 10 (.read 11 (.read 12 (.alt 13 (.read 14 (.read 15 (.read 16 .fin))) .no)))))))))))))) mixed (by intro c h; (try simp only [KC, KO, KU, KN] at h) <;> omega) rfl rfl rfl ?_
                        intro s61 st61
                        have szs61 := st61.size
                        have hS : Step K0 s s61 := hS.trans0 st61
                        have hE11 : Step (KU (KO ku1_0) (KU (KC (b8 + 1) 0) (KC (b9 + 1) 0))) s9 s61 := hE11.trans0 st61
                        have hE14 : Step (KU (KO ku1_0) (KU (KC (b8 + 1) 0) (KC (b9 + 1) 0))) s9 s61 := hE14.trans0 st61
                        replace hp1 := hp1.up2 st61
                        replace h1_0 := h1_0.up2 st61
                        replace h15 := h15.up2 st61
                        replace h16 := h16.up2 st61
                        replace hq19_0 := hq19_0.up2 st61
                        replace h20 := h20.up2 st61
                        replace h54 := h54.up2 st61
                        replace h51 := h51.up2 st61
                        refine rt_read (.int .i64 x28) rfl rfl (fun s62 st62 => ?_) ?_
                        · try replace hp1 := hp1.up2 st62
                          try replace h1_0 := h1_0.up2 st62
                          try replace h15 := h15.up2 st62
                          try replace h16 := h16.up2 st62
                          try replace hq19_0 := hq19_0.up2 st62
                          try replace h20 := h20.up2 st62
                          try replace h54 := h54.up2 st62
                          try replace h51 := h51.up2 st62
                          refine k_move rfl rfl ?_
                          exact fq_end
                        refine rt_read (.bool (decide (x28 = 0))) rfl rfl (fun s63 st63 => ?_) ?_
                        · try replace hp1 := hp1.up2 st63
                          try replace h1_0 := h1_0.up2 st63
                          try replace h15 := h15.up2 st63
                          try replace h16 := h16.up2 st63
                          try replace hq19_0 := hq19_0.up2 st63
                          try replace h20 := h20.up2 st63
                          try replace h54 := h54.up2 st63
                          try replace h51 := h51.up2 st63
                          refine k_eql rfl rfl rfl ?_
                          exact fq_end
                        refine rt_read (.bool x15) rfl rfl (fun s64 st64 => ?_) ?_
                        · try replace hp1 := hp1.up2 st64
                          try replace h1_0 := h1_0.up2 st64
                          try replace h15 := h15.up2 st64
                          try replace h16 := h16.up2 st64
                          try replace hq19_0 := hq19_0.up2 st64
                          try replace h20 := h20.up2 st64
                          try replace h54 := h54.up2 st64
                          try replace h51 := h51.up2 st64
                          refine k_move rfl rfl ?_
                          exact fq_end
                        refine rt_read (.bool (!(decide (x28 = 0) == x15))) rfl rfl (fun s65 st65 => ?_) ?_
                        · try replace hp1 := hp1.up2 st65
                          try replace h1_0 := h1_0.up2 st65
                          try replace h15 := h15.up2 st65
                          try replace h16 := h16.up2 st65
                          try replace hq19_0 := hq19_0.up2 st65
                          try replace h20 := h20.up2 st65
                          try replace h54 := h54.up2 st65
                          try replace h51 := h51.up2 st65
                          refine k_neqb Try.underlying4 rfl rfl rfl ?_
                          exact fq_end
                        refine rt_read (.bool (!(decide (x28 = 0) == x15))) rfl rfl (fun s66 st66 => ?_) ?_
                        · try replace hp1 := hp1.up2 st66
                          try replace h1_0 := h1_0.up2 st66
                          try replace h15 := h15.up2 st66
                          try replace h16 := h16.up2 st66
                          try replace hq19_0 := hq19_0.up2 st66
                          try replace h20 := h20.up2 st66
                          try replace h54 := h54.up2 st66
                          try replace h51 := h51.up2 st66
                          refine k_move rfl rfl ?_
                          exact fq_end
                        refine rt_splitb (fun c67 => ?_) (fun c67 => ?_)
                        · -- t164 True
                          have h := ibT h c67
                          refine rt_read undef rfl rfl (fun s68 st68 => ?_) ?_
                          · refine k_no rfl rfl rfl rfl ?_
                            exact fq_end
                          refine rt_read undef rfl rfl (fun s69 st69 => ?_) ?_
                          · refine k_no rfl rfl rfl rfl ?_
                            exact fq_end
                          refine rt_read undef rfl rfl (fun s70 st70 => ?_) ?_
                          · refine k_nou rfl rfl rfl rfl ?_
                            exact fq_end
                          refine rt_read undef rfl rfl (fun s71 st71 => ?_) ?_
                          · refine k_nou rfl rfl rfl rfl ?_
                            exact fq_end
                          refine rt_read undef rfl rfl (fun s72 st72 => ?_) ?_
                          · refine k_nou rfl rfl rfl rfl ?_
                            exact fq_end
                          refine rt_read undef rfl rfl (fun s73 st73 => ?_) ?_
                          · refine k_nou rfl rfl rfl rfl ?_
                            exact fq_end
                          refine rt_read undef rfl rfl (fun s74 st74 => ?_) ?_
                          · refine k_nou rfl rfl rfl rfl ?_
                            exact fq_end
                          refine rt_read undef rfl rfl (fun s75 st75 => ?_) ?_
                          · refine k_nou rfl rfl rfl rfl ?_
                            exact fq_end
                          refine rt_act rfl rfl ?_
                          refine k_nou rfl rfl rfl rfl ?_
                          refine rt_cont ((Step.refl _).of0 (by first | exact fun _ h => h | (intro c h; simp [KC, KO, KU, KN] at h <;> omega))) ?_
                          refine rt_read undef rfl rfl (fun s76 st76 => ?_) ?_
                          · refine k_nou rfl rfl rfl rfl ?_
                            exact fq_end
                          refine rt_read undef rfl rfl (fun s77 st77 => ?_) ?_
                          · refine k_no rfl rfl rfl rfl ?_
                            exact fq_end
                          refine rt_read (.bool true) rfl rfl (fun s78 st78 => ?_) ?_
                          · try replace hp1 := hp1.up2 st78
                            try replace h1_0 := h1_0.up2 st78
                            try replace h15 := h15.up2 st78
                            try replace h16 := h16.up2 st78
                            try replace hq19_0 := hq19_0.up2 st78
                            try replace h20 := h20.up2 st78
                            try replace h54 := h54.up2 st78
                            try replace h51 := h51.up2 st78
                            refine k_pickT rfl rfl rfl rfl ?_
                            exact fq_end
                          refine rt_fin ?_
                          refine k_nil ?_
                          refine k_keep [(1, _), (4, _), (5, _), (7, _), (8, _), (9, _), (10, _), (11, _), (176, _)] ⟨rfl, rfl, rfl, rfl, rfl, rfl, rfl, rfl, rfl, trivial⟩ ?_
                          refine k_cond_true rfl ?_
                          refine k_seq ?_
                          refine k_region ?_
                          refine k_assign rfl rfl ?_
                          refine k_nil ?_
                          refine k_keep [(1, _), (4, _), (5, _), (7, _), (8, _), (9, _), (10, _), (11, _)] ⟨rfl, rfl, rfl, rfl, rfl, rfl, rfl, rfl, trivial⟩ ?_
                          refine k_ret ?_
                          obtain rfl := Option.some.inj h
                          refine ⟨_, rfl, Ret.mk hS ?_⟩
                          exact rfl
                        · -- t164 False
                          have h := ibF h c67
                          refine rt_read (.bool x15) rfl rfl (fun s79 st79 => ?_) ?_
                          · try replace hp1 := hp1.up2 st79
                            try replace h1_0 := h1_0.up2 st79
                            try replace h15 := h15.up2 st79
                            try replace h16 := h16.up2 st79
                            try replace hq19_0 := hq19_0.up2 st79
                            try replace h20 := h20.up2 st79
                            try replace h54 := h54.up2 st79
                            try replace h51 := h51.up2 st79
                            refine k_yes rfl rfl ?_
                            refine k_move rfl rfl ?_
                            exact fq_end
                          refine rt_read (.bool x15) rfl rfl (fun s80 st80 => ?_) ?_
                          · try replace hp1 := hp1.up2 st80
                            try replace h1_0 := h1_0.up2 st80
                            try replace h15 := h15.up2 st80
                            try replace h16 := h16.up2 st80
                            try replace hq19_0 := hq19_0.up2 st80
                            try replace h20 := h20.up2 st80
                            try replace h54 := h54.up2 st80
                            try replace h51 := h51.up2 st80
                            refine k_yes rfl rfl ?_
                            refine k_move rfl rfl ?_
                            exact fq_end
                          refine rt_splitb (fun c81 => ?_) (fun c81 => ?_)
                          · -- t166 True
                            have h := ibT h c81
                            refine rt_read (.agg #[.int .i64 x30, .int .i64 x31, v54]) rfl rfl (fun s82 st82 => ?_) ?_
                            · try replace hp1 := hp1.up2 st82
                              try replace h1_0 := h1_0.up2 st82
                              try replace h15 := h15.up2 st82
                              try replace h16 := h16.up2 st82
                              try replace hq19_0 := hq19_0.up2 st82
                              try replace h20 := h20.up2 st82
                              try replace h54 := h54.up2 st82
                              try replace h51 := h51.up2 st82
                              refine k_yes rfl rfl ?_
                              refine k_load_blka (cs := [.int .i64 x30, .int .i64 x31, v54]) agg36 rfl h51 rfl ?_
                              exact fq_end
                            refine rt_read (v15) rfl rfl (fun s83 st83 => ?_) ?_
                            · try replace hp1 := hp1.up2 st83
                              try replace h54 := h54.up2 st83
                              try replace h1_0 := h1_0.up2 st83
                              try replace h15 := h15.up2 st83
                              try replace h16 := h16.up2 st83
                              try replace hq19_0 := hq19_0.up2 st83
                              try replace h20 := h20.up2 st83
                              try replace h51 := h51.up2 st83
                              refine k_yes rfl rfl ?_
                              refine k_move rfl rfl ?_
                              exact fq_end
                            refine rt_read (.pointer (some ⟨b20, 3, none⟩)) rfl rfl (fun s84 st84 => ?_) ?_
                            · try replace hp1 := hp1.up2 st84
                              try replace h54 := h54.up2 st84
                              try replace h1_0 := h1_0.up2 st84
                              try replace h15 := h15.up2 st84
                              try replace h16 := h16.up2 st84
                              try replace hq19_0 := hq19_0.up2 st84
                              try replace h20 := h20.up2 st84
                              try replace h51 := h51.up2 st84
                              refine k_yes rfl rfl ?_
                              refine k_field_addr fld32_3 rfl rfl ?_
                              exact fq_end
                            refine rt_read (.int .u64 (x14.Id.toNat : Int)) rfl rfl (fun s85 st85 => ?_) ?_
                            · try replace hp1 := hp1.up2 st85
                              try replace h54 := h54.up2 st85
                              try replace h1_0 := h1_0.up2 st85
                              try replace h15 := h15.up2 st85
                              try replace h16 := h16.up2 st85
                              try replace hq19_0 := hq19_0.up2 st85
                              try replace h20 := h20.up2 st85
                              try replace h51 := h51.up2 st85
                              refine k_yes rfl rfl ?_
                              refine k_load_blk one30 rfl h20 rfl rfl ?_
                              exact fq_end
                            obtain ⟨x35, hx35, h⟩ := ob h
                            refine rt_ix rfl (wanted_yes rfl rfl rfl) Try.underlying46 size36 rfl rfl (h15.sl) (geti_out hx35).1 (geti_map hx35) rfl ?_
                            intro q86 hq86
                            refine rt_ldagg rfl (wanted_yes rfl rfl rfl) (by exact agg36) rfl hq86 (by first | exact id | (simp only [KC, KO, KU, KN] <;> omega)) rfl ?_
                            intro cs87 h87
                            obtain ⟨q87_0, rfl, hq87_0⟩ := opnApiMessage h87
                            refine rt_act rfl rfl ?_
                            refine k_yes rfl rfl ?_
                            have hA88 : Step (KN s60.n) s61 s61 := (Step.refl _).of0 (by first | exact fun _ h => h | (intro c h; simp [KC, KO, KU, KN] at h <;> omega))
                            obtain ⟨x36, hx36, h⟩ := ob h
                            refine k_call cal17 rfl (ref22_Same_w (a0 := (⟨x30, x31, x32⟩ : ApiMessage)) (a1 := x35) (SL.of_R h54) (SL.of_R hq87_0) hx36) rfl ?_
                            rintro s89 vr89 st89 rfl
                            have szs89 := st89.size
                            have hS : Step K0 s s89 := hS.trans0 st89
                            have hE11 : Step (KU (KO ku1_0) (KU (KC (b8 + 1) 0) (KC (b9 + 1) 0))) s9 s89 := hE11.trans0 st89
                            have hE14 : Step (KU (KO ku1_0) (KU (KC (b8 + 1) 0) (KC (b9 + 1) 0))) s9 s89 := hE14.trans0 st89
                            have hA88 : Step (KN s60.n) s61 s89 := hA88.trans0 st89
                            replace hp1 := hp1.up2 st89
                            replace h54 := h54.up2 st89
                            replace hq86 := hq86.up2 st89
                            replace hq87_0 := hq87_0.up2 st89
                            replace h1_0 := h1_0.up2 st89
                            replace h15 := h15.up2 st89
                            replace h16 := h16.up2 st89
                            replace hq19_0 := hq19_0.up2 st89
                            replace h20 := h20.up2 st89
                            replace h51 := h51.up2 st89
                            refine rt_cont hA88 ?_
                            refine rt_read (.bool (!x36)) rfl rfl (fun s90 st90 => ?_) ?_
                            · try replace hp1 := hp1.up2 st90
                              try replace h54 := h54.up2 st90
                              try replace hq86 := hq86.up2 st90
                              try replace hq87_0 := hq87_0.up2 st90
                              try replace h1_0 := h1_0.up2 st90
                              try replace h15 := h15.up2 st90
                              try replace h16 := h16.up2 st90
                              try replace hq19_0 := hq19_0.up2 st90
                              try replace h20 := h20.up2 st90
                              try replace h51 := h51.up2 st90
                              refine k_yes rfl rfl ?_
                              refine k_not rfl rfl ?_
                              exact fq_end
                            refine rt_read (.bool (!x36)) rfl rfl (fun s91 st91 => ?_) ?_
                            · try replace hp1 := hp1.up2 st91
                              try replace h54 := h54.up2 st91
                              try replace hq86 := hq86.up2 st91
                              try replace hq87_0 := hq87_0.up2 st91
                              try replace h1_0 := h1_0.up2 st91
                              try replace h15 := h15.up2 st91
                              try replace h16 := h16.up2 st91
                              try replace hq19_0 := hq19_0.up2 st91
                              try replace h20 := h20.up2 st91
                              try replace h51 := h51.up2 st91
                              refine k_yes rfl rfl ?_
                              refine k_pickT rfl rfl rfl rfl ?_
                              exact fq_end
                            refine rt_read (.bool (!x36)) rfl rfl (fun s92 st92 => ?_) ?_
                            · try replace hp1 := hp1.up2 st92
                              try replace h54 := h54.up2 st92
                              try replace hq86 := hq86.up2 st92
                              try replace hq87_0 := hq87_0.up2 st92
                              try replace h1_0 := h1_0.up2 st92
                              try replace h15 := h15.up2 st92
                              try replace h16 := h16.up2 st92
                              try replace hq19_0 := hq19_0.up2 st92
                              try replace h20 := h20.up2 st92
                              try replace h51 := h51.up2 st92
                              refine k_pickF rfl rfl rfl rfl ?_
                              exact fq_end
                            refine rt_fin ?_
                            refine k_nil ?_
                            refine k_keep [(1, _), (4, _), (5, _), (7, _), (8, _), (9, _), (10, _), (11, _), (176, _)] ⟨rfl, rfl, rfl, rfl, rfl, rfl, rfl, rfl, rfl, trivial⟩ ?_
                            refine k_cond rfl (fun c93 => ?_) (fun c93 => ?_)
                            · -- T
                              have h := ibT h c93
                              refine k_seq ?_
                              refine k_region ?_
                              refine k_assign rfl rfl ?_
                              refine k_nil ?_
                              refine k_keep [(1, _), (4, _), (5, _), (7, _), (8, _), (9, _), (10, _), (11, _)] ⟨rfl, rfl, rfl, rfl, rfl, rfl, rfl, rfl, trivial⟩ ?_
                              refine k_ret ?_
                              obtain rfl := Option.some.inj h
                              refine ⟨_, rfl, Ret.mk hS ?_⟩
                              exact rfl
                            · -- F
                              have h := ibF h c93
                              refine k_skip ?_
                              refine k_seq ?_
                              refine k_region ?_
                              refine k_move rfl rfl ?_
                              refine k_nil ?_
                              refine k_keep [(1, _), (4, _), (5, _), (7, _), (8, _), (9, _), (10, _), (177, _)] ⟨rfl, rfl, rfl, rfl, rfl, rfl, rfl, rfl, trivial⟩ ?_
                              refine k_cond rfl (fun c94 => ?_) (fun c94 => ?_)
                              · -- T
                                have h := ibT h c94
                                refine k_region ?_
                                refine k_move rfl rfl ?_
                                refine k_field_addr fld32_3 rfl rfl ?_
                                refine k_load_blk one30 rfl h20 rfl rfl ?_
                                obtain ⟨x37, hx37, h⟩ := ob h
                                refine k_ixaddr_own Try.underlying47 size3 rfl rfl h16 (geti_out hx37).1 (geti_map hx37) rfl ?_
                                intro qx37 hqx37 heqx37
                                refine k_store_elt (dd := dI64 1) size3 rfl rfl h16 heqx37 (by rw [List.length_map]; exact (List.getElem?_eq_some_iff.1 (geti_out hx37).2.2).1) (R.val rfl) rfl ?_
                                intro s95 st95 h16
                                rw [← List.map_set] at h16
                                have szs95 := st95.size
                                have hS : Step K0 s s95 := hS.comp st95 (by intro l hl hk; (try simp only [KC, KO, KU, KN, K0] at hk ⊢) <;> omega)
                                have hE11 : Step (KU (KO ku1_0) (KU (KC (b8 + 1) 0) (KC (b9 + 1) 0))) s9 s95 := hE11.comp st95 (by intro l hl hk; (try simp only [KC, KO, KU, KN, K0] at hk ⊢) <;> omega)
                                have hE14 : Step (KU (KO ku1_0) (KU (KC (b8 + 1) 0) (KC (b9 + 1) 0))) s9 s95 := hE14.comp st95 (by intro l hl hk; (try simp only [KC, KO, KU, KN, K0] at hk ⊢) <;> omega)
                                replace hp1 := hp1.up2 st95
                                replace h1_0 := h1_0.up2 st95
                                replace h15 := h15.up2 st95
                                replace hq19_0 := hq19_0.up2 st95
                                replace h20 := h20.up2 st95
                                refine k_nil ?_
                                refine k_blk ?_
                                refine k_blk ?_
                                refine k_region ?_
                                refine k_move rfl rfl ?_
                                refine k_add rfl rfl rfl ?_
                                refine k_assign rfl rfl ?_
                                refine k_nil ?_
                                exact k_stop ⟨(s95, x10, v15, x11.set ((x14.Id.toNat : Int)).toNat 1, v16, i64 (x12 + 1), x29, j), ⟨(by first | rfl | (simp <;> rfl)), (by first | rfl | (simp <;> rfl)), (by first | rfl | (simp <;> rfl)), trivial⟩, ⟨rfl, rfl, rfl, trivial⟩, ⟨rfl, hE14, h15, h16, h1_0, h⟩, (by simp)⟩
                              · -- F
                                have h := ibF h c94
                                refine k_skip ?_
                                refine k_blk ?_
                                refine k_blk ?_
                                refine k_region ?_
                                refine k_move rfl rfl ?_
                                refine k_add rfl rfl rfl ?_
                                refine k_assign rfl rfl ?_
                                refine k_nil ?_
                                exact k_stop ⟨(s89, x10, v15, x11, v16, i64 (x12 + 1), x29, j), ⟨(by first | rfl | (simp <;> rfl)), (by first | rfl | (simp <;> rfl)), (by first | rfl | (simp <;> rfl)), trivial⟩, ⟨rfl, rfl, rfl, trivial⟩, ⟨rfl, hE14, h15, h16, h1_0, h⟩, (by simp)⟩
                          · -- t166 False
                            have h := ibF h c81
                            refine rt_read undef rfl rfl (fun s96 st96 => ?_) ?_
                            · refine k_no rfl rfl rfl rfl ?_
                              exact fq_end
                            refine rt_read undef rfl rfl (fun s97 st97 => ?_) ?_
                            · refine k_no rfl rfl rfl rfl ?_
                              exact fq_end
                            refine rt_read undef rfl rfl (fun s98 st98 => ?_) ?_
                            · refine k_no rfl rfl rfl rfl ?_
                              exact fq_end
                            refine rt_read undef rfl rfl (fun s99 st99 => ?_) ?_
                            · refine k_no rfl rfl rfl rfl ?_
                              exact fq_end
                            refine rt_read undef rfl rfl (fun s100 st100 => ?_) ?_
                            · refine k_no rfl rfl rfl rfl ?_
                              exact fq_end
                            refine rt_read undef rfl rfl (fun s101 st101 => ?_) ?_
                            · refine k_no rfl rfl rfl rfl ?_
                              exact fq_end
                            refine rt_act rfl rfl ?_
                            refine k_no rfl rfl rfl rfl ?_
                            refine rt_cont ((Step.refl _).of0 (by first | exact fun _ h => h | (intro c h; simp [KC, KO, KU, KN] at h <;> omega))) ?_
                            refine rt_read undef rfl rfl (fun s102 st102 => ?_) ?_
                            · refine k_no rfl rfl rfl rfl ?_
                              exact fq_end
                            refine rt_read (.bool false) rfl rfl (fun s103 st103 => ?_) ?_
                            · try replace hp1 := hp1.up2 st103
                              try replace h1_0 := h1_0.up2 st103
                              try replace h15 := h15.up2 st103
                              try replace h16 := h16.up2 st103
                              try replace hq19_0 := hq19_0.up2 st103
                              try replace h20 := h20.up2 st103
                              try replace h54 := h54.up2 st103
                              try replace h51 := h51.up2 st103
                              refine k_yes rfl rfl ?_
                              refine k_pickF rfl rfl rfl rfl ?_
                              exact fq_end
                            refine rt_read (.bool false) rfl rfl (fun s104 st104 => ?_) ?_
                            · try replace hp1 := hp1.up2 st104
                              try replace h1_0 := h1_0.up2 st104
                              try replace h15 := h15.up2 st104
                              try replace h16 := h16.up2 st104
                              try replace hq19_0 := hq19_0.up2 st104
                              try replace h20 := h20.up2 st104
                              try replace h54 := h54.up2 st104
                              try replace h51 := h51.up2 st104
                              refine k_pickF rfl rfl rfl rfl ?_
                              exact fq_end
                            refine rt_fin ?_
                            refine k_nil ?_
                            refine k_keep [(1, _), (4, _), (5, _), (7, _), (8, _), (9, _), (10, _), (11, _), (176, _)] ⟨rfl, rfl, rfl, rfl, rfl, rfl, rfl, rfl, rfl, trivial⟩ ?_
                            refine k_cond_false rfl ?_
                            refine k_skip ?_
                            refine k_seq ?_
                            refine k_region ?_
                            refine k_move rfl rfl ?_
                            refine k_nil ?_
                            refine k_keep [(1, _), (4, _), (5, _), (7, _), (8, _), (9, _), (10, _), (177, _)] ⟨rfl, rfl, rfl, rfl, rfl, rfl, rfl, rfl, trivial⟩ ?_
                            refine k_cond rfl (fun c105 => ?_) (fun c105 => ?_)
                            · -- T
                              have h := ibT h c105
                              refine k_region ?_
                              refine k_move rfl rfl ?_
                              refine k_field_addr fld32_3 rfl rfl ?_
                              refine k_load_blk one30 rfl h20 rfl rfl ?_
                              obtain ⟨x38, hx38, h⟩ := ob h
                              refine k_ixaddr_own Try.underlying47 size3 rfl rfl h16 (geti_out hx38).1 (geti_map hx38) rfl ?_
                              intro qx38 hqx38 heqx38
                              refine k_store_elt (dd := dI64 1) size3 rfl rfl h16 heqx38 (by rw [List.length_map]; exact (List.getElem?_eq_some_iff.1 (geti_out hx38).2.2).1) (R.val rfl) rfl ?_
                              intro s106 st106 h16
                              rw [← List.map_set] at h16
                              have szs106 := st106.size
                              have hS : Step K0 s s106 := hS.comp st106 (by intro l hl hk; (try simp only [KC, KO, KU, KN, K0] at hk ⊢) <;> omega)
                              have hE11 : Step (KU (KO ku1_0) (KU (KC (b8 + 1) 0) (KC (b9 + 1) 0))) s9 s106 := hE11.comp st106 (by intro l hl hk; (try simp only [KC, KO, KU, KN, K0] at hk ⊢) <;> omega)
                              have hE14 : Step (KU (KO ku1_0) (KU (KC (b8 + 1) 0) (KC (b9 + 1) 0))) s9 s106 := hE14.comp st106 (by intro l hl hk; (try simp only [KC, KO, KU, KN, K0] at hk ⊢) <;> omega)
                              replace hp1 := hp1.up2 st106
                              replace h1_0 := h1_0.up2 st106
                              replace h15 := h15.up2 st106
                              replace hq19_0 := hq19_0.up2 st106
                              replace h20 := h20.up2 st106
                              refine k_nil ?_
                              refine k_blk ?_
                              refine k_blk ?_
                              refine k_region ?_
                              refine k_move rfl rfl ?_
                              refine k_add rfl rfl rfl ?_
                              refine k_assign rfl rfl ?_
                              refine k_nil ?_
                              exact k_stop ⟨(s106, x10, v15, x11.set ((x14.Id.toNat : Int)).toNat 1, v16, i64 (x12 + 1), x29, j), ⟨(by first | rfl | (simp <;> rfl)), (by first | rfl | (simp <;> rfl)), (by first | rfl | (simp <;> rfl)), trivial⟩, ⟨rfl, rfl, rfl, trivial⟩, ⟨rfl, hE14, h15, h16, h1_0, h⟩, (by simp)⟩
                            · -- F
                              have h := ibF h c105
                              refine k_skip ?_
                              refine k_blk ?_
                              refine k_blk ?_
                              refine k_region ?_
                              refine k_move rfl rfl ?_
                              refine k_add rfl rfl rfl ?_
                              refine k_assign rfl rfl ?_
                              refine k_nil ?_
                              exact k_stop ⟨(s61, x10, v15, x11, v16, i64 (x12 + 1), x29, j), ⟨(by first | rfl | (simp <;> rfl)), (by first | rfl | (simp <;> rfl)), (by first | rfl | (simp <;> rfl)), trivial⟩, ⟨rfl, rfl, rfl, trivial⟩, ⟨rfl, hE14, h15, h16, h1_0, h⟩, (by simp)⟩
                    · -- F
                      have h := ibF h c49
                      refine k_skip ?_
                      refine k_blk ?_
                      refine k_blk ?_
                      refine k_region ?_
                      refine k_move rfl rfl ?_
                      refine k_add rfl rfl rfl ?_
                      refine k_assign rfl rfl ?_
                      refine k_nil ?_
                      exact k_stop ⟨(s48, x10, v15, x11, v16, i64 (x12 + 1), x13, j), ⟨(by first | rfl | (simp <;> rfl)), (by first | rfl | (simp <;> rfl)), (by first | rfl | (simp <;> rfl)), trivial⟩, ⟨rfl, rfl, rfl, trivial⟩, ⟨rfl, hE14, h15, h16, h1_0, h⟩, (by simp)⟩
        · -- F
          have h := itF h c18
          refine k_exit rfl ?_
          exact k_stop ⟨(s17, x10, v15, x11, v16, x13), ⟨(by first | rfl | (simp <;> rfl)), (by first | rfl | (simp <;> rfl)), trivial⟩, ⟨rfl, rfl, trivial⟩, ⟨rfl, hE11, h15, h16, h1_0, h⟩⟩
      · -- behind
        rintro ⟨s107, x7, v12, x8, v13, x9⟩ wL ⟨rfl, hE11, h12, h13, h1_0, h⟩
        rw [hK11] at h
        have szs107 := hE11.size
        have hS : Step K0 s s107 := hS.comp hE11 (by intro l hl hk; (try simp only [KC, KO, KU, KN, K0] at hk ⊢) <;> omega)
        refine k_seq ?_
        refine k_region ?_
        refine k_assign rfl rfl ?_
        refine k_nil ?_
        refine k_seq ?_
        obtain ⟨kj39, hK108, h⟩ := jn_out h
        have hE108 : Step K0 s107 s107 := (Step.refl _).of0 (by first | exact fun _ h => h | (intro c h; simp [KC, KO, KU, KN] at h <;> omega))
        refine k_cutc (X := St × Int) [(4, .bool false), (5, v1_0)] (fun (xL : St × Int) => match xL with | (sl, x40) => [(19, .int .i64 x40)]) (fun (xL : St × Int) (wL : World) => match xL with | (sl, x40) => sl.w = wL ∧ Step K0 s107 sl ∧ kj39 x40 = some r) ?_ ?_
        · -- the ways
          refine k_seq ?_
          refine k_region ?_
          refine k_assign rfl rfl ?_
          refine k_nil ?_
          refine k_block ?_
          refine k_loopc (X := St × Int × Int × Nat) [(4, _), (5, _), (7, _), (8, _)] (fun (xL : St × Int × Int × Nat) => match xL with | (sl, x41, x42, j) => [(19, .int .i64 x41), (20, .int .i64 x42)]) (fun (xL : St × Int × Int × Nat) (wL : World) => match xL with | (sl, x41, x42, j) => sl.w = wL ∧ Step K0 s107 sl ∧ law22_NetOnce_l2 x7 x9 x8 kj39 j x41 x42 = some r) (fun (xL : St × Int × Int × Nat) => match xL with | (sl, x41, x42, j) => j) (s107, 0, 1, FU) ⟨rfl, rfl, rfl, rfl, trivial⟩ ⟨(by first | rfl | (simp <;> rfl)), (by first | rfl | (simp <;> rfl)), trivial⟩ ⟨rfl, (Step.refl _).of0 (by first | exact fun _ h => h | (intro c h; simp [KC, KO, KU, KN] at h <;> omega)), h⟩ ?_
          rintro ⟨s110, x41, x42, j⟩ wL ⟨rfl, hE109, h⟩
          cases j with
          | zero => rw [law22_NetOnce_l2] at h; exact (noneNe h).elim
          | succ j =>
          rw [law22_NetOnce_l2] at h
          have szs110 := hE109.size
          have hS : Step K0 s s110 := hS.trans0 hE109
          have hE108 : Step K0 s107 s110 := hE108.trans0 hE109
          replace h1_0 := h1_0.up2 hE109
          replace h12 := h12.up2 hE109
          replace h13 := h13.up2 hE109
          refine k_seq ?_
          refine k_seq ?_
          refine k_region ?_
          refine k_move rfl rfl ?_
          refine k_move rfl rfl ?_
          refine k_len Try.underlying46 rfl (h12.sl).hasLen rfl ?_
          refine k_as (v := .int .i64 (x7.length : Int)) (by simp only [List.length_map]) ?_
          refine k_lss rfl rfl rfl ?_
          refine k_nil ?_
          refine k_keep [(4, _), (5, _), (7, _), (8, _), (19, _), (20, _), (185, _)] ⟨rfl, rfl, rfl, rfl, rfl, rfl, rfl, trivial⟩ ?_
          refine k_cond_dec rfl (fun c111 => ?_) (fun c111 => ?_)
          · -- T
            have h := itT h c111
            refine k_skip ?_
            refine k_seq ?_
            refine k_block ?_
            refine k_seq ?_
            refine k_region ?_
            refine k_move rfl rfl ?_
            refine k_move rfl rfl ?_
            refine k_conv (p := x42) Try.underlying3 Try.underlying30 rfl rfl ?_
            refine k_as (congrArg (Value.int .u64) (w64 _)) ?_
            obtain ⟨x43, hx43, h⟩ := ob h
            refine k_call cal16 rfl (net_Net_At_w  h1_0 hx43) rfl ?_
            rintro s112 vr112 st112 ⟨cs112_0, rfl, h112_0⟩
            have szs112 := st112.size
            have hS : Step K0 s s112 := hS.trans0 st112
            have hE108 : Step K0 s107 s112 := hE108.trans0 st112
            have hE109 : Step K0 s107 s112 := hE109.trans0 st112
            replace h1_0 := h1_0.up2 st112
            replace h12 := h12.up2 st112
            replace h13 := h13.up2 st112
            obtain ⟨q112_0_0, rfl, hq112_0_0⟩ := opnApiMessage h112_0
            refine k_move rfl rfl ?_
            refine k_extract rfl rfl rfl ?_
            refine k_extract rfl rfl rfl ?_
            refine k_alloc zero36 rfl ?_
            intro s113 b113 st113 h113 ge113
            have szs113 := st113.size
            have hS : Step K0 s s113 := hS.trans0 st113
            have hE108 : Step K0 s107 s113 := hE108.trans0 st113
            have hE109 : Step K0 s107 s113 := hE109.trans0 st113
            replace hq112_0_0 := hq112_0_0.up2 st113
            replace h1_0 := h1_0.up2 st113
            replace h12 := h12.up2 st113
            replace h13 := h13.up2 st113
            have lt113 := h113.lt
            refine k_store_c (cs' := [.int .i64 x43.1.From, .int .i64 x43.1.To, q112_0_0]) size36 rfl rfl h113 (by first | (simp; done) | omega | (dsimp only; omega)) (CellsOf.lit (vs := [.int .i64 x43.1.From, .int .i64 x43.1.To, q112_0_0]) rfl (ones.cons rfl (ones.cons rfl (ones.cons ((SL.of_R hq112_0_0)).one1 ones.nil)))) rfl (by first | rfl | (simp; done) | (simp; omega)) rfl ?_
            intro s114 st114 h113
            have szs114 := st114.size
            have hS : Step K0 s s114 := hS.comp st114 (by intro l hl hk; (try simp only [KC, KO, KU, KN, K0] at hk ⊢) <;> omega)
            have hE108 : Step K0 s107 s114 := hE108.comp st114 (by intro l hl hk; (try simp only [KC, KO, KU, KN, K0] at hk ⊢) <;> omega)
            have hE109 : Step K0 s107 s114 := hE109.comp st114 (by intro l hl hk; (try simp only [KC, KO, KU, KN, K0] at hk ⊢) <;> omega)
            replace hq112_0_0 := hq112_0_0.up2 st114
            replace h1_0 := h1_0.up2 st114
            replace h12 := h12.up2 st114
            replace h13 := h13.up2 st114
            refine k_assign rfl rfl ?_
            refine k_nil ?_
            refine k_keep [(4, _), (5, _), (7, _), (8, _), (19, _), (20, _), (21, _), (22, _)] ⟨rfl, rfl, rfl, rfl, rfl, rfl, rfl, rfl, trivial⟩ ?_
            refine k_seq ?_
            refine k_seq ?_
            refine k_drawT (KN s114.n) 21 (.read 0 (.read 1 (.read 2 (.read 3 (.read 4 (.read 5 (.read 6 (.read 7 (.read 8 (.read 9 (.read 10 (.read 11 (.read 12 (.read 13 (.read 14 (.read 15 (.read 16 (.alt 17 (.read 18 (.read 19 (.read 20 .fin))) .no)))))))))))))))))) mixed (by intro c h; (try simp only [KC, KO, KU, KN] at h) <;> omega) rfl rfl rfl ?_
            intro s115 st115
            have szs115 := st115.size
            have hS : Step K0 s s115 := hS.trans0 st115
            have hE108 : Step K0 s107 s115 := hE108.trans0 st115
            have hE109 : Step K0 s107 s115 := hE109.trans0 st115
            replace h1_0 := h1_0.up2 st115
            replace h12 := h12.up2 st115
            replace h13 := h13.up2 st115
            replace hq112_0_0 := hq112_0_0.up2 st115
            replace h113 := h113.up2 st115
            refine rt_read (.int .i64 x43.2) rfl rfl (fun s116 st116 => ?_) ?_
            · try replace h1_0 := h1_0.up2 st116
              try replace h12 := h12.up2 st116
              try replace h13 := h13.up2 st116
              try replace hq112_0_0 := hq112_0_0.up2 st116
              try replace h113 := h113.up2 st116
              refine k_move rfl rfl ?_
              exact fq_end
            refine rt_read (.bool (decide (x43.2 = 0))) rfl rfl (fun s117 st117 => ?_) ?_
            · try replace h1_0 := h1_0.up2 st117
              try replace h12 := h12.up2 st117
              try replace h13 := h13.up2 st117
              try replace hq112_0_0 := hq112_0_0.up2 st117
              try replace h113 := h113.up2 st117
              refine k_eql rfl rfl rfl ?_
              exact fq_end
            refine rt_read (v13) rfl rfl (fun s118 st118 => ?_) ?_
            · try replace h1_0 := h1_0.up2 st118
              try replace h12 := h12.up2 st118
              try replace h13 := h13.up2 st118
              try replace hq112_0_0 := hq112_0_0.up2 st118
              try replace h113 := h113.up2 st118
              refine k_move rfl rfl ?_
              exact fq_end
            refine rt_read (.int .i64 x42) rfl rfl (fun s119 st119 => ?_) ?_
            · try replace h1_0 := h1_0.up2 st119
              try replace h12 := h12.up2 st119
              try replace h13 := h13.up2 st119
              try replace hq112_0_0 := hq112_0_0.up2 st119
              try replace h113 := h113.up2 st119
              refine k_move rfl rfl ?_
              exact fq_end
            obtain ⟨x44, hx44, h⟩ := ob h
            refine rt_ix rfl (wanted_none rfl) Try.underlying47 size3 rfl rfl (h13.sl) (geti_out hx44).1 (geti_map hx44) rfl ?_
            intro q120 hq120
            refine rt_read (.int .i64 x44) rfl rfl (fun s121 st121 => ?_) ?_
            · try replace hq120 := hq120.up2 st121
              try replace h1_0 := h1_0.up2 st121
              try replace h12 := h12.up2 st121
              try replace h13 := h13.up2 st121
              try replace hq112_0_0 := hq112_0_0.up2 st121
              try replace h113 := h113.up2 st121
              refine k_load_val one3 rfl hq120 rfl ?_
              exact fq_end
            refine rt_read (.bool (decide (x44 = 0))) rfl rfl (fun s122 st122 => ?_) ?_
            · try replace hq120 := hq120.up2 st122
              try replace h1_0 := h1_0.up2 st122
              try replace h12 := h12.up2 st122
              try replace h13 := h13.up2 st122
              try replace hq112_0_0 := hq112_0_0.up2 st122
              try replace h113 := h113.up2 st122
              refine k_eql rfl rfl rfl ?_
              exact fq_end
            refine rt_read (.bool (!(decide (x43.2 = 0) == decide (x44 = 0)))) rfl rfl (fun s123 st123 => ?_) ?_
            · try replace hq120 := hq120.up2 st123
              try replace h1_0 := h1_0.up2 st123
              try replace h12 := h12.up2 st123
              try replace h13 := h13.up2 st123
              try replace hq112_0_0 := hq112_0_0.up2 st123
              try replace h113 := h113.up2 st123
              refine k_neqb Try.underlying4 rfl rfl rfl ?_
              exact fq_end
            refine rt_read (.bool (!(decide (x43.2 = 0) == decide (x44 = 0)))) rfl rfl (fun s124 st124 => ?_) ?_
            · try replace hq120 := hq120.up2 st124
              try replace h1_0 := h1_0.up2 st124
              try replace h12 := h12.up2 st124
              try replace h13 := h13.up2 st124
              try replace hq112_0_0 := hq112_0_0.up2 st124
              try replace h113 := h113.up2 st124
              refine k_move rfl rfl ?_
              exact fq_end
            refine rt_splitb (fun c125 => ?_) (fun c125 => ?_)
            · -- t203 True
              have h := ibT h c125
              refine rt_read undef rfl rfl (fun s126 st126 => ?_) ?_
              · refine k_no rfl rfl rfl rfl ?_
                exact fq_end
              refine rt_read undef rfl rfl (fun s127 st127 => ?_) ?_
              · refine k_no rfl rfl rfl rfl ?_
                exact fq_end
              refine rt_read undef rfl rfl (fun s128 st128 => ?_) ?_
              · refine k_no rfl rfl rfl rfl ?_
                exact fq_end
              refine rt_read undef rfl rfl (fun s129 st129 => ?_) ?_
              · refine k_nou rfl rfl rfl rfl ?_
                exact fq_end
              refine rt_read undef rfl rfl (fun s130 st130 => ?_) ?_
              · refine k_nou rfl rfl rfl rfl ?_
                exact fq_end
              refine rt_read undef rfl rfl (fun s131 st131 => ?_) ?_
              · refine k_nou rfl rfl rfl rfl ?_
                exact fq_end
              refine rt_read undef rfl rfl (fun s132 st132 => ?_) ?_
              · refine k_nou rfl rfl rfl rfl ?_
                exact fq_end
              refine rt_read undef rfl rfl (fun s133 st133 => ?_) ?_
              · refine k_nou rfl rfl rfl rfl ?_
                exact fq_end
              refine rt_act rfl rfl ?_
              refine k_nou rfl rfl rfl rfl ?_
              refine rt_cont ((Step.refl _).of0 (by first | exact fun _ h => h | (intro c h; simp [KC, KO, KU, KN] at h <;> omega))) ?_
              refine rt_read undef rfl rfl (fun s134 st134 => ?_) ?_
              · refine k_nou rfl rfl rfl rfl ?_
                exact fq_end
              refine rt_read undef rfl rfl (fun s135 st135 => ?_) ?_
              · refine k_no rfl rfl rfl rfl ?_
                exact fq_end
              refine rt_read (.bool true) rfl rfl (fun s136 st136 => ?_) ?_
              · try replace hq120 := hq120.up2 st136
                try replace h1_0 := h1_0.up2 st136
                try replace h12 := h12.up2 st136
                try replace h13 := h13.up2 st136
                try replace hq112_0_0 := hq112_0_0.up2 st136
                try replace h113 := h113.up2 st136
                refine k_pickT rfl rfl rfl rfl ?_
                exact fq_end
              refine rt_fin ?_
              refine k_nil ?_
              refine k_keep [(4, _), (5, _), (7, _), (8, _), (19, _), (20, _), (215, _)] ⟨rfl, rfl, rfl, rfl, rfl, rfl, rfl, trivial⟩ ?_
              refine k_cond_true rfl ?_
              refine k_seq ?_
              refine k_region ?_
              refine k_assign rfl rfl ?_
              refine k_nil ?_
              refine k_keep [(4, _), (5, _), (7, _), (8, _), (19, _), (20, _)] ⟨rfl, rfl, rfl, rfl, rfl, rfl, trivial⟩ ?_
              refine k_ret ?_
              obtain rfl := Option.some.inj h
              refine ⟨_, rfl, Ret.mk hS ?_⟩
              exact rfl
            · -- t203 False
              have h := ibF h c125
              refine rt_read (.int .i64 x43.2) rfl rfl (fun s137 st137 => ?_) ?_
              · try replace hq120 := hq120.up2 st137
                try replace h1_0 := h1_0.up2 st137
                try replace h12 := h12.up2 st137
                try replace h13 := h13.up2 st137
                try replace hq112_0_0 := hq112_0_0.up2 st137
                try replace h113 := h113.up2 st137
                refine k_yes rfl rfl ?_
                refine k_move rfl rfl ?_
                exact fq_end
              refine rt_read (.bool (decide (x43.2 = 0))) rfl rfl (fun s138 st138 => ?_) ?_
              · try replace hq120 := hq120.up2 st138
                try replace h1_0 := h1_0.up2 st138
                try replace h12 := h12.up2 st138
                try replace h13 := h13.up2 st138
                try replace hq112_0_0 := hq112_0_0.up2 st138
                try replace h113 := h113.up2 st138
                refine k_yes rfl rfl ?_
                refine k_eql rfl rfl rfl ?_
                exact fq_end
              refine rt_read (.bool (decide (x43.2 = 0))) rfl rfl (fun s139 st139 => ?_) ?_
              · try replace hq120 := hq120.up2 st139
                try replace h1_0 := h1_0.up2 st139
                try replace h12 := h12.up2 st139
                try replace h13 := h13.up2 st139
                try replace hq112_0_0 := hq112_0_0.up2 st139
                try replace h113 := h113.up2 st139
                refine k_yes rfl rfl ?_
                refine k_move rfl rfl ?_
                exact fq_end
              refine rt_split (fun c140 => ?_) (fun c140 => ?_)
              · -- t206 True
                have h := itT h c140
                refine rt_read (.agg #[.int .i64 x43.1.From, .int .i64 x43.1.To, q112_0_0]) rfl rfl (fun s141 st141 => ?_) ?_
                · try replace hq120 := hq120.up2 st141
                  try replace h1_0 := h1_0.up2 st141
                  try replace h12 := h12.up2 st141
                  try replace h13 := h13.up2 st141
                  try replace hq112_0_0 := hq112_0_0.up2 st141
                  try replace h113 := h113.up2 st141
                  refine k_yes rfl rfl ?_
                  refine k_load_blka (cs := [.int .i64 x43.1.From, .int .i64 x43.1.To, q112_0_0]) agg36 rfl h113 rfl ?_
                  exact fq_end
                refine rt_read (v12) rfl rfl (fun s142 st142 => ?_) ?_
                · try replace hq120 := hq120.up2 st142
                  try replace hq112_0_0 := hq112_0_0.up2 st142
                  try replace h1_0 := h1_0.up2 st142
                  try replace h12 := h12.up2 st142
                  try replace h13 := h13.up2 st142
                  try replace h113 := h113.up2 st142
                  refine k_yes rfl rfl ?_
                  refine k_move rfl rfl ?_
                  exact fq_end
                refine rt_read (.int .i64 x42) rfl rfl (fun s143 st143 => ?_) ?_
                · try replace hq120 := hq120.up2 st143
                  try replace hq112_0_0 := hq112_0_0.up2 st143
                  try replace h1_0 := h1_0.up2 st143
                  try replace h12 := h12.up2 st143
                  try replace h13 := h13.up2 st143
                  try replace h113 := h113.up2 st143
                  refine k_yes rfl rfl ?_
                  refine k_move rfl rfl ?_
                  exact fq_end
                obtain ⟨x45, hx45, h⟩ := ob h
                refine rt_ix rfl (wanted_yes rfl rfl rfl) Try.underlying46 size36 rfl rfl (h12.sl) (geti_out hx45).1 (geti_map hx45) rfl ?_
                intro q144 hq144
                refine rt_ldagg rfl (wanted_yes rfl rfl rfl) (by exact agg36) rfl hq144 (by first | exact id | (simp only [KC, KO, KU, KN] <;> omega)) rfl ?_
                intro cs145 h145
                obtain ⟨q145_0, rfl, hq145_0⟩ := opnApiMessage h145
                refine rt_act rfl rfl ?_
                refine k_yes rfl rfl ?_
                have hA146 : Step (KN s114.n) s115 s115 := (Step.refl _).of0 (by first | exact fun _ h => h | (intro c h; simp [KC, KO, KU, KN] at h <;> omega))
                obtain ⟨x46, hx46, h⟩ := ob h
                refine k_call cal17 rfl (ref22_Same_w (a0 := x43.1) (a1 := x45) (SL.of_R hq112_0_0) (SL.of_R hq145_0) hx46) rfl ?_
                rintro s147 vr147 st147 rfl
                have szs147 := st147.size
                have hS : Step K0 s s147 := hS.trans0 st147
                have hE108 : Step K0 s107 s147 := hE108.trans0 st147
                have hE109 : Step K0 s107 s147 := hE109.trans0 st147
                have hA146 : Step (KN s114.n) s115 s147 := hA146.trans0 st147
                replace hq120 := hq120.up2 st147
                replace hq112_0_0 := hq112_0_0.up2 st147
                replace hq144 := hq144.up2 st147
                replace hq145_0 := hq145_0.up2 st147
                replace h1_0 := h1_0.up2 st147
                replace h12 := h12.up2 st147
                replace h13 := h13.up2 st147
                replace h113 := h113.up2 st147
                refine rt_cont hA146 ?_
                refine rt_read (.bool (!x46)) rfl rfl (fun s148 st148 => ?_) ?_
                · try replace hq120 := hq120.up2 st148
                  try replace hq112_0_0 := hq112_0_0.up2 st148
                  try replace hq144 := hq144.up2 st148
                  try replace hq145_0 := hq145_0.up2 st148
                  try replace h1_0 := h1_0.up2 st148
                  try replace h12 := h12.up2 st148
                  try replace h13 := h13.up2 st148
                  try replace h113 := h113.up2 st148
                  refine k_yes rfl rfl ?_
                  refine k_not rfl rfl ?_
                  exact fq_end
                refine rt_read (.bool (!x46)) rfl rfl (fun s149 st149 => ?_) ?_
                · try replace hq120 := hq120.up2 st149
                  try replace hq112_0_0 := hq112_0_0.up2 st149
                  try replace hq144 := hq144.up2 st149
                  try replace hq145_0 := hq145_0.up2 st149
                  try replace h1_0 := h1_0.up2 st149
                  try replace h12 := h12.up2 st149
                  try replace h13 := h13.up2 st149
                  try replace h113 := h113.up2 st149
                  refine k_yes rfl rfl ?_
                  refine k_pickT rfl rfl rfl rfl ?_
                  exact fq_end
                refine rt_read (.bool (!x46)) rfl rfl (fun s150 st150 => ?_) ?_
                · try replace hq120 := hq120.up2 st150
                  try replace hq112_0_0 := hq112_0_0.up2 st150
                  try replace hq144 := hq144.up2 st150
                  try replace hq145_0 := hq145_0.up2 st150
                  try replace h1_0 := h1_0.up2 st150
                  try replace h12 := h12.up2 st150
                  try replace h13 := h13.up2 st150
                  try replace h113 := h113.up2 st150
                  refine k_pickF rfl rfl rfl rfl ?_
                  exact fq_end
                refine rt_fin ?_
                refine k_nil ?_
                refine k_keep [(4, _), (5, _), (7, _), (8, _), (19, _), (20, _), (215, _)] ⟨rfl, rfl, rfl, rfl, rfl, rfl, rfl, trivial⟩ ?_
                refine k_cond rfl (fun c151 => ?_) (fun c151 => ?_)
                · -- T
                  have h := ibT h c151
                  refine k_seq ?_
                  refine k_region ?_
                  refine k_assign rfl rfl ?_
                  refine k_nil ?_
                  refine k_keep [(4, _), (5, _), (7, _), (8, _), (19, _), (20, _)] ⟨rfl, rfl, rfl, rfl, rfl, rfl, trivial⟩ ?_
                  refine k_ret ?_
                  obtain rfl := Option.some.inj h
                  refine ⟨_, rfl, Ret.mk hS ?_⟩
                  exact rfl
                · -- F
                  have h := ibF h c151
                  refine k_skip ?_
                  refine k_region ?_
                  refine k_move rfl rfl ?_
                  refine k_move rfl rfl ?_
                  refine k_move rfl rfl ?_
                  obtain ⟨x47, hx47, h⟩ := ob h
                  refine k_ixaddr_own Try.underlying47 size3 rfl rfl h13 (geti_out hx47).1 (geti_map hx47) rfl ?_
                  intro qx47 hqx47 heqx47
                  refine k_load_val one3 rfl hqx47 rfl ?_
                  refine k_sub_ rfl rfl rfl ?_
                  refine k_add rfl rfl rfl ?_
                  refine k_assign rfl rfl ?_
                  refine k_nil ?_
                  refine k_blk ?_
                  refine k_region ?_
                  refine k_move rfl rfl ?_
                  refine k_add rfl rfl rfl ?_
                  refine k_assign rfl rfl ?_
                  refine k_nil ?_
                  exact k_stop ⟨(s147, i64 (x41 + (i64 (1 - x47))), i64 (x42 + 1), j), ⟨(by first | rfl | (simp <;> rfl)), (by first | rfl | (simp <;> rfl)), trivial⟩, ⟨rfl, rfl, rfl, rfl, trivial⟩, ⟨rfl, hE109, h⟩, (by simp)⟩
              · -- t206 False
                have h := itF h c140
                refine rt_read undef rfl rfl (fun s152 st152 => ?_) ?_
                · refine k_no rfl rfl rfl rfl ?_
                  exact fq_end
                refine rt_read undef rfl rfl (fun s153 st153 => ?_) ?_
                · refine k_no rfl rfl rfl rfl ?_
                  exact fq_end
                refine rt_read undef rfl rfl (fun s154 st154 => ?_) ?_
                · refine k_no rfl rfl rfl rfl ?_
                  exact fq_end
                refine rt_read undef rfl rfl (fun s155 st155 => ?_) ?_
                · refine k_no rfl rfl rfl rfl ?_
                  exact fq_end
                refine rt_read undef rfl rfl (fun s156 st156 => ?_) ?_
                · refine k_no rfl rfl rfl rfl ?_
                  exact fq_end
                refine rt_act rfl rfl ?_
                refine k_no rfl rfl rfl rfl ?_
                refine rt_cont ((Step.refl _).of0 (by first | exact fun _ h => h | (intro c h; simp [KC, KO, KU, KN] at h <;> omega))) ?_
                refine rt_read undef rfl rfl (fun s157 st157 => ?_) ?_
                · refine k_no rfl rfl rfl rfl ?_
                  exact fq_end
                refine rt_read (.bool false) rfl rfl (fun s158 st158 => ?_) ?_
                · try replace hq120 := hq120.up2 st158
                  try replace h1_0 := h1_0.up2 st158
                  try replace h12 := h12.up2 st158
                  try replace h13 := h13.up2 st158
                  try replace hq112_0_0 := hq112_0_0.up2 st158
                  try replace h113 := h113.up2 st158
                  refine k_yes rfl rfl ?_
                  refine k_pickF rfl rfl rfl rfl ?_
                  exact fq_end
                refine rt_read (.bool false) rfl rfl (fun s159 st159 => ?_) ?_
                · try replace hq120 := hq120.up2 st159
                  try replace h1_0 := h1_0.up2 st159
                  try replace h12 := h12.up2 st159
                  try replace h13 := h13.up2 st159
                  try replace hq112_0_0 := hq112_0_0.up2 st159
                  try replace h113 := h113.up2 st159
                  refine k_pickF rfl rfl rfl rfl ?_
                  exact fq_end
                refine rt_fin ?_
                refine k_nil ?_
                refine k_keep [(4, _), (5, _), (7, _), (8, _), (19, _), (20, _), (215, _)] ⟨rfl, rfl, rfl, rfl, rfl, rfl, rfl, trivial⟩ ?_
                refine k_cond_false rfl ?_
                refine k_skip ?_
                refine k_region ?_
                refine k_move rfl rfl ?_
                refine k_move rfl rfl ?_
                refine k_move rfl rfl ?_
                obtain ⟨x48, hx48, h⟩ := ob h
                refine k_ixaddr_own Try.underlying47 size3 rfl rfl h13 (geti_out hx48).1 (geti_map hx48) rfl ?_
                intro qx48 hqx48 heqx48
                refine k_load_val one3 rfl hqx48 rfl ?_
                refine k_sub_ rfl rfl rfl ?_
                refine k_add rfl rfl rfl ?_
                refine k_assign rfl rfl ?_
                refine k_nil ?_
                refine k_blk ?_
                refine k_region ?_
                refine k_move rfl rfl ?_
                refine k_add rfl rfl rfl ?_
                refine k_assign rfl rfl ?_
                refine k_nil ?_
                exact k_stop ⟨(s115, i64 (x41 + (i64 (1 - x48))), i64 (x42 + 1), j), ⟨(by first | rfl | (simp <;> rfl)), (by first | rfl | (simp <;> rfl)), trivial⟩, ⟨rfl, rfl, rfl, rfl, trivial⟩, ⟨rfl, hE109, h⟩, (by simp)⟩
          · -- F
            have h := itF h c111
            refine k_exit rfl ?_
            exact k_stop ⟨(s110, x41), ⟨(by first | rfl | (simp <;> rfl)), trivial⟩, ⟨rfl, rfl, trivial⟩, ⟨rfl, hE108, h⟩⟩
        · -- behind
          rintro ⟨s160, x40⟩ wL ⟨rfl, hE108, h⟩
          rw [hK108] at h
          have szs160 := hE108.size
          have hS : Step K0 s s160 := hS.trans0 hE108
          replace h1_0 := h1_0.up2 hE108
          refine k_seq ?_
          refine k_region ?_
          refine k_move rfl rfl ?_
          obtain ⟨x49, hx49, h⟩ := ob h
          refine k_call cal18 rfl (net_Net_Count_w  h1_0 hx49) rfl ?_
          rintro s161 vr161 st161 rfl
          have szs161 := st161.size
          have hS : Step K0 s s161 := hS.trans0 st161
          replace h1_0 := h1_0.up2 st161
          refine k_move rfl rfl ?_
          refine k_eql rfl rfl rfl ?_
          refine k_move rfl rfl ?_
          obtain ⟨x50, hx50, h⟩ := ob h
          have hE162 : Step K0 s161 s161 := (Step.refl _).of0 (by first | exact fun _ h => h | (intro c h; simp [KC, KO, KU, KN] at h <;> omega))
          refine k_cutl (X := St) 2 [(4, .bool false), (5, v1_0), (19, .int .i64 x40), (223, v1_0), (224, .int .i64 x49), (225, .int .i64 x40), (226, .bool (decide (x49 = x40)))] (fun _ => [(229, .bool x50)]) (fun sl wL => sl.w = wL ∧ Step K0 s161 sl) ?_ ?_
          · -- the ways
            refine k_again 227 rfl ?_
            refine k_split (fun c163 => ?_) (fun c163 => ?_)
            · -- t227 True
              have hx50 := itT hx50 c163
              refine k_yes rfl rfl ?_
              obtain ⟨x51, hx51, hx50⟩ := ob hx50
              refine k_call cal10 rfl (law22_awake_w   hx51) rfl ?_
              rintro s164 vr164 st164 rfl
              have szs164 := st164.size
              have hS : Step K0 s s164 := hS.trans0 st164
              have hE162 : Step K0 s161 s164 := hE162.trans0 st164
              replace h1_0 := h1_0.up2 st164
              refine k_pickT rfl rfl rfl rfl ?_
              exact k_met ⟨s164, ⟨(congrArg (fun b => some (Value.bool b)) (Option.some.inj hx50)), trivial⟩, ⟨rfl, rfl, rfl, rfl, rfl, rfl, rfl, trivial⟩, rfl, hE162⟩
            · -- t227 False
              have hx50 := itF hx50 c163
              refine k_no rfl rfl rfl rfl ?_
              refine k_pickF rfl rfl rfl rfl ?_
              exact k_met ⟨s161, ⟨(congrArg (fun b => some (Value.bool b)) (Option.some.inj hx50)), trivial⟩, ⟨rfl, rfl, rfl, rfl, rfl, rfl, rfl, trivial⟩, rfl, hE162⟩
          · -- behind
            rintro s165 wL ⟨rfl, hE162⟩
            have szs165 := hE162.size
            have hS : Step K0 s s165 := hS.trans0 hE162
            replace h1_0 := h1_0.up2 hE162
            refine k_assign rfl rfl ?_
            refine k_nil ?_
            refine k_keep [(4, _)] ⟨rfl, trivial⟩ ?_
            refine k_ret ?_
            obtain rfl := Option.some.inj h
            refine ⟨_, rfl, Ret.mk hS ?_⟩
            exact rfl
end Go.Proofs
