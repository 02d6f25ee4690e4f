import Derived.Test.YtcagpghggohoiaaF02
set_option linter.unusedSimpArgs false
set_option linter.unusedVariables false
namespace Go.Proofs
open Go.Fw
set_option maxHeartbeats 1000000 in
set_option maxRecDepth 100000 in
theorem law02_CodeChanged_w {s : St} {a0 : UInt64} {a1 : Int} {a2 : UInt8} {r : Bool}  (h : law02_CodeChanged a0 a1 a2 = some r) : Calls Try.prog 5 #[.int .u64 (a0.toNat : Int), .int .i64 a1, .int .u8 (a2.toNat : Int)] s.w (Ret s K0 (fun s1 v => v = .bool r)) := by
  unfold law02_CodeChanged at h
  have hS : Step K0 s s := (Step.refl _).of0 (by first | exact fun _ h => h | (intro c h; simp [KC, KO, KU] at h <;> omega))
  refine k_fn (rs := [6]) (args := [.int .u64 (a0.toNat : Int), .int .i64 a1, .int .u8 (a2.toNat : Int)]) Try.func5 rfl rfl rfl rfl ?_
  refine k_seq ?_
  refine k_region ?_
  refine k_assign rfl rfl ?_
  refine k_nil ?_
  refine k_seq ?_
  refine k_region ?_
  obtain ⟨x1, hx1, h⟩ := ob h
  refine k_call cal10 rfl (code_NewWriter_w   hx1) rfl ?_
  rintro s1 v1_0 st1 ⟨ku1_0, _, rfl, hk1_0, h1_0⟩
  have szs1 := st1.size
  have hS : Step K0 s s1 := hS.trans0 st1
  have le1_0 := h1_0.le
  have ne1_0 := h1_0.ne
  refine k_assign rfl rfl ?_
  refine k_nil ?_
  refine k_keep [(0, _), (1, _), (2, _), (6, _), (7, _)] ⟨rfl, rfl, rfl, rfl, rfl, trivial⟩ ?_
  refine k_seq ?_
  refine k_region ?_
  refine k_move rfl rfl ?_
  refine k_move rfl rfl ?_
  obtain ⟨x2, hx2, h⟩ := ob h
  refine k_call cal19 rfl (code_Writer_Uint_w  h1_0 hx2) rfl ?_
  rintro s2 vr2 st2 ⟨rfl, h1_0⟩
  have szs2 := st2.size
  have hS : Step K0 s s2 := hS.comp st2 (by intro l hl hk; simp only [KC, KO, KU, K0] at hk ⊢; omega)
  refine k_nil ?_
  refine k_keep [(0, _), (1, _), (2, _), (6, _), (7, _)] ⟨rfl, rfl, rfl, rfl, rfl, trivial⟩ ?_
  refine k_seq ?_
  refine k_region ?_
  refine k_move rfl rfl ?_
  obtain ⟨x3, hx3, h⟩ := ob h
  refine k_call cal12 rfl (code_Writer_Bytes_own_w  h1_0 hx3) rfl ?_
  rintro s3 v3_0 st3 ⟨_, l3_0, rfl, hl3_0, h3_0⟩
  have szs3 := st3.size
  have hS : Step K0 s s3 := hS.trans0 st3
  replace h1_0 := h1_0.up' st3
  obtain ⟨l3_0, hl3_0, h3_0⟩ := Own.anew 2030 h3_0 hl3_0 szs3
  have lt3_0 := Own.le1 h3_0
  refine k_assign rfl rfl ?_
  refine k_nil ?_
  refine k_keep [(0, _), (1, _), (2, _), (6, _), (8, _)] ⟨rfl, rfl, rfl, rfl, rfl, trivial⟩ ?_
  refine k_seq ?_
  refine k_seq ?_
  refine k_region ?_
  refine k_move rfl rfl ?_
  refine k_len Try.underlying27 rfl (h3_0.sl).hasLen rfl ?_
  refine k_as (v := .int .i64 (x3.length : Int)) (by simp only [List.length_map]) ?_
  refine k_eql rfl rfl rfl ?_
  refine k_move rfl rfl ?_
  obtain ⟨x4, hx4, h⟩ := ob h
  have hE4 : Step K0 s3 s3 := (Step.refl _).of0 (by first | exact fun _ h => h | (intro c h; simp [KC, KO, KU] at h <;> omega))
  refine k_cutl (X := St) 6 [(0, .int .u64 (a0.toNat : Int)), (1, .int .i64 a1), (2, .int .u8 (a2.toNat : Int)), (6, .bool false), (8, v3_0), (17, v3_0), (18, .int .i64 (x3.length : Int)), (19, .bool (decide ((x3.length : Int) = 0)))] (fun _ => [(26, .bool x4)]) (fun sl wL => sl.w = wL ∧ Step K0 s3 sl) ?_ ?_
  · -- the ways
    refine k_again 20 rfl ?_
    refine k_split (fun c5 => ?_) (fun c5 => ?_)
    · -- t20 True
      have hx4 := itT hx4 c5
      refine k_no rfl rfl rfl rfl ?_
      refine k_no rfl rfl rfl rfl ?_
      refine k_no rfl rfl rfl rfl ?_
      refine k_no rfl rfl rfl rfl ?_
      refine k_no rfl rfl rfl rfl ?_
      refine k_pickT rfl rfl rfl rfl ?_
      exact k_met ⟨s3, ⟨(congrArg (fun b => some (Value.bool b)) (Option.some.inj hx4)), trivial⟩, ⟨rfl, rfl, rfl, rfl, rfl, rfl, rfl, rfl, trivial⟩, rfl, hE4⟩
    · -- t20 False
      have hx4 := itF hx4 c5
      refine k_yes rfl rfl ?_
      refine k_move rfl rfl ?_
      refine k_yes rfl rfl ?_
      refine k_len Try.underlying27 rfl (h3_0.sl).hasLen rfl ?_
      refine k_as (v := .int .i64 (x3.length : Int)) (by simp only [List.length_map]) ?_
      refine k_yes rfl rfl ?_
      refine k_move rfl rfl ?_
      refine k_yes rfl rfl ?_
      obtain ⟨x5, hx5, hx4⟩ := ob hx4
      refine k_call cal17 rfl (code_Size_w   hx5) rfl ?_
      rintro s6 vr6 st6 rfl
      have szs6 := st6.size
      have hS : Step K0 s s6 := hS.trans0 st6
      have hE4 : Step K0 s3 s6 := hE4.trans0 st6
      replace h3_0 := h3_0.up' st6
      refine k_yes rfl rfl ?_
      refine k_neq rfl rfl rfl ?_
      refine k_pickF rfl rfl rfl rfl ?_
      exact k_met ⟨s6, ⟨(congrArg (fun b => some (Value.bool b)) (Option.some.inj hx4)), trivial⟩, ⟨rfl, rfl, rfl, rfl, rfl, rfl, rfl, rfl, trivial⟩, rfl, hE4⟩
  · -- behind
    rintro s7 wL ⟨rfl, hE4⟩
    have szs7 := hE4.size
    have hS : Step K0 s s7 := hS.trans0 hE4
    replace h3_0 := h3_0.up' hE4
    refine k_move rfl rfl ?_
    obtain ⟨x6, hx6, h⟩ := ob h
    have hE8 : Step K0 s7 s7 := (Step.refl _).of0 (by first | exact fun _ h => h | (intro c h; simp [KC, KO, KU] at h <;> omega))
    refine k_cutl (X := St) 10 [(0, .int .u64 (a0.toNat : Int)), (1, .int .i64 a1), (2, .int .u8 (a2.toNat : Int)), (6, .bool false), (8, v3_0), (17, v3_0), (18, .int .i64 (x3.length : Int)), (19, .bool (decide ((x3.length : Int) = 0))), (26, .bool x4)] (fun _ => [(37, .bool x6)]) (fun sl wL => sl.w = wL ∧ Step K0 s7 sl) ?_ ?_
    · -- the ways
      refine k_again 27 rfl ?_
      refine k_splitb (fun c9 => ?_) (fun c9 => ?_)
      · -- t27 True
        have hx6 := ibT hx6 c9
        refine k_no rfl rfl rfl rfl ?_
        refine k_no rfl rfl rfl rfl ?_
        refine k_no rfl rfl rfl rfl ?_
        refine k_no rfl rfl rfl rfl ?_
        refine k_no rfl rfl rfl rfl ?_
        refine k_nou rfl rfl rfl rfl ?_
        refine k_nou rfl rfl rfl rfl ?_
        refine k_nou rfl rfl rfl rfl ?_
        refine k_no rfl rfl rfl rfl ?_
        refine k_pickT rfl rfl rfl rfl ?_
        exact k_met ⟨s7, ⟨(congrArg (fun b => some (Value.bool b)) (Option.some.inj hx6)), trivial⟩, ⟨rfl, rfl, rfl, rfl, rfl, rfl, rfl, rfl, rfl, trivial⟩, rfl, hE8⟩
      · -- t27 False
        have hx6 := ibF hx6 c9
        refine k_yes rfl rfl ?_
        refine k_move rfl rfl ?_
        refine k_yes rfl rfl ?_
        obtain ⟨x7, hx7, hx6⟩ := ob hx6
        refine k_ixaddr_own Try.underlying27 size5 rfl rfl h3_0 (geti_out hx7).1 (geti_map hx7) rfl ?_
        intro qx7 hqx7 heqx7
        refine k_yes rfl rfl ?_
        refine k_load_val one5 rfl hqx7 rfl ?_
        refine k_yes rfl rfl ?_
        refine k_leq rfl rfl rfl ?_
        refine k_yes rfl rfl ?_
        refine k_move rfl rfl ?_
        have hE10 : Step K0 s7 s7 := (Step.refl _).of0 (by first | exact fun _ h => h | (intro c h; simp [KC, KO, KU] at h <;> omega))
        refine k_cutl (X := St) 4 [(0, .int .u64 (a0.toNat : Int)), (1, .int .i64 a1), (2, .int .u8 (a2.toNat : Int)), (6, .bool false), (8, v3_0), (17, v3_0), (18, .int .i64 (x3.length : Int)), (19, .bool (decide ((x3.length : Int) = 0))), (26, .bool x4), (27, .bool false), (28, v3_0), (29, qx7), (30, .int .u8 (x7.toNat : Int)), (31, .bool (decide ((x7.toNat : Int) ≤ 247)))] (fun _ => [(36, .bool (decide (((x7.toNat : Int) ≤ 247) ∧ ((x3.length : Int) ≠ 1))))]) (fun sl wL => sl.w = wL ∧ Step K0 s7 sl) ?_ ?_
        · -- the ways
          refine k_again 32 rfl ?_
          refine k_split (fun c11 => ?_) (fun c11 => ?_)
          · -- t32 True
            refine k_yes rfl rfl ?_
            refine k_move rfl rfl ?_
            refine k_yes rfl rfl ?_
            refine k_len Try.underlying27 rfl (h3_0.sl).hasLen rfl ?_
            refine k_as (v := .int .i64 (x3.length : Int)) (by simp only [List.length_map]) ?_
            refine k_yes rfl rfl ?_
            refine k_neq rfl rfl rfl ?_
            refine k_yes rfl rfl ?_
            refine k_pickT rfl rfl rfl rfl ?_
            exact k_met ⟨s7, ⟨(congrArg (fun b => some (Value.bool b)) (by first | exact decide_eq_decide.2 ⟨fun h => ⟨c11, h⟩, fun h => h.2⟩ | exact (decide_eq_false (fun h => c11 h.1)).symm | (simp [c11]; done) | (simp [c11, i64] <;> omega))), trivial⟩, ⟨rfl, rfl, rfl, rfl, rfl, rfl, rfl, rfl, rfl, rfl, rfl, rfl, rfl, rfl, trivial⟩, rfl, hE10⟩
          · -- t32 False
            refine k_no rfl rfl rfl rfl ?_
            refine k_no rfl rfl rfl rfl ?_
            refine k_no rfl rfl rfl rfl ?_
            refine k_yes rfl rfl ?_
            refine k_pickF rfl rfl rfl rfl ?_
            exact k_met ⟨s7, ⟨(congrArg (fun b => some (Value.bool b)) (by first | exact decide_eq_decide.2 ⟨fun h => ⟨c11, h⟩, fun h => h.2⟩ | exact (decide_eq_false (fun h => c11 h.1)).symm | (simp [c11]; done) | (simp [c11, i64] <;> omega))), trivial⟩, ⟨rfl, rfl, rfl, rfl, rfl, rfl, rfl, rfl, rfl, rfl, rfl, rfl, rfl, rfl, trivial⟩, rfl, hE10⟩
        · -- behind
          rintro s12 wL ⟨rfl, hE10⟩
          have szs12 := hE10.size
          have hS : Step K0 s s12 := hS.trans0 hE10
          have hE8 : Step K0 s7 s12 := hE8.trans0 hE10
          replace hqx7 := hqx7.up' hE10
          replace h3_0 := h3_0.up' hE10
          refine k_pickF rfl rfl rfl rfl ?_
          exact k_met ⟨s12, ⟨(congrArg (fun b => some (Value.bool b)) (Option.some.inj hx6)), trivial⟩, ⟨rfl, rfl, rfl, rfl, rfl, rfl, rfl, rfl, rfl, trivial⟩, rfl, hE8⟩
    · -- behind
      rintro s13 wL ⟨rfl, hE8⟩
      have szs13 := hE8.size
      have hS : Step K0 s s13 := hS.trans0 hE8
      replace h3_0 := h3_0.up' hE8
      refine k_move rfl rfl ?_
      obtain ⟨x8, hx8, h⟩ := ob h
      have hE14 : Step K0 s13 s13 := (Step.refl _).of0 (by first | exact fun _ h => h | (intro c h; simp [KC, KO, KU] at h <;> omega))
      refine k_cutl (X := St) 15 [(0, .int .u64 (a0.toNat : Int)), (1, .int .i64 a1), (2, .int .u8 (a2.toNat : Int)), (6, .bool false), (8, v3_0), (17, v3_0), (18, .int .i64 (x3.length : Int)), (19, .bool (decide ((x3.length : Int) = 0))), (26, .bool x4), (37, .bool x6)] (fun _ => [(53, .bool x8)]) (fun sl wL => sl.w = wL ∧ Step K0 s13 sl) ?_ ?_
      · -- the ways
        refine k_again 38 rfl ?_
        refine k_splitb (fun c15 => ?_) (fun c15 => ?_)
        · -- t38 True
          have hx8 := ibT hx8 c15
          refine k_no rfl rfl rfl rfl ?_
          refine k_no rfl rfl rfl rfl ?_
          refine k_no rfl rfl rfl rfl ?_
          refine k_no rfl rfl rfl rfl ?_
          refine k_no rfl rfl rfl rfl ?_
          refine k_nou rfl rfl rfl rfl ?_
          refine k_nou rfl rfl rfl rfl ?_
          refine k_nou rfl rfl rfl rfl ?_
          refine k_nou rfl rfl rfl rfl ?_
          refine k_nou rfl rfl rfl rfl ?_
          refine k_nou rfl rfl rfl rfl ?_
          refine k_nou rfl rfl rfl rfl ?_
          refine k_nou rfl rfl rfl rfl ?_
          refine k_no rfl rfl rfl rfl ?_
          refine k_pickT rfl rfl rfl rfl ?_
          exact k_met ⟨s13, ⟨(congrArg (fun b => some (Value.bool b)) (Option.some.inj hx8)), trivial⟩, ⟨rfl, rfl, rfl, rfl, rfl, rfl, rfl, rfl, rfl, rfl, trivial⟩, rfl, hE14⟩
        · -- t38 False
          have hx8 := ibF hx8 c15
          refine k_yes rfl rfl ?_
          refine k_move rfl rfl ?_
          refine k_yes rfl rfl ?_
          obtain ⟨x9, hx9, hx8⟩ := ob hx8
          refine k_ixaddr_own Try.underlying27 size5 rfl rfl h3_0 (geti_out hx9).1 (geti_map hx9) rfl ?_
          intro qx9 hqx9 heqx9
          refine k_yes rfl rfl ?_
          refine k_load_val one5 rfl hqx9 rfl ?_
          refine k_yes rfl rfl ?_
          refine k_gtr rfl rfl rfl ?_
          refine k_yes rfl rfl ?_
          refine k_move rfl rfl ?_
          obtain ⟨x10, hx10, hx8⟩ := ob hx8
          have hE16 : Step K0 s13 s13 := (Step.refl _).of0 (by first | exact fun _ h => h | (intro c h; simp [KC, KO, KU] at h <;> omega))
          refine k_cutl (X := St) 9 [(0, .int .u64 (a0.toNat : Int)), (1, .int .i64 a1), (2, .int .u8 (a2.toNat : Int)), (6, .bool false), (8, v3_0), (17, v3_0), (18, .int .i64 (x3.length : Int)), (19, .bool (decide ((x3.length : Int) = 0))), (26, .bool x4), (37, .bool x6), (38, .bool false), (39, v3_0), (40, qx9), (41, .int .u8 (x9.toNat : Int)), (42, .bool (decide (247 < (x9.toNat : Int))))] (fun _ => [(52, .bool x10)]) (fun sl wL => sl.w = wL ∧ Step K0 s13 sl) ?_ ?_
          · -- the ways
            refine k_again 43 rfl ?_
            refine k_split (fun c17 => ?_) (fun c17 => ?_)
            · -- t43 True
              have hx10 := itT hx10 c17
              refine k_yes rfl rfl ?_
              refine k_move rfl rfl ?_
              refine k_yes rfl rfl ?_
              refine k_len Try.underlying27 rfl (h3_0.sl).hasLen rfl ?_
              refine k_as (v := .int .i64 (x3.length : Int)) (by simp only [List.length_map]) ?_
              refine k_yes rfl rfl ?_
              refine k_move rfl rfl ?_
              refine k_yes rfl rfl ?_
              obtain ⟨x11, hx11, hx10⟩ := ob hx10
              refine k_ixaddr_own Try.underlying27 size5 rfl rfl h3_0 (geti_out hx11).1 (geti_map hx11) rfl ?_
              intro qx11 hqx11 heqx11
              refine k_yes rfl rfl ?_
              refine k_load_val one5 rfl hqx11 rfl ?_
              refine k_yes rfl rfl ?_
              refine k_conv (p := (x11.toNat : Int)) Try.underlying5 Try.underlying3 rfl rfl ?_
              refine k_as (congrArg (Value.int .i64) (i64_b8 _)) ?_
              refine k_yes rfl rfl ?_
              refine k_sub_ rfl rfl rfl ?_
              refine k_yes rfl rfl ?_
              refine k_neq rfl rfl rfl ?_
              refine k_yes rfl rfl ?_
              refine k_pickT rfl rfl rfl rfl ?_
              exact k_met ⟨s13, ⟨(congrArg (fun b => some (Value.bool b)) (Option.some.inj hx10)), trivial⟩, ⟨rfl, rfl, rfl, rfl, rfl, rfl, rfl, rfl, rfl, rfl, rfl, rfl, rfl, rfl, rfl, trivial⟩, rfl, hE16⟩
            · -- t43 False
              have hx10 := itF hx10 c17
              refine k_no rfl rfl rfl rfl ?_
              refine k_no rfl rfl rfl rfl ?_
              refine k_no rfl rfl rfl rfl ?_
              refine k_no rfl rfl rfl rfl ?_
              refine k_no rfl rfl rfl rfl ?_
              refine k_no rfl rfl rfl rfl ?_
              refine k_no rfl rfl rfl rfl ?_
              refine k_no rfl rfl rfl rfl ?_
              refine k_yes rfl rfl ?_
              refine k_pickF rfl rfl rfl rfl ?_
              exact k_met ⟨s13, ⟨(congrArg (fun b => some (Value.bool b)) (Option.some.inj hx10)), trivial⟩, ⟨rfl, rfl, rfl, rfl, rfl, rfl, rfl, rfl, rfl, rfl, rfl, rfl, rfl, rfl, rfl, trivial⟩, rfl, hE16⟩
          · -- behind
            rintro s18 wL ⟨rfl, hE16⟩
            have szs18 := hE16.size
            have hS : Step K0 s s18 := hS.trans0 hE16
            have hE14 : Step K0 s13 s18 := hE14.trans0 hE16
            replace hqx9 := hqx9.up' hE16
            replace h3_0 := h3_0.up' hE16
            refine k_pickF rfl rfl rfl rfl ?_
            exact k_met ⟨s18, ⟨(congrArg (fun b => some (Value.bool b)) (Option.some.inj hx8)), trivial⟩, ⟨rfl, rfl, rfl, rfl, rfl, rfl, rfl, rfl, rfl, rfl, trivial⟩, rfl, hE14⟩
      · -- behind
        rintro s19 wL ⟨rfl, hE14⟩
        have szs19 := hE14.size
        have hS : Step K0 s s19 := hS.trans0 hE14
        replace h3_0 := h3_0.up' hE14
        refine k_nil ?_
        refine k_keep [(0, _), (1, _), (2, _), (6, _), (8, _), (53, _)] ⟨rfl, rfl, rfl, rfl, rfl, rfl, trivial⟩ ?_
        refine k_cond rfl (fun c20 => ?_) (fun c20 => ?_)
        · -- T
          have h := ibT h c20
          refine k_seq ?_
          refine k_region ?_
          refine k_assign rfl rfl ?_
          refine k_nil ?_
          refine k_keep [(0, _), (1, _), (2, _), (6, _), (8, _)] ⟨rfl, rfl, rfl, rfl, rfl, trivial⟩ ?_
          refine k_ret ?_
          obtain rfl := Option.some.inj h
          refine ⟨_, rfl, Ret.mk hS ?_⟩
          exact rfl
        · -- F
          have h := ibF h c20
          refine k_skip ?_
          refine k_seq ?_
          refine k_region ?_
          refine k_move rfl rfl ?_
          refine k_max2 rfl rfl rfl ?_
          refine k_move rfl rfl ?_
          refine k_len Try.underlying27 rfl (h3_0.sl).hasLen rfl ?_
          refine k_as (v := .int .i64 (x3.length : Int)) (by simp only [List.length_map]) ?_
          by_cases c21 : (x3.length : Int) ≠ 0
          case neg => exact (noneNe (itF h c21)).elim
          replace h := itT h c21
          refine k_rem rfl rfl c21 rfl ?_
          refine k_assign rfl rfl ?_
          refine k_nil ?_
          refine k_keep [(0, _), (1, _), (2, _), (6, _), (8, _)] ⟨rfl, rfl, rfl, rfl, rfl, trivial⟩ ?_
          refine k_seq ?_
          refine k_region ?_
          refine k_move rfl rfl ?_
          refine k_move rfl rfl ?_
          obtain ⟨x12, hx12, h⟩ := ob h
          refine k_ixaddr_own Try.underlying27 size5 rfl rfl h3_0 (geti_out hx12).1 (geti_map hx12) rfl ?_
          intro qx12 hqx12 heqx12
          refine k_load_val one5 rfl hqx12 rfl ?_
          refine k_move rfl rfl ?_
          refine k_rem rfl rfl (by decide) rfl ?_
          refine k_as (congrArg (Value.int .u8) (rem8 _ _)) ?_
          refine k_add rfl rfl rfl ?_
          refine k_as (congrArg (Value.int .u8) (w8 _)) ?_
          refine k_add rfl rfl rfl ?_
          refine k_as (congrArg (Value.int .u8) (w8 _)) ?_
          obtain ⟨x13, hx13, h⟩ := ob h
          refine k_ixaddr_own Try.underlying27 size5 rfl rfl h3_0 (geti_out hx13).1 (geti_map hx13) rfl ?_
          intro qx13 hqx13 heqx13
          refine k_store_elt (dd := bD (ofI8 ((x12.toNat : Int) + ((ofI8 (1 + ((ofI8 ((a2.toNat : Int).tmod 255)).toNat : Int))).toNat : Int)))) size5 rfl rfl h3_0 heqx13 (by rw [List.length_map]; exact (List.getElem?_eq_some_iff.1 (geti_out hx13).2.2).1) (R.val rfl) rfl ?_
          intro s22 st22 h3_0
          rw [← List.map_set] at h3_0
          have szs22 := st22.size
          have hS : Step K0 s s22 := hS.comp st22 (by intro l hl hk; simp only [KC, KO, KU, K0] at hk ⊢; omega)
          refine k_nil ?_
          refine k_keep [(0, _), (6, _), (8, _)] ⟨rfl, rfl, rfl, trivial⟩ ?_
          refine k_seq ?_
          refine k_region ?_
          refine k_move rfl rfl ?_
          obtain ⟨x14, hx14, h⟩ := ob h
          refine k_call cal20 rfl (code_NewReader_w  (h3_0.sl) hx14) rfl ?_
          rintro s23 v23_0 st23 ⟨ku23_0, _, rfl, hk23_0, h23_0⟩
          have szs23 := st23.size
          have hS : Step K0 s s23 := hS.trans0 st23
          replace h3_0 := h3_0.up' st23
          have le23_0 := h23_0.le
          have ne23_0 := h23_0.ne
          refine k_assign rfl rfl ?_
          refine k_nil ?_
          refine k_keep [(0, _), (6, _), (9, _)] ⟨rfl, rfl, rfl, trivial⟩ ?_
          refine k_seq ?_
          refine k_region ?_
          refine k_move rfl rfl ?_
          obtain ⟨x15, hx15, h⟩ := ob h
          refine k_call cal21 rfl (code_Reader_Uint_w  h23_0 hx15) rfl ?_
          rintro s24 vr24 st24 ⟨rfl, h23_0⟩
          have szs24 := st24.size
          have hS : Step K0 s s24 := hS.comp st24 (by intro l hl hk; simp only [KC, KO, KU, K0] at hk ⊢; omega)
          refine k_assign rfl rfl ?_
          refine k_nil ?_
          refine k_keep [(0, _), (6, _), (9, _), (10, _)] ⟨rfl, rfl, rfl, rfl, trivial⟩ ?_
          refine k_seq ?_
          refine k_region ?_
          refine k_move rfl rfl ?_
          obtain ⟨x16, hx16, h⟩ := ob h
          refine k_call cal22 rfl (code_Reader_End_w  h23_0 hx16) rfl ?_
          rintro s25 vr25 st25 ⟨rfl, h23_0⟩
          have szs25 := st25.size
          have hS : Step K0 s s25 := hS.comp st25 (by intro l hl hk; simp only [KC, KO, KU, K0] at hk ⊢; omega)
          refine k_neq rfl rfl rfl ?_
          refine k_move rfl rfl ?_
          have hE26 : Step K0 s25 s25 := (Step.refl _).of0 (by first | exact fun _ h => h | (intro c h; simp [KC, KO, KU] at h <;> omega))
          refine k_cutl (X := St) 4 [(0, .int .u64 (a0.toNat : Int)), (6, .bool false), (9, v23_0), (10, .int .u64 (x15.1.toNat : Int)), (72, v23_0), (73, .int .i64 x16.1), (74, .bool (decide (x16.1 ≠ 0)))] (fun _ => [(79, .bool (decide ((x16.1 ≠ 0) ∨ ((x15.1.toNat : Int) ≠ (a0.toNat : Int)))))]) (fun sl wL => sl.w = wL ∧ Step K0 s25 sl) ?_ ?_
          · -- the ways
            refine k_again 75 rfl ?_
            refine k_split (fun c27 => ?_) (fun c27 => ?_)
            · -- t75 True
              refine k_no rfl rfl rfl rfl ?_
              refine k_no rfl rfl rfl rfl ?_
              refine k_no rfl rfl rfl rfl ?_
              refine k_pickT rfl rfl rfl rfl ?_
              exact k_met ⟨s25, ⟨(congrArg (fun b => some (Value.bool b)) (by first | exact decide_eq_decide.2 ⟨Or.inr, fun h => h.resolve_left c27⟩ | exact (decide_eq_true (Or.inl c27)).symm | (simp [c27]; done) | (simp [c27, i64] <;> omega))), trivial⟩, ⟨rfl, rfl, rfl, rfl, rfl, rfl, rfl, trivial⟩, rfl, hE26⟩
            · -- t75 False
              refine k_yes rfl rfl ?_
              refine k_move rfl rfl ?_
              refine k_yes rfl rfl ?_
              refine k_move rfl rfl ?_
              refine k_yes rfl rfl ?_
              refine k_neq rfl rfl rfl ?_
              refine k_pickF rfl rfl rfl rfl ?_
              exact k_met ⟨s25, ⟨(congrArg (fun b => some (Value.bool b)) (by first | exact decide_eq_decide.2 ⟨Or.inr, fun h => h.resolve_left c27⟩ | exact (decide_eq_true (Or.inl c27)).symm | (simp [c27]; done) | (simp [c27, i64] <;> omega))), trivial⟩, ⟨rfl, rfl, rfl, rfl, rfl, rfl, rfl, trivial⟩, rfl, hE26⟩
          · -- behind
            rintro s28 wL ⟨rfl, hE26⟩
            have szs28 := hE26.size
            have hS : Step K0 s s28 := hS.trans0 hE26
            replace h23_0 := h23_0.up' hE26
            refine k_move rfl rfl ?_
            obtain ⟨x17, hx17, h⟩ := ob h
            have hE29 : Step K0 s28 s28 := (Step.refl _).of0 (by first | exact fun _ h => h | (intro c h; simp [KC, KO, KU] at h <;> omega))
            refine k_cutl (X := St) 2 [(0, .int .u64 (a0.toNat : Int)), (6, .bool false), (9, v23_0), (10, .int .u64 (x15.1.toNat : Int)), (72, v23_0), (73, .int .i64 x16.1), (74, .bool (decide (x16.1 ≠ 0))), (79, .bool (decide ((x16.1 ≠ 0) ∨ ((x15.1.toNat : Int) ≠ (a0.toNat : Int)))))] (fun _ => [(82, .bool x17)]) (fun sl wL => sl.w = wL ∧ Step K0 s28 sl) ?_ ?_
            · -- the ways
              refine k_again 80 rfl ?_
              refine k_split (fun c30 => ?_) (fun c30 => ?_)
              · -- t80 True
                have hx17 := itT hx17 c30
                refine k_yes rfl rfl ?_
                obtain ⟨x18, hx18, hx17⟩ := ob hx17
                obtain rfl := Option.some.inj (show some true = some x18 from hx18)
                refine k_call cal9 rfl (law02_awake_w   hx18) rfl ?_
                rintro s31 vr31 st31 rfl
                have szs31 := st31.size
                have hS : Step K0 s s31 := hS.trans0 st31
                have hE29 : Step K0 s28 s31 := hE29.trans0 st31
                replace h23_0 := h23_0.up' st31
                refine k_pickT rfl rfl rfl rfl ?_
                exact k_met ⟨s31, ⟨(congrArg (fun b => some (Value.bool b)) (Option.some.inj hx17)), trivial⟩, ⟨rfl, rfl, rfl, rfl, rfl, rfl, rfl, rfl, trivial⟩, rfl, hE29⟩
              · -- t80 False
                have hx17 := itF hx17 c30
                refine k_no rfl rfl rfl rfl ?_
                refine k_pickF rfl rfl rfl rfl ?_
                exact k_met ⟨s28, ⟨(congrArg (fun b => some (Value.bool b)) (Option.some.inj hx17)), trivial⟩, ⟨rfl, rfl, rfl, rfl, rfl, rfl, rfl, rfl, trivial⟩, rfl, hE29⟩
            · -- behind
              rintro s32 wL ⟨rfl, hE29⟩
              have szs32 := hE29.size
              have hS : Step K0 s s32 := hS.trans0 hE29
              replace h23_0 := h23_0.up' hE29
              refine k_assign rfl rfl ?_
              refine k_nil ?_
              refine k_keep [(6, _)] ⟨rfl, trivial⟩ ?_
              refine k_ret ?_
              obtain rfl := Option.some.inj h
              refine ⟨_, rfl, Ret.mk hS ?_⟩
              exact rfl

set_option maxHeartbeats 1000000 in
set_option maxRecDepth 100000 in
theorem law02_long_w {s : St} {l0 : Lab} {v0 : Value} {a0 : (List Law02Item)} {r : Bool} (hp0 : SL s l0 v0 4 (a0.map dLaw02Item)) (h : law02_long a0 = some r) : Calls Try.prog 14 #[v0] s.w (Ret s K0 (fun s1 v => v = .bool r)) := by
  unfold law02_long at h
  obtain ⟨lf0, lf0le, lf0ne, hp0⟩ := hp0.fix
  have hS : Step K0 s s := (Step.refl _).of0 (by first | exact fun _ h => h | (intro c h; simp [KC, KO, KU] at h <;> omega))
  refine k_fn (rs := [2]) (args := [v0]) Try.func14 rfl rfl rfl rfl ?_
  refine k_seq ?_
  refine k_region ?_
  refine k_assign rfl rfl ?_
  refine k_nil ?_
  refine k_seq ?_
  refine k_region ?_
  refine k_assign rfl rfl ?_
  refine k_nil ?_
  refine k_seq ?_
  obtain ⟨kj1, hK1, h⟩ := jn_out h
  have hE1 : Step K0 s s := (Step.refl _).of0 (by first | exact fun _ h => h | (intro c h; simp [KC, KO, KU] at h <;> omega))
  refine k_cutc (X := St) [(2, .bool false)] (fun (xL : St) => match xL with | sl => []) (fun (xL : St) (wL : World) => match xL with | sl => sl.w = wL ∧ Step K0 s sl ∧ kj1 () = some r) ?_ ?_
  · -- the ways
    refine k_seq ?_
    refine k_region ?_
    refine k_assign rfl rfl ?_
    refine k_nil ?_
    refine k_block ?_
    refine k_loopc (X := St × Int × Int × Nat) [(0, _), (2, _)] (fun (xL : St × Int × Int × Nat) => match xL with | (sl, x2, x3, j) => [(3, .int .i64 x2), (4, .int .i64 x3)]) (fun (xL : St × Int × Int × Nat) (wL : World) => match xL with | (sl, x2, x3, j) => sl.w = wL ∧ Step K0 s sl ∧ law02_long_l1 a0 kj1 j x2 x3 = some r) (fun (xL : St × Int × Int × Nat) => match xL with | (sl, x2, x3, j) => j) (s, 0, 0, FU) ⟨rfl, rfl, trivial⟩ ⟨(by first | rfl | (simp <;> rfl)), (by first | rfl | (simp <;> rfl)), trivial⟩ ⟨rfl, (Step.refl _).of0 (by first | exact fun _ h => h | (intro c h; simp [KC, KO, KU] at h <;> omega)), h⟩ ?_
    rintro ⟨s3, x2, x3, j⟩ wL ⟨rfl, hE2, h⟩
    cases j with
    | zero => rw [law02_long_l1] at h; exact (noneNe h).elim
    | succ j =>
    rw [law02_long_l1] at h
    have szs3 := hE2.size
    have hS : Step K0 s s3 := hS.trans0 hE2
    have hE1 : Step K0 s s3 := hE1.trans0 hE2
    replace hp0 := hp0.up' hE2
    refine k_seq ?_
    refine k_seq ?_
    refine k_region ?_
    refine k_move rfl rfl ?_
    refine k_move rfl rfl ?_
    refine k_len Try.underlying32 rfl hp0.hasLen rfl ?_
    refine k_as (v := .int .i64 (a0.length : Int)) (by simp only [List.length_map]) ?_
    refine k_lss rfl rfl rfl ?_
    refine k_nil ?_
    refine k_keep [(0, _), (2, _), (3, _), (4, _), (8, _)] ⟨rfl, rfl, rfl, rfl, rfl, trivial⟩ ?_
    refine k_cond_dec rfl (fun c4 => ?_) (fun c4 => ?_)
    · -- T
      have h := itT h c4
      refine k_skip ?_
      refine k_seq ?_
      refine k_block ?_
      refine k_seq ?_
      refine k_region ?_
      refine k_move rfl rfl ?_
      refine k_move rfl rfl ?_
      refine k_move rfl rfl ?_
      obtain ⟨x4, hx4, h⟩ := ob h
      refine k_ixaddr Try.underlying32 size36 rfl rfl hp0 (geti_out hx4).1 (geti_map hx4) rfl ?_
      intro qx4 hqx4
      refine k_field_at (o := 0) rfl hqx4 (by rfl) fld36_3 rfl ?_
      intro q5 h5
      refine k_load_val one9 rfl h5 rfl ?_
      refine k_len_str Try.underlying9 rfl rfl ?_
      refine k_quo rfl rfl (by decide) rfl ?_
      refine k_add rfl rfl rfl ?_
      refine k_add rfl rfl rfl ?_
      refine k_assign rfl rfl ?_
      refine k_nil ?_
      refine k_keep [(0, _), (2, _), (3, _), (4, _)] ⟨rfl, rfl, rfl, rfl, trivial⟩ ?_
      refine k_seq ?_
      refine k_region ?_
      refine k_move rfl rfl ?_
      refine k_gtr rfl rfl rfl ?_
      refine k_nil ?_
      refine k_keep [(0, _), (2, _), (3, _), (4, _), (22, _)] ⟨rfl, rfl, rfl, rfl, rfl, trivial⟩ ?_
      refine k_cond_dec rfl (fun c6 => ?_) (fun c6 => ?_)
      · -- T
        have h := itT h c6
        refine k_seq ?_
        refine k_region ?_
        refine k_assign rfl rfl ?_
        refine k_nil ?_
        refine k_keep [(0, _), (2, _), (3, _), (4, _)] ⟨rfl, rfl, rfl, rfl, trivial⟩ ?_
        refine k_ret ?_
        obtain rfl := Option.some.inj h
        refine ⟨_, rfl, Ret.mk hS ?_⟩
        exact rfl
      · -- F
        have h := itF h c6
        refine k_skip ?_
        refine k_blk ?_
        refine k_region ?_
        refine k_move rfl rfl ?_
        refine k_add rfl rfl rfl ?_
        refine k_assign rfl rfl ?_
        refine k_nil ?_
        exact k_stop ⟨(s3, i64 (x2 + (i64 (1 + (i64 ((x4.S.length : Int).tdiv 16))))), i64 (x3 + 1), j), ⟨(by first | rfl | (simp <;> rfl)), (by first | rfl | (simp <;> rfl)), trivial⟩, ⟨rfl, rfl, trivial⟩, ⟨rfl, hE2, h⟩, (by simp)⟩
    · -- F
      have h := itF h c4
      refine k_exit rfl ?_
      exact k_stop ⟨s3, trivial, ⟨rfl, trivial⟩, ⟨rfl, hE1, h⟩⟩
  · -- behind
    rintro s7 wL ⟨rfl, hE1, h⟩
    rw [hK1] at h
    have szs7 := hE1.size
    have hS : Step K0 s s7 := hS.trans0 hE1
    refine k_seq ?_
    refine k_region ?_
    refine k_assign rfl rfl ?_
    refine k_nil ?_
    refine k_ret ?_
    obtain rfl := Option.some.inj h
    refine ⟨_, rfl, Ret.mk hS ?_⟩
    exact rfl

set_option maxHeartbeats 1000000 in
set_option maxRecDepth 100000 in
theorem law02_kind_w {s : St} {cs0 : List Value} {a0 : Law02Item} {r : Int} (hp0 : RC s cs0 (dLaw02Item a0)) (h : law02_kind a0 = some r) : Calls Try.prog 29 #[.agg cs0.toArray] s.w (Ret s K0 (fun s1 v => v = .int .i64 r)) := by
  unfold law02_kind at h
  obtain rfl := opnLaw02Item hp0
  have hS : Step K0 s s := (Step.refl _).of0 (by first | exact fun _ h => h | (intro c h; simp [KC, KO, KU] at h <;> omega))
  refine k_fn (rs := [2]) (args := [.agg #[.int .i64 a0.Kind, .int .i64 a0.Most, .int .u64 (a0.X.toNat : Int), S a0.S]]) Try.func29 rfl rfl rfl rfl ?_
  refine k_seq ?_
  refine k_region ?_
  refine k_box rfl rfl ?_
  intro s1 b1 st1 h1 ge1
  have szs1 := st1.size
  have hS : Step K0 s s1 := hS.trans0 st1
  have lt1 := h1.lt
  refine k_assign rfl rfl ?_
  refine k_nil ?_
  refine k_keep [(1, _), (2, _)] ⟨rfl, rfl, trivial⟩ ?_
  refine k_seq ?_
  refine k_region ?_
  refine k_field_addr fld36_0 rfl rfl ?_
  refine k_load_blk one3 rfl h1 rfl rfl ?_
  refine k_rem rfl rfl (by decide) rfl ?_
  refine k_add rfl rfl rfl ?_
  refine k_rem rfl rfl (by decide) rfl ?_
  refine k_assign rfl rfl ?_
  refine k_nil ?_
  refine k_keep [(2, _)] ⟨rfl, trivial⟩ ?_
  refine k_ret ?_
  obtain rfl := Option.some.inj h
  refine ⟨_, rfl, Ret.mk hS ?_⟩
  exact rfl

set_option maxHeartbeats 1000000 in
set_option maxRecDepth 100000 in
theorem law02_write_w {s : St} {k0 : Nat} {p0 : Value} {a0 : (List UInt8)} {cs1 : List Value} {a1 : Law02Item} {r : (List UInt8)} (ho0 : WrS s k0 p0 a0) (hp1 : RC s cs1 (dLaw02Item a1)) (h : law02_write a0 a1 = some r) : Calls Try.prog 15 #[p0, .agg cs1.toArray] s.w (Ret s (KO k0) (fun s1 v => v = .tuple #[] ∧ WrS s1 k0 p0 r)) := by
  unfold law02_write at h
  have le0 := ho0.le
  have ne0 := ho0.ne
  obtain rfl := opnLaw02Item hp1
  have hS : Step (KO k0) s s := (Step.refl _).of0 (by first | exact fun _ h => h | (intro c h; simp [KC, KO, KU] at h <;> omega))
  refine k_fn (rs := []) (args := [p0, .agg #[.int .i64 a1.Kind, .int .i64 a1.Most, .int .u64 (a1.X.toNat : Int), S a1.S]]) Try.func15 rfl rfl rfl rfl ?_
  refine k_seq ?_
  refine k_region ?_
  refine k_box rfl rfl ?_
  intro s1 b1 st1 h1 ge1
  have szs1 := st1.size
  have hS : Step (KO k0) s s1 := hS.trans0 st1
  replace ho0 := ho0.up' st1
  have lt1 := h1.lt
  refine k_nil ?_
  refine k_keep [(0, _), (3, _)] ⟨rfl, rfl, trivial⟩ ?_
  refine k_seq ?_
  refine k_region ?_
  refine k_load_blka (cs := [.int .i64 a1.Kind, .int .i64 a1.Most, .int .u64 (a1.X.toNat : Int), S a1.S]) agg36 rfl h1 rfl ?_
  obtain ⟨x1, hx1, h⟩ := ob h
  refine k_call cal29 rfl (law02_kind_w  (clsLaw02Item a1) hx1) rfl ?_
  rintro s2 vr2 st2 rfl
  have szs2 := st2.size
  have hS : Step (KO k0) s s2 := hS.trans0 st2
  replace ho0 := ho0.up' st2
  replace h1 := h1.up' st2
  refine k_nil ?_
  refine k_keep [(0, _), (3, _), (5, _)] ⟨rfl, rfl, rfl, trivial⟩ ?_
  refine k_block ?_
  refine k_seq ?_
  refine k_region ?_
  refine k_eql rfl rfl rfl ?_
  refine k_assign rfl rfl ?_
  refine k_nil ?_
  refine k_keep [(0, _), (3, _), (5, _), (6, _)] ⟨rfl, rfl, rfl, rfl, trivial⟩ ?_
  refine k_cond_dec rfl (fun c3 => ?_) (fun c3 => ?_)
  · -- T
    have h := itT h c3
    refine k_region ?_
    refine k_move rfl rfl ?_
    refine k_field_addr fld36_2 rfl rfl ?_
    refine k_load_blk one29 rfl h1 rfl rfl ?_
    refine k_conv (p := (a1.X.toNat : Int)) Try.underlying29 Try.underlying5 rfl rfl ?_
    refine k_as (congrArg (Value.int .u8) (w8 _)) ?_
    obtain ⟨x2, hx2, h⟩ := ob h
    refine k_call cal37 rfl (code_Writer_U8_w  ho0 hx2) rfl ?_
    rintro s4 vr4 st4 ⟨rfl, ho0⟩
    have szs4 := st4.size
    have hS : Step (KO k0) s s4 := hS.comp st4 (by intro l hl hk; simp only [KC, KO, KU, K0] at hk ⊢; omega)
    replace h1 := h1.up' st4
    refine k_nil ?_
    refine k_blk ?_
    refine k_end ?_
    obtain rfl := Option.some.inj h
    refine ⟨_, rfl, Ret.mk hS ?_⟩
    exact ⟨rfl, ho0⟩
  · -- F
    have h := itF h c3
    refine k_seq ?_
    refine k_region ?_
    refine k_eql rfl rfl rfl ?_
    refine k_assign rfl rfl ?_
    refine k_nil ?_
    refine k_keep [(0, _), (3, _), (5, _), (13, _)] ⟨rfl, rfl, rfl, rfl, trivial⟩ ?_
    refine k_cond_dec rfl (fun c5 => ?_) (fun c5 => ?_)
    · -- T
      have h := itT h c5
      refine k_region ?_
      refine k_move rfl rfl ?_
      refine k_field_addr fld36_2 rfl rfl ?_
      refine k_load_blk one29 rfl h1 rfl rfl ?_
      refine k_conv (p := (a1.X.toNat : Int)) Try.underlying29 Try.underlying58 rfl rfl ?_
      refine k_as (congrArg (Value.int .u32) (w32 _)) ?_
      obtain ⟨x3, hx3, h⟩ := ob h
      refine k_call cal30 rfl (code_Writer_U32_w  ho0 hx3) rfl ?_
      rintro s6 vr6 st6 ⟨rfl, ho0⟩
      have szs6 := st6.size
      have hS : Step (KO k0) s s6 := hS.comp st6 (by intro l hl hk; simp only [KC, KO, KU, K0] at hk ⊢; omega)
      replace h1 := h1.up' st6
      refine k_nil ?_
      refine k_blk ?_
      refine k_end ?_
      obtain rfl := Option.some.inj h
      refine ⟨_, rfl, Ret.mk hS ?_⟩
      exact ⟨rfl, ho0⟩
    · -- F
      have h := itF h c5
      refine k_seq ?_
      refine k_region ?_
      refine k_eql rfl rfl rfl ?_
      refine k_assign rfl rfl ?_
      refine k_nil ?_
      refine k_keep [(0, _), (3, _), (5, _), (20, _)] ⟨rfl, rfl, rfl, rfl, trivial⟩ ?_
      refine k_cond_dec rfl (fun c7 => ?_) (fun c7 => ?_)
      · -- T
        have h := itT h c7
        refine k_region ?_
        refine k_move rfl rfl ?_
        refine k_field_addr fld36_2 rfl rfl ?_
        refine k_load_blk one29 rfl h1 rfl rfl ?_
        obtain ⟨x4, hx4, h⟩ := ob h
        refine k_call cal19 rfl (code_Writer_Uint_w  ho0 hx4) rfl ?_
        rintro s8 vr8 st8 ⟨rfl, ho0⟩
        have szs8 := st8.size
        have hS : Step (KO k0) s s8 := hS.comp st8 (by intro l hl hk; simp only [KC, KO, KU, K0] at hk ⊢; omega)
        replace h1 := h1.up' st8
        refine k_nil ?_
        refine k_blk ?_
        refine k_end ?_
        obtain rfl := Option.some.inj h
        refine ⟨_, rfl, Ret.mk hS ?_⟩
        exact ⟨rfl, ho0⟩
      · -- F
        have h := itF h c7
        refine k_seq ?_
        refine k_region ?_
        refine k_eql rfl rfl rfl ?_
        refine k_assign rfl rfl ?_
        refine k_nil ?_
        refine k_keep [(0, _), (3, _), (5, _), (26, _)] ⟨rfl, rfl, rfl, rfl, trivial⟩ ?_
        refine k_cond_dec rfl (fun c9 => ?_) (fun c9 => ?_)
        · -- T
          have h := itT h c9
          refine k_region ?_
          refine k_move rfl rfl ?_
          refine k_field_addr fld36_3 rfl rfl ?_
          refine k_load_blk one9 rfl h1 rfl rfl ?_
          obtain ⟨x5, hx5, h⟩ := ob h
          refine k_call cal31 rfl (code_Writer_Text_w  ho0 hx5) rfl ?_
          rintro s10 vr10 st10 ⟨rfl, ho0⟩
          have szs10 := st10.size
          have hS : Step (KO k0) s s10 := hS.comp st10 (by intro l hl hk; simp only [KC, KO, KU, K0] at hk ⊢; omega)
          replace h1 := h1.up' st10
          refine k_nil ?_
          refine k_blk ?_
          refine k_end ?_
          obtain rfl := Option.some.inj h
          refine ⟨_, rfl, Ret.mk hS ?_⟩
          exact ⟨rfl, ho0⟩
        · -- F
          have h := itF h c9
          refine k_seq ?_
          refine k_region ?_
          refine k_eql rfl rfl rfl ?_
          refine k_assign rfl rfl ?_
          refine k_nil ?_
          refine k_keep [(0, _), (3, _), (32, _)] ⟨rfl, rfl, rfl, trivial⟩ ?_
          refine k_cond_dec rfl (fun c11 => ?_) (fun c11 => ?_)
          · -- T
            have h := itT h c11
            refine k_region ?_
            refine k_move rfl rfl ?_
            refine k_field_addr fld36_3 rfl rfl ?_
            refine k_load_blk one9 rfl h1 rfl rfl ?_
            refine k_stb Try.underlying9 Try.underlying27 Try.underlying5 rfl rfl ?_
            intro s12 v12 st12 h12
            have szs12 := st12.size
            have hS : Step (KO k0) s s12 := hS.trans0 st12
            replace ho0 := ho0.up' st12
            replace h1 := h1.up' st12
            obtain ⟨x6, hx6, h⟩ := ob h
            refine k_call cal34 rfl (code_Writer_Raw_w  ho0 (SL.of_R h12) hx6) rfl ?_
            rintro s13 vr13 st13 ⟨rfl, ho0⟩
            have szs13 := st13.size
            have hS : Step (KO k0) s s13 := hS.comp st13 (by intro l hl hk; simp only [KC, KO, KU, K0] at hk ⊢; omega)
            replace h12 := h12.up' st13
            replace h1 := h1.up' st13
            refine k_nil ?_
            refine k_blk ?_
            refine k_end ?_
            obtain rfl := Option.some.inj h
            refine ⟨_, rfl, Ret.mk hS ?_⟩
            exact ⟨rfl, ho0⟩
          · -- F
            have h := itF h c11
            refine k_skip ?_
            refine k_blk ?_
            refine k_end ?_
            obtain rfl := Option.some.inj h
            refine ⟨_, rfl, Ret.mk hS ?_⟩
            exact ⟨rfl, ho0⟩

set_option maxHeartbeats 1000000 in
set_option maxRecDepth 100000 in
theorem code_Writer_Raw_nil_w {s : St} {l1 : Lab} {v1 : Value} {a1 : (List UInt8)} {r : Unit} (hp1 : SL s l1 v1 1 (a1.map bD)) (h : code_Writer_Raw_nil a1 = some r) : Calls Try.prog 34 #[.pointer none, v1] s.w (Ret s K0 (fun s1 v => v = .tuple #[])) := by
  unfold code_Writer_Raw_nil at h
  obtain ⟨lf1, lf1le, lf1ne, hp1⟩ := hp1.fix
  have hS : Step K0 s s := (Step.refl _).of0 (by first | exact fun _ h => h | (intro c h; simp [KC, KO, KU] at h <;> omega))
  refine k_fn (rs := []) (args := [.pointer none, v1]) Try.func34 rfl rfl rfl rfl ?_
  refine k_seq ?_
  refine k_region ?_
  refine k_move rfl rfl ?_
  refine k_neq_pnil Try.underlying24 rfl rfl rfl ?_
  refine k_nil ?_
  refine k_keep [(0, _), (1, _), (5, _)] ⟨rfl, rfl, rfl, trivial⟩ ?_
  refine k_cond_false rfl ?_
  refine k_skip ?_
  refine k_end ?_
  obtain rfl := Option.some.inj h
  refine ⟨_, rfl, Ret.mk hS ?_⟩
  exact rfl

set_option maxHeartbeats 1000000 in
set_option maxRecDepth 100000 in
theorem code_Writer_U8_nil_w {s : St} {a1 : UInt8} {r : Unit}  (h : code_Writer_U8_nil a1 = some r) : Calls Try.prog 37 #[.pointer none, .int .u8 (a1.toNat : Int)] s.w (Ret s K0 (fun s1 v => v = .tuple #[])) := by
  unfold code_Writer_U8_nil at h
  have hS : Step K0 s s := (Step.refl _).of0 (by first | exact fun _ h => h | (intro c h; simp [KC, KO, KU] at h <;> omega))
  refine k_fn (rs := []) (args := [.pointer none, .int .u8 (a1.toNat : Int)]) Try.func37 rfl rfl rfl rfl ?_
  refine k_region ?_
  refine k_move rfl rfl ?_
  refine k_move rfl rfl ?_
  refine k_bslice_own (ds := ([a1] : List UInt8).map bD) slc27 rfl (RVs.cons (R.val rfl) RVs.nil) (by rfl) (by rfl) rfl rfl ?_
  intro s1 v1 b1 st1 ge1 h1
  have szs1 := st1.size
  have hS : Step K0 s s1 := hS.trans0 st1
  have lt1 := Own.le1 h1
  obtain ⟨x1, hx1, h⟩ := ob h
  refine k_call cal34 rfl (code_Writer_Raw_nil_w  (h1.sl) hx1) rfl ?_
  rintro s2 vr2 st2 rfl
  have szs2 := st2.size
  have hS : Step K0 s s2 := hS.trans0 st2
  replace h1 := h1.up' st2
  refine k_nil ?_
  refine k_end ?_
  obtain rfl := Option.some.inj h
  refine ⟨_, rfl, Ret.mk hS ?_⟩
  exact rfl

set_option maxHeartbeats 1000000 in
set_option maxRecDepth 100000 in
theorem code_Writer_U32_nil_w {s : St} {a1 : UInt32} {r : Unit}  (h : code_Writer_U32_nil a1 = some r) : Calls Try.prog 30 #[.pointer none, .int .u32 (a1.toNat : Int)] s.w (Ret s K0 (fun s1 v => v = .tuple #[])) := by
  unfold code_Writer_U32_nil at h
  have hS : Step K0 s s := (Step.refl _).of0 (by first | exact fun _ h => h | (intro c h; simp [KC, KO, KU] at h <;> omega))
  refine k_fn (rs := []) (args := [.pointer none, .int .u32 (a1.toNat : Int)]) Try.func30 rfl rfl rfl rfl ?_
  refine k_region ?_
  refine k_move rfl rfl ?_
  refine k_move rfl rfl ?_
  refine k_shr (p := (a1.toNat : Int)) rfl rfl (by decide) rfl ?_
  refine k_as (congrArg (Value.int .u32) (shr32_eq _ _)) ?_
  refine k_conv (p := ((shr32 a1 24).toNat : Int)) Try.underlying58 Try.underlying5 rfl rfl ?_
  refine k_as (congrArg (Value.int .u8) (w8 _)) ?_
  refine k_move rfl rfl ?_
  refine k_shr (p := (a1.toNat : Int)) rfl rfl (by decide) rfl ?_
  refine k_as (congrArg (Value.int .u32) (shr32_eq _ _)) ?_
  refine k_conv (p := ((shr32 a1 16).toNat : Int)) Try.underlying58 Try.underlying5 rfl rfl ?_
  refine k_as (congrArg (Value.int .u8) (w8 _)) ?_
  refine k_move rfl rfl ?_
  refine k_shr (p := (a1.toNat : Int)) rfl rfl (by decide) rfl ?_
  refine k_as (congrArg (Value.int .u32) (shr32_eq _ _)) ?_
  refine k_conv (p := ((shr32 a1 8).toNat : Int)) Try.underlying58 Try.underlying5 rfl rfl ?_
  refine k_as (congrArg (Value.int .u8) (w8 _)) ?_
  refine k_move rfl rfl ?_
  refine k_conv (p := (a1.toNat : Int)) Try.underlying58 Try.underlying5 rfl rfl ?_
  refine k_as (congrArg (Value.int .u8) (w8 _)) ?_
  refine k_bslice_own (ds := ([ofI8 ((shr32 a1 24).toNat : Int), ofI8 ((shr32 a1 16).toNat : Int), ofI8 ((shr32 a1 8).toNat : Int), ofI8 (a1.toNat : Int)] : List UInt8).map bD) slc27 rfl (RVs.cons (R.val rfl) (RVs.cons (R.val rfl) (RVs.cons (R.val rfl) (RVs.cons (R.val rfl) RVs.nil)))) (by rfl) (by rfl) rfl rfl ?_
  intro s1 v1 b1 st1 ge1 h1
  have szs1 := st1.size
  have hS : Step K0 s s1 := hS.trans0 st1
  have lt1 := Own.le1 h1
  obtain ⟨x1, hx1, h⟩ := ob h
  refine k_call cal34 rfl (code_Writer_Raw_nil_w  (h1.sl) hx1) rfl ?_
  rintro s2 vr2 st2 rfl
  have szs2 := st2.size
  have hS : Step K0 s s2 := hS.trans0 st2
  replace h1 := h1.up' st2
  refine k_nil ?_
  refine k_end ?_
  obtain rfl := Option.some.inj h
  refine ⟨_, rfl, Ret.mk hS ?_⟩
  exact rfl

set_option maxHeartbeats 1000000 in
set_option maxRecDepth 100000 in
theorem code_Writer_Put_nil_w {s : St} {l1 : Lab} {v1 : Value} {a1 : (List UInt64)} {r : Unit} (hp1 : SL s l1 v1 1 (a1.map dU64)) (h : code_Writer_Put_nil a1 = some r) : Calls Try.prog 11 #[.pointer none, v1] s.w (Ret s K0 (fun s1 v => v = .tuple #[])) := by
  unfold code_Writer_Put_nil at h
  obtain ⟨lf1, lf1le, lf1ne, hp1⟩ := hp1.fix
  have hS : Step K0 s s := (Step.refl _).of0 (by first | exact fun _ h => h | (intro c h; simp [KC, KO, KU] at h <;> omega))
  refine k_fn (rs := []) (args := [.pointer none, v1]) Try.func11 rfl rfl rfl rfl ?_
  refine k_seq ?_
  refine k_region ?_
  refine k_move rfl rfl ?_
  refine k_len Try.underlying22 rfl hp1.hasLen rfl ?_
  refine k_as (v := .int .i64 (a1.length : Int)) (by simp only [List.length_map]) ?_
  refine k_move rfl rfl ?_
  refine k_nil ?_
  refine k_keep [(0, _), (6, _), (7, _), (8, _)] ⟨rfl, rfl, rfl, rfl, trivial⟩ ?_
  refine k_block ?_
  refine k_loopc (X := St × Int × Nat) [(0, _), (6, _), (7, _)] (fun (xL : St × Int × Nat) => match xL with | (sl, x1, j) => [(8, .int .i64 x1)]) (fun (xL : St × Int × Nat) (wL : World) => match xL with | (sl, x1, j) => sl.w = wL ∧ Step K0 s sl ∧ code_Writer_Put_nil_l1 a1 j x1 = some r) (fun (xL : St × Int × Nat) => match xL with | (sl, x1, j) => j) (s, 0, FU) ⟨rfl, rfl, rfl, trivial⟩ ⟨(by first | rfl | (simp <;> rfl)), trivial⟩ ⟨rfl, (Step.refl _).of0 (by first | exact fun _ h => h | (intro c h; simp [KC, KO, KU] at h <;> omega)), h⟩ ?_
  rintro ⟨s2, x1, j⟩ wL ⟨rfl, hE1, h⟩
  cases j with
  | zero => rw [code_Writer_Put_nil_l1] at h; exact (noneNe h).elim
  | succ j =>
  rw [code_Writer_Put_nil_l1] at h
  have szs2 := hE1.size
  have hS : Step K0 s s2 := hS.trans0 hE1
  replace hp1 := hp1.up' hE1
  refine k_seq ?_
  refine k_region ?_
  refine k_lss rfl rfl rfl ?_
  refine k_nil ?_
  refine k_seq ?_
  refine k_cond_dec rfl (fun c3 => ?_) (fun c3 => ?_)
  · -- T
    have h := itT h c3
    refine k_skip ?_
    refine k_seq ?_
    refine k_block ?_
    refine k_seq ?_
    refine k_region ?_
    obtain ⟨x2, hx2, h⟩ := ob h
    refine k_ixaddr Try.underlying22 size29 rfl rfl hp1 (geti_out hx2).1 (geti_map hx2) rfl ?_
    intro qx2 hqx2
    refine k_load_val one29 rfl hqx2 rfl ?_
    refine k_assign rfl rfl ?_
    refine k_nil ?_
    refine k_keep [(0, _), (5, _), (6, _), (7, _), (8, _)] ⟨rfl, rfl, rfl, rfl, rfl, trivial⟩ ?_
    refine k_region ?_
    refine k_move rfl rfl ?_
    refine k_move rfl rfl ?_
    obtain ⟨x3, hx3, h⟩ := ob h
    refine k_call cal35 rfl (code_laid_w   hx3) rfl ?_
    rintro s4 v4_0 st4 ⟨_, rfl, h4_0⟩
    have szs4 := st4.size
    have hS : Step K0 s s4 := hS.trans0 st4
    have hE1 : Step K0 s s4 := hE1.trans0 st4
    replace hp1 := hp1.up' st4
    obtain ⟨x4, hx4, h⟩ := ob h
    refine k_call cal34 rfl (code_Writer_Raw_nil_w  (SL.of_R h4_0) hx4) rfl ?_
    rintro s5 vr5 st5 rfl
    have szs5 := st5.size
    have hS : Step K0 s s5 := hS.trans0 st5
    have hE1 : Step K0 s s5 := hE1.trans0 st5
    replace hp1 := hp1.up' st5
    replace h4_0 := h4_0.up' st5
    refine k_nil ?_
    refine k_blk ?_
    refine k_region ?_
    refine k_add rfl rfl rfl ?_
    refine k_move rfl rfl ?_
    refine k_nil ?_
    exact k_stop ⟨(s5, i64 (x1 + 1), j), ⟨(by first | rfl | (simp <;> rfl)), trivial⟩, ⟨rfl, rfl, rfl, trivial⟩, ⟨rfl, hE1, h⟩, (by simp)⟩
  · -- F
    have h := itF h c3
    refine k_exit rfl ?_
    refine k_end ?_
    obtain rfl := Option.some.inj h
    refine ⟨_, rfl, Ret.mk hS ?_⟩
    exact rfl

set_option maxHeartbeats 1000000 in
set_option maxRecDepth 100000 in
theorem code_Writer_Uint_nil_w {s : St} {a1 : UInt64} {r : Unit}  (h : code_Writer_Uint_nil a1 = some r) : Calls Try.prog 19 #[.pointer none, .int .u64 (a1.toNat : Int)] s.w (Ret s K0 (fun s1 v => v = .tuple #[])) := by
  unfold code_Writer_Uint_nil at h
  have hS : Step K0 s s := (Step.refl _).of0 (by first | exact fun _ h => h | (intro c h; simp [KC, KO, KU] at h <;> omega))
  refine k_fn (rs := []) (args := [.pointer none, .int .u64 (a1.toNat : Int)]) Try.func19 rfl rfl rfl rfl ?_
  refine k_region ?_
  refine k_move rfl rfl ?_
  refine k_move rfl rfl ?_
  refine k_bslice_own (ds := ([a1] : List UInt64).map dU64) slc22 rfl (RVs.cons (R.val rfl) RVs.nil) (by rfl) (by rfl) rfl rfl ?_
  intro s1 v1 b1 st1 ge1 h1
  have szs1 := st1.size
  have hS : Step K0 s s1 := hS.trans0 st1
  have lt1 := Own.le1 h1
  obtain ⟨x1, hx1, h⟩ := ob h
  refine k_call cal11 rfl (code_Writer_Put_nil_w  (h1.sl) hx1) rfl ?_
  rintro s2 vr2 st2 rfl
  have szs2 := st2.size
  have hS : Step K0 s s2 := hS.trans0 st2
  replace h1 := h1.up' st2
  refine k_nil ?_
  refine k_end ?_
  obtain rfl := Option.some.inj h
  refine ⟨_, rfl, Ret.mk hS ?_⟩
  exact rfl

set_option maxHeartbeats 1000000 in
set_option maxRecDepth 100000 in
theorem code_Writer_Text_nil_w {s : St} {a1 : (List UInt8)} {r : Unit}  (h : code_Writer_Text_nil a1 = some r) : Calls Try.prog 31 #[.pointer none, S a1] s.w (Ret s K0 (fun s1 v => v = .tuple #[])) := by
  unfold code_Writer_Text_nil at h
  have hS : Step K0 s s := (Step.refl _).of0 (by first | exact fun _ h => h | (intro c h; simp [KC, KO, KU] at h <;> omega))
  refine k_fn (rs := []) (args := [.pointer none, S a1]) Try.func31 rfl rfl rfl rfl ?_
  refine k_seq ?_
  refine k_region ?_
  refine k_move rfl rfl ?_
  refine k_move rfl rfl ?_
  refine k_len_str Try.underlying9 rfl rfl ?_
  refine k_conv (p := (a1.length : Int)) Try.underlying3 Try.underlying29 rfl rfl ?_
  refine k_as (congrArg (Value.int .u64) (w64 _)) ?_
  refine k_bslice_own (ds := ([ofI64 (a1.length : Int)] : List UInt64).map dU64) slc22 rfl (RVs.cons (R.val rfl) RVs.nil) (by rfl) (by rfl) rfl rfl ?_
  intro s1 v1 b1 st1 ge1 h1
  have szs1 := st1.size
  have hS : Step K0 s s1 := hS.trans0 st1
  have lt1 := Own.le1 h1
  obtain ⟨x1, hx1, h⟩ := ob h
  refine k_call cal11 rfl (code_Writer_Put_nil_w  (h1.sl) hx1) rfl ?_
  rintro s2 vr2 st2 rfl
  have szs2 := st2.size
  have hS : Step K0 s s2 := hS.trans0 st2
  replace h1 := h1.up' st2
  refine k_nil ?_
  refine k_keep [(0, _), (1, _)] ⟨rfl, rfl, trivial⟩ ?_
  refine k_region ?_
  refine k_move rfl rfl ?_
  refine k_move rfl rfl ?_
  refine k_stb Try.underlying9 Try.underlying27 Try.underlying5 rfl rfl ?_
  intro s3 v3 st3 h3
  have szs3 := st3.size
  have hS : Step K0 s s3 := hS.trans0 st3
  obtain ⟨x2, hx2, h⟩ := ob h
  refine k_call cal34 rfl (code_Writer_Raw_nil_w  (SL.of_R h3) hx2) rfl ?_
  rintro s4 vr4 st4 rfl
  have szs4 := st4.size
  have hS : Step K0 s s4 := hS.trans0 st4
  replace h3 := h3.up' st4
  refine k_nil ?_
  refine k_end ?_
  obtain rfl := Option.some.inj h
  refine ⟨_, rfl, Ret.mk hS ?_⟩
  exact rfl

set_option maxHeartbeats 1000000 in
set_option maxRecDepth 100000 in
theorem law02_write_nil_w {s : St} {cs1 : List Value} {a1 : Law02Item} {r : Unit} (hp1 : RC s cs1 (dLaw02Item a1)) (h : law02_write_nil a1 = some r) : Calls Try.prog 15 #[.pointer none, .agg cs1.toArray] s.w (Ret s K0 (fun s1 v => v = .tuple #[])) := by
  unfold law02_write_nil at h
  obtain rfl := opnLaw02Item hp1
  have hS : Step K0 s s := (Step.refl _).of0 (by first | exact fun _ h => h | (intro c h; simp [KC, KO, KU] at h <;> omega))
  refine k_fn (rs := []) (args := [.pointer none, .agg #[.int .i64 a1.Kind, .int .i64 a1.Most, .int .u64 (a1.X.toNat : Int), S a1.S]]) Try.func15 rfl rfl rfl rfl ?_
  refine k_seq ?_
  refine k_region ?_
  refine k_box rfl rfl ?_
  intro s1 b1 st1 h1 ge1
  have szs1 := st1.size
  have hS : Step K0 s s1 := hS.trans0 st1
  have lt1 := h1.lt
  refine k_nil ?_
  refine k_keep [(0, _), (3, _)] ⟨rfl, rfl, trivial⟩ ?_
  refine k_seq ?_
  refine k_region ?_
  refine k_load_blka (cs := [.int .i64 a1.Kind, .int .i64 a1.Most, .int .u64 (a1.X.toNat : Int), S a1.S]) agg36 rfl h1 rfl ?_
  obtain ⟨x1, hx1, h⟩ := ob h
  refine k_call cal29 rfl (law02_kind_w  (clsLaw02Item a1) hx1) rfl ?_
  rintro s2 vr2 st2 rfl
  have szs2 := st2.size
  have hS : Step K0 s s2 := hS.trans0 st2
  replace h1 := h1.up' st2
  refine k_nil ?_
  refine k_keep [(0, _), (3, _), (5, _)] ⟨rfl, rfl, rfl, trivial⟩ ?_
  refine k_block ?_
  refine k_seq ?_
  refine k_region ?_
  refine k_eql rfl rfl rfl ?_
  refine k_assign rfl rfl ?_
  refine k_nil ?_
  refine k_keep [(0, _), (3, _), (5, _), (6, _)] ⟨rfl, rfl, rfl, rfl, trivial⟩ ?_
  refine k_cond_dec rfl (fun c3 => ?_) (fun c3 => ?_)
  · -- T
    have h := itT h c3
    refine k_region ?_
    refine k_move rfl rfl ?_
    refine k_field_addr fld36_2 rfl rfl ?_
    refine k_load_blk one29 rfl h1 rfl rfl ?_
    refine k_conv (p := (a1.X.toNat : Int)) Try.underlying29 Try.underlying5 rfl rfl ?_
    refine k_as (congrArg (Value.int .u8) (w8 _)) ?_
    obtain ⟨x2, hx2, h⟩ := ob h
    refine k_call cal37 rfl (code_Writer_U8_nil_w   hx2) rfl ?_
    rintro s4 vr4 st4 rfl
    have szs4 := st4.size
    have hS : Step K0 s s4 := hS.trans0 st4
    replace h1 := h1.up' st4
    refine k_nil ?_
    refine k_blk ?_
    refine k_end ?_
    obtain rfl := Option.some.inj h
    refine ⟨_, rfl, Ret.mk hS ?_⟩
    exact rfl
  · -- F
    have h := itF h c3
    refine k_seq ?_
    refine k_region ?_
    refine k_eql rfl rfl rfl ?_
    refine k_assign rfl rfl ?_
    refine k_nil ?_
    refine k_keep [(0, _), (3, _), (5, _), (13, _)] ⟨rfl, rfl, rfl, rfl, trivial⟩ ?_
    refine k_cond_dec rfl (fun c5 => ?_) (fun c5 => ?_)
    · -- T
      have h := itT h c5
      refine k_region ?_
      refine k_move rfl rfl ?_
      refine k_field_addr fld36_2 rfl rfl ?_
      refine k_load_blk one29 rfl h1 rfl rfl ?_
      refine k_conv (p := (a1.X.toNat : Int)) Try.underlying29 Try.underlying58 rfl rfl ?_
      refine k_as (congrArg (Value.int .u32) (w32 _)) ?_
      obtain ⟨x3, hx3, h⟩ := ob h
      refine k_call cal30 rfl (code_Writer_U32_nil_w   hx3) rfl ?_
      rintro s6 vr6 st6 rfl
      have szs6 := st6.size
      have hS : Step K0 s s6 := hS.trans0 st6
      replace h1 := h1.up' st6
      refine k_nil ?_
      refine k_blk ?_
      refine k_end ?_
      obtain rfl := Option.some.inj h
      refine ⟨_, rfl, Ret.mk hS ?_⟩
      exact rfl
    · -- F
      have h := itF h c5
      refine k_seq ?_
      refine k_region ?_
      refine k_eql rfl rfl rfl ?_
      refine k_assign rfl rfl ?_
      refine k_nil ?_
      refine k_keep [(0, _), (3, _), (5, _), (20, _)] ⟨rfl, rfl, rfl, rfl, trivial⟩ ?_
      refine k_cond_dec rfl (fun c7 => ?_) (fun c7 => ?_)
      · -- T
        have h := itT h c7
        refine k_region ?_
        refine k_move rfl rfl ?_
        refine k_field_addr fld36_2 rfl rfl ?_
        refine k_load_blk one29 rfl h1 rfl rfl ?_
        obtain ⟨x4, hx4, h⟩ := ob h
        refine k_call cal19 rfl (code_Writer_Uint_nil_w   hx4) rfl ?_
        rintro s8 vr8 st8 rfl
        have szs8 := st8.size
        have hS : Step K0 s s8 := hS.trans0 st8
        replace h1 := h1.up' st8
        refine k_nil ?_
        refine k_blk ?_
        refine k_end ?_
        obtain rfl := Option.some.inj h
        refine ⟨_, rfl, Ret.mk hS ?_⟩
        exact rfl
      · -- F
        have h := itF h c7
        refine k_seq ?_
        refine k_region ?_
        refine k_eql rfl rfl rfl ?_
        refine k_assign rfl rfl ?_
        refine k_nil ?_
        refine k_keep [(0, _), (3, _), (5, _), (26, _)] ⟨rfl, rfl, rfl, rfl, trivial⟩ ?_
        refine k_cond_dec rfl (fun c9 => ?_) (fun c9 => ?_)
        · -- T
          have h := itT h c9
          refine k_region ?_
          refine k_move rfl rfl ?_
          refine k_field_addr fld36_3 rfl rfl ?_
          refine k_load_blk one9 rfl h1 rfl rfl ?_
          obtain ⟨x5, hx5, h⟩ := ob h
          refine k_call cal31 rfl (code_Writer_Text_nil_w   hx5) rfl ?_
          rintro s10 vr10 st10 rfl
          have szs10 := st10.size
          have hS : Step K0 s s10 := hS.trans0 st10
          replace h1 := h1.up' st10
          refine k_nil ?_
          refine k_blk ?_
          refine k_end ?_
          obtain rfl := Option.some.inj h
          refine ⟨_, rfl, Ret.mk hS ?_⟩
          exact rfl
        · -- F
          have h := itF h c9
          refine k_seq ?_
          refine k_region ?_
          refine k_eql rfl rfl rfl ?_
          refine k_assign rfl rfl ?_
          refine k_nil ?_
          refine k_keep [(0, _), (3, _), (32, _)] ⟨rfl, rfl, rfl, trivial⟩ ?_
          refine k_cond_dec rfl (fun c11 => ?_) (fun c11 => ?_)
          · -- T
            have h := itT h c11
            refine k_region ?_
            refine k_move rfl rfl ?_
            refine k_field_addr fld36_3 rfl rfl ?_
            refine k_load_blk one9 rfl h1 rfl rfl ?_
            refine k_stb Try.underlying9 Try.underlying27 Try.underlying5 rfl rfl ?_
            intro s12 v12 st12 h12
            have szs12 := st12.size
            have hS : Step K0 s s12 := hS.trans0 st12
            replace h1 := h1.up' st12
            obtain ⟨x6, hx6, h⟩ := ob h
            refine k_call cal34 rfl (code_Writer_Raw_nil_w  (SL.of_R h12) hx6) rfl ?_
            rintro s13 vr13 st13 rfl
            have szs13 := st13.size
            have hS : Step K0 s s13 := hS.trans0 st13
            replace h12 := h12.up' st13
            replace h1 := h1.up' st13
            refine k_nil ?_
            refine k_blk ?_
            refine k_end ?_
            obtain rfl := Option.some.inj h
            refine ⟨_, rfl, Ret.mk hS ?_⟩
            exact rfl
          · -- F
            have h := itF h c11
            refine k_skip ?_
            refine k_blk ?_
            refine k_end ?_
            obtain rfl := Option.some.inj h
            refine ⟨_, rfl, Ret.mk hS ?_⟩
            exact rfl

set_option maxHeartbeats 1000000 in
set_option maxRecDepth 100000 in
theorem ref02_whole_w {s : St} {a0 : UInt64} {a1 : Int} {r : (List UInt8)}  (h : ref02_whole a0 a1 = some r) : Calls Try.prog 41 #[.int .u64 (a0.toNat : Int), .int .i64 a1] s.w (Ret s K0 (fun s1 v => ∃ (u0 : Value), v = u0 ∧ R s1 u0 (.sl 1 (r.map bD)))) := by
  unfold ref02_whole at h
  have hS : Step K0 s s := (Step.refl _).of0 (by first | exact fun _ h => h | (intro c h; simp [KC, KO, KU] at h <;> omega))
  refine k_fn (rs := [4]) (args := [.int .u64 (a0.toNat : Int), .int .i64 a1]) Try.func41 rfl rfl rfl rfl ?_
  refine k_seq ?_
  refine k_region ?_
  refine k_assign rfl rfl ?_
  refine k_nil ?_
  refine k_seq ?_
  refine k_region ?_
  refine k_move rfl rfl ?_
  obtain ⟨x1, hx1, h⟩ := ob h
  refine k_makeI (dz := bD (0 : UInt8)) (p := a1) elem27 rfl rfl (makel_out hx1).1 (RC.val _ rfl) rfl (by have := (makel_out hx1).2.1; omega) (by have := (makel_out hx1).2.1; omega) rfl ?_
  intro s1 v1 b1 st1 ge1 h1
  rw [← List.map_replicate, ← (makel_out hx1).2.2] at h1
  have szs1 := st1.size
  have hS : Step K0 s s1 := hS.trans0 st1
  have lt1 := Own.le1 h1
  refine k_assign rfl rfl ?_
  refine k_nil ?_
  refine k_keep [(0, _), (1, _), (4, _), (5, _)] ⟨rfl, rfl, rfl, rfl, trivial⟩ ?_
  refine k_seq ?_
  obtain ⟨kj2, hK2, h⟩ := jn_out h
  have hE2 : Step (KC (b1 + 1) 0) s1 s1 := (Step.refl _).of0 (by first | exact fun _ h => h | (intro c h; simp [KC, KO, KU] at h <;> omega))
  refine k_cutc (X := St × (List UInt8)) [(4, .slice none 0 0), (5, v1)] (fun (xL : St × (List UInt8)) => match xL with | (sl, x3) => []) (fun (xL : St × (List UInt8)) (wL : World) => match xL with | (sl, x3) => sl.w = wL ∧ Step (KC (b1 + 1) 0) s1 sl ∧ (Own sl ⟨b1 + 1, 0⟩ 5 1 v1 (x3.map bD)) ∧ kj2 x3 = some r) ?_ ?_
  · -- the ways
    refine k_seq ?_
    refine k_region ?_
    refine k_move rfl rfl ?_
    refine k_sub_ rfl rfl rfl ?_
    refine k_assign rfl rfl ?_
    refine k_nil ?_
    refine k_keep [(0, _), (4, _), (5, _), (6, _)] ⟨rfl, rfl, rfl, rfl, trivial⟩ ?_
    refine k_block ?_
    refine k_loopc (X := St × UInt64 × Int × (List UInt8) × Nat) [(4, _), (5, _)] (fun (xL : St × UInt64 × Int × (List UInt8) × Nat) => match xL with | (sl, x4, x5, x6, j) => [(0, .int .u64 (x4.toNat : Int)), (6, .int .i64 x5)]) (fun (xL : St × UInt64 × Int × (List UInt8) × Nat) (wL : World) => match xL with | (sl, x4, x5, x6, j) => sl.w = wL ∧ Step (KC (b1 + 1) 0) s1 sl ∧ (Own sl ⟨b1 + 1, 0⟩ 5 1 v1 (x6.map bD)) ∧ ref02_whole_l1 kj2 j x4 x5 x6 = some r) (fun (xL : St × UInt64 × Int × (List UInt8) × Nat) => match xL with | (sl, x4, x5, x6, j) => j) (s1, a0, i64 (a1 - 1), x1, FU) ⟨rfl, rfl, trivial⟩ ⟨(by first | rfl | (simp <;> rfl)), (by first | rfl | (simp <;> rfl)), trivial⟩ ⟨rfl, (Step.refl _).of0 (by first | exact fun _ h => h | (intro c h; simp [KC, KO, KU] at h <;> omega)), h1, h⟩ ?_
    rintro ⟨s4, x4, x5, x6, j⟩ wL ⟨rfl, hE3, h1, h⟩
    cases j with
    | zero => rw [ref02_whole_l1] at h; exact (noneNe h).elim
    | succ j =>
    rw [ref02_whole_l1] at h
    have szs4 := hE3.size
    have hS : Step K0 s s4 := hS.comp hE3 (by intro l hl hk; simp only [KC, KO, KU, K0] at hk ⊢; omega)
    have hE2 : Step (KC (b1 + 1) 0) s1 s4 := hE2.comp hE3 (by intro l hl hk; simp only [KC, KO, KU, K0] at hk ⊢; omega)
    refine k_seq ?_
    refine k_seq ?_
    refine k_region ?_
    refine k_move rfl rfl ?_
    refine k_geq rfl rfl rfl ?_
    refine k_nil ?_
    refine k_keep [(0, _), (4, _), (5, _), (6, _), (12, _)] ⟨rfl, rfl, rfl, rfl, rfl, trivial⟩ ?_
    refine k_cond_dec rfl (fun c5 => ?_) (fun c5 => ?_)
    · -- T
      have h := itT h c5
      refine k_skip ?_
      refine k_seq ?_
      refine k_block ?_
      refine k_seq ?_
      refine k_region ?_
      refine k_move rfl rfl ?_
      refine k_move rfl rfl ?_
      refine k_move rfl rfl ?_
      refine k_conv (p := (x4.toNat : Int)) Try.underlying29 Try.underlying5 rfl rfl ?_
      refine k_as (congrArg (Value.int .u8) (w8 _)) ?_
      obtain ⟨x7, hx7, h⟩ := ob h
      refine k_ixaddr_own Try.underlying27 size5 rfl rfl h1 (geti_out hx7).1 (geti_map hx7) rfl ?_
      intro qx7 hqx7 heqx7
      refine k_store_elt (dd := bD (ofI8 (x4.toNat : Int))) size5 rfl rfl h1 heqx7 (by rw [List.length_map]; exact (List.getElem?_eq_some_iff.1 (geti_out hx7).2.2).1) (R.val rfl) rfl ?_
      intro s6 st6 h1
      rw [← List.map_set] at h1
      have szs6 := st6.size
      have hS : Step K0 s s6 := hS.comp st6 (by intro l hl hk; simp only [KC, KO, KU, K0] at hk ⊢; omega)
      have hE2 : Step (KC (b1 + 1) 0) s1 s6 := hE2.comp st6 (by intro l hl hk; simp only [KC, KO, KU, K0] at hk ⊢; omega)
      have hE3 : Step (KC (b1 + 1) 0) s1 s6 := hE3.comp st6 (by intro l hl hk; simp only [KC, KO, KU, K0] at hk ⊢; omega)
      refine k_nil ?_
      refine k_keep [(0, _), (4, _), (5, _), (6, _)] ⟨rfl, rfl, rfl, rfl, trivial⟩ ?_
      refine k_region ?_
      refine k_move rfl rfl ?_
      refine k_shr (p := (x4.toNat : Int)) rfl rfl (by decide) rfl ?_
      refine k_as (congrArg (Value.int .u64) (shr64_eq _ _)) ?_
      refine k_assign rfl rfl ?_
      refine k_nil ?_
      refine k_blk ?_
      refine k_region ?_
      refine k_move rfl rfl ?_
      refine k_sub_ rfl rfl rfl ?_
      refine k_assign rfl rfl ?_
      refine k_nil ?_
      exact k_stop ⟨(s6, shr64 x4 8, i64 (x5 - 1), x6.set (x5).toNat (ofI8 (x4.toNat : Int)), j), ⟨(by first | rfl | (simp <;> rfl)), (by first | rfl | (simp <;> rfl)), trivial⟩, ⟨rfl, rfl, trivial⟩, ⟨rfl, hE3, h1, h⟩, (by simp)⟩
    · -- F
      have h := itF h c5
      refine k_exit rfl ?_
      exact k_stop ⟨(s4, x6), trivial, ⟨rfl, rfl, trivial⟩, ⟨rfl, hE2, h1, h⟩⟩
  · -- behind
    rintro ⟨s7, x3⟩ wL ⟨rfl, hE2, h1, h⟩
    rw [hK2] at h
    have szs7 := hE2.size
    have hS : Step K0 s s7 := hS.comp hE2 (by intro l hl hk; simp only [KC, KO, KU, K0] at hk ⊢; omega)
    refine k_seq ?_
    refine k_region ?_
    refine k_move rfl rfl ?_
    refine k_assign rfl rfl ?_
    refine k_nil ?_
    refine k_keep [(4, _)] ⟨rfl, trivial⟩ ?_
    refine k_ret ?_
    obtain ⟨s8, e8, st8, h8⟩ := h1.freeze
    rw [← e8]
    have szs8 := st8.size
    have hS : Step K0 s s8 := hS.comp st8 (by intro l hl hk; simp only [KC, KO, KU, K0] at hk ⊢; omega)
    obtain rfl := Option.some.inj h
    refine ⟨_, rfl, Ret.mk hS ?_⟩
    exact ⟨_, rfl, h8⟩

set_option maxHeartbeats 1000000 in
set_option maxRecDepth 100000 in
theorem ref02_Four_w {s : St} {a0 : UInt32} {r : (List UInt8)}  (h : ref02_Four a0 = some r) : Calls Try.prog 38 #[.int .u32 (a0.toNat : Int)] s.w (Ret s K0 (fun s1 v => ∃ (u0 : Value), v = u0 ∧ R s1 u0 (.sl 1 (r.map bD)))) := by
  unfold ref02_Four at h
  have hS : Step K0 s s := (Step.refl _).of0 (by first | exact fun _ h => h | (intro c h; simp [KC, KO, KU] at h <;> omega))
  refine k_fn (rs := [2]) (args := [.int .u32 (a0.toNat : Int)]) Try.func38 rfl rfl rfl rfl ?_
  refine k_seq ?_
  refine k_region ?_
  refine k_assign rfl rfl ?_
  refine k_nil ?_
  refine k_seq ?_
  refine k_region ?_
  refine k_move rfl rfl ?_
  refine k_conv (p := (a0.toNat : Int)) Try.underlying58 Try.underlying29 rfl rfl ?_
  refine k_as (congrArg (Value.int .u64) (w64 _)) ?_
  obtain ⟨x1, hx1, h⟩ := ob h
  refine k_call cal41 rfl (ref02_whole_w   hx1) rfl ?_
  rintro s1 v1_0 st1 ⟨_, rfl, h1_0⟩
  have szs1 := st1.size
  have hS : Step K0 s s1 := hS.trans0 st1
  refine k_assign rfl rfl ?_
  refine k_nil ?_
  refine k_keep [(2, _)] ⟨rfl, trivial⟩ ?_
  refine k_ret ?_
  obtain rfl := Option.some.inj h
  refine ⟨_, rfl, Ret.mk hS ?_⟩
  exact ⟨_, rfl, h1_0⟩

set_option maxHeartbeats 1000000 in
set_option maxRecDepth 100000 in
theorem ref02_needs_w {s : St} {a0 : UInt64} {r : Int}  (h : ref02_needs a0 = some r) : Calls Try.prog 42 #[.int .u64 (a0.toNat : Int)] s.w (Ret s K0 (fun s1 v => v = .int .i64 r)) := by
  unfold ref02_needs at h
  have hS : Step K0 s s := (Step.refl _).of0 (by first | exact fun _ h => h | (intro c h; simp [KC, KO, KU] at h <;> omega))
  refine k_fn (rs := [2]) (args := [.int .u64 (a0.toNat : Int)]) Try.func42 rfl rfl rfl rfl ?_
  refine k_seq ?_
  refine k_region ?_
  refine k_assign rfl rfl ?_
  refine k_nil ?_
  refine k_seq ?_
  refine k_region ?_
  refine k_assign rfl rfl ?_
  refine k_nil ?_
  refine k_seq ?_
  obtain ⟨kj1, hK1, h⟩ := jn_out h
  have hE1 : Step K0 s s := (Step.refl _).of0 (by first | exact fun _ h => h | (intro c h; simp [KC, KO, KU] at h <;> omega))
  refine k_cutc (X := St × Int) [(2, .int .i64 0)] (fun (xL : St × Int) => match xL with | (sl, x2) => [(3, .int .i64 x2)]) (fun (xL : St × Int) (wL : World) => match xL with | (sl, x2) => sl.w = wL ∧ Step K0 s sl ∧ kj1 x2 = some r) ?_ ?_
  · -- the ways
    refine k_block ?_
    refine k_loopc (X := St × Int × Nat) [(0, _), (2, _)] (fun (xL : St × Int × Nat) => match xL with | (sl, x3, j) => [(3, .int .i64 x3)]) (fun (xL : St × Int × Nat) (wL : World) => match xL with | (sl, x3, j) => sl.w = wL ∧ Step K0 s sl ∧ ref02_needs_l1 a0 kj1 j x3 = some r) (fun (xL : St × Int × Nat) => match xL with | (sl, x3, j) => j) (s, 0, FU) ⟨rfl, rfl, trivial⟩ ⟨(by first | rfl | (simp <;> rfl)), trivial⟩ ⟨rfl, (Step.refl _).of0 (by first | exact fun _ h => h | (intro c h; simp [KC, KO, KU] at h <;> omega)), h⟩ ?_
    rintro ⟨s3, x3, j⟩ wL ⟨rfl, hE2, h⟩
    cases j with
    | zero => rw [ref02_needs_l1] at h; exact (noneNe h).elim
    | succ j =>
    rw [ref02_needs_l1] at h
    have szs3 := hE2.size
    have hS : Step K0 s s3 := hS.trans0 hE2
    have hE1 : Step K0 s s3 := hE1.trans0 hE2
    refine k_seq ?_
    refine k_seq ?_
    refine k_region ?_
    refine k_move rfl rfl ?_
    refine k_lss rfl rfl rfl ?_
    refine k_move rfl rfl ?_
    obtain ⟨x4, hx4, h⟩ := ob h
    have hE4 : Step K0 s3 s3 := (Step.refl _).of0 (by first | exact fun _ h => h | (intro c h; simp [KC, KO, KU] at h <;> omega))
    refine k_cutl (X := St) 6 [(0, .int .u64 (a0.toNat : Int)), (2, .int .i64 0), (3, .int .i64 x3), (4, .int .i64 x3), (5, .bool (decide (x3 < 8)))] (fun _ => [(12, .bool x4)]) (fun sl wL => sl.w = wL ∧ Step K0 s3 sl) ?_ ?_
    · -- the ways
      refine k_again 6 rfl ?_
      refine k_split (fun c5 => ?_) (fun c5 => ?_)
      · -- t6 True
        have hx4 := itT hx4 c5
        refine k_yes rfl rfl ?_
        refine k_move rfl rfl ?_
        refine k_yes rfl rfl ?_
        refine k_move rfl rfl ?_
        refine k_yes rfl rfl ?_
        refine k_mul rfl rfl rfl ?_
        refine k_yes rfl rfl ?_
        by_cases c6 : 0 ≤ i64 (8 * x3)
        case neg => exact (noneNe (itF hx4 c6)).elim
        replace hx4 := itT hx4 c6
        refine k_shr (p := (a0.toNat : Int)) rfl rfl c6 rfl ?_
        refine k_as (congrArg (Value.int .u64) (shr64_eq _ _)) ?_
        refine k_yes rfl rfl ?_
        refine k_gtr rfl rfl rfl ?_
        refine k_pickT rfl rfl rfl rfl ?_
        exact k_met ⟨s3, ⟨(congrArg (fun b => some (Value.bool b)) (Option.some.inj hx4)), trivial⟩, ⟨rfl, rfl, rfl, rfl, rfl, trivial⟩, rfl, hE4⟩
      · -- t6 False
        have hx4 := itF hx4 c5
        refine k_no rfl rfl rfl rfl ?_
        refine k_no rfl rfl rfl rfl ?_
        refine k_no rfl rfl rfl rfl ?_
        refine k_no rfl rfl rfl rfl ?_
        refine k_no rfl rfl rfl rfl ?_
        refine k_pickF rfl rfl rfl rfl ?_
        exact k_met ⟨s3, ⟨(congrArg (fun b => some (Value.bool b)) (Option.some.inj hx4)), trivial⟩, ⟨rfl, rfl, rfl, rfl, rfl, trivial⟩, rfl, hE4⟩
    · -- behind
      rintro s7 wL ⟨rfl, hE4⟩
      have szs7 := hE4.size
      have hS : Step K0 s s7 := hS.trans0 hE4
      have hE1 : Step K0 s s7 := hE1.trans0 hE4
      have hE2 : Step K0 s s7 := hE2.trans0 hE4
      refine k_nil ?_
      refine k_keep [(0, _), (2, _), (3, _), (12, _)] ⟨rfl, rfl, rfl, rfl, trivial⟩ ?_
      refine k_cond rfl (fun c8 => ?_) (fun c8 => ?_)
      · -- T
        have h := ibT h c8
        refine k_skip ?_
        refine k_block ?_
        refine k_region ?_
        refine k_move rfl rfl ?_
        refine k_add rfl rfl rfl ?_
        refine k_assign rfl rfl ?_
        refine k_nil ?_
        refine k_blk ?_
        exact k_stop ⟨(s7, i64 (x3 + 1), j), ⟨(by first | rfl | (simp <;> rfl)), trivial⟩, ⟨rfl, rfl, trivial⟩, ⟨rfl, hE2, h⟩, (by simp)⟩
      · -- F
        have h := ibF h c8
        refine k_exit rfl ?_
        exact k_stop ⟨(s7, x3), ⟨(by first | rfl | (simp <;> rfl)), trivial⟩, ⟨rfl, trivial⟩, ⟨rfl, hE1, h⟩⟩
  · -- behind
    rintro ⟨s9, x2⟩ wL ⟨rfl, hE1, h⟩
    rw [hK1] at h
    have szs9 := hE1.size
    have hS : Step K0 s s9 := hS.trans0 hE1
    refine k_seq ?_
    refine k_region ?_
    refine k_move rfl rfl ?_
    refine k_assign rfl rfl ?_
    refine k_nil ?_
    refine k_keep [(2, _)] ⟨rfl, trivial⟩ ?_
    refine k_ret ?_
    obtain rfl := Option.some.inj h
    refine ⟨_, rfl, Ret.mk hS ?_⟩
    exact rfl

set_option maxHeartbeats 1000000 in
set_option maxRecDepth 100000 in
theorem ref02_whole_own_w {s : St} {a0 : UInt64} {a1 : Int} {r : (List UInt8)}  (h : ref02_whole a0 a1 = some r) : Calls Try.prog 41 #[.int .u64 (a0.toNat : Int), .int .i64 a1] s.w (Ret s K0 (fun s1 v => ∃ (u0 : Value), ∃ (lu0 : Lab), v = u0 ∧ (s.n < lu0.o ∧ lu0.c = 0) ∧ Own s1 lu0 5 1 u0 (r.map bD))) := by
  unfold ref02_whole at h
  have hS : Step K0 s s := (Step.refl _).of0 (by first | exact fun _ h => h | (intro c h; simp [KC, KO, KU] at h <;> omega))
  refine k_fn (rs := [4]) (args := [.int .u64 (a0.toNat : Int), .int .i64 a1]) Try.func41 rfl rfl rfl rfl ?_
  refine k_seq ?_
  refine k_region ?_
  refine k_assign rfl rfl ?_
  refine k_nil ?_
  refine k_seq ?_
  refine k_region ?_
  refine k_move rfl rfl ?_
  obtain ⟨x1, hx1, h⟩ := ob h
  refine k_makeI (dz := bD (0 : UInt8)) (p := a1) elem27 rfl rfl (makel_out hx1).1 (RC.val _ rfl) rfl (by have := (makel_out hx1).2.1; omega) (by have := (makel_out hx1).2.1; omega) rfl ?_
  intro s1 v1 b1 st1 ge1 h1
  rw [← List.map_replicate, ← (makel_out hx1).2.2] at h1
  have szs1 := st1.size
  have hS : Step K0 s s1 := hS.trans0 st1
  have lt1 := Own.le1 h1
  refine k_assign rfl rfl ?_
  refine k_nil ?_
  refine k_keep [(0, _), (1, _), (4, _), (5, _)] ⟨rfl, rfl, rfl, rfl, trivial⟩ ?_
  refine k_seq ?_
  obtain ⟨kj2, hK2, h⟩ := jn_out h
  have hE2 : Step (KC (b1 + 1) 0) s1 s1 := (Step.refl _).of0 (by first | exact fun _ h => h | (intro c h; simp [KC, KO, KU] at h <;> omega))
  refine k_cutc (X := St × (List UInt8)) [(4, .slice none 0 0), (5, v1)] (fun (xL : St × (List UInt8)) => match xL with | (sl, x3) => []) (fun (xL : St × (List UInt8)) (wL : World) => match xL with | (sl, x3) => sl.w = wL ∧ Step (KC (b1 + 1) 0) s1 sl ∧ (Own sl ⟨b1 + 1, 0⟩ 5 1 v1 (x3.map bD)) ∧ kj2 x3 = some r) ?_ ?_
  · -- the ways
    refine k_seq ?_
    refine k_region ?_
    refine k_move rfl rfl ?_
    refine k_sub_ rfl rfl rfl ?_
    refine k_assign rfl rfl ?_
    refine k_nil ?_
    refine k_keep [(0, _), (4, _), (5, _), (6, _)] ⟨rfl, rfl, rfl, rfl, trivial⟩ ?_
    refine k_block ?_
    refine k_loopc (X := St × UInt64 × Int × (List UInt8) × Nat) [(4, _), (5, _)] (fun (xL : St × UInt64 × Int × (List UInt8) × Nat) => match xL with | (sl, x4, x5, x6, j) => [(0, .int .u64 (x4.toNat : Int)), (6, .int .i64 x5)]) (fun (xL : St × UInt64 × Int × (List UInt8) × Nat) (wL : World) => match xL with | (sl, x4, x5, x6, j) => sl.w = wL ∧ Step (KC (b1 + 1) 0) s1 sl ∧ (Own sl ⟨b1 + 1, 0⟩ 5 1 v1 (x6.map bD)) ∧ ref02_whole_l1 kj2 j x4 x5 x6 = some r) (fun (xL : St × UInt64 × Int × (List UInt8) × Nat) => match xL with | (sl, x4, x5, x6, j) => j) (s1, a0, i64 (a1 - 1), x1, FU) ⟨rfl, rfl, trivial⟩ ⟨(by first | rfl | (simp <;> rfl)), (by first | rfl | (simp <;> rfl)), trivial⟩ ⟨rfl, (Step.refl _).of0 (by first | exact fun _ h => h | (intro c h; simp [KC, KO, KU] at h <;> omega)), h1, h⟩ ?_
    rintro ⟨s4, x4, x5, x6, j⟩ wL ⟨rfl, hE3, h1, h⟩
    cases j with
    | zero => rw [ref02_whole_l1] at h; exact (noneNe h).elim
    | succ j =>
    rw [ref02_whole_l1] at h
    have szs4 := hE3.size
    have hS : Step K0 s s4 := hS.comp hE3 (by intro l hl hk; simp only [KC, KO, KU, K0] at hk ⊢; omega)
    have hE2 : Step (KC (b1 + 1) 0) s1 s4 := hE2.comp hE3 (by intro l hl hk; simp only [KC, KO, KU, K0] at hk ⊢; omega)
    refine k_seq ?_
    refine k_seq ?_
    refine k_region ?_
    refine k_move rfl rfl ?_
    refine k_geq rfl rfl rfl ?_
    refine k_nil ?_
    refine k_keep [(0, _), (4, _), (5, _), (6, _), (12, _)] ⟨rfl, rfl, rfl, rfl, rfl, trivial⟩ ?_
    refine k_cond_dec rfl (fun c5 => ?_) (fun c5 => ?_)
    · -- T
      have h := itT h c5
      refine k_skip ?_
      refine k_seq ?_
      refine k_block ?_
      refine k_seq ?_
      refine k_region ?_
      refine k_move rfl rfl ?_
      refine k_move rfl rfl ?_
      refine k_move rfl rfl ?_
      refine k_conv (p := (x4.toNat : Int)) Try.underlying29 Try.underlying5 rfl rfl ?_
      refine k_as (congrArg (Value.int .u8) (w8 _)) ?_
      obtain ⟨x7, hx7, h⟩ := ob h
      refine k_ixaddr_own Try.underlying27 size5 rfl rfl h1 (geti_out hx7).1 (geti_map hx7) rfl ?_
      intro qx7 hqx7 heqx7
      refine k_store_elt (dd := bD (ofI8 (x4.toNat : Int))) size5 rfl rfl h1 heqx7 (by rw [List.length_map]; exact (List.getElem?_eq_some_iff.1 (geti_out hx7).2.2).1) (R.val rfl) rfl ?_
      intro s6 st6 h1
      rw [← List.map_set] at h1
      have szs6 := st6.size
      have hS : Step K0 s s6 := hS.comp st6 (by intro l hl hk; simp only [KC, KO, KU, K0] at hk ⊢; omega)
      have hE2 : Step (KC (b1 + 1) 0) s1 s6 := hE2.comp st6 (by intro l hl hk; simp only [KC, KO, KU, K0] at hk ⊢; omega)
      have hE3 : Step (KC (b1 + 1) 0) s1 s6 := hE3.comp st6 (by intro l hl hk; simp only [KC, KO, KU, K0] at hk ⊢; omega)
      refine k_nil ?_
      refine k_keep [(0, _), (4, _), (5, _), (6, _)] ⟨rfl, rfl, rfl, rfl, trivial⟩ ?_
      refine k_region ?_
      refine k_move rfl rfl ?_
      refine k_shr (p := (x4.toNat : Int)) rfl rfl (by decide) rfl ?_
      refine k_as (congrArg (Value.int .u64) (shr64_eq _ _)) ?_
      refine k_assign rfl rfl ?_
      refine k_nil ?_
      refine k_blk ?_
      refine k_region ?_
      refine k_move rfl rfl ?_
      refine k_sub_ rfl rfl rfl ?_
      refine k_assign rfl rfl ?_
      refine k_nil ?_
      exact k_stop ⟨(s6, shr64 x4 8, i64 (x5 - 1), x6.set (x5).toNat (ofI8 (x4.toNat : Int)), j), ⟨(by first | rfl | (simp <;> rfl)), (by first | rfl | (simp <;> rfl)), trivial⟩, ⟨rfl, rfl, trivial⟩, ⟨rfl, hE3, h1, h⟩, (by simp)⟩
    · -- F
      have h := itF h c5
      refine k_exit rfl ?_
      exact k_stop ⟨(s4, x6), trivial, ⟨rfl, rfl, trivial⟩, ⟨rfl, hE2, h1, h⟩⟩
  · -- behind
    rintro ⟨s7, x3⟩ wL ⟨rfl, hE2, h1, h⟩
    rw [hK2] at h
    have szs7 := hE2.size
    have hS : Step K0 s s7 := hS.comp hE2 (by intro l hl hk; simp only [KC, KO, KU, K0] at hk ⊢; omega)
    refine k_seq ?_
    refine k_region ?_
    refine k_move rfl rfl ?_
    refine k_assign rfl rfl ?_
    refine k_nil ?_
    refine k_keep [(4, _)] ⟨rfl, trivial⟩ ?_
    refine k_ret ?_
    obtain rfl := Option.some.inj h
    refine ⟨_, rfl, Ret.mk hS ?_⟩
    exact ⟨_, ⟨b1 + 1, 0⟩, rfl, ⟨by (try dsimp only); omega, rfl⟩, h1⟩

set_option maxHeartbeats 1000000 in
set_option maxRecDepth 100000 in
theorem ref02_Short_w {s : St} {a0 : UInt64} {r : (List UInt8)}  (h : ref02_Short a0 = some r) : Calls Try.prog 18 #[.int .u64 (a0.toNat : Int)] s.w (Ret s K0 (fun s1 v => ∃ (u0 : Value), v = u0 ∧ R s1 u0 (.sl 1 (r.map bD)))) := by
  unfold ref02_Short at h
  have hS : Step K0 s s := (Step.refl _).of0 (by first | exact fun _ h => h | (intro c h; simp [KC, KO, KU] at h <;> omega))
  refine k_fn (rs := [2]) (args := [.int .u64 (a0.toNat : Int)]) Try.func18 rfl rfl rfl rfl ?_
  refine k_seq ?_
  refine k_region ?_
  refine k_assign rfl rfl ?_
  refine k_nil ?_
  refine k_seq ?_
  refine k_seq ?_
  refine k_region ?_
  refine k_move rfl rfl ?_
  refine k_lss rfl rfl rfl ?_
  refine k_nil ?_
  refine k_keep [(0, _), (2, _), (5, _)] ⟨rfl, rfl, rfl, trivial⟩ ?_
  refine k_cond_dec rfl (fun c1 => ?_) (fun c1 => ?_)
  · -- T
    have h := itT h c1
    refine k_seq ?_
    refine k_region ?_
    refine k_move rfl rfl ?_
    obtain ⟨x1, hx1, h⟩ := ob h
    refine k_call cal41 rfl (ref02_whole_w   hx1) rfl ?_
    rintro s2 v2_0 st2 ⟨_, rfl, h2_0⟩
    have szs2 := st2.size
    have hS : Step K0 s s2 := hS.trans0 st2
    refine k_assign rfl rfl ?_
    refine k_nil ?_
    refine k_keep [(0, _), (2, _)] ⟨rfl, rfl, trivial⟩ ?_
    refine k_ret ?_
    obtain rfl := Option.some.inj h
    refine ⟨_, rfl, Ret.mk hS ?_⟩
    exact ⟨_, rfl, h2_0⟩
  · -- F
    have h := itF h c1
    refine k_skip ?_
    refine k_seq ?_
    refine k_region ?_
    refine k_move rfl rfl ?_
    obtain ⟨x2, hx2, h⟩ := ob h
    refine k_call cal42 rfl (ref02_needs_w   hx2) rfl ?_
    rintro s3 vr3 st3 rfl
    have szs3 := st3.size
    have hS : Step K0 s s3 := hS.trans0 st3
    refine k_assign rfl rfl ?_
    refine k_nil ?_
    refine k_keep [(0, _), (2, _), (3, _)] ⟨rfl, rfl, rfl, trivial⟩ ?_
    refine k_seq ?_
    refine k_region ?_
    refine k_move rfl rfl ?_
    refine k_add rfl rfl rfl ?_
    refine k_conv (p := i64 (247 + x2)) Try.underlying3 Try.underlying29 rfl rfl ?_
    refine k_as (congrArg (Value.int .u64) (w64 _)) ?_
    obtain ⟨x3, hx3, h⟩ := ob h
    refine k_call cal41 rfl (ref02_whole_own_w   hx3) rfl ?_
    rintro s4 v4_0 st4 ⟨_, l4_0, rfl, hl4_0, h4_0⟩
    have szs4 := st4.size
    have hS : Step K0 s s4 := hS.trans0 st4
    obtain ⟨l4_0, hl4_0, h4_0⟩ := Own.anew 2040 h4_0 hl4_0 szs4
    have lt4_0 := Own.le1 h4_0
    refine k_move rfl rfl ?_
    refine k_move rfl rfl ?_
    obtain ⟨x4, hx4, h⟩ := ob h
    refine k_call cal41 rfl (ref02_whole_w   hx4) rfl ?_
    rintro s5 v5_0 st5 ⟨_, rfl, h5_0⟩
    have szs5 := st5.size
    have hS : Step K0 s s5 := hS.trans0 st5
    replace h4_0 := h4_0.up' st5
    obtain ⟨x5, hx5, h⟩ := ob h
    refine k_append (es := x4.map bD) elem27 rfl rfl h4_0 (SL.of_R h5_0) (by have := (app_out hx5).1; simp only [List.length_map] at *; omega) (by have := (app_out hx5).1; simp only [List.length_map] at *; omega) rfl ?_
    intro s6 v6 st6 h6
    rw [← List.map_append, ← (app_out hx5).2] at h6
    have szs6 := st6.size
    have hS : Step K0 s s6 := hS.comp st6 (by intro l hl hk; simp only [KC, KO, KU, K0] at hk ⊢; omega)
    replace h5_0 := h5_0.up' st6
    refine k_assign rfl rfl ?_
    refine k_nil ?_
    refine k_keep [(2, _)] ⟨rfl, trivial⟩ ?_
    refine k_ret ?_
    obtain ⟨s7, e7, st7, h7⟩ := h6.freeze
    rw [← e7]
    have szs7 := st7.size
    have hS : Step K0 s s7 := hS.comp st7 (by intro l hl hk; simp only [KC, KO, KU, K0] at hk ⊢; omega)
    obtain rfl := Option.some.inj h
    refine ⟨_, rfl, Ret.mk hS ?_⟩
    exact ⟨_, rfl, h7⟩

set_option maxHeartbeats 1000000 in
set_option maxRecDepth 100000 in
theorem ref02_Short_own_w {s : St} {a0 : UInt64} {r : (List UInt8)}  (h : ref02_Short a0 = some r) : Calls Try.prog 18 #[.int .u64 (a0.toNat : Int)] s.w (Ret s K0 (fun s1 v => ∃ (u0 : Value), ∃ (lu0 : Lab), v = u0 ∧ (s.n < lu0.o ∧ lu0.c = 0) ∧ Own s1 lu0 5 1 u0 (r.map bD))) := by
  unfold ref02_Short at h
  have hS : Step K0 s s := (Step.refl _).of0 (by first | exact fun _ h => h | (intro c h; simp [KC, KO, KU] at h <;> omega))
  refine k_fn (rs := [2]) (args := [.int .u64 (a0.toNat : Int)]) Try.func18 rfl rfl rfl rfl ?_
  refine k_seq ?_
  refine k_region ?_
  refine k_assign rfl rfl ?_
  refine k_nil ?_
  refine k_seq ?_
  refine k_seq ?_
  refine k_region ?_
  refine k_move rfl rfl ?_
  refine k_lss rfl rfl rfl ?_
  refine k_nil ?_
  refine k_keep [(0, _), (2, _), (5, _)] ⟨rfl, rfl, rfl, trivial⟩ ?_
  refine k_cond_dec rfl (fun c1 => ?_) (fun c1 => ?_)
  · -- T
    have h := itT h c1
    refine k_seq ?_
    refine k_region ?_
    refine k_move rfl rfl ?_
    obtain ⟨x1, hx1, h⟩ := ob h
    refine k_call cal41 rfl (ref02_whole_own_w   hx1) rfl ?_
    rintro s2 v2_0 st2 ⟨_, l2_0, rfl, hl2_0, h2_0⟩
    have szs2 := st2.size
    have hS : Step K0 s s2 := hS.trans0 st2
    obtain ⟨l2_0, hl2_0, h2_0⟩ := Own.anew 2020 h2_0 hl2_0 szs2
    have lt2_0 := Own.le1 h2_0
    refine k_assign rfl rfl ?_
    refine k_nil ?_
    refine k_keep [(0, _), (2, _)] ⟨rfl, rfl, trivial⟩ ?_
    refine k_ret ?_
    obtain ⟨s3, e3, st3, h2_0⟩ := h2_0.zero
    rw [← e3]
    have szs3 := st3.size
    have hS : Step K0 s s3 := hS.comp st3 (by intro l hl hk; simp only [KC, KO, KU, K0] at hk ⊢; omega)
    obtain rfl := Option.some.inj h
    refine ⟨_, rfl, Ret.mk hS ?_⟩
    exact ⟨_, ⟨l2_0.o, 0⟩, rfl, ⟨by (try dsimp only); omega, rfl⟩, h2_0⟩
  · -- F
    have h := itF h c1
    refine k_skip ?_
    refine k_seq ?_
    refine k_region ?_
    refine k_move rfl rfl ?_
    obtain ⟨x2, hx2, h⟩ := ob h
    refine k_call cal42 rfl (ref02_needs_w   hx2) rfl ?_
    rintro s4 vr4 st4 rfl
    have szs4 := st4.size
    have hS : Step K0 s s4 := hS.trans0 st4
    refine k_assign rfl rfl ?_
    refine k_nil ?_
    refine k_keep [(0, _), (2, _), (3, _)] ⟨rfl, rfl, rfl, trivial⟩ ?_
    refine k_seq ?_
    refine k_region ?_
    refine k_move rfl rfl ?_
    refine k_add rfl rfl rfl ?_
    refine k_conv (p := i64 (247 + x2)) Try.underlying3 Try.underlying29 rfl rfl ?_
    refine k_as (congrArg (Value.int .u64) (w64 _)) ?_
    obtain ⟨x3, hx3, h⟩ := ob h
    refine k_call cal41 rfl (ref02_whole_own_w   hx3) rfl ?_
    rintro s5 v5_0 st5 ⟨_, l5_0, rfl, hl5_0, h5_0⟩
    have szs5 := st5.size
    have hS : Step K0 s s5 := hS.trans0 st5
    obtain ⟨l5_0, hl5_0, h5_0⟩ := Own.anew 2050 h5_0 hl5_0 szs5
    have lt5_0 := Own.le1 h5_0
    refine k_move rfl rfl ?_
    refine k_move rfl rfl ?_
    obtain ⟨x4, hx4, h⟩ := ob h
    refine k_call cal41 rfl (ref02_whole_w   hx4) rfl ?_
    rintro s6 v6_0 st6 ⟨_, rfl, h6_0⟩
    have szs6 := st6.size
    have hS : Step K0 s s6 := hS.trans0 st6
    replace h5_0 := h5_0.up' st6
    obtain ⟨x5, hx5, h⟩ := ob h
    refine k_append (es := x4.map bD) elem27 rfl rfl h5_0 (SL.of_R h6_0) (by have := (app_out hx5).1; simp only [List.length_map] at *; omega) (by have := (app_out hx5).1; simp only [List.length_map] at *; omega) rfl ?_
    intro s7 v7 st7 h7
    rw [← List.map_append, ← (app_out hx5).2] at h7
    have szs7 := st7.size
    have hS : Step K0 s s7 := hS.comp st7 (by intro l hl hk; simp only [KC, KO, KU, K0] at hk ⊢; omega)
    replace h6_0 := h6_0.up' st7
    refine k_assign rfl rfl ?_
    refine k_nil ?_
    refine k_keep [(2, _)] ⟨rfl, trivial⟩ ?_
    refine k_ret ?_
    obtain ⟨s8, e8, st8, h7⟩ := h7.zero
    rw [← e8]
    have szs8 := st8.size
    have hS : Step K0 s s8 := hS.comp st8 (by intro l hl hk; simp only [KC, KO, KU, K0] at hk ⊢; omega)
    obtain rfl := Option.some.inj h
    refine ⟨_, rfl, Ret.mk hS ?_⟩
    exact ⟨_, ⟨l5_0.o, 0⟩, rfl, ⟨by (try dsimp only); omega, rfl⟩, h7⟩

set_option maxHeartbeats 1000000 in
set_option maxRecDepth 100000 in
theorem ref02_Text_w {s : St} {a0 : (List UInt8)} {r : (List UInt8)}  (h : ref02_Text a0 = some r) : Calls Try.prog 39 #[S a0] s.w (Ret s K0 (fun s1 v => ∃ (u0 : Value), v = u0 ∧ R s1 u0 (.sl 1 (r.map bD)))) := by
  unfold ref02_Text at h
  have hS : Step K0 s s := (Step.refl _).of0 (by first | exact fun _ h => h | (intro c h; simp [KC, KO, KU] at h <;> omega))
  refine k_fn (rs := [2]) (args := [S a0]) Try.func39 rfl rfl rfl rfl ?_
  refine k_seq ?_
  refine k_region ?_
  refine k_assign rfl rfl ?_
  refine k_nil ?_
  refine k_seq ?_
  refine k_region ?_
  refine k_move rfl rfl ?_
  refine k_len_str Try.underlying9 rfl rfl ?_
  refine k_conv (p := (a0.length : Int)) Try.underlying3 Try.underlying29 rfl rfl ?_
  refine k_as (congrArg (Value.int .u64) (w64 _)) ?_
  obtain ⟨x1, hx1, h⟩ := ob h
  refine k_call cal18 rfl (ref02_Short_own_w   hx1) rfl ?_
  rintro s1 v1_0 st1 ⟨_, l1_0, rfl, hl1_0, h1_0⟩
  have szs1 := st1.size
  have hS : Step K0 s s1 := hS.trans0 st1
  obtain ⟨l1_0, hl1_0, h1_0⟩ := Own.anew 2010 h1_0 hl1_0 szs1
  have lt1_0 := Own.le1 h1_0
  refine k_move rfl rfl ?_
  refine k_stb Try.underlying9 Try.underlying27 Try.underlying5 rfl rfl ?_
  intro s2 v2 st2 h2
  have szs2 := st2.size
  have hS : Step K0 s s2 := hS.trans0 st2
  replace h1_0 := h1_0.up' st2
  obtain ⟨x2, hx2, h⟩ := ob h
  refine k_append (es := a0.map bD) elem27 rfl rfl h1_0 (SL.of_R h2) (by have := (app_out hx2).1; simp only [List.length_map] at *; omega) (by have := (app_out hx2).1; simp only [List.length_map] at *; omega) rfl ?_
  intro s3 v3 st3 h3
  rw [← List.map_append, ← (app_out hx2).2] at h3
  have szs3 := st3.size
  have hS : Step K0 s s3 := hS.comp st3 (by intro l hl hk; simp only [KC, KO, KU, K0] at hk ⊢; omega)
  replace h2 := h2.up' st3
  refine k_assign rfl rfl ?_
  refine k_nil ?_
  refine k_keep [(2, _)] ⟨rfl, trivial⟩ ?_
  refine k_ret ?_
  obtain ⟨s4, e4, st4, h4⟩ := h3.freeze
  rw [← e4]
  have szs4 := st4.size
  have hS : Step K0 s s4 := hS.comp st4 (by intro l hl hk; simp only [KC, KO, KU, K0] at hk ⊢; omega)
  obtain rfl := Option.some.inj h
  refine ⟨_, rfl, Ret.mk hS ?_⟩
  exact ⟨_, rfl, h4⟩

set_option maxHeartbeats 1000000 in
set_option maxRecDepth 100000 in
theorem law02_bytes_w {s : St} {cs0 : List Value} {a0 : Law02Item} {r : (List UInt8)} (hp0 : RC s cs0 (dLaw02Item a0)) (h : law02_bytes a0 = some r) : Calls Try.prog 16 #[.agg cs0.toArray] s.w (Ret s K0 (fun s1 v => ∃ (u0 : Value), v = u0 ∧ R s1 u0 (.sl 1 (r.map bD)))) := by
  unfold law02_bytes at h
  obtain rfl := opnLaw02Item hp0
  have hS : Step K0 s s := (Step.refl _).of0 (by first | exact fun _ h => h | (intro c h; simp [KC, KO, KU] at h <;> omega))
  refine k_fn (rs := [2]) (args := [.agg #[.int .i64 a0.Kind, .int .i64 a0.Most, .int .u64 (a0.X.toNat : Int), S a0.S]]) Try.func16 rfl rfl rfl rfl ?_
  refine k_seq ?_
  refine k_region ?_
  refine k_box rfl rfl ?_
  intro s1 b1 st1 h1 ge1
  have szs1 := st1.size
  have hS : Step K0 s s1 := hS.trans0 st1
  have lt1 := h1.lt
  refine k_assign rfl rfl ?_
  refine k_nil ?_
  refine k_keep [(1, _), (2, _)] ⟨rfl, rfl, trivial⟩ ?_
  refine k_seq ?_
  refine k_seq ?_
  refine k_region ?_
  refine k_load_blka (cs := [.int .i64 a0.Kind, .int .i64 a0.Most, .int .u64 (a0.X.toNat : Int), S a0.S]) agg36 rfl h1 rfl ?_
  obtain ⟨x1, hx1, h⟩ := ob h
  refine k_call cal29 rfl (law02_kind_w  (clsLaw02Item a0) hx1) rfl ?_
  rintro s2 vr2 st2 rfl
  have szs2 := st2.size
  have hS : Step K0 s s2 := hS.trans0 st2
  replace h1 := h1.up' st2
  refine k_nil ?_
  refine k_keep [(1, _), (2, _), (4, _)] ⟨rfl, rfl, rfl, trivial⟩ ?_
  refine k_block ?_
  refine k_seq ?_
  refine k_region ?_
  refine k_eql rfl rfl rfl ?_
  refine k_assign rfl rfl ?_
  refine k_nil ?_
  refine k_keep [(1, _), (2, _), (4, _), (5, _)] ⟨rfl, rfl, rfl, rfl, trivial⟩ ?_
  refine k_cond_dec rfl (fun c3 => ?_) (fun c3 => ?_)
  · -- T
    have h := itT h c3
    refine k_seq ?_
    refine k_region ?_
    refine k_field_addr fld36_2 rfl rfl ?_
    refine k_load_blk one29 rfl h1 rfl rfl ?_
    refine k_conv (p := (a0.X.toNat : Int)) Try.underlying29 Try.underlying5 rfl rfl ?_
    refine k_as (congrArg (Value.int .u8) (w8 _)) ?_
    refine k_bslice_own (ds := ([ofI8 (a0.X.toNat : Int)] : List UInt8).map bD) slc27 rfl (RVs.cons (R.val rfl) RVs.nil) (by rfl) (by rfl) rfl rfl ?_
    intro s4 v4 b4 st4 ge4 h4
    have szs4 := st4.size
    have hS : Step K0 s s4 := hS.trans0 st4
    replace h1 := h1.up' st4
    have lt4 := Own.le1 h4
    refine k_assign rfl rfl ?_
    refine k_nil ?_
    refine k_keep [(1, _), (2, _)] ⟨rfl, rfl, trivial⟩ ?_
    refine k_ret ?_
    obtain ⟨s5, e5, st5, h5⟩ := h4.freeze
    rw [← e5]
    have szs5 := st5.size
    have hS : Step K0 s s5 := hS.comp st5 (by intro l hl hk; simp only [KC, KO, KU, K0] at hk ⊢; omega)
    replace h1 := h1.up' st5
    obtain rfl := Option.some.inj h
    refine ⟨_, rfl, Ret.mk hS ?_⟩
    exact ⟨_, rfl, h5⟩
  · -- F
    have h := itF h c3
    refine k_seq ?_
    refine k_region ?_
    refine k_eql rfl rfl rfl ?_
    refine k_assign rfl rfl ?_
    refine k_nil ?_
    refine k_keep [(1, _), (2, _), (4, _), (11, _)] ⟨rfl, rfl, rfl, rfl, trivial⟩ ?_
    refine k_cond_dec rfl (fun c6 => ?_) (fun c6 => ?_)
    · -- T
      have h := itT h c6
      refine k_seq ?_
      refine k_region ?_
      refine k_field_addr fld36_2 rfl rfl ?_
      refine k_load_blk one29 rfl h1 rfl rfl ?_
      refine k_conv (p := (a0.X.toNat : Int)) Try.underlying29 Try.underlying58 rfl rfl ?_
      refine k_as (congrArg (Value.int .u32) (w32 _)) ?_
      obtain ⟨x2, hx2, h⟩ := ob h
      refine k_call cal38 rfl (ref02_Four_w   hx2) rfl ?_
      rintro s7 v7_0 st7 ⟨_, rfl, h7_0⟩
      have szs7 := st7.size
      have hS : Step K0 s s7 := hS.trans0 st7
      replace h1 := h1.up' st7
      refine k_assign rfl rfl ?_
      refine k_nil ?_
      refine k_keep [(1, _), (2, _)] ⟨rfl, rfl, trivial⟩ ?_
      refine k_ret ?_
      obtain rfl := Option.some.inj h
      refine ⟨_, rfl, Ret.mk hS ?_⟩
      exact ⟨_, rfl, h7_0⟩
    · -- F
      have h := itF h c6
      refine k_seq ?_
      refine k_region ?_
      refine k_eql rfl rfl rfl ?_
      refine k_assign rfl rfl ?_
      refine k_nil ?_
      refine k_keep [(1, _), (2, _), (4, _), (17, _)] ⟨rfl, rfl, rfl, rfl, trivial⟩ ?_
      refine k_cond_dec rfl (fun c8 => ?_) (fun c8 => ?_)
      · -- T
        have h := itT h c8
        refine k_seq ?_
        refine k_region ?_
        refine k_field_addr fld36_2 rfl rfl ?_
        refine k_load_blk one29 rfl h1 rfl rfl ?_
        obtain ⟨x3, hx3, h⟩ := ob h
        refine k_call cal18 rfl (ref02_Short_w   hx3) rfl ?_
        rintro s9 v9_0 st9 ⟨_, rfl, h9_0⟩
        have szs9 := st9.size
        have hS : Step K0 s s9 := hS.trans0 st9
        replace h1 := h1.up' st9
        refine k_assign rfl rfl ?_
        refine k_nil ?_
        refine k_keep [(1, _), (2, _)] ⟨rfl, rfl, trivial⟩ ?_
        refine k_ret ?_
        obtain rfl := Option.some.inj h
        refine ⟨_, rfl, Ret.mk hS ?_⟩
        exact ⟨_, rfl, h9_0⟩
      · -- F
        have h := itF h c8
        refine k_seq ?_
        refine k_region ?_
        refine k_eql rfl rfl rfl ?_
        refine k_assign rfl rfl ?_
        refine k_nil ?_
        refine k_keep [(1, _), (2, _), (22, _)] ⟨rfl, rfl, rfl, trivial⟩ ?_
        refine k_cond_dec rfl (fun c10 => ?_) (fun c10 => ?_)
        · -- T
          have h := itT h c10
          refine k_seq ?_
          refine k_region ?_
          refine k_field_addr fld36_3 rfl rfl ?_
          refine k_load_blk one9 rfl h1 rfl rfl ?_
          obtain ⟨x4, hx4, h⟩ := ob h
          refine k_call cal39 rfl (ref02_Text_w   hx4) rfl ?_
          rintro s11 v11_0 st11 ⟨_, rfl, h11_0⟩
          have szs11 := st11.size
          have hS : Step K0 s s11 := hS.trans0 st11
          replace h1 := h1.up' st11
          refine k_assign rfl rfl ?_
          refine k_nil ?_
          refine k_keep [(1, _), (2, _)] ⟨rfl, rfl, trivial⟩ ?_
          refine k_ret ?_
          obtain rfl := Option.some.inj h
          refine ⟨_, rfl, Ret.mk hS ?_⟩
          exact ⟨_, rfl, h11_0⟩
        · -- F
          have h := itF h c10
          refine k_skip ?_
          refine k_blk ?_
          refine k_seq ?_
          refine k_region ?_
          refine k_field_addr fld36_3 rfl rfl ?_
          refine k_load_blk one9 rfl h1 rfl rfl ?_
          refine k_stb Try.underlying9 Try.underlying27 Try.underlying5 rfl rfl ?_
          intro s12 v12 st12 h12
          have szs12 := st12.size
          have hS : Step K0 s s12 := hS.trans0 st12
          replace h1 := h1.up' st12
          refine k_assign rfl rfl ?_
          refine k_nil ?_
          refine k_keep [(2, _)] ⟨rfl, trivial⟩ ?_
          refine k_ret ?_
          obtain rfl := Option.some.inj h
          refine ⟨_, rfl, Ret.mk hS ?_⟩
          exact ⟨_, rfl, h12⟩

set_option maxHeartbeats 1000000 in
set_option maxRecDepth 100000 in
theorem code_Writer_Bytes_nil_w {s : St}  {r : (List UInt8)}  (h : code_Writer_Bytes_nil = some r) : Calls Try.prog 12 #[.pointer none] s.w (Ret s K0 (fun s1 v => ∃ (u0 : Value), v = u0 ∧ R s1 u0 (.sl 1 (r.map bD)))) := by
  unfold code_Writer_Bytes_nil at h
  have hS : Step K0 s s := (Step.refl _).of0 (by first | exact fun _ h => h | (intro c h; simp [KC, KO, KU] at h <;> omega))
  refine k_fn (rs := [2]) (args := [.pointer none]) Try.func12 rfl rfl rfl rfl ?_
  refine k_seq ?_
  refine k_region ?_
  refine k_assign rfl rfl ?_
  refine k_nil ?_
  refine k_seq ?_
  refine k_seq ?_
  refine k_region ?_
  refine k_move rfl rfl ?_
  refine k_eql_pnil Try.underlying24 rfl rfl rfl ?_
  refine k_nil ?_
  refine k_keep [(0, _), (2, _), (4, _)] ⟨rfl, rfl, rfl, trivial⟩ ?_
  refine k_cond_true rfl ?_
  refine k_seq ?_
  refine k_region ?_
  refine k_assign rfl rfl ?_
  refine k_nil ?_
  refine k_keep [(0, _), (2, _)] ⟨rfl, rfl, trivial⟩ ?_
  refine k_ret ?_
  obtain rfl := Option.some.inj h
  refine ⟨_, rfl, Ret.mk hS ?_⟩
  exact ⟨_, rfl, (R.of_SL (.inl ⟨rfl, none, 0, rfl, fun _ => rfl⟩))⟩

set_option maxHeartbeats 1000000 in
set_option maxRecDepth 100000 in
theorem law02_CodeWrites_w {s : St} {v0 : Value} {a0 : (List Law02Item)} {r : Bool} (hp0 : R s v0 (.sl 4 (a0.map dLaw02Item))) (h : law02_CodeWrites a0 = some r) : Calls Try.prog 4 #[v0] s.w (Ret s K0 (fun s1 v => v = .bool r)) := by
  unfold law02_CodeWrites at h
  have hS : Step K0 s s := (Step.refl _).of0 (by first | exact fun _ h => h | (intro c h; simp [KC, KO, KU] at h <;> omega))
  refine k_fn (rs := [2]) (args := [v0]) Try.func4 rfl rfl rfl rfl ?_
  refine k_seq ?_
  refine k_region ?_
  refine k_assign rfl rfl ?_
  refine k_nil ?_
  refine k_seq ?_
  refine k_seq ?_
  refine k_region ?_
  refine k_move rfl rfl ?_
  obtain ⟨x1, hx1, h⟩ := ob h
  refine k_call cal14 rfl (law02_long_w  (SL.of_R hp0) hx1) rfl ?_
  rintro s1 vr1 st1 rfl
  have szs1 := st1.size
  have hS : Step K0 s s1 := hS.trans0 st1
  replace hp0 := hp0.up' st1
  refine k_nil ?_
  refine k_keep [(0, _), (2, _), (11, _)] ⟨rfl, rfl, rfl, trivial⟩ ?_
  refine k_cond rfl (fun c2 => ?_) (fun c2 => ?_)
  · -- T
    have h := ibT h c2
    refine k_seq ?_
    refine k_region ?_
    obtain ⟨x2, hx2, h⟩ := ob h
    obtain rfl := Option.some.inj (show some true = some x2 from hx2)
    refine k_call cal9 rfl (law02_awake_w   hx2) rfl ?_
    rintro s3 vr3 st3 rfl
    have szs3 := st3.size
    have hS : Step K0 s s3 := hS.trans0 st3
    replace hp0 := hp0.up' st3
    refine k_assign rfl rfl ?_
    refine k_nil ?_
    refine k_keep [(0, _), (2, _)] ⟨rfl, rfl, trivial⟩ ?_
    refine k_ret ?_
    obtain rfl := Option.some.inj h
    refine ⟨_, rfl, Ret.mk hS ?_⟩
    exact rfl
  · -- F
    have h := ibF h c2
    refine k_skip ?_
    refine k_seq ?_
    refine k_region ?_
    refine k_assign rfl rfl ?_
    refine k_nil ?_
    refine k_keep [(0, _), (2, _), (3, _)] ⟨rfl, rfl, rfl, trivial⟩ ?_
    refine k_seq ?_
    refine k_region ?_
    obtain ⟨x3, hx3, h⟩ := ob h
    refine k_call cal10 rfl (code_NewWriter_w   hx3) rfl ?_
    rintro s4 v4_0 st4 ⟨ku4_0, _, rfl, hk4_0, h4_0⟩
    have szs4 := st4.size
    have hS : Step K0 s s4 := hS.trans0 st4
    replace hp0 := hp0.up' st4
    have le4_0 := h4_0.le
    have ne4_0 := h4_0.ne
    refine k_assign rfl rfl ?_
    refine k_nil ?_
    refine k_keep [(0, _), (2, _), (3, _), (4, _)] ⟨rfl, rfl, rfl, rfl, trivial⟩ ?_
    refine k_seq ?_
    refine k_region ?_
    refine k_assign rfl rfl ?_
    refine k_nil ?_
    refine k_seq ?_
    obtain ⟨kj4, hK5, h⟩ := jn_out h
    have hE5 : Step (KO ku4_0) s4 s4 := (Step.refl _).of0 (by first | exact fun _ h => h | (intro c h; simp [KC, KO, KU] at h <;> omega))
    refine k_cutc (X := St × (List UInt8) × Value × (List UInt8)) [(2, .bool false), (4, v4_0)] (fun (xL : St × (List UInt8) × Value × (List UInt8)) => match xL with | (sl, x5, v6, x6) => [(5, v6)]) (fun (xL : St × (List UInt8) × Value × (List UInt8)) (wL : World) => match xL with | (sl, x5, v6, x6) => sl.w = wL ∧ Step (KO ku4_0) s4 sl ∧ (Own sl ⟨s4.n + 1, 3005⟩ 5 1 v6 (x5.map bD)) ∧ (WrS sl ku4_0 v4_0 x6) ∧ kj4 x5 x6 = some r) ?_ ?_
    · -- the ways
      refine k_seq ?_
      refine k_region ?_
      refine k_assign rfl rfl ?_
      refine k_nil ?_
      refine k_block ?_
      have h7 : Own s4 ⟨s4.n + 1, 3005⟩ 5 1 (.slice none 0 0) (([] : List UInt8).map bD) := Own.nil (by simp) (by simp)
      refine k_loopc (X := St × (List UInt8) × Value × Int × (List UInt8) × Nat) [(0, _), (2, _), (3, _), (4, _)] (fun (xL : St × (List UInt8) × Value × Int × (List UInt8) × Nat) => match xL with | (sl, x7, v9, x8, x9, j) => [(5, v9), (6, .int .i64 x8)]) (fun (xL : St × (List UInt8) × Value × Int × (List UInt8) × Nat) (wL : World) => match xL with | (sl, x7, v9, x8, x9, j) => sl.w = wL ∧ Step (KU (KO ku4_0) (KC (s4.n + 1) 3005)) s4 sl ∧ (Own sl ⟨s4.n + 1, 3005⟩ 5 1 v9 (x7.map bD)) ∧ (WrS sl ku4_0 v4_0 x9) ∧ law02_CodeWrites_l1 a0 kj4 j x7 x8 x9 = some r) (fun (xL : St × (List UInt8) × Value × Int × (List UInt8) × Nat) => match xL with | (sl, x7, v9, x8, x9, j) => j) (s4, [], (.slice none 0 0), 0, x3, FU) ⟨rfl, rfl, rfl, rfl, trivial⟩ ⟨(by first | rfl | (simp <;> rfl)), (by first | rfl | (simp <;> rfl)), trivial⟩ ⟨rfl, (Step.refl _).of0 (by first | exact fun _ h => h | (intro c h; simp [KC, KO, KU] at h <;> omega)), h7, h4_0, h⟩ ?_
      rintro ⟨s10, x7, v9, x8, x9, j⟩ wL ⟨rfl, hE8, h9, h4_0, h⟩
      cases j with
      | zero => rw [law02_CodeWrites_l1] at h; exact (noneNe h).elim
      | succ j =>
      rw [law02_CodeWrites_l1] at h
      have szs10 := hE8.size
      have hS : Step K0 s s10 := hS.comp hE8 (by intro l hl hk; simp only [KC, KO, KU, K0] at hk ⊢; omega)
      have hE5 : Step (KO ku4_0) s4 s10 := hE5.comp hE8 (by intro l hl hk; simp only [KC, KO, KU, K0] at hk ⊢; omega)
      replace hp0 := hp0.up' hE8
      obtain ⟨kj10, hkj10, h⟩ := jn_out h
      refine k_seq ?_
      refine k_seq ?_
      refine k_region ?_
      refine k_move rfl rfl ?_
      refine k_move rfl rfl ?_
      refine k_len Try.underlying32 rfl (SL.of_R hp0).hasLen rfl ?_
      refine k_as (v := .int .i64 (a0.length : Int)) (by simp only [List.length_map]) ?_
      refine k_lss rfl rfl rfl ?_
      refine k_nil ?_
      refine k_keep [(0, _), (2, _), (3, _), (4, _), (5, _), (6, _), (17, _)] ⟨rfl, rfl, rfl, rfl, rfl, rfl, rfl, trivial⟩ ?_
      refine k_cond_dec rfl (fun c11 => ?_) (fun c11 => ?_)
      · -- T
        have h := itT h c11
        refine k_skip ?_
        refine k_seq ?_
        refine k_keep [(0, _), (2, _), (3, _), (4, _), (5, _), (6, _)] ⟨rfl, rfl, rfl, rfl, rfl, rfl, trivial⟩ ?_
        obtain ⟨kj11, hK12, h⟩ := jn_out h
        have hE12 : Step (KU (KO ku4_0) (KC (s4.n + 1) 3005)) s10 s10 := (Step.refl _).of0 (by first | exact fun _ h => h | (intro c h; simp [KC, KO, KU] at h <;> omega))
        refine k_cutc (X := St × (List UInt8) × Value × Int × (List UInt8)) [(0, v0), (2, .bool false), (3, .pointer none), (4, v4_0)] (fun (xL : St × (List UInt8) × Value × Int × (List UInt8)) => match xL with | (sl, x12, v13, x13, x14) => [(5, v13), (6, .int .i64 x13)]) (fun (xL : St × (List UInt8) × Value × Int × (List UInt8)) (wL : World) => match xL with | (sl, x12, v13, x13, x14) => sl.w = wL ∧ Step (KU (KO ku4_0) (KC (s4.n + 1) 3005)) s10 sl ∧ (Own sl ⟨s4.n + 1, 3005⟩ 5 1 v13 (x12.map bD)) ∧ (WrS sl ku4_0 v4_0 x14) ∧ kj11 x12 x13 x14 = some r) ?_ ?_
        · -- the ways
          refine k_block ?_
          refine k_seq ?_
          refine k_region ?_
          refine k_move rfl rfl ?_
          refine k_move rfl rfl ?_
          refine k_move rfl rfl ?_
          obtain ⟨x15, hx15, h⟩ := ob h
          refine k_ixaddr Try.underlying32 size36 rfl rfl (SL.of_R hp0) (geti_out hx15).1 (geti_map hx15) rfl ?_
          intro qx15 hqx15
          refine k_load_agg (by exact agg36) rfl hqx15 rfl ?_
          intro cs14 h14
          obtain rfl := opnLaw02Item h14
          obtain ⟨x16, hx16, h⟩ := ob h
          refine k_call cal15 rfl (law02_write_w  h4_0 (clsLaw02Item x15) hx16) rfl ?_
          rintro s15 vr15 st15 ⟨rfl, h4_0⟩
          have szs15 := st15.size
          have hS : Step K0 s s15 := hS.comp st15 (by intro l hl hk; simp only [KC, KO, KU, K0] at hk ⊢; omega)
          have hE5 : Step (KO ku4_0) s4 s15 := hE5.comp st15 (by intro l hl hk; simp only [KC, KO, KU, K0] at hk ⊢; omega)
          have hE8 : Step (KU (KO ku4_0) (KC (s4.n + 1) 3005)) s4 s15 := hE8.comp st15 (by intro l hl hk; simp only [KC, KO, KU, K0] at hk ⊢; omega)
          have hE12 : Step (KU (KO ku4_0) (KC (s4.n + 1) 3005)) s10 s15 := hE12.comp st15 (by intro l hl hk; simp only [KC, KO, KU, K0] at hk ⊢; omega)
          replace hp0 := hp0.up' st15
          replace hqx15 := hqx15.up' st15
          replace h9 := h9.up' st15
          refine k_nil ?_
          refine k_keep [(0, _), (2, _), (3, _), (4, _), (5, _), (6, _)] ⟨rfl, rfl, rfl, rfl, rfl, rfl, trivial⟩ ?_
          refine k_seq ?_
          refine k_region ?_
          refine k_move rfl rfl ?_
          refine k_move rfl rfl ?_
          refine k_move rfl rfl ?_
          obtain ⟨x17, hx17, h⟩ := ob h
          refine k_ixaddr Try.underlying32 size36 rfl rfl (SL.of_R hp0) (geti_out hx17).1 (geti_map hx17) rfl ?_
          intro qx17 hqx17
          refine k_load_agg (by exact agg36) rfl hqx17 rfl ?_
          intro cs16 h16
          obtain rfl := opnLaw02Item h16
          obtain ⟨x18, hx18, h⟩ := ob h
          refine k_call cal15 rfl (law02_write_nil_w  (clsLaw02Item x17) hx18) rfl ?_
          rintro s17 vr17 st17 rfl
          have szs17 := st17.size
          have hS : Step K0 s s17 := hS.trans0 st17
          have hE5 : Step (KO ku4_0) s4 s17 := hE5.trans0 st17
          have hE8 : Step (KU (KO ku4_0) (KC (s4.n + 1) 3005)) s4 s17 := hE8.trans0 st17
          have hE12 : Step (KU (KO ku4_0) (KC (s4.n + 1) 3005)) s10 s17 := hE12.trans0 st17
          replace hp0 := hp0.up' st17
          replace hqx17 := hqx17.up' st17
          replace h4_0 := h4_0.up' st17
          replace h9 := h9.up' st17
          refine k_nil ?_
          refine k_keep [(0, _), (2, _), (3, _), (4, _), (5, _), (6, _)] ⟨rfl, rfl, rfl, rfl, rfl, rfl, trivial⟩ ?_
          refine k_seq ?_
          refine k_region ?_
          refine k_move rfl rfl ?_
          refine k_move rfl rfl ?_
          refine k_move rfl rfl ?_
          obtain ⟨x19, hx19, h⟩ := ob h
          refine k_ixaddr Try.underlying32 size36 rfl rfl (SL.of_R hp0) (geti_out hx19).1 (geti_map hx19) rfl ?_
          intro qx19 hqx19
          refine k_load_agg (by exact agg36) rfl hqx19 rfl ?_
          intro cs18 h18
          obtain rfl := opnLaw02Item h18
          obtain ⟨x20, hx20, h⟩ := ob h
          refine k_call cal16 rfl (law02_bytes_w  (clsLaw02Item x19) hx20) rfl ?_
          rintro s19 v19_0 st19 ⟨_, rfl, h19_0⟩
          have szs19 := st19.size
          have hS : Step K0 s s19 := hS.trans0 st19
          have hE5 : Step (KO ku4_0) s4 s19 := hE5.trans0 st19
          have hE8 : Step (KU (KO ku4_0) (KC (s4.n + 1) 3005)) s4 s19 := hE8.trans0 st19
          have hE12 : Step (KU (KO ku4_0) (KC (s4.n + 1) 3005)) s10 s19 := hE12.trans0 st19
          replace hp0 := hp0.up' st19
          replace hqx19 := hqx19.up' st19
          replace h4_0 := h4_0.up' st19
          replace h9 := h9.up' st19
          obtain ⟨x21, hx21, h⟩ := ob h
          refine k_append (es := x20.map bD) elem27 rfl rfl h9 (SL.of_R h19_0) (by have := (app_out hx21).1; simp only [List.length_map] at *; omega) (by have := (app_out hx21).1; simp only [List.length_map] at *; omega) rfl ?_
          intro s20 v20 st20 h20
          rw [← List.map_append, ← (app_out hx21).2] at h20
          have szs20 := st20.size
          have hS : Step K0 s s20 := hS.comp st20 (by intro l hl hk; simp only [KC, KO, KU, K0] at hk ⊢; omega)
          have hE5 : Step (KO ku4_0) s4 s20 := hE5.comp st20 (by intro l hl hk; simp only [KC, KO, KU, K0] at hk ⊢; omega)
          have hE8 : Step (KU (KO ku4_0) (KC (s4.n + 1) 3005)) s4 s20 := hE8.comp st20 (by intro l hl hk; simp only [KC, KO, KU, K0] at hk ⊢; omega)
          have hE12 : Step (KU (KO ku4_0) (KC (s4.n + 1) 3005)) s10 s20 := hE12.comp st20 (by intro l hl hk; simp only [KC, KO, KU, K0] at hk ⊢; omega)
          replace hp0 := hp0.up' st20
          replace hqx19 := hqx19.up' st20
          replace h19_0 := h19_0.up' st20
          replace h4_0 := h4_0.up' st20
          refine k_assign rfl rfl ?_
          refine k_nil ?_
          refine k_keep [(0, _), (2, _), (3, _), (4, _), (5, _), (6, _)] ⟨rfl, rfl, rfl, rfl, rfl, rfl, trivial⟩ ?_
          refine k_seq ?_
          refine k_region ?_
          refine k_move rfl rfl ?_
          obtain ⟨x22, hx22, h⟩ := ob h
          refine k_call cal12 rfl (code_Writer_Bytes_own_w  h4_0 hx22) rfl ?_
          rintro s21 v21_0 st21 ⟨_, l21_0, rfl, hl21_0, h21_0⟩
          have szs21 := st21.size
          have hS : Step K0 s s21 := hS.trans0 st21
          have hE5 : Step (KO ku4_0) s4 s21 := hE5.trans0 st21
          have hE8 : Step (KU (KO ku4_0) (KC (s4.n + 1) 3005)) s4 s21 := hE8.trans0 st21
          have hE12 : Step (KU (KO ku4_0) (KC (s4.n + 1) 3005)) s10 s21 := hE12.trans0 st21
          replace hp0 := hp0.up' st21
          replace h4_0 := h4_0.up' st21
          replace h20 := h20.up' st21
          obtain ⟨l21_0, hl21_0, h21_0⟩ := Own.anew 2210 h21_0 hl21_0 szs21
          have lt21_0 := Own.le1 h21_0
          refine k_assign rfl rfl ?_
          refine k_nil ?_
          refine k_keep [(0, _), (2, _), (3, _), (4, _), (5, _), (6, _), (7, _)] ⟨rfl, rfl, rfl, rfl, rfl, rfl, rfl, trivial⟩ ?_
          refine k_seq ?_
          refine k_seq ?_
          refine k_draw K0 27 [(false, 0), (false, 1), (false, 2), (false, 3), (false, 4), (false, 5), (false, 6), (true, 7), (false, 8), (false, 9), (false, 10), (false, 11), (false, 12), (false, 13), (false, 14), (false, 15), (false, 16), (false, 18), (false, 19), (false, 20), (false, 21), (false, 22), (true, 17), (true, 23), (false, 24), (false, 25), (false, 26)] mixed (fun _ h => h) rfl rfl ?_
          intro s22 st22
          have szs22 := st22.size
          have hS : Step K0 s s22 := hS.trans0 st22
          have hE5 : Step (KO ku4_0) s4 s22 := hE5.trans0 st22
          have hE8 : Step (KU (KO ku4_0) (KC (s4.n + 1) 3005)) s4 s22 := hE8.trans0 st22
          have hE12 : Step (KU (KO ku4_0) (KC (s4.n + 1) 3005)) s10 s22 := hE12.trans0 st22
          replace hp0 := hp0.up' st22
          replace h4_0 := h4_0.up' st22
          replace h20 := h20.up' st22
          replace h21_0 := h21_0.up' st22
          refine rd_read (v21_0) rfl rfl (fun s23 st23 => ?_) ?_
          · try replace hp0 := hp0.up' st23
            try replace h4_0 := h4_0.up' st23
            try replace h20 := h20.up' st23
            try replace h21_0 := h21_0.up' st23
            refine k_move rfl rfl ?_
            exact fq_end
          refine rd_read (S x22) rfl rfl (fun s24 st24 => ?_) ?_
          · try replace hp0 := hp0.up' st24
            try replace h4_0 := h4_0.up' st24
            try replace h20 := h20.up' st24
            try replace h21_0 := h21_0.up' st24
            refine k_bts (m := x22) Try.underlying27 Try.underlying5 Try.underlying9 rfl (h21_0.sl) rfl ?_
            exact fq_end
          refine rd_read (v20) rfl rfl (fun s25 st25 => ?_) ?_
          · try replace hp0 := hp0.up' st25
            try replace h4_0 := h4_0.up' st25
            try replace h20 := h20.up' st25
            try replace h21_0 := h21_0.up' st25
            refine k_move rfl rfl ?_
            exact fq_end
          refine rd_read (S x21) rfl rfl (fun s26 st26 => ?_) ?_
          · try replace hp0 := hp0.up' st26
            try replace h4_0 := h4_0.up' st26
            try replace h20 := h20.up' st26
            try replace h21_0 := h21_0.up' st26
            refine k_bts (m := x21) Try.underlying27 Try.underlying5 Try.underlying9 rfl (h20.sl) rfl ?_
            exact fq_end
          refine rd_read (.bool (decide (x22 ≠ x21))) rfl rfl (fun s27 st27 => ?_) ?_
          · try replace hp0 := hp0.up' st27
            try replace h4_0 := h4_0.up' st27
            try replace h20 := h20.up' st27
            try replace h21_0 := h21_0.up' st27
            refine k_neq_str rfl rfl rfl ?_
            exact fq_end
          refine rd_read (.bool (decide (x22 ≠ x21))) rfl rfl (fun s28 st28 => ?_) ?_
          · try replace hp0 := hp0.up' st28
            try replace h4_0 := h4_0.up' st28
            try replace h20 := h20.up' st28
            try replace h21_0 := h21_0.up' st28
            refine k_move rfl rfl ?_
            exact fq_end
          refine rd_split (fun c29 => ?_) (fun c29 => ?_)
          · -- t46 True
            have h := itT h c29
            refine rd_read undef rfl rfl (fun s30 st30 => ?_) ?_
            · refine k_no rfl rfl rfl rfl ?_
              exact fq_end
            refine rd_act rfl rfl ?_
            refine k_no rfl rfl rfl rfl ?_
            refine rd_cont (Step.refl _) ?_
            refine rd_read undef rfl rfl (fun s31 st31 => ?_) ?_
            · refine k_no rfl rfl rfl rfl ?_
              exact fq_end
            refine rd_read undef rfl rfl (fun s32 st32 => ?_) ?_
            · refine k_no rfl rfl rfl rfl ?_
              exact fq_end
            refine rd_read (.bool true) rfl rfl (fun s33 st33 => ?_) ?_
            · try replace hp0 := hp0.up' st33
              try replace h4_0 := h4_0.up' st33
              try replace h20 := h20.up' st33
              try replace h21_0 := h21_0.up' st33
              refine k_pickT rfl rfl rfl rfl ?_
              exact fq_end
            refine rd_read (.bool true) rfl rfl (fun s34 st34 => ?_) ?_
            · try replace hp0 := hp0.up' st34
              try replace h4_0 := h4_0.up' st34
              try replace h20 := h20.up' st34
              try replace h21_0 := h21_0.up' st34
              refine k_move rfl rfl ?_
              exact fq_end
            refine rd_read undef rfl rfl (fun s35 st35 => ?_) ?_
            · refine k_no rfl rfl rfl rfl ?_
              exact fq_end
            refine rd_read undef rfl rfl (fun s36 st36 => ?_) ?_
            · refine k_no rfl rfl rfl rfl ?_
              exact fq_end
            refine rd_read undef rfl rfl (fun s37 st37 => ?_) ?_
            · refine k_no rfl rfl rfl rfl ?_
              exact fq_end
            refine rd_read undef rfl rfl (fun s38 st38 => ?_) ?_
            · refine k_no rfl rfl rfl rfl ?_
              exact fq_end
            refine rd_read undef rfl rfl (fun s39 st39 => ?_) ?_
            · refine k_no rfl rfl rfl rfl ?_
              exact fq_end
            refine rd_read undef rfl rfl (fun s40 st40 => ?_) ?_
            · refine k_no rfl rfl rfl rfl ?_
              exact fq_end
            refine rd_read undef rfl rfl (fun s41 st41 => ?_) ?_
            · refine k_no rfl rfl rfl rfl ?_
              exact fq_end
            refine rd_read undef rfl rfl (fun s42 st42 => ?_) ?_
            · refine k_no rfl rfl rfl rfl ?_
              exact fq_end
            refine rd_read undef rfl rfl (fun s43 st43 => ?_) ?_
            · refine k_no rfl rfl rfl rfl ?_
              exact fq_end
            refine rd_read undef rfl rfl (fun s44 st44 => ?_) ?_
            · refine k_no rfl rfl rfl rfl ?_
              exact fq_end
            refine rd_act rfl rfl ?_
            refine k_no rfl rfl rfl rfl ?_
            refine rd_cont (Step.refl _) ?_
            refine rd_act rfl rfl ?_
            refine k_no rfl rfl rfl rfl ?_
            refine rd_cont (Step.refl _) ?_
            refine rd_read undef rfl rfl (fun s45 st45 => ?_) ?_
            · refine k_no rfl rfl rfl rfl ?_
              exact fq_end
            refine rd_read undef rfl rfl (fun s46 st46 => ?_) ?_
            · refine k_no rfl rfl rfl rfl ?_
              exact fq_end
            refine rd_read (.bool true) rfl rfl (fun s47 st47 => ?_) ?_
            · try replace hp0 := hp0.up' st47
              try replace h4_0 := h4_0.up' st47
              try replace h20 := h20.up' st47
              try replace h21_0 := h21_0.up' st47
              refine k_pickT rfl rfl rfl rfl ?_
              exact fq_end
            refine rd_nil ?_
            refine k_nil ?_
            refine k_keep [(0, _), (2, _), (3, _), (4, _), (5, _), (6, _), (7, _), (67, _)] ⟨rfl, rfl, rfl, rfl, rfl, rfl, rfl, rfl, trivial⟩ ?_
            refine k_cond_true rfl ?_
            refine k_seq ?_
            refine k_region ?_
            refine k_assign rfl rfl ?_
            refine k_nil ?_
            refine k_keep [(0, _), (2, _), (3, _), (4, _), (5, _), (6, _), (7, _)] ⟨rfl, rfl, rfl, rfl, rfl, rfl, rfl, trivial⟩ ?_
            refine k_ret ?_
            obtain rfl := Option.some.inj h
            refine ⟨_, rfl, Ret.mk hS ?_⟩
            exact rfl
          · -- t46 False
            have h := itF h c29
            refine rd_read (.pointer none) rfl rfl (fun s48 st48 => ?_) ?_
            · try replace hp0 := hp0.up' st48
              try replace h4_0 := h4_0.up' st48
              try replace h20 := h20.up' st48
              try replace h21_0 := h21_0.up' st48
              refine k_yes rfl rfl ?_
              refine k_move rfl rfl ?_
              exact fq_end
            refine rd_act rfl rfl ?_
            refine k_yes rfl rfl ?_
            obtain ⟨x23, hx23, h⟩ := ob h
            refine k_call cal12 rfl (code_Writer_Bytes_nil_w   hx23) rfl ?_
            rintro s49 v49_0 st49 ⟨_, rfl, h49_0⟩
            have szs49 := st49.size
            have hS : Step K0 s s49 := hS.trans0 st49
            have hE5 : Step (KO ku4_0) s4 s49 := hE5.trans0 st49
            have hE8 : Step (KU (KO ku4_0) (KC (s4.n + 1) 3005)) s4 s49 := hE8.trans0 st49
            have hE12 : Step (KU (KO ku4_0) (KC (s4.n + 1) 3005)) s10 s49 := hE12.trans0 st49
            replace hp0 := hp0.up' st49
            replace h4_0 := h4_0.up' st49
            replace h20 := h20.up' st49
            replace h21_0 := h21_0.up' st49
            refine rd_cont (st49) ?_
            refine rd_read (.int .i64 (x23.length : Int)) rfl rfl (fun s50 st50 => ?_) ?_
            · try replace hp0 := hp0.up' st50
              try replace h49_0 := h49_0.up' st50
              try replace h4_0 := h4_0.up' st50
              try replace h20 := h20.up' st50
              try replace h21_0 := h21_0.up' st50
              refine k_yes rfl rfl ?_
              refine k_len Try.underlying27 rfl (SL.of_R h49_0).hasLen rfl ?_
              refine k_as (v := .int .i64 (x23.length : Int)) (by simp only [List.length_map]) ?_
              exact fq_end
            refine rd_read (.bool (decide ((x23.length : Int) ≠ 0))) rfl rfl (fun s51 st51 => ?_) ?_
            · try replace hp0 := hp0.up' st51
              try replace h49_0 := h49_0.up' st51
              try replace h4_0 := h4_0.up' st51
              try replace h20 := h20.up' st51
              try replace h21_0 := h21_0.up' st51
              refine k_yes rfl rfl ?_
              refine k_neq rfl rfl rfl ?_
              exact fq_end
            refine rd_read (.bool (decide ((x23.length : Int) ≠ 0))) rfl rfl (fun s52 st52 => ?_) ?_
            · try replace hp0 := hp0.up' st52
              try replace h49_0 := h49_0.up' st52
              try replace h4_0 := h4_0.up' st52
              try replace h20 := h20.up' st52
              try replace h21_0 := h21_0.up' st52
              refine k_pickF rfl rfl rfl rfl ?_
              exact fq_end
            refine rd_read (.bool (decide ((x23.length : Int) ≠ 0))) rfl rfl (fun s53 st53 => ?_) ?_
            · try replace hp0 := hp0.up' st53
              try replace h49_0 := h49_0.up' st53
              try replace h4_0 := h4_0.up' st53
              try replace h20 := h20.up' st53
              try replace h21_0 := h21_0.up' st53
              refine k_move rfl rfl ?_
              exact fq_end
            refine rd_split (fun c54 => ?_) (fun c54 => ?_)
            · -- t52 True
              have h := itT h c54
              refine rd_read undef rfl rfl (fun s55 st55 => ?_) ?_
              · refine k_no rfl rfl rfl rfl ?_
                exact fq_end
              refine rd_read undef rfl rfl (fun s56 st56 => ?_) ?_
              · refine k_no rfl rfl rfl rfl ?_
                exact fq_end
              refine rd_read undef rfl rfl (fun s57 st57 => ?_) ?_
              · refine k_no rfl rfl rfl rfl ?_
                exact fq_end
              refine rd_read undef rfl rfl (fun s58 st58 => ?_) ?_
              · refine k_no rfl rfl rfl rfl ?_
                exact fq_end
              refine rd_read undef rfl rfl (fun s59 st59 => ?_) ?_
              · refine k_no rfl rfl rfl rfl ?_
                exact fq_end
              refine rd_read undef rfl rfl (fun s60 st60 => ?_) ?_
              · refine k_no rfl rfl rfl rfl ?_
                exact fq_end
              refine rd_read undef rfl rfl (fun s61 st61 => ?_) ?_
              · refine k_no rfl rfl rfl rfl ?_
                exact fq_end
              refine rd_read undef rfl rfl (fun s62 st62 => ?_) ?_
              · refine k_no rfl rfl rfl rfl ?_
                exact fq_end
              refine rd_read undef rfl rfl (fun s63 st63 => ?_) ?_
              · refine k_no rfl rfl rfl rfl ?_
                exact fq_end
              refine rd_read undef rfl rfl (fun s64 st64 => ?_) ?_
              · refine k_no rfl rfl rfl rfl ?_
                exact fq_end
              refine rd_act rfl rfl ?_
              refine k_no rfl rfl rfl rfl ?_
              refine rd_cont (Step.refl _) ?_
              refine rd_act rfl rfl ?_
              refine k_no rfl rfl rfl rfl ?_
              refine rd_cont (Step.refl _) ?_
              refine rd_read undef rfl rfl (fun s65 st65 => ?_) ?_
              · refine k_no rfl rfl rfl rfl ?_
                exact fq_end
              refine rd_read undef rfl rfl (fun s66 st66 => ?_) ?_
              · refine k_no rfl rfl rfl rfl ?_
                exact fq_end
              refine rd_read (.bool true) rfl rfl (fun s67 st67 => ?_) ?_
              · try replace hp0 := hp0.up' st67
                try replace h49_0 := h49_0.up' st67
                try replace h4_0 := h4_0.up' st67
                try replace h20 := h20.up' st67
                try replace h21_0 := h21_0.up' st67
                refine k_pickT rfl rfl rfl rfl ?_
                exact fq_end
              refine rd_nil ?_
              refine k_nil ?_
              refine k_keep [(0, _), (2, _), (3, _), (4, _), (5, _), (6, _), (7, _), (67, _)] ⟨rfl, rfl, rfl, rfl, rfl, rfl, rfl, rfl, trivial⟩ ?_
              refine k_cond_true rfl ?_
              refine k_seq ?_
              refine k_region ?_
              refine k_assign rfl rfl ?_
              refine k_nil ?_
              refine k_keep [(0, _), (2, _), (3, _), (4, _), (5, _), (6, _), (7, _)] ⟨rfl, rfl, rfl, rfl, rfl, rfl, rfl, trivial⟩ ?_
              refine k_ret ?_
              obtain rfl := Option.some.inj h
              refine ⟨_, rfl, Ret.mk hS ?_⟩
              exact rfl
            · -- t52 False
              have h := itF h c54
              refine rd_read (v0) rfl rfl (fun s68 st68 => ?_) ?_
              · try replace hp0 := hp0.up' st68
                try replace h49_0 := h49_0.up' st68
                try replace h4_0 := h4_0.up' st68
                try replace h20 := h20.up' st68
                try replace h21_0 := h21_0.up' st68
                refine k_yes rfl rfl ?_
                refine k_move rfl rfl ?_
                exact fq_end
              refine rd_read (.int .i64 x8) rfl rfl (fun s69 st69 => ?_) ?_
              · try replace hp0 := hp0.up' st69
                try replace h49_0 := h49_0.up' st69
                try replace h4_0 := h4_0.up' st69
                try replace h20 := h20.up' st69
                try replace h21_0 := h21_0.up' st69
                refine k_yes rfl rfl ?_
                refine k_move rfl rfl ?_
                exact fq_end
              obtain ⟨x24, hx24, h⟩ := ob h
              refine rd_ix rfl (wanted_yes rfl rfl rfl) Try.underlying32 size36 rfl rfl (SL.of_R hp0) (geti_out hx24).1 (geti_map hx24) rfl ?_
              intro qx24 hqx24
              refine rd_fa rfl (wanted_yes rfl rfl rfl) rfl hqx24 (by rfl) fld36_2 rfl ?_
              intro q70 h70
              refine rd_read (.int .u64 (x24.X.toNat : Int)) rfl rfl (fun s71 st71 => ?_) ?_
              · try replace hp0 := hp0.up' st71
                try replace h49_0 := h49_0.up' st71
                try replace hqx24 := hqx24.up' st71
                try replace h70 := h70.up' st71
                try replace h4_0 := h4_0.up' st71
                try replace h20 := h20.up' st71
                try replace h21_0 := h21_0.up' st71
                refine k_yes rfl rfl ?_
                refine k_load_val one29 rfl h70 rfl ?_
                exact fq_end
              refine rd_read (v0) rfl rfl (fun s72 st72 => ?_) ?_
              · try replace hp0 := hp0.up' st72
                try replace h49_0 := h49_0.up' st72
                try replace hqx24 := hqx24.up' st72
                try replace h70 := h70.up' st72
                try replace h4_0 := h4_0.up' st72
                try replace h20 := h20.up' st72
                try replace h21_0 := h21_0.up' st72
                refine k_yes rfl rfl ?_
                refine k_move rfl rfl ?_
                exact fq_end
              refine rd_read (.int .i64 x8) rfl rfl (fun s73 st73 => ?_) ?_
              · try replace hp0 := hp0.up' st73
                try replace h49_0 := h49_0.up' st73
                try replace hqx24 := hqx24.up' st73
                try replace h70 := h70.up' st73
                try replace h4_0 := h4_0.up' st73
                try replace h20 := h20.up' st73
                try replace h21_0 := h21_0.up' st73
                refine k_yes rfl rfl ?_
                refine k_move rfl rfl ?_
                exact fq_end
              obtain ⟨x25, hx25, h⟩ := ob h
              refine rd_ix rfl (wanted_yes rfl rfl rfl) Try.underlying32 size36 rfl rfl (SL.of_R hp0) (geti_out hx25).1 (geti_map hx25) rfl ?_
              intro qx25 hqx25
              refine rd_fa rfl (wanted_yes rfl rfl rfl) rfl hqx25 (by rfl) fld36_2 rfl ?_
              intro q74 h74
              refine rd_read (.int .u64 (x25.X.toNat : Int)) rfl rfl (fun s75 st75 => ?_) ?_
              · try replace hp0 := hp0.up' st75
                try replace h49_0 := h49_0.up' st75
                try replace hqx24 := hqx24.up' st75
                try replace h70 := h70.up' st75
                try replace hqx25 := hqx25.up' st75
                try replace h74 := h74.up' st75
                try replace h4_0 := h4_0.up' st75
                try replace h20 := h20.up' st75
                try replace h21_0 := h21_0.up' st75
                refine k_yes rfl rfl ?_
                refine k_load_val one29 rfl h74 rfl ?_
                exact fq_end
              refine rd_act rfl rfl ?_
              refine k_yes rfl rfl ?_
              obtain ⟨x26, hx26, h⟩ := ob h
              refine k_call cal17 rfl (code_Size_w   hx26) rfl ?_
              rintro s76 vr76 st76 rfl
              have szs76 := st76.size
              have hS : Step K0 s s76 := hS.trans0 st76
              have hE5 : Step (KO ku4_0) s4 s76 := hE5.trans0 st76
              have hE8 : Step (KU (KO ku4_0) (KC (s4.n + 1) 3005)) s4 s76 := hE8.trans0 st76
              have hE12 : Step (KU (KO ku4_0) (KC (s4.n + 1) 3005)) s10 s76 := hE12.trans0 st76
              replace hp0 := hp0.up' st76
              replace h49_0 := h49_0.up' st76
              replace hqx24 := hqx24.up' st76
              replace h70 := h70.up' st76
              replace hqx25 := hqx25.up' st76
              replace h74 := h74.up' st76
              replace h4_0 := h4_0.up' st76
              replace h20 := h20.up' st76
              replace h21_0 := h21_0.up' st76
              refine rd_cont (st76) ?_
              refine rd_act rfl rfl ?_
              refine k_yes rfl rfl ?_
              obtain ⟨x27, hx27, h⟩ := ob h
              refine k_call cal18 rfl (ref02_Short_w   hx27) rfl ?_
              rintro s77 v77_0 st77 ⟨_, rfl, h77_0⟩
              have szs77 := st77.size
              have hS : Step K0 s s77 := hS.trans0 st77
              have hE5 : Step (KO ku4_0) s4 s77 := hE5.trans0 st77
              have hE8 : Step (KU (KO ku4_0) (KC (s4.n + 1) 3005)) s4 s77 := hE8.trans0 st77
              have hE12 : Step (KU (KO ku4_0) (KC (s4.n + 1) 3005)) s10 s77 := hE12.trans0 st77
              replace hp0 := hp0.up' st77
              replace h49_0 := h49_0.up' st77
              replace hqx24 := hqx24.up' st77
              replace h70 := h70.up' st77
              replace hqx25 := hqx25.up' st77
              replace h74 := h74.up' st77
              replace h4_0 := h4_0.up' st77
              replace h20 := h20.up' st77
              replace h21_0 := h21_0.up' st77
              refine rd_cont (st77) ?_
              refine rd_read (.int .i64 (x27.length : Int)) rfl rfl (fun s78 st78 => ?_) ?_
              · try replace hp0 := hp0.up' st78
                try replace h49_0 := h49_0.up' st78
                try replace hqx24 := hqx24.up' st78
                try replace h70 := h70.up' st78
                try replace hqx25 := hqx25.up' st78
                try replace h74 := h74.up' st78
                try replace h77_0 := h77_0.up' st78
                try replace h4_0 := h4_0.up' st78
                try replace h20 := h20.up' st78
                try replace h21_0 := h21_0.up' st78
                refine k_yes rfl rfl ?_
                refine k_len Try.underlying27 rfl (SL.of_R h77_0).hasLen rfl ?_
                refine k_as (v := .int .i64 (x27.length : Int)) (by simp only [List.length_map]) ?_
                exact fq_end
              refine rd_read (.bool (decide (x26 ≠ (x27.length : Int)))) rfl rfl (fun s79 st79 => ?_) ?_
              · try replace hp0 := hp0.up' st79
                try replace h49_0 := h49_0.up' st79
                try replace hqx24 := hqx24.up' st79
                try replace h70 := h70.up' st79
                try replace hqx25 := hqx25.up' st79
                try replace h74 := h74.up' st79
                try replace h77_0 := h77_0.up' st79
                try replace h4_0 := h4_0.up' st79
                try replace h20 := h20.up' st79
                try replace h21_0 := h21_0.up' st79
                refine k_yes rfl rfl ?_
                refine k_neq rfl rfl rfl ?_
                exact fq_end
              refine rd_read (.bool (decide (x26 ≠ (x27.length : Int)))) rfl rfl (fun s80 st80 => ?_) ?_
              · try replace hp0 := hp0.up' st80
                try replace h49_0 := h49_0.up' st80
                try replace hqx24 := hqx24.up' st80
                try replace h70 := h70.up' st80
                try replace hqx25 := hqx25.up' st80
                try replace h74 := h74.up' st80
                try replace h77_0 := h77_0.up' st80
                try replace h4_0 := h4_0.up' st80
                try replace h20 := h20.up' st80
                try replace h21_0 := h21_0.up' st80
                refine k_pickF rfl rfl rfl rfl ?_
                exact fq_end
              refine rd_nil ?_
              refine k_nil ?_
              refine k_keep [(0, _), (2, _), (3, _), (4, _), (5, _), (6, _), (7, _), (67, _)] ⟨rfl, rfl, rfl, rfl, rfl, rfl, rfl, rfl, trivial⟩ ?_
              refine k_cond_dec rfl (fun c81 => ?_) (fun c81 => ?_)
              · -- T
                have h := itT h c81
                refine k_seq ?_
                refine k_region ?_
                refine k_assign rfl rfl ?_
                refine k_nil ?_
                refine k_keep [(0, _), (2, _), (3, _), (4, _), (5, _), (6, _), (7, _)] ⟨rfl, rfl, rfl, rfl, rfl, rfl, rfl, trivial⟩ ?_
                refine k_ret ?_
                obtain rfl := Option.some.inj h
                refine ⟨_, rfl, Ret.mk hS ?_⟩
                exact rfl
              · -- F
                have h := itF h c81
                refine k_skip ?_
                refine k_seq ?_
                refine k_keep [(0, _), (2, _), (3, _), (4, _), (5, _), (6, _), (7, _)] ⟨rfl, rfl, rfl, rfl, rfl, rfl, rfl, trivial⟩ ?_
                obtain ⟨kj28, hK82, h⟩ := jn_out h
                have hE82 : Step (KC l21_0.o l21_0.c) s77 s77 := (Step.refl _).of0 (by first | exact fun _ h => h | (intro c h; simp [KC, KO, KU] at h <;> omega))
                refine k_cutc (X := St × (List UInt8)) [(0, v0), (2, .bool false), (3, .pointer none), (4, v4_0), (5, v20), (6, .int .i64 x8)] (fun (xL : St × (List UInt8)) => match xL with | (sl, x29) => []) (fun (xL : St × (List UInt8)) (wL : World) => match xL with | (sl, x29) => sl.w = wL ∧ Step (KC l21_0.o l21_0.c) s77 sl ∧ (Own sl ⟨l21_0.o, l21_0.c⟩ 5 1 v21_0 (x29.map bD)) ∧ kj28 x29 = some r) ?_ ?_
                · -- the ways
                  refine k_seq ?_
                  refine k_region ?_
                  refine k_assign rfl rfl ?_
                  refine k_nil ?_
                  refine k_block ?_
                  refine k_loopc (X := St × Int × (List UInt8) × Nat) [(0, _), (2, _), (3, _), (4, _), (5, _), (6, _), (7, _)] (fun (xL : St × Int × (List UInt8) × Nat) => match xL with | (sl, x30, x31, j) => [(8, .int .i64 x30)]) (fun (xL : St × Int × (List UInt8) × Nat) (wL : World) => match xL with | (sl, x30, x31, j) => sl.w = wL ∧ Step (KC l21_0.o l21_0.c) s77 sl ∧ (Own sl ⟨l21_0.o, l21_0.c⟩ 5 1 v21_0 (x31.map bD)) ∧ law02_CodeWrites_l2 kj28 j x30 x31 = some r) (fun (xL : St × Int × (List UInt8) × Nat) => match xL with | (sl, x30, x31, j) => j) (s77, 0, x22, FU) ⟨rfl, rfl, rfl, rfl, rfl, rfl, rfl, trivial⟩ ⟨(by first | rfl | (simp <;> rfl)), trivial⟩ ⟨rfl, (Step.refl _).of0 (by first | exact fun _ h => h | (intro c h; simp [KC, KO, KU] at h <;> omega)), h21_0, h⟩ ?_
                  rintro ⟨s84, x30, x31, j⟩ wL ⟨rfl, hE83, h21_0, h⟩
                  cases j with
                  | zero => rw [law02_CodeWrites_l2] at h; exact (noneNe h).elim
                  | succ j =>
                  rw [law02_CodeWrites_l2] at h
                  have szs84 := hE83.size
                  have hS : Step K0 s s84 := hS.comp hE83 (by intro l hl hk; simp only [KC, KO, KU, K0] at hk ⊢; omega)
                  have hE5 : Step (KO ku4_0) s4 s84 := hE5.comp hE83 (by intro l hl hk; simp only [KC, KO, KU, K0] at hk ⊢; omega)
                  have hE8 : Step (KU (KO ku4_0) (KC (s4.n + 1) 3005)) s4 s84 := hE8.comp hE83 (by intro l hl hk; simp only [KC, KO, KU, K0] at hk ⊢; omega)
                  have hE12 : Step (KU (KO ku4_0) (KC (s4.n + 1) 3005)) s10 s84 := hE12.comp hE83 (by intro l hl hk; simp only [KC, KO, KU, K0] at hk ⊢; omega)
                  have hE82 : Step (KC l21_0.o l21_0.c) s77 s84 := hE82.comp hE83 (by intro l hl hk; simp only [KC, KO, KU, K0] at hk ⊢; omega)
                  replace hp0 := hp0.up' hE83
                  replace h4_0 := h4_0.up' hE83
                  replace h20 := h20.up' hE83
                  refine k_seq ?_
                  refine k_seq ?_
                  refine k_region ?_
                  refine k_move rfl rfl ?_
                  refine k_move rfl rfl ?_
                  refine k_len Try.underlying27 rfl (h21_0.sl).hasLen rfl ?_
                  refine k_as (v := .int .i64 (x31.length : Int)) (by simp only [List.length_map]) ?_
                  refine k_lss rfl rfl rfl ?_
                  refine k_nil ?_
                  refine k_keep [(0, _), (2, _), (3, _), (4, _), (5, _), (6, _), (7, _), (8, _), (71, _)] ⟨rfl, rfl, rfl, rfl, rfl, rfl, rfl, rfl, rfl, trivial⟩ ?_
                  refine k_cond_dec rfl (fun c85 => ?_) (fun c85 => ?_)
                  · -- T
                    have h := itT h c85
                    refine k_skip ?_
                    refine k_seq ?_
                    refine k_block ?_
                    refine k_region ?_
                    refine k_move rfl rfl ?_
                    refine k_move rfl rfl ?_
                    obtain ⟨x32, hx32, h⟩ := ob h
                    refine k_ixaddr_own Try.underlying27 size5 rfl rfl h21_0 (geti_out hx32).1 (geti_map hx32) rfl ?_
                    intro qx32 hqx32 heqx32
                    refine k_load_val one5 rfl hqx32 rfl ?_
                    refine k_add rfl rfl rfl ?_
                    refine k_as (congrArg (Value.int .u8) (w8 _)) ?_
                    obtain ⟨x33, hx33, h⟩ := ob h
                    refine k_ixaddr_own Try.underlying27 size5 rfl rfl h21_0 (geti_out hx33).1 (geti_map hx33) rfl ?_
                    intro qx33 hqx33 heqx33
                    refine k_store_elt (dd := bD (ofI8 ((x32.toNat : Int) + 1))) size5 rfl rfl h21_0 heqx33 (by rw [List.length_map]; exact (List.getElem?_eq_some_iff.1 (geti_out hx33).2.2).1) (R.val rfl) rfl ?_
                    intro s86 st86 h21_0
                    rw [← List.map_set] at h21_0
                    have szs86 := st86.size
                    have hS : Step K0 s s86 := hS.comp st86 (by intro l hl hk; simp only [KC, KO, KU, K0] at hk ⊢; omega)
                    have hE5 : Step (KO ku4_0) s4 s86 := hE5.comp st86 (by intro l hl hk; simp only [KC, KO, KU, K0] at hk ⊢; omega)
                    have hE8 : Step (KU (KO ku4_0) (KC (s4.n + 1) 3005)) s4 s86 := hE8.comp st86 (by intro l hl hk; simp only [KC, KO, KU, K0] at hk ⊢; omega)
                    have hE12 : Step (KU (KO ku4_0) (KC (s4.n + 1) 3005)) s10 s86 := hE12.comp st86 (by intro l hl hk; simp only [KC, KO, KU, K0] at hk ⊢; omega)
                    have hE82 : Step (KC l21_0.o l21_0.c) s77 s86 := hE82.comp st86 (by intro l hl hk; simp only [KC, KO, KU, K0] at hk ⊢; omega)
                    have hE83 : Step (KC l21_0.o l21_0.c) s77 s86 := hE83.comp st86 (by intro l hl hk; simp only [KC, KO, KU, K0] at hk ⊢; omega)
                    replace hp0 := hp0.up' st86
                    replace h4_0 := h4_0.up' st86
                    replace h20 := h20.up' st86
                    refine k_nil ?_
                    refine k_blk ?_
                    refine k_region ?_
                    refine k_move rfl rfl ?_
                    refine k_add rfl rfl rfl ?_
                    refine k_assign rfl rfl ?_
                    refine k_nil ?_
                    exact k_stop ⟨(s86, i64 (x30 + 1), x31.set (x30).toNat (ofI8 ((x32.toNat : Int) + 1)), j), ⟨(by first | rfl | (simp <;> rfl)), trivial⟩, ⟨rfl, rfl, rfl, rfl, rfl, rfl, rfl, trivial⟩, ⟨rfl, hE83, h21_0, h⟩, (by simp)⟩
                  · -- F
                    have h := itF h c85
                    refine k_exit rfl ?_
                    exact k_stop ⟨(s84, x31), trivial, ⟨rfl, rfl, rfl, rfl, rfl, rfl, trivial⟩, ⟨rfl, hE82, h21_0, h⟩⟩
                · -- behind
                  rintro ⟨s87, x29⟩ wL ⟨rfl, hE82, h21_0, h⟩
                  rw [hK82] at h
                  have szs87 := hE82.size
                  have hS : Step K0 s s87 := hS.comp hE82 (by intro l hl hk; simp only [KC, KO, KU, K0] at hk ⊢; omega)
                  have hE5 : Step (KO ku4_0) s4 s87 := hE5.comp hE82 (by intro l hl hk; simp only [KC, KO, KU, K0] at hk ⊢; omega)
                  have hE8 : Step (KU (KO ku4_0) (KC (s4.n + 1) 3005)) s4 s87 := hE8.comp hE82 (by intro l hl hk; simp only [KC, KO, KU, K0] at hk ⊢; omega)
                  have hE12 : Step (KU (KO ku4_0) (KC (s4.n + 1) 3005)) s10 s87 := hE12.comp hE82 (by intro l hl hk; simp only [KC, KO, KU, K0] at hk ⊢; omega)
                  replace hp0 := hp0.up' hE82
                  replace h4_0 := h4_0.up' hE82
                  replace h20 := h20.up' hE82
                  refine k_seq ?_
                  refine k_region ?_
                  refine k_move rfl rfl ?_
                  refine k_gtr rfl rfl rfl ?_
                  refine k_move rfl rfl ?_
                  have hE88 : Step K0 s87 s87 := (Step.refl _).of0 (by first | exact fun _ h => h | (intro c h; simp [KC, KO, KU] at h <;> omega))
                  refine k_cutl (X := St) 6 [(0, v0), (2, .bool false), (3, .pointer none), (4, v4_0), (5, v20), (6, .int .i64 x8), (80, .int .i64 x8), (81, .bool (decide (40 < x8)))] (fun _ => [(88, .bool (decide ((40 < x8) ∧ (x8 < i64 ((a0.length : Int) - 3)))))]) (fun sl wL => sl.w = wL ∧ Step K0 s87 sl) ?_ ?_
                  · -- the ways
                    refine k_again 82 rfl ?_
                    refine k_split (fun c89 => ?_) (fun c89 => ?_)
                    · -- t82 True
                      refine k_yes rfl rfl ?_
                      refine k_move rfl rfl ?_
                      refine k_yes rfl rfl ?_
                      refine k_move rfl rfl ?_
                      refine k_yes rfl rfl ?_
                      refine k_len Try.underlying32 rfl (SL.of_R hp0).hasLen rfl ?_
                      refine k_as (v := .int .i64 (a0.length : Int)) (by simp only [List.length_map]) ?_
                      refine k_yes rfl rfl ?_
                      refine k_sub_ rfl rfl rfl ?_
                      refine k_yes rfl rfl ?_
                      refine k_lss rfl rfl rfl ?_
                      refine k_pickT rfl rfl rfl rfl ?_
                      exact k_met ⟨s87, ⟨(congrArg (fun b => some (Value.bool b)) (by first | exact decide_eq_decide.2 ⟨fun h => ⟨c89, h⟩, fun h => h.2⟩ | exact (decide_eq_false (fun h => c89 h.1)).symm | (simp [c89]; done) | (simp [c89, i64] <;> omega))), trivial⟩, ⟨rfl, rfl, rfl, rfl, rfl, rfl, rfl, rfl, trivial⟩, rfl, hE88⟩
                    · -- t82 False
                      refine k_no rfl rfl rfl rfl ?_
                      refine k_no rfl rfl rfl rfl ?_
                      refine k_no rfl rfl rfl rfl ?_
                      refine k_no rfl rfl rfl rfl ?_
                      refine k_no rfl rfl rfl rfl ?_
                      refine k_pickF rfl rfl rfl rfl ?_
                      exact k_met ⟨s87, ⟨(congrArg (fun b => some (Value.bool b)) (by first | exact decide_eq_decide.2 ⟨fun h => ⟨c89, h⟩, fun h => h.2⟩ | exact (decide_eq_false (fun h => c89 h.1)).symm | (simp [c89]; done) | (simp [c89, i64] <;> omega))), trivial⟩, ⟨rfl, rfl, rfl, rfl, rfl, rfl, rfl, rfl, trivial⟩, rfl, hE88⟩
                  · -- behind
                    rintro s90 wL ⟨rfl, hE88⟩
                    have szs90 := hE88.size
                    have hS : Step K0 s s90 := hS.trans0 hE88
                    have hE5 : Step (KO ku4_0) s4 s90 := hE5.trans0 hE88
                    have hE8 : Step (KU (KO ku4_0) (KC (s4.n + 1) 3005)) s4 s90 := hE8.trans0 hE88
                    have hE12 : Step (KU (KO ku4_0) (KC (s4.n + 1) 3005)) s10 s90 := hE12.trans0 hE88
                    replace hp0 := hp0.up' hE88
                    replace h4_0 := h4_0.up' hE88
                    replace h20 := h20.up' hE88
                    refine k_nil ?_
                    refine k_keep [(0, _), (2, _), (3, _), (4, _), (5, _), (6, _), (88, _)] ⟨rfl, rfl, rfl, rfl, rfl, rfl, rfl, trivial⟩ ?_
                    refine k_cond_dec rfl (fun c91 => ?_) (fun c91 => ?_)
                    · -- T
                      have h := itT h c91
                      refine k_seq ?_
                      refine k_region ?_
                      refine k_move rfl rfl ?_
                      refine k_len Try.underlying32 rfl (SL.of_R hp0).hasLen rfl ?_
                      refine k_as (v := .int .i64 (a0.length : Int)) (by simp only [List.length_map]) ?_
                      refine k_sub_ rfl rfl rfl ?_
                      refine k_assign rfl rfl ?_
                      refine k_nil ?_
                      refine k_keep [(0, _), (2, _), (3, _), (4, _), (5, _), (6, _)] ⟨rfl, rfl, rfl, rfl, rfl, rfl, trivial⟩ ?_
                      refine k_seq ?_
                      refine k_region ?_
                      refine k_assign rfl rfl ?_
                      refine k_nil ?_
                      refine k_block ?_
                      refine k_loopc (X := St × (List UInt8) × Value × Int × (List UInt8) × Nat) [(0, _), (2, _), (3, _), (4, _), (6, _)] (fun (xL : St × (List UInt8) × Value × Int × (List UInt8) × Nat) => match xL with | (sl, x34, v93, x35, x36, j) => [(5, v93), (9, .int .i64 x35)]) (fun (xL : St × (List UInt8) × Value × Int × (List UInt8) × Nat) (wL : World) => match xL with | (sl, x34, v93, x35, x36, j) => sl.w = wL ∧ Step (KU (KO ku4_0) (KC (s4.n + 1) 3005)) s90 sl ∧ (Own sl ⟨s4.n + 1, 3005⟩ 5 1 v93 (x34.map bD)) ∧ (WrS sl ku4_0 v4_0 x36) ∧ law02_CodeWrites_l3 a0 kj11 j x34 x35 x36 = some r) (fun (xL : St × (List UInt8) × Value × Int × (List UInt8) × Nat) => match xL with | (sl, x34, v93, x35, x36, j) => j) (s90, x21, v20, 42, x16, FU) ⟨rfl, rfl, rfl, rfl, rfl, trivial⟩ ⟨(by first | rfl | (simp <;> rfl)), (by first | rfl | (simp <;> rfl)), trivial⟩ ⟨rfl, (Step.refl _).of0 (by first | exact fun _ h => h | (intro c h; simp [KC, KO, KU] at h <;> omega)), h20, h4_0, h⟩ ?_
                      rintro ⟨s94, x34, v93, x35, x36, j⟩ wL ⟨rfl, hE92, h93, h4_0, h⟩
                      cases j with
                      | zero => rw [law02_CodeWrites_l3] at h; exact (noneNe h).elim
                      | succ j =>
                      rw [law02_CodeWrites_l3] at h
                      have szs94 := hE92.size
                      have hS : Step K0 s s94 := hS.comp hE92 (by intro l hl hk; simp only [KC, KO, KU, K0] at hk ⊢; omega)
                      have hE5 : Step (KO ku4_0) s4 s94 := hE5.comp hE92 (by intro l hl hk; simp only [KC, KO, KU, K0] at hk ⊢; omega)
                      have hE8 : Step (KU (KO ku4_0) (KC (s4.n + 1) 3005)) s4 s94 := hE8.comp hE92 (by intro l hl hk; simp only [KC, KO, KU, K0] at hk ⊢; omega)
                      have hE12 : Step (KU (KO ku4_0) (KC (s4.n + 1) 3005)) s10 s94 := hE12.comp hE92 (by intro l hl hk; simp only [KC, KO, KU, K0] at hk ⊢; omega)
                      replace hp0 := hp0.up' hE92
                      refine k_seq ?_
                      refine k_seq ?_
                      refine k_region ?_
                      refine k_move rfl rfl ?_
                      refine k_move rfl rfl ?_
                      refine k_leq rfl rfl rfl ?_
                      refine k_nil ?_
                      refine k_keep [(0, _), (2, _), (3, _), (4, _), (5, _), (6, _), (9, _), (94, _)] ⟨rfl, rfl, rfl, rfl, rfl, rfl, rfl, rfl, trivial⟩ ?_
                      refine k_cond_dec rfl (fun c95 => ?_) (fun c95 => ?_)
                      · -- T
                        have h := itT h c95
                        refine k_skip ?_
                        refine k_seq ?_
                        refine k_block ?_
                        refine k_seq ?_
                        refine k_region ?_
                        refine k_move rfl rfl ?_
                        refine k_move rfl rfl ?_
                        refine k_move rfl rfl ?_
                        obtain ⟨x37, hx37, h⟩ := ob h
                        refine k_ixaddr Try.underlying32 size36 rfl rfl (SL.of_R hp0) (geti_out hx37).1 (geti_map hx37) rfl ?_
                        intro qx37 hqx37
                        refine k_load_agg (by exact agg36) rfl hqx37 rfl ?_
                        intro cs96 h96
                        obtain rfl := opnLaw02Item h96
                        obtain ⟨x38, hx38, h⟩ := ob h
                        refine k_call cal15 rfl (law02_write_w  h4_0 (clsLaw02Item x37) hx38) rfl ?_
                        rintro s97 vr97 st97 ⟨rfl, h4_0⟩
                        have szs97 := st97.size
                        have hS : Step K0 s s97 := hS.comp st97 (by intro l hl hk; simp only [KC, KO, KU, K0] at hk ⊢; omega)
                        have hE5 : Step (KO ku4_0) s4 s97 := hE5.comp st97 (by intro l hl hk; simp only [KC, KO, KU, K0] at hk ⊢; omega)
                        have hE8 : Step (KU (KO ku4_0) (KC (s4.n + 1) 3005)) s4 s97 := hE8.comp st97 (by intro l hl hk; simp only [KC, KO, KU, K0] at hk ⊢; omega)
                        have hE12 : Step (KU (KO ku4_0) (KC (s4.n + 1) 3005)) s10 s97 := hE12.comp st97 (by intro l hl hk; simp only [KC, KO, KU, K0] at hk ⊢; omega)
                        have hE92 : Step (KU (KO ku4_0) (KC (s4.n + 1) 3005)) s90 s97 := hE92.comp st97 (by intro l hl hk; simp only [KC, KO, KU, K0] at hk ⊢; omega)
                        replace hp0 := hp0.up' st97
                        replace hqx37 := hqx37.up' st97
                        replace h93 := h93.up' st97
                        refine k_nil ?_
                        refine k_keep [(0, _), (2, _), (3, _), (4, _), (5, _), (6, _), (9, _)] ⟨rfl, rfl, rfl, rfl, rfl, rfl, rfl, trivial⟩ ?_
                        refine k_region ?_
                        refine k_move rfl rfl ?_
                        refine k_move rfl rfl ?_
                        refine k_move rfl rfl ?_
                        obtain ⟨x39, hx39, h⟩ := ob h
                        refine k_ixaddr Try.underlying32 size36 rfl rfl (SL.of_R hp0) (geti_out hx39).1 (geti_map hx39) rfl ?_
                        intro qx39 hqx39
                        refine k_load_agg (by exact agg36) rfl hqx39 rfl ?_
                        intro cs98 h98
                        obtain rfl := opnLaw02Item h98
                        obtain ⟨x40, hx40, h⟩ := ob h
                        refine k_call cal16 rfl (law02_bytes_w  (clsLaw02Item x39) hx40) rfl ?_
                        rintro s99 v99_0 st99 ⟨_, rfl, h99_0⟩
                        have szs99 := st99.size
                        have hS : Step K0 s s99 := hS.trans0 st99
                        have hE5 : Step (KO ku4_0) s4 s99 := hE5.trans0 st99
                        have hE8 : Step (KU (KO ku4_0) (KC (s4.n + 1) 3005)) s4 s99 := hE8.trans0 st99
                        have hE12 : Step (KU (KO ku4_0) (KC (s4.n + 1) 3005)) s10 s99 := hE12.trans0 st99
                        have hE92 : Step (KU (KO ku4_0) (KC (s4.n + 1) 3005)) s90 s99 := hE92.trans0 st99
                        replace hp0 := hp0.up' st99
                        replace hqx39 := hqx39.up' st99
                        replace h4_0 := h4_0.up' st99
                        replace h93 := h93.up' st99
                        obtain ⟨x41, hx41, h⟩ := ob h
                        refine k_append (es := x40.map bD) elem27 rfl rfl h93 (SL.of_R h99_0) (by have := (app_out hx41).1; simp only [List.length_map] at *; omega) (by have := (app_out hx41).1; simp only [List.length_map] at *; omega) rfl ?_
                        intro s100 v100 st100 h100
                        rw [← List.map_append, ← (app_out hx41).2] at h100
                        have szs100 := st100.size
                        have hS : Step K0 s s100 := hS.comp st100 (by intro l hl hk; simp only [KC, KO, KU, K0] at hk ⊢; omega)
                        have hE5 : Step (KO ku4_0) s4 s100 := hE5.comp st100 (by intro l hl hk; simp only [KC, KO, KU, K0] at hk ⊢; omega)
                        have hE8 : Step (KU (KO ku4_0) (KC (s4.n + 1) 3005)) s4 s100 := hE8.comp st100 (by intro l hl hk; simp only [KC, KO, KU, K0] at hk ⊢; omega)
                        have hE12 : Step (KU (KO ku4_0) (KC (s4.n + 1) 3005)) s10 s100 := hE12.comp st100 (by intro l hl hk; simp only [KC, KO, KU, K0] at hk ⊢; omega)
                        have hE92 : Step (KU (KO ku4_0) (KC (s4.n + 1) 3005)) s90 s100 := hE92.comp st100 (by intro l hl hk; simp only [KC, KO, KU, K0] at hk ⊢; omega)
                        replace hp0 := hp0.up' st100
                        replace hqx39 := hqx39.up' st100
                        replace h99_0 := h99_0.up' st100
                        replace h4_0 := h4_0.up' st100
                        refine k_assign rfl rfl ?_
                        refine k_nil ?_
                        refine k_blk ?_
                        refine k_region ?_
                        refine k_move rfl rfl ?_
                        refine k_add rfl rfl rfl ?_
                        refine k_assign rfl rfl ?_
                        refine k_nil ?_
                        exact k_stop ⟨(s100, x41, v100, i64 (x35 + 1), x38, j), ⟨(by first | rfl | (simp <;> rfl)), (by first | rfl | (simp <;> rfl)), trivial⟩, ⟨rfl, rfl, rfl, rfl, rfl, trivial⟩, ⟨rfl, hE92, h100, h4_0, h⟩, (by simp)⟩
                      · -- F
                        have h := itF h c95
                        refine k_exit rfl ?_
                        refine k_blk ?_
                        exact k_stop ⟨(s94, x34, v93, i64 ((a0.length : Int) - 4), x36), ⟨(by first | rfl | (simp <;> rfl)), (by first | rfl | (simp <;> rfl)), trivial⟩, ⟨rfl, rfl, rfl, rfl, trivial⟩, ⟨rfl, hE12, h93, h4_0, h⟩⟩
                    · -- F
                      have h := itF h c91
                      refine k_skip ?_
                      refine k_blk ?_
                      exact k_stop ⟨(s90, x21, v20, x8, x16), ⟨(by first | rfl | (simp <;> rfl)), (by first | rfl | (simp <;> rfl)), trivial⟩, ⟨rfl, rfl, rfl, rfl, trivial⟩, ⟨rfl, hE12, h20, h4_0, h⟩⟩
        · -- behind
          rintro ⟨s101, x12, v13, x13, x14⟩ wL ⟨rfl, hE12, h13, h4_0, h⟩
          rw [hK12] at h
          have szs101 := hE12.size
          have hS : Step K0 s s101 := hS.comp hE12 (by intro l hl hk; simp only [KC, KO, KU, K0] at hk ⊢; omega)
          have hE5 : Step (KO ku4_0) s4 s101 := hE5.comp hE12 (by intro l hl hk; simp only [KC, KO, KU, K0] at hk ⊢; omega)
          have hE8 : Step (KU (KO ku4_0) (KC (s4.n + 1) 3005)) s4 s101 := hE8.comp hE12 (by intro l hl hk; simp only [KC, KO, KU, K0] at hk ⊢; omega)
          replace hp0 := hp0.up' hE12
          refine k_region ?_
          refine k_move rfl rfl ?_
          refine k_add rfl rfl rfl ?_
          refine k_assign rfl rfl ?_
          refine k_nil ?_
          rw [hkj10] at h
          exact k_stop ⟨(s101, x12, v13, i64 (x13 + 1), x14, j), ⟨(by first | rfl | (simp <;> rfl)), (by first | rfl | (simp <;> rfl)), trivial⟩, ⟨rfl, rfl, rfl, rfl, trivial⟩, ⟨rfl, hE8, h13, h4_0, h⟩, (by simp)⟩
      · -- F
        have h := itF h c11
        refine k_exit rfl ?_
        exact k_stop ⟨(s10, x7, v9, x9), ⟨(by first | rfl | (simp <;> rfl)), trivial⟩, ⟨rfl, rfl, trivial⟩, ⟨rfl, hE5, h9, h4_0, h⟩⟩
    · -- behind
      rintro ⟨s102, x5, v6, x6⟩ wL ⟨rfl, hE5, h6, h4_0, h⟩
      rw [hK5] at h
      have szs102 := hE5.size
      have hS : Step K0 s s102 := hS.comp hE5 (by intro l hl hk; simp only [KC, KO, KU, K0] at hk ⊢; omega)
      refine k_seq ?_
      refine k_keep [(4, _), (5, _)] ⟨rfl, rfl, trivial⟩ ?_
      refine k_draw K0 9 [(false, 0), (false, 3), (false, 4), (true, 1), (false, 2), (false, 5), (false, 6), (true, 7), (false, 8)] mixed (fun _ h => h) rfl rfl ?_
      intro s103 st103
      have szs103 := st103.size
      have hS : Step K0 s s103 := hS.trans0 st103
      replace h4_0 := h4_0.up' st103
      replace h6 := h6.up' st103
      refine rd_read (v4_0) rfl rfl (fun s104 st104 => ?_) ?_
      · try replace h4_0 := h4_0.up' st104
        try replace h6 := h6.up' st104
        refine k_move rfl rfl ?_
        exact fq_end
      refine rd_read (v6) rfl rfl (fun s105 st105 => ?_) ?_
      · try replace h4_0 := h4_0.up' st105
        try replace h6 := h6.up' st105
        refine k_move rfl rfl ?_
        exact fq_end
      refine rd_read (S x5) rfl rfl (fun s106 st106 => ?_) ?_
      · try replace h4_0 := h4_0.up' st106
        try replace h6 := h6.up' st106
        refine k_bts (m := x5) Try.underlying27 Try.underlying5 Try.underlying9 rfl (h6.sl) rfl ?_
        exact fq_end
      refine rd_act rfl rfl ?_
      obtain ⟨x42, hx42, h⟩ := ob h
      refine k_call cal12 rfl (code_Writer_Bytes_w  h4_0 hx42) rfl ?_
      rintro s107 v107_0 st107 ⟨_, rfl, h107_0⟩
      have szs107 := st107.size
      have hS : Step K0 s s107 := hS.trans0 st107
      replace h4_0 := h4_0.up' st107
      replace h6 := h6.up' st107
      refine rd_cont (st107) ?_
      refine rd_read (S x42) rfl rfl (fun s108 st108 => ?_) ?_
      · try replace h107_0 := h107_0.up' st108
        try replace h4_0 := h4_0.up' st108
        try replace h6 := h6.up' st108
        refine k_bts (m := x42) Try.underlying27 Try.underlying5 Try.underlying9 rfl (SL.of_R h107_0) rfl ?_
        exact fq_end
      refine rd_read (.bool (decide (x42 = x5))) rfl rfl (fun s109 st109 => ?_) ?_
      · try replace h107_0 := h107_0.up' st109
        try replace h4_0 := h4_0.up' st109
        try replace h6 := h6.up' st109
        refine k_eql_str rfl rfl rfl ?_
        exact fq_end
      refine rd_read (.bool (decide (x42 = x5))) rfl rfl (fun s110 st110 => ?_) ?_
      · try replace h107_0 := h107_0.up' st110
        try replace h4_0 := h4_0.up' st110
        try replace h6 := h6.up' st110
        refine k_move rfl rfl ?_
        exact fq_end
      refine rd_split (fun c111 => ?_) (fun c111 => ?_)
      · -- t116 True
        have h := itT h c111
        refine rd_act rfl rfl ?_
        refine k_yes rfl rfl ?_
        obtain ⟨x43, hx43, h⟩ := ob h
        obtain rfl := Option.some.inj (show some true = some x43 from hx43)
        refine k_call cal9 rfl (law02_awake_w   hx43) rfl ?_
        rintro s112 vr112 st112 rfl
        have szs112 := st112.size
        have hS : Step K0 s s112 := hS.trans0 st112
        replace h107_0 := h107_0.up' st112
        replace h4_0 := h4_0.up' st112
        replace h6 := h6.up' st112
        refine rd_cont (st112) ?_
        refine rd_read (.bool true) rfl rfl (fun s113 st113 => ?_) ?_
        · try replace h107_0 := h107_0.up' st113
          try replace h4_0 := h4_0.up' st113
          try replace h6 := h6.up' st113
          refine k_pickT rfl rfl rfl rfl ?_
          exact fq_end
        refine rd_nil ?_
        refine k_assign rfl rfl ?_
        refine k_nil ?_
        refine k_keep [(2, _)] ⟨rfl, trivial⟩ ?_
        refine k_ret ?_
        obtain rfl := Option.some.inj h
        refine ⟨_, rfl, Ret.mk hS ?_⟩
        exact rfl
      · -- t116 False
        have h := itF h c111
        refine rd_act rfl rfl ?_
        refine k_no rfl rfl rfl rfl ?_
        refine rd_cont (Step.refl _) ?_
        refine rd_read (.bool false) rfl rfl (fun s114 st114 => ?_) ?_
        · try replace h107_0 := h107_0.up' st114
          try replace h4_0 := h4_0.up' st114
          try replace h6 := h6.up' st114
          refine k_pickF rfl rfl rfl rfl ?_
          exact fq_end
        refine rd_nil ?_
        refine k_assign rfl rfl ?_
        refine k_nil ?_
        refine k_keep [(2, _)] ⟨rfl, trivial⟩ ?_
        refine k_ret ?_
        obtain rfl := Option.some.inj h
        refine ⟨_, rfl, Ret.mk hS ?_⟩
        exact rfl

set_option maxHeartbeats 1000000 in
set_option maxRecDepth 100000 in
theorem code_Reader_Fail_nil_w {s : St}  {r : Unit}  (h : code_Reader_Fail_nil = some r) : Calls Try.prog 23 #[.pointer none] s.w (Ret s K0 (fun s1 v => v = .tuple #[])) := by
  unfold code_Reader_Fail_nil at h
  have hS : Step K0 s s := (Step.refl _).of0 (by first | exact fun _ h => h | (intro c h; simp [KC, KO, KU] at h <;> omega))
  refine k_fn (rs := []) (args := [.pointer none]) Try.func23 rfl rfl rfl rfl ?_
  refine k_seq ?_
  refine k_region ?_
  refine k_move rfl rfl ?_
  refine k_neq_pnil Try.underlying41 rfl rfl rfl ?_
  refine k_nil ?_
  refine k_keep [(0, _), (3, _)] ⟨rfl, rfl, trivial⟩ ?_
  refine k_cond_false rfl ?_
  refine k_skip ?_
  refine k_end ?_
  obtain rfl := Option.some.inj h
  refine ⟨_, rfl, Ret.mk hS ?_⟩
  exact rfl

set_option maxHeartbeats 1000000 in
set_option maxRecDepth 100000 in
theorem code_Reader_Err_nil_w {s : St}  {r : Int}  (h : code_Reader_Err_nil = some r) : Calls Try.prog 27 #[.pointer none] s.w (Ret s K0 (fun s1 v => v = .int .i64 r)) := by
  unfold code_Reader_Err_nil at h
  have hS : Step K0 s s := (Step.refl _).of0 (by first | exact fun _ h => h | (intro c h; simp [KC, KO, KU] at h <;> omega))
  refine k_fn (rs := [2]) (args := [.pointer none]) Try.func27 rfl rfl rfl rfl ?_
  refine k_seq ?_
  refine k_region ?_
  refine k_assign rfl rfl ?_
  refine k_nil ?_
  refine k_seq ?_
  refine k_seq ?_
  refine k_region ?_
  refine k_move rfl rfl ?_
  refine k_eql_pnil Try.underlying41 rfl rfl rfl ?_
  refine k_move rfl rfl ?_
  refine k_no rfl rfl rfl rfl ?_
  refine k_no rfl rfl rfl rfl ?_
  refine k_no rfl rfl rfl rfl ?_
  refine k_no rfl rfl rfl rfl ?_
  refine k_pickT rfl rfl rfl rfl ?_
  refine k_nil ?_
  refine k_keep [(2, _), (10, _)] ⟨rfl, rfl, trivial⟩ ?_
  refine k_cond_true rfl ?_
  refine k_seq ?_
  refine k_region ?_
  refine k_assign rfl rfl ?_
  refine k_nil ?_
  refine k_keep [(2, _)] ⟨rfl, trivial⟩ ?_
  refine k_ret ?_
  obtain rfl := Option.some.inj h
  refine ⟨_, rfl, Ret.mk hS ?_⟩
  exact rfl

set_option maxHeartbeats 1000000 in
set_option maxRecDepth 100000 in
theorem code_Reader_take_nil_w {s : St} {a1 : Int} {r : (List UInt8)}  (h : code_Reader_take_nil a1 = some r) : Calls Try.prog 46 #[.pointer none, .int .i64 a1] s.w (Ret s K0 (fun s1 v => ∃ (u0 : Value), v = u0 ∧ R s1 u0 (.sl 1 (r.map bD)))) := by
  unfold code_Reader_take_nil at h
  have hS : Step K0 s s := (Step.refl _).of0 (by first | exact fun _ h => h | (intro c h; simp [KC, KO, KU] at h <;> omega))
  refine k_fn (rs := [4]) (args := [.pointer none, .int .i64 a1]) Try.func46 rfl rfl rfl rfl ?_
  refine k_seq ?_
  refine k_region ?_
  refine k_box rfl rfl ?_
  intro s1 b1 st1 h1 ge1
  have szs1 := st1.size
  have hS : Step K0 s s1 := hS.trans0 st1
  have lt1 := h1.lt
  refine k_box rfl rfl ?_
  intro s2 b2 st2 h2 ge2
  have szs2 := st2.size
  have hS : Step K0 s s2 := hS.trans0 st2
  replace h1 := h1.up' st2
  have lt2 := h2.lt
  refine k_assign rfl rfl ?_
  refine k_nil ?_
  refine k_keep [(2, _), (3, _), (4, _)] ⟨rfl, rfl, rfl, trivial⟩ ?_
  refine k_seq ?_
  refine k_seq ?_
  refine k_region ?_
  refine k_load_blk one41 rfl h1 rfl rfl ?_
  obtain ⟨x1, hx1, h⟩ := ob h
  obtain rfl := Option.some.inj (show some 2 = some x1 from hx1)
  refine k_call cal27 rfl (code_Reader_Err_nil_w   hx1) rfl ?_
  rintro s3 vr3 st3 rfl
  have szs3 := st3.size
  have hS : Step K0 s s3 := hS.trans0 st3
  replace h1 := h1.up' st3
  replace h2 := h2.up' st3
  refine k_neq rfl rfl rfl ?_
  refine k_as (v := .bool true) rfl ?_
  refine k_nil ?_
  refine k_keep [(2, _), (3, _), (4, _), (9, _)] ⟨rfl, rfl, rfl, rfl, trivial⟩ ?_
  refine k_cond_true rfl ?_
  refine k_seq ?_
  refine k_region ?_
  refine k_assign rfl rfl ?_
  refine k_nil ?_
  refine k_keep [(2, _), (3, _), (4, _)] ⟨rfl, rfl, rfl, trivial⟩ ?_
  refine k_ret ?_
  obtain rfl := Option.some.inj h
  refine ⟨_, rfl, Ret.mk hS ?_⟩
  exact ⟨_, rfl, (R.of_SL (.inl ⟨rfl, none, 0, rfl, fun _ => rfl⟩))⟩

set_option maxHeartbeats 1000000 in
set_option maxRecDepth 100000 in
theorem code_Reader_U8_nil_w {s : St}  {r : UInt8}  (h : code_Reader_U8_nil = some r) : Calls Try.prog 33 #[.pointer none] s.w (Ret s K0 (fun s1 v => v = .int .u8 (r.toNat : Int))) := by
  unfold code_Reader_U8_nil at h
  have hS : Step K0 s s := (Step.refl _).of0 (by first | exact fun _ h => h | (intro c h; simp [KC, KO, KU] at h <;> omega))
  refine k_fn (rs := [2]) (args := [.pointer none]) Try.func33 rfl rfl rfl rfl ?_
  refine k_seq ?_
  refine k_region ?_
  refine k_assign rfl rfl ?_
  refine k_nil ?_
  refine k_seq ?_
  refine k_region ?_
  refine k_move rfl rfl ?_
  obtain ⟨x1, hx1, h⟩ := ob h
  refine k_call cal46 rfl (code_Reader_take_nil_w   hx1) rfl ?_
  rintro s1 v1_0 st1 ⟨_, rfl, h1_0⟩
  have szs1 := st1.size
  have hS : Step K0 s s1 := hS.trans0 st1
  obtain ⟨x2, hx2, h⟩ := ob h
  refine k_call cal45 rfl (code_number_w  (SL.of_R h1_0) hx2) rfl ?_
  rintro s2 vr2 st2 rfl
  have szs2 := st2.size
  have hS : Step K0 s s2 := hS.trans0 st2
  replace h1_0 := h1_0.up' st2
  refine k_conv (p := (x2.toNat : Int)) Try.underlying29 Try.underlying5 rfl rfl ?_
  refine k_as (congrArg (Value.int .u8) (w8 _)) ?_
  refine k_assign rfl rfl ?_
  refine k_nil ?_
  refine k_keep [(2, _)] ⟨rfl, trivial⟩ ?_
  refine k_ret ?_
  obtain rfl := Option.some.inj h
  refine ⟨_, rfl, Ret.mk hS ?_⟩
  exact rfl

set_option maxHeartbeats 1000000 in
set_option maxRecDepth 100000 in
theorem code_Reader_U32_nil_w {s : St}  {r : UInt32}  (h : code_Reader_U32_nil = some r) : Calls Try.prog 47 #[.pointer none] s.w (Ret s K0 (fun s1 v => v = .int .u32 (r.toNat : Int))) := by
  unfold code_Reader_U32_nil at h
  have hS : Step K0 s s := (Step.refl _).of0 (by first | exact fun _ h => h | (intro c h; simp [KC, KO, KU] at h <;> omega))
  refine k_fn (rs := [2]) (args := [.pointer none]) Try.func47 rfl rfl rfl rfl ?_
  refine k_seq ?_
  refine k_region ?_
  refine k_assign rfl rfl ?_
  refine k_nil ?_
  refine k_seq ?_
  refine k_region ?_
  refine k_move rfl rfl ?_
  obtain ⟨x1, hx1, h⟩ := ob h
  refine k_call cal46 rfl (code_Reader_take_nil_w   hx1) rfl ?_
  rintro s1 v1_0 st1 ⟨_, rfl, h1_0⟩
  have szs1 := st1.size
  have hS : Step K0 s s1 := hS.trans0 st1
  obtain ⟨x2, hx2, h⟩ := ob h
  refine k_call cal45 rfl (code_number_w  (SL.of_R h1_0) hx2) rfl ?_
  rintro s2 vr2 st2 rfl
  have szs2 := st2.size
  have hS : Step K0 s s2 := hS.trans0 st2
  replace h1_0 := h1_0.up' st2
  refine k_conv (p := (x2.toNat : Int)) Try.underlying29 Try.underlying58 rfl rfl ?_
  refine k_as (congrArg (Value.int .u32) (w32 _)) ?_
  refine k_assign rfl rfl ?_
  refine k_nil ?_
  refine k_keep [(2, _)] ⟨rfl, trivial⟩ ?_
  refine k_ret ?_
  obtain rfl := Option.some.inj h
  refine ⟨_, rfl, Ret.mk hS ?_⟩
  exact rfl

set_option maxHeartbeats 1000000 in
set_option maxRecDepth 100000 in
theorem code_Reader_Raw_nil_w {s : St} {a1 : Int} {r : (List UInt8)}  (h : code_Reader_Raw_nil a1 = some r) : Calls Try.prog 48 #[.pointer none, .int .i64 a1] s.w (Ret s K0 (fun s1 v => ∃ (u0 : Value), v = u0 ∧ R s1 u0 (.sl 1 (r.map bD)))) := by
  unfold code_Reader_Raw_nil at h
  have hS : Step K0 s s := (Step.refl _).of0 (by first | exact fun _ h => h | (intro c h; simp [KC, KO, KU] at h <;> omega))
  refine k_fn (rs := [4]) (args := [.pointer none, .int .i64 a1]) Try.func48 rfl rfl rfl rfl ?_
  refine k_seq ?_
  refine k_region ?_
  refine k_assign rfl rfl ?_
  refine k_nil ?_
  refine k_seq ?_
  refine k_region ?_
  refine k_move rfl rfl ?_
  refine k_move rfl rfl ?_
  obtain ⟨x1, hx1, h⟩ := ob h
  refine k_call cal46 rfl (code_Reader_take_nil_w   hx1) rfl ?_
  rintro s1 v1_0 st1 ⟨_, rfl, h1_0⟩
  have szs1 := st1.size
  have hS : Step K0 s s1 := hS.trans0 st1
  refine k_assign rfl rfl ?_
  refine k_nil ?_
  refine k_keep [(4, _)] ⟨rfl, trivial⟩ ?_
  refine k_ret ?_
  obtain rfl := Option.some.inj h
  refine ⟨_, rfl, Ret.mk hS ?_⟩
  exact ⟨_, rfl, h1_0⟩

set_option maxHeartbeats 1000000 in
set_option maxRecDepth 100000 in
theorem law02_read_nil_w {s : St} {cs1 : List Value} {a1 : Law02Item} {r : (UInt64 × (List UInt8))} (hp1 : RC s cs1 (dLaw02Item a1)) (h : law02_read_nil a1 = some r) : Calls Try.prog 24 #[.pointer none, .agg cs1.toArray] s.w (Ret s K0 (fun s1 v => v = .tuple #[.int .u64 (r.1.toNat : Int), S r.2])) := by
  unfold law02_read_nil at h
  obtain rfl := opnLaw02Item hp1
  have hS : Step K0 s s := (Step.refl _).of0 (by first | exact fun _ h => h | (intro c h; simp [KC, KO, KU] at h <;> omega))
  refine k_fn (rs := [4, 5]) (args := [.pointer none, .agg #[.int .i64 a1.Kind, .int .i64 a1.Most, .int .u64 (a1.X.toNat : Int), S a1.S]]) Try.func24 rfl rfl rfl rfl ?_
  refine k_seq ?_
  refine k_region ?_
  refine k_box rfl rfl ?_
  intro s1 b1 st1 h1 ge1
  have szs1 := st1.size
  have hS : Step K0 s s1 := hS.trans0 st1
  have lt1 := h1.lt
  refine k_assign rfl rfl ?_
  refine k_assign rfl rfl ?_
  refine k_nil ?_
  refine k_keep [(0, _), (3, _), (4, _), (5, _)] ⟨rfl, rfl, rfl, rfl, trivial⟩ ?_
  refine k_seq ?_
  refine k_seq ?_
  refine k_region ?_
  refine k_load_blka (cs := [.int .i64 a1.Kind, .int .i64 a1.Most, .int .u64 (a1.X.toNat : Int), S a1.S]) agg36 rfl h1 rfl ?_
  obtain ⟨x1, hx1, h⟩ := ob h
  refine k_call cal29 rfl (law02_kind_w  (clsLaw02Item a1) hx1) rfl ?_
  rintro s2 vr2 st2 rfl
  have szs2 := st2.size
  have hS : Step K0 s s2 := hS.trans0 st2
  replace h1 := h1.up' st2
  refine k_nil ?_
  refine k_keep [(0, _), (3, _), (4, _), (5, _), (7, _)] ⟨rfl, rfl, rfl, rfl, rfl, trivial⟩ ?_
  refine k_block ?_
  refine k_seq ?_
  refine k_region ?_
  refine k_eql rfl rfl rfl ?_
  refine k_assign rfl rfl ?_
  refine k_nil ?_
  refine k_keep [(0, _), (3, _), (4, _), (5, _), (7, _), (8, _)] ⟨rfl, rfl, rfl, rfl, rfl, rfl, trivial⟩ ?_
  refine k_cond_dec rfl (fun c3 => ?_) (fun c3 => ?_)
  · -- T
    have h := itT h c3
    refine k_seq ?_
    refine k_region ?_
    refine k_move rfl rfl ?_
    obtain ⟨x2, hx2, h⟩ := ob h
    refine k_call cal33 rfl (code_Reader_U8_nil_w   hx2) rfl ?_
    rintro s4 vr4 st4 rfl
    have szs4 := st4.size
    have hS : Step K0 s s4 := hS.trans0 st4
    replace h1 := h1.up' st4
    refine k_conv (p := (x2.toNat : Int)) Try.underlying5 Try.underlying29 rfl rfl ?_
    refine k_as (congrArg (Value.int .u64) (w64 _)) ?_
    refine k_assign rfl rfl ?_
    refine k_assign rfl rfl ?_
    refine k_nil ?_
    refine k_keep [(0, _), (3, _), (4, _), (5, _)] ⟨rfl, rfl, rfl, rfl, trivial⟩ ?_
    refine k_ret ?_
    obtain rfl := Option.some.inj h
    refine ⟨_, rfl, Ret.mk hS ?_⟩
    exact rfl
  · -- F
    have h := itF h c3
    refine k_seq ?_
    refine k_region ?_
    refine k_eql rfl rfl rfl ?_
    refine k_assign rfl rfl ?_
    refine k_nil ?_
    refine k_keep [(0, _), (3, _), (4, _), (5, _), (7, _), (13, _)] ⟨rfl, rfl, rfl, rfl, rfl, rfl, trivial⟩ ?_
    refine k_cond_dec rfl (fun c5 => ?_) (fun c5 => ?_)
    · -- T
      have h := itT h c5
      refine k_seq ?_
      refine k_region ?_
      refine k_move rfl rfl ?_
      obtain ⟨x3, hx3, h⟩ := ob h
      refine k_call cal47 rfl (code_Reader_U32_nil_w   hx3) rfl ?_
      rintro s6 vr6 st6 rfl
      have szs6 := st6.size
      have hS : Step K0 s s6 := hS.trans0 st6
      replace h1 := h1.up' st6
      refine k_conv (p := (x3.toNat : Int)) Try.underlying58 Try.underlying29 rfl rfl ?_
      refine k_as (congrArg (Value.int .u64) (w64 _)) ?_
      refine k_assign rfl rfl ?_
      refine k_assign rfl rfl ?_
      refine k_nil ?_
      refine k_keep [(0, _), (3, _), (4, _), (5, _)] ⟨rfl, rfl, rfl, rfl, trivial⟩ ?_
      refine k_ret ?_
      obtain rfl := Option.some.inj h
      refine ⟨_, rfl, Ret.mk hS ?_⟩
      exact rfl
    · -- F
      have h := itF h c5
      refine k_seq ?_
      refine k_region ?_
      refine k_eql rfl rfl rfl ?_
      refine k_assign rfl rfl ?_
      refine k_nil ?_
      refine k_keep [(0, _), (3, _), (4, _), (5, _), (7, _), (18, _)] ⟨rfl, rfl, rfl, rfl, rfl, rfl, trivial⟩ ?_
      refine k_cond_dec rfl (fun c7 => ?_) (fun c7 => ?_)
      · -- T
        have h := itT h c7
        refine k_seq ?_
        refine k_region ?_
        refine k_move rfl rfl ?_
        obtain ⟨x4, hx4, h⟩ := ob h
        refine k_call cal21 rfl (code_Reader_Uint_nil_w   hx4) rfl ?_
        rintro s8 vr8 st8 rfl
        have szs8 := st8.size
        have hS : Step K0 s s8 := hS.trans0 st8
        replace h1 := h1.up' st8
        refine k_assign rfl rfl ?_
        refine k_assign rfl rfl ?_
        refine k_nil ?_
        refine k_keep [(0, _), (3, _), (4, _), (5, _)] ⟨rfl, rfl, rfl, rfl, trivial⟩ ?_
        refine k_ret ?_
        obtain rfl := Option.some.inj h
        refine ⟨_, rfl, Ret.mk hS ?_⟩
        exact rfl
      · -- F
        have h := itF h c7
        refine k_seq ?_
        refine k_region ?_
        refine k_eql rfl rfl rfl ?_
        refine k_assign rfl rfl ?_
        refine k_nil ?_
        refine k_keep [(0, _), (3, _), (4, _), (5, _), (22, _)] ⟨rfl, rfl, rfl, rfl, rfl, trivial⟩ ?_
        refine k_cond_dec rfl (fun c9 => ?_) (fun c9 => ?_)
        · -- T
          have h := itT h c9
          refine k_seq ?_
          refine k_region ?_
          refine k_move rfl rfl ?_
          refine k_field_addr fld36_1 rfl rfl ?_
          refine k_load_blk one3 rfl h1 rfl rfl ?_
          obtain ⟨x5, hx5, h⟩ := ob h
          refine k_call cal32 rfl (code_Reader_Text_nil_w   hx5) rfl ?_
          rintro s10 vr10 st10 rfl
          have szs10 := st10.size
          have hS : Step K0 s s10 := hS.trans0 st10
          replace h1 := h1.up' st10
          refine k_assign rfl rfl ?_
          refine k_assign rfl rfl ?_
          refine k_nil ?_
          refine k_keep [(0, _), (3, _), (4, _), (5, _)] ⟨rfl, rfl, rfl, rfl, trivial⟩ ?_
          refine k_ret ?_
          obtain rfl := Option.some.inj h
          refine ⟨_, rfl, Ret.mk hS ?_⟩
          exact rfl
        · -- F
          have h := itF h c9
          refine k_skip ?_
          refine k_blk ?_
          refine k_seq ?_
          refine k_keep [(0, _), (3, _)] ⟨rfl, rfl, trivial⟩ ?_
          refine k_draw K0 6 [(false, 0), (false, 1), (false, 2), (true, 3), (false, 4), (false, 5)] mixed (fun _ h => h) rfl rfl ?_
          intro s11 st11
          have szs11 := st11.size
          have hS : Step K0 s s11 := hS.trans0 st11
          replace h1 := h1.up' st11
          refine rd_read (.pointer none) rfl rfl (fun s12 st12 => ?_) ?_
          · try replace h1 := h1.up' st12
            refine k_move rfl rfl ?_
            exact fq_end
          refine rd_read (.pointer (some ⟨b1, 1, none⟩)) rfl rfl (fun s13 st13 => ?_) ?_
          · try replace h1 := h1.up' st13
            refine k_field_addr fld36_1 rfl rfl ?_
            exact fq_end
          refine rd_read (.int .i64 a1.Most) rfl rfl (fun s14 st14 => ?_) ?_
          · try replace h1 := h1.up' st14
            refine k_load_blk one3 rfl h1 rfl rfl ?_
            exact fq_end
          refine rd_act rfl rfl ?_
          obtain ⟨x6, hx6, h⟩ := ob h
          refine k_call cal48 rfl (code_Reader_Raw_nil_w   hx6) rfl ?_
          rintro s15 v15_0 st15 ⟨_, rfl, h15_0⟩
          have szs15 := st15.size
          have hS : Step K0 s s15 := hS.trans0 st15
          replace h1 := h1.up' st15
          refine rd_cont (st15) ?_
          refine rd_read (S x6) rfl rfl (fun s16 st16 => ?_) ?_
          · try replace h15_0 := h15_0.up' st16
            try replace h1 := h1.up' st16
            refine k_bts (m := x6) Try.underlying27 Try.underlying5 Try.underlying9 rfl (SL.of_R h15_0) rfl ?_
            exact fq_end
          refine rd_read (.int .u64 0) rfl rfl (fun s17 st17 => ?_) ?_
          · try replace h15_0 := h15_0.up' st17
            try replace h1 := h1.up' st17
            refine k_assign rfl rfl ?_
            exact fq_end
          refine rd_nil ?_
          refine k_assign rfl rfl ?_
          refine k_nil ?_
          refine k_keep [(4, _), (5, _)] ⟨rfl, rfl, trivial⟩ ?_
          refine k_ret ?_
          obtain rfl := Option.some.inj h
          refine ⟨_, rfl, Ret.mk hS ?_⟩
          exact rfl

set_option maxHeartbeats 1000000 in
set_option maxRecDepth 100000 in
theorem code_Reader_At_nil_w {s : St}  {r : Int}  (h : code_Reader_At_nil = some r) : Calls Try.prog 26 #[.pointer none] s.w (Ret s K0 (fun s1 v => v = .int .i64 r)) := by
  unfold code_Reader_At_nil at h
  have hS : Step K0 s s := (Step.refl _).of0 (by first | exact fun _ h => h | (intro c h; simp [KC, KO, KU] at h <;> omega))
  refine k_fn (rs := [2]) (args := [.pointer none]) Try.func26 rfl rfl rfl rfl ?_
  refine k_seq ?_
  refine k_region ?_
  refine k_assign rfl rfl ?_
  refine k_nil ?_
  refine k_seq ?_
  refine k_seq ?_
  refine k_region ?_
  refine k_move rfl rfl ?_
  refine k_eql_pnil Try.underlying41 rfl rfl rfl ?_
  refine k_nil ?_
  refine k_keep [(0, _), (2, _), (4, _)] ⟨rfl, rfl, rfl, trivial⟩ ?_
  refine k_cond_true rfl ?_
  refine k_seq ?_
  refine k_region ?_
  refine k_assign rfl rfl ?_
  refine k_nil ?_
  refine k_keep [(0, _), (2, _)] ⟨rfl, rfl, trivial⟩ ?_
  refine k_ret ?_
  obtain rfl := Option.some.inj h
  refine ⟨_, rfl, Ret.mk hS ?_⟩
  exact rfl

set_option maxHeartbeats 1000000 in
set_option maxRecDepth 100000 in
theorem code_Reader_End_nil_w {s : St}  {r : Int}  (h : code_Reader_End_nil = some r) : Calls Try.prog 22 #[.pointer none] s.w (Ret s K0 (fun s1 v => v = .int .i64 r)) := by
  unfold code_Reader_End_nil at h
  have hS : Step K0 s s := (Step.refl _).of0 (by first | exact fun _ h => h | (intro c h; simp [KC, KO, KU] at h <;> omega))
  refine k_fn (rs := [2]) (args := [.pointer none]) Try.func22 rfl rfl rfl rfl ?_
  refine k_seq ?_
  refine k_region ?_
  refine k_assign rfl rfl ?_
  refine k_nil ?_
  refine k_seq ?_
  refine k_seq ?_
  refine k_draw K0 14 [(false, 0), (false, 1), (false, 2), (false, 3), (false, 4), (false, 5), (false, 6), (false, 7), (false, 8), (false, 9), (false, 10), (false, 11), (false, 12), (false, 13)] mixed (fun _ h => h) rfl rfl ?_
  intro s1 st1
  have szs1 := st1.size
  have hS : Step K0 s s1 := hS.trans0 st1
  refine rd_read (.pointer none) rfl rfl (fun s2 st2 => ?_) ?_
  · refine k_move rfl rfl ?_
    exact fq_end
  refine rd_read (.bool false) rfl rfl (fun s3 st3 => ?_) ?_
  · refine k_neq_pnil Try.underlying41 rfl rfl rfl ?_
    exact fq_end
  refine rd_read (.bool false) rfl rfl (fun s4 st4 => ?_) ?_
  · refine k_move rfl rfl ?_
    exact fq_end
  refine rd_read undef rfl rfl (fun s5 st5 => ?_) ?_
  · refine k_no rfl rfl rfl rfl ?_
    exact fq_end
  refine rd_read undef rfl rfl (fun s6 st6 => ?_) ?_
  · refine k_no rfl rfl rfl rfl ?_
    exact fq_end
  refine rd_read undef rfl rfl (fun s7 st7 => ?_) ?_
  · refine k_no rfl rfl rfl rfl ?_
    exact fq_end
  refine rd_read undef rfl rfl (fun s8 st8 => ?_) ?_
  · refine k_no rfl rfl rfl rfl ?_
    exact fq_end
  refine rd_read undef rfl rfl (fun s9 st9 => ?_) ?_
  · refine k_no rfl rfl rfl rfl ?_
    exact fq_end
  refine rd_read undef rfl rfl (fun s10 st10 => ?_) ?_
  · refine k_no rfl rfl rfl rfl ?_
    exact fq_end
  refine rd_read undef rfl rfl (fun s11 st11 => ?_) ?_
  · refine k_no rfl rfl rfl rfl ?_
    exact fq_end
  refine rd_read undef rfl rfl (fun s12 st12 => ?_) ?_
  · refine k_no rfl rfl rfl rfl ?_
    exact fq_end
  refine rd_read undef rfl rfl (fun s13 st13 => ?_) ?_
  · refine k_no rfl rfl rfl rfl ?_
    exact fq_end
  refine rd_read undef rfl rfl (fun s14 st14 => ?_) ?_
  · refine k_no rfl rfl rfl rfl ?_
    exact fq_end
  refine rd_read (.bool false) rfl rfl (fun s15 st15 => ?_) ?_
  · refine k_pickF rfl rfl rfl rfl ?_
    exact fq_end
  refine rd_nil ?_
  refine k_nil ?_
  refine k_keep [(0, _), (2, _), (16, _)] ⟨rfl, rfl, rfl, trivial⟩ ?_
  refine k_cond_false rfl ?_
  refine k_skip ?_
  refine k_seq ?_
  refine k_region ?_
  refine k_move rfl rfl ?_
  obtain ⟨x1, hx1, h⟩ := ob h
  obtain rfl := Option.some.inj (show some 2 = some x1 from hx1)
  refine k_call cal27 rfl (code_Reader_Err_nil_w   hx1) rfl ?_
  rintro s16 vr16 st16 rfl
  have szs16 := st16.size
  have hS : Step K0 s s16 := hS.trans0 st16
  refine k_assign rfl rfl ?_
  refine k_nil ?_
  refine k_keep [(2, _)] ⟨rfl, trivial⟩ ?_
  refine k_ret ?_
  obtain rfl := Option.some.inj h
  refine ⟨_, rfl, Ret.mk hS ?_⟩
  exact rfl

set_option maxHeartbeats 1000000 in
set_option maxRecDepth 100000 in
theorem law02_read_w {s : St} {k0 : Nat} {p0 : Value} {a0 : Rd} {cs1 : List Value} {a1 : Law02Item} {r : (UInt64 × (List UInt8) × Rd)} (ho0 : RdS s k0 p0 a0) (hp1 : RC s cs1 (dLaw02Item a1)) (h : law02_read a0 a1 = some r) : Calls Try.prog 24 #[p0, .agg cs1.toArray] s.w (Ret s (KO k0) (fun s1 v => v = .tuple #[.int .u64 (r.1.toNat : Int), S r.2.1] ∧ RdS s1 k0 p0 r.2.2)) := by
  unfold law02_read at h
  have le0 := ho0.le
  have ne0 := ho0.ne
  obtain rfl := opnLaw02Item hp1
  have hS : Step (KO k0) s s := (Step.refl _).of0 (by first | exact fun _ h => h | (intro c h; simp [KC, KO, KU] at h <;> omega))
  refine k_fn (rs := [4, 5]) (args := [p0, .agg #[.int .i64 a1.Kind, .int .i64 a1.Most, .int .u64 (a1.X.toNat : Int), S a1.S]]) Try.func24 rfl rfl rfl rfl ?_
  refine k_seq ?_
  refine k_region ?_
  refine k_box rfl rfl ?_
  intro s1 b1 st1 h1 ge1
  have szs1 := st1.size
  have hS : Step (KO k0) s s1 := hS.trans0 st1
  replace ho0 := ho0.up' st1
  have lt1 := h1.lt
  refine k_assign rfl rfl ?_
  refine k_assign rfl rfl ?_
  refine k_nil ?_
  refine k_keep [(0, _), (3, _), (4, _), (5, _)] ⟨rfl, rfl, rfl, rfl, trivial⟩ ?_
  refine k_seq ?_
  refine k_seq ?_
  refine k_region ?_
  refine k_load_blka (cs := [.int .i64 a1.Kind, .int .i64 a1.Most, .int .u64 (a1.X.toNat : Int), S a1.S]) agg36 rfl h1 rfl ?_
  obtain ⟨x1, hx1, h⟩ := ob h
  refine k_call cal29 rfl (law02_kind_w  (clsLaw02Item a1) hx1) rfl ?_
  rintro s2 vr2 st2 rfl
  have szs2 := st2.size
  have hS : Step (KO k0) s s2 := hS.trans0 st2
  replace ho0 := ho0.up' st2
  replace h1 := h1.up' st2
  refine k_nil ?_
  refine k_keep [(0, _), (3, _), (4, _), (5, _), (7, _)] ⟨rfl, rfl, rfl, rfl, rfl, trivial⟩ ?_
  refine k_block ?_
  refine k_seq ?_
  refine k_region ?_
  refine k_eql rfl rfl rfl ?_
  refine k_assign rfl rfl ?_
  refine k_nil ?_
  refine k_keep [(0, _), (3, _), (4, _), (5, _), (7, _), (8, _)] ⟨rfl, rfl, rfl, rfl, rfl, rfl, trivial⟩ ?_
  refine k_cond_dec rfl (fun c3 => ?_) (fun c3 => ?_)
  · -- T
    have h := itT h c3
    refine k_seq ?_
    refine k_region ?_
    refine k_move rfl rfl ?_
    obtain ⟨x2, hx2, h⟩ := ob h
    refine k_call cal33 rfl (code_Reader_U8_w  ho0 hx2) rfl ?_
    rintro s4 vr4 st4 ⟨rfl, ho0⟩
    have szs4 := st4.size
    have hS : Step (KO k0) s s4 := hS.comp st4 (by intro l hl hk; simp only [KC, KO, KU, K0] at hk ⊢; omega)
    replace h1 := h1.up' st4
    refine k_conv (p := (x2.1.toNat : Int)) Try.underlying5 Try.underlying29 rfl rfl ?_
    refine k_as (congrArg (Value.int .u64) (w64 _)) ?_
    refine k_assign rfl rfl ?_
    refine k_assign rfl rfl ?_
    refine k_nil ?_
    refine k_keep [(0, _), (3, _), (4, _), (5, _)] ⟨rfl, rfl, rfl, rfl, trivial⟩ ?_
    refine k_ret ?_
    obtain rfl := Option.some.inj h
    refine ⟨_, rfl, Ret.mk hS ?_⟩
    exact ⟨rfl, ho0⟩
  · -- F
    have h := itF h c3
    refine k_seq ?_
    refine k_region ?_
    refine k_eql rfl rfl rfl ?_
    refine k_assign rfl rfl ?_
    refine k_nil ?_
    refine k_keep [(0, _), (3, _), (4, _), (5, _), (7, _), (13, _)] ⟨rfl, rfl, rfl, rfl, rfl, rfl, trivial⟩ ?_
    refine k_cond_dec rfl (fun c5 => ?_) (fun c5 => ?_)
    · -- T
      have h := itT h c5
      refine k_seq ?_
      refine k_region ?_
      refine k_move rfl rfl ?_
      obtain ⟨x3, hx3, h⟩ := ob h
      refine k_call cal47 rfl (code_Reader_U32_w  ho0 hx3) rfl ?_
      rintro s6 vr6 st6 ⟨rfl, ho0⟩
      have szs6 := st6.size
      have hS : Step (KO k0) s s6 := hS.comp st6 (by intro l hl hk; simp only [KC, KO, KU, K0] at hk ⊢; omega)
      replace h1 := h1.up' st6
      refine k_conv (p := (x3.1.toNat : Int)) Try.underlying58 Try.underlying29 rfl rfl ?_
      refine k_as (congrArg (Value.int .u64) (w64 _)) ?_
      refine k_assign rfl rfl ?_
      refine k_assign rfl rfl ?_
      refine k_nil ?_
      refine k_keep [(0, _), (3, _), (4, _), (5, _)] ⟨rfl, rfl, rfl, rfl, trivial⟩ ?_
      refine k_ret ?_
      obtain rfl := Option.some.inj h
      refine ⟨_, rfl, Ret.mk hS ?_⟩
      exact ⟨rfl, ho0⟩
    · -- F
      have h := itF h c5
      refine k_seq ?_
      refine k_region ?_
      refine k_eql rfl rfl rfl ?_
      refine k_assign rfl rfl ?_
      refine k_nil ?_
      refine k_keep [(0, _), (3, _), (4, _), (5, _), (7, _), (18, _)] ⟨rfl, rfl, rfl, rfl, rfl, rfl, trivial⟩ ?_
      refine k_cond_dec rfl (fun c7 => ?_) (fun c7 => ?_)
      · -- T
        have h := itT h c7
        refine k_seq ?_
        refine k_region ?_
        refine k_move rfl rfl ?_
        obtain ⟨x4, hx4, h⟩ := ob h
        refine k_call cal21 rfl (code_Reader_Uint_w  ho0 hx4) rfl ?_
        rintro s8 vr8 st8 ⟨rfl, ho0⟩
        have szs8 := st8.size
        have hS : Step (KO k0) s s8 := hS.comp st8 (by intro l hl hk; simp only [KC, KO, KU, K0] at hk ⊢; omega)
        replace h1 := h1.up' st8
        refine k_assign rfl rfl ?_
        refine k_assign rfl rfl ?_
        refine k_nil ?_
        refine k_keep [(0, _), (3, _), (4, _), (5, _)] ⟨rfl, rfl, rfl, rfl, trivial⟩ ?_
        refine k_ret ?_
        obtain rfl := Option.some.inj h
        refine ⟨_, rfl, Ret.mk hS ?_⟩
        exact ⟨rfl, ho0⟩
      · -- F
        have h := itF h c7
        refine k_seq ?_
        refine k_region ?_
        refine k_eql rfl rfl rfl ?_
        refine k_assign rfl rfl ?_
        refine k_nil ?_
        refine k_keep [(0, _), (3, _), (4, _), (5, _), (22, _)] ⟨rfl, rfl, rfl, rfl, rfl, trivial⟩ ?_
        refine k_cond_dec rfl (fun c9 => ?_) (fun c9 => ?_)
        · -- T
          have h := itT h c9
          refine k_seq ?_
          refine k_region ?_
          refine k_move rfl rfl ?_
          refine k_field_addr fld36_1 rfl rfl ?_
          refine k_load_blk one3 rfl h1 rfl rfl ?_
          obtain ⟨x5, hx5, h⟩ := ob h
          refine k_call cal32 rfl (code_Reader_Text_w  ho0 hx5) rfl ?_
          rintro s10 vr10 st10 ⟨rfl, ho0⟩
          have szs10 := st10.size
          have hS : Step (KO k0) s s10 := hS.comp st10 (by intro l hl hk; simp only [KC, KO, KU, K0] at hk ⊢; omega)
          replace h1 := h1.up' st10
          refine k_assign rfl rfl ?_
          refine k_assign rfl rfl ?_
          refine k_nil ?_
          refine k_keep [(0, _), (3, _), (4, _), (5, _)] ⟨rfl, rfl, rfl, rfl, trivial⟩ ?_
          refine k_ret ?_
          obtain rfl := Option.some.inj h
          refine ⟨_, rfl, Ret.mk hS ?_⟩
          exact ⟨rfl, ho0⟩
        · -- F
          have h := itF h c9
          refine k_skip ?_
          refine k_blk ?_
          refine k_seq ?_
          refine k_keep [(0, _), (3, _)] ⟨rfl, rfl, trivial⟩ ?_
          refine k_draw (KO k0) 6 [(false, 0), (false, 1), (false, 2), (true, 3), (false, 4), (false, 5)] mixed (by intro c h; simp [KC, KO, KU] at h <;> omega) rfl rfl ?_
          intro s11 st11
          have szs11 := st11.size
          have hS : Step (KO k0) s s11 := hS.trans0 st11
          replace ho0 := ho0.up' st11
          replace h1 := h1.up' st11
          refine rd_read (p0) rfl rfl (fun s12 st12 => ?_) ?_
          · try replace ho0 := ho0.up' st12
            try replace h1 := h1.up' st12
            refine k_move rfl rfl ?_
            exact fq_end
          refine rd_read (.pointer (some ⟨b1, 1, none⟩)) rfl rfl (fun s13 st13 => ?_) ?_
          · try replace ho0 := ho0.up' st13
            try replace h1 := h1.up' st13
            refine k_field_addr fld36_1 rfl rfl ?_
            exact fq_end
          refine rd_read (.int .i64 a1.Most) rfl rfl (fun s14 st14 => ?_) ?_
          · try replace ho0 := ho0.up' st14
            try replace h1 := h1.up' st14
            refine k_load_blk one3 rfl h1 rfl rfl ?_
            exact fq_end
          refine rd_act rfl rfl ?_
          obtain ⟨x6, hx6, h⟩ := ob h
          refine k_call cal48 rfl (code_Reader_Raw_w  ho0 hx6) rfl ?_
          rintro s15 v15_0 st15 ⟨_, rfl, h15_0, ho0⟩
          have szs15 := st15.size
          have hS : Step (KO k0) s s15 := hS.comp st15 (by intro l hl hk; simp only [KC, KO, KU, K0] at hk ⊢; omega)
          replace h1 := h1.up' st15
          refine rd_cont (st15.mono (by intro l hl; simp only [KC, KO, KU] at hl ⊢; omega) (by intro c h; simp [KC, KO, KU] at h <;> omega)) ?_
          refine rd_read (S x6.1) rfl rfl (fun s16 st16 => ?_) ?_
          · try replace h15_0 := h15_0.up' st16
            try replace ho0 := ho0.up' st16
            try replace h1 := h1.up' st16
            refine k_bts (m := x6.1) Try.underlying27 Try.underlying5 Try.underlying9 rfl (SL.of_R h15_0) rfl ?_
            exact fq_end
          refine rd_read (.int .u64 0) rfl rfl (fun s17 st17 => ?_) ?_
          · try replace h15_0 := h15_0.up' st17
            try replace ho0 := ho0.up' st17
            try replace h1 := h1.up' st17
            refine k_assign rfl rfl ?_
            exact fq_end
          refine rd_nil ?_
          refine k_assign rfl rfl ?_
          refine k_nil ?_
          refine k_keep [(4, _), (5, _)] ⟨rfl, rfl, trivial⟩ ?_
          refine k_ret ?_
          obtain rfl := Option.some.inj h
          refine ⟨_, rfl, Ret.mk hS ?_⟩
          exact ⟨rfl, ho0⟩

set_option maxHeartbeats 1000000 in
set_option maxRecDepth 100000 in
theorem law02_CodeNobody_w {s : St} {l0 : Lab} {v0 : Value} {a0 : (List Law02Item)} {r : Bool} (hp0 : SL s l0 v0 4 (a0.map dLaw02Item)) (h : law02_CodeNobody a0 = some r) : Calls Try.prog 7 #[v0] s.w (Ret s K0 (fun s1 v => v = .bool r)) := by
  unfold law02_CodeNobody at h
  obtain ⟨lf0, lf0le, lf0ne, hp0⟩ := hp0.fix
  have hS : Step K0 s s := (Step.refl _).of0 (by first | exact fun _ h => h | (intro c h; simp [KC, KO, KU] at h <;> omega))
  refine k_fn (rs := [2]) (args := [v0]) Try.func7 rfl rfl rfl rfl ?_
  refine k_seq ?_
  refine k_region ?_
  refine k_assign rfl rfl ?_
  refine k_nil ?_
  refine k_seq ?_
  refine k_seq ?_
  refine k_region ?_
  refine k_move rfl rfl ?_
  obtain ⟨x1, hx1, h⟩ := ob h
  refine k_call cal14 rfl (law02_long_w  hp0 hx1) rfl ?_
  rintro s1 vr1 st1 rfl
  have szs1 := st1.size
  have hS : Step K0 s s1 := hS.trans0 st1
  replace hp0 := hp0.up' st1
  refine k_nil ?_
  refine k_keep [(0, _), (2, _), (12, _)] ⟨rfl, rfl, rfl, trivial⟩ ?_
  refine k_cond rfl (fun c2 => ?_) (fun c2 => ?_)
  · -- T
    have h := ibT h c2
    refine k_seq ?_
    refine k_region ?_
    obtain ⟨x2, hx2, h⟩ := ob h
    obtain rfl := Option.some.inj (show some true = some x2 from hx2)
    refine k_call cal9 rfl (law02_awake_w   hx2) rfl ?_
    rintro s3 vr3 st3 rfl
    have szs3 := st3.size
    have hS : Step K0 s s3 := hS.trans0 st3
    replace hp0 := hp0.up' st3
    refine k_assign rfl rfl ?_
    refine k_nil ?_
    refine k_keep [(0, _), (2, _)] ⟨rfl, rfl, trivial⟩ ?_
    refine k_ret ?_
    obtain rfl := Option.some.inj h
    refine ⟨_, rfl, Ret.mk hS ?_⟩
    exact rfl
  · -- F
    have h := ibF h c2
    refine k_skip ?_
    refine k_seq ?_
    refine k_region ?_
    refine k_assign rfl rfl ?_
    refine k_nil ?_
    refine k_keep [(0, _), (2, _), (3, _)] ⟨rfl, rfl, rfl, trivial⟩ ?_
    refine k_seq ?_
    refine k_region ?_
    refine k_move rfl rfl ?_
    obtain ⟨x3, hx3, h⟩ := ob h
    refine k_call cal23 rfl (code_Reader_Fail_nil_w   hx3) rfl ?_
    rintro s4 vr4 st4 rfl
    have szs4 := st4.size
    have hS : Step K0 s s4 := hS.trans0 st4
    replace hp0 := hp0.up' st4
    refine k_nil ?_
    refine k_keep [(0, _), (2, _), (3, _)] ⟨rfl, rfl, rfl, trivial⟩ ?_
    refine k_seq ?_
    refine k_region ?_
    refine k_build plc56 zero56 rfl Parts.nil (by rfl) rfl ?_
    refine k_as (v := .agg #[.slice none 0 0, .int .i64 0, .bool false]) rfl ?_
    refine k_box rfl rfl ?_
    intro s5 b5 st5 h5 ge5
    have szs5 := st5.size
    have hS : Step K0 s s5 := hS.trans0 st5
    replace hp0 := hp0.up' st5
    have lt5 := h5.lt
    refine k_assign rfl rfl ?_
    refine k_nil ?_
    refine k_keep [(0, _), (2, _), (3, _), (4, _)] ⟨rfl, rfl, rfl, rfl, trivial⟩ ?_
    refine k_seq ?_
    refine k_region ?_
    refine k_move rfl rfl ?_
    have hz6 : RdS s5 (b5 + 1) (.pointer (some ⟨b5, 0, none⟩)) (⟨[], 0, false⟩ : Rd) := RdS.zero h5
    have lehz6 := hz6.le
    have nehz6 := hz6.ne
    obtain ⟨x4, hx4, h⟩ := ob h
    refine k_call cal22 rfl (code_Reader_End_w  hz6 hx4) rfl ?_
    rintro s7 vr7 st7 ⟨rfl, hz6⟩
    have szs7 := st7.size
    have hS : Step K0 s s7 := hS.comp st7 (by intro l hl hk; simp only [KC, KO, KU, K0] at hk ⊢; omega)
    replace hp0 := hp0.up' st7
    refine k_eql rfl rfl rfl ?_
    refine k_move rfl rfl ?_
    obtain ⟨x5, hx5, h⟩ := ob h
    have hE8 : Step K0 s7 s7 := (Step.refl _).of0 (by first | exact fun _ h => h | (intro c h; simp [KC, KO, KU] at h <;> omega))
    refine k_cutl (X := St) 4 [(0, v0), (2, .bool false), (3, .pointer none), (4, .pointer (some ⟨b5, 0, none⟩)), (18, .pointer (some ⟨b5, 0, none⟩)), (19, .int .i64 x4.1), (20, .bool (decide (x4.1 = 0)))] (fun _ => [(25, .bool x5)]) (fun sl wL => sl.w = wL ∧ Step K0 s7 sl) ?_ ?_
    · -- the ways
      refine k_again 21 rfl ?_
      refine k_split (fun c9 => ?_) (fun c9 => ?_)
      · -- t21 True
        have hx5 := itT hx5 c9
        refine k_yes rfl rfl ?_
        refine k_move rfl rfl ?_
        refine k_yes rfl rfl ?_
        obtain ⟨x6, hx6, hx5⟩ := ob hx5
        refine k_call cal26 rfl (code_Reader_At_w  hz6 hx6) rfl ?_
        rintro s10 vr10 st10 rfl
        have szs10 := st10.size
        have hS : Step K0 s s10 := hS.trans0 st10
        have hE8 : Step K0 s7 s10 := hE8.trans0 st10
        replace hp0 := hp0.up' st10
        replace hz6 := hz6.up' st10
        refine k_yes rfl rfl ?_
        refine k_eql rfl rfl rfl ?_
        refine k_pickT rfl rfl rfl rfl ?_
        exact k_met ⟨s10, ⟨(congrArg (fun b => some (Value.bool b)) (Option.some.inj hx5)), trivial⟩, ⟨rfl, rfl, rfl, rfl, rfl, rfl, rfl, trivial⟩, rfl, hE8⟩
      · -- t21 False
        have hx5 := itF hx5 c9
        refine k_no rfl rfl rfl rfl ?_
        refine k_no rfl rfl rfl rfl ?_
        refine k_no rfl rfl rfl rfl ?_
        refine k_pickF rfl rfl rfl rfl ?_
        exact k_met ⟨s7, ⟨(congrArg (fun b => some (Value.bool b)) (Option.some.inj hx5)), trivial⟩, ⟨rfl, rfl, rfl, rfl, rfl, rfl, rfl, trivial⟩, rfl, hE8⟩
    · -- behind
      rintro s11 wL ⟨rfl, hE8⟩
      have szs11 := hE8.size
      have hS : Step K0 s s11 := hS.trans0 hE8
      replace hp0 := hp0.up' hE8
      replace hz6 := hz6.up' hE8
      refine k_assign rfl rfl ?_
      refine k_nil ?_
      refine k_keep [(0, _), (2, _), (3, _), (4, _), (5, _)] ⟨rfl, rfl, rfl, rfl, rfl, trivial⟩ ?_
      refine k_seq ?_
      obtain ⟨kj7, hK12, h⟩ := jn_out h
      have hE12 : Step (KO (b5 + 1)) s11 s11 := (Step.refl _).of0 (by first | exact fun _ h => h | (intro c h; simp [KC, KO, KU] at h <;> omega))
      refine k_cutc (X := St × Rd) [(2, .bool false), (5, .bool x5)] (fun (xL : St × Rd) => match xL with | (sl, x8) => []) (fun (xL : St × Rd) (wL : World) => match xL with | (sl, x8) => sl.w = wL ∧ Step (KO (b5 + 1)) s11 sl ∧ (RdS sl (b5 + 1) (.pointer (some ⟨b5, 0, none⟩)) x8) ∧ kj7 x8 = some r) ?_ ?_
      · -- the ways
        refine k_seq ?_
        refine k_region ?_
        refine k_assign rfl rfl ?_
        refine k_nil ?_
        refine k_block ?_
        refine k_loopc (X := St × Int × Rd × Nat) [(0, _), (2, _), (3, _), (4, _), (5, _)] (fun (xL : St × Int × Rd × Nat) => match xL with | (sl, x9, x10, j) => [(6, .int .i64 x9)]) (fun (xL : St × Int × Rd × Nat) (wL : World) => match xL with | (sl, x9, x10, j) => sl.w = wL ∧ Step (KO (b5 + 1)) s11 sl ∧ (RdS sl (b5 + 1) (.pointer (some ⟨b5, 0, none⟩)) x10) ∧ law02_CodeNobody_l1 a0 kj7 j x9 x10 = some r) (fun (xL : St × Int × Rd × Nat) => match xL with | (sl, x9, x10, j) => j) (s11, 0, x4.2, FU) ⟨rfl, rfl, rfl, rfl, rfl, trivial⟩ ⟨(by first | rfl | (simp <;> rfl)), trivial⟩ ⟨rfl, (Step.refl _).of0 (by first | exact fun _ h => h | (intro c h; simp [KC, KO, KU] at h <;> omega)), hz6, h⟩ ?_
        rintro ⟨s14, x9, x10, j⟩ wL ⟨rfl, hE13, hz6, h⟩
        cases j with
        | zero => rw [law02_CodeNobody_l1] at h; exact (noneNe h).elim
        | succ j =>
        rw [law02_CodeNobody_l1] at h
        have szs14 := hE13.size
        have hS : Step K0 s s14 := hS.comp hE13 (by intro l hl hk; simp only [KC, KO, KU, K0] at hk ⊢; omega)
        have hE12 : Step (KO (b5 + 1)) s11 s14 := hE12.comp hE13 (by intro l hl hk; simp only [KC, KO, KU, K0] at hk ⊢; omega)
        replace hp0 := hp0.up' hE13
        refine k_seq ?_
        refine k_seq ?_
        refine k_region ?_
        refine k_move rfl rfl ?_
        refine k_move rfl rfl ?_
        refine k_len Try.underlying32 rfl hp0.hasLen rfl ?_
        refine k_as (v := .int .i64 (a0.length : Int)) (by simp only [List.length_map]) ?_
        refine k_lss rfl rfl rfl ?_
        refine k_nil ?_
        refine k_keep [(0, _), (2, _), (3, _), (4, _), (5, _), (6, _), (29, _)] ⟨rfl, rfl, rfl, rfl, rfl, rfl, rfl, trivial⟩ ?_
        refine k_cond_dec rfl (fun c15 => ?_) (fun c15 => ?_)
        · -- T
          have h := itT h c15
          refine k_skip ?_
          refine k_seq ?_
          refine k_block ?_
          refine k_seq ?_
          refine k_region ?_
          refine k_move rfl rfl ?_
          refine k_move rfl rfl ?_
          refine k_move rfl rfl ?_
          obtain ⟨x11, hx11, h⟩ := ob h
          refine k_ixaddr Try.underlying32 size36 rfl rfl hp0 (geti_out hx11).1 (geti_map hx11) rfl ?_
          intro qx11 hqx11
          refine k_load_agg (by exact agg36) rfl hqx11 rfl ?_
          intro cs16 h16
          obtain rfl := opnLaw02Item h16
          obtain ⟨x12, hx12, h⟩ := ob h
          refine k_call cal24 rfl (law02_read_nil_w  (clsLaw02Item x11) hx12) rfl ?_
          rintro s17 vr17 st17 rfl
          have szs17 := st17.size
          have hS : Step K0 s s17 := hS.trans0 st17
          have hE12 : Step (KO (b5 + 1)) s11 s17 := hE12.trans0 st17
          have hE13 : Step (KO (b5 + 1)) s11 s17 := hE13.trans0 st17
          replace hp0 := hp0.up' st17
          replace hqx11 := hqx11.up' st17
          replace hz6 := hz6.up' st17
          refine k_move rfl rfl ?_
          refine k_extract rfl rfl rfl ?_
          refine k_extract rfl rfl rfl ?_
          refine k_assign rfl rfl ?_
          refine k_assign rfl rfl ?_
          refine k_nil ?_
          refine k_keep [(0, _), (2, _), (3, _), (4, _), (5, _), (6, _), (7, _), (8, _)] ⟨rfl, rfl, rfl, rfl, rfl, rfl, rfl, rfl, trivial⟩ ?_
          refine k_seq ?_
          refine k_seq ?_
          refine k_region ?_
          refine k_move rfl rfl ?_
          refine k_neq rfl rfl rfl ?_
          refine k_move rfl rfl ?_
          have hE18 : Step K0 s17 s17 := (Step.refl _).of0 (by first | exact fun _ h => h | (intro c h; simp [KC, KO, KU] at h <;> omega))
          refine k_cutl (X := St) 3 [(0, v0), (2, .bool false), (3, .pointer none), (4, .pointer (some ⟨b5, 0, none⟩)), (5, .bool x5), (6, .int .i64 x9), (7, .int .u64 (x12.1.toNat : Int)), (8, S x12.2), (41, .int .u64 (x12.1.toNat : Int)), (42, .bool (decide ((x12.1.toNat : Int) ≠ 0)))] (fun _ => [(46, .bool (decide (((x12.1.toNat : Int) ≠ 0) ∨ (x12.2 ≠ ([] : List UInt8)))))]) (fun sl wL => sl.w = wL ∧ Step K0 s17 sl) ?_ ?_
          · -- the ways
            refine k_again 43 rfl ?_
            refine k_split (fun c19 => ?_) (fun c19 => ?_)
            · -- t43 True
              refine k_no rfl rfl rfl rfl ?_
              refine k_no rfl rfl rfl rfl ?_
              refine k_pickT rfl rfl rfl rfl ?_
              exact k_met ⟨s17, ⟨(congrArg (fun b => some (Value.bool b)) (by first | exact decide_eq_decide.2 ⟨Or.inr, fun h => h.resolve_left c19⟩ | exact (decide_eq_true (Or.inl c19)).symm | (simp [c19]; done) | (simp [c19, i64] <;> omega))), trivial⟩, ⟨rfl, rfl, rfl, rfl, rfl, rfl, rfl, rfl, rfl, rfl, trivial⟩, rfl, hE18⟩
            · -- t43 False
              refine k_yes rfl rfl ?_
              refine k_move rfl rfl ?_
              refine k_yes rfl rfl ?_
              refine k_neq_str rfl rfl rfl ?_
              refine k_pickF rfl rfl rfl rfl ?_
              exact k_met ⟨s17, ⟨(congrArg (fun b => some (Value.bool b)) (by first | exact decide_eq_decide.2 ⟨Or.inr, fun h => h.resolve_left c19⟩ | exact (decide_eq_true (Or.inl c19)).symm | (simp [c19]; done) | (simp [c19, i64] <;> omega))), trivial⟩, ⟨rfl, rfl, rfl, rfl, rfl, rfl, rfl, rfl, rfl, rfl, trivial⟩, rfl, hE18⟩
          · -- behind
            rintro s20 wL ⟨rfl, hE18⟩
            have szs20 := hE18.size
            have hS : Step K0 s s20 := hS.trans0 hE18
            have hE12 : Step (KO (b5 + 1)) s11 s20 := hE12.trans0 hE18
            have hE13 : Step (KO (b5 + 1)) s11 s20 := hE13.trans0 hE18
            replace hp0 := hp0.up' hE18
            replace hz6 := hz6.up' hE18
            refine k_move rfl rfl ?_
            obtain ⟨x13, hx13, h⟩ := ob h
            have hE21 : Step K0 s20 s20 := (Step.refl _).of0 (by first | exact fun _ h => h | (intro c h; simp [KC, KO, KU] at h <;> omega))
            refine k_cutl (X := St) 4 [(0, v0), (2, .bool false), (3, .pointer none), (4, .pointer (some ⟨b5, 0, none⟩)), (5, .bool x5), (6, .int .i64 x9), (7, .int .u64 (x12.1.toNat : Int)), (8, S x12.2), (41, .int .u64 (x12.1.toNat : Int)), (42, .bool (decide ((x12.1.toNat : Int) ≠ 0))), (46, .bool (decide (((x12.1.toNat : Int) ≠ 0) ∨ (x12.2 ≠ ([] : List UInt8)))))] (fun _ => [(51, .bool x13)]) (fun sl wL => sl.w = wL ∧ Step K0 s20 sl) ?_ ?_
            · -- the ways
              refine k_again 47 rfl ?_
              refine k_split (fun c22 => ?_) (fun c22 => ?_)
              · -- t47 True
                have hx13 := itT hx13 c22
                refine k_no rfl rfl rfl rfl ?_
                refine k_no rfl rfl rfl rfl ?_
                refine k_no rfl rfl rfl rfl ?_
                refine k_pickT rfl rfl rfl rfl ?_
                exact k_met ⟨s20, ⟨(congrArg (fun b => some (Value.bool b)) (Option.some.inj hx13)), trivial⟩, ⟨rfl, rfl, rfl, rfl, rfl, rfl, rfl, rfl, rfl, rfl, rfl, trivial⟩, rfl, hE21⟩
              · -- t47 False
                have hx13 := itF hx13 c22
                refine k_yes rfl rfl ?_
                refine k_move rfl rfl ?_
                refine k_yes rfl rfl ?_
                obtain ⟨x14, hx14, hx13⟩ := ob hx13
                obtain rfl := Option.some.inj (show some 0 = some x14 from hx14)
                refine k_call cal26 rfl (code_Reader_At_nil_w   hx14) rfl ?_
                rintro s23 vr23 st23 rfl
                have szs23 := st23.size
                have hS : Step K0 s s23 := hS.trans0 st23
                have hE12 : Step (KO (b5 + 1)) s11 s23 := hE12.trans0 st23
                have hE13 : Step (KO (b5 + 1)) s11 s23 := hE13.trans0 st23
                have hE21 : Step K0 s20 s23 := hE21.trans0 st23
                replace hp0 := hp0.up' st23
                replace hz6 := hz6.up' st23
                refine k_yes rfl rfl ?_
                refine k_neq rfl rfl rfl ?_
                refine k_as (v := .bool false) rfl ?_
                refine k_pickF rfl rfl rfl rfl ?_
                exact k_met ⟨s23, ⟨(congrArg (fun b => some (Value.bool b)) (Option.some.inj hx13)), trivial⟩, ⟨rfl, rfl, rfl, rfl, rfl, rfl, rfl, rfl, rfl, rfl, rfl, trivial⟩, rfl, hE21⟩
            · -- behind
              rintro s24 wL ⟨rfl, hE21⟩
              have szs24 := hE21.size
              have hS : Step K0 s s24 := hS.trans0 hE21
              have hE12 : Step (KO (b5 + 1)) s11 s24 := hE12.trans0 hE21
              have hE13 : Step (KO (b5 + 1)) s11 s24 := hE13.trans0 hE21
              replace hp0 := hp0.up' hE21
              replace hz6 := hz6.up' hE21
              refine k_move rfl rfl ?_
              obtain ⟨x15, hx15, h⟩ := ob h
              have hE25 : Step K0 s24 s24 := (Step.refl _).of0 (by first | exact fun _ h => h | (intro c h; simp [KC, KO, KU] at h <;> omega))
              refine k_cutl (X := St) 4 [(0, v0), (2, .bool false), (3, .pointer none), (4, .pointer (some ⟨b5, 0, none⟩)), (5, .bool x5), (6, .int .i64 x9), (7, .int .u64 (x12.1.toNat : Int)), (8, S x12.2), (41, .int .u64 (x12.1.toNat : Int)), (42, .bool (decide ((x12.1.toNat : Int) ≠ 0))), (46, .bool (decide (((x12.1.toNat : Int) ≠ 0) ∨ (x12.2 ≠ ([] : List UInt8))))), (51, .bool x13)] (fun _ => [(56, .bool x15)]) (fun sl wL => sl.w = wL ∧ Step K0 s24 sl) ?_ ?_
              · -- the ways
                refine k_again 52 rfl ?_
                refine k_splitb (fun c26 => ?_) (fun c26 => ?_)
                · -- t52 True
                  have hx15 := ibT hx15 c26
                  refine k_no rfl rfl rfl rfl ?_
                  refine k_no rfl rfl rfl rfl ?_
                  refine k_no rfl rfl rfl rfl ?_
                  refine k_pickT rfl rfl rfl rfl ?_
                  exact k_met ⟨s24, ⟨(congrArg (fun b => some (Value.bool b)) (Option.some.inj hx15)), trivial⟩, ⟨rfl, rfl, rfl, rfl, rfl, rfl, rfl, rfl, rfl, rfl, rfl, rfl, trivial⟩, rfl, hE25⟩
                · -- t52 False
                  have hx15 := ibF hx15 c26
                  refine k_yes rfl rfl ?_
                  refine k_move rfl rfl ?_
                  refine k_yes rfl rfl ?_
                  obtain ⟨x16, hx16, hx15⟩ := ob hx15
                  obtain rfl := Option.some.inj (show some 2 = some x16 from hx16)
                  refine k_call cal27 rfl (code_Reader_Err_nil_w   hx16) rfl ?_
                  rintro s27 vr27 st27 rfl
                  have szs27 := st27.size
                  have hS : Step K0 s s27 := hS.trans0 st27
                  have hE12 : Step (KO (b5 + 1)) s11 s27 := hE12.trans0 st27
                  have hE13 : Step (KO (b5 + 1)) s11 s27 := hE13.trans0 st27
                  have hE25 : Step K0 s24 s27 := hE25.trans0 st27
                  replace hp0 := hp0.up' st27
                  replace hz6 := hz6.up' st27
                  refine k_yes rfl rfl ?_
                  refine k_neq rfl rfl rfl ?_
                  refine k_as (v := .bool false) rfl ?_
                  refine k_pickF rfl rfl rfl rfl ?_
                  exact k_met ⟨s27, ⟨(congrArg (fun b => some (Value.bool b)) (Option.some.inj hx15)), trivial⟩, ⟨rfl, rfl, rfl, rfl, rfl, rfl, rfl, rfl, rfl, rfl, rfl, rfl, trivial⟩, rfl, hE25⟩
              · -- behind
                rintro s28 wL ⟨rfl, hE25⟩
                have szs28 := hE25.size
                have hS : Step K0 s s28 := hS.trans0 hE25
                have hE12 : Step (KO (b5 + 1)) s11 s28 := hE12.trans0 hE25
                have hE13 : Step (KO (b5 + 1)) s11 s28 := hE13.trans0 hE25
                replace hp0 := hp0.up' hE25
                replace hz6 := hz6.up' hE25
                refine k_move rfl rfl ?_
                obtain ⟨x17, hx17, h⟩ := ob h
                have hE29 : Step K0 s28 s28 := (Step.refl _).of0 (by first | exact fun _ h => h | (intro c h; simp [KC, KO, KU] at h <;> omega))
                refine k_cutl (X := St) 4 [(0, v0), (2, .bool false), (3, .pointer none), (4, .pointer (some ⟨b5, 0, none⟩)), (5, .bool x5), (6, .int .i64 x9), (7, .int .u64 (x12.1.toNat : Int)), (8, S x12.2), (41, .int .u64 (x12.1.toNat : Int)), (42, .bool (decide ((x12.1.toNat : Int) ≠ 0))), (46, .bool (decide (((x12.1.toNat : Int) ≠ 0) ∨ (x12.2 ≠ ([] : List UInt8))))), (51, .bool x13), (56, .bool x15)] (fun _ => [(61, .bool x17)]) (fun sl wL => sl.w = wL ∧ Step K0 s28 sl) ?_ ?_
                · -- the ways
                  refine k_again 57 rfl ?_
                  refine k_splitb (fun c30 => ?_) (fun c30 => ?_)
                  · -- t57 True
                    have hx17 := ibT hx17 c30
                    refine k_no rfl rfl rfl rfl ?_
                    refine k_no rfl rfl rfl rfl ?_
                    refine k_no rfl rfl rfl rfl ?_
                    refine k_pickT rfl rfl rfl rfl ?_
                    exact k_met ⟨s28, ⟨(congrArg (fun b => some (Value.bool b)) (Option.some.inj hx17)), trivial⟩, ⟨rfl, rfl, rfl, rfl, rfl, rfl, rfl, rfl, rfl, rfl, rfl, rfl, rfl, trivial⟩, rfl, hE29⟩
                  · -- t57 False
                    have hx17 := ibF hx17 c30
                    refine k_yes rfl rfl ?_
                    refine k_move rfl rfl ?_
                    refine k_yes rfl rfl ?_
                    obtain ⟨x18, hx18, hx17⟩ := ob hx17
                    refine k_call cal22 rfl (code_Reader_End_nil_w   hx18) rfl ?_
                    rintro s31 vr31 st31 rfl
                    have szs31 := st31.size
                    have hS : Step K0 s s31 := hS.trans0 st31
                    have hE12 : Step (KO (b5 + 1)) s11 s31 := hE12.trans0 st31
                    have hE13 : Step (KO (b5 + 1)) s11 s31 := hE13.trans0 st31
                    have hE29 : Step K0 s28 s31 := hE29.trans0 st31
                    replace hp0 := hp0.up' st31
                    replace hz6 := hz6.up' st31
                    refine k_yes rfl rfl ?_
                    refine k_neq rfl rfl rfl ?_
                    refine k_pickF rfl rfl rfl rfl ?_
                    exact k_met ⟨s31, ⟨(congrArg (fun b => some (Value.bool b)) (Option.some.inj hx17)), trivial⟩, ⟨rfl, rfl, rfl, rfl, rfl, rfl, rfl, rfl, rfl, rfl, rfl, rfl, rfl, trivial⟩, rfl, hE29⟩
                · -- behind
                  rintro s32 wL ⟨rfl, hE29⟩
                  have szs32 := hE29.size
                  have hS : Step K0 s s32 := hS.trans0 hE29
                  have hE12 : Step (KO (b5 + 1)) s11 s32 := hE12.trans0 hE29
                  have hE13 : Step (KO (b5 + 1)) s11 s32 := hE13.trans0 hE29
                  replace hp0 := hp0.up' hE29
                  replace hz6 := hz6.up' hE29
                  refine k_nil ?_
                  refine k_keep [(0, _), (2, _), (3, _), (4, _), (5, _), (6, _), (61, _)] ⟨rfl, rfl, rfl, rfl, rfl, rfl, rfl, trivial⟩ ?_
                  refine k_cond rfl (fun c33 => ?_) (fun c33 => ?_)
                  · -- T
                    have h := ibT h c33
                    refine k_seq ?_
                    refine k_region ?_
                    refine k_assign rfl rfl ?_
                    refine k_nil ?_
                    refine k_keep [(0, _), (2, _), (3, _), (4, _), (5, _), (6, _)] ⟨rfl, rfl, rfl, rfl, rfl, rfl, trivial⟩ ?_
                    refine k_ret ?_
                    obtain rfl := Option.some.inj h
                    refine ⟨_, rfl, Ret.mk hS ?_⟩
                    exact rfl
                  · -- F
                    have h := ibF h c33
                    refine k_skip ?_
                    refine k_seq ?_
                    refine k_region ?_
                    refine k_move rfl rfl ?_
                    refine k_move rfl rfl ?_
                    refine k_move rfl rfl ?_
                    obtain ⟨x19, hx19, h⟩ := ob h
                    refine k_ixaddr Try.underlying32 size36 rfl rfl hp0 (geti_out hx19).1 (geti_map hx19) rfl ?_
                    intro qx19 hqx19
                    refine k_load_agg (by exact agg36) rfl hqx19 rfl ?_
                    intro cs34 h34
                    obtain rfl := opnLaw02Item h34
                    obtain ⟨x20, hx20, h⟩ := ob h
                    refine k_call cal24 rfl (law02_read_w  hz6 (clsLaw02Item x19) hx20) rfl ?_
                    rintro s35 vr35 st35 ⟨rfl, hz6⟩
                    have szs35 := st35.size
                    have hS : Step K0 s s35 := hS.comp st35 (by intro l hl hk; simp only [KC, KO, KU, K0] at hk ⊢; omega)
                    have hE12 : Step (KO (b5 + 1)) s11 s35 := hE12.comp st35 (by intro l hl hk; simp only [KC, KO, KU, K0] at hk ⊢; omega)
                    have hE13 : Step (KO (b5 + 1)) s11 s35 := hE13.comp st35 (by intro l hl hk; simp only [KC, KO, KU, K0] at hk ⊢; omega)
                    replace hp0 := hp0.up' st35
                    replace hqx19 := hqx19.up' st35
                    refine k_move rfl rfl ?_
                    refine k_extract rfl rfl rfl ?_
                    refine k_extract rfl rfl rfl ?_
                    refine k_assign rfl rfl ?_
                    refine k_assign rfl rfl ?_
                    refine k_nil ?_
                    refine k_keep [(0, _), (2, _), (3, _), (4, _), (5, _), (6, _), (9, _), (10, _)] ⟨rfl, rfl, rfl, rfl, rfl, rfl, rfl, rfl, trivial⟩ ?_
                    refine k_seq ?_
                    refine k_region ?_
                    refine k_move rfl rfl ?_
                    refine k_neq rfl rfl rfl ?_
                    refine k_move rfl rfl ?_
                    have hE36 : Step K0 s35 s35 := (Step.refl _).of0 (by first | exact fun _ h => h | (intro c h; simp [KC, KO, KU] at h <;> omega))
                    refine k_cutl (X := St) 3 [(0, v0), (2, .bool false), (3, .pointer none), (4, .pointer (some ⟨b5, 0, none⟩)), (5, .bool x5), (6, .int .i64 x9), (9, .int .u64 (x20.1.toNat : Int)), (10, S x20.2.1), (71, .int .u64 (x20.1.toNat : Int)), (72, .bool (decide ((x20.1.toNat : Int) ≠ 0)))] (fun _ => [(76, .bool (decide (((x20.1.toNat : Int) ≠ 0) ∨ (x20.2.1 ≠ ([] : List UInt8)))))]) (fun sl wL => sl.w = wL ∧ Step K0 s35 sl) ?_ ?_
                    · -- the ways
                      refine k_again 73 rfl ?_
                      refine k_split (fun c37 => ?_) (fun c37 => ?_)
                      · -- t73 True
                        refine k_no rfl rfl rfl rfl ?_
                        refine k_no rfl rfl rfl rfl ?_
                        refine k_pickT rfl rfl rfl rfl ?_
                        exact k_met ⟨s35, ⟨(congrArg (fun b => some (Value.bool b)) (by first | exact decide_eq_decide.2 ⟨Or.inr, fun h => h.resolve_left c37⟩ | exact (decide_eq_true (Or.inl c37)).symm | (simp [c37]; done) | (simp [c37, i64] <;> omega))), trivial⟩, ⟨rfl, rfl, rfl, rfl, rfl, rfl, rfl, rfl, rfl, rfl, trivial⟩, rfl, hE36⟩
                      · -- t73 False
                        refine k_yes rfl rfl ?_
                        refine k_move rfl rfl ?_
                        refine k_yes rfl rfl ?_
                        refine k_neq_str rfl rfl rfl ?_
                        refine k_pickF rfl rfl rfl rfl ?_
                        exact k_met ⟨s35, ⟨(congrArg (fun b => some (Value.bool b)) (by first | exact decide_eq_decide.2 ⟨Or.inr, fun h => h.resolve_left c37⟩ | exact (decide_eq_true (Or.inl c37)).symm | (simp [c37]; done) | (simp [c37, i64] <;> omega))), trivial⟩, ⟨rfl, rfl, rfl, rfl, rfl, rfl, rfl, rfl, rfl, rfl, trivial⟩, rfl, hE36⟩
                    · -- behind
                      rintro s38 wL ⟨rfl, hE36⟩
                      have szs38 := hE36.size
                      have hS : Step K0 s s38 := hS.trans0 hE36
                      have hE12 : Step (KO (b5 + 1)) s11 s38 := hE12.trans0 hE36
                      have hE13 : Step (KO (b5 + 1)) s11 s38 := hE13.trans0 hE36
                      replace hp0 := hp0.up' hE36
                      replace hz6 := hz6.up' hE36
                      refine k_move rfl rfl ?_
                      obtain ⟨x21, hx21, h⟩ := ob h
                      have hE39 : Step K0 s38 s38 := (Step.refl _).of0 (by first | exact fun _ h => h | (intro c h; simp [KC, KO, KU] at h <;> omega))
                      refine k_cutl (X := St) 4 [(0, v0), (2, .bool false), (3, .pointer none), (4, .pointer (some ⟨b5, 0, none⟩)), (5, .bool x5), (6, .int .i64 x9), (9, .int .u64 (x20.1.toNat : Int)), (10, S x20.2.1), (71, .int .u64 (x20.1.toNat : Int)), (72, .bool (decide ((x20.1.toNat : Int) ≠ 0))), (76, .bool (decide (((x20.1.toNat : Int) ≠ 0) ∨ (x20.2.1 ≠ ([] : List UInt8)))))] (fun _ => [(81, .bool x21)]) (fun sl wL => sl.w = wL ∧ Step K0 s38 sl) ?_ ?_
                      · -- the ways
                        refine k_again 77 rfl ?_
                        refine k_split (fun c40 => ?_) (fun c40 => ?_)
                        · -- t77 True
                          have hx21 := itT hx21 c40
                          refine k_no rfl rfl rfl rfl ?_
                          refine k_no rfl rfl rfl rfl ?_
                          refine k_no rfl rfl rfl rfl ?_
                          refine k_pickT rfl rfl rfl rfl ?_
                          exact k_met ⟨s38, ⟨(congrArg (fun b => some (Value.bool b)) (Option.some.inj hx21)), trivial⟩, ⟨rfl, rfl, rfl, rfl, rfl, rfl, rfl, rfl, rfl, rfl, rfl, trivial⟩, rfl, hE39⟩
                        · -- t77 False
                          have hx21 := itF hx21 c40
                          refine k_yes rfl rfl ?_
                          refine k_move rfl rfl ?_
                          refine k_yes rfl rfl ?_
                          obtain ⟨x22, hx22, hx21⟩ := ob hx21
                          refine k_call cal26 rfl (code_Reader_At_w  hz6 hx22) rfl ?_
                          rintro s41 vr41 st41 rfl
                          have szs41 := st41.size
                          have hS : Step K0 s s41 := hS.trans0 st41
                          have hE12 : Step (KO (b5 + 1)) s11 s41 := hE12.trans0 st41
                          have hE13 : Step (KO (b5 + 1)) s11 s41 := hE13.trans0 st41
                          have hE39 : Step K0 s38 s41 := hE39.trans0 st41
                          replace hp0 := hp0.up' st41
                          replace hz6 := hz6.up' st41
                          refine k_yes rfl rfl ?_
                          refine k_neq rfl rfl rfl ?_
                          refine k_pickF rfl rfl rfl rfl ?_
                          exact k_met ⟨s41, ⟨(congrArg (fun b => some (Value.bool b)) (Option.some.inj hx21)), trivial⟩, ⟨rfl, rfl, rfl, rfl, rfl, rfl, rfl, rfl, rfl, rfl, rfl, trivial⟩, rfl, hE39⟩
                      · -- behind
                        rintro s42 wL ⟨rfl, hE39⟩
                        have szs42 := hE39.size
                        have hS : Step K0 s s42 := hS.trans0 hE39
                        have hE12 : Step (KO (b5 + 1)) s11 s42 := hE12.trans0 hE39
                        have hE13 : Step (KO (b5 + 1)) s11 s42 := hE13.trans0 hE39
                        replace hp0 := hp0.up' hE39
                        replace hz6 := hz6.up' hE39
                        refine k_nil ?_
                        refine k_keep [(0, _), (2, _), (3, _), (4, _), (5, _), (6, _), (81, _)] ⟨rfl, rfl, rfl, rfl, rfl, rfl, rfl, trivial⟩ ?_
                        refine k_cond rfl (fun c43 => ?_) (fun c43 => ?_)
                        · -- T
                          have h := ibT h c43
                          refine k_seq ?_
                          refine k_region ?_
                          refine k_assign rfl rfl ?_
                          refine k_nil ?_
                          refine k_keep [(0, _), (2, _), (3, _), (4, _), (5, _), (6, _)] ⟨rfl, rfl, rfl, rfl, rfl, rfl, trivial⟩ ?_
                          refine k_ret ?_
                          obtain rfl := Option.some.inj h
                          refine ⟨_, rfl, Ret.mk hS ?_⟩
                          exact rfl
                        · -- F
                          have h := ibF h c43
                          refine k_skip ?_
                          refine k_blk ?_
                          refine k_region ?_
                          refine k_move rfl rfl ?_
                          refine k_add rfl rfl rfl ?_
                          refine k_assign rfl rfl ?_
                          refine k_nil ?_
                          exact k_stop ⟨(s42, i64 (x9 + 1), x20.2.2, j), ⟨(by first | rfl | (simp <;> rfl)), trivial⟩, ⟨rfl, rfl, rfl, rfl, rfl, trivial⟩, ⟨rfl, hE13, hz6, h⟩, (by simp)⟩
        · -- F
          have h := itF h c15
          refine k_exit rfl ?_
          exact k_stop ⟨(s14, x10), trivial, ⟨rfl, rfl, trivial⟩, ⟨rfl, hE12, hz6, h⟩⟩
      · -- behind
        rintro ⟨s44, x8⟩ wL ⟨rfl, hE12, hz6, h⟩
        rw [hK12] at h
        have szs44 := hE12.size
        have hS : Step K0 s s44 := hS.comp hE12 (by intro l hl hk; simp only [KC, KO, KU, K0] at hk ⊢; omega)
        refine k_seq ?_
        refine k_region ?_
        refine k_move rfl rfl ?_
        refine k_move rfl rfl ?_
        obtain ⟨x23, hx23, h⟩ := ob h
        have hE45 : Step K0 s44 s44 := (Step.refl _).of0 (by first | exact fun _ h => h | (intro c h; simp [KC, KO, KU] at h <;> omega))
        refine k_cutl (X := St) 2 [(2, .bool false), (5, .bool x5), (82, .bool x5)] (fun _ => [(85, .bool x23)]) (fun sl wL => sl.w = wL ∧ Step K0 s44 sl) ?_ ?_
        · -- the ways
          refine k_again 83 rfl ?_
          refine k_splitb (fun c46 => ?_) (fun c46 => ?_)
          · -- t83 True
            have hx23 := ibT hx23 c46
            refine k_yes rfl rfl ?_
            obtain ⟨x24, hx24, hx23⟩ := ob hx23
            obtain rfl := Option.some.inj (show some true = some x24 from hx24)
            refine k_call cal9 rfl (law02_awake_w   hx24) rfl ?_
            rintro s47 vr47 st47 rfl
            have szs47 := st47.size
            have hS : Step K0 s s47 := hS.trans0 st47
            have hE45 : Step K0 s44 s47 := hE45.trans0 st47
            refine k_pickT rfl rfl rfl rfl ?_
            exact k_met ⟨s47, ⟨(congrArg (fun b => some (Value.bool b)) (Option.some.inj hx23)), trivial⟩, ⟨rfl, rfl, rfl, trivial⟩, rfl, hE45⟩
          · -- t83 False
            have hx23 := ibF hx23 c46
            refine k_no rfl rfl rfl rfl ?_
            refine k_pickF rfl rfl rfl rfl ?_
            exact k_met ⟨s44, ⟨(congrArg (fun b => some (Value.bool b)) (Option.some.inj hx23)), trivial⟩, ⟨rfl, rfl, rfl, trivial⟩, rfl, hE45⟩
        · -- behind
          rintro s48 wL ⟨rfl, hE45⟩
          have szs48 := hE45.size
          have hS : Step K0 s s48 := hS.trans0 hE45
          refine k_assign rfl rfl ?_
          refine k_nil ?_
          refine k_keep [(2, _)] ⟨rfl, trivial⟩ ?_
          refine k_ret ?_
          obtain rfl := Option.some.inj h
          refine ⟨_, rfl, Ret.mk hS ?_⟩
          exact rfl
end Go.Proofs
