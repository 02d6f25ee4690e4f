import Derived.Test.YtecbmbcdinkccaaGreatDoorW01ZValueCmp1
set_option linter.unusedSimpArgs false
set_option linter.unusedVariables false
namespace Go.Proofs
open Go.Fw
set_option maxHeartbeats 1000000 in
set_option maxRecDepth 100000 in
theorem ref01_Key_w {s : St} {a0 : (List UInt8)} {r : Bool}  (h : ref01_Key a0 = some r) : Calls Tryz.prog 24 #[S a0] s.w (Ret s K0 (fun s1 v => v = .bool r)) := by
 unfold ref01_Key at h
 have hS := Step.r0 K0 s
 refine k_fn (rs := [2]) (args := [S a0]) Tryz.func24 rfl rfl rfl rfl ?_
 refine k_seq ?_
 refine k_region ?_
 refine k_assign rfl rfl ?_
 refine k_nil ?_
 refine k_seq ?_
 refine k_seq ?_
 refine k_region ?_
 refine k_move rfl rfl ?_
 refine k_len_str Tryz.underlying9 rfl rfl ?_
 refine k_lss rfl rfl rfl ?_
 refine k_move rfl rfl ?_
 have hE1 := Step.r0 K0 s
 refine k_cutl (X := St) 4 [(0, S a0), (2, .bool false), (4, S a0), (5, .int .i64 (a0.length : Int)), (6, .bool (decide ((a0.length : Int) < 1)))] (fun _ => [(11, .bool (decide (((a0.length : Int) < 1) ∨ (24 < (a0.length : Int)))))]) (fun sl wL => sl.w = wL ∧ Step K0 s sl) ?_ ?_
 ·
  refine k_again 7 rfl ?_
  refine k_split (fun c2 => ?_) (fun c2 => ?_)
  ·
   refine k_no rfl rfl rfl rfl ?_
   refine k_no rfl rfl rfl rfl ?_
   refine k_no rfl rfl rfl rfl ?_
   refine k_pickT rfl rfl rfl rfl ?_
   exact k_met ⟨s, ⟨(congrArg (fun b => some (Value.bool b)) (by first | exact decide_eq_decide.2 ⟨Or.inr, fun h => h.resolve_left c2⟩ | exact (decide_eq_true (Or.inl c2)).symm | (simp [c2]; done) | (simp [c2, i64] <;> omega))), trivial⟩, ⟨rfl, rfl, rfl, rfl, rfl, trivial⟩, rfl, hE1⟩
  ·
   refine k_yes rfl rfl ?_
   refine k_move rfl rfl ?_
   refine k_yes rfl rfl ?_
   refine k_len_str Tryz.underlying9 rfl rfl ?_
   refine k_yes rfl rfl ?_
   refine k_gtr rfl rfl rfl ?_
   refine k_pickF rfl rfl rfl rfl ?_
   exact k_met ⟨s, ⟨(congrArg (fun b => some (Value.bool b)) (by first | exact decide_eq_decide.2 ⟨Or.inr, fun h => h.resolve_left c2⟩ | exact (decide_eq_true (Or.inl c2)).symm | (simp [c2]; done) | (simp [c2, i64] <;> omega))), trivial⟩, ⟨rfl, rfl, rfl, rfl, rfl, trivial⟩, rfl, hE1⟩
 ·
  rintro s3 wL ⟨rfl, hE1⟩
  have szs3 := hE1.size
  have hS := hS.trans0 hE1
  refine k_nil ?_
  refine k_keep [(0, _), (2, _), (11, _)] ⟨rfl, rfl, rfl, trivial⟩ ?_
  refine k_cond_dec rfl (fun c4 => ?_) (fun c4 => ?_)
  ·
   have h := itT h c4
   refine k_seq ?_
   refine k_region ?_
   refine k_assign rfl rfl ?_
   refine k_nil ?_
   refine k_keep [(0, _), (2, _)] ⟨rfl, rfl, trivial⟩ ?_
   refine k_ret ?_
   obtain rfl := Option.some.inj h
   refine ⟨_, rfl, Ret.mk hS ?_⟩
   exact rfl
  ·
   have h := itF h c4
   refine k_skip ?_
   refine k_seq ?_
   refine k_keep [(0, _), (2, _)] ⟨rfl, rfl, trivial⟩ ?_
   obtain ⟨kj1, hK5, h⟩ := jn_out h
   have hE5 := Step.r0 K0 s3
   refine k_cutc (X := St) [(2, .bool false)] (fun (xL : St) => match xL with | sl => []) (fun (xL : St) (wL : World) => match xL with | sl => sl.w = wL ∧ Step K0 s3 sl ∧ kj1 () = some r) ?_ ?_
   ·
    refine k_seq ?_
    refine k_region ?_
    refine k_assign rfl rfl ?_
    refine k_nil ?_
    refine k_block ?_
    refine k_loopc (X := St × Int × Nat) [(0, _), (2, _)] (fun (xL : St × Int × Nat) => match xL with | (sl, x2, j) => [(3, .int .i64 x2)]) (fun (xL : St × Int × Nat) (wL : World) => match xL with | (sl, x2, j) => sl.w = wL ∧ Step K0 s3 sl ∧ ref01_Key_l1 a0 kj1 j x2 = some r) (fun (xL : St × Int × Nat) => match xL with | (sl, x2, j) => j) (s3, 0, FU) ⟨rfl, rfl, trivial⟩ ⟨(by first | rfl | (simp <;> rfl)), trivial⟩ ⟨rfl, (Step.refl _).of0 (by first | exact fun _ h => h | (intro c h; simp [KC, KO, KU, KN, KB] at h <;> omega)), h⟩ ?_
    rintro ⟨s7, x2, j⟩ wL ⟨rfl, hE6, h⟩
    cases j with
    | zero => rw [ref01_Key_l1] at h; exact (noneNe h).elim
    | succ j =>
    rw [ref01_Key_l1] at h
    have szs7 := hE6.size
    have hS := hS.trans0 hE6
    have hE5 := hE5.trans0 hE6
    refine k_seq ?_
    refine k_seq ?_
    refine k_region ?_
    refine k_move rfl rfl ?_
    refine k_move rfl rfl ?_
    refine k_len_str Tryz.underlying9 rfl rfl ?_
    refine k_lss rfl rfl rfl ?_
    refine k_nil ?_
    refine k_keep [(0, _), (2, _), (3, _), (15, _)] ⟨rfl, rfl, rfl, rfl, trivial⟩ ?_
    refine k_cond_dec rfl (fun c8 => ?_) (fun c8 => ?_)
    ·
     have h := itT h c8
     refine k_skip ?_
     refine k_seq ?_
     refine k_block ?_
     refine k_seq ?_
     refine k_region ?_
     refine k_move rfl rfl ?_
     refine k_move rfl rfl ?_
     obtain ⟨x3, hx3, h⟩ := ob h
     refine k_index_str Tryz.underlying9 rfl rfl (geti_out hx3).1 (geti_out hx3).2.1 rfl ?_
     refine k_as (congrArg (fun c : UInt8 => Value.int .u8 (c.toNat : Int)) (geti_getD hx3)) ?_
     refine k_lss rfl rfl rfl ?_
     refine k_move rfl rfl ?_
     obtain ⟨x4, hx4, h⟩ := ob h
     have hE9 := Step.r0 K0 s7
     refine k_cutl (X := St) 5 [(0, S a0), (2, .bool false), (3, .int .i64 x2), (15, .bool (decide (x2 < (a0.length : Int)))), (18, S a0), (19, .int .i64 x2), (20, .int .u8 (x3.toNat : Int)), (21, .bool (decide ((x3.toNat : Int) < 33)))] (fun _ => [(27, .bool x4)]) (fun sl wL => sl.w = wL ∧ Step K0 s7 sl) ?_ ?_
     ·
      refine k_again 22 rfl ?_
      refine k_split (fun c10 => ?_) (fun c10 => ?_)
      ·
       have hx4 := itT hx4 c10
       refine k_no rfl rfl rfl rfl ?_
       refine k_no rfl rfl rfl rfl ?_
       refine k_no rfl rfl rfl rfl ?_
       refine k_no rfl rfl rfl rfl ?_
       refine k_pickT rfl rfl rfl rfl ?_
       exact k_met ⟨s7, ⟨(congrArg (fun b => some (Value.bool b)) (Option.some.inj hx4)), trivial⟩, ⟨rfl, rfl, rfl, rfl, rfl, rfl, rfl, rfl, trivial⟩, rfl, hE9⟩
      ·
       have hx4 := itF hx4 c10
       refine k_yes rfl rfl ?_
       refine k_move rfl rfl ?_
       refine k_yes rfl rfl ?_
       refine k_move rfl rfl ?_
       refine k_yes rfl rfl ?_
       obtain ⟨x5, hx5, hx4⟩ := ob hx4
       refine k_index_str Tryz.underlying9 rfl rfl (geti_out hx5).1 (geti_out hx5).2.1 rfl ?_
       refine k_as (congrArg (fun c : UInt8 => Value.int .u8 (c.toNat : Int)) (geti_getD hx5)) ?_
       refine k_yes rfl rfl ?_
       refine k_gtr rfl rfl rfl ?_
       refine k_pickF rfl rfl rfl rfl ?_
       exact k_met ⟨s7, ⟨(congrArg (fun b => some (Value.bool b)) (Option.some.inj hx4)), trivial⟩, ⟨rfl, rfl, rfl, rfl, rfl, rfl, rfl, rfl, trivial⟩, rfl, hE9⟩
     ·
      rintro s11 wL ⟨rfl, hE9⟩
      have szs11 := hE9.size
      have hS := hS.trans0 hE9
      have hE5 := hE5.trans0 hE9
      have hE6 := hE6.trans0 hE9
      refine k_move rfl rfl ?_
      obtain ⟨x6, hx6, h⟩ := ob h
      have hE12 := Step.r0 K0 s11
      refine k_cutl (X := St) 5 [(0, S a0), (2, .bool false), (3, .int .i64 x2), (15, .bool (decide (x2 < (a0.length : Int)))), (18, S a0), (19, .int .i64 x2), (20, .int .u8 (x3.toNat : Int)), (21, .bool (decide ((x3.toNat : Int) < 33))), (27, .bool x4)] (fun _ => [(33, .bool x6)]) (fun sl wL => sl.w = wL ∧ Step K0 s11 sl) ?_ ?_
      ·
       refine k_again 28 rfl ?_
       refine k_splitb (fun c13 => ?_) (fun c13 => ?_)
       ·
        have hx6 := ibT hx6 c13
        refine k_no rfl rfl rfl rfl ?_
        refine k_no rfl rfl rfl rfl ?_
        refine k_no rfl rfl rfl rfl ?_
        refine k_no rfl rfl rfl rfl ?_
        refine k_pickT rfl rfl rfl rfl ?_
        exact k_met ⟨s11, ⟨(congrArg (fun b => some (Value.bool b)) (Option.some.inj hx6)), trivial⟩, ⟨rfl, rfl, rfl, rfl, rfl, rfl, rfl, rfl, rfl, trivial⟩, rfl, hE12⟩
       ·
        have hx6 := ibF hx6 c13
        refine k_yes rfl rfl ?_
        refine k_move rfl rfl ?_
        refine k_yes rfl rfl ?_
        refine k_move rfl rfl ?_
        refine k_yes rfl rfl ?_
        obtain ⟨x7, hx7, hx6⟩ := ob hx6
        refine k_index_str Tryz.underlying9 rfl rfl (geti_out hx7).1 (geti_out hx7).2.1 rfl ?_
        refine k_as (congrArg (fun c : UInt8 => Value.int .u8 (c.toNat : Int)) (geti_getD hx7)) ?_
        refine k_yes rfl rfl ?_
        refine k_eql rfl rfl rfl ?_
        refine k_pickF rfl rfl rfl rfl ?_
        exact k_met ⟨s11, ⟨(congrArg (fun b => some (Value.bool b)) (Option.some.inj hx6)), trivial⟩, ⟨rfl, rfl, rfl, rfl, rfl, rfl, rfl, rfl, rfl, trivial⟩, rfl, hE12⟩
      ·
       rintro s14 wL ⟨rfl, hE12⟩
       have szs14 := hE12.size
       have hS := hS.trans0 hE12
       have hE5 := hE5.trans0 hE12
       have hE6 := hE6.trans0 hE12
       refine k_move rfl rfl ?_
       obtain ⟨x8, hx8, h⟩ := ob h
       have hE15 := Step.r0 K0 s14
       refine k_cutl (X := St) 5 [(0, S a0), (2, .bool false), (3, .int .i64 x2), (15, .bool (decide (x2 < (a0.length : Int)))), (18, S a0), (19, .int .i64 x2), (20, .int .u8 (x3.toNat : Int)), (21, .bool (decide ((x3.toNat : Int) < 33))), (27, .bool x4), (33, .bool x6)] (fun _ => [(39, .bool x8)]) (fun sl wL => sl.w = wL ∧ Step K0 s14 sl) ?_ ?_
       ·
        refine k_again 34 rfl ?_
        refine k_splitb (fun c16 => ?_) (fun c16 => ?_)
        ·
         have hx8 := ibT hx8 c16
         refine k_no rfl rfl rfl rfl ?_
         refine k_no rfl rfl rfl rfl ?_
         refine k_no rfl rfl rfl rfl ?_
         refine k_no rfl rfl rfl rfl ?_
         refine k_pickT rfl rfl rfl rfl ?_
         exact k_met ⟨s14, ⟨(congrArg (fun b => some (Value.bool b)) (Option.some.inj hx8)), trivial⟩, ⟨rfl, rfl, rfl, rfl, rfl, rfl, rfl, rfl, rfl, rfl, trivial⟩, rfl, hE15⟩
        ·
         have hx8 := ibF hx8 c16
         refine k_yes rfl rfl ?_
         refine k_move rfl rfl ?_
         refine k_yes rfl rfl ?_
         refine k_move rfl rfl ?_
         refine k_yes rfl rfl ?_
         obtain ⟨x9, hx9, hx8⟩ := ob hx8
         refine k_index_str Tryz.underlying9 rfl rfl (geti_out hx9).1 (geti_out hx9).2.1 rfl ?_
         refine k_as (congrArg (fun c : UInt8 => Value.int .u8 (c.toNat : Int)) (geti_getD hx9)) ?_
         refine k_yes rfl rfl ?_
         refine k_eql rfl rfl rfl ?_
         refine k_pickF rfl rfl rfl rfl ?_
         exact k_met ⟨s14, ⟨(congrArg (fun b => some (Value.bool b)) (Option.some.inj hx8)), trivial⟩, ⟨rfl, rfl, rfl, rfl, rfl, rfl, rfl, rfl, rfl, rfl, trivial⟩, rfl, hE15⟩
       ·
        rintro s17 wL ⟨rfl, hE15⟩
        have szs17 := hE15.size
        have hS := hS.trans0 hE15
        have hE5 := hE5.trans0 hE15
        have hE6 := hE6.trans0 hE15
        refine k_nil ?_
        refine k_keep [(0, _), (2, _), (3, _), (39, _)] ⟨rfl, rfl, rfl, rfl, trivial⟩ ?_
        refine k_cond rfl (fun c18 => ?_) (fun c18 => ?_)
        ·
         have h := ibT h c18
         refine k_seq ?_
         refine k_region ?_
         refine k_assign rfl rfl ?_
         refine k_nil ?_
         refine k_keep [(0, _), (2, _), (3, _)] ⟨rfl, rfl, rfl, trivial⟩ ?_
         refine k_ret ?_
         obtain rfl := Option.some.inj h
         refine ⟨_, rfl, Ret.mk hS ?_⟩
         exact rfl
        ·
         have h := ibF h c18
         refine k_skip ?_
         refine k_blk ?_
         refine k_region ?_
         refine k_move rfl rfl ?_
         refine k_add rfl rfl rfl ?_
         refine k_assign rfl rfl ?_
         refine k_nil ?_
         exact k_stop ⟨(s17, i64 (x2 + 1), j), ⟨(by first | rfl | (simp <;> rfl)), trivial⟩, ⟨rfl, rfl, trivial⟩, ⟨rfl, hE6, h⟩, (by simp)⟩
    ·
     have h := itF h c8
     refine k_exit rfl ?_
     exact k_stop ⟨s7, trivial, ⟨rfl, trivial⟩, ⟨rfl, hE5, h⟩⟩
   ·
    rintro s19 wL ⟨rfl, hE5, h⟩
    rw [hK5] at h
    have szs19 := hE5.size
    have hS := hS.trans0 hE5
    refine k_seq ?_
    refine k_region ?_
    refine k_assign rfl rfl ?_
    refine k_nil ?_
    refine k_ret ?_
    obtain rfl := Option.some.inj h
    refine ⟨_, rfl, Ret.mk hS ?_⟩
    exact rfl

set_option maxHeartbeats 1000000 in
set_option maxRecDepth 100000 in
theorem ref01_fields_s_w {s : St} {cs0 : List Value} {a0 : ApiValue} {a70 : (ApiValue → Option Bool)} {r : Bool} (hp0 : RC s cs0 (dApiValue a0)) (ih70 : ∀ {s : St} {cs0 : List Value} {a0 : ApiValue} {r : Bool} (hp0 : RC s cs0 (dApiValue a0)) (h : a70 a0 = some r), Calls Tryz.prog 32 #[.agg cs0.toArray] s.w (Ret s K0 (fun s1 v => v = .bool r))) (h : ref01_fields_s a70 a0 = some r) : Calls Tryz.prog 32 #[.agg cs0.toArray] s.w (Ret s K0 (fun s1 v => v = .bool r)) := by
 unfold ref01_fields_s at h
 obtain ⟨q0_0, q0_1, rfl, hq0_0, hq0_1⟩ := opnApiValue hp0
 have hS := Step.r0 K0 s
 refine k_fn (rs := [2]) (args := [.agg #[.int .i64 a0.Kind, .int .i64 a0.Num, S a0.Text, q0_0, q0_1]]) Tryz.func32 rfl rfl rfl rfl ?_
 refine k_seq ?_
 refine k_region ?_
 refine k_box rfl rfl ?_
 intro s1 b1 st1 h1 ge1
 have szs1 := st1.size
 have hS := hS.trans0 st1
 replace hq0_0 := hq0_0.up2 st1
 replace hq0_1 := hq0_1.up2 st1
 have lt1 := h1.lt
 refine k_assign rfl rfl ?_
 refine k_nil ?_
 refine k_keep [(1, _), (2, _)] ⟨rfl, rfl, trivial⟩ ?_
 refine k_seq ?_
 refine k_seq ?_
 refine k_region ?_
 refine k_field_addr fld25_0 rfl rfl ?_
 refine k_load_blk one3 rfl h1 rfl rfl ?_
 refine k_lss rfl rfl rfl ?_
 refine k_move rfl rfl ?_
 have hE2 := Step.r0 K0 s1
 refine k_cutl (X := St) 4 [(1, .pointer (some ⟨b1, 0, none⟩)), (2, .bool false), (5, .pointer (some ⟨b1, 0, none⟩)), (6, .int .i64 a0.Kind), (7, .bool (decide (a0.Kind < 0)))] (fun _ => [(12, .bool (decide ((a0.Kind < 0) ∨ (6 < a0.Kind))))]) (fun sl wL => sl.w = wL ∧ Step K0 s1 sl) ?_ ?_
 ·
  refine k_again 8 rfl ?_
  refine k_split (fun c3 => ?_) (fun c3 => ?_)
  ·
   refine k_no rfl rfl rfl rfl ?_
   refine k_no rfl rfl rfl rfl ?_
   refine k_no rfl rfl rfl rfl ?_
   refine k_pickT rfl rfl rfl rfl ?_
   exact k_met ⟨s1, ⟨(congrArg (fun b => some (Value.bool b)) (by first | exact decide_eq_decide.2 ⟨Or.inr, fun h => h.resolve_left c3⟩ | exact (decide_eq_true (Or.inl c3)).symm | (simp [c3]; done) | (simp [c3, i64] <;> omega))), trivial⟩, ⟨rfl, rfl, rfl, rfl, rfl, trivial⟩, rfl, hE2⟩
  ·
   refine k_yes rfl rfl ?_
   refine k_field_addr fld25_0 rfl rfl ?_
   refine k_yes rfl rfl ?_
   refine k_load_blk one3 rfl h1 rfl rfl ?_
   refine k_yes rfl rfl ?_
   refine k_gtr rfl rfl rfl ?_
   refine k_pickF rfl rfl rfl rfl ?_
   exact k_met ⟨s1, ⟨(congrArg (fun b => some (Value.bool b)) (by first | exact decide_eq_decide.2 ⟨Or.inr, fun h => h.resolve_left c3⟩ | exact (decide_eq_true (Or.inl c3)).symm | (simp [c3]; done) | (simp [c3, i64] <;> omega))), trivial⟩, ⟨rfl, rfl, rfl, rfl, rfl, trivial⟩, rfl, hE2⟩
 ·
  rintro s4 wL ⟨rfl, hE2⟩
  have szs4 := hE2.size
  have hS := hS.trans0 hE2
  replace hq0_0 := hq0_0.up2 hE2
  replace hq0_1 := hq0_1.up2 hE2
  replace h1 := h1.up2 hE2
  refine k_move rfl rfl ?_
  have hE5 := Step.r0 K0 s4
  refine k_cutl (X := St) 9 [(1, .pointer (some ⟨b1, 0, none⟩)), (2, .bool false), (5, .pointer (some ⟨b1, 0, none⟩)), (6, .int .i64 a0.Kind), (7, .bool (decide (a0.Kind < 0))), (12, .bool (decide ((a0.Kind < 0) ∨ (6 < a0.Kind))))] (fun _ => [(22, .bool (decide (((a0.Kind < 0) ∨ (6 < a0.Kind)) ∨ ((a0.Kind ≠ 3) ∧ (a0.Num ≠ 0)))))]) (fun sl wL => sl.w = wL ∧ Step K0 s4 sl) ?_ ?_
  ·
   refine k_again 13 rfl ?_
   refine k_split (fun c6 => ?_) (fun c6 => ?_)
   ·
    refine k_no rfl rfl rfl rfl ?_
    refine k_no rfl rfl rfl rfl ?_
    refine k_no rfl rfl rfl rfl ?_
    refine k_no rfl rfl rfl rfl ?_
    refine k_nou rfl rfl rfl rfl ?_
    refine k_nou rfl rfl rfl rfl ?_
    refine k_nou rfl rfl rfl rfl ?_
    refine k_no rfl rfl rfl rfl ?_
    refine k_pickT rfl rfl rfl rfl ?_
    exact k_met ⟨s4, ⟨(congrArg (fun b => some (Value.bool b)) (by first | exact decide_eq_decide.2 ⟨Or.inr, fun h => h.resolve_left c6⟩ | exact (decide_eq_true (Or.inl c6)).symm | (simp [c6]; done) | (simp [c6, i64] <;> omega))), trivial⟩, ⟨rfl, rfl, rfl, rfl, rfl, rfl, trivial⟩, rfl, hE5⟩
   ·
    refine k_yes rfl rfl ?_
    refine k_field_addr fld25_0 rfl rfl ?_
    refine k_yes rfl rfl ?_
    refine k_load_blk one3 rfl h1 rfl rfl ?_
    refine k_yes rfl rfl ?_
    refine k_neq rfl rfl rfl ?_
    refine k_yes rfl rfl ?_
    refine k_move rfl rfl ?_
    have hE7 := Step.r0 K0 s4
    refine k_cutl (X := St) 4 [(1, .pointer (some ⟨b1, 0, none⟩)), (2, .bool false), (5, .pointer (some ⟨b1, 0, none⟩)), (6, .int .i64 a0.Kind), (7, .bool (decide (a0.Kind < 0))), (12, .bool (decide ((a0.Kind < 0) ∨ (6 < a0.Kind)))), (13, .bool false), (14, .pointer (some ⟨b1, 0, none⟩)), (15, .int .i64 a0.Kind), (16, .bool (decide (a0.Kind ≠ 3)))] (fun _ => [(21, .bool (decide ((a0.Kind ≠ 3) ∧ (a0.Num ≠ 0))))]) (fun sl wL => sl.w = wL ∧ Step K0 s4 sl) ?_ ?_
    ·
     refine k_again 17 rfl ?_
     refine k_split (fun c8 => ?_) (fun c8 => ?_)
     ·
      refine k_yes rfl rfl ?_
      refine k_field_addr fld25_1 rfl rfl ?_
      refine k_yes rfl rfl ?_
      refine k_load_blk one2 rfl h1 rfl rfl ?_
      refine k_yes rfl rfl ?_
      refine k_neq rfl rfl rfl ?_
      refine k_yes rfl rfl ?_
      refine k_pickT rfl rfl rfl rfl ?_
      exact k_met ⟨s4, ⟨(congrArg (fun b => some (Value.bool b)) (by first | exact decide_eq_decide.2 ⟨fun h => ⟨c8, h⟩, fun h => h.2⟩ | exact (decide_eq_false (fun h => c8 h.1)).symm | (simp [c8]; done) | (simp [c8, i64] <;> omega))), trivial⟩, ⟨rfl, rfl, rfl, rfl, rfl, rfl, rfl, rfl, rfl, rfl, trivial⟩, rfl, hE7⟩
     ·
      refine k_no rfl rfl rfl rfl ?_
      refine k_no rfl rfl rfl rfl ?_
      refine k_no rfl rfl rfl rfl ?_
      refine k_yes rfl rfl ?_
      refine k_pickF rfl rfl rfl rfl ?_
      exact k_met ⟨s4, ⟨(congrArg (fun b => some (Value.bool b)) (by first | exact decide_eq_decide.2 ⟨fun h => ⟨c8, h⟩, fun h => h.2⟩ | exact (decide_eq_false (fun h => c8 h.1)).symm | (simp [c8]; done) | (simp [c8, i64] <;> omega))), trivial⟩, ⟨rfl, rfl, rfl, rfl, rfl, rfl, rfl, rfl, rfl, rfl, trivial⟩, rfl, hE7⟩
    ·
     rintro s9 wL ⟨rfl, hE7⟩
     have szs9 := hE7.size
     have hS := hS.trans0 hE7
     have hE5 := hE5.trans0 hE7
     refine k_pickF rfl rfl rfl rfl ?_
     exact k_met ⟨s9, ⟨(congrArg (fun b => some (Value.bool b)) (by first | exact decide_eq_decide.2 ⟨Or.inr, fun h => h.resolve_left c6⟩ | exact (decide_eq_true (Or.inl c6)).symm | (simp [c6]; done) | (simp [c6, i64] <;> omega))), trivial⟩, ⟨rfl, rfl, rfl, rfl, rfl, rfl, trivial⟩, rfl, hE5⟩
  ·
   rintro s10 wL ⟨rfl, hE5⟩
   have szs10 := hE5.size
   have hS := hS.trans0 hE5
   replace hq0_0 := hq0_0.up2 hE5
   replace hq0_1 := hq0_1.up2 hE5
   replace h1 := h1.up2 hE5
   refine k_move rfl rfl ?_
   have hE11 := Step.r0 K0 s10
   refine k_cutl (X := St) 9 [(1, .pointer (some ⟨b1, 0, none⟩)), (2, .bool false), (5, .pointer (some ⟨b1, 0, none⟩)), (6, .int .i64 a0.Kind), (7, .bool (decide (a0.Kind < 0))), (12, .bool (decide ((a0.Kind < 0) ∨ (6 < a0.Kind)))), (22, .bool (decide (((a0.Kind < 0) ∨ (6 < a0.Kind)) ∨ ((a0.Kind ≠ 3) ∧ (a0.Num ≠ 0)))))] (fun _ => [(32, .bool (decide ((((a0.Kind < 0) ∨ (6 < a0.Kind)) ∨ ((a0.Kind ≠ 3) ∧ (a0.Num ≠ 0))) ∨ ((a0.Kind ≠ 4) ∧ (a0.Text ≠ ([] : List UInt8))))))]) (fun sl wL => sl.w = wL ∧ Step K0 s10 sl) ?_ ?_
   ·
    refine k_again 23 rfl ?_
    refine k_split (fun c12 => ?_) (fun c12 => ?_)
    ·
     refine k_no rfl rfl rfl rfl ?_
     refine k_no rfl rfl rfl rfl ?_
     refine k_no rfl rfl rfl rfl ?_
     refine k_no rfl rfl rfl rfl ?_
     refine k_nou rfl rfl rfl rfl ?_
     refine k_nou rfl rfl rfl rfl ?_
     refine k_nou rfl rfl rfl rfl ?_
     refine k_no rfl rfl rfl rfl ?_
     refine k_pickT rfl rfl rfl rfl ?_
     exact k_met ⟨s10, ⟨(congrArg (fun b => some (Value.bool b)) (by first | exact decide_eq_decide.2 ⟨Or.inr, fun h => h.resolve_left c12⟩ | exact (decide_eq_true (Or.inl c12)).symm | (simp [c12]; done) | (simp [c12, i64] <;> omega))), trivial⟩, ⟨rfl, rfl, rfl, rfl, rfl, rfl, rfl, trivial⟩, rfl, hE11⟩
    ·
     refine k_yes rfl rfl ?_
     refine k_field_addr fld25_0 rfl rfl ?_
     refine k_yes rfl rfl ?_
     refine k_load_blk one3 rfl h1 rfl rfl ?_
     refine k_yes rfl rfl ?_
     refine k_neq rfl rfl rfl ?_
     refine k_yes rfl rfl ?_
     refine k_move rfl rfl ?_
     have hE13 := Step.r0 K0 s10
     refine k_cutl (X := St) 4 [(1, .pointer (some ⟨b1, 0, none⟩)), (2, .bool false), (5, .pointer (some ⟨b1, 0, none⟩)), (6, .int .i64 a0.Kind), (7, .bool (decide (a0.Kind < 0))), (12, .bool (decide ((a0.Kind < 0) ∨ (6 < a0.Kind)))), (22, .bool (decide (((a0.Kind < 0) ∨ (6 < a0.Kind)) ∨ ((a0.Kind ≠ 3) ∧ (a0.Num ≠ 0))))), (23, .bool false), (24, .pointer (some ⟨b1, 0, none⟩)), (25, .int .i64 a0.Kind), (26, .bool (decide (a0.Kind ≠ 4)))] (fun _ => [(31, .bool (decide ((a0.Kind ≠ 4) ∧ (a0.Text ≠ ([] : List UInt8)))))]) (fun sl wL => sl.w = wL ∧ Step K0 s10 sl) ?_ ?_
     ·
      refine k_again 27 rfl ?_
      refine k_split (fun c14 => ?_) (fun c14 => ?_)
      ·
       refine k_yes rfl rfl ?_
       refine k_field_addr fld25_2 rfl rfl ?_
       refine k_yes rfl rfl ?_
       refine k_load_blk one9 rfl h1 rfl rfl ?_
       refine k_yes rfl rfl ?_
       refine k_neq_str rfl rfl rfl ?_
       refine k_yes rfl rfl ?_
       refine k_pickT rfl rfl rfl rfl ?_
       exact k_met ⟨s10, ⟨(congrArg (fun b => some (Value.bool b)) (by first | exact decide_eq_decide.2 ⟨fun h => ⟨c14, h⟩, fun h => h.2⟩ | exact (decide_eq_false (fun h => c14 h.1)).symm | (simp [c14]; done) | (simp [c14, i64] <;> omega))), trivial⟩, ⟨rfl, rfl, rfl, rfl, rfl, rfl, rfl, rfl, rfl, rfl, rfl, trivial⟩, rfl, hE13⟩
      ·
       refine k_no rfl rfl rfl rfl ?_
       refine k_no rfl rfl rfl rfl ?_
       refine k_no rfl rfl rfl rfl ?_
       refine k_yes rfl rfl ?_
       refine k_pickF rfl rfl rfl rfl ?_
       exact k_met ⟨s10, ⟨(congrArg (fun b => some (Value.bool b)) (by first | exact decide_eq_decide.2 ⟨fun h => ⟨c14, h⟩, fun h => h.2⟩ | exact (decide_eq_false (fun h => c14 h.1)).symm | (simp [c14]; done) | (simp [c14, i64] <;> omega))), trivial⟩, ⟨rfl, rfl, rfl, rfl, rfl, rfl, rfl, rfl, rfl, rfl, rfl, trivial⟩, rfl, hE13⟩
     ·
      rintro s15 wL ⟨rfl, hE13⟩
      have szs15 := hE13.size
      have hS := hS.trans0 hE13
      have hE11 := hE11.trans0 hE13
      refine k_pickF rfl rfl rfl rfl ?_
      exact k_met ⟨s15, ⟨(congrArg (fun b => some (Value.bool b)) (by first | exact decide_eq_decide.2 ⟨Or.inr, fun h => h.resolve_left c12⟩ | exact (decide_eq_true (Or.inl c12)).symm | (simp [c12]; done) | (simp [c12, i64] <;> omega))), trivial⟩, ⟨rfl, rfl, rfl, rfl, rfl, rfl, rfl, trivial⟩, rfl, hE11⟩
   ·
    rintro s16 wL ⟨rfl, hE11⟩
    have szs16 := hE11.size
    have hS := hS.trans0 hE11
    replace hq0_0 := hq0_0.up2 hE11
    replace hq0_1 := hq0_1.up2 hE11
    replace h1 := h1.up2 hE11
    refine k_move rfl rfl ?_
    have hE17 := Step.r0 K0 s16
    refine k_cutl (X := St) 10 [(1, .pointer (some ⟨b1, 0, none⟩)), (2, .bool false), (5, .pointer (some ⟨b1, 0, none⟩)), (6, .int .i64 a0.Kind), (7, .bool (decide (a0.Kind < 0))), (12, .bool (decide ((a0.Kind < 0) ∨ (6 < a0.Kind)))), (22, .bool (decide (((a0.Kind < 0) ∨ (6 < a0.Kind)) ∨ ((a0.Kind ≠ 3) ∧ (a0.Num ≠ 0))))), (32, .bool (decide ((((a0.Kind < 0) ∨ (6 < a0.Kind)) ∨ ((a0.Kind ≠ 3) ∧ (a0.Num ≠ 0))) ∨ ((a0.Kind ≠ 4) ∧ (a0.Text ≠ ([] : List UInt8))))))] (fun _ => [(43, .bool (decide (((((a0.Kind < 0) ∨ (6 < a0.Kind)) ∨ ((a0.Kind ≠ 3) ∧ (a0.Num ≠ 0))) ∨ ((a0.Kind ≠ 4) ∧ (a0.Text ≠ ([] : List UInt8)))) ∨ ((a0.Kind < 5) ∧ (0 < (a0.List_.length : Int))))))]) (fun sl wL => sl.w = wL ∧ Step K0 s16 sl) ?_ ?_
    ·
     refine k_again 33 rfl ?_
     refine k_split (fun c18 => ?_) (fun c18 => ?_)
     ·
      refine k_no rfl rfl rfl rfl ?_
      refine k_no rfl rfl rfl rfl ?_
      refine k_no rfl rfl rfl rfl ?_
      refine k_no rfl rfl rfl rfl ?_
      refine k_nou rfl rfl rfl rfl ?_
      refine k_nou rfl rfl rfl rfl ?_
      refine k_nou rfl rfl rfl rfl ?_
      refine k_nou rfl rfl rfl rfl ?_
      refine k_no rfl rfl rfl rfl ?_
      refine k_pickT rfl rfl rfl rfl ?_
      exact k_met ⟨s16, ⟨(congrArg (fun b => some (Value.bool b)) (by first | exact decide_eq_decide.2 ⟨Or.inr, fun h => h.resolve_left c18⟩ | exact (decide_eq_true (Or.inl c18)).symm | (simp [c18]; done) | (simp [c18, i64] <;> omega))), trivial⟩, ⟨rfl, rfl, rfl, rfl, rfl, rfl, rfl, rfl, trivial⟩, rfl, hE17⟩
     ·
      refine k_yes rfl rfl ?_
      refine k_field_addr fld25_0 rfl rfl ?_
      refine k_yes rfl rfl ?_
      refine k_load_blk one3 rfl h1 rfl rfl ?_
      refine k_yes rfl rfl ?_
      refine k_lss rfl rfl rfl ?_
      refine k_yes rfl rfl ?_
      refine k_move rfl rfl ?_
      have hE19 := Step.r0 K0 s16
      refine k_cutl (X := St) 5 [(1, .pointer (some ⟨b1, 0, none⟩)), (2, .bool false), (5, .pointer (some ⟨b1, 0, none⟩)), (6, .int .i64 a0.Kind), (7, .bool (decide (a0.Kind < 0))), (12, .bool (decide ((a0.Kind < 0) ∨ (6 < a0.Kind)))), (22, .bool (decide (((a0.Kind < 0) ∨ (6 < a0.Kind)) ∨ ((a0.Kind ≠ 3) ∧ (a0.Num ≠ 0))))), (32, .bool (decide ((((a0.Kind < 0) ∨ (6 < a0.Kind)) ∨ ((a0.Kind ≠ 3) ∧ (a0.Num ≠ 0))) ∨ ((a0.Kind ≠ 4) ∧ (a0.Text ≠ ([] : List UInt8)))))), (33, .bool false), (34, .pointer (some ⟨b1, 0, none⟩)), (35, .int .i64 a0.Kind), (36, .bool (decide (a0.Kind < 5)))] (fun _ => [(42, .bool (decide ((a0.Kind < 5) ∧ (0 < (a0.List_.length : Int)))))]) (fun sl wL => sl.w = wL ∧ Step K0 s16 sl) ?_ ?_
      ·
       refine k_again 37 rfl ?_
       refine k_split (fun c20 => ?_) (fun c20 => ?_)
       ·
        refine k_yes rfl rfl ?_
        refine k_field_addr fld25_3 rfl rfl ?_
        refine k_yes rfl rfl ?_
        refine k_load_blk one22 rfl h1 rfl rfl ?_
        refine k_yes rfl rfl ?_
        refine k_len Tryz.underlying22 rfl (SL.of_R hq0_0).hasLen rfl ?_
        refine k_as (v := .int .i64 (a0.List_.length : Int)) (by simp only [List.length_map]) ?_
        refine k_yes rfl rfl ?_
        refine k_gtr rfl rfl rfl ?_
        refine k_yes rfl rfl ?_
        refine k_pickT rfl rfl rfl rfl ?_
        exact k_met ⟨s16, ⟨(congrArg (fun b => some (Value.bool b)) (by first | exact decide_eq_decide.2 ⟨fun h => ⟨c20, h⟩, fun h => h.2⟩ | exact (decide_eq_false (fun h => c20 h.1)).symm | (simp [c20]; done) | (simp [c20, i64] <;> omega))), trivial⟩, ⟨rfl, rfl, rfl, rfl, rfl, rfl, rfl, rfl, rfl, rfl, rfl, rfl, trivial⟩, rfl, hE19⟩
       ·
        refine k_no rfl rfl rfl rfl ?_
        refine k_no rfl rfl rfl rfl ?_
        refine k_no rfl rfl rfl rfl ?_
        refine k_no rfl rfl rfl rfl ?_
        refine k_yes rfl rfl ?_
        refine k_pickF rfl rfl rfl rfl ?_
        exact k_met ⟨s16, ⟨(congrArg (fun b => some (Value.bool b)) (by first | exact decide_eq_decide.2 ⟨fun h => ⟨c20, h⟩, fun h => h.2⟩ | exact (decide_eq_false (fun h => c20 h.1)).symm | (simp [c20]; done) | (simp [c20, i64] <;> omega))), trivial⟩, ⟨rfl, rfl, rfl, rfl, rfl, rfl, rfl, rfl, rfl, rfl, rfl, rfl, trivial⟩, rfl, hE19⟩
      ·
       rintro s21 wL ⟨rfl, hE19⟩
       have szs21 := hE19.size
       have hS := hS.trans0 hE19
       have hE17 := hE17.trans0 hE19
       refine k_pickF rfl rfl rfl rfl ?_
       exact k_met ⟨s21, ⟨(congrArg (fun b => some (Value.bool b)) (by first | exact decide_eq_decide.2 ⟨Or.inr, fun h => h.resolve_left c18⟩ | exact (decide_eq_true (Or.inl c18)).symm | (simp [c18]; done) | (simp [c18, i64] <;> omega))), trivial⟩, ⟨rfl, rfl, rfl, rfl, rfl, rfl, rfl, rfl, trivial⟩, rfl, hE17⟩
    ·
     rintro s22 wL ⟨rfl, hE17⟩
     have szs22 := hE17.size
     have hS := hS.trans0 hE17
     replace hq0_0 := hq0_0.up2 hE17
     replace hq0_1 := hq0_1.up2 hE17
     replace h1 := h1.up2 hE17
     refine k_move rfl rfl ?_
     have hE23 := Step.r0 K0 s22
     refine k_cutl (X := St) 10 [(1, .pointer (some ⟨b1, 0, none⟩)), (2, .bool false), (5, .pointer (some ⟨b1, 0, none⟩)), (6, .int .i64 a0.Kind), (7, .bool (decide (a0.Kind < 0))), (12, .bool (decide ((a0.Kind < 0) ∨ (6 < a0.Kind)))), (22, .bool (decide (((a0.Kind < 0) ∨ (6 < a0.Kind)) ∨ ((a0.Kind ≠ 3) ∧ (a0.Num ≠ 0))))), (32, .bool (decide ((((a0.Kind < 0) ∨ (6 < a0.Kind)) ∨ ((a0.Kind ≠ 3) ∧ (a0.Num ≠ 0))) ∨ ((a0.Kind ≠ 4) ∧ (a0.Text ≠ ([] : List UInt8)))))), (43, .bool (decide (((((a0.Kind < 0) ∨ (6 < a0.Kind)) ∨ ((a0.Kind ≠ 3) ∧ (a0.Num ≠ 0))) ∨ ((a0.Kind ≠ 4) ∧ (a0.Text ≠ ([] : List UInt8)))) ∨ ((a0.Kind < 5) ∧ (0 < (a0.List_.length : Int))))))] (fun _ => [(54, .bool (decide ((((((a0.Kind < 0) ∨ (6 < a0.Kind)) ∨ ((a0.Kind ≠ 3) ∧ (a0.Num ≠ 0))) ∨ ((a0.Kind ≠ 4) ∧ (a0.Text ≠ ([] : List UInt8)))) ∨ ((a0.Kind < 5) ∧ (0 < (a0.List_.length : Int)))) ∨ ((a0.Kind ≠ 6) ∧ (0 < (a0.Keys.length : Int))))))]) (fun sl wL => sl.w = wL ∧ Step K0 s22 sl) ?_ ?_
     ·
      refine k_again 44 rfl ?_
      refine k_split (fun c24 => ?_) (fun c24 => ?_)
      ·
       refine k_no rfl rfl rfl rfl ?_
       refine k_no rfl rfl rfl rfl ?_
       refine k_no rfl rfl rfl rfl ?_
       refine k_no rfl rfl rfl rfl ?_
       refine k_nou rfl rfl rfl rfl ?_
       refine k_nou rfl rfl rfl rfl ?_
       refine k_nou rfl rfl rfl rfl ?_
       refine k_nou rfl rfl rfl rfl ?_
       refine k_no rfl rfl rfl rfl ?_
       refine k_pickT rfl rfl rfl rfl ?_
       exact k_met ⟨s22, ⟨(congrArg (fun b => some (Value.bool b)) (by first | exact decide_eq_decide.2 ⟨Or.inr, fun h => h.resolve_left c24⟩ | exact (decide_eq_true (Or.inl c24)).symm | (simp [c24]; done) | (simp [c24, i64] <;> omega))), trivial⟩, ⟨rfl, rfl, rfl, rfl, rfl, rfl, rfl, rfl, rfl, trivial⟩, rfl, hE23⟩
      ·
       refine k_yes rfl rfl ?_
       refine k_field_addr fld25_0 rfl rfl ?_
       refine k_yes rfl rfl ?_
       refine k_load_blk one3 rfl h1 rfl rfl ?_
       refine k_yes rfl rfl ?_
       refine k_neq rfl rfl rfl ?_
       refine k_yes rfl rfl ?_
       refine k_move rfl rfl ?_
       have hE25 := Step.r0 K0 s22
       refine k_cutl (X := St) 5 [(1, .pointer (some ⟨b1, 0, none⟩)), (2, .bool false), (5, .pointer (some ⟨b1, 0, none⟩)), (6, .int .i64 a0.Kind), (7, .bool (decide (a0.Kind < 0))), (12, .bool (decide ((a0.Kind < 0) ∨ (6 < a0.Kind)))), (22, .bool (decide (((a0.Kind < 0) ∨ (6 < a0.Kind)) ∨ ((a0.Kind ≠ 3) ∧ (a0.Num ≠ 0))))), (32, .bool (decide ((((a0.Kind < 0) ∨ (6 < a0.Kind)) ∨ ((a0.Kind ≠ 3) ∧ (a0.Num ≠ 0))) ∨ ((a0.Kind ≠ 4) ∧ (a0.Text ≠ ([] : List UInt8)))))), (43, .bool (decide (((((a0.Kind < 0) ∨ (6 < a0.Kind)) ∨ ((a0.Kind ≠ 3) ∧ (a0.Num ≠ 0))) ∨ ((a0.Kind ≠ 4) ∧ (a0.Text ≠ ([] : List UInt8)))) ∨ ((a0.Kind < 5) ∧ (0 < (a0.List_.length : Int)))))), (44, .bool false), (45, .pointer (some ⟨b1, 0, none⟩)), (46, .int .i64 a0.Kind), (47, .bool (decide (a0.Kind ≠ 6)))] (fun _ => [(53, .bool (decide ((a0.Kind ≠ 6) ∧ (0 < (a0.Keys.length : Int)))))]) (fun sl wL => sl.w = wL ∧ Step K0 s22 sl) ?_ ?_
       ·
        refine k_again 48 rfl ?_
        refine k_split (fun c26 => ?_) (fun c26 => ?_)
        ·
         refine k_yes rfl rfl ?_
         refine k_field_addr fld25_4 rfl rfl ?_
         refine k_yes rfl rfl ?_
         refine k_load_blk one23 rfl h1 rfl rfl ?_
         refine k_yes rfl rfl ?_
         refine k_len Tryz.underlying23 rfl (SL.of_R hq0_1).hasLen rfl ?_
         refine k_as (v := .int .i64 (a0.Keys.length : Int)) (by simp only [List.length_map]) ?_
         refine k_yes rfl rfl ?_
         refine k_gtr rfl rfl rfl ?_
         refine k_yes rfl rfl ?_
         refine k_pickT rfl rfl rfl rfl ?_
         exact k_met ⟨s22, ⟨(congrArg (fun b => some (Value.bool b)) (by first | exact decide_eq_decide.2 ⟨fun h => ⟨c26, h⟩, fun h => h.2⟩ | exact (decide_eq_false (fun h => c26 h.1)).symm | (simp [c26]; done) | (simp [c26, i64] <;> omega))), trivial⟩, ⟨rfl, rfl, rfl, rfl, rfl, rfl, rfl, rfl, rfl, rfl, rfl, rfl, rfl, trivial⟩, rfl, hE25⟩
        ·
         refine k_no rfl rfl rfl rfl ?_
         refine k_no rfl rfl rfl rfl ?_
         refine k_no rfl rfl rfl rfl ?_
         refine k_no rfl rfl rfl rfl ?_
         refine k_yes rfl rfl ?_
         refine k_pickF rfl rfl rfl rfl ?_
         exact k_met ⟨s22, ⟨(congrArg (fun b => some (Value.bool b)) (by first | exact decide_eq_decide.2 ⟨fun h => ⟨c26, h⟩, fun h => h.2⟩ | exact (decide_eq_false (fun h => c26 h.1)).symm | (simp [c26]; done) | (simp [c26, i64] <;> omega))), trivial⟩, ⟨rfl, rfl, rfl, rfl, rfl, rfl, rfl, rfl, rfl, rfl, rfl, rfl, rfl, trivial⟩, rfl, hE25⟩
       ·
        rintro s27 wL ⟨rfl, hE25⟩
        have szs27 := hE25.size
        have hS := hS.trans0 hE25
        have hE23 := hE23.trans0 hE25
        refine k_pickF rfl rfl rfl rfl ?_
        exact k_met ⟨s27, ⟨(congrArg (fun b => some (Value.bool b)) (by first | exact decide_eq_decide.2 ⟨Or.inr, fun h => h.resolve_left c24⟩ | exact (decide_eq_true (Or.inl c24)).symm | (simp [c24]; done) | (simp [c24, i64] <;> omega))), trivial⟩, ⟨rfl, rfl, rfl, rfl, rfl, rfl, rfl, rfl, rfl, trivial⟩, rfl, hE23⟩
     ·
      rintro s28 wL ⟨rfl, hE23⟩
      have szs28 := hE23.size
      have hS := hS.trans0 hE23
      replace hq0_0 := hq0_0.up2 hE23
      replace hq0_1 := hq0_1.up2 hE23
      replace h1 := h1.up2 hE23
      refine k_move rfl rfl ?_
      have hE29 := Step.r0 K0 s28
      refine k_cutl (X := St) 13 [(1, .pointer (some ⟨b1, 0, none⟩)), (2, .bool false), (5, .pointer (some ⟨b1, 0, none⟩)), (6, .int .i64 a0.Kind), (7, .bool (decide (a0.Kind < 0))), (12, .bool (decide ((a0.Kind < 0) ∨ (6 < a0.Kind)))), (22, .bool (decide (((a0.Kind < 0) ∨ (6 < a0.Kind)) ∨ ((a0.Kind ≠ 3) ∧ (a0.Num ≠ 0))))), (32, .bool (decide ((((a0.Kind < 0) ∨ (6 < a0.Kind)) ∨ ((a0.Kind ≠ 3) ∧ (a0.Num ≠ 0))) ∨ ((a0.Kind ≠ 4) ∧ (a0.Text ≠ ([] : List UInt8)))))), (43, .bool (decide (((((a0.Kind < 0) ∨ (6 < a0.Kind)) ∨ ((a0.Kind ≠ 3) ∧ (a0.Num ≠ 0))) ∨ ((a0.Kind ≠ 4) ∧ (a0.Text ≠ ([] : List UInt8)))) ∨ ((a0.Kind < 5) ∧ (0 < (a0.List_.length : Int)))))), (54, .bool (decide ((((((a0.Kind < 0) ∨ (6 < a0.Kind)) ∨ ((a0.Kind ≠ 3) ∧ (a0.Num ≠ 0))) ∨ ((a0.Kind ≠ 4) ∧ (a0.Text ≠ ([] : List UInt8)))) ∨ ((a0.Kind < 5) ∧ (0 < (a0.List_.length : Int)))) ∨ ((a0.Kind ≠ 6) ∧ (0 < (a0.Keys.length : Int))))))] (fun _ => [(68, .bool (decide (((((((a0.Kind < 0) ∨ (6 < a0.Kind)) ∨ ((a0.Kind ≠ 3) ∧ (a0.Num ≠ 0))) ∨ ((a0.Kind ≠ 4) ∧ (a0.Text ≠ ([] : List UInt8)))) ∨ ((a0.Kind < 5) ∧ (0 < (a0.List_.length : Int)))) ∨ ((a0.Kind ≠ 6) ∧ (0 < (a0.Keys.length : Int)))) ∨ ((a0.Kind = 6) ∧ ((a0.Keys.length : Int) ≠ (a0.List_.length : Int))))))]) (fun sl wL => sl.w = wL ∧ Step K0 s28 sl) ?_ ?_
      ·
       refine k_again 55 rfl ?_
       refine k_split (fun c30 => ?_) (fun c30 => ?_)
       ·
        refine k_no rfl rfl rfl rfl ?_
        refine k_no rfl rfl rfl rfl ?_
        refine k_no rfl rfl rfl rfl ?_
        refine k_no rfl rfl rfl rfl ?_
        refine k_nou rfl rfl rfl rfl ?_
        refine k_nou rfl rfl rfl rfl ?_
        refine k_nou rfl rfl rfl rfl ?_
        refine k_nou rfl rfl rfl rfl ?_
        refine k_nou rfl rfl rfl rfl ?_
        refine k_nou rfl rfl rfl rfl ?_
        refine k_nou rfl rfl rfl rfl ?_
        refine k_no rfl rfl rfl rfl ?_
        refine k_pickT rfl rfl rfl rfl ?_
        exact k_met ⟨s28, ⟨(congrArg (fun b => some (Value.bool b)) (by first | exact decide_eq_decide.2 ⟨Or.inr, fun h => h.resolve_left c30⟩ | exact (decide_eq_true (Or.inl c30)).symm | (simp [c30]; done) | (simp [c30, i64] <;> omega))), trivial⟩, ⟨rfl, rfl, rfl, rfl, rfl, rfl, rfl, rfl, rfl, rfl, trivial⟩, rfl, hE29⟩
       ·
        refine k_yes rfl rfl ?_
        refine k_field_addr fld25_0 rfl rfl ?_
        refine k_yes rfl rfl ?_
        refine k_load_blk one3 rfl h1 rfl rfl ?_
        refine k_yes rfl rfl ?_
        refine k_eql rfl rfl rfl ?_
        refine k_yes rfl rfl ?_
        refine k_move rfl rfl ?_
        have hE31 := Step.r0 K0 s28
        refine k_cutl (X := St) 8 [(1, .pointer (some ⟨b1, 0, none⟩)), (2, .bool false), (5, .pointer (some ⟨b1, 0, none⟩)), (6, .int .i64 a0.Kind), (7, .bool (decide (a0.Kind < 0))), (12, .bool (decide ((a0.Kind < 0) ∨ (6 < a0.Kind)))), (22, .bool (decide (((a0.Kind < 0) ∨ (6 < a0.Kind)) ∨ ((a0.Kind ≠ 3) ∧ (a0.Num ≠ 0))))), (32, .bool (decide ((((a0.Kind < 0) ∨ (6 < a0.Kind)) ∨ ((a0.Kind ≠ 3) ∧ (a0.Num ≠ 0))) ∨ ((a0.Kind ≠ 4) ∧ (a0.Text ≠ ([] : List UInt8)))))), (43, .bool (decide (((((a0.Kind < 0) ∨ (6 < a0.Kind)) ∨ ((a0.Kind ≠ 3) ∧ (a0.Num ≠ 0))) ∨ ((a0.Kind ≠ 4) ∧ (a0.Text ≠ ([] : List UInt8)))) ∨ ((a0.Kind < 5) ∧ (0 < (a0.List_.length : Int)))))), (54, .bool (decide ((((((a0.Kind < 0) ∨ (6 < a0.Kind)) ∨ ((a0.Kind ≠ 3) ∧ (a0.Num ≠ 0))) ∨ ((a0.Kind ≠ 4) ∧ (a0.Text ≠ ([] : List UInt8)))) ∨ ((a0.Kind < 5) ∧ (0 < (a0.List_.length : Int)))) ∨ ((a0.Kind ≠ 6) ∧ (0 < (a0.Keys.length : Int)))))), (55, .bool false), (56, .pointer (some ⟨b1, 0, none⟩)), (57, .int .i64 a0.Kind), (58, .bool (decide (a0.Kind = 6)))] (fun _ => [(67, .bool (decide ((a0.Kind = 6) ∧ ((a0.Keys.length : Int) ≠ (a0.List_.length : Int)))))]) (fun sl wL => sl.w = wL ∧ Step K0 s28 sl) ?_ ?_
        ·
         refine k_again 59 rfl ?_
         refine k_split (fun c32 => ?_) (fun c32 => ?_)
         ·
          refine k_yes rfl rfl ?_
          refine k_field_addr fld25_4 rfl rfl ?_
          refine k_yes rfl rfl ?_
          refine k_load_blk one23 rfl h1 rfl rfl ?_
          refine k_yes rfl rfl ?_
          refine k_len Tryz.underlying23 rfl (SL.of_R hq0_1).hasLen rfl ?_
          refine k_as (v := .int .i64 (a0.Keys.length : Int)) (by simp only [List.length_map]) ?_
          refine k_yes rfl rfl ?_
          refine k_field_addr fld25_3 rfl rfl ?_
          refine k_yes rfl rfl ?_
          refine k_load_blk one22 rfl h1 rfl rfl ?_
          refine k_yes rfl rfl ?_
          refine k_len Tryz.underlying22 rfl (SL.of_R hq0_0).hasLen rfl ?_
          refine k_as (v := .int .i64 (a0.List_.length : Int)) (by simp only [List.length_map]) ?_
          refine k_yes rfl rfl ?_
          refine k_neq rfl rfl rfl ?_
          refine k_yes rfl rfl ?_
          refine k_pickT rfl rfl rfl rfl ?_
          exact k_met ⟨s28, ⟨(congrArg (fun b => some (Value.bool b)) (by first | exact decide_eq_decide.2 ⟨fun h => ⟨c32, h⟩, fun h => h.2⟩ | exact (decide_eq_false (fun h => c32 h.1)).symm | (simp [c32]; done) | (simp [c32, i64] <;> omega))), trivial⟩, ⟨rfl, rfl, rfl, rfl, rfl, rfl, rfl, rfl, rfl, rfl, rfl, rfl, rfl, rfl, trivial⟩, rfl, hE31⟩
         ·
          refine k_no rfl rfl rfl rfl ?_
          refine k_no rfl rfl rfl rfl ?_
          refine k_no rfl rfl rfl rfl ?_
          refine k_no rfl rfl rfl rfl ?_
          refine k_no rfl rfl rfl rfl ?_
          refine k_no rfl rfl rfl rfl ?_
          refine k_no rfl rfl rfl rfl ?_
          refine k_yes rfl rfl ?_
          refine k_pickF rfl rfl rfl rfl ?_
          exact k_met ⟨s28, ⟨(congrArg (fun b => some (Value.bool b)) (by first | exact decide_eq_decide.2 ⟨fun h => ⟨c32, h⟩, fun h => h.2⟩ | exact (decide_eq_false (fun h => c32 h.1)).symm | (simp [c32]; done) | (simp [c32, i64] <;> omega))), trivial⟩, ⟨rfl, rfl, rfl, rfl, rfl, rfl, rfl, rfl, rfl, rfl, rfl, rfl, rfl, rfl, trivial⟩, rfl, hE31⟩
        ·
         rintro s33 wL ⟨rfl, hE31⟩
         have szs33 := hE31.size
         have hS := hS.trans0 hE31
         have hE29 := hE29.trans0 hE31
         refine k_pickF rfl rfl rfl rfl ?_
         exact k_met ⟨s33, ⟨(congrArg (fun b => some (Value.bool b)) (by first | exact decide_eq_decide.2 ⟨Or.inr, fun h => h.resolve_left c30⟩ | exact (decide_eq_true (Or.inl c30)).symm | (simp [c30]; done) | (simp [c30, i64] <;> omega))), trivial⟩, ⟨rfl, rfl, rfl, rfl, rfl, rfl, rfl, rfl, rfl, rfl, trivial⟩, rfl, hE29⟩
      ·
       rintro s34 wL ⟨rfl, hE29⟩
       have szs34 := hE29.size
       have hS := hS.trans0 hE29
       replace hq0_0 := hq0_0.up2 hE29
       replace hq0_1 := hq0_1.up2 hE29
       replace h1 := h1.up2 hE29
       refine k_move rfl rfl ?_
       obtain ⟨x1, hx1, h⟩ := ob h
       have hE35 := Step.r0 K0 s34
       refine k_cutl (X := St) 5 [(1, .pointer (some ⟨b1, 0, none⟩)), (2, .bool false), (5, .pointer (some ⟨b1, 0, none⟩)), (6, .int .i64 a0.Kind), (7, .bool (decide (a0.Kind < 0))), (12, .bool (decide ((a0.Kind < 0) ∨ (6 < a0.Kind)))), (22, .bool (decide (((a0.Kind < 0) ∨ (6 < a0.Kind)) ∨ ((a0.Kind ≠ 3) ∧ (a0.Num ≠ 0))))), (32, .bool (decide ((((a0.Kind < 0) ∨ (6 < a0.Kind)) ∨ ((a0.Kind ≠ 3) ∧ (a0.Num ≠ 0))) ∨ ((a0.Kind ≠ 4) ∧ (a0.Text ≠ ([] : List UInt8)))))), (43, .bool (decide (((((a0.Kind < 0) ∨ (6 < a0.Kind)) ∨ ((a0.Kind ≠ 3) ∧ (a0.Num ≠ 0))) ∨ ((a0.Kind ≠ 4) ∧ (a0.Text ≠ ([] : List UInt8)))) ∨ ((a0.Kind < 5) ∧ (0 < (a0.List_.length : Int)))))), (54, .bool (decide ((((((a0.Kind < 0) ∨ (6 < a0.Kind)) ∨ ((a0.Kind ≠ 3) ∧ (a0.Num ≠ 0))) ∨ ((a0.Kind ≠ 4) ∧ (a0.Text ≠ ([] : List UInt8)))) ∨ ((a0.Kind < 5) ∧ (0 < (a0.List_.length : Int)))) ∨ ((a0.Kind ≠ 6) ∧ (0 < (a0.Keys.length : Int)))))), (68, .bool (decide (((((((a0.Kind < 0) ∨ (6 < a0.Kind)) ∨ ((a0.Kind ≠ 3) ∧ (a0.Num ≠ 0))) ∨ ((a0.Kind ≠ 4) ∧ (a0.Text ≠ ([] : List UInt8)))) ∨ ((a0.Kind < 5) ∧ (0 < (a0.List_.length : Int)))) ∨ ((a0.Kind ≠ 6) ∧ (0 < (a0.Keys.length : Int)))) ∨ ((a0.Kind = 6) ∧ ((a0.Keys.length : Int) ≠ (a0.List_.length : Int))))))] (fun _ => [(74, .bool x1)]) (fun sl wL => sl.w = wL ∧ Step K0 s34 sl) ?_ ?_
       ·
        refine k_again 69 rfl ?_
        refine k_split (fun c36 => ?_) (fun c36 => ?_)
        ·
         have hx1 := itT hx1 c36
         refine k_no rfl rfl rfl rfl ?_
         refine k_no rfl rfl rfl rfl ?_
         refine k_no rfl rfl rfl rfl ?_
         refine k_no rfl rfl rfl rfl ?_
         refine k_pickT rfl rfl rfl rfl ?_
         exact k_met ⟨s34, ⟨(congrArg (fun b => some (Value.bool b)) (Option.some.inj hx1)), trivial⟩, ⟨rfl, rfl, rfl, rfl, rfl, rfl, rfl, rfl, rfl, rfl, rfl, trivial⟩, rfl, hE35⟩
        ·
         have hx1 := itF hx1 c36
         refine k_yes rfl rfl ?_
         refine k_field_addr fld25_2 rfl rfl ?_
         refine k_yes rfl rfl ?_
         refine k_load_blk one9 rfl h1 rfl rfl ?_
         refine k_yes rfl rfl ?_
         obtain ⟨x2, hx2, hx1⟩ := ob hx1
         refine k_call cal50 rfl (ref01_plain_w   hx2) rfl ?_
         rintro s37 vr37 st37 rfl
         have szs37 := st37.size
         have hS := hS.trans0 st37
         have hE35 := hE35.trans0 st37
         refine k_yes rfl rfl ?_
         refine k_not rfl rfl ?_
         refine k_pickF rfl rfl rfl rfl ?_
         exact k_met ⟨s37, ⟨(congrArg (fun b => some (Value.bool b)) (Option.some.inj hx1)), trivial⟩, ⟨rfl, rfl, rfl, rfl, rfl, rfl, rfl, rfl, rfl, rfl, rfl, trivial⟩, rfl, hE35⟩
       ·
        rintro s38 wL ⟨rfl, hE35⟩
        have szs38 := hE35.size
        have hS := hS.trans0 hE35
        replace hq0_0 := hq0_0.up2 hE35
        replace hq0_1 := hq0_1.up2 hE35
        replace h1 := h1.up2 hE35
        refine k_nil ?_
        refine k_keep [(1, _), (2, _), (74, _)] ⟨rfl, rfl, rfl, trivial⟩ ?_
        refine k_cond rfl (fun c39 => ?_) (fun c39 => ?_)
        ·
         have h := ibT h c39
         refine k_seq ?_
         refine k_region ?_
         refine k_assign rfl rfl ?_
         refine k_nil ?_
         refine k_keep [(1, _), (2, _)] ⟨rfl, rfl, trivial⟩ ?_
         refine k_ret ?_
         obtain rfl := Option.some.inj h
         refine ⟨_, rfl, Ret.mk hS ?_⟩
         exact rfl
        ·
         have h := ibF h c39
         refine k_skip ?_
         refine k_seq ?_
         refine k_keep [(1, _), (2, _)] ⟨rfl, rfl, trivial⟩ ?_
         obtain ⟨kj3, hK40, h⟩ := jn_out h
         have hE40 := Step.r0 K0 s38
         refine k_cutc (X := St) [(1, .pointer (some ⟨b1, 0, none⟩)), (2, .bool false)] (fun (xL : St) => match xL with | sl => []) (fun (xL : St) (wL : World) => match xL with | sl => sl.w = wL ∧ Step K0 s38 sl ∧ kj3 () = some r) ?_ ?_
         ·
          refine k_seq ?_
          refine k_region ?_
          refine k_assign rfl rfl ?_
          refine k_nil ?_
          refine k_block ?_
          refine k_loopc (X := St × Int × Nat) [(1, _), (2, _)] (fun (xL : St × Int × Nat) => match xL with | (sl, x4, j) => [(3, .int .i64 x4)]) (fun (xL : St × Int × Nat) (wL : World) => match xL with | (sl, x4, j) => sl.w = wL ∧ Step K0 s38 sl ∧ ref01_fields_s_l1 a0 kj3 j x4 = some r) (fun (xL : St × Int × Nat) => match xL with | (sl, x4, j) => j) (s38, 0, FU) ⟨rfl, rfl, trivial⟩ ⟨(by first | rfl | (simp <;> rfl)), trivial⟩ ⟨rfl, (Step.refl _).of0 (by first | exact fun _ h => h | (intro c h; simp [KC, KO, KU, KN, KB] at h <;> omega)), h⟩ ?_
          rintro ⟨s42, x4, j⟩ wL ⟨rfl, hE41, h⟩
          cases j with
          | zero => rw [ref01_fields_s_l1] at h; exact (noneNe h).elim
          | succ j =>
          rw [ref01_fields_s_l1] at h
          have szs42 := hE41.size
          have hS := hS.trans0 hE41
          have hE40 := hE40.trans0 hE41
          replace hq0_1 := hq0_1.up2 hE41
          replace h1 := h1.up2 hE41
          refine k_seq ?_
          refine k_seq ?_
          refine k_region ?_
          refine k_move rfl rfl ?_
          refine k_field_addr fld25_4 rfl rfl ?_
          refine k_load_blk one23 rfl h1 rfl rfl ?_
          refine k_len Tryz.underlying23 rfl (SL.of_R hq0_1).hasLen rfl ?_
          refine k_as (v := .int .i64 (a0.Keys.length : Int)) (by simp only [List.length_map]) ?_
          refine k_lss rfl rfl rfl ?_
          refine k_nil ?_
          refine k_keep [(1, _), (2, _), (3, _), (79, _)] ⟨rfl, rfl, rfl, rfl, trivial⟩ ?_
          refine k_cond_dec rfl (fun c43 => ?_) (fun c43 => ?_)
          ·
           have h := itT h c43
           refine k_skip ?_
           refine k_seq ?_
           refine k_block ?_
           refine k_seq ?_
           refine k_keep [(1, _), (2, _), (3, _)] ⟨rfl, rfl, rfl, trivial⟩ ?_
           refine k_drawT (KN s42.n) 25 (.read 0 (.read 1 (.read 2 (.read 3 (.read 4 (.alt 5 (.read 6 (.read 7 (.read 8 (.read 9 (.read 10 (.read 11 (.read 12 (.read 13 (.read 14 (.read 15 (.read 16 (.read 17 (.read 18 (.read 19 (.read 20 (.read 21 (.read 22 (.read 23 (.read 24 .fin))))))))))))))))))) .no)))))) mixed (by intro c h; (try simp only [KC, KO, KU, KN, KB] at h) <;> omega) rfl rfl rfl ?_
           intro s44 st44
           have szs44 := st44.size
           have hS := hS.trans0 st44
           have hE40 := hE40.trans0 st44
           have hE41 := hE41.trans0 st44
           replace hq0_1 := hq0_1.up2 st44
           replace h1 := h1.up2 st44
           refine rt_read (.pointer (some ⟨b1, 4, none⟩)) rfl rfl (fun s45 st45 => ?_) ?_
           ·refine k_field_addr fld25_4 rfl rfl ?_
            exact fq_end
           refine rt_read (q0_1) rfl rfl (fun s46 st46 => ?_) ?_
           ·try replace h1 := h1.up2 st46
            refine k_load_blk one23 rfl h1 rfl rfl ?_
            exact fq_end
           refine rt_read (.int .i64 x4) rfl rfl (fun s47 st47 => ?_) ?_
           ·refine k_move rfl rfl ?_
            exact fq_end
           obtain ⟨x5, hx5, h⟩ := ob h
           refine rt_ix rfl (wanted_none rfl) Tryz.underlying23 size9 rfl rfl (SL.of_R hq0_1) (geti_out hx5).1 (geti_map hx5) rfl ?_
           intro q48 hq48
           refine rt_read (S x5) rfl rfl (fun s49 st49 => ?_) ?_
           ·try replace hq48 := hq48.up2 st49
            refine k_load_val one9 rfl hq48 rfl ?_
            exact fq_end
           refine rt_act rfl rfl ?_
           have hA50 := Step.r0 (KN s42.n) s44
           obtain ⟨x6, hx6, h⟩ := ob h
           refine k_call cal24 rfl (ref01_Key_w   hx6) rfl ?_
           rintro s51 vr51 st51 rfl
           have szs51 := st51.size
           have hS := hS.trans0 st51
           have hE40 := hE40.trans0 st51
           have hE41 := hE41.trans0 st51
           have hA50 := hA50.trans0 st51
           replace hq0_1 := hq0_1.up2 st51
           replace h1 := h1.up2 st51
           refine rt_cont hA50 ?_
           refine rt_read (.bool (!x6)) rfl rfl (fun s52 st52 => ?_) ?_
           ·refine k_not rfl rfl ?_
            exact fq_end
           refine rt_read (.bool (!x6)) rfl rfl (fun s53 st53 => ?_) ?_
           ·refine k_move rfl rfl ?_
            exact fq_end
           refine rt_splitb (fun c54 => ?_) (fun c54 => ?_)
           ·
            have h := ibT h c54
            refine rt_read undef rfl rfl (fun s55 st55 => ?_) ?_
            ·refine k_no rfl rfl rfl rfl ?_
             exact fq_end
            refine rt_read undef rfl rfl (fun s56 st56 => ?_) ?_
            ·refine k_no rfl rfl rfl rfl ?_
             exact fq_end
            refine rt_read undef rfl rfl (fun s57 st57 => ?_) ?_
            ·refine k_no rfl rfl rfl rfl ?_
             exact fq_end
            refine rt_read undef rfl rfl (fun s58 st58 => ?_) ?_
            ·refine k_nou rfl rfl rfl rfl ?_
             exact fq_end
            refine rt_read undef rfl rfl (fun s59 st59 => ?_) ?_
            ·refine k_nou rfl rfl rfl rfl ?_
             exact fq_end
            refine rt_read undef rfl rfl (fun s60 st60 => ?_) ?_
            ·refine k_nou rfl rfl rfl rfl ?_
             exact fq_end
            refine rt_read undef rfl rfl (fun s61 st61 => ?_) ?_
            ·refine k_nou rfl rfl rfl rfl ?_
             exact fq_end
            refine rt_read undef rfl rfl (fun s62 st62 => ?_) ?_
            ·refine k_nou rfl rfl rfl rfl ?_
             exact fq_end
            refine rt_read undef rfl rfl (fun s63 st63 => ?_) ?_
            ·refine k_nou rfl rfl rfl rfl ?_
             exact fq_end
            refine rt_read undef rfl rfl (fun s64 st64 => ?_) ?_
            ·refine k_nou rfl rfl rfl rfl ?_
             exact fq_end
            refine rt_read undef rfl rfl (fun s65 st65 => ?_) ?_
            ·refine k_nou rfl rfl rfl rfl ?_
             exact fq_end
            refine rt_read undef rfl rfl (fun s66 st66 => ?_) ?_
            ·refine k_nou rfl rfl rfl rfl ?_
             exact fq_end
            refine rt_read undef rfl rfl (fun s67 st67 => ?_) ?_
            ·refine k_nou rfl rfl rfl rfl ?_
             exact fq_end
            refine rt_read undef rfl rfl (fun s68 st68 => ?_) ?_
            ·refine k_nou rfl rfl rfl rfl ?_
             exact fq_end
            refine rt_read undef rfl rfl (fun s69 st69 => ?_) ?_
            ·refine k_nou rfl rfl rfl rfl ?_
             exact fq_end
            refine rt_read undef rfl rfl (fun s70 st70 => ?_) ?_
            ·refine k_no rfl rfl rfl rfl ?_
             exact fq_end
            refine rt_read (.bool true) rfl rfl (fun s71 st71 => ?_) ?_
            ·refine k_pickT rfl rfl rfl rfl ?_
             exact fq_end
            refine rt_fin ?_
            refine k_nil ?_
            refine k_keep [(1, _), (2, _), (3, _), (106, _)] ⟨rfl, rfl, rfl, rfl, trivial⟩ ?_
            refine k_cond_true rfl ?_
            refine k_seq ?_
            refine k_region ?_
            refine k_assign rfl rfl ?_
            refine k_nil ?_
            refine k_keep [(1, _), (2, _), (3, _)] ⟨rfl, rfl, rfl, trivial⟩ ?_
            refine k_ret ?_
            obtain rfl := Option.some.inj h
            refine ⟨_, rfl, Ret.mk hS ?_⟩
            exact rfl
           ·
            have h := ibF h c54
            refine rt_read (.int .i64 x4) rfl rfl (fun s72 st72 => ?_) ?_
            ·refine k_yes rfl rfl ?_
             refine k_move rfl rfl ?_
             exact fq_end
            refine rt_read (.bool (decide (0 < x4))) rfl rfl (fun s73 st73 => ?_) ?_
            ·refine k_yes rfl rfl ?_
             refine k_gtr rfl rfl rfl ?_
             exact fq_end
            refine rt_read (.bool (decide (0 < x4))) rfl rfl (fun s74 st74 => ?_) ?_
            ·refine k_yes rfl rfl ?_
             refine k_move rfl rfl ?_
             exact fq_end
            refine rt_split (fun c75 => ?_) (fun c75 => ?_)
            ·
             have h := itT h c75
             refine rt_read (.pointer (some ⟨b1, 4, none⟩)) rfl rfl (fun s76 st76 => ?_) ?_
             ·refine k_yes rfl rfl ?_
              refine k_field_addr fld25_4 rfl rfl ?_
              exact fq_end
             refine rt_read (q0_1) rfl rfl (fun s77 st77 => ?_) ?_
             ·try replace h1 := h1.up2 st77
              refine k_yes rfl rfl ?_
              refine k_load_blk one23 rfl h1 rfl rfl ?_
              exact fq_end
             refine rt_read (.int .i64 x4) rfl rfl (fun s78 st78 => ?_) ?_
             ·refine k_yes rfl rfl ?_
              refine k_move rfl rfl ?_
              exact fq_end
             refine rt_read (.int .i64 (i64 (x4 - 1))) rfl rfl (fun s79 st79 => ?_) ?_
             ·refine k_yes rfl rfl ?_
              refine k_sub_ rfl rfl rfl ?_
              exact fq_end
             obtain ⟨x7, hx7, h⟩ := ob h
             refine rt_ix rfl (wanted_yes rfl rfl rfl) Tryz.underlying23 size9 rfl rfl (SL.of_R hq0_1) (geti_out hx7).1 (geti_map hx7) rfl ?_
             intro q80 hq80
             refine rt_read (S x7) rfl rfl (fun s81 st81 => ?_) ?_
             ·try replace hq80 := hq80.up2 st81
              refine k_yes rfl rfl ?_
              refine k_load_val one9 rfl hq80 rfl ?_
              exact fq_end
             refine rt_read (.pointer (some ⟨b1, 4, none⟩)) rfl rfl (fun s82 st82 => ?_) ?_
             ·refine k_yes rfl rfl ?_
              refine k_field_addr fld25_4 rfl rfl ?_
              exact fq_end
             refine rt_read (q0_1) rfl rfl (fun s83 st83 => ?_) ?_
             ·try replace h1 := h1.up2 st83
              refine k_yes rfl rfl ?_
              refine k_load_blk one23 rfl h1 rfl rfl ?_
              exact fq_end
             refine rt_read (.int .i64 x4) rfl rfl (fun s84 st84 => ?_) ?_
             ·refine k_yes rfl rfl ?_
              refine k_move rfl rfl ?_
              exact fq_end
             obtain ⟨x8, hx8, h⟩ := ob h
             refine rt_ix rfl (wanted_yes rfl rfl rfl) Tryz.underlying23 size9 rfl rfl (SL.of_R hq0_1) (geti_out hx8).1 (geti_map hx8) rfl ?_
             intro q85 hq85
             refine rt_read (S x8) rfl rfl (fun s86 st86 => ?_) ?_
             ·try replace hq85 := hq85.up2 st86
              refine k_yes rfl rfl ?_
              refine k_load_val one9 rfl hq85 rfl ?_
              exact fq_end
             refine rt_read (.bool (!Op.bytesLess x7 x8)) rfl rfl (fun s87 st87 => ?_) ?_
             ·refine k_yes rfl rfl ?_
              refine k_geq_str rfl rfl rfl ?_
              exact fq_end
             refine rt_read (.bool (!Op.bytesLess x7 x8)) rfl rfl (fun s88 st88 => ?_) ?_
             ·refine k_yes rfl rfl ?_
              refine k_pickT rfl rfl rfl rfl ?_
              exact fq_end
             refine rt_read (.bool (!Op.bytesLess x7 x8)) rfl rfl (fun s89 st89 => ?_) ?_
             ·refine k_pickF rfl rfl rfl rfl ?_
              exact fq_end
             refine rt_fin ?_
             refine k_nil ?_
             refine k_keep [(1, _), (2, _), (3, _), (106, _)] ⟨rfl, rfl, rfl, rfl, trivial⟩ ?_
             refine k_cond rfl (fun c90 => ?_) (fun c90 => ?_)
             ·
              have h := ibT h c90
              refine k_seq ?_
              refine k_region ?_
              refine k_assign rfl rfl ?_
              refine k_nil ?_
              refine k_keep [(1, _), (2, _), (3, _)] ⟨rfl, rfl, rfl, trivial⟩ ?_
              refine k_ret ?_
              obtain rfl := Option.some.inj h
              refine ⟨_, rfl, Ret.mk hS ?_⟩
              exact rfl
             ·
              have h := ibF h c90
              refine k_skip ?_
              refine k_blk ?_
              refine k_region ?_
              refine k_move rfl rfl ?_
              refine k_add rfl rfl rfl ?_
              refine k_assign rfl rfl ?_
              refine k_nil ?_
              exact k_stop ⟨(s51, i64 (x4 + 1), j), ⟨(by first | rfl | (simp <;> rfl)), trivial⟩, ⟨rfl, rfl, trivial⟩, ⟨rfl, hE41, h⟩, (by simp)⟩
            ·
             have h := itF h c75
             refine rt_read undef rfl rfl (fun s91 st91 => ?_) ?_
             ·refine k_no rfl rfl rfl rfl ?_
              exact fq_end
             refine rt_read undef rfl rfl (fun s92 st92 => ?_) ?_
             ·refine k_no rfl rfl rfl rfl ?_
              exact fq_end
             refine rt_read undef rfl rfl (fun s93 st93 => ?_) ?_
             ·refine k_no rfl rfl rfl rfl ?_
              exact fq_end
             refine rt_read undef rfl rfl (fun s94 st94 => ?_) ?_
             ·refine k_no rfl rfl rfl rfl ?_
              exact fq_end
             refine rt_read undef rfl rfl (fun s95 st95 => ?_) ?_
             ·refine k_no rfl rfl rfl rfl ?_
              exact fq_end
             refine rt_read undef rfl rfl (fun s96 st96 => ?_) ?_
             ·refine k_no rfl rfl rfl rfl ?_
              exact fq_end
             refine rt_read undef rfl rfl (fun s97 st97 => ?_) ?_
             ·refine k_no rfl rfl rfl rfl ?_
              exact fq_end
             refine rt_read undef rfl rfl (fun s98 st98 => ?_) ?_
             ·refine k_no rfl rfl rfl rfl ?_
              exact fq_end
             refine rt_read undef rfl rfl (fun s99 st99 => ?_) ?_
             ·refine k_no rfl rfl rfl rfl ?_
              exact fq_end
             refine rt_read undef rfl rfl (fun s100 st100 => ?_) ?_
             ·refine k_no rfl rfl rfl rfl ?_
              exact fq_end
             refine rt_read undef rfl rfl (fun s101 st101 => ?_) ?_
             ·refine k_no rfl rfl rfl rfl ?_
              exact fq_end
             refine rt_read undef rfl rfl (fun s102 st102 => ?_) ?_
             ·refine k_no rfl rfl rfl rfl ?_
              exact fq_end
             refine rt_read (.bool false) rfl rfl (fun s103 st103 => ?_) ?_
             ·refine k_yes rfl rfl ?_
              refine k_pickF rfl rfl rfl rfl ?_
              exact fq_end
             refine rt_read (.bool false) rfl rfl (fun s104 st104 => ?_) ?_
             ·refine k_pickF rfl rfl rfl rfl ?_
              exact fq_end
             refine rt_fin ?_
             refine k_nil ?_
             refine k_keep [(1, _), (2, _), (3, _), (106, _)] ⟨rfl, rfl, rfl, rfl, trivial⟩ ?_
             refine k_cond_false rfl ?_
             refine k_skip ?_
             refine k_blk ?_
             refine k_region ?_
             refine k_move rfl rfl ?_
             refine k_add rfl rfl rfl ?_
             refine k_assign rfl rfl ?_
             refine k_nil ?_
             exact k_stop ⟨(s51, i64 (x4 + 1), j), ⟨(by first | rfl | (simp <;> rfl)), trivial⟩, ⟨rfl, rfl, trivial⟩, ⟨rfl, hE41, h⟩, (by simp)⟩
          ·
           have h := itF h c43
           refine k_exit rfl ?_
           exact k_stop ⟨s42, trivial, ⟨rfl, rfl, trivial⟩, ⟨rfl, hE40, h⟩⟩
         ·
          rintro s105 wL ⟨rfl, hE40, h⟩
          rw [hK40] at h
          have szs105 := hE40.size
          have hS := hS.trans0 hE40
          replace hq0_0 := hq0_0.up2 hE40
          replace h1 := h1.up2 hE40
          refine k_seq ?_
          obtain ⟨kj9, hK106, h⟩ := jn_out h
          have hE106 := Step.r0 K0 s105
          refine k_cutc (X := St) [(2, .bool false)] (fun (xL : St) => match xL with | sl => []) (fun (xL : St) (wL : World) => match xL with | sl => sl.w = wL ∧ Step K0 s105 sl ∧ kj9 () = some r) ?_ ?_
          ·
           refine k_seq ?_
           refine k_region ?_
           refine k_assign rfl rfl ?_
           refine k_nil ?_
           refine k_block ?_
           refine k_loopc (X := St × Int × Nat) [(1, _), (2, _)] (fun (xL : St × Int × Nat) => match xL with | (sl, x10, j) => [(4, .int .i64 x10)]) (fun (xL : St × Int × Nat) (wL : World) => match xL with | (sl, x10, j) => sl.w = wL ∧ Step K0 s105 sl ∧ ref01_fields_s_l2 a0 a70 kj9 j x10 = some r) (fun (xL : St × Int × Nat) => match xL with | (sl, x10, j) => j) (s105, 0, FU) ⟨rfl, rfl, trivial⟩ ⟨(by first | rfl | (simp <;> rfl)), trivial⟩ ⟨rfl, (Step.refl _).of0 (by first | exact fun _ h => h | (intro c h; simp [KC, KO, KU, KN, KB] at h <;> omega)), h⟩ ?_
           rintro ⟨s108, x10, j⟩ wL ⟨rfl, hE107, h⟩
           cases j with
           | zero => rw [ref01_fields_s_l2] at h; exact (noneNe h).elim
           | succ j =>
           rw [ref01_fields_s_l2] at h
           have szs108 := hE107.size
           have hS := hS.trans0 hE107
           have hE106 := hE106.trans0 hE107
           replace hq0_0 := hq0_0.up2 hE107
           replace h1 := h1.up2 hE107
           refine k_seq ?_
           refine k_seq ?_
           refine k_region ?_
           refine k_move rfl rfl ?_
           refine k_field_addr fld25_3 rfl rfl ?_
           refine k_load_blk one22 rfl h1 rfl rfl ?_
           refine k_len Tryz.underlying22 rfl (SL.of_R hq0_0).hasLen rfl ?_
           refine k_as (v := .int .i64 (a0.List_.length : Int)) (by simp only [List.length_map]) ?_
           refine k_lss rfl rfl rfl ?_
           refine k_nil ?_
           refine k_keep [(1, _), (2, _), (4, _), (111, _)] ⟨rfl, rfl, rfl, rfl, trivial⟩ ?_
           refine k_cond_dec rfl (fun c109 => ?_) (fun c109 => ?_)
           ·
            have h := itT h c109
            refine k_skip ?_
            refine k_seq ?_
            refine k_block ?_
            refine k_seq ?_
            refine k_region ?_
            refine k_field_addr fld25_3 rfl rfl ?_
            refine k_load_blk one22 rfl h1 rfl rfl ?_
            refine k_move rfl rfl ?_
            obtain ⟨x11, hx11, h⟩ := ob h
            refine k_ixaddr Tryz.underlying22 size25 rfl rfl (SL.of_R hq0_0) (geti_out hx11).1 (geti_map hx11) rfl ?_
            intro qx11 hqx11
            refine k_load_agg (by exact agg25) rfl hqx11 rfl ?_
            intro cs110 h110
            obtain ⟨q110_0, q110_1, rfl, hq110_0, hq110_1⟩ := opnApiValue h110
            obtain ⟨x12, hx12, h⟩ := ob h
            refine k_call cal32 rfl (ih70  (clsApiValue x11 hq110_0 hq110_1) hx12) rfl ?_
            rintro s111 vr111 st111 rfl
            have szs111 := st111.size
            have hS := hS.trans0 st111
            have hE106 := hE106.trans0 st111
            have hE107 := hE107.trans0 st111
            refine k_not rfl rfl ?_
            refine k_nil ?_
            refine k_keep [(1, _), (2, _), (4, _), (120, _)] ⟨rfl, rfl, rfl, rfl, trivial⟩ ?_
            refine k_cond rfl (fun c112 => ?_) (fun c112 => ?_)
            ·
             have h := ibT h c112
             refine k_seq ?_
             refine k_region ?_
             refine k_assign rfl rfl ?_
             refine k_nil ?_
             refine k_keep [(1, _), (2, _), (4, _)] ⟨rfl, rfl, rfl, trivial⟩ ?_
             refine k_ret ?_
             obtain rfl := Option.some.inj h
             refine ⟨_, rfl, Ret.mk hS ?_⟩
             exact rfl
            ·
             have h := ibF h c112
             refine k_skip ?_
             refine k_blk ?_
             refine k_region ?_
             refine k_move rfl rfl ?_
             refine k_add rfl rfl rfl ?_
             refine k_assign rfl rfl ?_
             refine k_nil ?_
             exact k_stop ⟨(s111, i64 (x10 + 1), j), ⟨(by first | rfl | (simp <;> rfl)), trivial⟩, ⟨rfl, rfl, trivial⟩, ⟨rfl, hE107, h⟩, (by simp)⟩
           ·
            have h := itF h c109
            refine k_exit rfl ?_
            exact k_stop ⟨s108, trivial, ⟨rfl, trivial⟩, ⟨rfl, hE106, h⟩⟩
          ·
           rintro s113 wL ⟨rfl, hE106, h⟩
           rw [hK106] at h
           have szs113 := hE106.size
           have hS := hS.trans0 hE106
           refine k_seq ?_
           refine k_region ?_
           refine k_assign rfl rfl ?_
           refine k_nil ?_
           refine k_ret ?_
           obtain rfl := Option.some.inj h
           refine ⟨_, rfl, Ret.mk hS ?_⟩
           exact rfl
theorem ref01_fields_rw (j : Nat) : ∀ {s : St} {cs0 : List Value} {a0 : ApiValue} {r : Bool} (hp0 : RC s cs0 (dApiValue a0)) (h : ref01_fields_r j a0 = some r), Calls Tryz.prog 32 #[.agg cs0.toArray] s.w (Ret s K0 (fun s1 v => v = .bool r)) := by
 induction j with
 | zero => intro s cs0 a0 r hp0 h; rw [ref01_fields_r] at h; exact (noneNe h).elim
 | succ j ih => intro s cs0 a0 r hp0 h; rw [ref01_fields_r] at h; exact ref01_fields_s_w hp0 ih h
theorem ref01_fields_w {s : St} {cs0 : List Value} {a0 : ApiValue} {r : Bool} (hp0 : RC s cs0 (dApiValue a0)) (h : ref01_fields a0 = some r) : Calls Tryz.prog 32 #[.agg cs0.toArray] s.w (Ret s K0 (fun s1 v => v = .bool r)) := ref01_fields_rw (FU + (dpApiValue a0)) hp0 h

set_option maxHeartbeats 1000000 in
set_option maxRecDepth 100000 in
theorem ref01_digits_w {s : St} {a0 : Int} {r : (List UInt8)}  (h : ref01_digits a0 = some r) : Calls Tryz.prog 42 #[.int .i64 a0] s.w (Ret s K0 (fun s1 v => v = S r)) := by
 unfold ref01_digits at h
 have hS := Step.r0 K0 s
 refine k_fn (rs := [2]) (args := [.int .i64 a0]) Tryz.func42 rfl rfl rfl rfl ?_
 refine k_seq ?_
 refine k_region ?_
 refine k_assign rfl rfl ?_
 refine k_nil ?_
 refine k_seq ?_
 refine k_region ?_
 refine k_move rfl rfl ?_
 refine k_lss rfl rfl rfl ?_
 refine k_assign rfl rfl ?_
 refine k_nil ?_
 refine k_keep [(0, _), (2, _), (3, _)] ⟨rfl, rfl, rfl, trivial⟩ ?_
 refine k_seq ?_
 refine k_region ?_
 refine k_assign rfl rfl ?_
 refine k_nil ?_
 refine k_seq ?_
 obtain ⟨kj1, hK1, h⟩ := jn_out h
 have hE1 := Step.r0 K0 s
 refine k_cutc (X := St × (List UInt8)) [(2, S ([] : List UInt8)), (3, .bool (decide (a0 < 0)))] (fun (xL : St × (List UInt8)) => match xL with | (sl, x2) => [(4, S x2)]) (fun (xL : St × (List UInt8)) (wL : World) => match xL with | (sl, x2) => sl.w = wL ∧ Step K0 s sl ∧ kj1 x2 = some r) ?_ ?_
 ·
  refine k_block ?_
  refine k_loopc (X := St × Int × (List UInt8) × Nat) [(2, _), (3, _)] (fun (xL : St × Int × (List UInt8) × Nat) => match xL with | (sl, x3, x4, j) => [(0, .int .i64 x3), (4, S x4)]) (fun (xL : St × Int × (List UInt8) × Nat) (wL : World) => match xL with | (sl, x3, x4, j) => sl.w = wL ∧ Step K0 s sl ∧ ref01_digits_l1 kj1 j x3 x4 = some r) (fun (xL : St × Int × (List UInt8) × Nat) => match xL with | (sl, x3, x4, j) => j) (s, a0, ([] : List UInt8), FU) ⟨rfl, rfl, trivial⟩ ⟨(by first | rfl | (simp <;> rfl)), (by first | rfl | (simp <;> rfl)), trivial⟩ ⟨rfl, (Step.refl _).of0 (by first | exact fun _ h => h | (intro c h; simp [KC, KO, KU, KN, KB] at h <;> omega)), h⟩ ?_
  rintro ⟨s3, x3, x4, j⟩ wL ⟨rfl, hE2, h⟩
  cases j with
  | zero => rw [ref01_digits_l1] at h; exact (noneNe h).elim
  | succ j =>
  rw [ref01_digits_l1] at h
  have szs3 := hE2.size
  have hS := hS.trans0 hE2
  have hE1 := hE1.trans0 hE2
  refine k_block ?_
  refine k_seq ?_
  refine k_region ?_
  refine k_move rfl rfl ?_
  refine k_rem rfl rfl (by decide) rfl ?_
  refine k_assign rfl rfl ?_
  refine k_nil ?_
  refine k_keep [(0, _), (2, _), (3, _), (4, _), (5, _)] ⟨rfl, rfl, rfl, rfl, rfl, trivial⟩ ?_
  refine k_seq ?_
  obtain ⟨kj5, hK4, h⟩ := jn_out h
  have hE4 := Step.r0 K0 s3
  refine k_cutc (X := St × Int) [(0, .int .i64 x3), (2, S ([] : List UInt8)), (3, .bool (decide (a0 < 0))), (4, S x4)] (fun (xL : St × Int) => match xL with | (sl, x6) => [(5, .int .i64 x6)]) (fun (xL : St × Int) (wL : World) => match xL with | (sl, x6) => sl.w = wL ∧ Step K0 s3 sl ∧ kj5 x6 = some r) ?_ ?_
  ·
   refine k_seq ?_
   refine k_region ?_
   refine k_move rfl rfl ?_
   refine k_lss rfl rfl rfl ?_
   refine k_nil ?_
   refine k_keep [(0, _), (2, _), (3, _), (4, _), (5, _), (11, _)] ⟨rfl, rfl, rfl, rfl, rfl, rfl, trivial⟩ ?_
   refine k_cond_dec rfl (fun c5 => ?_) (fun c5 => ?_)
   ·
    have h := itT h c5
    refine k_region ?_
    refine k_move rfl rfl ?_
    refine k_neg rfl rfl ?_
    refine k_assign rfl rfl ?_
    refine k_nil ?_
    exact k_stop ⟨(s3, i64 (0 - (x3.tmod 10))), ⟨(by first | rfl | (simp <;> rfl)), trivial⟩, ⟨rfl, rfl, rfl, rfl, trivial⟩, ⟨rfl, hE4, h⟩⟩
   ·
    have h := itF h c5
    refine k_skip ?_
    exact k_stop ⟨(s3, x3.tmod 10), ⟨(by first | rfl | (simp <;> rfl)), trivial⟩, ⟨rfl, rfl, rfl, rfl, trivial⟩, ⟨rfl, hE4, h⟩⟩
  ·
   rintro ⟨s6, x6⟩ wL ⟨rfl, hE4, h⟩
   rw [hK4] at h
   have szs6 := hE4.size
   have hS := hS.trans0 hE4
   have hE1 := hE1.trans0 hE4
   have hE2 := hE2.trans0 hE4
   refine k_seq ?_
   refine k_region ?_
   refine k_move rfl rfl ?_
   refine k_add rfl rfl rfl ?_
   refine k_conv (p := i64 (48 + x6)) Tryz.underlying2 Tryz.underlying5 rfl rfl ?_
   refine k_as (congrArg (Value.int .u8) (w8 _)) ?_
   refine k_bslice2 (ds := ([ofI8 (i64 (48 + x6))] : List UInt8).map bD) slc54 rfl (RVs.cons (R.val rfl) RVs.nil) (by rfl) (by rfl) rfl rfl ?_
   intro s7 v7 b7 st7 ge7 bl7 h7
   have szs7 := st7.size
   have hS := hS.trans0 st7
   have hE1 := hE1.trans0 st7
   have hE2 := hE2.trans0 st7
   have lt7 := Own.le1 h7
   refine k_bts (m := ([ofI8 (i64 (48 + x6))] : List UInt8)) Tryz.underlying54 Tryz.underlying5 Tryz.underlying9 rfl (h7.sl) rfl ?_
   refine k_move rfl rfl ?_
   obtain ⟨x7, hx7, h⟩ := ob h
   refine k_add_str rfl rfl (app_out hx7).1 rfl ?_
   refine k_as (v := S x7) (congrArg S (app_out hx7).2.symm) ?_
   refine k_assign rfl rfl ?_
   refine k_nil ?_
   refine k_keep [(0, _), (2, _), (3, _), (4, _)] ⟨rfl, rfl, rfl, rfl, trivial⟩ ?_
   refine k_seq ?_
   refine k_region ?_
   refine k_move rfl rfl ?_
   refine k_quo rfl rfl (by decide) rfl ?_
   refine k_assign rfl rfl ?_
   refine k_nil ?_
   refine k_keep [(0, _), (2, _), (3, _), (4, _)] ⟨rfl, rfl, rfl, rfl, trivial⟩ ?_
   refine k_seq ?_
   refine k_region ?_
   refine k_move rfl rfl ?_
   refine k_eql rfl rfl rfl ?_
   refine k_nil ?_
   refine k_keep [(0, _), (2, _), (3, _), (4, _), (24, _)] ⟨rfl, rfl, rfl, rfl, rfl, trivial⟩ ?_
   refine k_cond_dec rfl (fun c8 => ?_) (fun c8 => ?_)
   ·
    have h := itT h c8
    refine k_exit rfl ?_
    exact k_stop ⟨(s7, x7), ⟨(by first | rfl | (simp <;> rfl)), trivial⟩, ⟨rfl, rfl, trivial⟩, ⟨rfl, hE1, h⟩⟩
   ·
    have h := itF h c8
    refine k_skip ?_
    refine k_blk ?_
    exact k_stop ⟨(s7, i64 (x3.tdiv 10), x7, j), ⟨(by first | rfl | (simp <;> rfl)), (by first | rfl | (simp <;> rfl)), trivial⟩, ⟨rfl, rfl, trivial⟩, ⟨rfl, hE2, h⟩, (by simp)⟩
 ·
  rintro ⟨s9, x2⟩ wL ⟨rfl, hE1, h⟩
  rw [hK1] at h
  have szs9 := hE1.size
  have hS := hS.trans0 hE1
  refine k_seq ?_
  refine k_seq ?_
  refine k_region ?_
  refine k_move rfl rfl ?_
  refine k_nil ?_
  refine k_keep [(2, _), (4, _), (25, _)] ⟨rfl, rfl, rfl, trivial⟩ ?_
  refine k_cond_dec rfl (fun c10 => ?_) (fun c10 => ?_)
  ·
   have h := itT h c10
   refine k_seq ?_
   refine k_region ?_
   refine k_move rfl rfl ?_
   obtain ⟨x8, hx8, h⟩ := ob h
   refine k_add_str rfl rfl (app_out hx8).1 rfl ?_
   refine k_as (v := S x8) (congrArg S (app_out hx8).2.symm) ?_
   refine k_assign rfl rfl ?_
   refine k_nil ?_
   refine k_keep [(2, _), (4, _)] ⟨rfl, rfl, trivial⟩ ?_
   refine k_ret ?_
   obtain rfl := Option.some.inj h
   refine ⟨_, rfl, Ret.mk hS ?_⟩
   exact rfl
  ·
   have h := itF h c10
   refine k_skip ?_
   refine k_seq ?_
   refine k_region ?_
   refine k_move rfl rfl ?_
   refine k_assign rfl rfl ?_
   refine k_nil ?_
   refine k_keep [(2, _)] ⟨rfl, trivial⟩ ?_
   refine k_ret ?_
   obtain rfl := Option.some.inj h
   refine ⟨_, rfl, Ret.mk hS ?_⟩
   exact rfl

set_option maxHeartbeats 1000000 in
set_option maxRecDepth 100000 in
theorem ref01_quoted_w {s : St} {a0 : (List UInt8)} {r : (List UInt8)}  (h : ref01_quoted a0 = some r) : Calls Tryz.prog 51 #[S a0] s.w (Ret s K0 (fun s1 v => v = S r)) := by
 unfold ref01_quoted at h
 have hS := Step.r0 K0 s
 refine k_fn (rs := [2]) (args := [S a0]) Tryz.func51 rfl rfl rfl rfl ?_
 refine k_seq ?_
 refine k_region ?_
 refine k_assign rfl rfl ?_
 refine k_nil ?_
 refine k_seq ?_
 refine k_region ?_
 refine k_bslice2 (ds := ([(34 : UInt8)] : List UInt8).map bD) slc54 rfl (RVs.cons (R.val rfl) RVs.nil) (by rfl) (by rfl) rfl rfl ?_
 intro s1 v1 b1 st1 ge1 bl1 h1
 have szs1 := st1.size
 have hS := hS.trans0 st1
 have lt1 := Own.le1 h1
 refine k_assign rfl rfl ?_
 refine k_nil ?_
 refine k_keep [(0, _), (2, _), (3, _)] ⟨rfl, rfl, rfl, trivial⟩ ?_
 refine k_seq ?_
 obtain ⟨kj1, hK2, h⟩ := jn_out h
 have hE2 := Step.r0 (KC (b1 + 1) 0) s1
 refine k_cutc (X := St × (List UInt8) × Value) [(2, S ([] : List UInt8))] (fun (xL : St × (List UInt8) × Value) => match xL with | (sl, x2, v3) => [(3, v3)]) (fun (xL : St × (List UInt8) × Value) (wL : World) => match xL with | (sl, x2, v3) => sl.w = wL ∧ Step (KC (b1 + 1) 0) s1 sl ∧ (Own sl ⟨b1 + 1, 0⟩ 5 1 v3 (x2.map bD)) ∧ kj1 x2 = some r) ?_ ?_
 ·
  refine k_seq ?_
  refine k_region ?_
  refine k_assign rfl rfl ?_
  refine k_nil ?_
  refine k_block ?_
  refine k_loopc (X := St × (List UInt8) × Value × Int × Nat) [(0, _), (2, _)] (fun (xL : St × (List UInt8) × Value × Int × Nat) => match xL with | (sl, x3, v5, x4, j) => [(3, v5), (4, .int .i64 x4)]) (fun (xL : St × (List UInt8) × Value × Int × Nat) (wL : World) => match xL with | (sl, x3, v5, x4, j) => sl.w = wL ∧ Step (KC (b1 + 1) 0) s1 sl ∧ (Own sl ⟨b1 + 1, 0⟩ 5 1 v5 (x3.map bD)) ∧ ref01_quoted_l1 a0 kj1 j x3 x4 = some r) (fun (xL : St × (List UInt8) × Value × Int × Nat) => match xL with | (sl, x3, v5, x4, j) => j) (s1, ([(34 : UInt8)] : List UInt8), v1, 0, FU) ⟨rfl, rfl, trivial⟩ ⟨(by first | rfl | (simp <;> rfl)), (by first | rfl | (simp <;> rfl)), trivial⟩ ⟨rfl, (Step.refl _).of0 (by first | exact fun _ h => h | (intro c h; simp [KC, KO, KU, KN, KB] at h <;> omega)), h1, h⟩ ?_
  rintro ⟨s6, x3, v5, x4, j⟩ wL ⟨rfl, hE4, h5, h⟩
  cases j with
  | zero => rw [ref01_quoted_l1] at h; exact (noneNe h).elim
  | succ j =>
  rw [ref01_quoted_l1] at h
  have szs6 := hE4.size
  have hS := hS.c0 hE4
  have hE2 := hE2.c0 hE4
  refine k_seq ?_
  refine k_seq ?_
  refine k_region ?_
  refine k_move rfl rfl ?_
  refine k_move rfl rfl ?_
  refine k_len_str Tryz.underlying9 rfl rfl ?_
  refine k_lss rfl rfl rfl ?_
  refine k_nil ?_
  refine k_keep [(0, _), (2, _), (3, _), (4, _), (9, _)] ⟨rfl, rfl, rfl, rfl, rfl, trivial⟩ ?_
  refine k_cond_dec rfl (fun c7 => ?_) (fun c7 => ?_)
  ·
   have h := itT h c7
   refine k_skip ?_
   refine k_seq ?_
   refine k_block ?_
   refine k_seq ?_
   refine k_keep [(0, _), (2, _), (3, _), (4, _)] ⟨rfl, rfl, rfl, rfl, trivial⟩ ?_
   obtain ⟨kj5, hK8, h⟩ := jn_out h
   have hE8 := Step.r0 (KC (b1 + 1) 0) s6
   refine k_cutc (X := St × (List UInt8) × Value) [(0, S a0), (2, S ([] : List UInt8)), (4, .int .i64 x4)] (fun (xL : St × (List UInt8) × Value) => match xL with | (sl, x6, v9) => [(3, v9)]) (fun (xL : St × (List UInt8) × Value) (wL : World) => match xL with | (sl, x6, v9) => sl.w = wL ∧ Step (KC (b1 + 1) 0) s6 sl ∧ (Own sl ⟨b1 + 1, 0⟩ 5 1 v9 (x6.map bD)) ∧ kj5 x6 = some r) ?_ ?_
   ·
    refine k_seq ?_
    refine k_region ?_
    refine k_move rfl rfl ?_
    refine k_move rfl rfl ?_
    obtain ⟨x7, hx7, h⟩ := ob h
    refine k_index_str Tryz.underlying9 rfl rfl (geti_out hx7).1 (geti_out hx7).2.1 rfl ?_
    refine k_as (congrArg (fun c : UInt8 => Value.int .u8 (c.toNat : Int)) (geti_getD hx7)) ?_
    refine k_eql rfl rfl rfl ?_
    refine k_move rfl rfl ?_
    obtain ⟨x8, hx8, h⟩ := ob h
    have hE10 := Step.r0 K0 s6
    refine k_cutl (X := St) 5 [(0, S a0), (2, S ([] : List UInt8)), (3, v5), (4, .int .i64 x4), (12, S a0), (13, .int .i64 x4), (14, .int .u8 (x7.toNat : Int)), (15, .bool (decide ((x7.toNat : Int) = 34)))] (fun _ => [(21, .bool x8)]) (fun sl wL => sl.w = wL ∧ Step K0 s6 sl) ?_ ?_
    ·
     refine k_again 16 rfl ?_
     refine k_split (fun c11 => ?_) (fun c11 => ?_)
     ·
      have hx8 := itT hx8 c11
      refine k_no rfl rfl rfl rfl ?_
      refine k_no rfl rfl rfl rfl ?_
      refine k_no rfl rfl rfl rfl ?_
      refine k_no rfl rfl rfl rfl ?_
      refine k_pickT rfl rfl rfl rfl ?_
      exact k_met ⟨s6, ⟨(congrArg (fun b => some (Value.bool b)) (Option.some.inj hx8)), trivial⟩, ⟨rfl, rfl, rfl, rfl, rfl, rfl, rfl, rfl, trivial⟩, rfl, hE10⟩
     ·
      have hx8 := itF hx8 c11
      refine k_yes rfl rfl ?_
      refine k_move rfl rfl ?_
      refine k_yes rfl rfl ?_
      refine k_move rfl rfl ?_
      refine k_yes rfl rfl ?_
      obtain ⟨x9, hx9, hx8⟩ := ob hx8
      refine k_index_str Tryz.underlying9 rfl rfl (geti_out hx9).1 (geti_out hx9).2.1 rfl ?_
      refine k_as (congrArg (fun c : UInt8 => Value.int .u8 (c.toNat : Int)) (geti_getD hx9)) ?_
      refine k_yes rfl rfl ?_
      refine k_eql rfl rfl rfl ?_
      refine k_pickF rfl rfl rfl rfl ?_
      exact k_met ⟨s6, ⟨(congrArg (fun b => some (Value.bool b)) (Option.some.inj hx8)), trivial⟩, ⟨rfl, rfl, rfl, rfl, rfl, rfl, rfl, rfl, trivial⟩, rfl, hE10⟩
    ·
     rintro s12 wL ⟨rfl, hE10⟩
     have szs12 := hE10.size
     have hS := hS.trans0 hE10
     have hE2 := hE2.trans0 hE10
     have hE4 := hE4.trans0 hE10
     have hE8 := hE8.trans0 hE10
     replace h5 := h5.up2 hE10
     refine k_nil ?_
     refine k_keep [(0, _), (2, _), (3, _), (4, _), (21, _)] ⟨rfl, rfl, rfl, rfl, rfl, trivial⟩ ?_
     refine k_cond rfl (fun c13 => ?_) (fun c13 => ?_)
     ·
      have h := ibT h c13
      refine k_region ?_
      refine k_move rfl rfl ?_
      refine k_bslice2 (ds := ([(92 : UInt8)] : List UInt8).map bD) slc54 rfl (RVs.cons (R.val rfl) RVs.nil) (by rfl) (by rfl) rfl rfl ?_
      intro s14 v14 b14 st14 ge14 bl14 h14
      have szs14 := st14.size
      have hS := hS.trans0 st14
      have hE2 := hE2.trans0 st14
      have hE4 := hE4.trans0 st14
      have hE8 := hE8.trans0 st14
      replace h5 := h5.up2 st14
      have lt14 := Own.le1 h14
      obtain ⟨x10, hx10, h⟩ := ob h
      refine k_append (es := ([(92 : UInt8)] : List UInt8).map bD) elem54 rfl rfl h5 (h14.sl) (by have := (app_out hx10).1; simp only [List.length_map] at *; omega) (by have := (app_out hx10).1; simp only [List.length_map] at *; omega) rfl ?_
      intro s15 v15 st15 h15
      rw [← List.map_append, ← (app_out hx10).2] at h15
      have szs15 := st15.size
      have hS := hS.c0 st15
      have hE2 := hE2.c0 st15
      have hE4 := hE4.c0 st15
      have hE8 := hE8.c0 st15
      refine k_assign rfl rfl ?_
      refine k_nil ?_
      exact k_stop ⟨(s15, x10, v15), ⟨(by first | rfl | (simp <;> rfl)), trivial⟩, ⟨rfl, rfl, rfl, trivial⟩, ⟨rfl, hE8, h15, h⟩⟩
     ·
      have h := ibF h c13
      refine k_skip ?_
      exact k_stop ⟨(s12, x3, v5), ⟨(by first | rfl | (simp <;> rfl)), trivial⟩, ⟨rfl, rfl, rfl, trivial⟩, ⟨rfl, hE8, h5, h⟩⟩
   ·
    rintro ⟨s16, x6, v9⟩ wL ⟨rfl, hE8, h9, h⟩
    rw [hK8] at h
    have szs16 := hE8.size
    have hS := hS.c0 hE8
    have hE2 := hE2.c0 hE8
    have hE4 := hE4.c0 hE8
    refine k_region ?_
    refine k_move rfl rfl ?_
    refine k_move rfl rfl ?_
    refine k_move rfl rfl ?_
    obtain ⟨x11, hx11, h⟩ := ob h
    refine k_index_str Tryz.underlying9 rfl rfl (geti_out hx11).1 (geti_out hx11).2.1 rfl ?_
    refine k_as (congrArg (fun c : UInt8 => Value.int .u8 (c.toNat : Int)) (geti_getD hx11)) ?_
    refine k_bslice2 (ds := ([x11] : List UInt8).map bD) slc54 rfl (RVs.cons (R.val rfl) RVs.nil) (by rfl) (by rfl) rfl rfl ?_
    intro s17 v17 b17 st17 ge17 bl17 h17
    have szs17 := st17.size
    have hS := hS.trans0 st17
    have hE2 := hE2.trans0 st17
    have hE4 := hE4.trans0 st17
    replace h9 := h9.up2 st17
    have lt17 := Own.le1 h17
    obtain ⟨x12, hx12, h⟩ := ob h
    refine k_append (es := ([x11] : List UInt8).map bD) elem54 rfl rfl h9 (h17.sl) (by have := (app_out hx12).1; simp only [List.length_map] at *; omega) (by have := (app_out hx12).1; simp only [List.length_map] at *; omega) rfl ?_
    intro s18 v18 st18 h18
    rw [← List.map_append, ← (app_out hx12).2] at h18
    have szs18 := st18.size
    have hS := hS.c0 st18
    have hE2 := hE2.c0 st18
    have hE4 := hE4.c0 st18
    refine k_assign rfl rfl ?_
    refine k_nil ?_
    refine k_blk ?_
    refine k_region ?_
    refine k_move rfl rfl ?_
    refine k_add rfl rfl rfl ?_
    refine k_assign rfl rfl ?_
    refine k_nil ?_
    exact k_stop ⟨(s18, x12, v18, i64 (x4 + 1), j), ⟨(by first | rfl | (simp <;> rfl)), (by first | rfl | (simp <;> rfl)), trivial⟩, ⟨rfl, rfl, trivial⟩, ⟨rfl, hE4, h18, h⟩, (by simp)⟩
  ·
   have h := itF h c7
   refine k_exit rfl ?_
   exact k_stop ⟨(s6, x3, v5), ⟨(by first | rfl | (simp <;> rfl)), trivial⟩, ⟨rfl, trivial⟩, ⟨rfl, hE2, h5, h⟩⟩
 ·
  rintro ⟨s19, x2, v3⟩ wL ⟨rfl, hE2, h3, h⟩
  rw [hK2] at h
  have szs19 := hE2.size
  have hS := hS.c0 hE2
  refine k_seq ?_
  refine k_region ?_
  refine k_move rfl rfl ?_
  refine k_bslice2 (ds := ([(34 : UInt8)] : List UInt8).map bD) slc54 rfl (RVs.cons (R.val rfl) RVs.nil) (by rfl) (by rfl) rfl rfl ?_
  intro s20 v20 b20 st20 ge20 bl20 h20
  have szs20 := st20.size
  have hS := hS.trans0 st20
  replace h3 := h3.up2 st20
  have lt20 := Own.le1 h20
  obtain ⟨x13, hx13, h⟩ := ob h
  refine k_append (es := ([(34 : UInt8)] : List UInt8).map bD) elem54 rfl rfl h3 (h20.sl) (by have := (app_out hx13).1; simp only [List.length_map] at *; omega) (by have := (app_out hx13).1; simp only [List.length_map] at *; omega) rfl ?_
  intro s21 v21 st21 h21
  rw [← List.map_append, ← (app_out hx13).2] at h21
  have szs21 := st21.size
  have hS := hS.c0 st21
  refine k_bts (m := x13) Tryz.underlying54 Tryz.underlying5 Tryz.underlying9 rfl (h21.sl) rfl ?_
  refine k_assign rfl rfl ?_
  refine k_nil ?_
  refine k_keep [(2, _)] ⟨rfl, trivial⟩ ?_
  refine k_ret ?_
  obtain rfl := Option.some.inj h
  refine ⟨_, rfl, Ret.mk hS ?_⟩
  exact rfl

set_option maxHeartbeats 1000000 in
set_option maxRecDepth 100000 in
theorem ref01_Print_s_w {s : St} {cs0 : List Value} {a0 : ApiValue} {a70 : (ApiValue → Option (List UInt8))} {r : (List UInt8)} (hp0 : RC s cs0 (dApiValue a0)) (ih70 : ∀ {s : St} {cs0 : List Value} {a0 : ApiValue} {r : (List UInt8)} (hp0 : RC s cs0 (dApiValue a0)) (h : a70 a0 = some r), Calls Tryz.prog 33 #[.agg cs0.toArray] s.w (Ret s K0 (fun s1 v => v = S r))) (h : ref01_Print_s a70 a0 = some r) : Calls Tryz.prog 33 #[.agg cs0.toArray] s.w (Ret s K0 (fun s1 v => v = S r)) := by
 unfold ref01_Print_s at h
 obtain ⟨q0_0, q0_1, rfl, hq0_0, hq0_1⟩ := opnApiValue hp0
 have hS := Step.r0 K0 s
 refine k_fn (rs := [2]) (args := [.agg #[.int .i64 a0.Kind, .int .i64 a0.Num, S a0.Text, q0_0, q0_1]]) Tryz.func33 rfl rfl rfl rfl ?_
 refine k_seq ?_
 refine k_region ?_
 refine k_box rfl rfl ?_
 intro s1 b1 st1 h1 ge1
 have szs1 := st1.size
 have hS := hS.trans0 st1
 replace hq0_0 := hq0_0.up2 st1
 replace hq0_1 := hq0_1.up2 st1
 have lt1 := h1.lt
 refine k_assign rfl rfl ?_
 refine k_nil ?_
 refine k_keep [(1, _), (2, _)] ⟨rfl, rfl, trivial⟩ ?_
 refine k_seq ?_
 refine k_seq ?_
 refine k_region ?_
 refine k_field_addr fld25_0 rfl rfl ?_
 refine k_load_blk one3 rfl h1 rfl rfl ?_
 refine k_nil ?_
 refine k_keep [(1, _), (2, _), (6, _)] ⟨rfl, rfl, rfl, trivial⟩ ?_
 refine k_block ?_
 refine k_seq ?_
 refine k_region ?_
 refine k_eql rfl rfl rfl ?_
 refine k_assign rfl rfl ?_
 refine k_nil ?_
 refine k_keep [(1, _), (2, _), (6, _), (7, _)] ⟨rfl, rfl, rfl, rfl, trivial⟩ ?_
 refine k_cond_dec rfl (fun c2 => ?_) (fun c2 => ?_)
 ·
  have h := itT h c2
  refine k_seq ?_
  refine k_region ?_
  refine k_assign rfl rfl ?_
  refine k_nil ?_
  refine k_keep [(1, _), (2, _)] ⟨rfl, rfl, trivial⟩ ?_
  refine k_ret ?_
  obtain rfl := Option.some.inj h
  refine ⟨_, rfl, Ret.mk hS ?_⟩
  exact rfl
 ·
  have h := itF h c2
  refine k_seq ?_
  refine k_region ?_
  refine k_eql rfl rfl rfl ?_
  refine k_assign rfl rfl ?_
  refine k_nil ?_
  refine k_keep [(1, _), (2, _), (6, _), (9, _)] ⟨rfl, rfl, rfl, rfl, trivial⟩ ?_
  refine k_cond_dec rfl (fun c3 => ?_) (fun c3 => ?_)
  ·
   have h := itT h c3
   refine k_seq ?_
   refine k_region ?_
   refine k_assign rfl rfl ?_
   refine k_nil ?_
   refine k_keep [(1, _), (2, _)] ⟨rfl, rfl, trivial⟩ ?_
   refine k_ret ?_
   obtain rfl := Option.some.inj h
   refine ⟨_, rfl, Ret.mk hS ?_⟩
   exact rfl
  ·
   have h := itF h c3
   refine k_seq ?_
   refine k_region ?_
   refine k_eql rfl rfl rfl ?_
   refine k_assign rfl rfl ?_
   refine k_nil ?_
   refine k_keep [(1, _), (2, _), (6, _), (11, _)] ⟨rfl, rfl, rfl, rfl, trivial⟩ ?_
   refine k_cond_dec rfl (fun c4 => ?_) (fun c4 => ?_)
   ·
    have h := itT h c4
    refine k_seq ?_
    refine k_region ?_
    refine k_assign rfl rfl ?_
    refine k_nil ?_
    refine k_keep [(1, _), (2, _)] ⟨rfl, rfl, trivial⟩ ?_
    refine k_ret ?_
    obtain rfl := Option.some.inj h
    refine ⟨_, rfl, Ret.mk hS ?_⟩
    exact rfl
   ·
    have h := itF h c4
    refine k_seq ?_
    refine k_region ?_
    refine k_eql rfl rfl rfl ?_
    refine k_assign rfl rfl ?_
    refine k_nil ?_
    refine k_keep [(1, _), (2, _), (6, _), (13, _)] ⟨rfl, rfl, rfl, rfl, trivial⟩ ?_
    refine k_cond_dec rfl (fun c5 => ?_) (fun c5 => ?_)
    ·
     have h := itT h c5
     refine k_seq ?_
     refine k_region ?_
     refine k_field_addr fld25_1 rfl rfl ?_
     refine k_load_blk one2 rfl h1 rfl rfl ?_
     obtain ⟨x1, hx1, h⟩ := ob h
     refine k_call cal42 rfl (ref01_digits_w   hx1) rfl ?_
     rintro s6 vr6 st6 rfl
     have szs6 := st6.size
     have hS := hS.trans0 st6
     refine k_assign rfl rfl ?_
     refine k_nil ?_
     refine k_keep [(1, _), (2, _)] ⟨rfl, rfl, trivial⟩ ?_
     refine k_ret ?_
     obtain rfl := Option.some.inj h
     refine ⟨_, rfl, Ret.mk hS ?_⟩
     exact rfl
    ·
     have h := itF h c5
     refine k_seq ?_
     refine k_region ?_
     refine k_eql rfl rfl rfl ?_
     refine k_assign rfl rfl ?_
     refine k_nil ?_
     refine k_keep [(1, _), (2, _), (18, _)] ⟨rfl, rfl, rfl, trivial⟩ ?_
     refine k_cond_dec rfl (fun c7 => ?_) (fun c7 => ?_)
     ·
      have h := itT h c7
      refine k_seq ?_
      refine k_region ?_
      refine k_field_addr fld25_2 rfl rfl ?_
      refine k_load_blk one9 rfl h1 rfl rfl ?_
      obtain ⟨x2, hx2, h⟩ := ob h
      refine k_call cal51 rfl (ref01_quoted_w   hx2) rfl ?_
      rintro s8 vr8 st8 rfl
      have szs8 := st8.size
      have hS := hS.trans0 st8
      refine k_assign rfl rfl ?_
      refine k_nil ?_
      refine k_keep [(1, _), (2, _)] ⟨rfl, rfl, trivial⟩ ?_
      refine k_ret ?_
      obtain rfl := Option.some.inj h
      refine ⟨_, rfl, Ret.mk hS ?_⟩
      exact rfl
     ·
      have h := itF h c7
      refine k_skip ?_
      refine k_blk ?_
      refine k_seq ?_
      refine k_region ?_
      refine k_assign rfl rfl ?_
      refine k_nil ?_
      refine k_keep [(1, _), (2, _), (3, _)] ⟨rfl, rfl, rfl, trivial⟩ ?_
      refine k_seq ?_
      obtain ⟨kj3, hK9, h⟩ := jn_out h
      have hE9 := Step.r0 K0 s1
      refine k_cutc (X := St × (List UInt8)) [(1, .pointer (some ⟨b1, 0, none⟩)), (2, S ([] : List UInt8))] (fun (xL : St × (List UInt8)) => match xL with | (sl, x4) => [(3, S x4)]) (fun (xL : St × (List UInt8)) (wL : World) => match xL with | (sl, x4) => sl.w = wL ∧ Step K0 s1 sl ∧ kj3 x4 = some r) ?_ ?_
      ·
       refine k_seq ?_
       refine k_region ?_
       refine k_assign rfl rfl ?_
       refine k_nil ?_
       refine k_block ?_
       refine k_loopc (X := St × (List UInt8) × Int × Nat) [(1, _), (2, _)] (fun (xL : St × (List UInt8) × Int × Nat) => match xL with | (sl, x5, x6, j) => [(3, S x5), (4, .int .i64 x6)]) (fun (xL : St × (List UInt8) × Int × Nat) (wL : World) => match xL with | (sl, x5, x6, j) => sl.w = wL ∧ Step K0 s1 sl ∧ ref01_Print_s_l1 a0 a70 kj3 j x5 x6 = some r) (fun (xL : St × (List UInt8) × Int × Nat) => match xL with | (sl, x5, x6, j) => j) (s1, ([] : List UInt8), 0, FU) ⟨rfl, rfl, trivial⟩ ⟨(by first | rfl | (simp <;> rfl)), (by first | rfl | (simp <;> rfl)), trivial⟩ ⟨rfl, (Step.refl _).of0 (by first | exact fun _ h => h | (intro c h; simp [KC, KO, KU, KN, KB] at h <;> omega)), h⟩ ?_
       rintro ⟨s11, x5, x6, j⟩ wL ⟨rfl, hE10, h⟩
       cases j with
       | zero => rw [ref01_Print_s_l1] at h; exact (noneNe h).elim
       | succ j =>
       rw [ref01_Print_s_l1] at h
       have szs11 := hE10.size
       have hS := hS.trans0 hE10
       have hE9 := hE9.trans0 hE10
       replace hq0_0 := hq0_0.up2 hE10
       replace hq0_1 := hq0_1.up2 hE10
       replace h1 := h1.up2 hE10
       refine k_seq ?_
       refine k_seq ?_
       refine k_region ?_
       refine k_move rfl rfl ?_
       refine k_field_addr fld25_3 rfl rfl ?_
       refine k_load_blk one22 rfl h1 rfl rfl ?_
       refine k_len Tryz.underlying22 rfl (SL.of_R hq0_0).hasLen rfl ?_
       refine k_as (v := .int .i64 (a0.List_.length : Int)) (by simp only [List.length_map]) ?_
       refine k_lss rfl rfl rfl ?_
       refine k_nil ?_
       refine k_keep [(1, _), (2, _), (3, _), (4, _), (27, _)] ⟨rfl, rfl, rfl, rfl, rfl, trivial⟩ ?_
       refine k_cond_dec rfl (fun c12 => ?_) (fun c12 => ?_)
       ·
        have h := itT h c12
        refine k_skip ?_
        refine k_seq ?_
        refine k_block ?_
        refine k_seq ?_
        refine k_keep [(1, _), (2, _), (3, _), (4, _)] ⟨rfl, rfl, rfl, rfl, trivial⟩ ?_
        obtain ⟨kj7, hK13, h⟩ := jn_out h
        have hE13 := Step.r0 K0 s11
        refine k_cutc (X := St × (List UInt8)) [(1, .pointer (some ⟨b1, 0, none⟩)), (2, S ([] : List UInt8)), (4, .int .i64 x6)] (fun (xL : St × (List UInt8)) => match xL with | (sl, x8) => [(3, S x8)]) (fun (xL : St × (List UInt8)) (wL : World) => match xL with | (sl, x8) => sl.w = wL ∧ Step K0 s11 sl ∧ kj7 x8 = some r) ?_ ?_
        ·
         refine k_seq ?_
         refine k_region ?_
         refine k_move rfl rfl ?_
         refine k_gtr rfl rfl rfl ?_
         refine k_nil ?_
         refine k_keep [(1, _), (2, _), (3, _), (4, _), (31, _)] ⟨rfl, rfl, rfl, rfl, rfl, trivial⟩ ?_
         refine k_cond_dec rfl (fun c14 => ?_) (fun c14 => ?_)
         ·
          have h := itT h c14
          refine k_region ?_
          refine k_move rfl rfl ?_
          obtain ⟨x9, hx9, h⟩ := ob h
          refine k_add_str rfl rfl (app_out hx9).1 rfl ?_
          refine k_as (v := S x9) (congrArg S (app_out hx9).2.symm) ?_
          refine k_assign rfl rfl ?_
          refine k_nil ?_
          exact k_stop ⟨(s11, x9), ⟨(by first | rfl | (simp <;> rfl)), trivial⟩, ⟨rfl, rfl, rfl, trivial⟩, ⟨rfl, hE13, h⟩⟩
         ·
          have h := itF h c14
          refine k_skip ?_
          exact k_stop ⟨(s11, x5), ⟨(by first | rfl | (simp <;> rfl)), trivial⟩, ⟨rfl, rfl, rfl, trivial⟩, ⟨rfl, hE13, h⟩⟩
        ·
         rintro ⟨s15, x8⟩ wL ⟨rfl, hE13, h⟩
         rw [hK13] at h
         have szs15 := hE13.size
         have hS := hS.trans0 hE13
         have hE9 := hE9.trans0 hE13
         have hE10 := hE10.trans0 hE13
         replace hq0_0 := hq0_0.up2 hE13
         replace hq0_1 := hq0_1.up2 hE13
         replace h1 := h1.up2 hE13
         refine k_seq ?_
         obtain ⟨kj10, hK16, h⟩ := jn_out h
         have hE16 := Step.r0 K0 s15
         refine k_cutc (X := St × (List UInt8)) [(1, .pointer (some ⟨b1, 0, none⟩)), (2, S ([] : List UInt8)), (4, .int .i64 x6)] (fun (xL : St × (List UInt8)) => match xL with | (sl, x11) => [(3, S x11)]) (fun (xL : St × (List UInt8)) (wL : World) => match xL with | (sl, x11) => sl.w = wL ∧ Step K0 s15 sl ∧ kj10 x11 = some r) ?_ ?_
         ·
          refine k_seq ?_
          refine k_region ?_
          refine k_field_addr fld25_0 rfl rfl ?_
          refine k_load_blk one3 rfl h1 rfl rfl ?_
          refine k_eql rfl rfl rfl ?_
          refine k_nil ?_
          refine k_keep [(1, _), (2, _), (3, _), (4, _), (36, _)] ⟨rfl, rfl, rfl, rfl, rfl, trivial⟩ ?_
          refine k_cond_dec rfl (fun c17 => ?_) (fun c17 => ?_)
          ·
           have h := itT h c17
           refine k_region ?_
           refine k_move rfl rfl ?_
           refine k_field_addr fld25_4 rfl rfl ?_
           refine k_load_blk one23 rfl h1 rfl rfl ?_
           refine k_move rfl rfl ?_
           obtain ⟨x12, hx12, h⟩ := ob h
           refine k_ixaddr Tryz.underlying23 size9 rfl rfl (SL.of_R hq0_1) (geti_out hx12).1 (geti_map hx12) rfl ?_
           intro qx12 hqx12
           refine k_load_val one9 rfl hqx12 rfl ?_
           obtain ⟨x13, hx13, h⟩ := ob h
           refine k_call cal51 rfl (ref01_quoted_w   hx13) rfl ?_
           rintro s18 vr18 st18 rfl
           have szs18 := st18.size
           have hS := hS.trans0 st18
           have hE9 := hE9.trans0 st18
           have hE10 := hE10.trans0 st18
           have hE16 := hE16.trans0 st18
           obtain ⟨x14, hx14, h⟩ := ob h
           refine k_add_str rfl rfl (app_out hx14).1 rfl ?_
           refine k_as (v := S x14) (congrArg S (app_out hx14).2.symm) ?_
           obtain ⟨x15, hx15, h⟩ := ob h
           refine k_add_str rfl rfl (app_out hx15).1 rfl ?_
           refine k_as (v := S x15) (congrArg S (app_out hx15).2.symm) ?_
           refine k_assign rfl rfl ?_
           refine k_nil ?_
           exact k_stop ⟨(s18, x15), ⟨(by first | rfl | (simp <;> rfl)), trivial⟩, ⟨rfl, rfl, rfl, trivial⟩, ⟨rfl, hE16, h⟩⟩
          ·
           have h := itF h c17
           refine k_skip ?_
           exact k_stop ⟨(s15, x8), ⟨(by first | rfl | (simp <;> rfl)), trivial⟩, ⟨rfl, rfl, rfl, trivial⟩, ⟨rfl, hE16, h⟩⟩
         ·
          rintro ⟨s19, x11⟩ wL ⟨rfl, hE16, h⟩
          rw [hK16] at h
          have szs19 := hE16.size
          have hS := hS.trans0 hE16
          have hE9 := hE9.trans0 hE16
          have hE10 := hE10.trans0 hE16
          replace hq0_0 := hq0_0.up2 hE16
          replace h1 := h1.up2 hE16
          refine k_region ?_
          refine k_move rfl rfl ?_
          refine k_field_addr fld25_3 rfl rfl ?_
          refine k_load_blk one22 rfl h1 rfl rfl ?_
          refine k_move rfl rfl ?_
          obtain ⟨x16, hx16, h⟩ := ob h
          refine k_ixaddr Tryz.underlying22 size25 rfl rfl (SL.of_R hq0_0) (geti_out hx16).1 (geti_map hx16) rfl ?_
          intro qx16 hqx16
          refine k_load_agg (by exact agg25) rfl hqx16 rfl ?_
          intro cs20 h20
          obtain ⟨q20_0, q20_1, rfl, hq20_0, hq20_1⟩ := opnApiValue h20
          obtain ⟨x17, hx17, h⟩ := ob h
          refine k_call cal33 rfl (ih70  (clsApiValue x16 hq20_0 hq20_1) hx17) rfl ?_
          rintro s21 vr21 st21 rfl
          have szs21 := st21.size
          have hS := hS.trans0 st21
          have hE9 := hE9.trans0 st21
          have hE10 := hE10.trans0 st21
          obtain ⟨x18, hx18, h⟩ := ob h
          refine k_add_str rfl rfl (app_out hx18).1 rfl ?_
          refine k_as (v := S x18) (congrArg S (app_out hx18).2.symm) ?_
          refine k_assign rfl rfl ?_
          refine k_nil ?_
          refine k_blk ?_
          refine k_region ?_
          refine k_move rfl rfl ?_
          refine k_add rfl rfl rfl ?_
          refine k_assign rfl rfl ?_
          refine k_nil ?_
          exact k_stop ⟨(s21, x18, i64 (x6 + 1), j), ⟨(by first | rfl | (simp <;> rfl)), (by first | rfl | (simp <;> rfl)), trivial⟩, ⟨rfl, rfl, trivial⟩, ⟨rfl, hE10, h⟩, (by simp)⟩
       ·
        have h := itF h c12
        refine k_exit rfl ?_
        exact k_stop ⟨(s11, x5), ⟨(by first | rfl | (simp <;> rfl)), trivial⟩, ⟨rfl, rfl, trivial⟩, ⟨rfl, hE9, h⟩⟩
      ·
       rintro ⟨s22, x4⟩ wL ⟨rfl, hE9, h⟩
       rw [hK9] at h
       have szs22 := hE9.size
       have hS := hS.trans0 hE9
       replace h1 := h1.up2 hE9
       refine k_seq ?_
       refine k_seq ?_
       refine k_region ?_
       refine k_field_addr fld25_0 rfl rfl ?_
       refine k_load_blk one3 rfl h1 rfl rfl ?_
       refine k_eql rfl rfl rfl ?_
       refine k_nil ?_
       refine k_keep [(2, _), (3, _), (56, _)] ⟨rfl, rfl, rfl, trivial⟩ ?_
       refine k_cond_dec rfl (fun c23 => ?_) (fun c23 => ?_)
       ·
        have h := itT h c23
        refine k_seq ?_
        refine k_region ?_
        refine k_move rfl rfl ?_
        obtain ⟨x19, hx19, h⟩ := ob h
        refine k_add_str rfl rfl (app_out hx19).1 rfl ?_
        refine k_as (v := S x19) (congrArg S (app_out hx19).2.symm) ?_
        obtain ⟨x20, hx20, h⟩ := ob h
        refine k_add_str rfl rfl (app_out hx20).1 rfl ?_
        refine k_as (v := S x20) (congrArg S (app_out hx20).2.symm) ?_
        refine k_assign rfl rfl ?_
        refine k_nil ?_
        refine k_keep [(2, _), (3, _)] ⟨rfl, rfl, trivial⟩ ?_
        refine k_ret ?_
        obtain rfl := Option.some.inj h
        refine ⟨_, rfl, Ret.mk hS ?_⟩
        exact rfl
       ·
        have h := itF h c23
        refine k_skip ?_
        refine k_seq ?_
        refine k_region ?_
        refine k_move rfl rfl ?_
        obtain ⟨x21, hx21, h⟩ := ob h
        refine k_add_str rfl rfl (app_out hx21).1 rfl ?_
        refine k_as (v := S x21) (congrArg S (app_out hx21).2.symm) ?_
        obtain ⟨x22, hx22, h⟩ := ob h
        refine k_add_str rfl rfl (app_out hx22).1 rfl ?_
        refine k_as (v := S x22) (congrArg S (app_out hx22).2.symm) ?_
        refine k_assign rfl rfl ?_
        refine k_nil ?_
        refine k_keep [(2, _)] ⟨rfl, trivial⟩ ?_
        refine k_ret ?_
        obtain rfl := Option.some.inj h
        refine ⟨_, rfl, Ret.mk hS ?_⟩
        exact rfl
theorem ref01_Print_rw (j : Nat) : ∀ {s : St} {cs0 : List Value} {a0 : ApiValue} {r : (List UInt8)} (hp0 : RC s cs0 (dApiValue a0)) (h : ref01_Print_r j a0 = some r), Calls Tryz.prog 33 #[.agg cs0.toArray] s.w (Ret s K0 (fun s1 v => v = S r)) := by
 induction j with
 | zero => intro s cs0 a0 r hp0 h; rw [ref01_Print_r] at h; exact (noneNe h).elim
 | succ j ih => intro s cs0 a0 r hp0 h; rw [ref01_Print_r] at h; exact ref01_Print_s_w hp0 ih h
theorem ref01_Print_w {s : St} {cs0 : List Value} {a0 : ApiValue} {r : (List UInt8)} (hp0 : RC s cs0 (dApiValue a0)) (h : ref01_Print a0 = some r) : Calls Tryz.prog 33 #[.agg cs0.toArray] s.w (Ret s K0 (fun s1 v => v = S r)) := ref01_Print_rw (FU + (dpApiValue a0)) hp0 h

set_option maxHeartbeats 1000000 in
set_option maxRecDepth 100000 in
theorem ref01_May_w {s : St} {cs0 : List Value} {a0 : ApiValue} {r : Bool} (hp0 : RC s cs0 (dApiValue a0)) (h : ref01_May a0 = some r) : Calls Tryz.prog 10 #[.agg cs0.toArray] s.w (Ret s K0 (fun s1 v => v = .bool r)) := by
 unfold ref01_May at h
 obtain ⟨q0_0, q0_1, rfl, hq0_0, hq0_1⟩ := opnApiValue hp0
 have hS := Step.r0 K0 s
 refine k_fn (rs := [2]) (args := [.agg #[.int .i64 a0.Kind, .int .i64 a0.Num, S a0.Text, q0_0, q0_1]]) Tryz.func10 rfl rfl rfl rfl ?_
 refine k_seq ?_
 refine k_region ?_
 refine k_box rfl rfl ?_
 intro s1 b1 st1 h1 ge1
 have szs1 := st1.size
 have hS := hS.trans0 st1
 replace hq0_0 := hq0_0.up2 st1
 replace hq0_1 := hq0_1.up2 st1
 have lt1 := h1.lt
 refine k_assign rfl rfl ?_
 refine k_nil ?_
 refine k_keep [(1, _), (2, _)] ⟨rfl, rfl, trivial⟩ ?_
 refine k_seq ?_
 refine k_region ?_
 refine k_load_blka (cs := [.int .i64 a0.Kind, .int .i64 a0.Num, S a0.Text, q0_0, q0_1]) agg25 rfl h1 rfl ?_
 obtain ⟨x1, hx1, h⟩ := ob h
 refine k_call cal31 rfl (ref01_Deep_w  (clsApiValue a0 hq0_0 hq0_1) hx1) rfl ?_
 rintro s2 vr2 st2 rfl
 have szs2 := st2.size
 have hS := hS.trans0 st2
 replace hq0_0 := hq0_0.up2 st2
 replace hq0_1 := hq0_1.up2 st2
 replace h1 := h1.up2 st2
 refine k_leq rfl rfl rfl ?_
 refine k_move rfl rfl ?_
 obtain ⟨x2, hx2, h⟩ := ob h
 have hE3 := Step.r0 K0 s2
 refine k_cutl (X := St) 3 [(1, .pointer (some ⟨b1, 0, none⟩)), (2, .bool false), (3, .agg #[.int .i64 a0.Kind, .int .i64 a0.Num, S a0.Text, q0_0, q0_1]), (4, .int .i64 x1), (5, .bool (decide (x1 ≤ 8)))] (fun _ => [(9, .bool x2)]) (fun sl wL => sl.w = wL ∧ Step K0 s2 sl) ?_ ?_
 ·
  refine k_again 6 rfl ?_
  refine k_split (fun c4 => ?_) (fun c4 => ?_)
  ·
   have hx2 := itT hx2 c4
   refine k_yes rfl rfl ?_
   refine k_load_blka (cs := [.int .i64 a0.Kind, .int .i64 a0.Num, S a0.Text, q0_0, q0_1]) agg25 rfl h1 rfl ?_
   refine k_yes rfl rfl ?_
   obtain ⟨x3, hx3, hx2⟩ := ob hx2
   refine k_call cal32 rfl (ref01_fields_w  (clsApiValue a0 hq0_0 hq0_1) hx3) rfl ?_
   rintro s5 vr5 st5 rfl
   have szs5 := st5.size
   have hS := hS.trans0 st5
   have hE3 := hE3.trans0 st5
   refine k_pickT rfl rfl rfl rfl ?_
   exact k_met ⟨s5, ⟨(congrArg (fun b => some (Value.bool b)) (Option.some.inj hx2)), trivial⟩, ⟨rfl, rfl, rfl, rfl, rfl, trivial⟩, rfl, hE3⟩
  ·
   have hx2 := itF hx2 c4
   refine k_no rfl rfl rfl rfl ?_
   refine k_no rfl rfl rfl rfl ?_
   refine k_pickF rfl rfl rfl rfl ?_
   exact k_met ⟨s2, ⟨(congrArg (fun b => some (Value.bool b)) (Option.some.inj hx2)), trivial⟩, ⟨rfl, rfl, rfl, rfl, rfl, trivial⟩, rfl, hE3⟩
 ·
  rintro s6 wL ⟨rfl, hE3⟩
  have szs6 := hE3.size
  have hS := hS.trans0 hE3
  replace hq0_0 := hq0_0.up2 hE3
  replace hq0_1 := hq0_1.up2 hE3
  replace h1 := h1.up2 hE3
  refine k_move rfl rfl ?_
  obtain ⟨x4, hx4, h⟩ := ob h
  have hE7 := Step.r0 K0 s6
  refine k_cutl (X := St) 5 [(1, .pointer (some ⟨b1, 0, none⟩)), (2, .bool false), (3, .agg #[.int .i64 a0.Kind, .int .i64 a0.Num, S a0.Text, q0_0, q0_1]), (4, .int .i64 x1), (5, .bool (decide (x1 ≤ 8))), (9, .bool x2)] (fun _ => [(15, .bool x4)]) (fun sl wL => sl.w = wL ∧ Step K0 s6 sl) ?_ ?_
  ·
   refine k_again 10 rfl ?_
   refine k_splitb (fun c8 => ?_) (fun c8 => ?_)
   ·
    have hx4 := ibT hx4 c8
    refine k_yes rfl rfl ?_
    refine k_load_blka (cs := [.int .i64 a0.Kind, .int .i64 a0.Num, S a0.Text, q0_0, q0_1]) agg25 rfl h1 rfl ?_
    refine k_yes rfl rfl ?_
    obtain ⟨x5, hx5, hx4⟩ := ob hx4
    refine k_call cal33 rfl (ref01_Print_w  (clsApiValue a0 hq0_0 hq0_1) hx5) rfl ?_
    rintro s9 vr9 st9 rfl
    have szs9 := st9.size
    have hS := hS.trans0 st9
    have hE7 := hE7.trans0 st9
    refine k_yes rfl rfl ?_
    refine k_len_str Tryz.underlying9 rfl rfl ?_
    refine k_yes rfl rfl ?_
    refine k_leq rfl rfl rfl ?_
    refine k_pickT rfl rfl rfl rfl ?_
    exact k_met ⟨s9, ⟨(congrArg (fun b => some (Value.bool b)) (Option.some.inj hx4)), trivial⟩, ⟨rfl, rfl, rfl, rfl, rfl, rfl, trivial⟩, rfl, hE7⟩
   ·
    have hx4 := ibF hx4 c8
    refine k_no rfl rfl rfl rfl ?_
    refine k_no rfl rfl rfl rfl ?_
    refine k_no rfl rfl rfl rfl ?_
    refine k_no rfl rfl rfl rfl ?_
    refine k_pickF rfl rfl rfl rfl ?_
    exact k_met ⟨s6, ⟨(congrArg (fun b => some (Value.bool b)) (Option.some.inj hx4)), trivial⟩, ⟨rfl, rfl, rfl, rfl, rfl, rfl, trivial⟩, rfl, hE7⟩
  ·
   rintro s10 wL ⟨rfl, hE7⟩
   have szs10 := hE7.size
   have hS := hS.trans0 hE7
   refine k_assign rfl rfl ?_
   refine k_nil ?_
   refine k_keep [(2, _)] ⟨rfl, trivial⟩ ?_
   refine k_ret ?_
   obtain rfl := Option.some.inj h
   refine ⟨_, rfl, Ret.mk hS ?_⟩
   exact rfl

set_option maxHeartbeats 1000000 in
set_option maxRecDepth 100000 in
theorem ref01_Texts_w {s : St} {a0 : (List UInt8)} {a1 : (List UInt8)} {r : Int}  (h : ref01_Texts a0 a1 = some r) : Calls Tryz.prog 34 #[S a0, S a1] s.w (Ret s K0 (fun s1 v => v = .int .i64 r)) := by
 unfold ref01_Texts at h
 have hS := Step.r0 K0 s
 refine k_fn (rs := [4]) (args := [S a0, S a1]) Tryz.func34 rfl rfl rfl rfl ?_
 refine k_seq ?_
 refine k_region ?_
 refine k_assign rfl rfl ?_
 refine k_nil ?_
 refine k_seq ?_
 obtain ⟨kj1, hK1, h⟩ := jn_out h
 have hE1 := Step.r0 K0 s
 refine k_cutc (X := St) [(0, S a0), (1, S a1), (4, .int .i64 0)] (fun (xL : St) => match xL with | sl => []) (fun (xL : St) (wL : World) => match xL with | sl => sl.w = wL ∧ Step K0 s sl ∧ kj1 () = some r) ?_ ?_
 ·
  refine k_seq ?_
  refine k_region ?_
  refine k_assign rfl rfl ?_
  refine k_nil ?_
  refine k_block ?_
  refine k_loopc (X := St × Int × Nat) [(0, _), (1, _), (4, _)] (fun (xL : St × Int × Nat) => match xL with | (sl, x2, j) => [(5, .int .i64 x2)]) (fun (xL : St × Int × Nat) (wL : World) => match xL with | (sl, x2, j) => sl.w = wL ∧ Step K0 s sl ∧ ref01_Texts_l1 a0 a1 kj1 j x2 = some r) (fun (xL : St × Int × Nat) => match xL with | (sl, x2, j) => j) (s, 0, FU) ⟨rfl, rfl, rfl, trivial⟩ ⟨(by first | rfl | (simp <;> rfl)), trivial⟩ ⟨rfl, (Step.refl _).of0 (by first | exact fun _ h => h | (intro c h; simp [KC, KO, KU, KN, KB] at h <;> omega)), h⟩ ?_
  rintro ⟨s3, x2, j⟩ wL ⟨rfl, hE2, h⟩
  cases j with
  | zero => rw [ref01_Texts_l1] at h; exact (noneNe h).elim
  | succ j =>
  rw [ref01_Texts_l1] at h
  have szs3 := hE2.size
  have hS := hS.trans0 hE2
  have hE1 := hE1.trans0 hE2
  refine k_seq ?_
  refine k_seq ?_
  refine k_region ?_
  refine k_move rfl rfl ?_
  refine k_move rfl rfl ?_
  refine k_len_str Tryz.underlying9 rfl rfl ?_
  refine k_lss rfl rfl rfl ?_
  refine k_move rfl rfl ?_
  have hE4 := Step.r0 K0 s3
  refine k_cutl (X := St) 5 [(0, S a0), (1, S a1), (4, .int .i64 0), (5, .int .i64 x2), (6, .int .i64 x2), (7, S a0), (8, .int .i64 (a0.length : Int)), (9, .bool (decide (x2 < (a0.length : Int))))] (fun _ => [(15, .bool (decide ((x2 < (a0.length : Int)) ∧ (x2 < (a1.length : Int)))))]) (fun sl wL => sl.w = wL ∧ Step K0 s3 sl) ?_ ?_
  ·
   refine k_again 10 rfl ?_
   refine k_split (fun c5 => ?_) (fun c5 => ?_)
   ·
    refine k_yes rfl rfl ?_
    refine k_move rfl rfl ?_
    refine k_yes rfl rfl ?_
    refine k_move rfl rfl ?_
    refine k_yes rfl rfl ?_
    refine k_len_str Tryz.underlying9 rfl rfl ?_
    refine k_yes rfl rfl ?_
    refine k_lss rfl rfl rfl ?_
    refine k_pickT rfl rfl rfl rfl ?_
    exact k_met ⟨s3, ⟨(congrArg (fun b => some (Value.bool b)) (by first | exact decide_eq_decide.2 ⟨fun h => ⟨c5, h⟩, fun h => h.2⟩ | exact (decide_eq_false (fun h => c5 h.1)).symm | (simp [c5]; done) | (simp [c5, i64] <;> omega))), trivial⟩, ⟨rfl, rfl, rfl, rfl, rfl, rfl, rfl, rfl, trivial⟩, rfl, hE4⟩
   ·
    refine k_no rfl rfl rfl rfl ?_
    refine k_no rfl rfl rfl rfl ?_
    refine k_no rfl rfl rfl rfl ?_
    refine k_no rfl rfl rfl rfl ?_
    refine k_pickF rfl rfl rfl rfl ?_
    exact k_met ⟨s3, ⟨(congrArg (fun b => some (Value.bool b)) (by first | exact decide_eq_decide.2 ⟨fun h => ⟨c5, h⟩, fun h => h.2⟩ | exact (decide_eq_false (fun h => c5 h.1)).symm | (simp [c5]; done) | (simp [c5, i64] <;> omega))), trivial⟩, ⟨rfl, rfl, rfl, rfl, rfl, rfl, rfl, rfl, trivial⟩, rfl, hE4⟩
  ·
   rintro s6 wL ⟨rfl, hE4⟩
   have szs6 := hE4.size
   have hS := hS.trans0 hE4
   have hE1 := hE1.trans0 hE4
   have hE2 := hE2.trans0 hE4
   refine k_nil ?_
   refine k_keep [(0, _), (1, _), (4, _), (5, _), (15, _)] ⟨rfl, rfl, rfl, rfl, rfl, trivial⟩ ?_
   refine k_cond_dec rfl (fun c7 => ?_) (fun c7 => ?_)
   ·
    have h := itT h c7
    refine k_skip ?_
    refine k_seq ?_
    refine k_block ?_
    refine k_seq ?_
    refine k_keep [(0, _), (1, _), (4, _), (5, _)] ⟨rfl, rfl, rfl, rfl, trivial⟩ ?_
    refine k_drawT (KN s6.n) 6 (.read 0 (.read 1 (.read 2 (.read 3 (.read 4 (.read 5 .fin)))))) mixed (by intro c h; (try simp only [KC, KO, KU, KN, KB] at h) <;> omega) rfl rfl rfl ?_
    intro s8 st8
    have szs8 := st8.size
    have hS := hS.trans0 st8
    have hE1 := hE1.trans0 st8
    have hE2 := hE2.trans0 st8
    refine rt_read (S a0) rfl rfl (fun s9 st9 => ?_) ?_
    ·refine k_move rfl rfl ?_
     exact fq_end
    refine rt_read (.int .i64 x2) rfl rfl (fun s10 st10 => ?_) ?_
    ·refine k_move rfl rfl ?_
     exact fq_end
    obtain ⟨x3, hx3, h⟩ := ob h
    refine rt_read (.int .u8 (x3.toNat : Int)) rfl rfl (fun s11 st11 => ?_) ?_
    ·refine k_index_str Tryz.underlying9 rfl rfl (geti_out hx3).1 (geti_out hx3).2.1 rfl ?_
     refine k_as (congrArg (fun c : UInt8 => Value.int .u8 (c.toNat : Int)) (geti_getD hx3)) ?_
     exact fq_end
    refine rt_read (S a1) rfl rfl (fun s12 st12 => ?_) ?_
    ·refine k_move rfl rfl ?_
     exact fq_end
    refine rt_read (.int .i64 x2) rfl rfl (fun s13 st13 => ?_) ?_
    ·refine k_move rfl rfl ?_
     exact fq_end
    obtain ⟨x4, hx4, h⟩ := ob h
    refine rt_read (.int .u8 (x4.toNat : Int)) rfl rfl (fun s14 st14 => ?_) ?_
    ·refine k_index_str Tryz.underlying9 rfl rfl (geti_out hx4).1 (geti_out hx4).2.1 rfl ?_
     refine k_as (congrArg (fun c : UInt8 => Value.int .u8 (c.toNat : Int)) (geti_getD hx4)) ?_
     exact fq_end
    refine rt_fin ?_
    refine k_neq rfl rfl rfl ?_
    refine k_nil ?_
    refine k_keep [(0, _), (1, _), (4, _), (5, _), (24, _)] ⟨rfl, rfl, rfl, rfl, rfl, trivial⟩ ?_
    refine k_cond_dec rfl (fun c15 => ?_) (fun c15 => ?_)
    ·
     have h := itT h c15
     refine k_seq ?_
     refine k_seq ?_
     refine k_keep [(0, _), (1, _), (4, _), (5, _)] ⟨rfl, rfl, rfl, rfl, trivial⟩ ?_
     refine k_drawT (KN s8.n) 6 (.read 0 (.read 1 (.read 2 (.read 3 (.read 4 (.read 5 .fin)))))) mixed (by intro c h; (try simp only [KC, KO, KU, KN, KB] at h) <;> omega) rfl rfl rfl ?_
     intro s16 st16
     have szs16 := st16.size
     have hS := hS.trans0 st16
     have hE1 := hE1.trans0 st16
     have hE2 := hE2.trans0 st16
     refine rt_read (S a0) rfl rfl (fun s17 st17 => ?_) ?_
     ·refine k_move rfl rfl ?_
      exact fq_end
     refine rt_read (.int .i64 x2) rfl rfl (fun s18 st18 => ?_) ?_
     ·refine k_move rfl rfl ?_
      exact fq_end
     obtain ⟨x5, hx5, h⟩ := ob h
     refine rt_read (.int .u8 (x5.toNat : Int)) rfl rfl (fun s19 st19 => ?_) ?_
     ·refine k_index_str Tryz.underlying9 rfl rfl (geti_out hx5).1 (geti_out hx5).2.1 rfl ?_
      refine k_as (congrArg (fun c : UInt8 => Value.int .u8 (c.toNat : Int)) (geti_getD hx5)) ?_
      exact fq_end
     refine rt_read (S a1) rfl rfl (fun s20 st20 => ?_) ?_
     ·refine k_move rfl rfl ?_
      exact fq_end
     refine rt_read (.int .i64 x2) rfl rfl (fun s21 st21 => ?_) ?_
     ·refine k_move rfl rfl ?_
      exact fq_end
     obtain ⟨x6, hx6, h⟩ := ob h
     refine rt_read (.int .u8 (x6.toNat : Int)) rfl rfl (fun s22 st22 => ?_) ?_
     ·refine k_index_str Tryz.underlying9 rfl rfl (geti_out hx6).1 (geti_out hx6).2.1 rfl ?_
      refine k_as (congrArg (fun c : UInt8 => Value.int .u8 (c.toNat : Int)) (geti_getD hx6)) ?_
      exact fq_end
     refine rt_fin ?_
     refine k_lss rfl rfl rfl ?_
     refine k_nil ?_
     refine k_keep [(0, _), (1, _), (4, _), (5, _), (31, _)] ⟨rfl, rfl, rfl, rfl, rfl, trivial⟩ ?_
     refine k_cond_dec rfl (fun c23 => ?_) (fun c23 => ?_)
     ·
      have h := itT h c23
      refine k_seq ?_
      refine k_region ?_
      refine k_assign rfl rfl ?_
      refine k_nil ?_
      refine k_keep [(0, _), (1, _), (4, _), (5, _)] ⟨rfl, rfl, rfl, rfl, trivial⟩ ?_
      refine k_ret ?_
      obtain rfl := Option.some.inj h
      refine ⟨_, rfl, Ret.mk hS ?_⟩
      exact rfl
     ·
      have h := itF h c23
      refine k_skip ?_
      refine k_seq ?_
      refine k_region ?_
      refine k_assign rfl rfl ?_
      refine k_nil ?_
      refine k_keep [(0, _), (1, _), (4, _), (5, _)] ⟨rfl, rfl, rfl, rfl, trivial⟩ ?_
      refine k_ret ?_
      obtain rfl := Option.some.inj h
      refine ⟨_, rfl, Ret.mk hS ?_⟩
      exact rfl
    ·
     have h := itF h c15
     refine k_skip ?_
     refine k_blk ?_
     refine k_region ?_
     refine k_move rfl rfl ?_
     refine k_add rfl rfl rfl ?_
     refine k_assign rfl rfl ?_
     refine k_nil ?_
     exact k_stop ⟨(s8, i64 (x2 + 1), j), ⟨(by first | rfl | (simp <;> rfl)), trivial⟩, ⟨rfl, rfl, rfl, trivial⟩, ⟨rfl, hE2, h⟩, (by simp)⟩
   ·
    have h := itF h c7
    refine k_exit rfl ?_
    exact k_stop ⟨s6, trivial, ⟨rfl, rfl, rfl, trivial⟩, ⟨rfl, hE1, h⟩⟩
 ·
  rintro s24 wL ⟨rfl, hE1, h⟩
  rw [hK1] at h
  have szs24 := hE1.size
  have hS := hS.trans0 hE1
  refine k_seq ?_
  refine k_seq ?_
  refine k_region ?_
  refine k_move rfl rfl ?_
  refine k_len_str Tryz.underlying9 rfl rfl ?_
  refine k_move rfl rfl ?_
  refine k_len_str Tryz.underlying9 rfl rfl ?_
  refine k_eql rfl rfl rfl ?_
  refine k_nil ?_
  refine k_keep [(0, _), (1, _), (4, _), (36, _)] ⟨rfl, rfl, rfl, rfl, trivial⟩ ?_
  refine k_cond_dec rfl (fun c25 => ?_) (fun c25 => ?_)
  ·
   have h := itT h c25
   refine k_seq ?_
   refine k_region ?_
   refine k_assign rfl rfl ?_
   refine k_nil ?_
   refine k_keep [(0, _), (1, _), (4, _)] ⟨rfl, rfl, rfl, trivial⟩ ?_
   refine k_ret ?_
   obtain rfl := Option.some.inj h
   refine ⟨_, rfl, Ret.mk hS ?_⟩
   exact rfl
  ·
   have h := itF h c25
   refine k_skip ?_
   refine k_seq ?_
   refine k_seq ?_
   refine k_region ?_
   refine k_move rfl rfl ?_
   refine k_len_str Tryz.underlying9 rfl rfl ?_
   refine k_move rfl rfl ?_
   refine k_len_str Tryz.underlying9 rfl rfl ?_
   refine k_lss rfl rfl rfl ?_
   refine k_nil ?_
   refine k_keep [(4, _), (41, _)] ⟨rfl, rfl, trivial⟩ ?_
   refine k_cond_dec rfl (fun c26 => ?_) (fun c26 => ?_)
   ·
    have h := itT h c26
    refine k_seq ?_
    refine k_region ?_
    refine k_assign rfl rfl ?_
    refine k_nil ?_
    refine k_keep [(4, _)] ⟨rfl, trivial⟩ ?_
    refine k_ret ?_
    obtain rfl := Option.some.inj h
    refine ⟨_, rfl, Ret.mk hS ?_⟩
    exact rfl
   ·
    have h := itF h c26
    refine k_skip ?_
    refine k_seq ?_
    refine k_region ?_
    refine k_assign rfl rfl ?_
    refine k_nil ?_
    refine k_keep [(4, _)] ⟨rfl, trivial⟩ ?_
    refine k_ret ?_
    obtain rfl := Option.some.inj h
    refine ⟨_, rfl, Ret.mk hS ?_⟩
    exact rfl

set_option maxHeartbeats 1000000 in
set_option maxRecDepth 100000 in
theorem ref01_Cmp_s_w {s : St} {cs0 : List Value} {a0 : ApiValue} {cs1 : List Value} {a1 : ApiValue} {a70 : (ApiValue → ApiValue → Option Int)} {r : Int} (hp0 : RC s cs0 (dApiValue a0)) (hp1 : RC s cs1 (dApiValue a1)) (ih70 : ∀ {s : St} {cs0 : List Value} {a0 : ApiValue} {cs1 : List Value} {a1 : ApiValue} {r : Int} (hp0 : RC s cs0 (dApiValue a0)) (hp1 : RC s cs1 (dApiValue a1)) (h : a70 a0 a1 = some r), Calls Tryz.prog 11 #[.agg cs0.toArray, .agg cs1.toArray] s.w (Ret s K0 (fun s1 v => v = .int .i64 r))) (h : ref01_Cmp_s a70 a0 a1 = some r) : Calls Tryz.prog 11 #[.agg cs0.toArray, .agg cs1.toArray] s.w (Ret s K0 (fun s1 v => v = .int .i64 r)) := by
 unfold ref01_Cmp_s at h
 obtain ⟨q0_0, q0_1, rfl, hq0_0, hq0_1⟩ := opnApiValue hp0
 obtain ⟨q1_0, q1_1, rfl, hq1_0, hq1_1⟩ := opnApiValue hp1
 have hS := Step.r0 K0 s
 refine k_fn (rs := [4]) (args := [.agg #[.int .i64 a0.Kind, .int .i64 a0.Num, S a0.Text, q0_0, q0_1], .agg #[.int .i64 a1.Kind, .int .i64 a1.Num, S a1.Text, q1_0, q1_1]]) Tryz.func11 rfl rfl rfl rfl ?_
 refine k_seq ?_
 refine k_region ?_
 refine k_box rfl rfl ?_
 intro s1 b1 st1 h1 ge1
 have szs1 := st1.size
 have hS := hS.trans0 st1
 replace hq0_0 := hq0_0.up2 st1
 replace hq0_1 := hq0_1.up2 st1
 replace hq1_0 := hq1_0.up2 st1
 replace hq1_1 := hq1_1.up2 st1
 have lt1 := h1.lt
 refine k_box rfl rfl ?_
 intro s2 b2 st2 h2 ge2
 have szs2 := st2.size
 have hS := hS.trans0 st2
 replace hq0_0 := hq0_0.up2 st2
 replace hq0_1 := hq0_1.up2 st2
 replace hq1_0 := hq1_0.up2 st2
 replace hq1_1 := hq1_1.up2 st2
 replace h1 := h1.up2 st2
 have lt2 := h2.lt
 refine k_assign rfl rfl ?_
 refine k_nil ?_
 refine k_keep [(2, _), (3, _), (4, _)] ⟨rfl, rfl, rfl, trivial⟩ ?_
 refine k_seq ?_
 refine k_seq ?_
 refine k_region ?_
 refine k_field_addr fld25_0 rfl rfl ?_
 refine k_load_blk one3 rfl h1 rfl rfl ?_
 refine k_field_addr fld25_0 rfl rfl ?_
 refine k_load_blk one3 rfl h2 rfl rfl ?_
 refine k_neq rfl rfl rfl ?_
 refine k_nil ?_
 refine k_keep [(2, _), (3, _), (4, _), (11, _)] ⟨rfl, rfl, rfl, rfl, trivial⟩ ?_
 refine k_cond_dec rfl (fun c3 => ?_) (fun c3 => ?_)
 ·
  have h := itT h c3
  refine k_seq ?_
  refine k_seq ?_
  refine k_region ?_
  refine k_field_addr fld25_0 rfl rfl ?_
  refine k_load_blk one3 rfl h1 rfl rfl ?_
  refine k_field_addr fld25_0 rfl rfl ?_
  refine k_load_blk one3 rfl h2 rfl rfl ?_
  refine k_lss rfl rfl rfl ?_
  refine k_nil ?_
  refine k_keep [(2, _), (3, _), (4, _), (16, _)] ⟨rfl, rfl, rfl, rfl, trivial⟩ ?_
  refine k_cond_dec rfl (fun c4 => ?_) (fun c4 => ?_)
  ·
   have h := itT h c4
   refine k_seq ?_
   refine k_region ?_
   refine k_assign rfl rfl ?_
   refine k_nil ?_
   refine k_keep [(2, _), (3, _), (4, _)] ⟨rfl, rfl, rfl, trivial⟩ ?_
   refine k_ret ?_
   obtain rfl := Option.some.inj h
   refine ⟨_, rfl, Ret.mk hS ?_⟩
   exact rfl
  ·
   have h := itF h c4
   refine k_skip ?_
   refine k_seq ?_
   refine k_region ?_
   refine k_assign rfl rfl ?_
   refine k_nil ?_
   refine k_keep [(2, _), (3, _), (4, _)] ⟨rfl, rfl, rfl, trivial⟩ ?_
   refine k_ret ?_
   obtain rfl := Option.some.inj h
   refine ⟨_, rfl, Ret.mk hS ?_⟩
   exact rfl
 ·
  have h := itF h c3
  refine k_skip ?_
  refine k_seq ?_
  refine k_seq ?_
  refine k_region ?_
  refine k_field_addr fld25_1 rfl rfl ?_
  refine k_load_blk one2 rfl h1 rfl rfl ?_
  refine k_field_addr fld25_1 rfl rfl ?_
  refine k_load_blk one2 rfl h2 rfl rfl ?_
  refine k_neq rfl rfl rfl ?_
  refine k_nil ?_
  refine k_keep [(2, _), (3, _), (4, _), (21, _)] ⟨rfl, rfl, rfl, rfl, trivial⟩ ?_
  refine k_cond_dec rfl (fun c5 => ?_) (fun c5 => ?_)
  ·
   have h := itT h c5
   refine k_seq ?_
   refine k_seq ?_
   refine k_region ?_
   refine k_field_addr fld25_1 rfl rfl ?_
   refine k_load_blk one2 rfl h1 rfl rfl ?_
   refine k_field_addr fld25_1 rfl rfl ?_
   refine k_load_blk one2 rfl h2 rfl rfl ?_
   refine k_lss rfl rfl rfl ?_
   refine k_nil ?_
   refine k_keep [(2, _), (3, _), (4, _), (26, _)] ⟨rfl, rfl, rfl, rfl, trivial⟩ ?_
   refine k_cond_dec rfl (fun c6 => ?_) (fun c6 => ?_)
   ·
    have h := itT h c6
    refine k_seq ?_
    refine k_region ?_
    refine k_assign rfl rfl ?_
    refine k_nil ?_
    refine k_keep [(2, _), (3, _), (4, _)] ⟨rfl, rfl, rfl, trivial⟩ ?_
    refine k_ret ?_
    obtain rfl := Option.some.inj h
    refine ⟨_, rfl, Ret.mk hS ?_⟩
    exact rfl
   ·
    have h := itF h c6
    refine k_skip ?_
    refine k_seq ?_
    refine k_region ?_
    refine k_assign rfl rfl ?_
    refine k_nil ?_
    refine k_keep [(2, _), (3, _), (4, _)] ⟨rfl, rfl, rfl, trivial⟩ ?_
    refine k_ret ?_
    obtain rfl := Option.some.inj h
    refine ⟨_, rfl, Ret.mk hS ?_⟩
    exact rfl
  ·
   have h := itF h c5
   refine k_skip ?_
   refine k_seq ?_
   refine k_seq ?_
   refine k_region ?_
   refine k_field_addr fld25_0 rfl rfl ?_
   refine k_load_blk one3 rfl h1 rfl rfl ?_
   refine k_eql rfl rfl rfl ?_
   refine k_nil ?_
   refine k_keep [(2, _), (3, _), (4, _), (29, _)] ⟨rfl, rfl, rfl, rfl, trivial⟩ ?_
   refine k_cond_dec rfl (fun c7 => ?_) (fun c7 => ?_)
   ·
    have h := itT h c7
    refine k_seq ?_
    refine k_region ?_
    refine k_field_addr fld25_2 rfl rfl ?_
    refine k_load_blk one9 rfl h1 rfl rfl ?_
    refine k_field_addr fld25_2 rfl rfl ?_
    refine k_load_blk one9 rfl h2 rfl rfl ?_
    obtain ⟨x1, hx1, h⟩ := ob h
    refine k_call cal34 rfl (ref01_Texts_w   hx1) rfl ?_
    rintro s8 vr8 st8 rfl
    have szs8 := st8.size
    have hS := hS.trans0 st8
    refine k_assign rfl rfl ?_
    refine k_nil ?_
    refine k_keep [(2, _), (3, _), (4, _)] ⟨rfl, rfl, rfl, trivial⟩ ?_
    refine k_ret ?_
    obtain rfl := Option.some.inj h
    refine ⟨_, rfl, Ret.mk hS ?_⟩
    exact rfl
   ·
    have h := itF h c7
    refine k_skip ?_
    refine k_seq ?_
    refine k_keep [(2, _), (3, _), (4, _)] ⟨rfl, rfl, rfl, trivial⟩ ?_
    obtain ⟨kj2, hK9, h⟩ := jn_out h
    have hE9 := Step.r0 K0 s2
    refine k_cutc (X := St) [(2, .pointer (some ⟨b1, 0, none⟩)), (3, .pointer (some ⟨b2, 0, none⟩)), (4, .int .i64 0)] (fun (xL : St) => match xL with | sl => []) (fun (xL : St) (wL : World) => match xL with | sl => sl.w = wL ∧ Step K0 s2 sl ∧ kj2 () = some r) ?_ ?_
    ·
     refine k_seq ?_
     refine k_region ?_
     refine k_assign rfl rfl ?_
     refine k_nil ?_
     refine k_block ?_
     refine k_loopc (X := St × Int × Nat) [(2, _), (3, _), (4, _)] (fun (xL : St × Int × Nat) => match xL with | (sl, x3, j) => [(5, .int .i64 x3)]) (fun (xL : St × Int × Nat) (wL : World) => match xL with | (sl, x3, j) => sl.w = wL ∧ Step K0 s2 sl ∧ ref01_Cmp_s_l1 a0 a1 a70 kj2 j x3 = some r) (fun (xL : St × Int × Nat) => match xL with | (sl, x3, j) => j) (s2, 0, FU) ⟨rfl, rfl, rfl, trivial⟩ ⟨(by first | rfl | (simp <;> rfl)), trivial⟩ ⟨rfl, (Step.refl _).of0 (by first | exact fun _ h => h | (intro c h; simp [KC, KO, KU, KN, KB] at h <;> omega)), h⟩ ?_
     rintro ⟨s11, x3, j⟩ wL ⟨rfl, hE10, h⟩
     cases j with
     | zero => rw [ref01_Cmp_s_l1] at h; exact (noneNe h).elim
     | succ j =>
     rw [ref01_Cmp_s_l1] at h
     have szs11 := hE10.size
     have hS := hS.trans0 hE10
     have hE9 := hE9.trans0 hE10
     replace hq0_0 := hq0_0.up2 hE10
     replace hq0_1 := hq0_1.up2 hE10
     replace h1 := h1.up2 hE10
     replace hq1_0 := hq1_0.up2 hE10
     replace hq1_1 := hq1_1.up2 hE10
     replace h2 := h2.up2 hE10
     refine k_seq ?_
     refine k_seq ?_
     refine k_region ?_
     refine k_move rfl rfl ?_
     refine k_field_addr fld25_3 rfl rfl ?_
     refine k_load_blk one22 rfl h1 rfl rfl ?_
     refine k_len Tryz.underlying22 rfl (SL.of_R hq0_0).hasLen rfl ?_
     refine k_as (v := .int .i64 (a0.List_.length : Int)) (by simp only [List.length_map]) ?_
     refine k_lss rfl rfl rfl ?_
     refine k_move rfl rfl ?_
     have hE12 := Step.r0 K0 s11
     refine k_cutl (X := St) 6 [(2, .pointer (some ⟨b1, 0, none⟩)), (3, .pointer (some ⟨b2, 0, none⟩)), (4, .int .i64 0), (5, .int .i64 x3), (35, .int .i64 x3), (36, .pointer (some ⟨b1, 3, none⟩)), (37, q0_0), (38, .int .i64 (a0.List_.length : Int)), (39, .bool (decide (x3 < (a0.List_.length : Int))))] (fun _ => [(46, .bool (decide ((x3 < (a0.List_.length : Int)) ∧ (x3 < (a1.List_.length : Int)))))]) (fun sl wL => sl.w = wL ∧ Step K0 s11 sl) ?_ ?_
     ·
      refine k_again 40 rfl ?_
      refine k_split (fun c13 => ?_) (fun c13 => ?_)
      ·
       refine k_yes rfl rfl ?_
       refine k_move rfl rfl ?_
       refine k_yes rfl rfl ?_
       refine k_field_addr fld25_3 rfl rfl ?_
       refine k_yes rfl rfl ?_
       refine k_load_blk one22 rfl h2 rfl rfl ?_
       refine k_yes rfl rfl ?_
       refine k_len Tryz.underlying22 rfl (SL.of_R hq1_0).hasLen rfl ?_
       refine k_as (v := .int .i64 (a1.List_.length : Int)) (by simp only [List.length_map]) ?_
       refine k_yes rfl rfl ?_
       refine k_lss rfl rfl rfl ?_
       refine k_pickT rfl rfl rfl rfl ?_
       exact k_met ⟨s11, ⟨(congrArg (fun b => some (Value.bool b)) (by first | exact decide_eq_decide.2 ⟨fun h => ⟨c13, h⟩, fun h => h.2⟩ | exact (decide_eq_false (fun h => c13 h.1)).symm | (simp [c13]; done) | (simp [c13, i64] <;> omega))), trivial⟩, ⟨rfl, rfl, rfl, rfl, rfl, rfl, rfl, rfl, rfl, trivial⟩, rfl, hE12⟩
      ·
       refine k_no rfl rfl rfl rfl ?_
       refine k_no rfl rfl rfl rfl ?_
       refine k_no rfl rfl rfl rfl ?_
       refine k_no rfl rfl rfl rfl ?_
       refine k_no rfl rfl rfl rfl ?_
       refine k_pickF rfl rfl rfl rfl ?_
       exact k_met ⟨s11, ⟨(congrArg (fun b => some (Value.bool b)) (by first | exact decide_eq_decide.2 ⟨fun h => ⟨c13, h⟩, fun h => h.2⟩ | exact (decide_eq_false (fun h => c13 h.1)).symm | (simp [c13]; done) | (simp [c13, i64] <;> omega))), trivial⟩, ⟨rfl, rfl, rfl, rfl, rfl, rfl, rfl, rfl, rfl, trivial⟩, rfl, hE12⟩
     ·
      rintro s14 wL ⟨rfl, hE12⟩
      have szs14 := hE12.size
      have hS := hS.trans0 hE12
      have hE9 := hE9.trans0 hE12
      have hE10 := hE10.trans0 hE12
      replace hq0_0 := hq0_0.up2 hE12
      replace hq0_1 := hq0_1.up2 hE12
      replace h1 := h1.up2 hE12
      replace hq1_0 := hq1_0.up2 hE12
      replace hq1_1 := hq1_1.up2 hE12
      replace h2 := h2.up2 hE12
      refine k_nil ?_
      refine k_keep [(2, _), (3, _), (4, _), (5, _), (46, _)] ⟨rfl, rfl, rfl, rfl, rfl, trivial⟩ ?_
      refine k_cond_dec rfl (fun c15 => ?_) (fun c15 => ?_)
      ·
       have h := itT h c15
       refine k_skip ?_
       refine k_seq ?_
       refine k_block ?_
       refine k_seq ?_
       refine k_seq ?_
       refine k_keep [(2, _), (3, _), (4, _), (5, _)] ⟨rfl, rfl, rfl, rfl, trivial⟩ ?_
       refine k_drawT (KN s14.n) 14 (.read 0 (.read 1 (.read 2 (.read 3 (.read 4 (.read 5 (.read 6 (.read 7 (.read 8 (.read 9 (.read 10 (.read 11 (.read 12 (.read 13 .fin)))))))))))))) mixed (by intro c h; (try simp only [KC, KO, KU, KN, KB] at h) <;> omega) rfl rfl rfl ?_
       intro s16 st16
       have szs16 := st16.size
       have hS := hS.trans0 st16
       have hE9 := hE9.trans0 st16
       have hE10 := hE10.trans0 st16
       replace hq0_0 := hq0_0.up2 st16
       replace hq0_1 := hq0_1.up2 st16
       replace h1 := h1.up2 st16
       replace hq1_0 := hq1_0.up2 st16
       replace hq1_1 := hq1_1.up2 st16
       replace h2 := h2.up2 st16
       refine rt_read (.pointer (some ⟨b1, 0, none⟩)) rfl rfl (fun s17 st17 => ?_) ?_
       ·refine k_field_addr fld25_0 rfl rfl ?_
        exact fq_end
       refine rt_read (.int .i64 a0.Kind) rfl rfl (fun s18 st18 => ?_) ?_
       ·try replace h1 := h1.up2 st18
        refine k_load_blk one3 rfl h1 rfl rfl ?_
        exact fq_end
       refine rt_read (.bool (decide (a0.Kind = 6))) rfl rfl (fun s19 st19 => ?_) ?_
       ·refine k_eql rfl rfl rfl ?_
        exact fq_end
       refine rt_read (.bool (decide (a0.Kind = 6))) rfl rfl (fun s20 st20 => ?_) ?_
       ·refine k_move rfl rfl ?_
        exact fq_end
       refine rt_split (fun c21 => ?_) (fun c21 => ?_)
       ·
        have h := itT h c21
        refine rt_read (.pointer (some ⟨b1, 4, none⟩)) rfl rfl (fun s22 st22 => ?_) ?_
        ·refine k_yes rfl rfl ?_
         refine k_field_addr fld25_4 rfl rfl ?_
         exact fq_end
        refine rt_read (q0_1) rfl rfl (fun s23 st23 => ?_) ?_
        ·try replace h1 := h1.up2 st23
         refine k_yes rfl rfl ?_
         refine k_load_blk one23 rfl h1 rfl rfl ?_
         exact fq_end
        refine rt_read (.int .i64 x3) rfl rfl (fun s24 st24 => ?_) ?_
        ·refine k_yes rfl rfl ?_
         refine k_move rfl rfl ?_
         exact fq_end
        obtain ⟨x4, hx4, h⟩ := ob h
        refine rt_ix rfl (wanted_yes rfl rfl rfl) Tryz.underlying23 size9 rfl rfl (SL.of_R hq0_1) (geti_out hx4).1 (geti_map hx4) rfl ?_
        intro q25 hq25
        refine rt_read (S x4) rfl rfl (fun s26 st26 => ?_) ?_
        ·try replace hq25 := hq25.up2 st26
         refine k_yes rfl rfl ?_
         refine k_load_val one9 rfl hq25 rfl ?_
         exact fq_end
        refine rt_read (.pointer (some ⟨b2, 4, none⟩)) rfl rfl (fun s27 st27 => ?_) ?_
        ·refine k_yes rfl rfl ?_
         refine k_field_addr fld25_4 rfl rfl ?_
         exact fq_end
        refine rt_read (q1_1) rfl rfl (fun s28 st28 => ?_) ?_
        ·try replace h2 := h2.up2 st28
         refine k_yes rfl rfl ?_
         refine k_load_blk one23 rfl h2 rfl rfl ?_
         exact fq_end
        refine rt_read (.int .i64 x3) rfl rfl (fun s29 st29 => ?_) ?_
        ·refine k_yes rfl rfl ?_
         refine k_move rfl rfl ?_
         exact fq_end
        obtain ⟨x5, hx5, h⟩ := ob h
        refine rt_ix rfl (wanted_yes rfl rfl rfl) Tryz.underlying23 size9 rfl rfl (SL.of_R hq1_1) (geti_out hx5).1 (geti_map hx5) rfl ?_
        intro q30 hq30
        refine rt_read (S x5) rfl rfl (fun s31 st31 => ?_) ?_
        ·try replace hq30 := hq30.up2 st31
         refine k_yes rfl rfl ?_
         refine k_load_val one9 rfl hq30 rfl ?_
         exact fq_end
        refine rt_fin ?_
        refine k_yes rfl rfl ?_
        refine k_neq_str rfl rfl rfl ?_
        refine k_pickT rfl rfl rfl rfl ?_
        refine k_nil ?_
        refine k_keep [(2, _), (3, _), (4, _), (5, _), (64, _)] ⟨rfl, rfl, rfl, rfl, rfl, trivial⟩ ?_
        refine k_cond_dec rfl (fun c32 => ?_) (fun c32 => ?_)
        ·
         have h := itT h c32
         refine k_seq ?_
         refine k_keep [(2, _), (3, _), (4, _), (5, _)] ⟨rfl, rfl, rfl, rfl, trivial⟩ ?_
         refine k_drawT (KN s16.n) 10 (.read 0 (.read 1 (.read 2 (.read 3 (.read 4 (.read 5 (.read 6 (.read 7 (.read 8 (.read 9 .fin)))))))))) mixed (by intro c h; (try simp only [KC, KO, KU, KN, KB] at h) <;> omega) rfl rfl rfl ?_
         intro s33 st33
         have szs33 := st33.size
         have hS := hS.trans0 st33
         have hE9 := hE9.trans0 st33
         have hE10 := hE10.trans0 st33
         replace hq0_1 := hq0_1.up2 st33
         replace h1 := h1.up2 st33
         replace hq1_1 := hq1_1.up2 st33
         replace h2 := h2.up2 st33
         refine rt_read (.pointer (some ⟨b1, 4, none⟩)) rfl rfl (fun s34 st34 => ?_) ?_
         ·refine k_field_addr fld25_4 rfl rfl ?_
          exact fq_end
         refine rt_read (q0_1) rfl rfl (fun s35 st35 => ?_) ?_
         ·try replace h1 := h1.up2 st35
          refine k_load_blk one23 rfl h1 rfl rfl ?_
          exact fq_end
         refine rt_read (.int .i64 x3) rfl rfl (fun s36 st36 => ?_) ?_
         ·refine k_move rfl rfl ?_
          exact fq_end
         obtain ⟨x6, hx6, h⟩ := ob h
         refine rt_ix rfl (wanted_none rfl) Tryz.underlying23 size9 rfl rfl (SL.of_R hq0_1) (geti_out hx6).1 (geti_map hx6) rfl ?_
         intro q37 hq37
         refine rt_read (S x6) rfl rfl (fun s38 st38 => ?_) ?_
         ·try replace hq37 := hq37.up2 st38
          refine k_load_val one9 rfl hq37 rfl ?_
          exact fq_end
         refine rt_read (.pointer (some ⟨b2, 4, none⟩)) rfl rfl (fun s39 st39 => ?_) ?_
         ·refine k_field_addr fld25_4 rfl rfl ?_
          exact fq_end
         refine rt_read (q1_1) rfl rfl (fun s40 st40 => ?_) ?_
         ·try replace h2 := h2.up2 st40
          refine k_load_blk one23 rfl h2 rfl rfl ?_
          exact fq_end
         refine rt_read (.int .i64 x3) rfl rfl (fun s41 st41 => ?_) ?_
         ·refine k_move rfl rfl ?_
          exact fq_end
         obtain ⟨x7, hx7, h⟩ := ob h
         refine rt_ix rfl (wanted_none rfl) Tryz.underlying23 size9 rfl rfl (SL.of_R hq1_1) (geti_out hx7).1 (geti_map hx7) rfl ?_
         intro q42 hq42
         refine rt_read (S x7) rfl rfl (fun s43 st43 => ?_) ?_
         ·try replace hq42 := hq42.up2 st43
          refine k_load_val one9 rfl hq42 rfl ?_
          exact fq_end
         refine rt_fin ?_
         obtain ⟨x8, hx8, h⟩ := ob h
         refine k_call cal34 rfl (ref01_Texts_w   hx8) rfl ?_
         rintro s44 vr44 st44 rfl
         have szs44 := st44.size
         have hS := hS.trans0 st44
         have hE9 := hE9.trans0 st44
         have hE10 := hE10.trans0 st44
         refine k_assign rfl rfl ?_
         refine k_nil ?_
         refine k_keep [(2, _), (3, _), (4, _), (5, _)] ⟨rfl, rfl, rfl, rfl, trivial⟩ ?_
         refine k_ret ?_
         obtain rfl := Option.some.inj h
         refine ⟨_, rfl, Ret.mk hS ?_⟩
         exact rfl
        ·
         have h := itF h c32
         refine k_skip ?_
         refine k_seq ?_
         refine k_keep [(2, _), (3, _), (4, _), (5, _)] ⟨rfl, rfl, rfl, rfl, trivial⟩ ?_
         refine k_drawT (KN s16.n) 10 (.read 0 (.read 1 (.read 2 (.read 3 (.read 4 (.read 5 (.read 6 (.read 7 (.read 8 (.read 9 .fin)))))))))) mixed (by intro c h; (try simp only [KC, KO, KU, KN, KB] at h) <;> omega) rfl rfl rfl ?_
         intro s45 st45
         have szs45 := st45.size
         have hS := hS.trans0 st45
         have hE9 := hE9.trans0 st45
         have hE10 := hE10.trans0 st45
         replace hq0_0 := hq0_0.up2 st45
         replace h1 := h1.up2 st45
         replace hq1_0 := hq1_0.up2 st45
         replace h2 := h2.up2 st45
         refine rt_read (.pointer (some ⟨b1, 3, none⟩)) rfl rfl (fun s46 st46 => ?_) ?_
         ·refine k_field_addr fld25_3 rfl rfl ?_
          exact fq_end
         refine rt_read (q0_0) rfl rfl (fun s47 st47 => ?_) ?_
         ·try replace h1 := h1.up2 st47
          refine k_load_blk one22 rfl h1 rfl rfl ?_
          exact fq_end
         refine rt_read (.int .i64 x3) rfl rfl (fun s48 st48 => ?_) ?_
         ·refine k_move rfl rfl ?_
          exact fq_end
         obtain ⟨x9, hx9, h⟩ := ob h
         refine rt_ix rfl (wanted_none rfl) Tryz.underlying22 size25 rfl rfl (SL.of_R hq0_0) (geti_out hx9).1 (geti_map hx9) rfl ?_
         intro q49 hq49
         refine rt_ldagg rfl (wanted_none rfl) (by exact agg25) rfl hq49 (by first | exact id | (simp only [KC, KO, KU, KN, KB] <;> omega)) rfl ?_
         intro cs50 h50
         obtain ⟨q50_0, q50_1, rfl, hq50_0, hq50_1⟩ := opnApiValue h50
         refine rt_read (.pointer (some ⟨b2, 3, none⟩)) rfl rfl (fun s51 st51 => ?_) ?_
         ·refine k_field_addr fld25_3 rfl rfl ?_
          exact fq_end
         refine rt_read (q1_0) rfl rfl (fun s52 st52 => ?_) ?_
         ·try replace h2 := h2.up2 st52
          refine k_load_blk one22 rfl h2 rfl rfl ?_
          exact fq_end
         refine rt_read (.int .i64 x3) rfl rfl (fun s53 st53 => ?_) ?_
         ·refine k_move rfl rfl ?_
          exact fq_end
         obtain ⟨x10, hx10, h⟩ := ob h
         refine rt_ix rfl (wanted_none rfl) Tryz.underlying22 size25 rfl rfl (SL.of_R hq1_0) (geti_out hx10).1 (geti_map hx10) rfl ?_
         intro q54 hq54
         refine rt_ldagg rfl (wanted_none rfl) (by exact agg25) rfl hq54 (by first | exact id | (simp only [KC, KO, KU, KN, KB] <;> omega)) rfl ?_
         intro cs55 h55
         obtain ⟨q55_0, q55_1, rfl, hq55_0, hq55_1⟩ := opnApiValue h55
         refine rt_fin ?_
         obtain ⟨x11, hx11, h⟩ := ob h
         refine k_call cal11 rfl (ih70  (clsApiValue x9 hq50_0 hq50_1) (clsApiValue x10 hq55_0 hq55_1) hx11) rfl ?_
         rintro s56 vr56 st56 rfl
         have szs56 := st56.size
         have hS := hS.trans0 st56
         have hE9 := hE9.trans0 st56
         have hE10 := hE10.trans0 st56
         refine k_assign rfl rfl ?_
         refine k_nil ?_
         refine k_keep [(2, _), (3, _), (4, _), (5, _), (6, _)] ⟨rfl, rfl, rfl, rfl, rfl, trivial⟩ ?_
         refine k_seq ?_
         refine k_region ?_
         refine k_move rfl rfl ?_
         refine k_neq rfl rfl rfl ?_
         refine k_nil ?_
         refine k_keep [(2, _), (3, _), (4, _), (5, _), (6, _), (88, _)] ⟨rfl, rfl, rfl, rfl, rfl, rfl, trivial⟩ ?_
         refine k_cond_dec rfl (fun c57 => ?_) (fun c57 => ?_)
         ·
          have h := itT h c57
          refine k_seq ?_
          refine k_region ?_
          refine k_move rfl rfl ?_
          refine k_assign rfl rfl ?_
          refine k_nil ?_
          refine k_keep [(2, _), (3, _), (4, _), (5, _)] ⟨rfl, rfl, rfl, rfl, trivial⟩ ?_
          refine k_ret ?_
          obtain rfl := Option.some.inj h
          refine ⟨_, rfl, Ret.mk hS ?_⟩
          exact rfl
         ·
          have h := itF h c57
          refine k_skip ?_
          refine k_blk ?_
          refine k_region ?_
          refine k_move rfl rfl ?_
          refine k_add rfl rfl rfl ?_
          refine k_assign rfl rfl ?_
          refine k_nil ?_
          exact k_stop ⟨(s56, i64 (x3 + 1), j), ⟨(by first | rfl | (simp <;> rfl)), trivial⟩, ⟨rfl, rfl, rfl, trivial⟩, ⟨rfl, hE10, h⟩, (by simp)⟩
       ·
        have h := itF h c21
        refine rt_read undef rfl rfl (fun s58 st58 => ?_) ?_
        ·refine k_no rfl rfl rfl rfl ?_
         exact fq_end
        refine rt_read undef rfl rfl (fun s59 st59 => ?_) ?_
        ·refine k_no rfl rfl rfl rfl ?_
         exact fq_end
        refine rt_read undef rfl rfl (fun s60 st60 => ?_) ?_
        ·refine k_no rfl rfl rfl rfl ?_
         exact fq_end
        refine rt_read undef rfl rfl (fun s61 st61 => ?_) ?_
        ·refine k_no rfl rfl rfl rfl ?_
         exact fq_end
        refine rt_read undef rfl rfl (fun s62 st62 => ?_) ?_
        ·refine k_no rfl rfl rfl rfl ?_
         exact fq_end
        refine rt_read undef rfl rfl (fun s63 st63 => ?_) ?_
        ·refine k_no rfl rfl rfl rfl ?_
         exact fq_end
        refine rt_read undef rfl rfl (fun s64 st64 => ?_) ?_
        ·refine k_no rfl rfl rfl rfl ?_
         exact fq_end
        refine rt_read undef rfl rfl (fun s65 st65 => ?_) ?_
        ·refine k_no rfl rfl rfl rfl ?_
         exact fq_end
        refine rt_read undef rfl rfl (fun s66 st66 => ?_) ?_
        ·refine k_no rfl rfl rfl rfl ?_
         exact fq_end
        refine rt_read undef rfl rfl (fun s67 st67 => ?_) ?_
        ·refine k_no rfl rfl rfl rfl ?_
         exact fq_end
        refine rt_fin ?_
        refine k_no rfl rfl rfl rfl ?_
        refine k_pickF rfl rfl rfl rfl ?_
        refine k_nil ?_
        refine k_keep [(2, _), (3, _), (4, _), (5, _), (64, _)] ⟨rfl, rfl, rfl, rfl, rfl, trivial⟩ ?_
        refine k_cond_false rfl ?_
        refine k_skip ?_
        refine k_seq ?_
        refine k_keep [(2, _), (3, _), (4, _), (5, _)] ⟨rfl, rfl, rfl, rfl, trivial⟩ ?_
        refine k_drawT (KN s16.n) 10 (.read 0 (.read 1 (.read 2 (.read 3 (.read 4 (.read 5 (.read 6 (.read 7 (.read 8 (.read 9 .fin)))))))))) mixed (by intro c h; (try simp only [KC, KO, KU, KN, KB] at h) <;> omega) rfl rfl rfl ?_
        intro s68 st68
        have szs68 := st68.size
        have hS := hS.trans0 st68
        have hE9 := hE9.trans0 st68
        have hE10 := hE10.trans0 st68
        replace hq0_0 := hq0_0.up2 st68
        replace h1 := h1.up2 st68
        replace hq1_0 := hq1_0.up2 st68
        replace h2 := h2.up2 st68
        refine rt_read (.pointer (some ⟨b1, 3, none⟩)) rfl rfl (fun s69 st69 => ?_) ?_
        ·refine k_field_addr fld25_3 rfl rfl ?_
         exact fq_end
        refine rt_read (q0_0) rfl rfl (fun s70 st70 => ?_) ?_
        ·try replace h1 := h1.up2 st70
         refine k_load_blk one22 rfl h1 rfl rfl ?_
         exact fq_end
        refine rt_read (.int .i64 x3) rfl rfl (fun s71 st71 => ?_) ?_
        ·refine k_move rfl rfl ?_
         exact fq_end
        obtain ⟨x12, hx12, h⟩ := ob h
        refine rt_ix rfl (wanted_none rfl) Tryz.underlying22 size25 rfl rfl (SL.of_R hq0_0) (geti_out hx12).1 (geti_map hx12) rfl ?_
        intro q72 hq72
        refine rt_ldagg rfl (wanted_none rfl) (by exact agg25) rfl hq72 (by first | exact id | (simp only [KC, KO, KU, KN, KB] <;> omega)) rfl ?_
        intro cs73 h73
        obtain ⟨q73_0, q73_1, rfl, hq73_0, hq73_1⟩ := opnApiValue h73
        refine rt_read (.pointer (some ⟨b2, 3, none⟩)) rfl rfl (fun s74 st74 => ?_) ?_
        ·refine k_field_addr fld25_3 rfl rfl ?_
         exact fq_end
        refine rt_read (q1_0) rfl rfl (fun s75 st75 => ?_) ?_
        ·try replace h2 := h2.up2 st75
         refine k_load_blk one22 rfl h2 rfl rfl ?_
         exact fq_end
        refine rt_read (.int .i64 x3) rfl rfl (fun s76 st76 => ?_) ?_
        ·refine k_move rfl rfl ?_
         exact fq_end
        obtain ⟨x13, hx13, h⟩ := ob h
        refine rt_ix rfl (wanted_none rfl) Tryz.underlying22 size25 rfl rfl (SL.of_R hq1_0) (geti_out hx13).1 (geti_map hx13) rfl ?_
        intro q77 hq77
        refine rt_ldagg rfl (wanted_none rfl) (by exact agg25) rfl hq77 (by first | exact id | (simp only [KC, KO, KU, KN, KB] <;> omega)) rfl ?_
        intro cs78 h78
        obtain ⟨q78_0, q78_1, rfl, hq78_0, hq78_1⟩ := opnApiValue h78
        refine rt_fin ?_
        obtain ⟨x14, hx14, h⟩ := ob h
        refine k_call cal11 rfl (ih70  (clsApiValue x12 hq73_0 hq73_1) (clsApiValue x13 hq78_0 hq78_1) hx14) rfl ?_
        rintro s79 vr79 st79 rfl
        have szs79 := st79.size
        have hS := hS.trans0 st79
        have hE9 := hE9.trans0 st79
        have hE10 := hE10.trans0 st79
        refine k_assign rfl rfl ?_
        refine k_nil ?_
        refine k_keep [(2, _), (3, _), (4, _), (5, _), (6, _)] ⟨rfl, rfl, rfl, rfl, rfl, trivial⟩ ?_
        refine k_seq ?_
        refine k_region ?_
        refine k_move rfl rfl ?_
        refine k_neq rfl rfl rfl ?_
        refine k_nil ?_
        refine k_keep [(2, _), (3, _), (4, _), (5, _), (6, _), (88, _)] ⟨rfl, rfl, rfl, rfl, rfl, rfl, trivial⟩ ?_
        refine k_cond_dec rfl (fun c80 => ?_) (fun c80 => ?_)
        ·
         have h := itT h c80
         refine k_seq ?_
         refine k_region ?_
         refine k_move rfl rfl ?_
         refine k_assign rfl rfl ?_
         refine k_nil ?_
         refine k_keep [(2, _), (3, _), (4, _), (5, _)] ⟨rfl, rfl, rfl, rfl, trivial⟩ ?_
         refine k_ret ?_
         obtain rfl := Option.some.inj h
         refine ⟨_, rfl, Ret.mk hS ?_⟩
         exact rfl
        ·
         have h := itF h c80
         refine k_skip ?_
         refine k_blk ?_
         refine k_region ?_
         refine k_move rfl rfl ?_
         refine k_add rfl rfl rfl ?_
         refine k_assign rfl rfl ?_
         refine k_nil ?_
         exact k_stop ⟨(s79, i64 (x3 + 1), j), ⟨(by first | rfl | (simp <;> rfl)), trivial⟩, ⟨rfl, rfl, rfl, trivial⟩, ⟨rfl, hE10, h⟩, (by simp)⟩
      ·
       have h := itF h c15
       refine k_exit rfl ?_
       exact k_stop ⟨s14, trivial, ⟨rfl, rfl, rfl, trivial⟩, ⟨rfl, hE9, h⟩⟩
    ·
     rintro s81 wL ⟨rfl, hE9, h⟩
     rw [hK9] at h
     have szs81 := hE9.size
     have hS := hS.trans0 hE9
     replace hq0_0 := hq0_0.up2 hE9
     replace h1 := h1.up2 hE9
     replace hq1_0 := hq1_0.up2 hE9
     replace h2 := h2.up2 hE9
     refine k_seq ?_
     refine k_seq ?_
     refine k_region ?_
     refine k_field_addr fld25_3 rfl rfl ?_
     refine k_load_blk one22 rfl h1 rfl rfl ?_
     refine k_len Tryz.underlying22 rfl (SL.of_R hq0_0).hasLen rfl ?_
     refine k_as (v := .int .i64 (a0.List_.length : Int)) (by simp only [List.length_map]) ?_
     refine k_field_addr fld25_3 rfl rfl ?_
     refine k_load_blk one22 rfl h2 rfl rfl ?_
     refine k_len Tryz.underlying22 rfl (SL.of_R hq1_0).hasLen rfl ?_
     refine k_as (v := .int .i64 (a1.List_.length : Int)) (by simp only [List.length_map]) ?_
     refine k_eql rfl rfl rfl ?_
     refine k_nil ?_
     refine k_keep [(2, _), (3, _), (4, _), (96, _)] ⟨rfl, rfl, rfl, rfl, trivial⟩ ?_
     refine k_cond_dec rfl (fun c82 => ?_) (fun c82 => ?_)
     ·
      have h := itT h c82
      refine k_seq ?_
      refine k_region ?_
      refine k_assign rfl rfl ?_
      refine k_nil ?_
      refine k_keep [(2, _), (3, _), (4, _)] ⟨rfl, rfl, rfl, trivial⟩ ?_
      refine k_ret ?_
      obtain rfl := Option.some.inj h
      refine ⟨_, rfl, Ret.mk hS ?_⟩
      exact rfl
     ·
      have h := itF h c82
      refine k_skip ?_
      refine k_seq ?_
      refine k_seq ?_
      refine k_region ?_
      refine k_field_addr fld25_3 rfl rfl ?_
      refine k_load_blk one22 rfl h1 rfl rfl ?_
      refine k_len Tryz.underlying22 rfl (SL.of_R hq0_0).hasLen rfl ?_
      refine k_as (v := .int .i64 (a0.List_.length : Int)) (by simp only [List.length_map]) ?_
      refine k_field_addr fld25_3 rfl rfl ?_
      refine k_load_blk one22 rfl h2 rfl rfl ?_
      refine k_len Tryz.underlying22 rfl (SL.of_R hq1_0).hasLen rfl ?_
      refine k_as (v := .int .i64 (a1.List_.length : Int)) (by simp only [List.length_map]) ?_
      refine k_lss rfl rfl rfl ?_
      refine k_nil ?_
      refine k_keep [(4, _), (103, _)] ⟨rfl, rfl, trivial⟩ ?_
      refine k_cond_dec rfl (fun c83 => ?_) (fun c83 => ?_)
      ·
       have h := itT h c83
       refine k_seq ?_
       refine k_region ?_
       refine k_assign rfl rfl ?_
       refine k_nil ?_
       refine k_keep [(4, _)] ⟨rfl, trivial⟩ ?_
       refine k_ret ?_
       obtain rfl := Option.some.inj h
       refine ⟨_, rfl, Ret.mk hS ?_⟩
       exact rfl
      ·
       have h := itF h c83
       refine k_skip ?_
       refine k_seq ?_
       refine k_region ?_
       refine k_assign rfl rfl ?_
       refine k_nil ?_
       refine k_keep [(4, _)] ⟨rfl, trivial⟩ ?_
       refine k_ret ?_
       obtain rfl := Option.some.inj h
       refine ⟨_, rfl, Ret.mk hS ?_⟩
       exact rfl
theorem ref01_Cmp_rw (j : Nat) : ∀ {s : St} {cs0 : List Value} {a0 : ApiValue} {cs1 : List Value} {a1 : ApiValue} {r : Int} (hp0 : RC s cs0 (dApiValue a0)) (hp1 : RC s cs1 (dApiValue a1)) (h : ref01_Cmp_r j a0 a1 = some r), Calls Tryz.prog 11 #[.agg cs0.toArray, .agg cs1.toArray] s.w (Ret s K0 (fun s1 v => v = .int .i64 r)) := by
 induction j with
 | zero => intro s cs0 a0 cs1 a1 r hp0 hp1 h; rw [ref01_Cmp_r] at h; exact (noneNe h).elim
 | succ j ih => intro s cs0 a0 cs1 a1 r hp0 hp1 h; rw [ref01_Cmp_r] at h; exact ref01_Cmp_s_w hp0 hp1 ih h
theorem ref01_Cmp_w {s : St} {cs0 : List Value} {a0 : ApiValue} {cs1 : List Value} {a1 : ApiValue} {r : Int} (hp0 : RC s cs0 (dApiValue a0)) (hp1 : RC s cs1 (dApiValue a1)) (h : ref01_Cmp a0 a1 = some r) : Calls Tryz.prog 11 #[.agg cs0.toArray, .agg cs1.toArray] s.w (Ret s K0 (fun s1 v => v = .int .i64 r)) := ref01_Cmp_rw (FU + (dpApiValue a0 + dpApiValue a1)) hp0 hp1 h

set_option maxHeartbeats 1000000 in
set_option maxRecDepth 100000 in
theorem law01_ValueCmp_w {s : St} {cs0 : List Value} {a0 : ApiValue} {cs1 : List Value} {a1 : ApiValue} {r : Bool} (hp0 : RC s cs0 (dApiValue a0)) (hp1 : RC s cs1 (dApiValue a1)) (tb0 : Tab0 s) (tb1 : Tab1 s) (tb2 : Tab2 s) (h : law01_ValueCmp a0 a1 = some r) : Calls Tryz.prog 3 #[.agg cs0.toArray, .agg cs1.toArray] s.w (Ret s K0 (fun s1 v => v = .bool r)) := by
 unfold law01_ValueCmp at h
 obtain ⟨q0_0, q0_1, rfl, hq0_0, hq0_1⟩ := opnApiValue hp0
 obtain ⟨q1_0, q1_1, rfl, hq1_0, hq1_1⟩ := opnApiValue hp1
 have hS := Step.r0 K0 s
 refine k_fn (rs := [4]) (args := [.agg #[.int .i64 a0.Kind, .int .i64 a0.Num, S a0.Text, q0_0, q0_1], .agg #[.int .i64 a1.Kind, .int .i64 a1.Num, S a1.Text, q1_0, q1_1]]) Tryz.func3 rfl rfl rfl rfl ?_
 refine k_seq ?_
 refine k_region ?_
 refine k_box rfl rfl ?_
 intro s1 b1 st1 h1 ge1
 have szs1 := st1.size
 have hS := hS.trans0 st1
 replace hq0_0 := hq0_0.up2 st1
 replace hq0_1 := hq0_1.up2 st1
 replace hq1_0 := hq1_0.up2 st1
 replace hq1_1 := hq1_1.up2 st1
 replace tb0 := tb0.up2 st1
 replace tb1 := tb1.up2 st1
 replace tb2 := tb2.up2 st1
 have lt1 := h1.lt
 refine k_box rfl rfl ?_
 intro s2 b2 st2 h2 ge2
 have szs2 := st2.size
 have hS := hS.trans0 st2
 replace hq0_0 := hq0_0.up2 st2
 replace hq0_1 := hq0_1.up2 st2
 replace hq1_0 := hq1_0.up2 st2
 replace hq1_1 := hq1_1.up2 st2
 replace h1 := h1.up2 st2
 replace tb0 := tb0.up2 st2
 replace tb1 := tb1.up2 st2
 replace tb2 := tb2.up2 st2
 have lt2 := h2.lt
 refine k_assign rfl rfl ?_
 refine k_nil ?_
 refine k_keep [(2, _), (3, _), (4, _)] ⟨rfl, rfl, rfl, trivial⟩ ?_
 refine k_seq ?_
 refine k_seq ?_
 refine k_region ?_
 refine k_load_blka (cs := [.int .i64 a0.Kind, .int .i64 a0.Num, S a0.Text, q0_0, q0_1]) agg25 rfl h1 rfl ?_
 obtain ⟨x1, hx1, h⟩ := ob h
 refine k_call cal7 rfl (law01_Long_w  (clsApiValue a0 hq0_0 hq0_1) hx1) rfl ?_
 rintro s3 vr3 st3 rfl
 have szs3 := st3.size
 have hS := hS.trans0 st3
 replace hq0_0 := hq0_0.up2 st3
 replace hq0_1 := hq0_1.up2 st3
 replace h1 := h1.up2 st3
 replace hq1_0 := hq1_0.up2 st3
 replace hq1_1 := hq1_1.up2 st3
 replace h2 := h2.up2 st3
 replace tb0 := tb0.up2 st3
 replace tb1 := tb1.up2 st3
 replace tb2 := tb2.up2 st3
 refine k_move rfl rfl ?_
 obtain ⟨x2, hx2, h⟩ := ob h
 have hE4 := Step.r0 K0 s3
 refine k_cutl (X := St) 3 [(2, .pointer (some ⟨b1, 0, none⟩)), (3, .pointer (some ⟨b2, 0, none⟩)), (4, .bool false), (6, .agg #[.int .i64 a0.Kind, .int .i64 a0.Num, S a0.Text, q0_0, q0_1]), (7, .bool x1)] (fun _ => [(11, .bool x2)]) (fun sl wL => sl.w = wL ∧ Step K0 s3 sl) ?_ ?_
 ·
  refine k_again 8 rfl ?_
  refine k_splitb (fun c5 => ?_) (fun c5 => ?_)
  ·
   have hx2 := ibT hx2 c5
   refine k_no rfl rfl rfl rfl ?_
   refine k_no rfl rfl rfl rfl ?_
   refine k_pickT rfl rfl rfl rfl ?_
   exact k_met ⟨s3, ⟨(congrArg (fun b => some (Value.bool b)) (Option.some.inj hx2)), trivial⟩, ⟨rfl, rfl, rfl, rfl, rfl, trivial⟩, rfl, hE4⟩
  ·
   have hx2 := ibF hx2 c5
   refine k_yes rfl rfl ?_
   refine k_load_blka (cs := [.int .i64 a1.Kind, .int .i64 a1.Num, S a1.Text, q1_0, q1_1]) agg25 rfl h2 rfl ?_
   refine k_yes rfl rfl ?_
   obtain ⟨x3, hx3, hx2⟩ := ob hx2
   refine k_call cal7 rfl (law01_Long_w  (clsApiValue a1 hq1_0 hq1_1) hx3) rfl ?_
   rintro s6 vr6 st6 rfl
   have szs6 := st6.size
   have hS := hS.trans0 st6
   have hE4 := hE4.trans0 st6
   refine k_pickF rfl rfl rfl rfl ?_
   exact k_met ⟨s6, ⟨(congrArg (fun b => some (Value.bool b)) (Option.some.inj hx2)), trivial⟩, ⟨rfl, rfl, rfl, rfl, rfl, trivial⟩, rfl, hE4⟩
 ·
  rintro s7 wL ⟨rfl, hE4⟩
  have szs7 := hE4.size
  have hS := hS.trans0 hE4
  replace hq0_0 := hq0_0.up2 hE4
  replace hq0_1 := hq0_1.up2 hE4
  replace h1 := h1.up2 hE4
  replace hq1_0 := hq1_0.up2 hE4
  replace hq1_1 := hq1_1.up2 hE4
  replace h2 := h2.up2 hE4
  replace tb0 := tb0.up2 hE4
  replace tb1 := tb1.up2 hE4
  replace tb2 := tb2.up2 hE4
  refine k_nil ?_
  refine k_keep [(2, _), (3, _), (4, _), (11, _)] ⟨rfl, rfl, rfl, rfl, trivial⟩ ?_
  refine k_cond rfl (fun c8 => ?_) (fun c8 => ?_)
  ·
   have h := ibT h c8
   refine k_seq ?_
   refine k_region ?_
   obtain ⟨x4, hx4, h⟩ := ob h
   refine k_call cal8 rfl (law01_awake_w  tb0 tb1 tb2 hx4) rfl ?_
   rintro s9 vr9 st9 rfl
   have szs9 := st9.size
   have hS := hS.trans0 st9
   refine k_assign rfl rfl ?_
   refine k_nil ?_
   refine k_keep [(2, _), (3, _), (4, _)] ⟨rfl, rfl, rfl, trivial⟩ ?_
   refine k_ret ?_
   obtain rfl := Option.some.inj h
   refine ⟨_, rfl, Ret.mk hS ?_⟩
   exact rfl
  ·
   have h := ibF h c8
   refine k_skip ?_
   refine k_seq ?_
   refine k_region ?_
   refine k_load_blka (cs := [.int .i64 a0.Kind, .int .i64 a0.Num, S a0.Text, q0_0, q0_1]) agg25 rfl h1 rfl ?_
   refine k_load_blka (cs := [.int .i64 a1.Kind, .int .i64 a1.Num, S a1.Text, q1_0, q1_1]) agg25 rfl h2 rfl ?_
   obtain ⟨x5, hx5, h⟩ := ob h
   refine k_call cal9 rfl (value_Cmp_w  (clsApiValue a0 hq0_0 hq0_1) (clsApiValue a1 hq1_0 hq1_1) hx5) rfl ?_
   rintro s10 vr10 st10 rfl
   have szs10 := st10.size
   have hS := hS.trans0 st10
   replace hq0_0 := hq0_0.up2 st10
   replace hq0_1 := hq0_1.up2 st10
   replace hq1_0 := hq1_0.up2 st10
   replace hq1_1 := hq1_1.up2 st10
   replace h1 := h1.up2 st10
   replace h2 := h2.up2 st10
   replace tb0 := tb0.up2 st10
   replace tb1 := tb1.up2 st10
   replace tb2 := tb2.up2 st10
   refine k_assign rfl rfl ?_
   refine k_nil ?_
   refine k_keep [(2, _), (3, _), (4, _), (5, _)] ⟨rfl, rfl, rfl, rfl, trivial⟩ ?_
   refine k_seq ?_
   refine k_seq ?_
   refine k_region ?_
   refine k_load_blka (cs := [.int .i64 a0.Kind, .int .i64 a0.Num, S a0.Text, q0_0, q0_1]) agg25 rfl h1 rfl ?_
   obtain ⟨x6, hx6, h⟩ := ob h
   refine k_call cal10 rfl (ref01_May_w  (clsApiValue a0 hq0_0 hq0_1) hx6) rfl ?_
   rintro s11 vr11 st11 rfl
   have szs11 := st11.size
   have hS := hS.trans0 st11
   replace hq0_0 := hq0_0.up2 st11
   replace hq0_1 := hq0_1.up2 st11
   replace h1 := h1.up2 st11
   replace hq1_0 := hq1_0.up2 st11
   replace hq1_1 := hq1_1.up2 st11
   replace h2 := h2.up2 st11
   replace tb0 := tb0.up2 st11
   replace tb1 := tb1.up2 st11
   replace tb2 := tb2.up2 st11
   refine k_not rfl rfl ?_
   refine k_move rfl rfl ?_
   obtain ⟨x7, hx7, h⟩ := ob h
   have hE12 := Step.r0 K0 s11
   refine k_cutl (X := St) 4 [(2, .pointer (some ⟨b1, 0, none⟩)), (3, .pointer (some ⟨b2, 0, none⟩)), (4, .bool false), (5, .int .i64 x5), (16, .agg #[.int .i64 a0.Kind, .int .i64 a0.Num, S a0.Text, q0_0, q0_1]), (17, .bool x6), (18, .bool (!x6))] (fun _ => [(23, .bool x7)]) (fun sl wL => sl.w = wL ∧ Step K0 s11 sl) ?_ ?_
   ·
    refine k_again 19 rfl ?_
    refine k_splitb (fun c13 => ?_) (fun c13 => ?_)
    ·
     have hx7 := ibT hx7 c13
     refine k_no rfl rfl rfl rfl ?_
     refine k_no rfl rfl rfl rfl ?_
     refine k_no rfl rfl rfl rfl ?_
     refine k_pickT rfl rfl rfl rfl ?_
     exact k_met ⟨s11, ⟨(congrArg (fun b => some (Value.bool b)) (Option.some.inj hx7)), trivial⟩, ⟨rfl, rfl, rfl, rfl, rfl, rfl, rfl, trivial⟩, rfl, hE12⟩
    ·
     have hx7 := ibF hx7 c13
     refine k_yes rfl rfl ?_
     refine k_load_blka (cs := [.int .i64 a1.Kind, .int .i64 a1.Num, S a1.Text, q1_0, q1_1]) agg25 rfl h2 rfl ?_
     refine k_yes rfl rfl ?_
     obtain ⟨x8, hx8, hx7⟩ := ob hx7
     refine k_call cal10 rfl (ref01_May_w  (clsApiValue a1 hq1_0 hq1_1) hx8) rfl ?_
     rintro s14 vr14 st14 rfl
     have szs14 := st14.size
     have hS := hS.trans0 st14
     have hE12 := hE12.trans0 st14
     refine k_yes rfl rfl ?_
     refine k_not rfl rfl ?_
     refine k_pickF rfl rfl rfl rfl ?_
     exact k_met ⟨s14, ⟨(congrArg (fun b => some (Value.bool b)) (Option.some.inj hx7)), trivial⟩, ⟨rfl, rfl, rfl, rfl, rfl, rfl, rfl, trivial⟩, rfl, hE12⟩
   ·
    rintro s15 wL ⟨rfl, hE12⟩
    have szs15 := hE12.size
    have hS := hS.trans0 hE12
    replace hq0_0 := hq0_0.up2 hE12
    replace hq0_1 := hq0_1.up2 hE12
    replace h1 := h1.up2 hE12
    replace hq1_0 := hq1_0.up2 hE12
    replace hq1_1 := hq1_1.up2 hE12
    replace h2 := h2.up2 hE12
    replace tb0 := tb0.up2 hE12
    replace tb1 := tb1.up2 hE12
    replace tb2 := tb2.up2 hE12
    refine k_nil ?_
    refine k_keep [(2, _), (3, _), (4, _), (5, _), (23, _)] ⟨rfl, rfl, rfl, rfl, rfl, trivial⟩ ?_
    refine k_cond rfl (fun c16 => ?_) (fun c16 => ?_)
    ·
     have h := ibT h c16
     refine k_seq ?_
     refine k_region ?_
     obtain ⟨x9, hx9, h⟩ := ob h
     refine k_call cal8 rfl (law01_awake_w  tb0 tb1 tb2 hx9) rfl ?_
     rintro s17 vr17 st17 rfl
     have szs17 := st17.size
     have hS := hS.trans0 st17
     refine k_assign rfl rfl ?_
     refine k_nil ?_
     refine k_keep [(2, _), (3, _), (4, _), (5, _)] ⟨rfl, rfl, rfl, rfl, trivial⟩ ?_
     refine k_ret ?_
     obtain rfl := Option.some.inj h
     refine ⟨_, rfl, Ret.mk hS ?_⟩
     exact rfl
    ·
     have h := ibF h c16
     refine k_skip ?_
     refine k_seq ?_
     refine k_region ?_
     refine k_move rfl rfl ?_
     refine k_load_blka (cs := [.int .i64 a0.Kind, .int .i64 a0.Num, S a0.Text, q0_0, q0_1]) agg25 rfl h1 rfl ?_
     refine k_load_blka (cs := [.int .i64 a1.Kind, .int .i64 a1.Num, S a1.Text, q1_0, q1_1]) agg25 rfl h2 rfl ?_
     obtain ⟨x10, hx10, h⟩ := ob h
     refine k_call cal11 rfl (ref01_Cmp_w  (clsApiValue a0 hq0_0 hq0_1) (clsApiValue a1 hq1_0 hq1_1) hx10) rfl ?_
     rintro s18 vr18 st18 rfl
     have szs18 := st18.size
     have hS := hS.trans0 st18
     replace tb0 := tb0.up2 st18
     replace tb1 := tb1.up2 st18
     replace tb2 := tb2.up2 st18
     refine k_eql rfl rfl rfl ?_
     refine k_move rfl rfl ?_
     obtain ⟨x11, hx11, h⟩ := ob h
     have hE19 := Step.r0 K0 s18
     refine k_cutl (X := St) 2 [(2, .pointer (some ⟨b1, 0, none⟩)), (3, .pointer (some ⟨b2, 0, none⟩)), (4, .bool false), (5, .int .i64 x5), (23, .bool x7), (25, .int .i64 x5), (26, .agg #[.int .i64 a0.Kind, .int .i64 a0.Num, S a0.Text, q0_0, q0_1]), (27, .agg #[.int .i64 a1.Kind, .int .i64 a1.Num, S a1.Text, q1_0, q1_1]), (28, .int .i64 x10), (29, .bool (decide (x5 = x10)))] (fun _ => [(32, .bool x11)]) (fun sl wL => sl.w = wL ∧ Step K0 s18 sl) ?_ ?_
     ·
      refine k_again 30 rfl ?_
      refine k_split (fun c20 => ?_) (fun c20 => ?_)
      ·
       have hx11 := itT hx11 c20
       refine k_yes rfl rfl ?_
       obtain ⟨x12, hx12, hx11⟩ := ob hx11
       refine k_call cal8 rfl (law01_awake_w  tb0 tb1 tb2 hx12) rfl ?_
       rintro s21 vr21 st21 rfl
       have szs21 := st21.size
       have hS := hS.trans0 st21
       have hE19 := hE19.trans0 st21
       refine k_pickT rfl rfl rfl rfl ?_
       exact k_met ⟨s21, ⟨(congrArg (fun b => some (Value.bool b)) (Option.some.inj hx11)), trivial⟩, ⟨rfl, rfl, rfl, rfl, rfl, rfl, rfl, rfl, rfl, rfl, trivial⟩, rfl, hE19⟩
      ·
       have hx11 := itF hx11 c20
       refine k_no rfl rfl rfl rfl ?_
       refine k_pickF rfl rfl rfl rfl ?_
       exact k_met ⟨s18, ⟨(congrArg (fun b => some (Value.bool b)) (Option.some.inj hx11)), trivial⟩, ⟨rfl, rfl, rfl, rfl, rfl, rfl, rfl, rfl, rfl, rfl, trivial⟩, rfl, hE19⟩
     ·
      rintro s22 wL ⟨rfl, hE19⟩
      have szs22 := hE19.size
      have hS := hS.trans0 hE19
      refine k_assign rfl rfl ?_
      refine k_nil ?_
      refine k_keep [(4, _)] ⟨rfl, trivial⟩ ?_
      refine k_ret ?_
      obtain rfl := Option.some.inj h
      refine ⟨_, rfl, Ret.mk hS ?_⟩
      exact rfl
end Go.Proofs
