import Derived.Test.YtecbmbcdinkccaaGreatDoorW01ZValueOrder1
set_option linter.unusedSimpArgs false
set_option linter.unusedVariables false
namespace Go.Proofs
open Go.Fw
set_option maxHeartbeats 1000000 in
set_option maxRecDepth 100000 in
theorem value_Same_s_w {s : St} {cs0 : List Value} {a0 : ApiValue} {cs1 : List Value} {a1 : ApiValue} {a70 : (ApiValue → ApiValue → Option Bool)} {r : Bool} (hp0 : RC s cs0 (dApiValue a0)) (hp1 : RC s cs1 (dApiValue a1)) (ih70 : ∀ {s : St} {cs0 : List Value} {a0 : ApiValue} {cs1 : List Value} {a1 : ApiValue} {r : Bool} (hp0 : RC s cs0 (dApiValue a0)) (hp1 : RC s cs1 (dApiValue a1)) (h : a70 a0 a1 = some r), Calls Tryz.prog 13 #[.agg cs0.toArray, .agg cs1.toArray] s.w (Ret s K0 (fun s1 v => v = .bool r))) (h : value_Same_s a70 a0 a1 = some r) : Calls Tryz.prog 13 #[.agg cs0.toArray, .agg cs1.toArray] s.w (Ret s K0 (fun s1 v => v = .bool r)) := by
 unfold value_Same_s at h
 obtain ⟨q0_0, q0_1, rfl, hq0_0, hq0_1⟩ := opnApiValue hp0
 obtain ⟨q1_0, q1_1, rfl, hq1_0, hq1_1⟩ := opnApiValue hp1
 have hS := Step.r0 K0 s
 refine k_fn (rs := [4]) (args := [.agg #[.int .i64 a0.Kind, .int .i64 a0.Num, S a0.Text, q0_0, q0_1], .agg #[.int .i64 a1.Kind, .int .i64 a1.Num, S a1.Text, q1_0, q1_1]]) Tryz.func13 rfl rfl rfl rfl ?_
 refine k_seq ?_
 refine k_region ?_
 refine k_box rfl rfl ?_
 intro s1 b1 st1 h1 ge1
 have szs1 := st1.size
 have hS := hS.trans0 st1
 replace hq0_0 := hq0_0.up2 st1
 replace hq0_1 := hq0_1.up2 st1
 replace hq1_0 := hq1_0.up2 st1
 replace hq1_1 := hq1_1.up2 st1
 have lt1 := h1.lt
 refine k_box rfl rfl ?_
 intro s2 b2 st2 h2 ge2
 have szs2 := st2.size
 have hS := hS.trans0 st2
 replace hq0_0 := hq0_0.up2 st2
 replace hq0_1 := hq0_1.up2 st2
 replace hq1_0 := hq1_0.up2 st2
 replace hq1_1 := hq1_1.up2 st2
 replace h1 := h1.up2 st2
 have lt2 := h2.lt
 refine k_assign rfl rfl ?_
 refine k_nil ?_
 refine k_keep [(2, _), (3, _), (4, _)] ⟨rfl, rfl, rfl, trivial⟩ ?_
 refine k_seq ?_
 refine k_region ?_
 refine k_field_addr fld25_0 rfl rfl ?_
 refine k_load_blk one3 rfl h1 rfl rfl ?_
 refine k_field_addr fld25_0 rfl rfl ?_
 refine k_load_blk one3 rfl h2 rfl rfl ?_
 refine k_eql rfl rfl rfl ?_
 refine k_move rfl rfl ?_
 have hE3 := Step.r0 K0 s2
 refine k_cutl (X := St) 6 [(2, .pointer (some ⟨b1, 0, none⟩)), (3, .pointer (some ⟨b2, 0, none⟩)), (4, .bool false), (5, .pointer (some ⟨b1, 0, none⟩)), (6, .int .i64 a0.Kind), (7, .pointer (some ⟨b2, 0, none⟩)), (8, .int .i64 a1.Kind), (9, .bool (decide (a0.Kind = a1.Kind)))] (fun _ => [(16, .bool (decide ((a0.Kind = a1.Kind) ∧ (a0.Num = a1.Num))))]) (fun sl wL => sl.w = wL ∧ Step K0 s2 sl) ?_ ?_
 ·
  refine k_again 10 rfl ?_
  refine k_split (fun c4 => ?_) (fun c4 => ?_)
  ·
   refine k_yes rfl rfl ?_
   refine k_field_addr fld25_1 rfl rfl ?_
   refine k_yes rfl rfl ?_
   refine k_load_blk one2 rfl h1 rfl rfl ?_
   refine k_yes rfl rfl ?_
   refine k_field_addr fld25_1 rfl rfl ?_
   refine k_yes rfl rfl ?_
   refine k_load_blk one2 rfl h2 rfl rfl ?_
   refine k_yes rfl rfl ?_
   refine k_eql rfl rfl rfl ?_
   refine k_pickT rfl rfl rfl rfl ?_
   exact k_met ⟨s2, ⟨(congrArg (fun b => some (Value.bool b)) (by first | exact decide_eq_decide.2 ⟨fun h => ⟨c4, h⟩, fun h => h.2⟩ | exact (decide_eq_false (fun h => c4 h.1)).symm | (simp [c4]; done) | (simp [c4, i64] <;> omega))), trivial⟩, ⟨rfl, rfl, rfl, rfl, rfl, rfl, rfl, rfl, trivial⟩, rfl, hE3⟩
  ·
   refine k_no rfl rfl rfl rfl ?_
   refine k_no rfl rfl rfl rfl ?_
   refine k_no rfl rfl rfl rfl ?_
   refine k_no rfl rfl rfl rfl ?_
   refine k_no rfl rfl rfl rfl ?_
   refine k_pickF rfl rfl rfl rfl ?_
   exact k_met ⟨s2, ⟨(congrArg (fun b => some (Value.bool b)) (by first | exact decide_eq_decide.2 ⟨fun h => ⟨c4, h⟩, fun h => h.2⟩ | exact (decide_eq_false (fun h => c4 h.1)).symm | (simp [c4]; done) | (simp [c4, i64] <;> omega))), trivial⟩, ⟨rfl, rfl, rfl, rfl, rfl, rfl, rfl, rfl, trivial⟩, rfl, hE3⟩
 ·
  rintro s5 wL ⟨rfl, hE3⟩
  have szs5 := hE3.size
  have hS := hS.trans0 hE3
  replace hq0_0 := hq0_0.up2 hE3
  replace hq0_1 := hq0_1.up2 hE3
  replace h1 := h1.up2 hE3
  replace hq1_0 := hq1_0.up2 hE3
  replace hq1_1 := hq1_1.up2 hE3
  replace h2 := h2.up2 hE3
  refine k_move rfl rfl ?_
  have hE6 := Step.r0 K0 s5
  refine k_cutl (X := St) 6 [(2, .pointer (some ⟨b1, 0, none⟩)), (3, .pointer (some ⟨b2, 0, none⟩)), (4, .bool false), (5, .pointer (some ⟨b1, 0, none⟩)), (6, .int .i64 a0.Kind), (7, .pointer (some ⟨b2, 0, none⟩)), (8, .int .i64 a1.Kind), (9, .bool (decide (a0.Kind = a1.Kind))), (16, .bool (decide ((a0.Kind = a1.Kind) ∧ (a0.Num = a1.Num))))] (fun _ => [(23, .bool (decide (((a0.Kind = a1.Kind) ∧ (a0.Num = a1.Num)) ∧ (a0.Text = a1.Text))))]) (fun sl wL => sl.w = wL ∧ Step K0 s5 sl) ?_ ?_
  ·
   refine k_again 17 rfl ?_
   refine k_split (fun c7 => ?_) (fun c7 => ?_)
   ·
    refine k_yes rfl rfl ?_
    refine k_field_addr fld25_2 rfl rfl ?_
    refine k_yes rfl rfl ?_
    refine k_load_blk one9 rfl h1 rfl rfl ?_
    refine k_yes rfl rfl ?_
    refine k_field_addr fld25_2 rfl rfl ?_
    refine k_yes rfl rfl ?_
    refine k_load_blk one9 rfl h2 rfl rfl ?_
    refine k_yes rfl rfl ?_
    refine k_eql_str rfl rfl rfl ?_
    refine k_pickT rfl rfl rfl rfl ?_
    exact k_met ⟨s5, ⟨(congrArg (fun b => some (Value.bool b)) (by first | exact decide_eq_decide.2 ⟨fun h => ⟨c7, h⟩, fun h => h.2⟩ | exact (decide_eq_false (fun h => c7 h.1)).symm | (simp [c7]; done) | (simp [c7, i64] <;> omega))), trivial⟩, ⟨rfl, rfl, rfl, rfl, rfl, rfl, rfl, rfl, rfl, trivial⟩, rfl, hE6⟩
   ·
    refine k_no rfl rfl rfl rfl ?_
    refine k_no rfl rfl rfl rfl ?_
    refine k_no rfl rfl rfl rfl ?_
    refine k_no rfl rfl rfl rfl ?_
    refine k_no rfl rfl rfl rfl ?_
    refine k_pickF rfl rfl rfl rfl ?_
    exact k_met ⟨s5, ⟨(congrArg (fun b => some (Value.bool b)) (by first | exact decide_eq_decide.2 ⟨fun h => ⟨c7, h⟩, fun h => h.2⟩ | exact (decide_eq_false (fun h => c7 h.1)).symm | (simp [c7]; done) | (simp [c7, i64] <;> omega))), trivial⟩, ⟨rfl, rfl, rfl, rfl, rfl, rfl, rfl, rfl, rfl, trivial⟩, rfl, hE6⟩
  ·
   rintro s8 wL ⟨rfl, hE6⟩
   have szs8 := hE6.size
   have hS := hS.trans0 hE6
   replace hq0_0 := hq0_0.up2 hE6
   replace hq0_1 := hq0_1.up2 hE6
   replace h1 := h1.up2 hE6
   replace hq1_0 := hq1_0.up2 hE6
   replace hq1_1 := hq1_1.up2 hE6
   replace h2 := h2.up2 hE6
   refine k_move rfl rfl ?_
   obtain ⟨x1, hx1, h⟩ := ob h
   have hE9 := Step.r0 K0 s8
   refine k_cutl (X := St) 6 [(2, .pointer (some ⟨b1, 0, none⟩)), (3, .pointer (some ⟨b2, 0, none⟩)), (4, .bool false), (5, .pointer (some ⟨b1, 0, none⟩)), (6, .int .i64 a0.Kind), (7, .pointer (some ⟨b2, 0, none⟩)), (8, .int .i64 a1.Kind), (9, .bool (decide (a0.Kind = a1.Kind))), (16, .bool (decide ((a0.Kind = a1.Kind) ∧ (a0.Num = a1.Num)))), (23, .bool (decide (((a0.Kind = a1.Kind) ∧ (a0.Num = a1.Num)) ∧ (a0.Text = a1.Text))))] (fun _ => [(30, .bool x1)]) (fun sl wL => sl.w = wL ∧ Step K0 s8 sl) ?_ ?_
   ·
    refine k_again 24 rfl ?_
    refine k_split (fun c10 => ?_) (fun c10 => ?_)
    ·
     have hx1 := itT hx1 c10
     refine k_yes rfl rfl ?_
     refine k_field_addr fld25_4 rfl rfl ?_
     refine k_yes rfl rfl ?_
     refine k_load_blk one23 rfl h1 rfl rfl ?_
     refine k_yes rfl rfl ?_
     refine k_field_addr fld25_4 rfl rfl ?_
     refine k_yes rfl rfl ?_
     refine k_load_blk one23 rfl h2 rfl rfl ?_
     refine k_yes rfl rfl ?_
     obtain ⟨x2, hx2, hx1⟩ := ob hx1
     refine k_call cal37 rfl (slices_Equal_string_string_w  (SL.of_R hq0_1) (SL.of_R hq1_1) hx2) rfl ?_
     rintro s11 vr11 st11 rfl
     have szs11 := st11.size
     have hS := hS.trans0 st11
     have hE9 := hE9.trans0 st11
     refine k_pickT rfl rfl rfl rfl ?_
     exact k_met ⟨s11, ⟨(congrArg (fun b => some (Value.bool b)) (Option.some.inj hx1)), trivial⟩, ⟨rfl, rfl, rfl, rfl, rfl, rfl, rfl, rfl, rfl, rfl, trivial⟩, rfl, hE9⟩
    ·
     have hx1 := itF hx1 c10
     refine k_no rfl rfl rfl rfl ?_
     refine k_no rfl rfl rfl rfl ?_
     refine k_no rfl rfl rfl rfl ?_
     refine k_no rfl rfl rfl rfl ?_
     refine k_no rfl rfl rfl rfl ?_
     refine k_pickF rfl rfl rfl rfl ?_
     exact k_met ⟨s8, ⟨(congrArg (fun b => some (Value.bool b)) (Option.some.inj hx1)), trivial⟩, ⟨rfl, rfl, rfl, rfl, rfl, rfl, rfl, rfl, rfl, rfl, trivial⟩, rfl, hE9⟩
   ·
    rintro s12 wL ⟨rfl, hE9⟩
    have szs12 := hE9.size
    have hS := hS.trans0 hE9
    replace hq0_0 := hq0_0.up2 hE9
    replace h1 := h1.up2 hE9
    replace hq1_0 := hq1_0.up2 hE9
    replace h2 := h2.up2 hE9
    refine k_move rfl rfl ?_
    obtain ⟨x3, hx3, h⟩ := ob h
    have hE13 := Step.r0 K0 s12
    refine k_cutl (X := St) 6 [(2, .pointer (some ⟨b1, 0, none⟩)), (3, .pointer (some ⟨b2, 0, none⟩)), (4, .bool false), (5, .pointer (some ⟨b1, 0, none⟩)), (6, .int .i64 a0.Kind), (7, .pointer (some ⟨b2, 0, none⟩)), (8, .int .i64 a1.Kind), (9, .bool (decide (a0.Kind = a1.Kind))), (16, .bool (decide ((a0.Kind = a1.Kind) ∧ (a0.Num = a1.Num)))), (23, .bool (decide (((a0.Kind = a1.Kind) ∧ (a0.Num = a1.Num)) ∧ (a0.Text = a1.Text)))), (30, .bool x1)] (fun _ => [(37, .bool x3)]) (fun sl wL => sl.w = wL ∧ Step K0 s12 sl) ?_ ?_
    ·
     refine k_again 31 rfl ?_
     refine k_splitb (fun c14 => ?_) (fun c14 => ?_)
     ·
      have hx3 := ibT hx3 c14
      refine k_yes rfl rfl ?_
      refine k_field_addr fld25_3 rfl rfl ?_
      refine k_yes rfl rfl ?_
      refine k_load_blk one22 rfl h1 rfl rfl ?_
      refine k_yes rfl rfl ?_
      refine k_field_addr fld25_3 rfl rfl ?_
      refine k_yes rfl rfl ?_
      refine k_load_blk one22 rfl h2 rfl rfl ?_
      refine k_yes rfl rfl ?_
      obtain ⟨x4, hx4, hx3⟩ := ob hx3
      refine k_call cal38 rfl (slices_EqualFunc_api_Value_api_Value_api_Value_api_Value_f13_w  (SL.of_R hq0_0) (SL.of_R hq1_0) ih70 hx4) rfl ?_
      rintro s15 vr15 st15 rfl
      have szs15 := st15.size
      have hS := hS.trans0 st15
      have hE13 := hE13.trans0 st15
      refine k_pickT rfl rfl rfl rfl ?_
      exact k_met ⟨s15, ⟨(congrArg (fun b => some (Value.bool b)) (Option.some.inj hx3)), trivial⟩, ⟨rfl, rfl, rfl, rfl, rfl, rfl, rfl, rfl, rfl, rfl, rfl, trivial⟩, rfl, hE13⟩
     ·
      have hx3 := ibF hx3 c14
      refine k_no rfl rfl rfl rfl ?_
      refine k_no rfl rfl rfl rfl ?_
      refine k_no rfl rfl rfl rfl ?_
      refine k_no rfl rfl rfl rfl ?_
      refine k_no rfl rfl rfl rfl ?_
      refine k_pickF rfl rfl rfl rfl ?_
      exact k_met ⟨s12, ⟨(congrArg (fun b => some (Value.bool b)) (Option.some.inj hx3)), trivial⟩, ⟨rfl, rfl, rfl, rfl, rfl, rfl, rfl, rfl, rfl, rfl, rfl, trivial⟩, rfl, hE13⟩
    ·
     rintro s16 wL ⟨rfl, hE13⟩
     have szs16 := hE13.size
     have hS := hS.trans0 hE13
     refine k_assign rfl rfl ?_
     refine k_nil ?_
     refine k_keep [(4, _)] ⟨rfl, trivial⟩ ?_
     refine k_ret ?_
     obtain rfl := Option.some.inj h
     refine ⟨_, rfl, Ret.mk hS ?_⟩
     exact rfl
theorem value_Same_rw (j : Nat) : ∀ {s : St} {cs0 : List Value} {a0 : ApiValue} {cs1 : List Value} {a1 : ApiValue} {r : Bool} (hp0 : RC s cs0 (dApiValue a0)) (hp1 : RC s cs1 (dApiValue a1)) (h : value_Same_r j a0 a1 = some r), Calls Tryz.prog 13 #[.agg cs0.toArray, .agg cs1.toArray] s.w (Ret s K0 (fun s1 v => v = .bool r)) := by
 induction j with
 | zero => intro s cs0 a0 cs1 a1 r hp0 hp1 h; rw [value_Same_r] at h; exact (noneNe h).elim
 | succ j ih => intro s cs0 a0 cs1 a1 r hp0 hp1 h; rw [value_Same_r] at h; exact value_Same_s_w hp0 hp1 ih h
theorem value_Same_w {s : St} {cs0 : List Value} {a0 : ApiValue} {cs1 : List Value} {a1 : ApiValue} {r : Bool} (hp0 : RC s cs0 (dApiValue a0)) (hp1 : RC s cs1 (dApiValue a1)) (h : value_Same a0 a1 = some r) : Calls Tryz.prog 13 #[.agg cs0.toArray, .agg cs1.toArray] s.w (Ret s K0 (fun s1 v => v = .bool r)) := value_Same_rw (FU + (dpApiValue a0 + dpApiValue a1)) hp0 hp1 h

set_option maxHeartbeats 1000000 in
set_option maxRecDepth 100000 in
theorem law01_ValueOrder_w {s : St} {cs0 : List Value} {a0 : ApiValue} {cs1 : List Value} {a1 : ApiValue} {cs2 : List Value} {a2 : ApiValue} {r : Bool} (hp0 : RC s cs0 (dApiValue a0)) (hp1 : RC s cs1 (dApiValue a1)) (hp2 : RC s cs2 (dApiValue a2)) (tb2 : Tab2 s) (tb0 : Tab0 s) (tb1 : Tab1 s) (h : law01_ValueOrder a0 a1 a2 = some r) : Calls Tryz.prog 4 #[.agg cs0.toArray, .agg cs1.toArray, .agg cs2.toArray] s.w (Ret s K0 (fun s1 v => v = .bool r)) := by
 unfold law01_ValueOrder at h
 obtain ⟨q0_0, q0_1, rfl, hq0_0, hq0_1⟩ := opnApiValue hp0
 obtain ⟨q1_0, q1_1, rfl, hq1_0, hq1_1⟩ := opnApiValue hp1
 obtain ⟨q2_0, q2_1, rfl, hq2_0, hq2_1⟩ := opnApiValue hp2
 have hS := Step.r0 K0 s
 refine k_fn (rs := [6]) (args := [.agg #[.int .i64 a0.Kind, .int .i64 a0.Num, S a0.Text, q0_0, q0_1], .agg #[.int .i64 a1.Kind, .int .i64 a1.Num, S a1.Text, q1_0, q1_1], .agg #[.int .i64 a2.Kind, .int .i64 a2.Num, S a2.Text, q2_0, q2_1]]) Tryz.func4 rfl rfl rfl rfl ?_
 refine k_seq ?_
 refine k_region ?_
 refine k_box rfl rfl ?_
 intro s1 b1 st1 h1 ge1
 have szs1 := st1.size
 have hS := hS.trans0 st1
 replace hq0_0 := hq0_0.up2 st1
 replace hq0_1 := hq0_1.up2 st1
 replace hq1_0 := hq1_0.up2 st1
 replace hq1_1 := hq1_1.up2 st1
 replace hq2_0 := hq2_0.up2 st1
 replace hq2_1 := hq2_1.up2 st1
 replace tb2 := tb2.up2 st1
 replace tb0 := tb0.up2 st1
 replace tb1 := tb1.up2 st1
 have lt1 := h1.lt
 refine k_box rfl rfl ?_
 intro s2 b2 st2 h2 ge2
 have szs2 := st2.size
 have hS := hS.trans0 st2
 replace hq0_0 := hq0_0.up2 st2
 replace hq0_1 := hq0_1.up2 st2
 replace hq1_0 := hq1_0.up2 st2
 replace hq1_1 := hq1_1.up2 st2
 replace hq2_0 := hq2_0.up2 st2
 replace hq2_1 := hq2_1.up2 st2
 replace h1 := h1.up2 st2
 replace tb2 := tb2.up2 st2
 replace tb0 := tb0.up2 st2
 replace tb1 := tb1.up2 st2
 have lt2 := h2.lt
 refine k_box rfl rfl ?_
 intro s3 b3 st3 h3 ge3
 have szs3 := st3.size
 have hS := hS.trans0 st3
 replace hq0_0 := hq0_0.up2 st3
 replace hq0_1 := hq0_1.up2 st3
 replace hq1_0 := hq1_0.up2 st3
 replace hq1_1 := hq1_1.up2 st3
 replace hq2_0 := hq2_0.up2 st3
 replace hq2_1 := hq2_1.up2 st3
 replace h1 := h1.up2 st3
 replace h2 := h2.up2 st3
 replace tb2 := tb2.up2 st3
 replace tb0 := tb0.up2 st3
 replace tb1 := tb1.up2 st3
 have lt3 := h3.lt
 refine k_assign rfl rfl ?_
 refine k_nil ?_
 refine k_keep [(3, _), (4, _), (5, _), (6, _)] ⟨rfl, rfl, rfl, rfl, trivial⟩ ?_
 refine k_seq ?_
 refine k_seq ?_
 refine k_region ?_
 refine k_load_blka (cs := [.int .i64 a0.Kind, .int .i64 a0.Num, S a0.Text, q0_0, q0_1]) agg25 rfl h1 rfl ?_
 obtain ⟨x1, hx1, h⟩ := ob h
 refine k_call cal7 rfl (law01_Long_w  (clsApiValue a0 hq0_0 hq0_1) hx1) rfl ?_
 rintro s4 vr4 st4 rfl
 have szs4 := st4.size
 have hS := hS.trans0 st4
 replace hq0_0 := hq0_0.up2 st4
 replace hq0_1 := hq0_1.up2 st4
 replace h1 := h1.up2 st4
 replace hq1_0 := hq1_0.up2 st4
 replace hq1_1 := hq1_1.up2 st4
 replace h2 := h2.up2 st4
 replace hq2_0 := hq2_0.up2 st4
 replace hq2_1 := hq2_1.up2 st4
 replace h3 := h3.up2 st4
 replace tb2 := tb2.up2 st4
 replace tb0 := tb0.up2 st4
 replace tb1 := tb1.up2 st4
 refine k_move rfl rfl ?_
 obtain ⟨x2, hx2, h⟩ := ob h
 have hE5 := Step.r0 K0 s4
 refine k_cutl (X := St) 3 [(3, .pointer (some ⟨b1, 0, none⟩)), (4, .pointer (some ⟨b2, 0, none⟩)), (5, .pointer (some ⟨b3, 0, none⟩)), (6, .bool false), (9, .agg #[.int .i64 a0.Kind, .int .i64 a0.Num, S a0.Text, q0_0, q0_1]), (10, .bool x1)] (fun _ => [(14, .bool x2)]) (fun sl wL => sl.w = wL ∧ Step K0 s4 sl) ?_ ?_
 ·
  refine k_again 11 rfl ?_
  refine k_splitb (fun c6 => ?_) (fun c6 => ?_)
  ·
   have hx2 := ibT hx2 c6
   refine k_no rfl rfl rfl rfl ?_
   refine k_no rfl rfl rfl rfl ?_
   refine k_pickT rfl rfl rfl rfl ?_
   exact k_met ⟨s4, ⟨(congrArg (fun b => some (Value.bool b)) (Option.some.inj hx2)), trivial⟩, ⟨rfl, rfl, rfl, rfl, rfl, rfl, trivial⟩, rfl, hE5⟩
  ·
   have hx2 := ibF hx2 c6
   refine k_yes rfl rfl ?_
   refine k_load_blka (cs := [.int .i64 a1.Kind, .int .i64 a1.Num, S a1.Text, q1_0, q1_1]) agg25 rfl h2 rfl ?_
   refine k_yes rfl rfl ?_
   obtain ⟨x3, hx3, hx2⟩ := ob hx2
   refine k_call cal7 rfl (law01_Long_w  (clsApiValue a1 hq1_0 hq1_1) hx3) rfl ?_
   rintro s7 vr7 st7 rfl
   have szs7 := st7.size
   have hS := hS.trans0 st7
   have hE5 := hE5.trans0 st7
   refine k_pickF rfl rfl rfl rfl ?_
   exact k_met ⟨s7, ⟨(congrArg (fun b => some (Value.bool b)) (Option.some.inj hx2)), trivial⟩, ⟨rfl, rfl, rfl, rfl, rfl, rfl, trivial⟩, rfl, hE5⟩
 ·
  rintro s8 wL ⟨rfl, hE5⟩
  have szs8 := hE5.size
  have hS := hS.trans0 hE5
  replace hq0_0 := hq0_0.up2 hE5
  replace hq0_1 := hq0_1.up2 hE5
  replace h1 := h1.up2 hE5
  replace hq1_0 := hq1_0.up2 hE5
  replace hq1_1 := hq1_1.up2 hE5
  replace h2 := h2.up2 hE5
  replace hq2_0 := hq2_0.up2 hE5
  replace hq2_1 := hq2_1.up2 hE5
  replace h3 := h3.up2 hE5
  replace tb2 := tb2.up2 hE5
  replace tb0 := tb0.up2 hE5
  replace tb1 := tb1.up2 hE5
  refine k_move rfl rfl ?_
  obtain ⟨x4, hx4, h⟩ := ob h
  have hE9 := Step.r0 K0 s8
  refine k_cutl (X := St) 3 [(3, .pointer (some ⟨b1, 0, none⟩)), (4, .pointer (some ⟨b2, 0, none⟩)), (5, .pointer (some ⟨b3, 0, none⟩)), (6, .bool false), (9, .agg #[.int .i64 a0.Kind, .int .i64 a0.Num, S a0.Text, q0_0, q0_1]), (10, .bool x1), (14, .bool x2)] (fun _ => [(18, .bool x4)]) (fun sl wL => sl.w = wL ∧ Step K0 s8 sl) ?_ ?_
  ·
   refine k_again 15 rfl ?_
   refine k_splitb (fun c10 => ?_) (fun c10 => ?_)
   ·
    have hx4 := ibT hx4 c10
    refine k_no rfl rfl rfl rfl ?_
    refine k_no rfl rfl rfl rfl ?_
    refine k_pickT rfl rfl rfl rfl ?_
    exact k_met ⟨s8, ⟨(congrArg (fun b => some (Value.bool b)) (Option.some.inj hx4)), trivial⟩, ⟨rfl, rfl, rfl, rfl, rfl, rfl, rfl, trivial⟩, rfl, hE9⟩
   ·
    have hx4 := ibF hx4 c10
    refine k_yes rfl rfl ?_
    refine k_load_blka (cs := [.int .i64 a2.Kind, .int .i64 a2.Num, S a2.Text, q2_0, q2_1]) agg25 rfl h3 rfl ?_
    refine k_yes rfl rfl ?_
    obtain ⟨x5, hx5, hx4⟩ := ob hx4
    refine k_call cal7 rfl (law01_Long_w  (clsApiValue a2 hq2_0 hq2_1) hx5) rfl ?_
    rintro s11 vr11 st11 rfl
    have szs11 := st11.size
    have hS := hS.trans0 st11
    have hE9 := hE9.trans0 st11
    refine k_pickF rfl rfl rfl rfl ?_
    exact k_met ⟨s11, ⟨(congrArg (fun b => some (Value.bool b)) (Option.some.inj hx4)), trivial⟩, ⟨rfl, rfl, rfl, rfl, rfl, rfl, rfl, trivial⟩, rfl, hE9⟩
  ·
   rintro s12 wL ⟨rfl, hE9⟩
   have szs12 := hE9.size
   have hS := hS.trans0 hE9
   replace hq0_0 := hq0_0.up2 hE9
   replace hq0_1 := hq0_1.up2 hE9
   replace h1 := h1.up2 hE9
   replace hq1_0 := hq1_0.up2 hE9
   replace hq1_1 := hq1_1.up2 hE9
   replace h2 := h2.up2 hE9
   replace hq2_0 := hq2_0.up2 hE9
   replace hq2_1 := hq2_1.up2 hE9
   replace h3 := h3.up2 hE9
   replace tb2 := tb2.up2 hE9
   replace tb0 := tb0.up2 hE9
   replace tb1 := tb1.up2 hE9
   refine k_move rfl rfl ?_
   obtain ⟨x6, hx6, h⟩ := ob h
   have hE13 := Step.r0 K0 s12
   refine k_cutl (X := St) 4 [(3, .pointer (some ⟨b1, 0, none⟩)), (4, .pointer (some ⟨b2, 0, none⟩)), (5, .pointer (some ⟨b3, 0, none⟩)), (6, .bool false), (9, .agg #[.int .i64 a0.Kind, .int .i64 a0.Num, S a0.Text, q0_0, q0_1]), (10, .bool x1), (14, .bool x2), (18, .bool x4)] (fun _ => [(23, .bool x6)]) (fun sl wL => sl.w = wL ∧ Step K0 s12 sl) ?_ ?_
   ·
    refine k_again 19 rfl ?_
    refine k_splitb (fun c14 => ?_) (fun c14 => ?_)
    ·
     have hx6 := ibT hx6 c14
     refine k_no rfl rfl rfl rfl ?_
     refine k_no rfl rfl rfl rfl ?_
     refine k_no rfl rfl rfl rfl ?_
     refine k_pickT rfl rfl rfl rfl ?_
     exact k_met ⟨s12, ⟨(congrArg (fun b => some (Value.bool b)) (Option.some.inj hx6)), trivial⟩, ⟨rfl, rfl, rfl, rfl, rfl, rfl, rfl, rfl, trivial⟩, rfl, hE13⟩
    ·
     have hx6 := ibF hx6 c14
     refine k_yes rfl rfl ?_
     refine k_load_blka (cs := [.int .i64 a0.Kind, .int .i64 a0.Num, S a0.Text, q0_0, q0_1]) agg25 rfl h1 rfl ?_
     refine k_yes rfl rfl ?_
     obtain ⟨x7, hx7, hx6⟩ := ob hx6
     refine k_call cal12 rfl (value_May_w  (clsApiValue a0 hq0_0 hq0_1) tb2 hx7) rfl ?_
     rintro s15 vr15 st15 rfl
     have szs15 := st15.size
     have hS := hS.trans0 st15
     have hE13 := hE13.trans0 st15
     refine k_yes rfl rfl ?_
     refine k_not rfl rfl ?_
     refine k_pickF rfl rfl rfl rfl ?_
     exact k_met ⟨s15, ⟨(congrArg (fun b => some (Value.bool b)) (Option.some.inj hx6)), trivial⟩, ⟨rfl, rfl, rfl, rfl, rfl, rfl, rfl, rfl, trivial⟩, rfl, hE13⟩
   ·
    rintro s16 wL ⟨rfl, hE13⟩
    have szs16 := hE13.size
    have hS := hS.trans0 hE13
    replace hq0_0 := hq0_0.up2 hE13
    replace hq0_1 := hq0_1.up2 hE13
    replace h1 := h1.up2 hE13
    replace hq1_0 := hq1_0.up2 hE13
    replace hq1_1 := hq1_1.up2 hE13
    replace h2 := h2.up2 hE13
    replace hq2_0 := hq2_0.up2 hE13
    replace hq2_1 := hq2_1.up2 hE13
    replace h3 := h3.up2 hE13
    replace tb2 := tb2.up2 hE13
    replace tb0 := tb0.up2 hE13
    replace tb1 := tb1.up2 hE13
    refine k_move rfl rfl ?_
    obtain ⟨x8, hx8, h⟩ := ob h
    have hE17 := Step.r0 K0 s16
    refine k_cutl (X := St) 4 [(3, .pointer (some ⟨b1, 0, none⟩)), (4, .pointer (some ⟨b2, 0, none⟩)), (5, .pointer (some ⟨b3, 0, none⟩)), (6, .bool false), (9, .agg #[.int .i64 a0.Kind, .int .i64 a0.Num, S a0.Text, q0_0, q0_1]), (10, .bool x1), (14, .bool x2), (18, .bool x4), (23, .bool x6)] (fun _ => [(28, .bool x8)]) (fun sl wL => sl.w = wL ∧ Step K0 s16 sl) ?_ ?_
    ·
     refine k_again 24 rfl ?_
     refine k_splitb (fun c18 => ?_) (fun c18 => ?_)
     ·
      have hx8 := ibT hx8 c18
      refine k_no rfl rfl rfl rfl ?_
      refine k_no rfl rfl rfl rfl ?_
      refine k_no rfl rfl rfl rfl ?_
      refine k_pickT rfl rfl rfl rfl ?_
      exact k_met ⟨s16, ⟨(congrArg (fun b => some (Value.bool b)) (Option.some.inj hx8)), trivial⟩, ⟨rfl, rfl, rfl, rfl, rfl, rfl, rfl, rfl, rfl, trivial⟩, rfl, hE17⟩
     ·
      have hx8 := ibF hx8 c18
      refine k_yes rfl rfl ?_
      refine k_load_blka (cs := [.int .i64 a1.Kind, .int .i64 a1.Num, S a1.Text, q1_0, q1_1]) agg25 rfl h2 rfl ?_
      refine k_yes rfl rfl ?_
      obtain ⟨x9, hx9, hx8⟩ := ob hx8
      refine k_call cal12 rfl (value_May_w  (clsApiValue a1 hq1_0 hq1_1) tb2 hx9) rfl ?_
      rintro s19 vr19 st19 rfl
      have szs19 := st19.size
      have hS := hS.trans0 st19
      have hE17 := hE17.trans0 st19
      refine k_yes rfl rfl ?_
      refine k_not rfl rfl ?_
      refine k_pickF rfl rfl rfl rfl ?_
      exact k_met ⟨s19, ⟨(congrArg (fun b => some (Value.bool b)) (Option.some.inj hx8)), trivial⟩, ⟨rfl, rfl, rfl, rfl, rfl, rfl, rfl, rfl, rfl, trivial⟩, rfl, hE17⟩
    ·
     rintro s20 wL ⟨rfl, hE17⟩
     have szs20 := hE17.size
     have hS := hS.trans0 hE17
     replace hq0_0 := hq0_0.up2 hE17
     replace hq0_1 := hq0_1.up2 hE17
     replace h1 := h1.up2 hE17
     replace hq1_0 := hq1_0.up2 hE17
     replace hq1_1 := hq1_1.up2 hE17
     replace h2 := h2.up2 hE17
     replace hq2_0 := hq2_0.up2 hE17
     replace hq2_1 := hq2_1.up2 hE17
     replace h3 := h3.up2 hE17
     replace tb2 := tb2.up2 hE17
     replace tb0 := tb0.up2 hE17
     replace tb1 := tb1.up2 hE17
     refine k_move rfl rfl ?_
     obtain ⟨x10, hx10, h⟩ := ob h
     have hE21 := Step.r0 K0 s20
     refine k_cutl (X := St) 4 [(3, .pointer (some ⟨b1, 0, none⟩)), (4, .pointer (some ⟨b2, 0, none⟩)), (5, .pointer (some ⟨b3, 0, none⟩)), (6, .bool false), (9, .agg #[.int .i64 a0.Kind, .int .i64 a0.Num, S a0.Text, q0_0, q0_1]), (10, .bool x1), (14, .bool x2), (18, .bool x4), (23, .bool x6), (28, .bool x8)] (fun _ => [(33, .bool x10)]) (fun sl wL => sl.w = wL ∧ Step K0 s20 sl) ?_ ?_
     ·
      refine k_again 29 rfl ?_
      refine k_splitb (fun c22 => ?_) (fun c22 => ?_)
      ·
       have hx10 := ibT hx10 c22
       refine k_no rfl rfl rfl rfl ?_
       refine k_no rfl rfl rfl rfl ?_
       refine k_no rfl rfl rfl rfl ?_
       refine k_pickT rfl rfl rfl rfl ?_
       exact k_met ⟨s20, ⟨(congrArg (fun b => some (Value.bool b)) (Option.some.inj hx10)), trivial⟩, ⟨rfl, rfl, rfl, rfl, rfl, rfl, rfl, rfl, rfl, rfl, trivial⟩, rfl, hE21⟩
      ·
       have hx10 := ibF hx10 c22
       refine k_yes rfl rfl ?_
       refine k_load_blka (cs := [.int .i64 a2.Kind, .int .i64 a2.Num, S a2.Text, q2_0, q2_1]) agg25 rfl h3 rfl ?_
       refine k_yes rfl rfl ?_
       obtain ⟨x11, hx11, hx10⟩ := ob hx10
       refine k_call cal12 rfl (value_May_w  (clsApiValue a2 hq2_0 hq2_1) tb2 hx11) rfl ?_
       rintro s23 vr23 st23 rfl
       have szs23 := st23.size
       have hS := hS.trans0 st23
       have hE21 := hE21.trans0 st23
       refine k_yes rfl rfl ?_
       refine k_not rfl rfl ?_
       refine k_pickF rfl rfl rfl rfl ?_
       exact k_met ⟨s23, ⟨(congrArg (fun b => some (Value.bool b)) (Option.some.inj hx10)), trivial⟩, ⟨rfl, rfl, rfl, rfl, rfl, rfl, rfl, rfl, rfl, rfl, trivial⟩, rfl, hE21⟩
     ·
      rintro s24 wL ⟨rfl, hE21⟩
      have szs24 := hE21.size
      have hS := hS.trans0 hE21
      replace hq0_0 := hq0_0.up2 hE21
      replace hq0_1 := hq0_1.up2 hE21
      replace h1 := h1.up2 hE21
      replace hq1_0 := hq1_0.up2 hE21
      replace hq1_1 := hq1_1.up2 hE21
      replace h2 := h2.up2 hE21
      replace hq2_0 := hq2_0.up2 hE21
      replace hq2_1 := hq2_1.up2 hE21
      replace h3 := h3.up2 hE21
      replace tb2 := tb2.up2 hE21
      replace tb0 := tb0.up2 hE21
      replace tb1 := tb1.up2 hE21
      refine k_nil ?_
      refine k_keep [(3, _), (4, _), (5, _), (6, _), (33, _)] ⟨rfl, rfl, rfl, rfl, rfl, trivial⟩ ?_
      refine k_cond rfl (fun c25 => ?_) (fun c25 => ?_)
      ·
       have h := ibT h c25
       refine k_seq ?_
       refine k_region ?_
       obtain ⟨x12, hx12, h⟩ := ob h
       refine k_call cal8 rfl (law01_awake_w  tb0 tb1 tb2 hx12) rfl ?_
       rintro s26 vr26 st26 rfl
       have szs26 := st26.size
       have hS := hS.trans0 st26
       refine k_assign rfl rfl ?_
       refine k_nil ?_
       refine k_keep [(3, _), (4, _), (5, _), (6, _)] ⟨rfl, rfl, rfl, rfl, trivial⟩ ?_
       refine k_ret ?_
       obtain rfl := Option.some.inj h
       refine ⟨_, rfl, Ret.mk hS ?_⟩
       exact rfl
      ·
       have h := ibF h c25
       refine k_skip ?_
       refine k_seq ?_
       refine k_keep [(3, _), (4, _), (5, _), (6, _)] ⟨rfl, rfl, rfl, rfl, trivial⟩ ?_
       refine k_drawT (KN s24.n) 5 (.read 0 (.read 1 (.read 3 (.read 4 (.alt 2 .fin .no))))) mixed (by intro c h; (try simp only [KC, KO, KU, KN, KB] at h) <;> omega) rfl rfl rfl ?_
       intro s27 st27
       have szs27 := st27.size
       have hS := hS.trans0 st27
       replace hq0_0 := hq0_0.up2 st27
       replace hq0_1 := hq0_1.up2 st27
       replace h1 := h1.up2 st27
       replace hq1_0 := hq1_0.up2 st27
       replace hq1_1 := hq1_1.up2 st27
       replace h2 := h2.up2 st27
       replace hq2_0 := hq2_0.up2 st27
       replace hq2_1 := hq2_1.up2 st27
       replace h3 := h3.up2 st27
       replace tb2 := tb2.up2 st27
       replace tb0 := tb0.up2 st27
       replace tb1 := tb1.up2 st27
       refine rt_read (.agg #[.int .i64 a0.Kind, .int .i64 a0.Num, S a0.Text, q0_0, q0_1]) rfl rfl (fun s28 st28 => ?_) ?_
       ·try replace h1 := h1.up2 st28
        refine k_load_blka (cs := [.int .i64 a0.Kind, .int .i64 a0.Num, S a0.Text, q0_0, q0_1]) agg25 rfl h1 rfl ?_
        exact fq_end
       refine rt_read (.agg #[.int .i64 a1.Kind, .int .i64 a1.Num, S a1.Text, q1_0, q1_1]) rfl rfl (fun s29 st29 => ?_) ?_
       ·try replace h2 := h2.up2 st29
        refine k_load_blka (cs := [.int .i64 a1.Kind, .int .i64 a1.Num, S a1.Text, q1_0, q1_1]) agg25 rfl h2 rfl ?_
        exact fq_end
       refine rt_read (.agg #[.int .i64 a1.Kind, .int .i64 a1.Num, S a1.Text, q1_0, q1_1]) rfl rfl (fun s30 st30 => ?_) ?_
       ·try replace h2 := h2.up2 st30
        refine k_load_blka (cs := [.int .i64 a1.Kind, .int .i64 a1.Num, S a1.Text, q1_0, q1_1]) agg25 rfl h2 rfl ?_
        exact fq_end
       refine rt_read (.agg #[.int .i64 a2.Kind, .int .i64 a2.Num, S a2.Text, q2_0, q2_1]) rfl rfl (fun s31 st31 => ?_) ?_
       ·try replace h3 := h3.up2 st31
        refine k_load_blka (cs := [.int .i64 a2.Kind, .int .i64 a2.Num, S a2.Text, q2_0, q2_1]) agg25 rfl h3 rfl ?_
        exact fq_end
       refine rt_act rfl rfl ?_
       have hA32 := Step.r0 (KN s24.n) s27
       obtain ⟨x13, hx13, h⟩ := ob h
       refine k_call cal9 rfl (value_Cmp_w  (clsApiValue a0 hq0_0 hq0_1) (clsApiValue a1 hq1_0 hq1_1) hx13) rfl ?_
       rintro s33 vr33 st33 rfl
       have szs33 := st33.size
       have hS := hS.trans0 st33
       have hA32 := hA32.trans0 st33
       replace hq0_0 := hq0_0.up2 st33
       replace hq0_1 := hq0_1.up2 st33
       replace hq1_0 := hq1_0.up2 st33
       replace hq1_1 := hq1_1.up2 st33
       replace hq2_0 := hq2_0.up2 st33
       replace hq2_1 := hq2_1.up2 st33
       replace h1 := h1.up2 st33
       replace h2 := h2.up2 st33
       replace h3 := h3.up2 st33
       replace tb2 := tb2.up2 st33
       replace tb0 := tb0.up2 st33
       replace tb1 := tb1.up2 st33
       refine rt_cont hA32 ?_
       refine rt_fin ?_
       obtain ⟨x14, hx14, h⟩ := ob h
       refine k_call cal9 rfl (value_Cmp_w  (clsApiValue a1 hq1_0 hq1_1) (clsApiValue a2 hq2_0 hq2_1) hx14) rfl ?_
       rintro s34 vr34 st34 rfl
       have szs34 := st34.size
       have hS := hS.trans0 st34
       replace hq0_0 := hq0_0.up2 st34
       replace hq0_1 := hq0_1.up2 st34
       replace hq1_0 := hq1_0.up2 st34
       replace hq1_1 := hq1_1.up2 st34
       replace hq2_0 := hq2_0.up2 st34
       replace hq2_1 := hq2_1.up2 st34
       replace h1 := h1.up2 st34
       replace h2 := h2.up2 st34
       replace h3 := h3.up2 st34
       replace tb2 := tb2.up2 st34
       replace tb0 := tb0.up2 st34
       replace tb1 := tb1.up2 st34
       refine k_assign rfl rfl ?_
       refine k_assign rfl rfl ?_
       refine k_nil ?_
       refine k_keep [(3, _), (4, _), (5, _), (6, _), (7, _), (8, _)] ⟨rfl, rfl, rfl, rfl, rfl, rfl, trivial⟩ ?_
       refine k_seq ?_
       refine k_seq ?_
       refine k_region ?_
       refine k_move rfl rfl ?_
       refine k_load_blka (cs := [.int .i64 a1.Kind, .int .i64 a1.Num, S a1.Text, q1_0, q1_1]) agg25 rfl h2 rfl ?_
       refine k_load_blka (cs := [.int .i64 a0.Kind, .int .i64 a0.Num, S a0.Text, q0_0, q0_1]) agg25 rfl h1 rfl ?_
       obtain ⟨x15, hx15, h⟩ := ob h
       refine k_call cal9 rfl (value_Cmp_w  (clsApiValue a1 hq1_0 hq1_1) (clsApiValue a0 hq0_0 hq0_1) hx15) rfl ?_
       rintro s35 vr35 st35 rfl
       have szs35 := st35.size
       have hS := hS.trans0 st35
       replace hq1_0 := hq1_0.up2 st35
       replace hq1_1 := hq1_1.up2 st35
       replace hq0_0 := hq0_0.up2 st35
       replace hq0_1 := hq0_1.up2 st35
       replace h1 := h1.up2 st35
       replace h2 := h2.up2 st35
       replace hq2_0 := hq2_0.up2 st35
       replace hq2_1 := hq2_1.up2 st35
       replace h3 := h3.up2 st35
       replace tb2 := tb2.up2 st35
       replace tb0 := tb0.up2 st35
       replace tb1 := tb1.up2 st35
       refine k_neg rfl rfl ?_
       refine k_neq rfl rfl rfl ?_
       refine k_move rfl rfl ?_
       obtain ⟨x16, hx16, h⟩ := ob h
       have hE36 := Step.r0 K0 s35
       refine k_cutl (X := St) 7 [(3, .pointer (some ⟨b1, 0, none⟩)), (4, .pointer (some ⟨b2, 0, none⟩)), (5, .pointer (some ⟨b3, 0, none⟩)), (6, .bool false), (7, .int .i64 x13), (8, .int .i64 x14), (41, .int .i64 x13), (42, .agg #[.int .i64 a1.Kind, .int .i64 a1.Num, S a1.Text, q1_0, q1_1]), (43, .agg #[.int .i64 a0.Kind, .int .i64 a0.Num, S a0.Text, q0_0, q0_1]), (44, .int .i64 x15), (45, .int .i64 (i64 (0 - x15))), (46, .bool (decide (x13 ≠ i64 (0 - x15))))] (fun _ => [(54, .bool x16)]) (fun sl wL => sl.w = wL ∧ Step K0 s35 sl) ?_ ?_
       ·
        refine k_again 47 rfl ?_
        refine k_split (fun c37 => ?_) (fun c37 => ?_)
        ·
         have hx16 := itT hx16 c37
         refine k_no rfl rfl rfl rfl ?_
         refine k_no rfl rfl rfl rfl ?_
         refine k_no rfl rfl rfl rfl ?_
         refine k_no rfl rfl rfl rfl ?_
         refine k_no rfl rfl rfl rfl ?_
         refine k_no rfl rfl rfl rfl ?_
         refine k_pickT rfl rfl rfl rfl ?_
         exact k_met ⟨s35, ⟨(congrArg (fun b => some (Value.bool b)) (Option.some.inj hx16)), trivial⟩, ⟨rfl, rfl, rfl, rfl, rfl, rfl, rfl, rfl, rfl, rfl, rfl, rfl, trivial⟩, rfl, hE36⟩
        ·
         have hx16 := itF hx16 c37
         refine k_yes rfl rfl ?_
         refine k_move rfl rfl ?_
         refine k_yes rfl rfl ?_
         refine k_eql rfl rfl rfl ?_
         refine k_yes rfl rfl ?_
         refine k_load_blka (cs := [.int .i64 a0.Kind, .int .i64 a0.Num, S a0.Text, q0_0, q0_1]) agg25 rfl h1 rfl ?_
         refine k_yes rfl rfl ?_
         refine k_load_blka (cs := [.int .i64 a1.Kind, .int .i64 a1.Num, S a1.Text, q1_0, q1_1]) agg25 rfl h2 rfl ?_
         refine k_yes rfl rfl ?_
         obtain ⟨x17, hx17, hx16⟩ := ob hx16
         refine k_call cal13 rfl (value_Same_w  (clsApiValue a0 hq0_0 hq0_1) (clsApiValue a1 hq1_0 hq1_1) hx17) rfl ?_
         rintro s38 vr38 st38 rfl
         have szs38 := st38.size
         have hS := hS.trans0 st38
         have hE36 := hE36.trans0 st38
         refine k_yes rfl rfl ?_
         refine k_neqb Tryz.underlying4 rfl rfl rfl ?_
         refine k_pickF rfl rfl rfl rfl ?_
         exact k_met ⟨s38, ⟨(congrArg (fun b => some (Value.bool b)) (Option.some.inj hx16)), trivial⟩, ⟨rfl, rfl, rfl, rfl, rfl, rfl, rfl, rfl, rfl, rfl, rfl, rfl, trivial⟩, rfl, hE36⟩
       ·
        rintro s39 wL ⟨rfl, hE36⟩
        have szs39 := hE36.size
        have hS := hS.trans0 hE36
        replace hq0_0 := hq0_0.up2 hE36
        replace hq0_1 := hq0_1.up2 hE36
        replace h1 := h1.up2 hE36
        replace hq2_0 := hq2_0.up2 hE36
        replace hq2_1 := hq2_1.up2 hE36
        replace h3 := h3.up2 hE36
        replace tb2 := tb2.up2 hE36
        replace tb0 := tb0.up2 hE36
        replace tb1 := tb1.up2 hE36
        refine k_move rfl rfl ?_
        have hE40 := Step.r0 K0 s39
        refine k_cutl (X := St) 3 [(3, .pointer (some ⟨b1, 0, none⟩)), (4, .pointer (some ⟨b2, 0, none⟩)), (5, .pointer (some ⟨b3, 0, none⟩)), (6, .bool false), (7, .int .i64 x13), (8, .int .i64 x14), (41, .int .i64 x13), (42, .agg #[.int .i64 a1.Kind, .int .i64 a1.Num, S a1.Text, q1_0, q1_1]), (43, .agg #[.int .i64 a0.Kind, .int .i64 a0.Num, S a0.Text, q0_0, q0_1]), (44, .int .i64 x15), (45, .int .i64 (i64 (0 - x15))), (46, .bool (decide (x13 ≠ i64 (0 - x15)))), (54, .bool x16)] (fun _ => [(58, .bool (decide ((x16 = true) ∨ (x13 < (-1)))))]) (fun sl wL => sl.w = wL ∧ Step K0 s39 sl) ?_ ?_
        ·
         refine k_again 55 rfl ?_
         refine k_splitb (fun c41 => ?_) (fun c41 => ?_)
         ·
          refine k_no rfl rfl rfl rfl ?_
          refine k_no rfl rfl rfl rfl ?_
          refine k_pickT rfl rfl rfl rfl ?_
          exact k_met ⟨s39, ⟨(congrArg (fun b => some (Value.bool b)) (by first | exact decide_eq_decide.2 ⟨Or.inr, fun h => h.resolve_left c41⟩ | exact (decide_eq_true (Or.inl c41)).symm | (simp [c41]; done) | (simp [c41, i64] <;> omega))), trivial⟩, ⟨rfl, rfl, rfl, rfl, rfl, rfl, rfl, rfl, rfl, rfl, rfl, rfl, rfl, trivial⟩, rfl, hE40⟩
         ·
          refine k_yes rfl rfl ?_
          refine k_move rfl rfl ?_
          refine k_yes rfl rfl ?_
          refine k_lss rfl rfl rfl ?_
          refine k_pickF rfl rfl rfl rfl ?_
          exact k_met ⟨s39, ⟨(congrArg (fun b => some (Value.bool b)) (by first | exact decide_eq_decide.2 ⟨Or.inr, fun h => h.resolve_left c41⟩ | exact (decide_eq_true (Or.inl c41)).symm | (simp [c41]; done) | (simp [c41, i64] <;> omega))), trivial⟩, ⟨rfl, rfl, rfl, rfl, rfl, rfl, rfl, rfl, rfl, rfl, rfl, rfl, rfl, trivial⟩, rfl, hE40⟩
        ·
         rintro s42 wL ⟨rfl, hE40⟩
         have szs42 := hE40.size
         have hS := hS.trans0 hE40
         replace hq0_0 := hq0_0.up2 hE40
         replace hq0_1 := hq0_1.up2 hE40
         replace h1 := h1.up2 hE40
         replace hq2_0 := hq2_0.up2 hE40
         replace hq2_1 := hq2_1.up2 hE40
         replace h3 := h3.up2 hE40
         replace tb2 := tb2.up2 hE40
         replace tb0 := tb0.up2 hE40
         replace tb1 := tb1.up2 hE40
         refine k_move rfl rfl ?_
         have hE43 := Step.r0 K0 s42
         refine k_cutl (X := St) 3 [(3, .pointer (some ⟨b1, 0, none⟩)), (4, .pointer (some ⟨b2, 0, none⟩)), (5, .pointer (some ⟨b3, 0, none⟩)), (6, .bool false), (7, .int .i64 x13), (8, .int .i64 x14), (41, .int .i64 x13), (42, .agg #[.int .i64 a1.Kind, .int .i64 a1.Num, S a1.Text, q1_0, q1_1]), (43, .agg #[.int .i64 a0.Kind, .int .i64 a0.Num, S a0.Text, q0_0, q0_1]), (44, .int .i64 x15), (45, .int .i64 (i64 (0 - x15))), (46, .bool (decide (x13 ≠ i64 (0 - x15)))), (54, .bool x16), (58, .bool (decide ((x16 = true) ∨ (x13 < (-1)))))] (fun _ => [(62, .bool (decide (((x16 = true) ∨ (x13 < (-1))) ∨ (1 < x13))))]) (fun sl wL => sl.w = wL ∧ Step K0 s42 sl) ?_ ?_
         ·
          refine k_again 59 rfl ?_
          refine k_split (fun c44 => ?_) (fun c44 => ?_)
          ·
           refine k_no rfl rfl rfl rfl ?_
           refine k_no rfl rfl rfl rfl ?_
           refine k_pickT rfl rfl rfl rfl ?_
           exact k_met ⟨s42, ⟨(congrArg (fun b => some (Value.bool b)) (by first | exact decide_eq_decide.2 ⟨Or.inr, fun h => h.resolve_left c44⟩ | exact (decide_eq_true (Or.inl c44)).symm | (simp [c44]; done) | (simp [c44, i64] <;> omega))), trivial⟩, ⟨rfl, rfl, rfl, rfl, rfl, rfl, rfl, rfl, rfl, rfl, rfl, rfl, rfl, rfl, trivial⟩, rfl, hE43⟩
          ·
           refine k_yes rfl rfl ?_
           refine k_move rfl rfl ?_
           refine k_yes rfl rfl ?_
           refine k_gtr rfl rfl rfl ?_
           refine k_pickF rfl rfl rfl rfl ?_
           exact k_met ⟨s42, ⟨(congrArg (fun b => some (Value.bool b)) (by first | exact decide_eq_decide.2 ⟨Or.inr, fun h => h.resolve_left c44⟩ | exact (decide_eq_true (Or.inl c44)).symm | (simp [c44]; done) | (simp [c44, i64] <;> omega))), trivial⟩, ⟨rfl, rfl, rfl, rfl, rfl, rfl, rfl, rfl, rfl, rfl, rfl, rfl, rfl, rfl, trivial⟩, rfl, hE43⟩
         ·
          rintro s45 wL ⟨rfl, hE43⟩
          have szs45 := hE43.size
          have hS := hS.trans0 hE43
          replace hq0_0 := hq0_0.up2 hE43
          replace hq0_1 := hq0_1.up2 hE43
          replace h1 := h1.up2 hE43
          replace hq2_0 := hq2_0.up2 hE43
          replace hq2_1 := hq2_1.up2 hE43
          replace h3 := h3.up2 hE43
          replace tb2 := tb2.up2 hE43
          replace tb0 := tb0.up2 hE43
          replace tb1 := tb1.up2 hE43
          refine k_nil ?_
          refine k_keep [(3, _), (5, _), (6, _), (7, _), (8, _), (62, _)] ⟨rfl, rfl, rfl, rfl, rfl, rfl, trivial⟩ ?_
          refine k_cond_dec rfl (fun c46 => ?_) (fun c46 => ?_)
          ·
           have h := itT h c46
           refine k_seq ?_
           refine k_region ?_
           refine k_assign rfl rfl ?_
           refine k_nil ?_
           refine k_keep [(3, _), (5, _), (6, _), (7, _), (8, _)] ⟨rfl, rfl, rfl, rfl, rfl, trivial⟩ ?_
           refine k_ret ?_
           obtain rfl := Option.some.inj h
           refine ⟨_, rfl, Ret.mk hS ?_⟩
           exact rfl
          ·
           have h := itF h c46
           refine k_skip ?_
           refine k_seq ?_
           refine k_region ?_
           refine k_move rfl rfl ?_
           refine k_gtr rfl rfl rfl ?_
           refine k_move rfl rfl ?_
           have hE47 := Step.r0 K0 s45
           refine k_cutl (X := St) 3 [(3, .pointer (some ⟨b1, 0, none⟩)), (5, .pointer (some ⟨b3, 0, none⟩)), (6, .bool false), (7, .int .i64 x13), (8, .int .i64 x14), (62, .bool (decide (((x16 = true) ∨ (x13 < (-1))) ∨ (1 < x13)))), (63, .int .i64 x13), (64, .bool (decide (0 < x13)))] (fun _ => [(68, .bool (decide ((0 < x13) ∨ (0 < x14))))]) (fun sl wL => sl.w = wL ∧ Step K0 s45 sl) ?_ ?_
           ·
            refine k_again 65 rfl ?_
            refine k_split (fun c48 => ?_) (fun c48 => ?_)
            ·
             refine k_no rfl rfl rfl rfl ?_
             refine k_no rfl rfl rfl rfl ?_
             refine k_pickT rfl rfl rfl rfl ?_
             exact k_met ⟨s45, ⟨(congrArg (fun b => some (Value.bool b)) (by first | exact decide_eq_decide.2 ⟨Or.inr, fun h => h.resolve_left c48⟩ | exact (decide_eq_true (Or.inl c48)).symm | (simp [c48]; done) | (simp [c48, i64] <;> omega))), trivial⟩, ⟨rfl, rfl, rfl, rfl, rfl, rfl, rfl, rfl, trivial⟩, rfl, hE47⟩
            ·
             refine k_yes rfl rfl ?_
             refine k_move rfl rfl ?_
             refine k_yes rfl rfl ?_
             refine k_gtr rfl rfl rfl ?_
             refine k_pickF rfl rfl rfl rfl ?_
             exact k_met ⟨s45, ⟨(congrArg (fun b => some (Value.bool b)) (by first | exact decide_eq_decide.2 ⟨Or.inr, fun h => h.resolve_left c48⟩ | exact (decide_eq_true (Or.inl c48)).symm | (simp [c48]; done) | (simp [c48, i64] <;> omega))), trivial⟩, ⟨rfl, rfl, rfl, rfl, rfl, rfl, rfl, rfl, trivial⟩, rfl, hE47⟩
           ·
            rintro s49 wL ⟨rfl, hE47⟩
            have szs49 := hE47.size
            have hS := hS.trans0 hE47
            replace hq0_0 := hq0_0.up2 hE47
            replace hq0_1 := hq0_1.up2 hE47
            replace h1 := h1.up2 hE47
            replace hq2_0 := hq2_0.up2 hE47
            replace hq2_1 := hq2_1.up2 hE47
            replace h3 := h3.up2 hE47
            replace tb2 := tb2.up2 hE47
            replace tb0 := tb0.up2 hE47
            replace tb1 := tb1.up2 hE47
            refine k_move rfl rfl ?_
            obtain ⟨x18, hx18, h⟩ := ob h
            have hE50 := Step.r0 K0 s49
            refine k_cutl (X := St) 5 [(3, .pointer (some ⟨b1, 0, none⟩)), (5, .pointer (some ⟨b3, 0, none⟩)), (6, .bool false), (7, .int .i64 x13), (8, .int .i64 x14), (62, .bool (decide (((x16 = true) ∨ (x13 < (-1))) ∨ (1 < x13)))), (63, .int .i64 x13), (64, .bool (decide (0 < x13))), (68, .bool (decide ((0 < x13) ∨ (0 < x14))))] (fun _ => [(74, .bool x18)]) (fun sl wL => sl.w = wL ∧ Step K0 s49 sl) ?_ ?_
            ·
             refine k_again 69 rfl ?_
             refine k_split (fun c51 => ?_) (fun c51 => ?_)
             ·
              have hx18 := itT hx18 c51
              refine k_no rfl rfl rfl rfl ?_
              refine k_no rfl rfl rfl rfl ?_
              refine k_no rfl rfl rfl rfl ?_
              refine k_no rfl rfl rfl rfl ?_
              refine k_pickT rfl rfl rfl rfl ?_
              exact k_met ⟨s49, ⟨(congrArg (fun b => some (Value.bool b)) (Option.some.inj hx18)), trivial⟩, ⟨rfl, rfl, rfl, rfl, rfl, rfl, rfl, rfl, rfl, trivial⟩, rfl, hE50⟩
             ·
              have hx18 := itF hx18 c51
              refine k_yes rfl rfl ?_
              refine k_load_blka (cs := [.int .i64 a0.Kind, .int .i64 a0.Num, S a0.Text, q0_0, q0_1]) agg25 rfl h1 rfl ?_
              refine k_yes rfl rfl ?_
              refine k_load_blka (cs := [.int .i64 a2.Kind, .int .i64 a2.Num, S a2.Text, q2_0, q2_1]) agg25 rfl h3 rfl ?_
              refine k_yes rfl rfl ?_
              obtain ⟨x19, hx19, hx18⟩ := ob hx18
              refine k_call cal9 rfl (value_Cmp_w  (clsApiValue a0 hq0_0 hq0_1) (clsApiValue a2 hq2_0 hq2_1) hx19) rfl ?_
              rintro s52 vr52 st52 rfl
              have szs52 := st52.size
              have hS := hS.trans0 st52
              have hE50 := hE50.trans0 st52
              refine k_yes rfl rfl ?_
              refine k_leq rfl rfl rfl ?_
              refine k_pickF rfl rfl rfl rfl ?_
              exact k_met ⟨s52, ⟨(congrArg (fun b => some (Value.bool b)) (Option.some.inj hx18)), trivial⟩, ⟨rfl, rfl, rfl, rfl, rfl, rfl, rfl, rfl, rfl, trivial⟩, rfl, hE50⟩
            ·
             rintro s53 wL ⟨rfl, hE50⟩
             have szs53 := hE50.size
             have hS := hS.trans0 hE50
             replace hq0_0 := hq0_0.up2 hE50
             replace hq0_1 := hq0_1.up2 hE50
             replace h1 := h1.up2 hE50
             replace hq2_0 := hq2_0.up2 hE50
             replace hq2_1 := hq2_1.up2 hE50
             replace h3 := h3.up2 hE50
             replace tb2 := tb2.up2 hE50
             replace tb0 := tb0.up2 hE50
             replace tb1 := tb1.up2 hE50
             refine k_move rfl rfl ?_
             obtain ⟨x20, hx20, h⟩ := ob h
             have hE54 := Step.r0 K0 s53
             refine k_cutl (X := St) 13 [(3, .pointer (some ⟨b1, 0, none⟩)), (5, .pointer (some ⟨b3, 0, none⟩)), (6, .bool false), (7, .int .i64 x13), (8, .int .i64 x14), (62, .bool (decide (((x16 = true) ∨ (x13 < (-1))) ∨ (1 < x13)))), (63, .int .i64 x13), (64, .bool (decide (0 < x13))), (68, .bool (decide ((0 < x13) ∨ (0 < x14)))), (74, .bool x18)] (fun _ => [(88, .bool x20)]) (fun sl wL => sl.w = wL ∧ Step K0 s53 sl) ?_ ?_
             ·
              refine k_again 75 rfl ?_
              refine k_splitb (fun c55 => ?_) (fun c55 => ?_)
              ·
               have hx20 := ibT hx20 c55
               refine k_yes rfl rfl ?_
               refine k_move rfl rfl ?_
               refine k_yes rfl rfl ?_
               refine k_geq rfl rfl rfl ?_
               refine k_yes rfl rfl ?_
               refine k_move rfl rfl ?_
               have hE56 := Step.r0 K0 s53
               refine k_cutl (X := St) 3 [(3, .pointer (some ⟨b1, 0, none⟩)), (5, .pointer (some ⟨b3, 0, none⟩)), (6, .bool false), (7, .int .i64 x13), (8, .int .i64 x14), (62, .bool (decide (((x16 = true) ∨ (x13 < (-1))) ∨ (1 < x13)))), (63, .int .i64 x13), (64, .bool (decide (0 < x13))), (68, .bool (decide ((0 < x13) ∨ (0 < x14)))), (74, .bool x18), (75, .bool true), (76, .int .i64 x13), (77, .bool (decide (0 ≤ x13)))] (fun _ => [(81, .bool (decide ((0 ≤ x13) ∨ (0 < x14))))]) (fun sl wL => sl.w = wL ∧ Step K0 s53 sl) ?_ ?_
               ·
                refine k_again 78 rfl ?_
                refine k_split (fun c57 => ?_) (fun c57 => ?_)
                ·
                 refine k_no rfl rfl rfl rfl ?_
                 refine k_no rfl rfl rfl rfl ?_
                 refine k_yes rfl rfl ?_
                 refine k_pickT rfl rfl rfl rfl ?_
                 exact k_met ⟨s53, ⟨(congrArg (fun b => some (Value.bool b)) (by first | exact decide_eq_decide.2 ⟨Or.inr, fun h => h.resolve_left c57⟩ | exact (decide_eq_true (Or.inl c57)).symm | (simp [c57]; done) | (simp [c57, i64] <;> omega))), trivial⟩, ⟨rfl, rfl, rfl, rfl, rfl, rfl, rfl, rfl, rfl, rfl, rfl, rfl, rfl, trivial⟩, rfl, hE56⟩
                ·
                 refine k_yes rfl rfl ?_
                 refine k_move rfl rfl ?_
                 refine k_yes rfl rfl ?_
                 refine k_gtr rfl rfl rfl ?_
                 refine k_yes rfl rfl ?_
                 refine k_pickF rfl rfl rfl rfl ?_
                 exact k_met ⟨s53, ⟨(congrArg (fun b => some (Value.bool b)) (by first | exact decide_eq_decide.2 ⟨Or.inr, fun h => h.resolve_left c57⟩ | exact (decide_eq_true (Or.inl c57)).symm | (simp [c57]; done) | (simp [c57, i64] <;> omega))), trivial⟩, ⟨rfl, rfl, rfl, rfl, rfl, rfl, rfl, rfl, rfl, rfl, rfl, rfl, rfl, trivial⟩, rfl, hE56⟩
               ·
                rintro s58 wL ⟨rfl, hE56⟩
                have szs58 := hE56.size
                have hS := hS.trans0 hE56
                have hE54 := hE54.trans0 hE56
                replace hq0_0 := hq0_0.up2 hE56
                replace hq0_1 := hq0_1.up2 hE56
                replace h1 := h1.up2 hE56
                replace hq2_0 := hq2_0.up2 hE56
                replace hq2_1 := hq2_1.up2 hE56
                replace h3 := h3.up2 hE56
                refine k_yes rfl rfl ?_
                refine k_move rfl rfl ?_
                obtain ⟨x21, hx21, hx20⟩ := ob hx20
                have hE59 := Step.r0 K0 s58
                refine k_cutl (X := St) 5 [(3, .pointer (some ⟨b1, 0, none⟩)), (5, .pointer (some ⟨b3, 0, none⟩)), (6, .bool false), (7, .int .i64 x13), (8, .int .i64 x14), (62, .bool (decide (((x16 = true) ∨ (x13 < (-1))) ∨ (1 < x13)))), (63, .int .i64 x13), (64, .bool (decide (0 < x13))), (68, .bool (decide ((0 < x13) ∨ (0 < x14)))), (74, .bool x18), (75, .bool true), (76, .int .i64 x13), (77, .bool (decide (0 ≤ x13))), (81, .bool (decide ((0 ≤ x13) ∨ (0 < x14))))] (fun _ => [(87, .bool x21)]) (fun sl wL => sl.w = wL ∧ Step K0 s58 sl) ?_ ?_
                ·
                 refine k_again 82 rfl ?_
                 refine k_split (fun c60 => ?_) (fun c60 => ?_)
                 ·
                  have hx21 := itT hx21 c60
                  refine k_no rfl rfl rfl rfl ?_
                  refine k_no rfl rfl rfl rfl ?_
                  refine k_no rfl rfl rfl rfl ?_
                  refine k_no rfl rfl rfl rfl ?_
                  refine k_yes rfl rfl ?_
                  refine k_pickT rfl rfl rfl rfl ?_
                  exact k_met ⟨s58, ⟨(congrArg (fun b => some (Value.bool b)) (Option.some.inj hx21)), trivial⟩, ⟨rfl, rfl, rfl, rfl, rfl, rfl, rfl, rfl, rfl, rfl, rfl, rfl, rfl, rfl, trivial⟩, rfl, hE59⟩
                 ·
                  have hx21 := itF hx21 c60
                  refine k_yes rfl rfl ?_
                  refine k_load_blka (cs := [.int .i64 a0.Kind, .int .i64 a0.Num, S a0.Text, q0_0, q0_1]) agg25 rfl h1 rfl ?_
                  refine k_yes rfl rfl ?_
                  refine k_load_blka (cs := [.int .i64 a2.Kind, .int .i64 a2.Num, S a2.Text, q2_0, q2_1]) agg25 rfl h3 rfl ?_
                  refine k_yes rfl rfl ?_
                  obtain ⟨x22, hx22, hx21⟩ := ob hx21
                  refine k_call cal9 rfl (value_Cmp_w  (clsApiValue a0 hq0_0 hq0_1) (clsApiValue a2 hq2_0 hq2_1) hx22) rfl ?_
                  rintro s61 vr61 st61 rfl
                  have szs61 := st61.size
                  have hS := hS.trans0 st61
                  have hE54 := hE54.trans0 st61
                  have hE59 := hE59.trans0 st61
                  refine k_yes rfl rfl ?_
                  refine k_lss rfl rfl rfl ?_
                  refine k_yes rfl rfl ?_
                  refine k_pickF rfl rfl rfl rfl ?_
                  exact k_met ⟨s61, ⟨(congrArg (fun b => some (Value.bool b)) (Option.some.inj hx21)), trivial⟩, ⟨rfl, rfl, rfl, rfl, rfl, rfl, rfl, rfl, rfl, rfl, rfl, rfl, rfl, rfl, trivial⟩, rfl, hE59⟩
                ·
                 rintro s62 wL ⟨rfl, hE59⟩
                 have szs62 := hE59.size
                 have hS := hS.trans0 hE59
                 have hE54 := hE54.trans0 hE59
                 refine k_pickT rfl rfl rfl rfl ?_
                 exact k_met ⟨s62, ⟨(congrArg (fun b => some (Value.bool b)) (Option.some.inj hx20)), trivial⟩, ⟨rfl, rfl, rfl, rfl, rfl, rfl, rfl, rfl, rfl, rfl, trivial⟩, rfl, hE54⟩
              ·
               have hx20 := ibF hx20 c55
               refine k_no rfl rfl rfl rfl ?_
               refine k_no rfl rfl rfl rfl ?_
               refine k_no rfl rfl rfl rfl ?_
               refine k_nou rfl rfl rfl rfl ?_
               refine k_nou rfl rfl rfl rfl ?_
               refine k_no rfl rfl rfl rfl ?_
               refine k_no rfl rfl rfl rfl ?_
               refine k_nou rfl rfl rfl rfl ?_
               refine k_nou rfl rfl rfl rfl ?_
               refine k_nou rfl rfl rfl rfl ?_
               refine k_nou rfl rfl rfl rfl ?_
               refine k_no rfl rfl rfl rfl ?_
               refine k_pickF rfl rfl rfl rfl ?_
               exact k_met ⟨s53, ⟨(congrArg (fun b => some (Value.bool b)) (Option.some.inj hx20)), trivial⟩, ⟨rfl, rfl, rfl, rfl, rfl, rfl, rfl, rfl, rfl, rfl, trivial⟩, rfl, hE54⟩
             ·
              rintro s63 wL ⟨rfl, hE54⟩
              have szs63 := hE54.size
              have hS := hS.trans0 hE54
              replace tb2 := tb2.up2 hE54
              replace tb0 := tb0.up2 hE54
              replace tb1 := tb1.up2 hE54
              refine k_move rfl rfl ?_
              obtain ⟨x23, hx23, h⟩ := ob h
              have hE64 := Step.r0 K0 s63
              refine k_cutl (X := St) 2 [(3, .pointer (some ⟨b1, 0, none⟩)), (5, .pointer (some ⟨b3, 0, none⟩)), (6, .bool false), (7, .int .i64 x13), (8, .int .i64 x14), (62, .bool (decide (((x16 = true) ∨ (x13 < (-1))) ∨ (1 < x13)))), (63, .int .i64 x13), (64, .bool (decide (0 < x13))), (68, .bool (decide ((0 < x13) ∨ (0 < x14)))), (74, .bool x18), (88, .bool x20)] (fun _ => [(91, .bool x23)]) (fun sl wL => sl.w = wL ∧ Step K0 s63 sl) ?_ ?_
              ·
               refine k_again 89 rfl ?_
               refine k_splitb (fun c65 => ?_) (fun c65 => ?_)
               ·
                have hx23 := ibT hx23 c65
                refine k_yes rfl rfl ?_
                obtain ⟨x24, hx24, hx23⟩ := ob hx23
                refine k_call cal8 rfl (law01_awake_w  tb0 tb1 tb2 hx24) rfl ?_
                rintro s66 vr66 st66 rfl
                have szs66 := st66.size
                have hS := hS.trans0 st66
                have hE64 := hE64.trans0 st66
                refine k_pickT rfl rfl rfl rfl ?_
                exact k_met ⟨s66, ⟨(congrArg (fun b => some (Value.bool b)) (Option.some.inj hx23)), trivial⟩, ⟨rfl, rfl, rfl, rfl, rfl, rfl, rfl, rfl, rfl, rfl, rfl, trivial⟩, rfl, hE64⟩
               ·
                have hx23 := ibF hx23 c65
                refine k_no rfl rfl rfl rfl ?_
                refine k_pickF rfl rfl rfl rfl ?_
                exact k_met ⟨s63, ⟨(congrArg (fun b => some (Value.bool b)) (Option.some.inj hx23)), trivial⟩, ⟨rfl, rfl, rfl, rfl, rfl, rfl, rfl, rfl, rfl, rfl, rfl, trivial⟩, rfl, hE64⟩
              ·
               rintro s67 wL ⟨rfl, hE64⟩
               have szs67 := hE64.size
               have hS := hS.trans0 hE64
               refine k_assign rfl rfl ?_
               refine k_nil ?_
               refine k_keep [(6, _)] ⟨rfl, trivial⟩ ?_
               refine k_ret ?_
               obtain rfl := Option.some.inj h
               refine ⟨_, rfl, Ret.mk hS ?_⟩
               exact rfl
end Go.Proofs
