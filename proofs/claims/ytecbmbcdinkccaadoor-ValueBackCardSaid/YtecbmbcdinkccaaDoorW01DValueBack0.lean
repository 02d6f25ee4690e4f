import Derived.Test.YtecbmbcdinkccaaDoorF01D
set_option linter.unusedSimpArgs false
set_option linter.unusedVariables false
namespace Go.Proofs
open Go.Fw
set_option maxHeartbeats 1000000 in
set_option maxRecDepth 100000 in
theorem law01_parts_s_w {s : St} {cs0 : List Value} {a0 : ApiValue} {a1 : Int} {a70 : (ApiValue → Int → Option Int)} {r : Int} (hp0 : RC s cs0 (dApiValue a0)) (ih70 : ∀ {s : St} {cs0 : List Value} {a0 : ApiValue} {a1 : Int} {r : Int} (hp0 : RC s cs0 (dApiValue a0)) (h : a70 a0 a1 = some r), Calls Tryd.prog 10 #[.agg cs0.toArray, .int .i64 a1] s.w (Ret s K0 (fun s1 v => v = .int .i64 r))) (h : law01_parts_s a70 a0 a1 = some r) : Calls Tryd.prog 10 #[.agg cs0.toArray, .int .i64 a1] s.w (Ret s K0 (fun s1 v => v = .int .i64 r)) := by
 unfold law01_parts_s at h
 obtain ⟨q0_0, q0_1, rfl, hq0_0, hq0_1⟩ := opnApiValue hp0
 have hS := Step.r0 K0 s
 refine k_fn (rs := [4]) (args := [.agg #[.int .i64 a0.Kind, .int .i64 a0.Num, S a0.Text, q0_0, q0_1], .int .i64 a1]) Tryd.func10 rfl rfl rfl rfl ?_
 refine k_seq ?_
 refine k_region ?_
 refine k_box rfl rfl ?_
 intro s1 b1 st1 h1 ge1
 have szs1 := st1.size
 have hS := hS.trans0 st1
 replace hq0_0 := hq0_0.up2 st1
 replace hq0_1 := hq0_1.up2 st1
 have lt1 := h1.lt
 refine k_assign rfl rfl ?_
 refine k_nil ?_
 refine k_keep [(1, _), (2, _), (4, _)] ⟨rfl, rfl, rfl, trivial⟩ ?_
 refine k_seq ?_
 refine k_seq ?_
 refine k_region ?_
 refine k_move rfl rfl ?_
 refine k_lss rfl rfl rfl ?_
 refine k_move rfl rfl ?_
 have hE2 := Step.r0 K0 s1
 refine k_cutl (X := St) 5 [(1, .int .i64 a1), (2, .pointer (some ⟨b1, 0, none⟩)), (4, .int .i64 0), (8, .int .i64 a1), (9, .bool (decide (a1 < 1)))] (fun _ => [(15, .bool (decide ((a1 < 1) ∨ (3000 < (a0.List_.length : Int)))))]) (fun sl wL => sl.w = wL ∧ Step K0 s1 sl) ?_ ?_
 ·
  refine k_again 10 rfl ?_
  refine k_split (fun c3 => ?_) (fun c3 => ?_)
  ·
   refine k_no rfl rfl rfl rfl ?_
   refine k_no rfl rfl rfl rfl ?_
   refine k_no rfl rfl rfl rfl ?_
   refine k_no rfl rfl rfl rfl ?_
   refine k_pickT rfl rfl rfl rfl ?_
   exact k_met ⟨s1, ⟨(congrArg (fun b => some (Value.bool b)) (by first | exact decide_eq_decide.2 ⟨Or.inr, fun h => h.resolve_left c3⟩ | exact (decide_eq_true (Or.inl c3)).symm | (simp [c3]; done) | (simp [c3, i64] <;> omega))), trivial⟩, ⟨rfl, rfl, rfl, rfl, rfl, trivial⟩, rfl, hE2⟩
  ·
   refine k_yes rfl rfl ?_
   refine k_field_addr fld25_3 rfl rfl ?_
   refine k_yes rfl rfl ?_
   refine k_load_blk one22 rfl h1 rfl rfl ?_
   refine k_yes rfl rfl ?_
   refine k_len Tryd.underlying22 rfl (SL.of_R hq0_0).hasLen rfl ?_
   refine k_as (v := .int .i64 (a0.List_.length : Int)) (by simp only [List.length_map]) ?_
   refine k_yes rfl rfl ?_
   refine k_gtr rfl rfl rfl ?_
   refine k_pickF rfl rfl rfl rfl ?_
   exact k_met ⟨s1, ⟨(congrArg (fun b => some (Value.bool b)) (by first | exact decide_eq_decide.2 ⟨Or.inr, fun h => h.resolve_left c3⟩ | exact (decide_eq_true (Or.inl c3)).symm | (simp [c3]; done) | (simp [c3, i64] <;> omega))), trivial⟩, ⟨rfl, rfl, rfl, rfl, rfl, trivial⟩, rfl, hE2⟩
 ·
  rintro s4 wL ⟨rfl, hE2⟩
  have szs4 := hE2.size
  have hS := hS.trans0 hE2
  replace hq0_0 := hq0_0.up2 hE2
  replace hq0_1 := hq0_1.up2 hE2
  replace h1 := h1.up2 hE2
  refine k_move rfl rfl ?_
  have hE5 := Step.r0 K0 s4
  refine k_cutl (X := St) 5 [(1, .int .i64 a1), (2, .pointer (some ⟨b1, 0, none⟩)), (4, .int .i64 0), (8, .int .i64 a1), (9, .bool (decide (a1 < 1))), (15, .bool (decide ((a1 < 1) ∨ (3000 < (a0.List_.length : Int)))))] (fun _ => [(21, .bool (decide (((a1 < 1) ∨ (3000 < (a0.List_.length : Int))) ∨ (3000 < (a0.Keys.length : Int)))))]) (fun sl wL => sl.w = wL ∧ Step K0 s4 sl) ?_ ?_
  ·
   refine k_again 16 rfl ?_
   refine k_split (fun c6 => ?_) (fun c6 => ?_)
   ·
    refine k_no rfl rfl rfl rfl ?_
    refine k_no rfl rfl rfl rfl ?_
    refine k_no rfl rfl rfl rfl ?_
    refine k_no rfl rfl rfl rfl ?_
    refine k_pickT rfl rfl rfl rfl ?_
    exact k_met ⟨s4, ⟨(congrArg (fun b => some (Value.bool b)) (by first | exact decide_eq_decide.2 ⟨Or.inr, fun h => h.resolve_left c6⟩ | exact (decide_eq_true (Or.inl c6)).symm | (simp [c6]; done) | (simp [c6, i64] <;> omega))), trivial⟩, ⟨rfl, rfl, rfl, rfl, rfl, rfl, trivial⟩, rfl, hE5⟩
   ·
    refine k_yes rfl rfl ?_
    refine k_field_addr fld25_4 rfl rfl ?_
    refine k_yes rfl rfl ?_
    refine k_load_blk one23 rfl h1 rfl rfl ?_
    refine k_yes rfl rfl ?_
    refine k_len Tryd.underlying23 rfl (SL.of_R hq0_1).hasLen rfl ?_
    refine k_as (v := .int .i64 (a0.Keys.length : Int)) (by simp only [List.length_map]) ?_
    refine k_yes rfl rfl ?_
    refine k_gtr rfl rfl rfl ?_
    refine k_pickF rfl rfl rfl rfl ?_
    exact k_met ⟨s4, ⟨(congrArg (fun b => some (Value.bool b)) (by first | exact decide_eq_decide.2 ⟨Or.inr, fun h => h.resolve_left c6⟩ | exact (decide_eq_true (Or.inl c6)).symm | (simp [c6]; done) | (simp [c6, i64] <;> omega))), trivial⟩, ⟨rfl, rfl, rfl, rfl, rfl, rfl, trivial⟩, rfl, hE5⟩
  ·
   rintro s7 wL ⟨rfl, hE5⟩
   have szs7 := hE5.size
   have hS := hS.trans0 hE5
   replace hq0_0 := hq0_0.up2 hE5
   replace hq0_1 := hq0_1.up2 hE5
   replace h1 := h1.up2 hE5
   refine k_move rfl rfl ?_
   have hE8 := Step.r0 K0 s7
   refine k_cutl (X := St) 5 [(1, .int .i64 a1), (2, .pointer (some ⟨b1, 0, none⟩)), (4, .int .i64 0), (8, .int .i64 a1), (9, .bool (decide (a1 < 1))), (15, .bool (decide ((a1 < 1) ∨ (3000 < (a0.List_.length : Int))))), (21, .bool (decide (((a1 < 1) ∨ (3000 < (a0.List_.length : Int))) ∨ (3000 < (a0.Keys.length : Int)))))] (fun _ => [(27, .bool (decide ((((a1 < 1) ∨ (3000 < (a0.List_.length : Int))) ∨ (3000 < (a0.Keys.length : Int))) ∨ (4000 < (a0.Text.length : Int)))))]) (fun sl wL => sl.w = wL ∧ Step K0 s7 sl) ?_ ?_
   ·
    refine k_again 22 rfl ?_
    refine k_split (fun c9 => ?_) (fun c9 => ?_)
    ·
     refine k_no rfl rfl rfl rfl ?_
     refine k_no rfl rfl rfl rfl ?_
     refine k_no rfl rfl rfl rfl ?_
     refine k_no rfl rfl rfl rfl ?_
     refine k_pickT rfl rfl rfl rfl ?_
     exact k_met ⟨s7, ⟨(congrArg (fun b => some (Value.bool b)) (by first | exact decide_eq_decide.2 ⟨Or.inr, fun h => h.resolve_left c9⟩ | exact (decide_eq_true (Or.inl c9)).symm | (simp [c9]; done) | (simp [c9, i64] <;> omega))), trivial⟩, ⟨rfl, rfl, rfl, rfl, rfl, rfl, rfl, trivial⟩, rfl, hE8⟩
    ·
     refine k_yes rfl rfl ?_
     refine k_field_addr fld25_2 rfl rfl ?_
     refine k_yes rfl rfl ?_
     refine k_load_blk one9 rfl h1 rfl rfl ?_
     refine k_yes rfl rfl ?_
     refine k_len_str Tryd.underlying9 rfl rfl ?_
     refine k_yes rfl rfl ?_
     refine k_gtr rfl rfl rfl ?_
     refine k_pickF rfl rfl rfl rfl ?_
     exact k_met ⟨s7, ⟨(congrArg (fun b => some (Value.bool b)) (by first | exact decide_eq_decide.2 ⟨Or.inr, fun h => h.resolve_left c9⟩ | exact (decide_eq_true (Or.inl c9)).symm | (simp [c9]; done) | (simp [c9, i64] <;> omega))), trivial⟩, ⟨rfl, rfl, rfl, rfl, rfl, rfl, rfl, trivial⟩, rfl, hE8⟩
   ·
    rintro s10 wL ⟨rfl, hE8⟩
    have szs10 := hE8.size
    have hS := hS.trans0 hE8
    replace hq0_0 := hq0_0.up2 hE8
    replace hq0_1 := hq0_1.up2 hE8
    replace h1 := h1.up2 hE8
    refine k_nil ?_
    refine k_keep [(1, _), (2, _), (4, _), (27, _)] ⟨rfl, rfl, rfl, rfl, trivial⟩ ?_
    refine k_cond_dec rfl (fun c11 => ?_) (fun c11 => ?_)
    ·
     have h := itT h c11
     refine k_seq ?_
     refine k_region ?_
     refine k_assign rfl rfl ?_
     refine k_nil ?_
     refine k_keep [(1, _), (2, _), (4, _)] ⟨rfl, rfl, rfl, trivial⟩ ?_
     refine k_ret ?_
     obtain rfl := Option.some.inj h
     refine ⟨_, rfl, Ret.mk hS ?_⟩
     exact rfl
    ·
     have h := itF h c11
     refine k_skip ?_
     refine k_seq ?_
     refine k_region ?_
     refine k_field_addr fld25_2 rfl rfl ?_
     refine k_load_blk one9 rfl h1 rfl rfl ?_
     refine k_len_str Tryd.underlying9 rfl rfl ?_
     refine k_quo rfl rfl (by decide) rfl ?_
     refine k_add rfl rfl rfl ?_
     refine k_assign rfl rfl ?_
     refine k_nil ?_
     refine k_keep [(1, _), (2, _), (4, _), (5, _)] ⟨rfl, rfl, rfl, rfl, trivial⟩ ?_
     refine k_seq ?_
     obtain ⟨kj1, hK12, h⟩ := jn_out h
     have hE12 := Step.r0 K0 s10
     refine k_cutc (X := St × Int) [(1, .int .i64 a1), (2, .pointer (some ⟨b1, 0, none⟩)), (4, .int .i64 0)] (fun (xL : St × Int) => match xL with | (sl, x2) => [(5, .int .i64 x2)]) (fun (xL : St × Int) (wL : World) => match xL with | (sl, x2) => sl.w = wL ∧ Step K0 s10 sl ∧ kj1 x2 = some r) ?_ ?_
     ·
      refine k_seq ?_
      refine k_region ?_
      refine k_assign rfl rfl ?_
      refine k_nil ?_
      refine k_block ?_
      refine k_loopc (X := St × Int × Int × Nat) [(1, _), (2, _), (4, _)] (fun (xL : St × Int × Int × Nat) => match xL with | (sl, x3, x4, j) => [(5, .int .i64 x3), (6, .int .i64 x4)]) (fun (xL : St × Int × Int × Nat) (wL : World) => match xL with | (sl, x3, x4, j) => sl.w = wL ∧ Step K0 s10 sl ∧ law01_parts_s_l1 a0 kj1 j x3 x4 = some r) (fun (xL : St × Int × Int × Nat) => match xL with | (sl, x3, x4, j) => j) (s10, i64 (1 + (i64 ((a0.Text.length : Int).tdiv 100))), 0, FU) ⟨rfl, rfl, rfl, trivial⟩ ⟨(by first | rfl | (simp <;> rfl)), (by first | rfl | (simp <;> rfl)), trivial⟩ ⟨rfl, (Step.refl _).of0 (by first | exact fun _ h => h | (intro c h; simp [KC, KO, KU, KN, KB] at h <;> omega)), h⟩ ?_
      rintro ⟨s14, x3, x4, j⟩ wL ⟨rfl, hE13, h⟩
      cases j with
      | zero => rw [law01_parts_s_l1] at h; exact (noneNe h).elim
      | succ j =>
      rw [law01_parts_s_l1] at h
      have szs14 := hE13.size
      have hS := hS.trans0 hE13
      have hE12 := hE12.trans0 hE13
      replace hq0_1 := hq0_1.up2 hE13
      replace h1 := h1.up2 hE13
      refine k_seq ?_
      refine k_seq ?_
      refine k_region ?_
      refine k_move rfl rfl ?_
      refine k_field_addr fld25_4 rfl rfl ?_
      refine k_load_blk one23 rfl h1 rfl rfl ?_
      refine k_len Tryd.underlying23 rfl (SL.of_R hq0_1).hasLen rfl ?_
      refine k_as (v := .int .i64 (a0.Keys.length : Int)) (by simp only [List.length_map]) ?_
      refine k_lss rfl rfl rfl ?_
      refine k_nil ?_
      refine k_keep [(1, _), (2, _), (4, _), (5, _), (6, _), (37, _)] ⟨rfl, rfl, rfl, rfl, rfl, rfl, trivial⟩ ?_
      refine k_cond_dec rfl (fun c15 => ?_) (fun c15 => ?_)
      ·
       have h := itT h c15
       refine k_skip ?_
       refine k_seq ?_
       refine k_block ?_
       refine k_region ?_
       refine k_move rfl rfl ?_
       refine k_add rfl rfl rfl ?_
       refine k_field_addr fld25_4 rfl rfl ?_
       refine k_load_blk one23 rfl h1 rfl rfl ?_
       refine k_move rfl rfl ?_
       obtain ⟨x5, hx5, h⟩ := ob h
       refine k_ixaddr Tryd.underlying23 size9 rfl rfl (SL.of_R hq0_1) (geti_out hx5).1 (geti_map hx5) rfl ?_
       intro qx5 hqx5
       refine k_load_val one9 rfl hqx5 rfl ?_
       refine k_len_str Tryd.underlying9 rfl rfl ?_
       refine k_quo rfl rfl (by decide) rfl ?_
       refine k_add rfl rfl rfl ?_
       refine k_assign rfl rfl ?_
       refine k_nil ?_
       refine k_blk ?_
       refine k_region ?_
       refine k_move rfl rfl ?_
       refine k_add rfl rfl rfl ?_
       refine k_assign rfl rfl ?_
       refine k_nil ?_
       exact k_stop ⟨(s14, i64 ((i64 (x3 + 1)) + (i64 ((x5.length : Int).tdiv 100))), i64 (x4 + 1), j), ⟨(by first | rfl | (simp <;> rfl)), (by first | rfl | (simp <;> rfl)), trivial⟩, ⟨rfl, rfl, rfl, trivial⟩, ⟨rfl, hE13, h⟩, (by simp)⟩
      ·
       have h := itF h c15
       refine k_exit rfl ?_
       exact k_stop ⟨(s14, x3), ⟨(by first | rfl | (simp <;> rfl)), trivial⟩, ⟨rfl, rfl, rfl, trivial⟩, ⟨rfl, hE12, h⟩⟩
     ·
      rintro ⟨s16, x2⟩ wL ⟨rfl, hE12, h⟩
      rw [hK12] at h
      have szs16 := hE12.size
      have hS := hS.trans0 hE12
      replace hq0_0 := hq0_0.up2 hE12
      replace h1 := h1.up2 hE12
      refine k_seq ?_
      obtain ⟨kj6, hK17, h⟩ := jn_out h
      have hE17 := Step.r0 K0 s16
      refine k_cutc (X := St × Int) [(4, .int .i64 0)] (fun (xL : St × Int) => match xL with | (sl, x7) => [(5, .int .i64 x7)]) (fun (xL : St × Int) (wL : World) => match xL with | (sl, x7) => sl.w = wL ∧ Step K0 s16 sl ∧ kj6 x7 = some r) ?_ ?_
      ·
       refine k_seq ?_
       refine k_region ?_
       refine k_assign rfl rfl ?_
       refine k_nil ?_
       refine k_block ?_
       refine k_loopc (X := St × Int × Int × Nat) [(1, _), (2, _), (4, _)] (fun (xL : St × Int × Int × Nat) => match xL with | (sl, x8, x9, j) => [(5, .int .i64 x8), (7, .int .i64 x9)]) (fun (xL : St × Int × Int × Nat) (wL : World) => match xL with | (sl, x8, x9, j) => sl.w = wL ∧ Step K0 s16 sl ∧ law01_parts_s_l2 a0 a70 a1 kj6 j x8 x9 = some r) (fun (xL : St × Int × Int × Nat) => match xL with | (sl, x8, x9, j) => j) (s16, x2, 0, FU) ⟨rfl, rfl, rfl, trivial⟩ ⟨(by first | rfl | (simp <;> rfl)), (by first | rfl | (simp <;> rfl)), trivial⟩ ⟨rfl, (Step.refl _).of0 (by first | exact fun _ h => h | (intro c h; simp [KC, KO, KU, KN, KB] at h <;> omega)), h⟩ ?_
       rintro ⟨s19, x8, x9, j⟩ wL ⟨rfl, hE18, h⟩
       cases j with
       | zero => rw [law01_parts_s_l2] at h; exact (noneNe h).elim
       | succ j =>
       rw [law01_parts_s_l2] at h
       have szs19 := hE18.size
       have hS := hS.trans0 hE18
       have hE17 := hE17.trans0 hE18
       replace hq0_0 := hq0_0.up2 hE18
       replace h1 := h1.up2 hE18
       refine k_seq ?_
       refine k_seq ?_
       refine k_region ?_
       refine k_move rfl rfl ?_
       refine k_field_addr fld25_3 rfl rfl ?_
       refine k_load_blk one22 rfl h1 rfl rfl ?_
       refine k_len Tryd.underlying22 rfl (SL.of_R hq0_0).hasLen rfl ?_
       refine k_as (v := .int .i64 (a0.List_.length : Int)) (by simp only [List.length_map]) ?_
       refine k_lss rfl rfl rfl ?_
       refine k_move rfl rfl ?_
       have hE20 := Step.r0 K0 s19
       refine k_cutl (X := St) 3 [(1, .int .i64 a1), (2, .pointer (some ⟨b1, 0, none⟩)), (4, .int .i64 0), (5, .int .i64 x8), (7, .int .i64 x9), (50, .int .i64 x9), (51, .pointer (some ⟨b1, 3, none⟩)), (52, q0_0), (53, .int .i64 (a0.List_.length : Int)), (54, .bool (decide (x9 < (a0.List_.length : Int))))] (fun _ => [(58, .bool (decide ((x9 < (a0.List_.length : Int)) ∧ (x8 < 100000))))]) (fun sl wL => sl.w = wL ∧ Step K0 s19 sl) ?_ ?_
       ·
        refine k_again 55 rfl ?_
        refine k_split (fun c21 => ?_) (fun c21 => ?_)
        ·
         refine k_yes rfl rfl ?_
         refine k_move rfl rfl ?_
         refine k_yes rfl rfl ?_
         refine k_lss rfl rfl rfl ?_
         refine k_pickT rfl rfl rfl rfl ?_
         exact k_met ⟨s19, ⟨(congrArg (fun b => some (Value.bool b)) (by first | exact decide_eq_decide.2 ⟨fun h => ⟨c21, h⟩, fun h => h.2⟩ | exact (decide_eq_false (fun h => c21 h.1)).symm | (simp [c21]; done) | (simp [c21, i64] <;> omega))), trivial⟩, ⟨rfl, rfl, rfl, rfl, rfl, rfl, rfl, rfl, rfl, rfl, trivial⟩, rfl, hE20⟩
        ·
         refine k_no rfl rfl rfl rfl ?_
         refine k_no rfl rfl rfl rfl ?_
         refine k_pickF rfl rfl rfl rfl ?_
         exact k_met ⟨s19, ⟨(congrArg (fun b => some (Value.bool b)) (by first | exact decide_eq_decide.2 ⟨fun h => ⟨c21, h⟩, fun h => h.2⟩ | exact (decide_eq_false (fun h => c21 h.1)).symm | (simp [c21]; done) | (simp [c21, i64] <;> omega))), trivial⟩, ⟨rfl, rfl, rfl, rfl, rfl, rfl, rfl, rfl, rfl, rfl, trivial⟩, rfl, hE20⟩
       ·
        rintro s22 wL ⟨rfl, hE20⟩
        have szs22 := hE20.size
        have hS := hS.trans0 hE20
        have hE17 := hE17.trans0 hE20
        have hE18 := hE18.trans0 hE20
        replace hq0_0 := hq0_0.up2 hE20
        replace h1 := h1.up2 hE20
        refine k_nil ?_
        refine k_keep [(1, _), (2, _), (4, _), (5, _), (7, _), (58, _)] ⟨rfl, rfl, rfl, rfl, rfl, rfl, trivial⟩ ?_
        refine k_cond_dec rfl (fun c23 => ?_) (fun c23 => ?_)
        ·
         have h := itT h c23
         refine k_skip ?_
         refine k_seq ?_
         refine k_block ?_
         refine k_region ?_
         refine k_move rfl rfl ?_
         refine k_field_addr fld25_3 rfl rfl ?_
         refine k_load_blk one22 rfl h1 rfl rfl ?_
         refine k_move rfl rfl ?_
         obtain ⟨x10, hx10, h⟩ := ob h
         refine k_ixaddr Tryd.underlying22 size25 rfl rfl (SL.of_R hq0_0) (geti_out hx10).1 (geti_map hx10) rfl ?_
         intro qx10 hqx10
         refine k_load_agg (by exact agg25) rfl hqx10 rfl ?_
         intro cs24 h24
         obtain ⟨q24_0, q24_1, rfl, hq24_0, hq24_1⟩ := opnApiValue h24
         refine k_move rfl rfl ?_
         refine k_sub_ rfl rfl rfl ?_
         obtain ⟨x11, hx11, h⟩ := ob h
         refine k_call cal10 rfl (ih70  (clsApiValue x10 hq24_0 hq24_1) hx11) rfl ?_
         rintro s25 vr25 st25 rfl
         have szs25 := st25.size
         have hS := hS.trans0 st25
         have hE17 := hE17.trans0 st25
         have hE18 := hE18.trans0 st25
         refine k_add rfl rfl rfl ?_
         refine k_assign rfl rfl ?_
         refine k_nil ?_
         refine k_blk ?_
         refine k_region ?_
         refine k_move rfl rfl ?_
         refine k_add rfl rfl rfl ?_
         refine k_assign rfl rfl ?_
         refine k_nil ?_
         exact k_stop ⟨(s25, i64 (x8 + x11), i64 (x9 + 1), j), ⟨(by first | rfl | (simp <;> rfl)), (by first | rfl | (simp <;> rfl)), trivial⟩, ⟨rfl, rfl, rfl, trivial⟩, ⟨rfl, hE18, h⟩, (by simp)⟩
        ·
         have h := itF h c23
         refine k_exit rfl ?_
         exact k_stop ⟨(s22, x8), ⟨(by first | rfl | (simp <;> rfl)), trivial⟩, ⟨rfl, trivial⟩, ⟨rfl, hE17, h⟩⟩
      ·
       rintro ⟨s26, x7⟩ wL ⟨rfl, hE17, h⟩
       rw [hK17] at h
       have szs26 := hE17.size
       have hS := hS.trans0 hE17
       refine k_seq ?_
       refine k_region ?_
       refine k_move rfl rfl ?_
       refine k_assign rfl rfl ?_
       refine k_nil ?_
       refine k_keep [(4, _)] ⟨rfl, trivial⟩ ?_
       refine k_ret ?_
       obtain rfl := Option.some.inj h
       refine ⟨_, rfl, Ret.mk hS ?_⟩
       exact rfl
theorem law01_parts_rw (j : Nat) : ∀ {s : St} {cs0 : List Value} {a0 : ApiValue} {a1 : Int} {r : Int} (hp0 : RC s cs0 (dApiValue a0)) (h : law01_parts_r j a0 a1 = some r), Calls Tryd.prog 10 #[.agg cs0.toArray, .int .i64 a1] s.w (Ret s K0 (fun s1 v => v = .int .i64 r)) := by
 induction j with
 | zero => intro s cs0 a0 a1 r hp0 h; rw [law01_parts_r] at h; exact (noneNe h).elim
 | succ j ih => intro s cs0 a0 a1 r hp0 h; rw [law01_parts_r] at h; exact law01_parts_s_w hp0 ih h
theorem law01_parts_w {s : St} {cs0 : List Value} {a0 : ApiValue} {a1 : Int} {r : Int} (hp0 : RC s cs0 (dApiValue a0)) (h : law01_parts a0 a1 = some r) : Calls Tryd.prog 10 #[.agg cs0.toArray, .int .i64 a1] s.w (Ret s K0 (fun s1 v => v = .int .i64 r)) := law01_parts_rw (FU + (dpApiValue a0)) hp0 h

set_option maxHeartbeats 1000000 in
set_option maxRecDepth 100000 in
theorem law01_Long_w {s : St} {cs0 : List Value} {a0 : ApiValue} {r : Bool} (hp0 : RC s cs0 (dApiValue a0)) (h : law01_Long a0 = some r) : Calls Tryd.prog 4 #[.agg cs0.toArray] s.w (Ret s K0 (fun s1 v => v = .bool r)) := by
 unfold law01_Long at h
 obtain ⟨q0_0, q0_1, rfl, hq0_0, hq0_1⟩ := opnApiValue hp0
 have hS := Step.r0 K0 s
 refine k_fn (rs := [2]) (args := [.agg #[.int .i64 a0.Kind, .int .i64 a0.Num, S a0.Text, q0_0, q0_1]]) Tryd.func4 rfl rfl rfl rfl ?_
 refine k_seq ?_
 refine k_region ?_
 refine k_box rfl rfl ?_
 intro s1 b1 st1 h1 ge1
 have szs1 := st1.size
 have hS := hS.trans0 st1
 replace hq0_0 := hq0_0.up2 st1
 replace hq0_1 := hq0_1.up2 st1
 have lt1 := h1.lt
 refine k_assign rfl rfl ?_
 refine k_nil ?_
 refine k_keep [(1, _), (2, _)] ⟨rfl, rfl, trivial⟩ ?_
 refine k_seq ?_
 refine k_region ?_
 refine k_load_blka (cs := [.int .i64 a0.Kind, .int .i64 a0.Num, S a0.Text, q0_0, q0_1]) agg25 rfl h1 rfl ?_
 obtain ⟨x1, hx1, h⟩ := ob h
 refine k_call cal10 rfl (law01_parts_w  (clsApiValue a0 hq0_0 hq0_1) hx1) rfl ?_
 rintro s2 vr2 st2 rfl
 have szs2 := st2.size
 have hS := hS.trans0 st2
 refine k_gtr rfl rfl rfl ?_
 refine k_assign rfl rfl ?_
 refine k_nil ?_
 refine k_keep [(2, _)] ⟨rfl, trivial⟩ ?_
 refine k_ret ?_
 obtain rfl := Option.some.inj h
 refine ⟨_, rfl, Ret.mk hS ?_⟩
 exact rfl

set_option maxHeartbeats 1000000 in
set_option maxRecDepth 100000 in
theorem value_reader_fail_w {s : St} {k0 : Nat} {p0 : Value} {a0 : ValueReader} {r : ((List UInt8) × ValueReader)} (ho0 : OValueReader s k0 p0 a0) (h : value_reader_fail a0 = some r) : Calls Tryd.prog 20 #[p0] s.w (Ret s (KO k0) (fun s1 v => v = S r.1 ∧ OValueReader s1 k0 p0 r.2)) := by
 unfold value_reader_fail at h
 have le0 := ho0.le
 have ne0 := ho0.ne
 obtain ⟨bo0, rfl⟩ := ho0.ptr
 have hb_o0 := ho0.at_
 have hS := Step.r0 (KO k0) s
 refine k_fn (rs := [2]) (args := [.pointer (some ⟨bo0, 0, none⟩)]) Tryd.func20 rfl rfl rfl rfl ?_
 refine k_seq ?_
 refine k_region ?_
 refine k_assign rfl rfl ?_
 refine k_nil ?_
 refine k_seq ?_
 refine k_region ?_
 refine k_move rfl rfl ?_
 refine k_nilCheck rfl rfl ?_
 refine k_field_addr fld41_1 rfl rfl ?_
 refine k_store_c (cs' := [S a0.rest, .bool false]) size4 rfl rfl hb_o0 (by first | (simp; done) | omega | (dsimp only; omega)) (CellsOf.lit rfl rfl) rfl (by first | rfl | (simp; done) | (simp; omega)) rfl ?_
 intro s1 st1 hb_o0
 have szs1 := st1.size
 have hS := hS.c0 st1
 refine k_nil ?_
 refine k_keep [(2, _)] ⟨rfl, trivial⟩ ?_
 refine k_seq ?_
 refine k_region ?_
 refine k_assign rfl rfl ?_
 refine k_nil ?_
 refine k_ret ?_
 obtain rfl := Option.some.inj h
 refine ⟨_, rfl, Ret.mk hS ?_⟩
 exact ⟨rfl, (OValueReader.mk_ (⟨a0.rest, false⟩ : ValueReader) (by omega) hb_o0)⟩

set_option maxHeartbeats 1000000 in
set_option maxRecDepth 100000 in
theorem value_reader_is_w {s : St} {k0 : Nat} {p0 : Value} {a0 : ValueReader} {a1 : (List UInt8)} {r : (Bool × ValueReader)} (ho0 : OValueReader s k0 p0 a0) (h : value_reader_is a0 a1 = some r) : Calls Tryd.prog 21 #[p0, S a1] s.w (Ret s (KO k0) (fun s1 v => v = .bool r.1 ∧ OValueReader s1 k0 p0 r.2)) := by
 unfold value_reader_is at h
 have le0 := ho0.le
 have ne0 := ho0.ne
 obtain ⟨bo0, rfl⟩ := ho0.ptr
 have hb_o0 := ho0.at_
 have hS := Step.r0 (KO k0) s
 refine k_fn (rs := [4]) (args := [.pointer (some ⟨bo0, 0, none⟩), S a1]) Tryd.func21 rfl rfl rfl rfl ?_
 refine k_seq ?_
 refine k_region ?_
 refine k_assign rfl rfl ?_
 refine k_nil ?_
 refine k_seq ?_
 refine k_region ?_
 refine k_move rfl rfl ?_
 refine k_nilCheck rfl rfl ?_
 refine k_field_addr fld41_0 rfl rfl ?_
 refine k_load_blk one9 rfl hb_o0 rfl rfl ?_
 refine k_move rfl rfl ?_
 refine k_call cal37 rfl (cutPrefix_w (a0 := a0.rest) (a1 := a1)) rfl ?_
 rintro s1 _ st1 rfl
 have szs1 := st1.size
 have hS := hS.trans0 st1
 replace hb_o0 := hb_o0.up2 st1
 refine k_move rfl rfl ?_
 refine k_extract rfl rfl rfl ?_
 refine k_extract rfl rfl rfl ?_
 refine k_assign rfl rfl ?_
 refine k_assign rfl rfl ?_
 refine k_nil ?_
 refine k_keep [(0, _), (4, _), (5, _), (6, _)] ⟨rfl, rfl, rfl, rfl, trivial⟩ ?_
 refine k_seq ?_
 refine k_seq ?_
 refine k_region ?_
 refine k_move rfl rfl ?_
 refine k_nil ?_
 refine k_cond rfl (fun c2 => ?_) (fun c2 => ?_)
 ·
  have h := ibT h c2
  refine k_region ?_
  refine k_move rfl rfl ?_
  refine k_move rfl rfl ?_
  refine k_nilCheck rfl rfl ?_
  refine k_field_addr fld41_0 rfl rfl ?_
  refine k_store_c (cs' := [S (Lib.trimPrefix a0.rest a1), .bool a0.ok]) size9 rfl rfl hb_o0 (by first | (simp; done) | omega | (dsimp only; omega)) (CellsOf.lit rfl rfl) rfl (by first | rfl | (simp; done) | (simp; omega)) rfl ?_
  intro s3 st3 hb_o0
  have szs3 := st3.size
  have hS := hS.c0 st3
  refine k_nil ?_
  refine k_keep [(4, _), (6, _)] ⟨rfl, rfl, trivial⟩ ?_
  refine k_seq ?_
  refine k_region ?_
  refine k_move rfl rfl ?_
  refine k_assign rfl rfl ?_
  refine k_nil ?_
  refine k_keep [(4, _)] ⟨rfl, trivial⟩ ?_
  refine k_ret ?_
  obtain rfl := Option.some.inj h
  refine ⟨_, rfl, Ret.mk hS ?_⟩
  exact ⟨rfl, (OValueReader.mk_ (⟨Lib.trimPrefix a0.rest a1, a0.ok⟩ : ValueReader) (by omega) hb_o0)⟩
 ·
  have h := ibF h c2
  refine k_skip ?_
  refine k_seq ?_
  refine k_region ?_
  refine k_move rfl rfl ?_
  refine k_assign rfl rfl ?_
  refine k_nil ?_
  refine k_keep [(4, _)] ⟨rfl, trivial⟩ ?_
  refine k_ret ?_
  obtain rfl := Option.some.inj h
  refine ⟨_, rfl, Ret.mk hS ?_⟩
  exact ⟨rfl, (OValueReader.mk_ a0 (by omega) hb_o0)⟩

set_option maxHeartbeats 1000000 in
set_option maxRecDepth 100000 in
theorem value_reader_quoted_w {s : St} {k0 : Nat} {p0 : Value} {a0 : ValueReader} {r : ((List UInt8) × ValueReader)} (ho0 : OValueReader s k0 p0 a0) (h : value_reader_quoted a0 = some r) : Calls Tryd.prog 23 #[p0] s.w (Ret s (KO k0) (fun s1 v => v = S r.1 ∧ OValueReader s1 k0 p0 r.2)) := by
 unfold value_reader_quoted at h
 have le0 := ho0.le
 have ne0 := ho0.ne
 obtain ⟨bo0, rfl⟩ := ho0.ptr
 have hb_o0 := ho0.at_
 have hS := Step.r0 (KO k0) s
 refine k_fn (rs := [2]) (args := [.pointer (some ⟨bo0, 0, none⟩)]) Tryd.func23 rfl rfl rfl rfl ?_
 refine k_seq ?_
 refine k_region ?_
 refine k_assign rfl rfl ?_
 refine k_nil ?_
 refine k_seq ?_
 refine k_region ?_
 refine k_assign rfl rfl ?_
 refine k_nil ?_
 refine k_seq ?_
 obtain ⟨kj1, hK1, h⟩ := jn_out h
 have hE1 := Step.r0 K0 s
 refine k_cutc (X := St) [(0, .pointer (some ⟨bo0, 0, none⟩)), (2, S ([] : List UInt8))] (fun (xL : St) => match xL with | sl => []) (fun (xL : St) (wL : World) => match xL with | sl => sl.w = wL ∧ Step K0 s sl ∧ kj1 () = some r) ?_ ?_
 ·
  refine k_seq ?_
  refine k_region ?_
  refine k_assign rfl rfl ?_
  refine k_nil ?_
  refine k_block ?_
  have h2 : Own s ⟨s.n + 1, 3003⟩ 5 1 (.slice none 0 0) (([] : List UInt8).map bD) := Own.nil (by first | (simp; done) | omega | (dsimp only; omega)) (by first | (simp; done) | omega | (dsimp only; omega))
  refine k_loopc (X := St × (List UInt8) × Value × Int × Nat) [(0, _), (2, _)] (fun (xL : St × (List UInt8) × Value × Int × Nat) => match xL with | (sl, x2, v4, x3, j) => [(3, v4), (4, .int .i64 x3)]) (fun (xL : St × (List UInt8) × Value × Int × Nat) (wL : World) => match xL with | (sl, x2, v4, x3, j) => sl.w = wL ∧ Step (KC (s.n + 1) 3003) s sl ∧ (Own sl ⟨s.n + 1, 3003⟩ 5 1 v4 (x2.map bD)) ∧ value_reader_quoted_l1 a0 kj1 j x2 x3 = some r) (fun (xL : St × (List UInt8) × Value × Int × Nat) => match xL with | (sl, x2, v4, x3, j) => j) (s, [], (.slice none 0 0), 0, FU) ⟨rfl, rfl, trivial⟩ ⟨(by first | rfl | (simp <;> rfl)), (by first | rfl | (simp <;> rfl)), trivial⟩ ⟨rfl, (Step.refl _).of0 (by first | exact fun _ h => h | (intro c h; simp [KC, KO, KU, KN, KB] at h <;> omega)), h2, h⟩ ?_
  rintro ⟨s5, x2, v4, x3, j⟩ wL ⟨rfl, hE3, h4, h⟩
  cases j with
  | zero => rw [value_reader_quoted_l1] at h; exact (noneNe h).elim
  | succ j =>
  rw [value_reader_quoted_l1] at h
  have szs5 := hE3.size
  have hS := hS.c0 hE3
  have hE1 := hE1.c0 hE3
  replace hb_o0 := hb_o0.up2 hE3
  refine k_seq ?_
  refine k_seq ?_
  refine k_region ?_
  refine k_move rfl rfl ?_
  refine k_move rfl rfl ?_
  refine k_nilCheck rfl rfl ?_
  refine k_field_addr fld41_0 rfl rfl ?_
  refine k_load_blk one9 rfl hb_o0 rfl rfl ?_
  refine k_len_str Tryd.underlying9 rfl rfl ?_
  refine k_lss rfl rfl rfl ?_
  refine k_nil ?_
  refine k_keep [(0, _), (2, _), (3, _), (4, _), (12, _)] ⟨rfl, rfl, rfl, rfl, rfl, trivial⟩ ?_
  refine k_cond_dec rfl (fun c6 => ?_) (fun c6 => ?_)
  ·
   have h := itT h c6
   refine k_skip ?_
   refine k_seq ?_
   refine k_block ?_
   refine k_seq ?_
   refine k_region ?_
   refine k_move rfl rfl ?_
   refine k_nilCheck rfl rfl ?_
   refine k_field_addr fld41_0 rfl rfl ?_
   refine k_load_blk one9 rfl hb_o0 rfl rfl ?_
   refine k_move rfl rfl ?_
   obtain ⟨x4, hx4, h⟩ := ob h
   refine k_index_str Tryd.underlying9 rfl rfl (geti_out hx4).1 (geti_out hx4).2.1 rfl ?_
   refine k_as (congrArg (fun c : UInt8 => Value.int .u8 (c.toNat : Int)) (geti_getD hx4)) ?_
   refine k_assign rfl rfl ?_
   refine k_nil ?_
   refine k_keep [(0, _), (2, _), (3, _), (4, _), (5, _)] ⟨rfl, rfl, rfl, rfl, rfl, trivial⟩ ?_
   refine k_block ?_
   refine k_seq ?_
   obtain ⟨kj5, hK7, h⟩ := jn_out h
   have hE7 := Step.r0 K0 s5
   refine k_cutc (X := St × Int) [(0, .pointer (some ⟨bo0, 0, none⟩)), (2, S ([] : List UInt8)), (3, v4)] (fun (xL : St × Int) => match xL with | (sl, x6) => [(4, .int .i64 x6)]) (fun (xL : St × Int) (wL : World) => match xL with | (sl, x6) => sl.w = wL ∧ Step K0 s5 sl ∧ kj5 x6 = some r) ?_ ?_
   ·
    refine k_block ?_
    refine k_seq ?_
    refine k_block ?_
    refine k_seq ?_
    refine k_block ?_
    refine k_seq ?_
    refine k_block ?_
    refine k_seq ?_
    refine k_seq ?_
    refine k_seq ?_
    refine k_region ?_
    refine k_move rfl rfl ?_
    refine k_eql rfl rfl rfl ?_
    refine k_assign rfl rfl ?_
    refine k_nil ?_
    refine k_keep [(0, _), (2, _), (3, _), (4, _), (5, _), (21, _)] ⟨rfl, rfl, rfl, rfl, rfl, rfl, trivial⟩ ?_
    refine k_cond_dec rfl (fun c8 => ?_) (fun c8 => ?_)
    ·
     have h := itT h c8
     refine k_exit rfl ?_
     refine k_seq ?_
     refine k_seq ?_
     refine k_region ?_
     refine k_move rfl rfl ?_
     refine k_move rfl rfl ?_
     refine k_nilCheck rfl rfl ?_
     refine k_field_addr fld41_0 rfl rfl ?_
     refine k_load_blk one9 rfl hb_o0 rfl rfl ?_
     refine k_move rfl rfl ?_
     refine k_add rfl rfl rfl ?_
     obtain ⟨x7, hx7, h⟩ := ob h
     refine k_cut_str (i := (i64 (x3 + 1) : Int).toNat) (j := ((a0.rest.length : Int) : Int).toNat) Tryd.underlying9 rfl (CutAt.int rfl (subl_out hx7).1) CutAt.none (subl_ij hx7) (subl_j hx7) rfl ?_
     refine k_as (v := S x7) (congrArg S (subl_out hx7).2.2.2.symm) ?_
     refine k_nilCheck rfl rfl ?_
     refine k_field_addr fld41_0 rfl rfl ?_
     refine k_store_c (cs' := [S x7, .bool a0.ok]) size9 rfl rfl hb_o0 (by first | (simp; done) | omega | (dsimp only; omega)) (CellsOf.lit rfl rfl) rfl (by first | rfl | (simp; done) | (simp; omega)) rfl ?_
     intro s9 st9 hb_o0
     have szs9 := st9.size
     have hS := hS.c0 st9
     replace h4 := h4.up2 st9
     refine k_nil ?_
     refine k_keep [(0, _), (2, _), (3, _), (4, _)] ⟨rfl, rfl, rfl, rfl, trivial⟩ ?_
     refine k_seq ?_
     refine k_region ?_
     refine k_move rfl rfl ?_
     refine k_bts (m := x2) Tryd.underlying37 Tryd.underlying5 Tryd.underlying9 rfl (h4.sl) rfl ?_
     refine k_assign rfl rfl ?_
     refine k_nil ?_
     refine k_keep [(0, _), (2, _), (3, _), (4, _)] ⟨rfl, rfl, rfl, rfl, trivial⟩ ?_
     refine k_ret ?_
     obtain rfl := Option.some.inj h
     refine ⟨_, rfl, Ret.mk hS ?_⟩
     exact ⟨rfl, (OValueReader.mk_ (⟨x7, a0.ok⟩ : ValueReader) (by omega) hb_o0)⟩
    ·
     have h := itF h c8
     refine k_skip ?_
     refine k_seq ?_
     refine k_seq ?_
     refine k_region ?_
     refine k_move rfl rfl ?_
     refine k_eql rfl rfl rfl ?_
     refine k_move rfl rfl ?_
     obtain ⟨x8, hx8, h⟩ := ob h
     have hE10 := Step.r0 K0 s5
     refine k_cutl (X := St) 29 [(0, .pointer (some ⟨bo0, 0, none⟩)), (2, S ([] : List UInt8)), (3, v4), (4, .int .i64 x3), (5, .int .u8 (x4.toNat : Int)), (21, .bool (decide ((x4.toNat : Int) = 34))), (25, .int .u8 (x4.toNat : Int)), (26, .bool (decide ((x4.toNat : Int) = 92)))] (fun _ => [(56, .bool x8)]) (fun sl wL => sl.w = wL ∧ Step K0 s5 sl) ?_ ?_
     ·
      refine k_again 27 rfl ?_
      refine k_split (fun c11 => ?_) (fun c11 => ?_)
      ·
       have hx8 := itT hx8 c11
       refine k_yes rfl rfl ?_
       refine k_move rfl rfl ?_
       refine k_yes rfl rfl ?_
       refine k_add rfl rfl rfl ?_
       refine k_yes rfl rfl ?_
       refine k_move rfl rfl ?_
       refine k_yes rfl rfl ?_
       refine k_nilCheck rfl rfl ?_
       refine k_yes rfl rfl ?_
       refine k_field_addr fld41_0 rfl rfl ?_
       refine k_yes rfl rfl ?_
       refine k_load_blk one9 rfl hb_o0 rfl rfl ?_
       refine k_yes rfl rfl ?_
       refine k_len_str Tryd.underlying9 rfl rfl ?_
       refine k_yes rfl rfl ?_
       refine k_eql rfl rfl rfl ?_
       refine k_yes rfl rfl ?_
       refine k_move rfl rfl ?_
       obtain ⟨x9, hx9, hx8⟩ := ob hx8
       have hE12 := Step.r0 K0 s5
       refine k_cutl (X := St) 19 [(0, .pointer (some ⟨bo0, 0, none⟩)), (2, S ([] : List UInt8)), (3, v4), (4, .int .i64 x3), (5, .int .u8 (x4.toNat : Int)), (21, .bool (decide ((x4.toNat : Int) = 34))), (25, .int .u8 (x4.toNat : Int)), (26, .bool (decide ((x4.toNat : Int) = 92))), (27, .bool true), (28, .int .i64 x3), (29, .int .i64 (i64 (x3 + 1))), (30, .pointer (some ⟨bo0, 0, none⟩)), (31, .pointer (some ⟨bo0, 0, none⟩)), (32, .pointer (some ⟨bo0, 0, none⟩)), (33, S a0.rest), (34, .int .i64 (a0.rest.length : Int)), (35, .bool (decide (i64 (x3 + 1) = (a0.rest.length : Int))))] (fun _ => [(55, .bool x9)]) (fun sl wL => sl.w = wL ∧ Step K0 s5 sl) ?_ ?_
       ·
        refine k_again 36 rfl ?_
        refine k_split (fun c13 => ?_) (fun c13 => ?_)
        ·
         have hx9 := itT hx9 c13
         refine k_no rfl rfl rfl rfl ?_
         refine k_no rfl rfl rfl rfl ?_
         refine k_no rfl rfl rfl rfl ?_
         refine k_no rfl rfl rfl rfl ?_
         refine k_no rfl rfl rfl rfl ?_
         refine k_no rfl rfl rfl rfl ?_
         refine k_no rfl rfl rfl rfl ?_
         refine k_no rfl rfl rfl rfl ?_
         refine k_no rfl rfl rfl rfl ?_
         refine k_nou rfl rfl rfl rfl ?_
         refine k_nou rfl rfl rfl rfl ?_
         refine k_nou rfl rfl rfl rfl ?_
         refine k_nou rfl rfl rfl rfl ?_
         refine k_nou rfl rfl rfl rfl ?_
         refine k_nou rfl rfl rfl rfl ?_
         refine k_nou rfl rfl rfl rfl ?_
         refine k_nou rfl rfl rfl rfl ?_
         refine k_no rfl rfl rfl rfl ?_
         refine k_yes rfl rfl ?_
         refine k_pickT rfl rfl rfl rfl ?_
         exact k_met ⟨s5, ⟨(congrArg (fun b => some (Value.bool b)) (Option.some.inj hx9)), trivial⟩, ⟨rfl, rfl, rfl, rfl, rfl, rfl, rfl, rfl, rfl, rfl, rfl, rfl, rfl, rfl, rfl, rfl, rfl, trivial⟩, rfl, hE12⟩
        ·
         have hx9 := itF hx9 c13
         refine k_yes rfl rfl ?_
         refine k_move rfl rfl ?_
         refine k_yes rfl rfl ?_
         refine k_nilCheck rfl rfl ?_
         refine k_yes rfl rfl ?_
         refine k_field_addr fld41_0 rfl rfl ?_
         refine k_yes rfl rfl ?_
         refine k_load_blk one9 rfl hb_o0 rfl rfl ?_
         refine k_yes rfl rfl ?_
         refine k_move rfl rfl ?_
         refine k_yes rfl rfl ?_
         refine k_add rfl rfl rfl ?_
         refine k_yes rfl rfl ?_
         obtain ⟨x10, hx10, hx9⟩ := ob hx9
         refine k_index_str Tryd.underlying9 rfl rfl (geti_out hx10).1 (geti_out hx10).2.1 rfl ?_
         refine k_as (congrArg (fun c : UInt8 => Value.int .u8 (c.toNat : Int)) (geti_getD hx10)) ?_
         refine k_yes rfl rfl ?_
         refine k_neq rfl rfl rfl ?_
         refine k_yes rfl rfl ?_
         refine k_move rfl rfl ?_
         obtain ⟨x11, hx11, hx9⟩ := ob hx9
         have hE14 := Step.r0 K0 s5
         refine k_cutl (X := St) 9 [(0, .pointer (some ⟨bo0, 0, none⟩)), (2, S ([] : List UInt8)), (3, v4), (4, .int .i64 x3), (5, .int .u8 (x4.toNat : Int)), (21, .bool (decide ((x4.toNat : Int) = 34))), (25, .int .u8 (x4.toNat : Int)), (26, .bool (decide ((x4.toNat : Int) = 92))), (27, .bool true), (28, .int .i64 x3), (29, .int .i64 (i64 (x3 + 1))), (30, .pointer (some ⟨bo0, 0, none⟩)), (31, .pointer (some ⟨bo0, 0, none⟩)), (32, .pointer (some ⟨bo0, 0, none⟩)), (33, S a0.rest), (34, .int .i64 (a0.rest.length : Int)), (35, .bool (decide (i64 (x3 + 1) = (a0.rest.length : Int)))), (36, .bool false), (37, .pointer (some ⟨bo0, 0, none⟩)), (38, .pointer (some ⟨bo0, 0, none⟩)), (39, .pointer (some ⟨bo0, 0, none⟩)), (40, S a0.rest), (41, .int .i64 x3), (42, .int .i64 (i64 (x3 + 1))), (43, .int .u8 (x10.toNat : Int)), (44, .bool (decide ((x10.toNat : Int) ≠ 34)))] (fun _ => [(54, .bool x11)]) (fun sl wL => sl.w = wL ∧ Step K0 s5 sl) ?_ ?_
         ·
          refine k_again 45 rfl ?_
          refine k_split (fun c15 => ?_) (fun c15 => ?_)
          ·
           have hx11 := itT hx11 c15
           refine k_yes rfl rfl ?_
           refine k_move rfl rfl ?_
           refine k_yes rfl rfl ?_
           refine k_nilCheck rfl rfl ?_
           refine k_yes rfl rfl ?_
           refine k_field_addr fld41_0 rfl rfl ?_
           refine k_yes rfl rfl ?_
           refine k_load_blk one9 rfl hb_o0 rfl rfl ?_
           refine k_yes rfl rfl ?_
           refine k_move rfl rfl ?_
           refine k_yes rfl rfl ?_
           refine k_add rfl rfl rfl ?_
           refine k_yes rfl rfl ?_
           obtain ⟨x12, hx12, hx11⟩ := ob hx11
           refine k_index_str Tryd.underlying9 rfl rfl (geti_out hx12).1 (geti_out hx12).2.1 rfl ?_
           refine k_as (congrArg (fun c : UInt8 => Value.int .u8 (c.toNat : Int)) (geti_getD hx12)) ?_
           refine k_yes rfl rfl ?_
           refine k_neq rfl rfl rfl ?_
           refine k_yes rfl rfl ?_
           refine k_pickT rfl rfl rfl rfl ?_
           exact k_met ⟨s5, ⟨(congrArg (fun b => some (Value.bool b)) (Option.some.inj hx11)), trivial⟩, ⟨rfl, rfl, rfl, rfl, rfl, rfl, rfl, rfl, rfl, rfl, rfl, rfl, rfl, rfl, rfl, rfl, rfl, rfl, rfl, rfl, rfl, rfl, rfl, rfl, rfl, rfl, trivial⟩, rfl, hE14⟩
          ·
           have hx11 := itF hx11 c15
           refine k_no rfl rfl rfl rfl ?_
           refine k_no rfl rfl rfl rfl ?_
           refine k_no rfl rfl rfl rfl ?_
           refine k_no rfl rfl rfl rfl ?_
           refine k_no rfl rfl rfl rfl ?_
           refine k_no rfl rfl rfl rfl ?_
           refine k_no rfl rfl rfl rfl ?_
           refine k_no rfl rfl rfl rfl ?_
           refine k_yes rfl rfl ?_
           refine k_pickF rfl rfl rfl rfl ?_
           exact k_met ⟨s5, ⟨(congrArg (fun b => some (Value.bool b)) (Option.some.inj hx11)), trivial⟩, ⟨rfl, rfl, rfl, rfl, rfl, rfl, rfl, rfl, rfl, rfl, rfl, rfl, rfl, rfl, rfl, rfl, rfl, rfl, rfl, rfl, rfl, rfl, rfl, rfl, rfl, rfl, trivial⟩, rfl, hE14⟩
         ·
          rintro s16 wL ⟨rfl, hE14⟩
          have szs16 := hE14.size
          have hS := hS.trans0 hE14
          have hE1 := hE1.trans0 hE14
          have hE3 := hE3.trans0 hE14
          have hE7 := hE7.trans0 hE14
          have hE10 := hE10.trans0 hE14
          have hE12 := hE12.trans0 hE14
          refine k_yes rfl rfl ?_
          refine k_pickF rfl rfl rfl rfl ?_
          exact k_met ⟨s16, ⟨(congrArg (fun b => some (Value.bool b)) (Option.some.inj hx9)), trivial⟩, ⟨rfl, rfl, rfl, rfl, rfl, rfl, rfl, rfl, rfl, rfl, rfl, rfl, rfl, rfl, rfl, rfl, rfl, trivial⟩, rfl, hE12⟩
       ·
        rintro s17 wL ⟨rfl, hE12⟩
        have szs17 := hE12.size
        have hS := hS.trans0 hE12
        have hE1 := hE1.trans0 hE12
        have hE3 := hE3.trans0 hE12
        have hE7 := hE7.trans0 hE12
        have hE10 := hE10.trans0 hE12
        refine k_pickT rfl rfl rfl rfl ?_
        exact k_met ⟨s17, ⟨(congrArg (fun b => some (Value.bool b)) (Option.some.inj hx8)), trivial⟩, ⟨rfl, rfl, rfl, rfl, rfl, rfl, rfl, rfl, trivial⟩, rfl, hE10⟩
      ·
       have hx8 := itF hx8 c11
       refine k_no rfl rfl rfl rfl ?_
       refine k_no rfl rfl rfl rfl ?_
       refine k_no rfl rfl rfl rfl ?_
       refine k_no rfl rfl rfl rfl ?_
       refine k_no rfl rfl rfl rfl ?_
       refine k_no rfl rfl rfl rfl ?_
       refine k_no rfl rfl rfl rfl ?_
       refine k_no rfl rfl rfl rfl ?_
       refine k_no rfl rfl rfl rfl ?_
       refine k_nou rfl rfl rfl rfl ?_
       refine k_nou rfl rfl rfl rfl ?_
       refine k_nou rfl rfl rfl rfl ?_
       refine k_nou rfl rfl rfl rfl ?_
       refine k_nou rfl rfl rfl rfl ?_
       refine k_nou rfl rfl rfl rfl ?_
       refine k_nou rfl rfl rfl rfl ?_
       refine k_nou rfl rfl rfl rfl ?_
       refine k_nou rfl rfl rfl rfl ?_
       refine k_nou rfl rfl rfl rfl ?_
       refine k_nou rfl rfl rfl rfl ?_
       refine k_nou rfl rfl rfl rfl ?_
       refine k_nou rfl rfl rfl rfl ?_
       refine k_nou rfl rfl rfl rfl ?_
       refine k_nou rfl rfl rfl rfl ?_
       refine k_nou rfl rfl rfl rfl ?_
       refine k_nou rfl rfl rfl rfl ?_
       refine k_nou rfl rfl rfl rfl ?_
       refine k_no rfl rfl rfl rfl ?_
       refine k_pickF rfl rfl rfl rfl ?_
       exact k_met ⟨s5, ⟨(congrArg (fun b => some (Value.bool b)) (Option.some.inj hx8)), trivial⟩, ⟨rfl, rfl, rfl, rfl, rfl, rfl, rfl, rfl, trivial⟩, rfl, hE10⟩
     ·
      rintro s18 wL ⟨rfl, hE10⟩
      have szs18 := hE10.size
      have hS := hS.trans0 hE10
      have hE1 := hE1.trans0 hE10
      have hE3 := hE3.trans0 hE10
      have hE7 := hE7.trans0 hE10
      replace hb_o0 := hb_o0.up2 hE10
      refine k_assign rfl rfl ?_
      refine k_nil ?_
      refine k_keep [(0, _), (2, _), (3, _), (4, _), (5, _), (24, _)] ⟨rfl, rfl, rfl, rfl, rfl, rfl, trivial⟩ ?_
      refine k_cond rfl (fun c19 => ?_) (fun c19 => ?_)
      ·
       have h := ibT h c19
       refine k_exit rfl ?_
       refine k_seq ?_
       refine k_seq ?_
       refine k_region ?_
       refine k_move rfl rfl ?_
       obtain ⟨x13, hx13, h⟩ := ob h
       refine k_call cal20 rfl (value_reader_fail_w  (OValueReader.mk_ a0 (by omega) hb_o0) hx13) rfl ?_
       rintro s20 vr20 st20 ⟨rfl, hm20_0⟩
       have hb_20_0 := hm20_0.at_
       have szs20 := st20.size
       have hS := hS.c0 st20
       refine k_assign rfl rfl ?_
       refine k_nil ?_
       refine k_keep [(0, _), (2, _), (3, _), (4, _)] ⟨rfl, rfl, rfl, rfl, trivial⟩ ?_
       refine k_ret ?_
       obtain rfl := Option.some.inj h
       refine ⟨_, rfl, Ret.mk hS ?_⟩
       exact ⟨rfl, (OValueReader.mk_ x13.2 (by omega) hb_20_0)⟩
      ·
       have h := ibF h c19
       refine k_skip ?_
       refine k_seq ?_
       refine k_region ?_
       refine k_move rfl rfl ?_
       refine k_eql rfl rfl rfl ?_
       refine k_assign rfl rfl ?_
       refine k_nil ?_
       refine k_keep [(0, _), (2, _), (3, _), (4, _), (57, _)] ⟨rfl, rfl, rfl, rfl, rfl, trivial⟩ ?_
       refine k_cond_dec rfl (fun c21 => ?_) (fun c21 => ?_)
       ·
        have h := itT h c21
        refine k_exit rfl ?_
        refine k_region ?_
        refine k_move rfl rfl ?_
        refine k_add rfl rfl rfl ?_
        refine k_assign rfl rfl ?_
        refine k_nil ?_
        refine k_blk ?_
        exact k_stop ⟨(s18, i64 (x3 + 1)), ⟨(by first | rfl | (simp <;> rfl)), trivial⟩, ⟨rfl, rfl, rfl, trivial⟩, ⟨rfl, hE7, h⟩⟩
       ·
        have h := itF h c21
        refine k_skip ?_
        refine k_exit rfl ?_
        exact k_stop ⟨(s18, x3), ⟨(by first | rfl | (simp <;> rfl)), trivial⟩, ⟨rfl, rfl, rfl, trivial⟩, ⟨rfl, hE7, h⟩⟩
   ·
    rintro ⟨s22, x6⟩ wL ⟨rfl, hE7, h⟩
    rw [hK7] at h
    have szs22 := hE7.size
    have hS := hS.trans0 hE7
    have hE1 := hE1.trans0 hE7
    have hE3 := hE3.trans0 hE7
    replace hb_o0 := hb_o0.up2 hE7
    replace h4 := h4.up2 hE7
    refine k_seq ?_
    refine k_region ?_
    refine k_move rfl rfl ?_
    refine k_move rfl rfl ?_
    refine k_nilCheck rfl rfl ?_
    refine k_field_addr fld41_0 rfl rfl ?_
    refine k_load_blk one9 rfl hb_o0 rfl rfl ?_
    refine k_move rfl rfl ?_
    obtain ⟨x14, hx14, h⟩ := ob h
    refine k_index_str Tryd.underlying9 rfl rfl (geti_out hx14).1 (geti_out hx14).2.1 rfl ?_
    refine k_as (congrArg (fun c : UInt8 => Value.int .u8 (c.toNat : Int)) (geti_getD hx14)) ?_
    refine k_bslice2 (ds := ([x14] : List UInt8).map bD) slc37 rfl (RVs.cons (R.val rfl) RVs.nil) (by rfl) (by rfl) rfl rfl ?_
    intro s23 v23 b23 st23 ge23 bl23 h23
    have szs23 := st23.size
    have hS := hS.trans0 st23
    have hE1 := hE1.trans0 st23
    have hE3 := hE3.trans0 st23
    replace h4 := h4.up2 st23
    have lt23 := Own.le1 h23
    obtain ⟨x15, hx15, h⟩ := ob h
    refine k_append (es := ([x14] : List UInt8).map bD) elem37 rfl rfl h4 (h23.sl) (by have := (app_out hx15).1; simp only [List.length_map] at *; omega) (by have := (app_out hx15).1; simp only [List.length_map] at *; omega) rfl ?_
    intro s24 v24 st24 h24
    rw [← List.map_append, ← (app_out hx15).2] at h24
    have szs24 := st24.size
    have hS := hS.c0 st24
    have hE1 := hE1.c0 st24
    have hE3 := hE3.c0 st24
    refine k_assign rfl rfl ?_
    refine k_nil ?_
    refine k_keep [(0, _), (2, _), (3, _), (4, _)] ⟨rfl, rfl, rfl, rfl, trivial⟩ ?_
    refine k_exit rfl ?_
    refine k_blk ?_
    refine k_region ?_
    refine k_move rfl rfl ?_
    refine k_add rfl rfl rfl ?_
    refine k_assign rfl rfl ?_
    refine k_nil ?_
    exact k_stop ⟨(s24, x15, v24, i64 (x6 + 1), j), ⟨(by first | rfl | (simp <;> rfl)), (by first | rfl | (simp <;> rfl)), trivial⟩, ⟨rfl, rfl, trivial⟩, ⟨rfl, hE3, h24, h⟩, (by simp)⟩
  ·
   have h := itF h c6
   refine k_exit rfl ?_
   exact k_stop ⟨s5, trivial, ⟨rfl, rfl, trivial⟩, ⟨rfl, hE1, h⟩⟩
 ·
  rintro s25 wL ⟨rfl, hE1, h⟩
  rw [hK1] at h
  have szs25 := hE1.size
  have hS := hS.trans0 hE1
  replace hb_o0 := hb_o0.up2 hE1
  refine k_seq ?_
  refine k_region ?_
  refine k_move rfl rfl ?_
  obtain ⟨x16, hx16, h⟩ := ob h
  refine k_call cal20 rfl (value_reader_fail_w  (OValueReader.mk_ a0 (by omega) hb_o0) hx16) rfl ?_
  rintro s26 vr26 st26 ⟨rfl, hm26_0⟩
  have hb_26_0 := hm26_0.at_
  have szs26 := st26.size
  have hS := hS.c0 st26
  refine k_assign rfl rfl ?_
  refine k_nil ?_
  refine k_keep [(2, _)] ⟨rfl, trivial⟩ ?_
  refine k_ret ?_
  obtain rfl := Option.some.inj h
  refine ⟨_, rfl, Ret.mk hS ?_⟩
  exact ⟨rfl, (OValueReader.mk_ x16.2 (by omega) hb_26_0)⟩

set_option maxHeartbeats 1000000 in
set_option maxRecDepth 100000 in
theorem value_Text_w {s : St} {a0 : (List UInt8)} {r : ApiValue}  (h : value_Text a0 = some r) : Calls Tryd.prog 22 #[S a0] s.w (Ret s K0 (fun s1 v => ∃ (u0 : List Value), v = .agg u0.toArray ∧ RC s1 u0 (dApiValue r))) := by
 unfold value_Text at h
 have hS := Step.r0 K0 s
 refine k_fn_c (rs := [.cell 2 25]) (args := [S a0]) Tryd.func22 rfl rfl rfl rfl ?_
 refine k_seq ?_
 refine k_region ?_
 refine k_alloc zero25 rfl ?_
 intro s1 b1 st1 h1 ge1
 have szs1 := st1.size
 have hS := hS.trans0 st1
 have lt1 := h1.lt
 refine k_nil ?_
 refine k_seq ?_
 refine k_region ?_
 refine k_move rfl rfl ?_
 refine k_build plc25 zero25 rfl (Parts.cons (CellsOf.lit rfl rfl).1 (Parts.cons (CellsOf.lit rfl rfl).1 Parts.nil)) (by rfl) rfl ?_
 refine k_as (v := .agg #[.int .i64 4, .int .i64 0, S a0, .slice none 0 0, .slice none 0 0]) rfl ?_
 refine k_store_c (cs' := [.int .i64 4, .int .i64 0, S a0, .slice none 0 0, .slice none 0 0]) size25 rfl rfl h1 (by first | (simp; done) | omega | (dsimp only; omega)) (CellsOf.lit rfl rfl) rfl (by first | rfl | (simp; done) | (simp; omega)) rfl ?_
 intro s2 st2 h1
 have szs2 := st2.size
 have hS := hS.c0 st2
 refine k_nil ?_
 refine k_keep [(2, _)] ⟨rfl, trivial⟩ ?_
 refine k_ret ?_
 obtain rfl := Option.some.inj h
 refine ⟨[.agg [.int .i64 4, .int .i64 0, S a0, .slice none 0 0, .slice none 0 0].toArray], ⟨res_blk (cs := [.int .i64 4, .int .i64 0, S a0, .slice none 0 0, .slice none 0 0]) rfl agg25 h1, trivial⟩, Ret.mk hS ?_⟩
 exact ⟨_, rfl, (clsApiValue (⟨4, 0, a0, [], []⟩ : ApiValue) (R.of_SL (.inl ⟨rfl, none, 0, rfl, fun _ => rfl⟩)) (R.of_SL (.inl ⟨rfl, none, 0, rfl, fun _ => rfl⟩)))⟩

set_option maxHeartbeats 1000000 in
set_option maxRecDepth 100000 in
theorem value_Number_w {s : St} {a0 : Int} {r : ApiValue}  (h : value_Number a0 = some r) : Calls Tryd.prog 41 #[.int .i64 a0] s.w (Ret s K0 (fun s1 v => ∃ (u0 : List Value), v = .agg u0.toArray ∧ RC s1 u0 (dApiValue r))) := by
 unfold value_Number at h
 have hS := Step.r0 K0 s
 refine k_fn_c (rs := [.cell 2 25]) (args := [.int .i64 a0]) Tryd.func41 rfl rfl rfl rfl ?_
 refine k_seq ?_
 refine k_region ?_
 refine k_alloc zero25 rfl ?_
 intro s1 b1 st1 h1 ge1
 have szs1 := st1.size
 have hS := hS.trans0 st1
 have lt1 := h1.lt
 refine k_nil ?_
 refine k_seq ?_
 refine k_region ?_
 refine k_move rfl rfl ?_
 refine k_build plc25 zero25 rfl (Parts.cons (CellsOf.lit rfl rfl).1 (Parts.cons (CellsOf.lit rfl rfl).1 Parts.nil)) (by rfl) rfl ?_
 refine k_as (v := .agg #[.int .i64 3, .int .i64 a0, S ([] : List UInt8), .slice none 0 0, .slice none 0 0]) rfl ?_
 refine k_store_c (cs' := [.int .i64 3, .int .i64 a0, S ([] : List UInt8), .slice none 0 0, .slice none 0 0]) size25 rfl rfl h1 (by first | (simp; done) | omega | (dsimp only; omega)) (CellsOf.lit rfl rfl) rfl (by first | rfl | (simp; done) | (simp; omega)) rfl ?_
 intro s2 st2 h1
 have szs2 := st2.size
 have hS := hS.c0 st2
 refine k_nil ?_
 refine k_keep [(2, _)] ⟨rfl, trivial⟩ ?_
 refine k_ret ?_
 obtain rfl := Option.some.inj h
 refine ⟨[.agg [.int .i64 3, .int .i64 a0, S ([] : List UInt8), .slice none 0 0, .slice none 0 0].toArray], ⟨res_blk (cs := [.int .i64 3, .int .i64 a0, S ([] : List UInt8), .slice none 0 0, .slice none 0 0]) rfl agg25 h1, trivial⟩, Ret.mk hS ?_⟩
 exact ⟨_, rfl, (clsApiValue (⟨3, a0, ([] : List UInt8), [], []⟩ : ApiValue) (R.of_SL (.inl ⟨rfl, none, 0, rfl, fun _ => rfl⟩)) (R.of_SL (.inl ⟨rfl, none, 0, rfl, fun _ => rfl⟩)))⟩

set_option maxHeartbeats 1000000 in
set_option maxRecDepth 100000 in
theorem value_reader_number_w {s : St} {k0 : Nat} {p0 : Value} {a0 : ValueReader} {r : (ApiValue × ValueReader)} (ho0 : OValueReader s k0 p0 a0) (tb0 : Tab0 s) (tb1 : Tab1 s) (tb2 : Tab2 s) (h : value_reader_number a0 = some r) : Calls Tryd.prog 25 #[p0] s.w (Ret s (KO k0) (fun s1 v => ∃ (u0 : List Value), v = .agg u0.toArray ∧ RC s1 u0 (dApiValue r.1) ∧ OValueReader s1 k0 p0 r.2)) := by
 unfold value_reader_number at h
 have le0 := ho0.le
 have ne0 := ho0.ne
 obtain ⟨bo0, rfl⟩ := ho0.ptr
 have hb_o0 := ho0.at_
 have hS := Step.r0 (KO k0) s
 refine k_fn_c (rs := [.cell 2 25]) (args := [.pointer (some ⟨bo0, 0, none⟩)]) Tryd.func25 rfl rfl rfl rfl ?_
 refine k_seq ?_
 refine k_region ?_
 refine k_alloc zero25 rfl ?_
 intro s1 b1 st1 h1 ge1
 have szs1 := st1.size
 have hS := hS.trans0 st1
 replace hb_o0 := hb_o0.up2 st1
 replace tb0 := tb0.up2 st1
 replace tb1 := tb1.up2 st1
 replace tb2 := tb2.up2 st1
 have lt1 := h1.lt
 refine k_nil ?_
 refine k_seq ?_
 refine k_drawT (KN s1.n) 12 (.read 0 (.read 1 (.read 2 (.read 3 (.read 4 (.read 5 (.read 6 (.read 7 (.read 8 (.alt 9 (.read 10 (.read 11 .fin)) .no)))))))))) mixed (by intro c h; (try simp only [KC, KO, KU, KN, KB] at h) <;> omega) rfl rfl rfl ?_
 intro s2 st2
 have szs2 := st2.size
 have hS := hS.trans0 st2
 replace hb_o0 := hb_o0.up2 st2
 replace h1 := h1.up2 st2
 replace tb0 := tb0.up2 st2
 replace tb1 := tb1.up2 st2
 replace tb2 := tb2.up2 st2
 refine rt_read (.pointer (some ⟨bo0, 0, none⟩)) rfl rfl (fun s3 st3 => ?_) ?_
 ·refine k_move rfl rfl ?_
  exact fq_end
 refine rt_read (.pointer (some ⟨bo0, 0, none⟩)) rfl rfl (fun s4 st4 => ?_) ?_
 ·refine k_nilCheck rfl rfl ?_
  exact fq_end
 refine rt_read (.pointer (some ⟨bo0, 0, none⟩)) rfl rfl (fun s5 st5 => ?_) ?_
 ·refine k_field_addr fld41_0 rfl rfl ?_
  exact fq_end
 refine rt_read (S a0.rest) rfl rfl (fun s6 st6 => ?_) ?_
 ·try replace hb_o0 := hb_o0.up2 st6
  refine k_load_blk one9 rfl hb_o0 rfl rfl ?_
  exact fq_end
 refine rt_read (.int .i64 (a0.rest.length : Int)) rfl rfl (fun s7 st7 => ?_) ?_
 ·refine k_len_str Tryd.underlying9 rfl rfl ?_
  exact fq_end
 refine rt_read (.pointer (some ⟨bo0, 0, none⟩)) rfl rfl (fun s8 st8 => ?_) ?_
 ·refine k_move rfl rfl ?_
  exact fq_end
 refine rt_read (.pointer (some ⟨bo0, 0, none⟩)) rfl rfl (fun s9 st9 => ?_) ?_
 ·refine k_nilCheck rfl rfl ?_
  exact fq_end
 refine rt_read (.pointer (some ⟨bo0, 0, none⟩)) rfl rfl (fun s10 st10 => ?_) ?_
 ·refine k_field_addr fld41_0 rfl rfl ?_
  exact fq_end
 refine rt_read (S a0.rest) rfl rfl (fun s11 st11 => ?_) ?_
 ·try replace hb_o0 := hb_o0.up2 st11
  refine k_load_blk one9 rfl hb_o0 rfl rfl ?_
  exact fq_end
 refine rt_act rfl rfl ?_
 have hA12 := Step.r0 (KN s1.n) s2
 by_cases c13 : ([45, 48, 49, 50, 51, 52, 53, 54, 55, 56, 57] : List UInt8).all (fun b => decide (b.toNat < 128)) = true ∧ ([45, 48, 49, 50, 51, 52, 53, 54, 55, 56, 57] : List UInt8).length ≤ 1000000
 case neg => exact (noneNe (itF h c13)).elim
 replace h := itT h c13
 refine k_call cal38 rfl (trimLeft_w (a0 := a0.rest) (a1 := ([45, 48, 49, 50, 51, 52, 53, 54, 55, 56, 57] : List UInt8)) c13) rfl ?_
 rintro s14 _ st14 rfl
 have szs14 := st14.size
 have hS := hS.trans0 st14
 have hA12 := hA12.trans0 st14
 replace hb_o0 := hb_o0.up2 st14
 replace h1 := h1.up2 st14
 replace tb0 := tb0.up2 st14
 replace tb1 := tb1.up2 st14
 replace tb2 := tb2.up2 st14
 refine rt_cont hA12 ?_
 refine rt_read (.int .i64 ((Lib.trimLeftS a0.rest ([45, 48, 49, 50, 51, 52, 53, 54, 55, 56, 57] : List UInt8)).length : Int)) rfl rfl (fun s15 st15 => ?_) ?_
 ·refine k_len_str Tryd.underlying9 rfl rfl ?_
  exact fq_end
 refine rt_read (.int .i64 (i64 ((a0.rest.length : Int) - ((Lib.trimLeftS a0.rest ([45, 48, 49, 50, 51, 52, 53, 54, 55, 56, 57] : List UInt8)).length : Int)))) rfl rfl (fun s16 st16 => ?_) ?_
 ·refine k_sub_ rfl rfl rfl ?_
  exact fq_end
 refine rt_fin ?_
 refine k_assign rfl rfl ?_
 refine k_nil ?_
 refine k_keep [(0, _), (2, _), (3, _)] ⟨rfl, rfl, rfl, trivial⟩ ?_
 refine k_seq ?_
 refine k_region ?_
 refine k_move rfl rfl ?_
 refine k_nilCheck rfl rfl ?_
 refine k_field_addr fld41_0 rfl rfl ?_
 refine k_load_blk one9 rfl hb_o0 rfl rfl ?_
 refine k_move rfl rfl ?_
 obtain ⟨x1, hx1, h⟩ := ob h
 refine k_cut_str (i := (0 : Int).toNat) (j := (i64 ((a0.rest.length : Int) - ((Lib.trimLeftS a0.rest ([45, 48, 49, 50, 51, 52, 53, 54, 55, 56, 57] : List UInt8)).length : Int)) : Int).toNat) Tryd.underlying9 rfl CutAt.none (CutAt.int rfl (Int.le_trans (subl_out hx1).1 (subl_out hx1).2.1)) (subl_ij hx1) (subl_j hx1) rfl ?_
 refine k_as (v := S x1) (congrArg S (subl_out hx1).2.2.2.symm) ?_
 by_cases c17 : x1.length ≤ 1000000
 case neg => exact (noneNe (itF h c17)).elim
 replace h := itT h c17
 refine k_call cal39 rfl (parseInt_w (a0 := x1) tb0 tb1 c17) rfl ?_
 rintro s18 _ st18 ⟨ev18, rfl, he18⟩
 have szs18 := st18.size
 have hS := hS.trans0 st18
 replace hb_o0 := hb_o0.up2 st18
 replace h1 := h1.up2 st18
 replace tb2 := tb2.up2 st18
 refine k_move rfl rfl ?_
 refine k_extract rfl rfl rfl ?_
 refine k_extract rfl rfl rfl ?_
 refine k_assign rfl rfl ?_
 refine k_assign rfl rfl ?_
 refine k_nil ?_
 refine k_keep [(0, _), (2, _), (3, _), (4, _), (5, _)] ⟨rfl, rfl, rfl, rfl, rfl, trivial⟩ ?_
 refine k_seq ?_
 obtain ⟨kj2, hK19, h⟩ := jn_out h
 have hE19 := Step.r0 (KO k0) s18
 refine k_cutc (X := St × (List UInt8) × Bool) [(0, .pointer (some ⟨bo0, 0, none⟩)), (2, .pointer (some ⟨b1, 0, none⟩)), (3, .int .i64 (i64 ((a0.rest.length : Int) - ((Lib.trimLeftS a0.rest ([45, 48, 49, 50, 51, 52, 53, 54, 55, 56, 57] : List UInt8)).length : Int)))), (4, .int .i64 ((parseIntR x1).1))] (fun (xL : St × (List UInt8) × Bool) => match xL with | (sl, x3, x4) => []) (fun (xL : St × (List UInt8) × Bool) (wL : World) => match xL with | (sl, x3, x4) => sl.w = wL ∧ Step (KO k0) s18 sl ∧ (Blk sl bo0 ⟨k0, 0⟩ [S x3, .bool x4] 41) ∧ kj2 x3 x4 = some r) ?_ ?_
 ·
  refine k_seq ?_
  refine k_drawT (KN s18.n) 13 (.read 0 (.read 1 (.read 2 (.read 3 (.read 5 (.read 6 (.read 7 (.read 8 (.read 9 (.read 10 (.alt 4 (.read 11 (.read 12 .fin)) .no))))))))))) mixed (by intro c h; (try simp only [KC, KO, KU, KN, KB] at h) <;> omega) rfl rfl rfl ?_
  intro s20 st20
  have szs20 := st20.size
  have hS := hS.trans0 st20
  have hE19 := hE19.trans0 st20
  replace hb_o0 := hb_o0.up2 st20
  replace tb2 := tb2.up2 st20
  refine rt_read (ev18) rfl rfl (fun s21 st21 => ?_) ?_
  ·refine k_move rfl rfl ?_
   exact fq_end
  refine rt_read (.bool ((parseIntR x1).2)) rfl rfl (fun s22 st22 => ?_) ?_
  ·refine k_neq_err ifcT62 he18 rfl rfl ?_
   exact fq_end
  refine rt_read (.bool ((parseIntR x1).2)) rfl rfl (fun s23 st23 => ?_) ?_
  ·refine k_move rfl rfl ?_
   exact fq_end
  refine rt_splitb (fun c24 => ?_) (fun c24 => ?_)
  ·
   have h := ibT h c24
   refine rt_read undef rfl rfl (fun s25 st25 => ?_) ?_
   ·refine k_no rfl rfl rfl rfl ?_
    exact fq_end
   refine rt_read undef rfl rfl (fun s26 st26 => ?_) ?_
   ·refine k_no rfl rfl rfl rfl ?_
    exact fq_end
   refine rt_read undef rfl rfl (fun s27 st27 => ?_) ?_
   ·refine k_no rfl rfl rfl rfl ?_
    exact fq_end
   refine rt_read undef rfl rfl (fun s28 st28 => ?_) ?_
   ·refine k_no rfl rfl rfl rfl ?_
    exact fq_end
   refine rt_read undef rfl rfl (fun s29 st29 => ?_) ?_
   ·refine k_no rfl rfl rfl rfl ?_
    exact fq_end
   refine rt_read undef rfl rfl (fun s30 st30 => ?_) ?_
   ·refine k_no rfl rfl rfl rfl ?_
    exact fq_end
   refine rt_read undef rfl rfl (fun s31 st31 => ?_) ?_
   ·refine k_no rfl rfl rfl rfl ?_
    exact fq_end
   refine rt_act rfl rfl ?_
   refine k_no rfl rfl rfl rfl ?_
   refine rt_cont ((Step.refl _).of0 (by first | exact fun _ h => h | (intro c h; simp [KC, KO, KU, KN, KB] at h <;> omega))) ?_
   refine rt_read undef rfl rfl (fun s32 st32 => ?_) ?_
   ·refine k_no rfl rfl rfl rfl ?_
    exact fq_end
   refine rt_read (.bool true) rfl rfl (fun s33 st33 => ?_) ?_
   ·refine k_pickT rfl rfl rfl rfl ?_
    exact fq_end
   refine rt_fin ?_
   refine k_nil ?_
   refine k_keep [(0, _), (2, _), (3, _), (4, _), (40, _)] ⟨rfl, rfl, rfl, rfl, rfl, trivial⟩ ?_
   refine k_cond_true rfl ?_
   refine k_region ?_
   refine k_move rfl rfl ?_
   obtain ⟨x5, hx5, h⟩ := ob h
   refine k_call cal20 rfl (value_reader_fail_w  (OValueReader.mk_ a0 (by omega) hb_o0) hx5) rfl ?_
   rintro s34 vr34 st34 ⟨rfl, hm34_0⟩
   have hb_34_0 := hm34_0.at_
   have szs34 := st34.size
   have hS := hS.c0 st34
   have hE19 := hE19.c0 st34
   refine k_nil ?_
   exact k_stop ⟨(s34, x5.2.rest, x5.2.ok), trivial, ⟨rfl, rfl, rfl, rfl, trivial⟩, ⟨rfl, hE19, hb_34_0, h⟩⟩
  ·
   have h := ibF h c24
   refine rt_read (.int .i64 ((parseIntR x1).1)) rfl rfl (fun s35 st35 => ?_) ?_
   ·refine k_yes rfl rfl ?_
    refine k_move rfl rfl ?_
    exact fq_end
   refine rt_read (.pointer (some ⟨bo0, 0, none⟩)) rfl rfl (fun s36 st36 => ?_) ?_
   ·refine k_yes rfl rfl ?_
    refine k_move rfl rfl ?_
    exact fq_end
   refine rt_read (.pointer (some ⟨bo0, 0, none⟩)) rfl rfl (fun s37 st37 => ?_) ?_
   ·refine k_yes rfl rfl ?_
    refine k_nilCheck rfl rfl ?_
    exact fq_end
   refine rt_read (.pointer (some ⟨bo0, 0, none⟩)) rfl rfl (fun s38 st38 => ?_) ?_
   ·refine k_yes rfl rfl ?_
    refine k_field_addr fld41_0 rfl rfl ?_
    exact fq_end
   refine rt_read (S a0.rest) rfl rfl (fun s39 st39 => ?_) ?_
   ·try replace hb_o0 := hb_o0.up2 st39
    refine k_yes rfl rfl ?_
    refine k_load_blk one9 rfl hb_o0 rfl rfl ?_
    exact fq_end
   refine rt_read (.int .i64 (i64 ((a0.rest.length : Int) - ((Lib.trimLeftS a0.rest ([45, 48, 49, 50, 51, 52, 53, 54, 55, 56, 57] : List UInt8)).length : Int)))) rfl rfl (fun s40 st40 => ?_) ?_
   ·refine k_yes rfl rfl ?_
    refine k_move rfl rfl ?_
    exact fq_end
   obtain ⟨x6, hx6, h⟩ := ob h
   refine rt_read (S x6) rfl rfl (fun s41 st41 => ?_) ?_
   ·refine k_yes rfl rfl ?_
    refine k_cut_str (i := (0 : Int).toNat) (j := (i64 ((a0.rest.length : Int) - ((Lib.trimLeftS a0.rest ([45, 48, 49, 50, 51, 52, 53, 54, 55, 56, 57] : List UInt8)).length : Int)) : Int).toNat) Tryd.underlying9 rfl CutAt.none (CutAt.int rfl (Int.le_trans (subl_out hx6).1 (subl_out hx6).2.1)) (subl_ij hx6) (subl_j hx6) rfl ?_
    refine k_as (v := S x6) (congrArg S (subl_out hx6).2.2.2.symm) ?_
    exact fq_end
   refine rt_act rfl rfl ?_
   refine k_yes rfl rfl ?_
   have hA42 := Step.r0 (KN s18.n) s20
   by_cases c43 : -9223372036854775808 ≤ (parseIntR x1).1 ∧ (parseIntR x1).1 ≤ 9223372036854775807
   case neg => exact (noneNe (itF h c43)).elim
   replace h := itT h c43
   refine k_call cal40 rfl (formatInt_w (a0 := ((parseIntR x1).1)) tb2 c43) rfl ?_
   rintro s44 _ st44 rfl
   have szs44 := st44.size
   have hS := hS.trans0 st44
   have hE19 := hE19.trans0 st44
   have hA42 := hA42.trans0 st44
   replace hb_o0 := hb_o0.up2 st44
   refine rt_cont hA42 ?_
   refine rt_read (.bool (decide ((itoaF ((parseIntR x1).1)) ≠ x6))) rfl rfl (fun s45 st45 => ?_) ?_
   ·refine k_yes rfl rfl ?_
    refine k_neq_str rfl rfl rfl ?_
    exact fq_end
   refine rt_read (.bool (decide ((itoaF ((parseIntR x1).1)) ≠ x6))) rfl rfl (fun s46 st46 => ?_) ?_
   ·refine k_pickF rfl rfl rfl rfl ?_
    exact fq_end
   refine rt_fin ?_
   refine k_nil ?_
   refine k_keep [(0, _), (2, _), (3, _), (4, _), (40, _)] ⟨rfl, rfl, rfl, rfl, rfl, trivial⟩ ?_
   refine k_cond_dec rfl (fun c47 => ?_) (fun c47 => ?_)
   ·
    have h := itT h c47
    refine k_region ?_
    refine k_move rfl rfl ?_
    obtain ⟨x7, hx7, h⟩ := ob h
    refine k_call cal20 rfl (value_reader_fail_w  (OValueReader.mk_ a0 (by omega) hb_o0) hx7) rfl ?_
    rintro s48 vr48 st48 ⟨rfl, hm48_0⟩
    have hb_48_0 := hm48_0.at_
    have szs48 := st48.size
    have hS := hS.c0 st48
    have hE19 := hE19.c0 st48
    refine k_nil ?_
    exact k_stop ⟨(s48, x7.2.rest, x7.2.ok), trivial, ⟨rfl, rfl, rfl, rfl, trivial⟩, ⟨rfl, hE19, hb_48_0, h⟩⟩
   ·
    have h := itF h c47
    refine k_skip ?_
    exact k_stop ⟨(s44, a0.rest, a0.ok), trivial, ⟨rfl, rfl, rfl, rfl, trivial⟩, ⟨rfl, hE19, hb_o0, h⟩⟩
 ·
  rintro ⟨s49, x3, x4⟩ wL ⟨rfl, hE19, hb_o0, h⟩
  rw [hK19] at h
  have szs49 := hE19.size
  have hS := hS.c0 hE19
  replace h1 := h1.up2 hE19
  refine k_seq ?_
  refine k_region ?_
  refine k_move rfl rfl ?_
  refine k_move rfl rfl ?_
  refine k_nilCheck rfl rfl ?_
  refine k_field_addr fld41_0 rfl rfl ?_
  refine k_load_blk one9 rfl hb_o0 rfl rfl ?_
  refine k_move rfl rfl ?_
  obtain ⟨x8, hx8, h⟩ := ob h
  refine k_cut_str (i := (i64 ((a0.rest.length : Int) - ((Lib.trimLeftS a0.rest ([45, 48, 49, 50, 51, 52, 53, 54, 55, 56, 57] : List UInt8)).length : Int)) : Int).toNat) (j := ((x3.length : Int) : Int).toNat) Tryd.underlying9 rfl (CutAt.int rfl (subl_out hx8).1) CutAt.none (subl_ij hx8) (subl_j hx8) rfl ?_
  refine k_as (v := S x8) (congrArg S (subl_out hx8).2.2.2.symm) ?_
  refine k_nilCheck rfl rfl ?_
  refine k_field_addr fld41_0 rfl rfl ?_
  refine k_store_c (cs' := [S x8, .bool x4]) size9 rfl rfl hb_o0 (by first | (simp; done) | omega | (dsimp only; omega)) (CellsOf.lit rfl rfl) rfl (by first | rfl | (simp; done) | (simp; omega)) rfl ?_
  intro s50 st50 hb_o0
  have szs50 := st50.size
  have hS := hS.c0 st50
  replace h1 := h1.up2 st50
  refine k_nil ?_
  refine k_keep [(2, _), (4, _)] ⟨rfl, rfl, trivial⟩ ?_
  refine k_seq ?_
  refine k_region ?_
  refine k_move rfl rfl ?_
  obtain ⟨x9, hx9, h⟩ := ob h
  refine k_call cal41 rfl (value_Number_w   hx9) rfl ?_
  rintro s51 vr51 st51 ⟨cs51_0, rfl, h51_0⟩
  have szs51 := st51.size
  have hS := hS.trans0 st51
  replace hb_o0 := hb_o0.up2 st51
  replace h1 := h1.up2 st51
  obtain ⟨q51_0_0, q51_0_1, rfl, hq51_0_0, hq51_0_1⟩ := opnApiValue h51_0
  refine k_store_c (cs' := [.int .i64 x9.Kind, .int .i64 x9.Num, S x9.Text, q51_0_0, q51_0_1]) size25 rfl rfl h1 (by first | (simp; done) | omega | (dsimp only; omega)) (CellsOf.lit (vs := [.int .i64 x9.Kind, .int .i64 x9.Num, S x9.Text, q51_0_0, q51_0_1]) rfl (ones.cons rfl (ones.cons rfl (ones.cons rfl (ones.cons ((SL.of_R hq51_0_0)).one1 (ones.cons ((SL.of_R hq51_0_1)).one1 ones.nil)))))) rfl (by first | rfl | (simp; done) | (simp; omega)) rfl ?_
  intro s52 st52 h1
  have szs52 := st52.size
  have hS := hS.c0 st52
  replace hq51_0_0 := hq51_0_0.up2 st52
  replace hq51_0_1 := hq51_0_1.up2 st52
  replace hb_o0 := hb_o0.up2 st52
  refine k_nil ?_
  refine k_keep [(2, _)] ⟨rfl, trivial⟩ ?_
  refine k_ret ?_
  obtain rfl := Option.some.inj h
  refine ⟨[.agg [.int .i64 x9.Kind, .int .i64 x9.Num, S x9.Text, q51_0_0, q51_0_1].toArray], ⟨res_blk (cs := [.int .i64 x9.Kind, .int .i64 x9.Num, S x9.Text, q51_0_0, q51_0_1]) rfl agg25 h1, trivial⟩, Ret.mk hS ?_⟩
  exact ⟨_, rfl, (clsApiValue x9 hq51_0_0 hq51_0_1), (OValueReader.mk_ (⟨x8, x4⟩ : ValueReader) (by omega) hb_o0)⟩

set_option maxHeartbeats 1000000 in
set_option maxRecDepth 100000 in
theorem value_reader_row_w {s : St} {k0 : Nat} {p0 : Value} {a0 : ValueReader} {a1 : Int} {a2 : Int} {a3 : (List UInt8)} {a70 : (ValueReader → Int → Option (ApiValue × ValueReader))} {r : (ApiValue × ValueReader)} (ho0 : OValueReader s k0 p0 a0) (tb0 : Tab0 s) (tb1 : Tab1 s) (tb2 : Tab2 s) (ih70 : ∀ {s : St} {k0 : Nat} {p0 : Value} {a0 : ValueReader} {a1 : Int} {r : (ApiValue × ValueReader)} (ho0 : OValueReader s k0 p0 a0) (tb0 : Tab0 s) (tb1 : Tab1 s) (tb2 : Tab2 s) (h : a70 a0 a1 = some r), Calls Tryd.prog 13 #[p0, .int .i64 a1] s.w (Ret s (KO k0) (fun s1 v => ∃ (u0 : List Value), v = .agg u0.toArray ∧ RC s1 u0 (dApiValue r.1) ∧ OValueReader s1 k0 p0 r.2))) (h : value_reader_row a70 a0 a1 a2 a3 = some r) : Calls Tryd.prog 24 #[p0, .int .i64 a1, .int .i64 a2, S a3] s.w (Ret s (KO k0) (fun s1 v => ∃ (u0 : List Value), v = .agg u0.toArray ∧ RC s1 u0 (dApiValue r.1) ∧ OValueReader s1 k0 p0 r.2)) := by
 unfold value_reader_row at h
 have le0 := ho0.le
 have ne0 := ho0.ne
 obtain ⟨bo0, rfl⟩ := ho0.ptr
 have hb_o0 := ho0.at_
 have hS := Step.r0 (KO k0) s
 refine k_fn_c (rs := [.cell 8 25]) (args := [.pointer (some ⟨bo0, 0, none⟩), .int .i64 a1, .int .i64 a2, S a3]) Tryd.func24 rfl rfl rfl rfl ?_
 refine k_seq ?_
 refine k_region ?_
 refine k_alloc zero25 rfl ?_
 intro s1 b1 st1 h1 ge1
 have szs1 := st1.size
 have hS := hS.trans0 st1
 replace hb_o0 := hb_o0.up2 st1
 replace tb0 := tb0.up2 st1
 replace tb1 := tb1.up2 st1
 replace tb2 := tb2.up2 st1
 have lt1 := h1.lt
 refine k_nil ?_
 refine k_scope (fun _ _ _ h => h) ?_
 refine k_seq ?_
 refine k_region ?_
 refine k_move rfl rfl ?_
 refine k_build plc25 zero25 rfl (Parts.cons (CellsOf.lit rfl rfl).1 Parts.nil) (by rfl) rfl ?_
 refine k_as (v := .agg #[.int .i64 a1, .int .i64 0, S ([] : List UInt8), .slice none 0 0, .slice none 0 0]) rfl ?_
 refine k_alloc zero25 rfl ?_
 intro s2 b2 st2 h2 ge2
 have szs2 := st2.size
 have hS := hS.trans0 st2
 replace hb_o0 := hb_o0.up2 st2
 replace h1 := h1.up2 st2
 replace tb0 := tb0.up2 st2
 replace tb1 := tb1.up2 st2
 replace tb2 := tb2.up2 st2
 have lt2 := h2.lt
 refine k_store_c (cs' := [.int .i64 a1, .int .i64 0, S ([] : List UInt8), .slice none 0 0, .slice none 0 0]) size25 rfl rfl h2 (by first | (simp; done) | omega | (dsimp only; omega)) (CellsOf.lit rfl rfl) rfl (by first | rfl | (simp; done) | (simp; omega)) rfl ?_
 intro s3 st3 h2
 have szs3 := st3.size
 have hS := hS.c0 st3
 replace hb_o0 := hb_o0.up2 st3
 replace h1 := h1.up2 st3
 replace tb0 := tb0.up2 st3
 replace tb1 := tb1.up2 st3
 replace tb2 := tb2.up2 st3
 refine k_nil ?_
 refine k_keep [(0, _), (1, _), (2, _), (3, _), (8, _), (9, _)] ⟨rfl, rfl, rfl, rfl, rfl, rfl, trivial⟩ ?_
 refine k_seq ?_
 refine k_label ?_
 refine k_seq ?_
 have hz4 : OValueReader s3 k0 (.pointer (some ⟨bo0, 0, none⟩)) a0 := (OValueReader.mk_ a0 (by omega) hb_o0)
 have lehz4 := hz4.le
 have nehz4 := hz4.ne
 obtain ⟨kj1, hK5, h⟩ := jn_out h
 have hE5 := Step.r0 (KU (KO k0) (KU (KC (b2 + 1) 0) (KU (KC (b2 + 1) 74) (KC (b2 + 1) 73)))) s3
 refine k_cutc (X := St × ValueReader × (List ApiValue) × Value × (List (List UInt8)) × Value) [(8, .pointer (some ⟨b1, 0, none⟩)), (9, .pointer (some ⟨b2, 0, none⟩))] (fun (xL : St × ValueReader × (List ApiValue) × Value × (List (List UInt8)) × Value) => match xL with | (sl, x2, x3, v6, x4, v7) => []) (fun (xL : St × ValueReader × (List ApiValue) × Value × (List (List UInt8)) × Value) (wL : World) => match xL with | (sl, x2, x3, v6, x4, v7) => sl.w = wL ∧ Step (KU (KO k0) (KU (KC (b2 + 1) 0) (KU (KC (b2 + 1) 74) (KC (b2 + 1) 73)))) s3 sl ∧ (OValueReader sl k0 (.pointer (some ⟨bo0, 0, none⟩)) x2) ∧ (Blk sl b1 ⟨b1 + 1, 0⟩ [.int .i64 0, .int .i64 0, S ([] : List UInt8), .slice none 0 0, .slice none 0 0] 25) ∧ (Own sl ⟨b2 + 1, 73⟩ 25 5 v6 (x3.map dApiValue)) ∧ (Own sl ⟨b2 + 1, 74⟩ 9 1 v7 (x4.map dS)) ∧ (Blk sl b2 ⟨b2 + 1, 0⟩ [.int .i64 a1, .int .i64 0, S ([] : List UInt8), v6, v7] 25) ∧ kj1 x2 x3 x4 = some r) ?_ ?_
 ·
  refine k_seq ?_
  refine k_region ?_
  refine k_assign rfl rfl ?_
  refine k_nil ?_
  refine k_block ?_
  have h8 : Own s3 ⟨b2 + 1, 73⟩ 25 5 (.slice none 0 0) (([] : List ApiValue).map dApiValue) := Own.nil (by first | (simp; done) | omega | (dsimp only; omega)) (by first | (simp; done) | omega | (dsimp only; omega))
  have h9 : Own s3 ⟨b2 + 1, 74⟩ 9 1 (.slice none 0 0) (([] : List (List UInt8)).map dS) := Own.nil (by first | (simp; done) | omega | (dsimp only; omega)) (by first | (simp; done) | omega | (dsimp only; omega))
  refine k_loopc (X := St × Int × ValueReader × (List ApiValue) × Value × (List (List UInt8)) × Value × Nat) [(0, _), (1, _), (2, _), (3, _), (8, _), (9, _)] (fun (xL : St × Int × ValueReader × (List ApiValue) × Value × (List (List UInt8)) × Value × Nat) => match xL with | (sl, x5, x6, x7, v11, x8, v12, j) => [(10, .int .i64 x5)]) (fun (xL : St × Int × ValueReader × (List ApiValue) × Value × (List (List UInt8)) × Value × Nat) (wL : World) => match xL with | (sl, x5, x6, x7, v11, x8, v12, j) => sl.w = wL ∧ Step (KU (KO k0) (KU (KC (b2 + 1) 74) (KU (KC (b2 + 1) 0) (KC (b2 + 1) 73)))) s3 sl ∧ (OValueReader sl k0 (.pointer (some ⟨bo0, 0, none⟩)) x6) ∧ (Blk sl b1 ⟨b1 + 1, 0⟩ [.int .i64 0, .int .i64 0, S ([] : List UInt8), .slice none 0 0, .slice none 0 0] 25) ∧ (Own sl ⟨b2 + 1, 73⟩ 25 5 v11 (x7.map dApiValue)) ∧ (Own sl ⟨b2 + 1, 74⟩ 9 1 v12 (x8.map dS)) ∧ (Blk sl b2 ⟨b2 + 1, 0⟩ [.int .i64 a1, .int .i64 0, S ([] : List UInt8), v11, v12] 25) ∧ value_reader_row_l1 a3 kj1 a70 a2 a1 j x5 x6 x7 x8 = some r) (fun (xL : St × Int × ValueReader × (List ApiValue) × Value × (List (List UInt8)) × Value × Nat) => match xL with | (sl, x5, x6, x7, v11, x8, v12, j) => j) (s3, 0, a0, [], (.slice none 0 0), [], (.slice none 0 0), FU) ⟨rfl, rfl, rfl, rfl, rfl, rfl, trivial⟩ ⟨(by first | rfl | (simp <;> rfl)), trivial⟩ ⟨rfl, (Step.refl _).of0 (by first | exact fun _ h => h | (intro c h; simp [KC, KO, KU, KN, KB] at h <;> omega)), hz4, h1, h8, h9, h2, h⟩ ?_
  rintro ⟨s13, x5, x6, x7, v11, x8, v12, j⟩ wL ⟨rfl, hE10, hz4, h1, h11, h12, h2, h⟩
  cases j with
  | zero => rw [value_reader_row_l1] at h; exact (noneNe h).elim
  | succ j =>
  rw [value_reader_row_l1] at h
  have szs13 := hE10.size
  have hS := hS.c0 hE10
  have hE5 := hE5.c0 hE10
  replace tb0 := tb0.up2 hE10
  replace tb1 := tb1.up2 hE10
  replace tb2 := tb2.up2 hE10
  refine k_seq ?_
  refine k_seq ?_
  refine k_region ?_
  refine k_move rfl rfl ?_
  have hb_t14 := hz4.at_
  refine k_nilCheck rfl rfl ?_
  refine k_field_addr fld41_1 rfl rfl ?_
  refine k_load_blk one4 rfl hb_t14 rfl rfl ?_
  refine k_move rfl rfl ?_
  have hz15 : OValueReader s13 k0 (.pointer (some ⟨bo0, 0, none⟩)) x6 := (OValueReader.mk_ x6 (by omega) hb_t14)
  have lehz15 := hz15.le
  have nehz15 := hz15.ne
  obtain ⟨x9, hx9, h⟩ := ob h
  have hE16 := Step.r0 (KO k0) s13
  refine k_cutl (X := St) 5 [(0, (.pointer (some ⟨bo0, 0, none⟩))), (1, .int .i64 a1), (2, .int .i64 a2), (3, S a3), (8, .pointer (some ⟨b1, 0, none⟩)), (9, .pointer (some ⟨b2, 0, none⟩)), (10, .int .i64 x5), (13, (.pointer (some ⟨bo0, 0, none⟩))), (14, (.pointer (some ⟨bo0, 0, none⟩))), (15, .pointer (some ⟨bo0, 1, none⟩)), (16, .bool x6.ok)] (fun _ => [(22, .bool x9.1)]) (fun sl wL => sl.w = wL ∧ Step (KO k0) s13 sl ∧ OValueReader sl k0 (.pointer (some ⟨bo0, 0, none⟩)) x9.2) ?_ ?_
  ·
   refine k_again 17 rfl ?_
   refine k_splitb (fun c17 => ?_) (fun c17 => ?_)
   ·
    have hx9 := ibT hx9 c17
    refine k_yes rfl rfl ?_
    refine k_move rfl rfl ?_
    refine k_yes rfl rfl ?_
    refine k_move rfl rfl ?_
    refine k_yes rfl rfl ?_
    obtain ⟨x10, hx10, hx9⟩ := ob hx9
    refine k_call cal21 rfl (value_reader_is_w  hz15 hx10) rfl ?_
    rintro s18 vr18 st18 ⟨rfl, hz15⟩
    have szs18 := st18.size
    have hS := hS.c0 st18
    have hE5 := hE5.c0 st18
    have hE10 := hE10.c0 st18
    have hE16 := hE16.c0 st18
    refine k_yes rfl rfl ?_
    refine k_not rfl rfl ?_
    refine k_pickT rfl rfl rfl rfl ?_
    obtain rfl := Option.some.inj hx9
    exact k_met ⟨s18, ⟨rfl, trivial⟩, ⟨rfl, rfl, rfl, rfl, rfl, rfl, rfl, rfl, rfl, rfl, rfl, trivial⟩, rfl, hE16, hz15⟩
   ·
    have hx9 := ibF hx9 c17
    refine k_no rfl rfl rfl rfl ?_
    refine k_no rfl rfl rfl rfl ?_
    refine k_no rfl rfl rfl rfl ?_
    refine k_no rfl rfl rfl rfl ?_
    refine k_pickF rfl rfl rfl rfl ?_
    obtain rfl := Option.some.inj hx9
    exact k_met ⟨s13, ⟨rfl, trivial⟩, ⟨rfl, rfl, rfl, rfl, rfl, rfl, rfl, rfl, rfl, rfl, rfl, trivial⟩, rfl, hE16, hz15⟩
  ·
   rintro s19 wL ⟨rfl, hE16, hz15⟩
   have szs19 := hE16.size
   have hS := hS.c0 hE16
   have hE5 := hE5.c0 hE16
   have hE10 := hE10.c0 hE16
   replace h1 := h1.up2 hE16
   replace h2 := h2.up2 hE16
   replace h11 := h11.up2 hE16
   replace h12 := h12.up2 hE16
   replace tb0 := tb0.up2 hE16
   replace tb1 := tb1.up2 hE16
   replace tb2 := tb2.up2 hE16
   refine k_nil ?_
   refine k_keep [(0, _), (1, _), (2, _), (3, _), (8, _), (9, _), (10, _), (22, _)] ⟨rfl, rfl, rfl, rfl, rfl, rfl, rfl, rfl, trivial⟩ ?_
   refine k_cond rfl (fun c20 => ?_) (fun c20 => ?_)
   ·
    have h := ibT h c20
    refine k_skip ?_
    refine k_seq ?_
    refine k_block ?_
    refine k_seq ?_
    refine k_seq ?_
    refine k_region ?_
    refine k_move rfl rfl ?_
    refine k_gtr rfl rfl rfl ?_
    refine k_move rfl rfl ?_
    obtain ⟨x11, hx11, h⟩ := ob h
    have hE21 := Step.r0 (KO k0) s19
    refine k_cutl (X := St) 4 [(0, (.pointer (some ⟨bo0, 0, none⟩))), (1, .int .i64 a1), (2, .int .i64 a2), (3, S a3), (8, .pointer (some ⟨b1, 0, none⟩)), (9, .pointer (some ⟨b2, 0, none⟩)), (10, .int .i64 x5), (22, .bool x9.1), (25, .int .i64 x5), (26, .bool (decide (0 < x5)))] (fun _ => [(31, .bool x11.1)]) (fun sl wL => sl.w = wL ∧ Step (KO k0) s19 sl ∧ OValueReader sl k0 (.pointer (some ⟨bo0, 0, none⟩)) x11.2) ?_ ?_
    ·
     refine k_again 27 rfl ?_
     refine k_split (fun c22 => ?_) (fun c22 => ?_)
     ·
      have hx11 := itT hx11 c22
      refine k_yes rfl rfl ?_
      refine k_move rfl rfl ?_
      refine k_yes rfl rfl ?_
      obtain ⟨x12, hx12, hx11⟩ := ob hx11
      refine k_call cal21 rfl (value_reader_is_w  hz15 hx12) rfl ?_
      rintro s23 vr23 st23 ⟨rfl, hz15⟩
      have szs23 := st23.size
      have hS := hS.c0 st23
      have hE5 := hE5.c0 st23
      have hE10 := hE10.c0 st23
      have hE21 := hE21.c0 st23
      refine k_yes rfl rfl ?_
      refine k_not rfl rfl ?_
      refine k_pickT rfl rfl rfl rfl ?_
      obtain rfl := Option.some.inj hx11
      exact k_met ⟨s23, ⟨rfl, trivial⟩, ⟨rfl, rfl, rfl, rfl, rfl, rfl, rfl, rfl, rfl, rfl, trivial⟩, rfl, hE21, hz15⟩
     ·
      have hx11 := itF hx11 c22
      refine k_no rfl rfl rfl rfl ?_
      refine k_no rfl rfl rfl rfl ?_
      refine k_no rfl rfl rfl rfl ?_
      refine k_pickF rfl rfl rfl rfl ?_
      obtain rfl := Option.some.inj hx11
      exact k_met ⟨s19, ⟨rfl, trivial⟩, ⟨rfl, rfl, rfl, rfl, rfl, rfl, rfl, rfl, rfl, rfl, trivial⟩, rfl, hE21, hz15⟩
    ·
     rintro s24 wL ⟨rfl, hE21, hz15⟩
     have szs24 := hE21.size
     have hS := hS.c0 hE21
     have hE5 := hE5.c0 hE21
     have hE10 := hE10.c0 hE21
     replace h1 := h1.up2 hE21
     replace h2 := h2.up2 hE21
     replace h11 := h11.up2 hE21
     replace h12 := h12.up2 hE21
     replace tb0 := tb0.up2 hE21
     replace tb1 := tb1.up2 hE21
     replace tb2 := tb2.up2 hE21
     refine k_nil ?_
     refine k_keep [(0, _), (1, _), (2, _), (3, _), (8, _), (9, _), (10, _), (31, _)] ⟨rfl, rfl, rfl, rfl, rfl, rfl, rfl, rfl, trivial⟩ ?_
     refine k_cond rfl (fun c25 => ?_) (fun c25 => ?_)
     ·
      have h := ibT h c25
      refine k_seq ?_
      refine k_region ?_
      refine k_move rfl rfl ?_
      obtain ⟨x13, hx13, h⟩ := ob h
      refine k_call cal20 rfl (value_reader_fail_w  hz15 hx13) rfl ?_
      rintro s26 vr26 st26 ⟨rfl, hz15⟩
      have szs26 := st26.size
      have hS := hS.c0 st26
      have hE5 := hE5.c0 st26
      have hE10 := hE10.c0 st26
      replace h1 := h1.up2 st26
      replace h2 := h2.up2 st26
      replace h11 := h11.up2 st26
      replace h12 := h12.up2 st26
      refine k_nil ?_
      refine k_keep [(0, _), (1, _), (2, _), (3, _), (8, _), (9, _), (10, _)] ⟨rfl, rfl, rfl, rfl, rfl, rfl, rfl, trivial⟩ ?_
      refine k_exit rfl ?_
      exact k_stop ⟨(s26, x13.2, x7, v11, x8, v12), trivial, ⟨rfl, rfl, trivial⟩, ⟨rfl, hE5, hz15, h1, h11, h12, h2, h⟩⟩
     ·
      have h := ibF h c25
      refine k_skip ?_
      refine k_seq ?_
      refine k_keep [(0, _), (1, _), (2, _), (3, _), (8, _), (9, _), (10, _)] ⟨rfl, rfl, rfl, rfl, rfl, rfl, rfl, trivial⟩ ?_
      obtain ⟨kj14, hK27, h⟩ := jn_out h
      have hE27 := Step.r0 (KU (KO k0) (KU (KC (b2 + 1) 74) (KC (b2 + 1) 0))) s24
      refine k_cutc (X := St × ValueReader × (List (List UInt8)) × Value) [(0, (.pointer (some ⟨bo0, 0, none⟩))), (1, .int .i64 a1), (2, .int .i64 a2), (3, S a3), (8, .pointer (some ⟨b1, 0, none⟩)), (9, .pointer (some ⟨b2, 0, none⟩)), (10, .int .i64 x5)] (fun (xL : St × ValueReader × (List (List UInt8)) × Value) => match xL with | (sl, x15, x16, v28) => []) (fun (xL : St × ValueReader × (List (List UInt8)) × Value) (wL : World) => match xL with | (sl, x15, x16, v28) => sl.w = wL ∧ Step (KU (KO k0) (KU (KC (b2 + 1) 74) (KC (b2 + 1) 0))) s24 sl ∧ (OValueReader sl k0 (.pointer (some ⟨bo0, 0, none⟩)) x15) ∧ (Own sl ⟨b2 + 1, 74⟩ 9 1 v28 (x16.map dS)) ∧ (Blk sl b2 ⟨b2 + 1, 0⟩ [.int .i64 a1, .int .i64 0, S ([] : List UInt8), v11, v28] 25) ∧ kj14 x15 x16 = some r) ?_ ?_
      ·
       refine k_seq ?_
       refine k_region ?_
       refine k_move rfl rfl ?_
       refine k_eql rfl rfl rfl ?_
       refine k_nil ?_
       refine k_keep [(0, _), (1, _), (2, _), (3, _), (8, _), (9, _), (10, _), (35, _)] ⟨rfl, rfl, rfl, rfl, rfl, rfl, rfl, rfl, trivial⟩ ?_
       refine k_cond_dec rfl (fun c29 => ?_) (fun c29 => ?_)
       ·
        have h := itT h c29
        refine k_seq ?_
        refine k_seq ?_
        refine k_region ?_
        refine k_move rfl rfl ?_
        obtain ⟨x17, hx17, h⟩ := ob h
        refine k_call cal21 rfl (value_reader_is_w  hz15 hx17) rfl ?_
        rintro s30 vr30 st30 ⟨rfl, hz15⟩
        have szs30 := st30.size
        have hS := hS.c0 st30
        have hE5 := hE5.c0 st30
        have hE10 := hE10.c0 st30
        have hE27 := hE27.c0 st30
        replace h1 := h1.up2 st30
        replace h2 := h2.up2 st30
        replace h11 := h11.up2 st30
        replace h12 := h12.up2 st30
        refine k_not rfl rfl ?_
        refine k_nil ?_
        refine k_keep [(0, _), (1, _), (2, _), (3, _), (8, _), (9, _), (10, _), (38, _)] ⟨rfl, rfl, rfl, rfl, rfl, rfl, rfl, rfl, trivial⟩ ?_
        refine k_cond rfl (fun c31 => ?_) (fun c31 => ?_)
        ·
         have h := ibT h c31
         refine k_seq ?_
         refine k_region ?_
         refine k_move rfl rfl ?_
         obtain ⟨x18, hx18, h⟩ := ob h
         refine k_call cal20 rfl (value_reader_fail_w  hz15 hx18) rfl ?_
         rintro s32 vr32 st32 ⟨rfl, hz15⟩
         have szs32 := st32.size
         have hS := hS.c0 st32
         have hE5 := hE5.c0 st32
         have hE10 := hE10.c0 st32
         have hE27 := hE27.c0 st32
         replace h1 := h1.up2 st32
         replace h2 := h2.up2 st32
         replace h11 := h11.up2 st32
         replace h12 := h12.up2 st32
         refine k_nil ?_
         refine k_keep [(0, _), (1, _), (2, _), (3, _), (8, _), (9, _), (10, _)] ⟨rfl, rfl, rfl, rfl, rfl, rfl, rfl, trivial⟩ ?_
         refine k_exit rfl ?_
         exact k_stop ⟨(s32, x18.2, x7, v11, x8, v12), trivial, ⟨rfl, rfl, trivial⟩, ⟨rfl, hE5, hz15, h1, h11, h12, h2, h⟩⟩
        ·
         have h := ibF h c31
         refine k_skip ?_
         refine k_seq ?_
         refine k_keep [(0, _), (1, _), (2, _), (3, _), (8, _), (9, _), (10, _)] ⟨rfl, rfl, rfl, rfl, rfl, rfl, rfl, trivial⟩ ?_
         refine k_drawT (KU (KN s30.n) (KO k0)) 5 (.read 0 (.read 1 (.read 2 (.alt 3 (.alt 4 .fin .no) .no)))) mixed (by intro c h; (try simp only [KC, KO, KU, KN, KB] at h) <;> omega) rfl rfl rfl ?_
         intro s33 st33
         have szs33 := st33.size
         have hS := hS.trans0 st33
         have hE5 := hE5.trans0 st33
         have hE10 := hE10.trans0 st33
         have hE27 := hE27.trans0 st33
         replace hz15 := hz15.up2 st33
         replace h1 := h1.up2 st33
         replace h2 := h2.up2 st33
         replace h11 := h11.up2 st33
         replace h12 := h12.up2 st33
         refine rt_read (.pointer (some ⟨b2, 4, none⟩)) rfl rfl (fun s34 st34 => ?_) ?_
         ·refine k_field_addr fld25_4 rfl rfl ?_
          exact fq_end
         refine rt_read (v12) rfl rfl (fun s35 st35 => ?_) ?_
         ·try replace h2 := h2.up2 st35
          refine k_load_blk one23 rfl h2 rfl rfl ?_
          exact fq_end
         refine rt_read ((.pointer (some ⟨bo0, 0, none⟩))) rfl rfl (fun s36 st36 => ?_) ?_
         ·refine k_move rfl rfl ?_
          exact fq_end
         refine rt_act rfl rfl ?_
         have hA37 := Step.r0 (KU (KN s30.n) (KO k0)) s33
         obtain ⟨x19, hx19, h⟩ := ob h
         refine k_call cal23 rfl (value_reader_quoted_w  hz15 hx19) rfl ?_
         rintro s38 vr38 st38 ⟨rfl, hz15⟩
         have szs38 := st38.size
         have hS := hS.c0 st38
         have hE5 := hE5.c0 st38
         have hE10 := hE10.c0 st38
         have hE27 := hE27.c0 st38
         have hA37 := hA37.c0 st38
         replace h1 := h1.up2 st38
         replace h2 := h2.up2 st38
         replace h11 := h11.up2 st38
         replace h12 := h12.up2 st38
         refine rt_cont hA37 ?_
         refine rt_act rfl rfl ?_
         have hA39 := Step.r0 (KU (KN s30.n) (KO k0)) s38
         refine k_bslice2 (ds := ([x19.1] : List (List UInt8)).map dS) slc23 rfl (RVs.cons (R.val rfl) RVs.nil) (by rfl) (by rfl) rfl rfl ?_
         intro s40 v40 b40 st40 ge40 bl40 h40
         have szs40 := st40.size
         have hS := hS.trans0 st40
         have hE5 := hE5.trans0 st40
         have hE10 := hE10.trans0 st40
         have hE27 := hE27.trans0 st40
         have hA39 := hA39.trans0 st40
         replace hz15 := hz15.up2 st40
         replace h1 := h1.up2 st40
         replace h2 := h2.up2 st40
         replace h11 := h11.up2 st40
         replace h12 := h12.up2 st40
         have lt40 := Own.le1 h40
         refine rt_cont hA39 ?_
         refine rt_fin ?_
         obtain ⟨x20, hx20, h⟩ := ob h
         refine k_append (es := ([x19.1] : List (List UInt8)).map dS) elem23 rfl rfl h12 (h40.sl) (by have := (app_out hx20).1; simp only [List.length_map] at *; omega) (by have := (app_out hx20).1; simp only [List.length_map] at *; omega) rfl ?_
         intro s41 v41 st41 h41
         rw [← List.map_append, ← (app_out hx20).2] at h41
         have szs41 := st41.size
         have hS := hS.c0 st41
         have hE5 := hE5.c0 st41
         have hE10 := hE10.c0 st41
         have hE27 := hE27.c0 st41
         replace hz15 := hz15.up2 st41
         replace h1 := h1.up2 st41
         replace h2 := h2.up2 st41
         replace h11 := h11.up2 st41
         refine k_field_addr fld25_4 rfl rfl ?_
         refine k_store_c (cs' := [.int .i64 a1, .int .i64 0, S ([] : List UInt8), v11, v41]) size23 rfl rfl h2 (by first | (simp; done) | omega | (dsimp only; omega)) (CellsOf.sl (h41.sl)) rfl (by first | rfl | (simp; done) | (simp; omega)) rfl ?_
         intro s42 st42 h2
         have szs42 := st42.size
         have hS := hS.c0 st42
         have hE5 := hE5.c0 st42
         have hE10 := hE10.c0 st42
         have hE27 := hE27.c0 st42
         replace hz15 := hz15.up2 st42
         replace h1 := h1.up2 st42
         replace h11 := h11.up2 st42
         replace h41 := h41.up2 st42
         refine k_nil ?_
         refine k_keep [(0, _), (1, _), (2, _), (3, _), (8, _), (9, _), (10, _)] ⟨rfl, rfl, rfl, rfl, rfl, rfl, rfl, trivial⟩ ?_
         refine k_seq ?_
         refine k_region ?_
         refine k_move rfl rfl ?_
         obtain ⟨x21, hx21, h⟩ := ob h
         refine k_call cal21 rfl (value_reader_is_w  hz15 hx21) rfl ?_
         rintro s43 vr43 st43 ⟨rfl, hz15⟩
         have szs43 := st43.size
         have hS := hS.c0 st43
         have hE5 := hE5.c0 st43
         have hE10 := hE10.c0 st43
         have hE27 := hE27.c0 st43
         replace h1 := h1.up2 st43
         replace h2 := h2.up2 st43
         replace h11 := h11.up2 st43
         replace h41 := h41.up2 st43
         refine k_not rfl rfl ?_
         refine k_nil ?_
         refine k_keep [(0, _), (1, _), (2, _), (3, _), (8, _), (9, _), (10, _), (50, _)] ⟨rfl, rfl, rfl, rfl, rfl, rfl, rfl, rfl, trivial⟩ ?_
         refine k_cond rfl (fun c44 => ?_) (fun c44 => ?_)
         ·
          have h := ibT h c44
          refine k_seq ?_
          refine k_region ?_
          refine k_move rfl rfl ?_
          obtain ⟨x22, hx22, h⟩ := ob h
          refine k_call cal20 rfl (value_reader_fail_w  hz15 hx22) rfl ?_
          rintro s45 vr45 st45 ⟨rfl, hz15⟩
          have szs45 := st45.size
          have hS := hS.c0 st45
          have hE5 := hE5.c0 st45
          have hE10 := hE10.c0 st45
          have hE27 := hE27.c0 st45
          replace h1 := h1.up2 st45
          replace h2 := h2.up2 st45
          replace h11 := h11.up2 st45
          replace h41 := h41.up2 st45
          refine k_nil ?_
          refine k_keep [(0, _), (1, _), (2, _), (3, _), (8, _), (9, _), (10, _)] ⟨rfl, rfl, rfl, rfl, rfl, rfl, rfl, trivial⟩ ?_
          refine k_exit rfl ?_
          exact k_stop ⟨(s45, x22.2, x7, v11, x20, v41), trivial, ⟨rfl, rfl, trivial⟩, ⟨rfl, hE5, hz15, h1, h11, h41, h2, h⟩⟩
         ·
          have h := ibF h c44
          refine k_skip ?_
          exact k_stop ⟨(s43, x21.2, x20, v41), trivial, ⟨rfl, rfl, rfl, rfl, rfl, rfl, rfl, trivial⟩, ⟨rfl, hE27, hz15, h41, h2, h⟩⟩
       ·
        have h := itF h c29
        refine k_skip ?_
        exact k_stop ⟨(s24, x11.2, x8, v12), trivial, ⟨rfl, rfl, rfl, rfl, rfl, rfl, rfl, trivial⟩, ⟨rfl, hE27, hz15, h12, h2, h⟩⟩
      ·
       rintro ⟨s46, x15, x16, v28⟩ wL ⟨rfl, hE27, hz15, h28, h2, h⟩
       rw [hK27] at h
       have szs46 := hE27.size
       have hS := hS.c0 hE27
       have hE5 := hE5.c0 hE27
       have hE10 := hE10.c0 hE27
       replace h1 := h1.up2 hE27
       replace h11 := h11.up2 hE27
       replace tb0 := tb0.up2 hE27
       replace tb1 := tb1.up2 hE27
       replace tb2 := tb2.up2 hE27
       refine k_drawT (KU (KN s46.n) (KO k0)) 7 (.read 0 (.read 1 (.read 2 (.read 3 (.read 4 (.alt 5 (.alt 6 .fin .no) .no)))))) mixed (by intro c h; (try simp only [KC, KO, KU, KN, KB] at h) <;> omega) rfl rfl rfl ?_
       intro s47 st47
       have szs47 := st47.size
       have hS := hS.trans0 st47
       have hE5 := hE5.trans0 st47
       have hE10 := hE10.trans0 st47
       replace hz15 := hz15.up2 st47
       replace h1 := h1.up2 st47
       replace h2 := h2.up2 st47
       replace h11 := h11.up2 st47
       replace h28 := h28.up2 st47
       replace tb0 := tb0.up2 st47
       replace tb1 := tb1.up2 st47
       replace tb2 := tb2.up2 st47
       refine rt_read (.pointer (some ⟨b2, 3, none⟩)) rfl rfl (fun s48 st48 => ?_) ?_
       ·refine k_field_addr fld25_3 rfl rfl ?_
        exact fq_end
       refine rt_read (v11) rfl rfl (fun s49 st49 => ?_) ?_
       ·try replace h2 := h2.up2 st49
        refine k_load_blk one22 rfl h2 rfl rfl ?_
        exact fq_end
       refine rt_read ((.pointer (some ⟨bo0, 0, none⟩))) rfl rfl (fun s50 st50 => ?_) ?_
       ·refine k_move rfl rfl ?_
        exact fq_end
       refine rt_read (.int .i64 a2) rfl rfl (fun s51 st51 => ?_) ?_
       ·refine k_move rfl rfl ?_
        exact fq_end
       refine rt_read (.int .i64 (i64 (a2 - 1))) rfl rfl (fun s52 st52 => ?_) ?_
       ·refine k_sub_ rfl rfl rfl ?_
        exact fq_end
       refine rt_act rfl rfl ?_
       have hA53 := Step.r0 (KU (KN s46.n) (KO k0)) s47
       obtain ⟨x23, hx23, h⟩ := ob h
       refine k_call cal13 rfl (ih70  hz15 tb0 tb1 tb2 hx23) rfl ?_
       rintro s54 vr54 st54 ⟨cs54_0, rfl, h54_0, hz15⟩
       have szs54 := st54.size
       have hS := hS.c0 st54
       have hE5 := hE5.c0 st54
       have hE10 := hE10.c0 st54
       have hA53 := hA53.c0 st54
       replace h1 := h1.up2 st54
       replace h2 := h2.up2 st54
       replace h11 := h11.up2 st54
       replace h28 := h28.up2 st54
       obtain ⟨q54_0_0, q54_0_1, rfl, hq54_0_0, hq54_0_1⟩ := opnApiValue h54_0
       refine rt_cont hA53 ?_
       refine rt_act rfl rfl ?_
       have hA55 := Step.r0 (KU (KN s46.n) (KO k0)) s54
       refine k_bslice2 (ds := ([x23.1] : List ApiValue).map dApiValue) slc22 rfl (RVs.cons ⟨_, rfl, (clsApiValue x23.1 hq54_0_0 hq54_0_1)⟩ RVs.nil) (by rfl) (by rfl) rfl rfl ?_
       intro s56 v56 b56 st56 ge56 bl56 h56
       have szs56 := st56.size
       have hS := hS.trans0 st56
       have hE5 := hE5.trans0 st56
       have hE10 := hE10.trans0 st56
       have hA55 := hA55.trans0 st56
       replace hz15 := hz15.up2 st56
       replace h1 := h1.up2 st56
       replace h2 := h2.up2 st56
       replace h11 := h11.up2 st56
       replace h28 := h28.up2 st56
       have lt56 := Own.le1 h56
       refine rt_cont hA55 ?_
       refine rt_fin ?_
       obtain ⟨x24, hx24, h⟩ := ob h
       refine k_append (es := ([x23.1] : List ApiValue).map dApiValue) elem22 rfl rfl h11 (h56.sl) (by have := (app_out hx24).1; simp only [List.length_map] at *; omega) (by have := (app_out hx24).1; simp only [List.length_map] at *; omega) rfl ?_
       intro s57 v57 st57 h57
       rw [← List.map_append, ← (app_out hx24).2] at h57
       have szs57 := st57.size
       have hS := hS.c0 st57
       have hE5 := hE5.c0 st57
       have hE10 := hE10.c0 st57
       replace hz15 := hz15.up2 st57
       replace h1 := h1.up2 st57
       replace h2 := h2.up2 st57
       replace h28 := h28.up2 st57
       refine k_field_addr fld25_3 rfl rfl ?_
       refine k_store_c (cs' := [.int .i64 a1, .int .i64 0, S ([] : List UInt8), v57, v28]) size22 rfl rfl h2 (by first | (simp; done) | omega | (dsimp only; omega)) (CellsOf.sl (h57.sl)) rfl (by first | rfl | (simp; done) | (simp; omega)) rfl ?_
       intro s58 st58 h2
       have szs58 := st58.size
       have hS := hS.c0 st58
       have hE5 := hE5.c0 st58
       have hE10 := hE10.c0 st58
       replace hz15 := hz15.up2 st58
       replace h1 := h1.up2 st58
       replace h28 := h28.up2 st58
       replace h57 := h57.up2 st58
       refine k_nil ?_
       refine k_blk ?_
       refine k_region ?_
       refine k_move rfl rfl ?_
       refine k_add rfl rfl rfl ?_
       refine k_assign rfl rfl ?_
       refine k_nil ?_
       exact k_stop ⟨(s58, i64 (x5 + 1), x23.2, x24, v57, x16, v28, j), ⟨(by first | rfl | (simp <;> rfl)), trivial⟩, ⟨rfl, rfl, rfl, rfl, rfl, rfl, trivial⟩, ⟨rfl, hE10, hz15, h1, h57, h28, h2, h⟩, (by simp)⟩
   ·
    have h := ibF h c20
    refine k_exit rfl ?_
    exact k_stop ⟨(s19, x9.2, x7, v11, x8, v12), trivial, ⟨rfl, rfl, trivial⟩, ⟨rfl, hE5, hz15, h1, h11, h12, h2, h⟩⟩
 ·
  rintro ⟨s59, x2, x3, v6, x4, v7⟩ wL ⟨rfl, hE5, hz4, h1, h6, h7, h2, h⟩
  rw [hK5] at h
  have szs59 := hE5.size
  have hS := hS.c0 hE5
  refine k_seq ?_
  refine k_region ?_
  refine k_load_blka (cs := [.int .i64 a1, .int .i64 0, S ([] : List UInt8), v6, v7]) agg25 rfl h2 rfl ?_
  refine k_store_c (cs' := [.int .i64 a1, .int .i64 0, S ([] : List UInt8), v6, v7]) size25 rfl rfl h1 (by first | (simp; done) | omega | (dsimp only; omega)) (CellsOf.lit (vs := [.int .i64 a1, .int .i64 0, S ([] : List UInt8), v6, v7]) rfl (ones.cons rfl (ones.cons rfl (ones.cons rfl (ones.cons ((h6.sl)).one1 (ones.cons ((h7.sl)).one1 ones.nil)))))) rfl (by first | rfl | (simp; done) | (simp; omega)) rfl ?_
  intro s60 st60 h1
  have szs60 := st60.size
  have hS := hS.c0 st60
  replace hz4 := hz4.up2 st60
  replace h6 := h6.up2 st60
  replace h7 := h7.up2 st60
  refine k_nil ?_
  refine k_keep [(8, _)] ⟨rfl, trivial⟩ ?_
  refine k_ret ?_
  obtain ⟨s61, e61, st61, h61⟩ := h6.freeze
  rw [← e61]
  have szs61 := st61.size
  have hS := hS.c0 st61
  replace hz4 := hz4.up2 st61
  replace h1 := h1.up2 st61
  replace h7 := h7.up2 st61
  obtain ⟨s62, e62, st62, h62⟩ := h7.freeze
  rw [← e62]
  have szs62 := st62.size
  have hS := hS.c0 st62
  replace hz4 := hz4.up2 st62
  replace h61 := h61.up2 st62
  replace h1 := h1.up2 st62
  obtain rfl := Option.some.inj h
  refine ⟨[.agg [.int .i64 a1, .int .i64 0, S ([] : List UInt8), v6, v7].toArray], ⟨res_blk (cs := [.int .i64 a1, .int .i64 0, S ([] : List UInt8), v6, v7]) rfl agg25 h1, trivial⟩, Ret.mk hS ?_⟩
  exact ⟨_, rfl, (clsApiValue (⟨a1, 0, ([] : List UInt8), x3, x4⟩ : ApiValue) h61 h62), hz4⟩

set_option maxHeartbeats 1000000 in
set_option maxRecDepth 100000 in
theorem value_reader_value_s_w {s : St} {k0 : Nat} {p0 : Value} {a0 : ValueReader} {a1 : Int} {a70 : (ValueReader → Int → Option (ApiValue × ValueReader))} {r : (ApiValue × ValueReader)} (ho0 : OValueReader s k0 p0 a0) (tb0 : Tab0 s) (tb1 : Tab1 s) (tb2 : Tab2 s) (ih70 : ∀ {s : St} {k0 : Nat} {p0 : Value} {a0 : ValueReader} {a1 : Int} {r : (ApiValue × ValueReader)} (ho0 : OValueReader s k0 p0 a0) (tb0 : Tab0 s) (tb1 : Tab1 s) (tb2 : Tab2 s) (h : a70 a0 a1 = some r), Calls Tryd.prog 13 #[p0, .int .i64 a1] s.w (Ret s (KO k0) (fun s1 v => ∃ (u0 : List Value), v = .agg u0.toArray ∧ RC s1 u0 (dApiValue r.1) ∧ OValueReader s1 k0 p0 r.2))) (h : value_reader_value_s a70 a0 a1 = some r) : Calls Tryd.prog 13 #[p0, .int .i64 a1] s.w (Ret s (KO k0) (fun s1 v => ∃ (u0 : List Value), v = .agg u0.toArray ∧ RC s1 u0 (dApiValue r.1) ∧ OValueReader s1 k0 p0 r.2)) := by
 unfold value_reader_value_s at h
 have le0 := ho0.le
 have ne0 := ho0.ne
 obtain ⟨bo0, rfl⟩ := ho0.ptr
 have hb_o0 := ho0.at_
 have hS := Step.r0 (KO k0) s
 refine k_fn_c (rs := [.cell 4 25]) (args := [.pointer (some ⟨bo0, 0, none⟩), .int .i64 a1]) Tryd.func13 rfl rfl rfl rfl ?_
 refine k_seq ?_
 refine k_region ?_
 refine k_alloc zero25 rfl ?_
 intro s1 b1 st1 h1 ge1
 have szs1 := st1.size
 have hS := hS.trans0 st1
 replace hb_o0 := hb_o0.up2 st1
 replace tb0 := tb0.up2 st1
 replace tb1 := tb1.up2 st1
 replace tb2 := tb2.up2 st1
 have lt1 := h1.lt
 refine k_nil ?_
 refine k_seq ?_
 refine k_block ?_
 refine k_seq ?_
 refine k_region ?_
 refine k_move rfl rfl ?_
 refine k_lss rfl rfl rfl ?_
 refine k_move rfl rfl ?_
 have hE2 := Step.r0 K0 s1
 refine k_cutl (X := St) 6 [(0, .pointer (some ⟨bo0, 0, none⟩)), (1, .int .i64 a1), (4, .pointer (some ⟨b1, 0, none⟩)), (8, .int .i64 a1), (9, .bool (decide (a1 < 1)))] (fun _ => [(16, .bool (decide ((a1 < 1) ∨ ((!a0.ok) = true))))]) (fun sl wL => sl.w = wL ∧ Step K0 s1 sl) ?_ ?_
 ·
  refine k_again 10 rfl ?_
  refine k_split (fun c3 => ?_) (fun c3 => ?_)
  ·
   refine k_no rfl rfl rfl rfl ?_
   refine k_no rfl rfl rfl rfl ?_
   refine k_no rfl rfl rfl rfl ?_
   refine k_no rfl rfl rfl rfl ?_
   refine k_no rfl rfl rfl rfl ?_
   refine k_pickT rfl rfl rfl rfl ?_
   exact k_met ⟨s1, ⟨(congrArg (fun b => some (Value.bool b)) (by first | exact decide_eq_decide.2 ⟨Or.inr, fun h => h.resolve_left c3⟩ | exact (decide_eq_true (Or.inl c3)).symm | (simp [c3]; done) | (simp [c3, i64] <;> omega))), trivial⟩, ⟨rfl, rfl, rfl, rfl, rfl, trivial⟩, rfl, hE2⟩
  ·
   refine k_yes rfl rfl ?_
   refine k_move rfl rfl ?_
   refine k_yes rfl rfl ?_
   refine k_nilCheck rfl rfl ?_
   refine k_yes rfl rfl ?_
   refine k_field_addr fld41_1 rfl rfl ?_
   refine k_yes rfl rfl ?_
   refine k_load_blk one4 rfl hb_o0 rfl rfl ?_
   refine k_yes rfl rfl ?_
   refine k_not rfl rfl ?_
   refine k_pickF rfl rfl rfl rfl ?_
   exact k_met ⟨s1, ⟨(congrArg (fun b => some (Value.bool b)) (by first | exact decide_eq_decide.2 ⟨Or.inr, fun h => h.resolve_left c3⟩ | exact (decide_eq_true (Or.inl c3)).symm | (simp [c3]; done) | (simp [c3, i64] <;> omega))), trivial⟩, ⟨rfl, rfl, rfl, rfl, rfl, trivial⟩, rfl, hE2⟩
 ·
  rintro s4 wL ⟨rfl, hE2⟩
  have szs4 := hE2.size
  have hS := hS.trans0 hE2
  replace hb_o0 := hb_o0.up2 hE2
  replace h1 := h1.up2 hE2
  replace tb0 := tb0.up2 hE2
  replace tb1 := tb1.up2 hE2
  replace tb2 := tb2.up2 hE2
  refine k_assign rfl rfl ?_
  refine k_nil ?_
  refine k_keep [(0, _), (1, _), (4, _), (7, _)] ⟨rfl, rfl, rfl, rfl, trivial⟩ ?_
  refine k_cond_dec rfl (fun c5 => ?_) (fun c5 => ?_)
  ·
   have h := itT h c5
   refine k_region ?_
   refine k_move rfl rfl ?_
   obtain ⟨x1, hx1, h⟩ := ob h
   refine k_call cal20 rfl (value_reader_fail_w  (OValueReader.mk_ a0 (by omega) hb_o0) hx1) rfl ?_
   rintro s6 vr6 st6 ⟨rfl, hm6_0⟩
   have hb_6_0 := hm6_0.at_
   have szs6 := st6.size
   have hS := hS.c0 st6
   replace h1 := h1.up2 st6
   refine k_nil ?_
   refine k_blk ?_
   refine k_seq ?_
   refine k_region ?_
   refine k_build plc25 zero25 rfl Parts.nil (by rfl) rfl ?_
   refine k_as (v := .agg #[.int .i64 0, .int .i64 0, S ([] : List UInt8), .slice none 0 0, .slice none 0 0]) rfl ?_
   refine k_store_c (cs' := [.int .i64 0, .int .i64 0, S ([] : List UInt8), .slice none 0 0, .slice none 0 0]) size25 rfl rfl h1 (by first | (simp; done) | omega | (dsimp only; omega)) (CellsOf.lit rfl rfl) rfl (by first | rfl | (simp; done) | (simp; omega)) rfl ?_
   intro s7 st7 h1
   have szs7 := st7.size
   have hS := hS.c0 st7
   replace hb_6_0 := hb_6_0.up2 st7
   refine k_nil ?_
   refine k_keep [(4, _)] ⟨rfl, trivial⟩ ?_
   refine k_ret ?_
   obtain rfl := Option.some.inj h
   refine ⟨[.agg [.int .i64 0, .int .i64 0, S ([] : List UInt8), .slice none 0 0, .slice none 0 0].toArray], ⟨res_blk (cs := [.int .i64 0, .int .i64 0, S ([] : List UInt8), .slice none 0 0, .slice none 0 0]) rfl agg25 h1, trivial⟩, Ret.mk hS ?_⟩
   exact ⟨_, rfl, (clsApiValue (⟨0, 0, ([] : List UInt8), [], []⟩ : ApiValue) (R.of_SL (.inl ⟨rfl, none, 0, rfl, fun _ => rfl⟩)) (R.of_SL (.inl ⟨rfl, none, 0, rfl, fun _ => rfl⟩))), (OValueReader.mk_ x1.2 (by omega) hb_6_0)⟩
  ·
   have h := itF h c5
   refine k_seq ?_
   refine k_region ?_
   refine k_move rfl rfl ?_
   obtain ⟨x2, hx2, h⟩ := ob h
   refine k_call cal21 rfl (value_reader_is_w  (OValueReader.mk_ a0 (by omega) hb_o0) hx2) rfl ?_
   rintro s8 vr8 st8 ⟨rfl, hm8_0⟩
   have hb_8_0 := hm8_0.at_
   have szs8 := st8.size
   have hS := hS.c0 st8
   replace h1 := h1.up2 st8
   replace tb0 := tb0.up2 st8
   replace tb1 := tb1.up2 st8
   replace tb2 := tb2.up2 st8
   refine k_assign rfl rfl ?_
   refine k_nil ?_
   refine k_keep [(0, _), (1, _), (4, _), (19, _)] ⟨rfl, rfl, rfl, rfl, trivial⟩ ?_
   refine k_cond rfl (fun c9 => ?_) (fun c9 => ?_)
   ·
    have h := ibT h c9
    refine k_skip ?_
    refine k_blk ?_
    refine k_seq ?_
    refine k_region ?_
    refine k_build plc25 zero25 rfl Parts.nil (by rfl) rfl ?_
    refine k_as (v := .agg #[.int .i64 0, .int .i64 0, S ([] : List UInt8), .slice none 0 0, .slice none 0 0]) rfl ?_
    refine k_store_c (cs' := [.int .i64 0, .int .i64 0, S ([] : List UInt8), .slice none 0 0, .slice none 0 0]) size25 rfl rfl h1 (by first | (simp; done) | omega | (dsimp only; omega)) (CellsOf.lit rfl rfl) rfl (by first | rfl | (simp; done) | (simp; omega)) rfl ?_
    intro s10 st10 h1
    have szs10 := st10.size
    have hS := hS.c0 st10
    replace hb_8_0 := hb_8_0.up2 st10
    refine k_nil ?_
    refine k_keep [(4, _)] ⟨rfl, trivial⟩ ?_
    refine k_ret ?_
    obtain rfl := Option.some.inj h
    refine ⟨[.agg [.int .i64 0, .int .i64 0, S ([] : List UInt8), .slice none 0 0, .slice none 0 0].toArray], ⟨res_blk (cs := [.int .i64 0, .int .i64 0, S ([] : List UInt8), .slice none 0 0, .slice none 0 0]) rfl agg25 h1, trivial⟩, Ret.mk hS ?_⟩
    exact ⟨_, rfl, (clsApiValue (⟨0, 0, ([] : List UInt8), [], []⟩ : ApiValue) (R.of_SL (.inl ⟨rfl, none, 0, rfl, fun _ => rfl⟩)) (R.of_SL (.inl ⟨rfl, none, 0, rfl, fun _ => rfl⟩))), (OValueReader.mk_ x2.2 (by omega) hb_8_0)⟩
   ·
    have h := ibF h c9
    refine k_seq ?_
    refine k_region ?_
    refine k_move rfl rfl ?_
    obtain ⟨x3, hx3, h⟩ := ob h
    refine k_call cal21 rfl (value_reader_is_w  (OValueReader.mk_ x2.2 (by omega) hb_8_0) hx3) rfl ?_
    rintro s11 vr11 st11 ⟨rfl, hm11_0⟩
    have hb_11_0 := hm11_0.at_
    have szs11 := st11.size
    have hS := hS.c0 st11
    replace h1 := h1.up2 st11
    replace tb0 := tb0.up2 st11
    replace tb1 := tb1.up2 st11
    replace tb2 := tb2.up2 st11
    refine k_assign rfl rfl ?_
    refine k_nil ?_
    refine k_keep [(0, _), (1, _), (4, _), (22, _)] ⟨rfl, rfl, rfl, rfl, trivial⟩ ?_
    refine k_cond rfl (fun c12 => ?_) (fun c12 => ?_)
    ·
     have h := ibT h c12
     refine k_seq ?_
     refine k_region ?_
     refine k_build plc25 zero25 rfl (Parts.cons (CellsOf.lit rfl rfl).1 Parts.nil) (by rfl) rfl ?_
     refine k_as (v := .agg #[.int .i64 1, .int .i64 0, S ([] : List UInt8), .slice none 0 0, .slice none 0 0]) rfl ?_
     refine k_store_c (cs' := [.int .i64 1, .int .i64 0, S ([] : List UInt8), .slice none 0 0, .slice none 0 0]) size25 rfl rfl h1 (by first | (simp; done) | omega | (dsimp only; omega)) (CellsOf.lit rfl rfl) rfl (by first | rfl | (simp; done) | (simp; omega)) rfl ?_
     intro s13 st13 h1
     have szs13 := st13.size
     have hS := hS.c0 st13
     replace hb_11_0 := hb_11_0.up2 st13
     refine k_nil ?_
     refine k_keep [(4, _)] ⟨rfl, trivial⟩ ?_
     refine k_ret ?_
     obtain rfl := Option.some.inj h
     refine ⟨[.agg [.int .i64 1, .int .i64 0, S ([] : List UInt8), .slice none 0 0, .slice none 0 0].toArray], ⟨res_blk (cs := [.int .i64 1, .int .i64 0, S ([] : List UInt8), .slice none 0 0, .slice none 0 0]) rfl agg25 h1, trivial⟩, Ret.mk hS ?_⟩
     exact ⟨_, rfl, (clsApiValue (⟨1, 0, ([] : List UInt8), [], []⟩ : ApiValue) (R.of_SL (.inl ⟨rfl, none, 0, rfl, fun _ => rfl⟩)) (R.of_SL (.inl ⟨rfl, none, 0, rfl, fun _ => rfl⟩))), (OValueReader.mk_ x3.2 (by omega) hb_11_0)⟩
    ·
     have h := ibF h c12
     refine k_seq ?_
     refine k_region ?_
     refine k_move rfl rfl ?_
     obtain ⟨x4, hx4, h⟩ := ob h
     refine k_call cal21 rfl (value_reader_is_w  (OValueReader.mk_ x3.2 (by omega) hb_11_0) hx4) rfl ?_
     rintro s14 vr14 st14 ⟨rfl, hm14_0⟩
     have hb_14_0 := hm14_0.at_
     have szs14 := st14.size
     have hS := hS.c0 st14
     replace h1 := h1.up2 st14
     replace tb0 := tb0.up2 st14
     replace tb1 := tb1.up2 st14
     replace tb2 := tb2.up2 st14
     refine k_assign rfl rfl ?_
     refine k_nil ?_
     refine k_keep [(0, _), (1, _), (4, _), (26, _)] ⟨rfl, rfl, rfl, rfl, trivial⟩ ?_
     refine k_cond rfl (fun c15 => ?_) (fun c15 => ?_)
     ·
      have h := ibT h c15
      refine k_seq ?_
      refine k_region ?_
      refine k_build plc25 zero25 rfl (Parts.cons (CellsOf.lit rfl rfl).1 Parts.nil) (by rfl) rfl ?_
      refine k_as (v := .agg #[.int .i64 2, .int .i64 0, S ([] : List UInt8), .slice none 0 0, .slice none 0 0]) rfl ?_
      refine k_store_c (cs' := [.int .i64 2, .int .i64 0, S ([] : List UInt8), .slice none 0 0, .slice none 0 0]) size25 rfl rfl h1 (by first | (simp; done) | omega | (dsimp only; omega)) (CellsOf.lit rfl rfl) rfl (by first | rfl | (simp; done) | (simp; omega)) rfl ?_
      intro s16 st16 h1
      have szs16 := st16.size
      have hS := hS.c0 st16
      replace hb_14_0 := hb_14_0.up2 st16
      refine k_nil ?_
      refine k_keep [(4, _)] ⟨rfl, trivial⟩ ?_
      refine k_ret ?_
      obtain rfl := Option.some.inj h
      refine ⟨[.agg [.int .i64 2, .int .i64 0, S ([] : List UInt8), .slice none 0 0, .slice none 0 0].toArray], ⟨res_blk (cs := [.int .i64 2, .int .i64 0, S ([] : List UInt8), .slice none 0 0, .slice none 0 0]) rfl agg25 h1, trivial⟩, Ret.mk hS ?_⟩
      exact ⟨_, rfl, (clsApiValue (⟨2, 0, ([] : List UInt8), [], []⟩ : ApiValue) (R.of_SL (.inl ⟨rfl, none, 0, rfl, fun _ => rfl⟩)) (R.of_SL (.inl ⟨rfl, none, 0, rfl, fun _ => rfl⟩))), (OValueReader.mk_ x4.2 (by omega) hb_14_0)⟩
     ·
      have h := ibF h c15
      refine k_seq ?_
      refine k_region ?_
      refine k_move rfl rfl ?_
      obtain ⟨x5, hx5, h⟩ := ob h
      refine k_call cal21 rfl (value_reader_is_w  (OValueReader.mk_ x4.2 (by omega) hb_14_0) hx5) rfl ?_
      rintro s17 vr17 st17 ⟨rfl, hm17_0⟩
      have hb_17_0 := hm17_0.at_
      have szs17 := st17.size
      have hS := hS.c0 st17
      replace h1 := h1.up2 st17
      replace tb0 := tb0.up2 st17
      replace tb1 := tb1.up2 st17
      replace tb2 := tb2.up2 st17
      refine k_assign rfl rfl ?_
      refine k_nil ?_
      refine k_keep [(0, _), (1, _), (4, _), (30, _)] ⟨rfl, rfl, rfl, rfl, trivial⟩ ?_
      refine k_cond rfl (fun c18 => ?_) (fun c18 => ?_)
      ·
       have h := ibT h c18
       refine k_seq ?_
       refine k_region ?_
       refine k_move rfl rfl ?_
       obtain ⟨x6, hx6, h⟩ := ob h
       refine k_call cal23 rfl (value_reader_quoted_w  (OValueReader.mk_ x5.2 (by omega) hb_17_0) hx6) rfl ?_
       rintro s19 vr19 st19 ⟨rfl, hm19_0⟩
       have hb_19_0 := hm19_0.at_
       have szs19 := st19.size
       have hS := hS.c0 st19
       replace h1 := h1.up2 st19
       obtain ⟨x7, hx7, h⟩ := ob h
       refine k_call cal22 rfl (value_Text_w   hx7) rfl ?_
       rintro s20 vr20 st20 ⟨cs20_0, rfl, h20_0⟩
       have szs20 := st20.size
       have hS := hS.trans0 st20
       replace hb_19_0 := hb_19_0.up2 st20
       replace h1 := h1.up2 st20
       obtain ⟨q20_0_0, q20_0_1, rfl, hq20_0_0, hq20_0_1⟩ := opnApiValue h20_0
       refine k_store_c (cs' := [.int .i64 x7.Kind, .int .i64 x7.Num, S x7.Text, q20_0_0, q20_0_1]) size25 rfl rfl h1 (by first | (simp; done) | omega | (dsimp only; omega)) (CellsOf.lit (vs := [.int .i64 x7.Kind, .int .i64 x7.Num, S x7.Text, q20_0_0, q20_0_1]) rfl (ones.cons rfl (ones.cons rfl (ones.cons rfl (ones.cons ((SL.of_R hq20_0_0)).one1 (ones.cons ((SL.of_R hq20_0_1)).one1 ones.nil)))))) rfl (by first | rfl | (simp; done) | (simp; omega)) rfl ?_
       intro s21 st21 h1
       have szs21 := st21.size
       have hS := hS.c0 st21
       replace hq20_0_0 := hq20_0_0.up2 st21
       replace hq20_0_1 := hq20_0_1.up2 st21
       replace hb_19_0 := hb_19_0.up2 st21
       refine k_nil ?_
       refine k_keep [(4, _)] ⟨rfl, trivial⟩ ?_
       refine k_ret ?_
       obtain rfl := Option.some.inj h
       refine ⟨[.agg [.int .i64 x7.Kind, .int .i64 x7.Num, S x7.Text, q20_0_0, q20_0_1].toArray], ⟨res_blk (cs := [.int .i64 x7.Kind, .int .i64 x7.Num, S x7.Text, q20_0_0, q20_0_1]) rfl agg25 h1, trivial⟩, Ret.mk hS ?_⟩
       exact ⟨_, rfl, (clsApiValue x7 hq20_0_0 hq20_0_1), (OValueReader.mk_ x6.2 (by omega) hb_19_0)⟩
      ·
       have h := ibF h c18
       refine k_seq ?_
       refine k_region ?_
       refine k_move rfl rfl ?_
       obtain ⟨x8, hx8, h⟩ := ob h
       refine k_call cal21 rfl (value_reader_is_w  (OValueReader.mk_ x5.2 (by omega) hb_17_0) hx8) rfl ?_
       rintro s22 vr22 st22 ⟨rfl, hm22_0⟩
       have hb_22_0 := hm22_0.at_
       have szs22 := st22.size
       have hS := hS.c0 st22
       replace h1 := h1.up2 st22
       replace tb0 := tb0.up2 st22
       replace tb1 := tb1.up2 st22
       replace tb2 := tb2.up2 st22
       refine k_assign rfl rfl ?_
       refine k_nil ?_
       refine k_keep [(0, _), (1, _), (4, _), (36, _)] ⟨rfl, rfl, rfl, rfl, trivial⟩ ?_
       refine k_cond rfl (fun c23 => ?_) (fun c23 => ?_)
       ·
        have h := ibT h c23
        refine k_seq ?_
        refine k_region ?_
        refine k_move rfl rfl ?_
        refine k_move rfl rfl ?_
        obtain ⟨x9, hx9, h⟩ := ob h
        refine k_call cal24 rfl (value_reader_row_w  (OValueReader.mk_ x8.2 (by omega) hb_22_0) tb0 tb1 tb2 ih70 hx9) rfl ?_
        rintro s24 vr24 st24 ⟨cs24_0, rfl, h24_0, hm24_0⟩
        have hb_24_0 := hm24_0.at_
        have szs24 := st24.size
        have hS := hS.c0 st24
        replace h1 := h1.up2 st24
        obtain ⟨q24_0_0, q24_0_1, rfl, hq24_0_0, hq24_0_1⟩ := opnApiValue h24_0
        refine k_store_c (cs' := [.int .i64 x9.1.Kind, .int .i64 x9.1.Num, S x9.1.Text, q24_0_0, q24_0_1]) size25 rfl rfl h1 (by first | (simp; done) | omega | (dsimp only; omega)) (CellsOf.lit (vs := [.int .i64 x9.1.Kind, .int .i64 x9.1.Num, S x9.1.Text, q24_0_0, q24_0_1]) rfl (ones.cons rfl (ones.cons rfl (ones.cons rfl (ones.cons ((SL.of_R hq24_0_0)).one1 (ones.cons ((SL.of_R hq24_0_1)).one1 ones.nil)))))) rfl (by first | rfl | (simp; done) | (simp; omega)) rfl ?_
        intro s25 st25 h1
        have szs25 := st25.size
        have hS := hS.c0 st25
        replace hq24_0_0 := hq24_0_0.up2 st25
        replace hq24_0_1 := hq24_0_1.up2 st25
        replace hb_24_0 := hb_24_0.up2 st25
        refine k_nil ?_
        refine k_keep [(4, _)] ⟨rfl, trivial⟩ ?_
        refine k_ret ?_
        obtain rfl := Option.some.inj h
        refine ⟨[.agg [.int .i64 x9.1.Kind, .int .i64 x9.1.Num, S x9.1.Text, q24_0_0, q24_0_1].toArray], ⟨res_blk (cs := [.int .i64 x9.1.Kind, .int .i64 x9.1.Num, S x9.1.Text, q24_0_0, q24_0_1]) rfl agg25 h1, trivial⟩, Ret.mk hS ?_⟩
        exact ⟨_, rfl, (clsApiValue x9.1 hq24_0_0 hq24_0_1), (OValueReader.mk_ x9.2 (by omega) hb_24_0)⟩
       ·
        have h := ibF h c23
        refine k_seq ?_
        refine k_region ?_
        refine k_move rfl rfl ?_
        obtain ⟨x10, hx10, h⟩ := ob h
        refine k_call cal21 rfl (value_reader_is_w  (OValueReader.mk_ x8.2 (by omega) hb_22_0) hx10) rfl ?_
        rintro s26 vr26 st26 ⟨rfl, hm26_0⟩
        have hb_26_0 := hm26_0.at_
        have szs26 := st26.size
        have hS := hS.c0 st26
        replace h1 := h1.up2 st26
        replace tb0 := tb0.up2 st26
        replace tb1 := tb1.up2 st26
        replace tb2 := tb2.up2 st26
        refine k_assign rfl rfl ?_
        refine k_nil ?_
        refine k_keep [(0, _), (1, _), (4, _), (42, _)] ⟨rfl, rfl, rfl, rfl, trivial⟩ ?_
        refine k_cond rfl (fun c27 => ?_) (fun c27 => ?_)
        ·
         have h := ibT h c27
         refine k_seq ?_
         refine k_region ?_
         refine k_move rfl rfl ?_
         refine k_move rfl rfl ?_
         obtain ⟨x11, hx11, h⟩ := ob h
         refine k_call cal24 rfl (value_reader_row_w  (OValueReader.mk_ x10.2 (by omega) hb_26_0) tb0 tb1 tb2 ih70 hx11) rfl ?_
         rintro s28 vr28 st28 ⟨cs28_0, rfl, h28_0, hm28_0⟩
         have hb_28_0 := hm28_0.at_
         have szs28 := st28.size
         have hS := hS.c0 st28
         replace h1 := h1.up2 st28
         obtain ⟨q28_0_0, q28_0_1, rfl, hq28_0_0, hq28_0_1⟩ := opnApiValue h28_0
         refine k_store_c (cs' := [.int .i64 x11.1.Kind, .int .i64 x11.1.Num, S x11.1.Text, q28_0_0, q28_0_1]) size25 rfl rfl h1 (by first | (simp; done) | omega | (dsimp only; omega)) (CellsOf.lit (vs := [.int .i64 x11.1.Kind, .int .i64 x11.1.Num, S x11.1.Text, q28_0_0, q28_0_1]) rfl (ones.cons rfl (ones.cons rfl (ones.cons rfl (ones.cons ((SL.of_R hq28_0_0)).one1 (ones.cons ((SL.of_R hq28_0_1)).one1 ones.nil)))))) rfl (by first | rfl | (simp; done) | (simp; omega)) rfl ?_
         intro s29 st29 h1
         have szs29 := st29.size
         have hS := hS.c0 st29
         replace hq28_0_0 := hq28_0_0.up2 st29
         replace hq28_0_1 := hq28_0_1.up2 st29
         replace hb_28_0 := hb_28_0.up2 st29
         refine k_nil ?_
         refine k_keep [(4, _)] ⟨rfl, trivial⟩ ?_
         refine k_ret ?_
         obtain rfl := Option.some.inj h
         refine ⟨[.agg [.int .i64 x11.1.Kind, .int .i64 x11.1.Num, S x11.1.Text, q28_0_0, q28_0_1].toArray], ⟨res_blk (cs := [.int .i64 x11.1.Kind, .int .i64 x11.1.Num, S x11.1.Text, q28_0_0, q28_0_1]) rfl agg25 h1, trivial⟩, Ret.mk hS ?_⟩
         exact ⟨_, rfl, (clsApiValue x11.1 hq28_0_0 hq28_0_1), (OValueReader.mk_ x11.2 (by omega) hb_28_0)⟩
        ·
         have h := ibF h c27
         refine k_seq ?_
         refine k_region ?_
         refine k_move rfl rfl ?_
         obtain ⟨x12, hx12, h⟩ := ob h
         refine k_call cal25 rfl (value_reader_number_w  (OValueReader.mk_ x10.2 (by omega) hb_26_0) tb0 tb1 tb2 hx12) rfl ?_
         rintro s30 vr30 st30 ⟨cs30_0, rfl, h30_0, hm30_0⟩
         have hb_30_0 := hm30_0.at_
         have szs30 := st30.size
         have hS := hS.c0 st30
         replace h1 := h1.up2 st30
         obtain ⟨q30_0_0, q30_0_1, rfl, hq30_0_0, hq30_0_1⟩ := opnApiValue h30_0
         refine k_store_c (cs' := [.int .i64 x12.1.Kind, .int .i64 x12.1.Num, S x12.1.Text, q30_0_0, q30_0_1]) size25 rfl rfl h1 (by first | (simp; done) | omega | (dsimp only; omega)) (CellsOf.lit (vs := [.int .i64 x12.1.Kind, .int .i64 x12.1.Num, S x12.1.Text, q30_0_0, q30_0_1]) rfl (ones.cons rfl (ones.cons rfl (ones.cons rfl (ones.cons ((SL.of_R hq30_0_0)).one1 (ones.cons ((SL.of_R hq30_0_1)).one1 ones.nil)))))) rfl (by first | rfl | (simp; done) | (simp; omega)) rfl ?_
         intro s31 st31 h1
         have szs31 := st31.size
         have hS := hS.c0 st31
         replace hq30_0_0 := hq30_0_0.up2 st31
         replace hq30_0_1 := hq30_0_1.up2 st31
         replace hb_30_0 := hb_30_0.up2 st31
         refine k_nil ?_
         refine k_keep [(4, _)] ⟨rfl, trivial⟩ ?_
         refine k_ret ?_
         obtain rfl := Option.some.inj h
         refine ⟨[.agg [.int .i64 x12.1.Kind, .int .i64 x12.1.Num, S x12.1.Text, q30_0_0, q30_0_1].toArray], ⟨res_blk (cs := [.int .i64 x12.1.Kind, .int .i64 x12.1.Num, S x12.1.Text, q30_0_0, q30_0_1]) rfl agg25 h1, trivial⟩, Ret.mk hS ?_⟩
         exact ⟨_, rfl, (clsApiValue x12.1 hq30_0_0 hq30_0_1), (OValueReader.mk_ x12.2 (by omega) hb_30_0)⟩
theorem value_reader_value_rw (j : Nat) : ∀ {s : St} {k0 : Nat} {p0 : Value} {a0 : ValueReader} {a1 : Int} {r : (ApiValue × ValueReader)} (ho0 : OValueReader s k0 p0 a0) (tb0 : Tab0 s) (tb1 : Tab1 s) (tb2 : Tab2 s) (h : value_reader_value_r j a0 a1 = some r), Calls Tryd.prog 13 #[p0, .int .i64 a1] s.w (Ret s (KO k0) (fun s1 v => ∃ (u0 : List Value), v = .agg u0.toArray ∧ RC s1 u0 (dApiValue r.1) ∧ OValueReader s1 k0 p0 r.2)) := by
 induction j with
 | zero => intro s k0 p0 a0 a1 r ho0 tb0 tb1 tb2 h; rw [value_reader_value_r] at h; exact (noneNe h).elim
 | succ j ih => intro s k0 p0 a0 a1 r ho0 tb0 tb1 tb2 h; rw [value_reader_value_r] at h; exact value_reader_value_s_w ho0 tb0 tb1 tb2 ih h
theorem value_reader_value_w {s : St} {k0 : Nat} {p0 : Value} {a0 : ValueReader} {a1 : Int} {r : (ApiValue × ValueReader)} (ho0 : OValueReader s k0 p0 a0) (tb0 : Tab0 s) (tb1 : Tab1 s) (tb2 : Tab2 s) (h : value_reader_value a0 a1 = some r) : Calls Tryd.prog 13 #[p0, .int .i64 a1] s.w (Ret s (KO k0) (fun s1 v => ∃ (u0 : List Value), v = .agg u0.toArray ∧ RC s1 u0 (dApiValue r.1) ∧ OValueReader s1 k0 p0 r.2)) := value_reader_value_rw FU ho0 tb0 tb1 tb2 h

set_option maxHeartbeats 1000000 in
set_option maxRecDepth 100000 in
theorem value_plain_w {s : St} {a0 : (List UInt8)} {r : Bool}  (h : value_plain a0 = some r) : Calls Tryd.prog 26 #[S a0] s.w (Ret s K0 (fun s1 v => v = .bool r)) := by
 unfold value_plain at h
 have hS := Step.r0 K0 s
 refine k_fn (rs := [2]) (args := [S a0]) Tryd.func26 rfl rfl rfl rfl ?_
 refine k_seq ?_
 refine k_region ?_
 refine k_assign rfl rfl ?_
 refine k_nil ?_
 refine k_seq ?_
 obtain ⟨kj1, hK1, h⟩ := jn_out h
 have hE1 := Step.r0 K0 s
 refine k_cutc (X := St) [(2, .bool false)] (fun (xL : St) => match xL with | sl => []) (fun (xL : St) (wL : World) => match xL with | sl => sl.w = wL ∧ Step K0 s sl ∧ kj1 () = some r) ?_ ?_
 ·
  refine k_seq ?_
  refine k_region ?_
  refine k_move rfl rfl ?_
  refine k_len_str Tryd.underlying9 rfl rfl ?_
  refine k_move rfl rfl ?_
  refine k_nil ?_
  refine k_keep [(0, _), (2, _), (5, _), (6, _)] ⟨rfl, rfl, rfl, rfl, trivial⟩ ?_
  refine k_block ?_
  refine k_loopc (X := St × Int × Nat) [(0, _), (2, _), (5, _)] (fun (xL : St × Int × Nat) => match xL with | (sl, x2, j) => [(6, .int .i64 x2)]) (fun (xL : St × Int × Nat) (wL : World) => match xL with | (sl, x2, j) => sl.w = wL ∧ Step K0 s sl ∧ value_plain_l1 a0 kj1 j x2 = some r) (fun (xL : St × Int × Nat) => match xL with | (sl, x2, j) => j) (s, 0, FU) ⟨rfl, rfl, rfl, trivial⟩ ⟨(by first | rfl | (simp <;> rfl)), trivial⟩ ⟨rfl, (Step.refl _).of0 (by first | exact fun _ h => h | (intro c h; simp [KC, KO, KU, KN, KB] at h <;> omega)), h⟩ ?_
  rintro ⟨s3, x2, j⟩ wL ⟨rfl, hE2, h⟩
  cases j with
  | zero => rw [value_plain_l1] at h; exact (noneNe h).elim
  | succ j =>
  rw [value_plain_l1] at h
  have szs3 := hE2.size
  have hS := hS.trans0 hE2
  have hE1 := hE1.trans0 hE2
  refine k_seq ?_
  refine k_region ?_
  refine k_lss rfl rfl rfl ?_
  refine k_nil ?_
  refine k_seq ?_
  refine k_cond_dec rfl (fun c4 => ?_) (fun c4 => ?_)
  ·
   have h := itT h c4
   refine k_skip ?_
   refine k_seq ?_
   refine k_block ?_
   refine k_seq ?_
   refine k_region ?_
   refine k_move rfl rfl ?_
   refine k_assign rfl rfl ?_
   refine k_nil ?_
   refine k_keep [(0, _), (2, _), (3, _), (5, _), (6, _)] ⟨rfl, rfl, rfl, rfl, rfl, trivial⟩ ?_
   refine k_seq ?_
   refine k_region ?_
   refine k_move rfl rfl ?_
   refine k_move rfl rfl ?_
   obtain ⟨x3, hx3, h⟩ := ob h
   refine k_index_str Tryd.underlying9 rfl rfl (geti_out hx3).1 (geti_out hx3).2.1 rfl ?_
   refine k_as (congrArg (fun c : UInt8 => Value.int .u8 (c.toNat : Int)) (geti_getD hx3)) ?_
   refine k_lss rfl rfl rfl ?_
   refine k_move rfl rfl ?_
   obtain ⟨x4, hx4, h⟩ := ob h
   have hE5 := Step.r0 K0 s3
   refine k_cutl (X := St) 5 [(0, S a0), (2, .bool false), (3, .int .i64 x2), (5, .int .i64 (a0.length : Int)), (6, .int .i64 x2), (9, S a0), (10, .int .i64 x2), (11, .int .u8 (x3.toNat : Int)), (12, .bool (decide ((x3.toNat : Int) < 32)))] (fun _ => [(18, .bool x4)]) (fun sl wL => sl.w = wL ∧ Step K0 s3 sl) ?_ ?_
   ·
    refine k_again 13 rfl ?_
    refine k_split (fun c6 => ?_) (fun c6 => ?_)
    ·
     have hx4 := itT hx4 c6
     refine k_no rfl rfl rfl rfl ?_
     refine k_no rfl rfl rfl rfl ?_
     refine k_no rfl rfl rfl rfl ?_
     refine k_no rfl rfl rfl rfl ?_
     refine k_pickT rfl rfl rfl rfl ?_
     exact k_met ⟨s3, ⟨(congrArg (fun b => some (Value.bool b)) (Option.some.inj hx4)), trivial⟩, ⟨rfl, rfl, rfl, rfl, rfl, rfl, rfl, rfl, rfl, trivial⟩, rfl, hE5⟩
    ·
     have hx4 := itF hx4 c6
     refine k_yes rfl rfl ?_
     refine k_move rfl rfl ?_
     refine k_yes rfl rfl ?_
     refine k_move rfl rfl ?_
     refine k_yes rfl rfl ?_
     obtain ⟨x5, hx5, hx4⟩ := ob hx4
     refine k_index_str Tryd.underlying9 rfl rfl (geti_out hx5).1 (geti_out hx5).2.1 rfl ?_
     refine k_as (congrArg (fun c : UInt8 => Value.int .u8 (c.toNat : Int)) (geti_getD hx5)) ?_
     refine k_yes rfl rfl ?_
     refine k_gtr rfl rfl rfl ?_
     refine k_pickF rfl rfl rfl rfl ?_
     exact k_met ⟨s3, ⟨(congrArg (fun b => some (Value.bool b)) (Option.some.inj hx4)), trivial⟩, ⟨rfl, rfl, rfl, rfl, rfl, rfl, rfl, rfl, rfl, trivial⟩, rfl, hE5⟩
   ·
    rintro s7 wL ⟨rfl, hE5⟩
    have szs7 := hE5.size
    have hS := hS.trans0 hE5
    have hE1 := hE1.trans0 hE5
    have hE2 := hE2.trans0 hE5
    refine k_nil ?_
    refine k_keep [(0, _), (2, _), (5, _), (6, _), (18, _)] ⟨rfl, rfl, rfl, rfl, rfl, trivial⟩ ?_
    refine k_cond rfl (fun c8 => ?_) (fun c8 => ?_)
    ·
     have h := ibT h c8
     refine k_seq ?_
     refine k_region ?_
     refine k_assign rfl rfl ?_
     refine k_nil ?_
     refine k_keep [(0, _), (2, _), (5, _), (6, _)] ⟨rfl, rfl, rfl, rfl, trivial⟩ ?_
     refine k_ret ?_
     obtain rfl := Option.some.inj h
     refine ⟨_, rfl, Ret.mk hS ?_⟩
     exact rfl
    ·
     have h := ibF h c8
     refine k_skip ?_
     refine k_blk ?_
     refine k_region ?_
     refine k_add rfl rfl rfl ?_
     refine k_move rfl rfl ?_
     refine k_nil ?_
     exact k_stop ⟨(s7, i64 (x2 + 1), j), ⟨(by first | rfl | (simp <;> rfl)), trivial⟩, ⟨rfl, rfl, rfl, trivial⟩, ⟨rfl, hE2, h⟩, (by simp)⟩
  ·
   have h := itF h c4
   refine k_exit rfl ?_
   exact k_stop ⟨s3, trivial, ⟨rfl, trivial⟩, ⟨rfl, hE1, h⟩⟩
 ·
  rintro s9 wL ⟨rfl, hE1, h⟩
  rw [hK1] at h
  have szs9 := hE1.size
  have hS := hS.trans0 hE1
  refine k_seq ?_
  refine k_region ?_
  refine k_assign rfl rfl ?_
  refine k_nil ?_
  refine k_ret ?_
  obtain rfl := Option.some.inj h
  refine ⟨_, rfl, Ret.mk hS ?_⟩
  exact rfl

set_option maxHeartbeats 1000000 in
set_option maxRecDepth 100000 in
theorem value_key_w {s : St} {a0 : (List UInt8)} {r : Bool}  (h : value_key a0 = some r) : Calls Tryd.prog 27 #[S a0] s.w (Ret s K0 (fun s1 v => v = .bool r)) := by
 unfold value_key at h
 have hS := Step.r0 K0 s
 refine k_fn (rs := [2]) (args := [S a0]) Tryd.func27 rfl rfl rfl rfl ?_
 refine k_seq ?_
 refine k_region ?_
 refine k_assign rfl rfl ?_
 refine k_nil ?_
 refine k_seq ?_
 refine k_region ?_
 refine k_move rfl rfl ?_
 refine k_len_str Tryd.underlying9 rfl rfl ?_
 refine k_geq rfl rfl rfl ?_
 refine k_move rfl rfl ?_
 have hE1 := Step.r0 K0 s
 refine k_cutl (X := St) 4 [(0, S a0), (2, .bool false), (3, S a0), (4, .int .i64 (a0.length : Int)), (5, .bool (decide (1 ≤ (a0.length : Int))))] (fun _ => [(10, .bool (decide ((1 ≤ (a0.length : Int)) ∧ ((a0.length : Int) ≤ 24))))]) (fun sl wL => sl.w = wL ∧ Step K0 s sl) ?_ ?_
 ·
  refine k_again 6 rfl ?_
  refine k_split (fun c2 => ?_) (fun c2 => ?_)
  ·
   refine k_yes rfl rfl ?_
   refine k_move rfl rfl ?_
   refine k_yes rfl rfl ?_
   refine k_len_str Tryd.underlying9 rfl rfl ?_
   refine k_yes rfl rfl ?_
   refine k_leq rfl rfl rfl ?_
   refine k_pickT rfl rfl rfl rfl ?_
   exact k_met ⟨s, ⟨(congrArg (fun b => some (Value.bool b)) (by first | exact decide_eq_decide.2 ⟨fun h => ⟨c2, h⟩, fun h => h.2⟩ | exact (decide_eq_false (fun h => c2 h.1)).symm | (simp [c2]; done) | (simp [c2, i64] <;> omega))), trivial⟩, ⟨rfl, rfl, rfl, rfl, rfl, trivial⟩, rfl, hE1⟩
  ·
   refine k_no rfl rfl rfl rfl ?_
   refine k_no rfl rfl rfl rfl ?_
   refine k_no rfl rfl rfl rfl ?_
   refine k_pickF rfl rfl rfl rfl ?_
   exact k_met ⟨s, ⟨(congrArg (fun b => some (Value.bool b)) (by first | exact decide_eq_decide.2 ⟨fun h => ⟨c2, h⟩, fun h => h.2⟩ | exact (decide_eq_false (fun h => c2 h.1)).symm | (simp [c2]; done) | (simp [c2, i64] <;> omega))), trivial⟩, ⟨rfl, rfl, rfl, rfl, rfl, trivial⟩, rfl, hE1⟩
 ·
  rintro s3 wL ⟨rfl, hE1⟩
  have szs3 := hE1.size
  have hS := hS.trans0 hE1
  refine k_move rfl rfl ?_
  obtain ⟨x1, hx1, h⟩ := ob h
  have hE4 := Step.r0 K0 s3
  refine k_cutl (X := St) 3 [(0, S a0), (2, .bool false), (3, S a0), (4, .int .i64 (a0.length : Int)), (5, .bool (decide (1 ≤ (a0.length : Int)))), (10, .bool (decide ((1 ≤ (a0.length : Int)) ∧ ((a0.length : Int) ≤ 24))))] (fun _ => [(14, .bool x1)]) (fun sl wL => sl.w = wL ∧ Step K0 s3 sl) ?_ ?_
  ·
   refine k_again 11 rfl ?_
   refine k_split (fun c5 => ?_) (fun c5 => ?_)
   ·
    have hx1 := itT hx1 c5
    refine k_yes rfl rfl ?_
    refine k_move rfl rfl ?_
    refine k_yes rfl rfl ?_
    obtain ⟨x2, hx2, hx1⟩ := ob hx1
    refine k_call cal26 rfl (value_plain_w   hx2) rfl ?_
    rintro s6 vr6 st6 rfl
    have szs6 := st6.size
    have hS := hS.trans0 st6
    have hE4 := hE4.trans0 st6
    refine k_pickT rfl rfl rfl rfl ?_
    exact k_met ⟨s6, ⟨(congrArg (fun b => some (Value.bool b)) (Option.some.inj hx1)), trivial⟩, ⟨rfl, rfl, rfl, rfl, rfl, rfl, trivial⟩, rfl, hE4⟩
   ·
    have hx1 := itF hx1 c5
    refine k_no rfl rfl rfl rfl ?_
    refine k_no rfl rfl rfl rfl ?_
    refine k_pickF rfl rfl rfl rfl ?_
    exact k_met ⟨s3, ⟨(congrArg (fun b => some (Value.bool b)) (Option.some.inj hx1)), trivial⟩, ⟨rfl, rfl, rfl, rfl, rfl, rfl, trivial⟩, rfl, hE4⟩
  ·
   rintro s7 wL ⟨rfl, hE4⟩
   have szs7 := hE4.size
   have hS := hS.trans0 hE4
   refine k_move rfl rfl ?_
   obtain ⟨x3, hx3, h⟩ := ob h
   have hE8 := Step.r0 K0 s7
   refine k_cutl (X := St) 4 [(0, S a0), (2, .bool false), (3, S a0), (4, .int .i64 (a0.length : Int)), (5, .bool (decide (1 ≤ (a0.length : Int)))), (10, .bool (decide ((1 ≤ (a0.length : Int)) ∧ ((a0.length : Int) ≤ 24)))), (14, .bool x1)] (fun _ => [(19, .bool x3)]) (fun sl wL => sl.w = wL ∧ Step K0 s7 sl) ?_ ?_
   ·
    refine k_again 15 rfl ?_
    refine k_splitb (fun c9 => ?_) (fun c9 => ?_)
    ·
     have hx3 := ibT hx3 c9
     refine k_yes rfl rfl ?_
     refine k_move rfl rfl ?_
     refine k_yes rfl rfl ?_
     by_cases c10 : a0.all (fun b => decide (b.toNat < 128)) = true ∧ ([32, 46, 34] : List UInt8).all (fun b => decide (b.toNat < 128)) = true ∧ a0.length ≤ 1000000 ∧ ([32, 46, 34] : List UInt8).length ≤ 1000000
     case neg => exact (noneNe (itF hx3 c10)).elim
     replace hx3 := itT hx3 c10
     refine k_call cal42 rfl (containsAny_w (a0 := a0) (a1 := ([32, 46, 34] : List UInt8)) c10) rfl ?_
     rintro s11 _ st11 rfl
     have szs11 := st11.size
     have hS := hS.trans0 st11
     have hE8 := hE8.trans0 st11
     refine k_yes rfl rfl ?_
     refine k_not rfl rfl ?_
     refine k_pickT rfl rfl rfl rfl ?_
     exact k_met ⟨s11, ⟨(congrArg (fun b => some (Value.bool b)) (Option.some.inj hx3)), trivial⟩, ⟨rfl, rfl, rfl, rfl, rfl, rfl, rfl, trivial⟩, rfl, hE8⟩
    ·
     have hx3 := ibF hx3 c9
     refine k_no rfl rfl rfl rfl ?_
     refine k_no rfl rfl rfl rfl ?_
     refine k_no rfl rfl rfl rfl ?_
     refine k_pickF rfl rfl rfl rfl ?_
     exact k_met ⟨s7, ⟨(congrArg (fun b => some (Value.bool b)) (Option.some.inj hx3)), trivial⟩, ⟨rfl, rfl, rfl, rfl, rfl, rfl, rfl, trivial⟩, rfl, hE8⟩
   ·
    rintro s12 wL ⟨rfl, hE8⟩
    have szs12 := hE8.size
    have hS := hS.trans0 hE8
    refine k_assign rfl rfl ?_
    refine k_nil ?_
    refine k_keep [(2, _)] ⟨rfl, trivial⟩ ?_
    refine k_ret ?_
    obtain rfl := Option.some.inj h
    refine ⟨_, rfl, Ret.mk hS ?_⟩
    exact rfl

set_option maxHeartbeats 1000000 in
set_option maxRecDepth 100000 in
theorem value_shaped_1_w {s : St} {cs0 : List Value} {a0 : ApiValue} {ub1 : Nat} {a1 : Int} {a70 : (ApiValue → Int → Option Bool)} {r : Bool} (hp0 : RC s cs0 (dApiValue a0)) (hp1 : BoxR s ub1 3 (dI64 a1)) (ih70 : ∀ {s : St} {cs0 : List Value} {a0 : ApiValue} {a1 : Int} {r : Bool} (hp0 : RC s cs0 (dApiValue a0)) (h : a70 a0 a1 = some r), Calls Tryd.prog 14 #[.agg cs0.toArray, .int .i64 a1] s.w (Ret s K0 (fun s1 v => v = .bool r))) (h : value_shaped_1 a70 a0 a1 = some r) : Calls Tryd.prog 29 #[.agg cs0.toArray, .pointer (some ⟨ub1, 0, none⟩)] s.w (Ret s K0 (fun s1 v => v = .bool r)) := by
 unfold value_shaped_1 at h
 obtain ⟨q0_0, q0_1, rfl, hq0_0, hq0_1⟩ := opnApiValue hp0
 obtain ⟨cs1, hb_b1, hp1⟩ := hp1
 obtain rfl := hp1.val_inv
 have lt1 := hb_b1.lt
 have hS := Step.r0 K0 s
 refine k_fn (rs := [3]) (args := [.agg #[.int .i64 a0.Kind, .int .i64 a0.Num, S a0.Text, q0_0, q0_1], .pointer (some ⟨ub1, 0, none⟩)]) Tryd.func29 rfl rfl rfl rfl ?_
 refine k_seq ?_
 refine k_region ?_
 refine k_box rfl rfl ?_
 intro s2 b2 st2 h2 ge2
 have szs2 := st2.size
 have hS := hS.trans0 st2
 replace hq0_0 := hq0_0.up2 st2
 replace hq0_1 := hq0_1.up2 st2
 replace hb_b1 := hb_b1.up2 st2
 have lt2 := h2.lt
 refine k_assign rfl rfl ?_
 refine k_nil ?_
 refine k_keep [(1, _), (2, _), (3, _)] ⟨rfl, rfl, rfl, trivial⟩ ?_
 refine k_seq ?_
 refine k_region ?_
 refine k_load_blka (cs := [.int .i64 a0.Kind, .int .i64 a0.Num, S a0.Text, q0_0, q0_1]) agg25 rfl h2 rfl ?_
 refine k_load_blk one3 rfl hb_b1 rfl rfl ?_
 refine k_sub_ rfl rfl rfl ?_
 obtain ⟨x1, hx1, h⟩ := ob h
 refine k_call cal14 rfl (ih70  (clsApiValue a0 hq0_0 hq0_1) hx1) rfl ?_
 rintro s3 vr3 st3 rfl
 have szs3 := st3.size
 have hS := hS.trans0 st3
 refine k_not rfl rfl ?_
 refine k_assign rfl rfl ?_
 refine k_nil ?_
 refine k_keep [(3, _)] ⟨rfl, trivial⟩ ?_
 refine k_ret ?_
 obtain rfl := Option.some.inj h
 refine ⟨_, rfl, Ret.mk hS ?_⟩
 exact rfl

set_option maxHeartbeats 1000000 in
set_option maxRecDepth 100000 in
theorem slices_IndexFunc_api_Value_api_Value_c29_w {s : St} {l0 : Lab} {v0 : Value} {a0 : (List ApiValue)} {ub1_0 : Nat} {a1_0 : Int} {a70 : (ApiValue → Int → Option Bool)} {r : Int} (hp0 : SL s l0 v0 5 (a0.map dApiValue)) (hp1_0 : BoxR s ub1_0 3 (dI64 a1_0)) (ih70 : ∀ {s : St} {cs0 : List Value} {a0 : ApiValue} {a1 : Int} {r : Bool} (hp0 : RC s cs0 (dApiValue a0)) (h : a70 a0 a1 = some r), Calls Tryd.prog 14 #[.agg cs0.toArray, .int .i64 a1] s.w (Ret s K0 (fun s1 v => v = .bool r))) (h : slices_IndexFunc_api_Value_api_Value_c29 a70 a0 a1_0 = some r) : Calls Tryd.prog 43 #[v0, .func (.func 29) #[] #[.pointer (some ⟨ub1_0, 0, none⟩)]] s.w (Ret s K0 (fun s1 v => v = .int .i64 r)) := by
 unfold slices_IndexFunc_api_Value_api_Value_c29 at h
 obtain ⟨lf0, lf0le, lf0ne, hp0⟩ := hp0.fix
 have lt1_0 := hp1_0.lt
 have hS := Step.r0 K0 s
 refine k_fn (rs := [4]) (args := [v0, .func (.func 29) #[] #[.pointer (some ⟨ub1_0, 0, none⟩)]]) Tryd.func43 rfl rfl rfl rfl ?_
 refine k_seq ?_
 refine k_region ?_
 refine k_assign rfl rfl ?_
 refine k_nil ?_
 refine k_seq ?_
 obtain ⟨kj1, hK1, h⟩ := jn_out h
 have hE1 := Step.r0 K0 s
 refine k_cutc (X := St) [(4, .int .i64 0)] (fun (xL : St) => match xL with | sl => []) (fun (xL : St) (wL : World) => match xL with | sl => sl.w = wL ∧ Step K0 s sl ∧ kj1 () = some r) ?_ ?_
 ·
  refine k_seq ?_
  refine k_region ?_
  refine k_move rfl rfl ?_
  refine k_len Tryd.underlying22 rfl hp0.hasLen rfl ?_
  refine k_as (v := .int .i64 (a0.length : Int)) (by simp only [List.length_map]) ?_
  refine k_move rfl rfl ?_
  refine k_nil ?_
  refine k_keep [(0, _), (1, _), (4, _), (7, _), (8, _)] ⟨rfl, rfl, rfl, rfl, rfl, trivial⟩ ?_
  refine k_block ?_
  refine k_loopc (X := St × Int × Nat) [(0, _), (1, _), (4, _), (7, _)] (fun (xL : St × Int × Nat) => match xL with | (sl, x2, j) => [(8, .int .i64 x2)]) (fun (xL : St × Int × Nat) (wL : World) => match xL with | (sl, x2, j) => sl.w = wL ∧ Step K0 s sl ∧ slices_IndexFunc_api_Value_api_Value_c29_l1 a0 a70 a1_0 kj1 j x2 = some r) (fun (xL : St × Int × Nat) => match xL with | (sl, x2, j) => j) (s, 0, FU) ⟨rfl, rfl, rfl, rfl, trivial⟩ ⟨(by first | rfl | (simp <;> rfl)), trivial⟩ ⟨rfl, (Step.refl _).of0 (by first | exact fun _ h => h | (intro c h; simp [KC, KO, KU, KN, KB] at h <;> omega)), h⟩ ?_
  rintro ⟨s3, x2, j⟩ wL ⟨rfl, hE2, h⟩
  cases j with
  | zero => rw [slices_IndexFunc_api_Value_api_Value_c29_l1] at h; exact (noneNe h).elim
  | succ j =>
  rw [slices_IndexFunc_api_Value_api_Value_c29_l1] at h
  have szs3 := hE2.size
  have hS := hS.trans0 hE2
  have hE1 := hE1.trans0 hE2
  replace hp0 := hp0.up2 hE2
  replace hp1_0 := hp1_0.up2 hE2
  refine k_seq ?_
  refine k_region ?_
  refine k_lss rfl rfl rfl ?_
  refine k_nil ?_
  refine k_seq ?_
  refine k_cond_dec rfl (fun c4 => ?_) (fun c4 => ?_)
  ·
   have h := itT h c4
   refine k_skip ?_
   refine k_seq ?_
   refine k_block ?_
   refine k_seq ?_
   refine k_region ?_
   refine k_move rfl rfl ?_
   refine k_assign rfl rfl ?_
   refine k_nil ?_
   refine k_keep [(0, _), (1, _), (4, _), (5, _), (7, _), (8, _)] ⟨rfl, rfl, rfl, rfl, rfl, rfl, trivial⟩ ?_
   refine k_seq ?_
   refine k_region ?_
   refine k_move rfl rfl ?_
   refine k_move rfl rfl ?_
   refine k_move rfl rfl ?_
   obtain ⟨x3, hx3, h⟩ := ob h
   refine k_ixaddr Tryd.underlying22 size25 rfl rfl hp0 (geti_out hx3).1 (geti_map hx3) rfl ?_
   intro qx3 hqx3
   refine k_load_agg (by exact agg25) rfl hqx3 rfl ?_
   intro cs5 h5
   obtain ⟨q5_0, q5_1, rfl, hq5_0, hq5_1⟩ := opnApiValue h5
   obtain ⟨x4, hx4, h⟩ := ob h
   refine k_callv cal29 rfl rfl (value_shaped_1_w  (clsApiValue x3 hq5_0 hq5_1) hp1_0 ih70 hx4) rfl ?_
   rintro s6 vr6 st6 rfl
   have szs6 := st6.size
   have hS := hS.trans0 st6
   have hE1 := hE1.trans0 st6
   have hE2 := hE2.trans0 st6
   refine k_nil ?_
   refine k_keep [(0, _), (1, _), (4, _), (5, _), (7, _), (8, _), (16, _)] ⟨rfl, rfl, rfl, rfl, rfl, rfl, rfl, trivial⟩ ?_
   refine k_cond rfl (fun c7 => ?_) (fun c7 => ?_)
   ·
    have h := ibT h c7
    refine k_seq ?_
    refine k_region ?_
    refine k_move rfl rfl ?_
    refine k_assign rfl rfl ?_
    refine k_nil ?_
    refine k_keep [(0, _), (1, _), (4, _), (7, _), (8, _)] ⟨rfl, rfl, rfl, rfl, rfl, trivial⟩ ?_
    refine k_ret ?_
    obtain rfl := Option.some.inj h
    refine ⟨_, rfl, Ret.mk hS ?_⟩
    exact rfl
   ·
    have h := ibF h c7
    refine k_skip ?_
    refine k_blk ?_
    refine k_region ?_
    refine k_add rfl rfl rfl ?_
    refine k_move rfl rfl ?_
    refine k_nil ?_
    exact k_stop ⟨(s6, i64 (x2 + 1), j), ⟨(by first | rfl | (simp <;> rfl)), trivial⟩, ⟨rfl, rfl, rfl, rfl, trivial⟩, ⟨rfl, hE2, h⟩, (by simp)⟩
  ·
   have h := itF h c4
   refine k_exit rfl ?_
   exact k_stop ⟨s3, trivial, ⟨rfl, trivial⟩, ⟨rfl, hE1, h⟩⟩
 ·
  rintro s8 wL ⟨rfl, hE1, h⟩
  rw [hK1] at h
  have szs8 := hE1.size
  have hS := hS.trans0 hE1
  refine k_seq ?_
  refine k_region ?_
  refine k_assign rfl rfl ?_
  refine k_nil ?_
  refine k_ret ?_
  obtain rfl := Option.some.inj h
  refine ⟨_, rfl, Ret.mk hS ?_⟩
  exact rfl

set_option maxHeartbeats 1000000 in
set_option maxRecDepth 100000 in
theorem slices_ContainsFunc_api_Value_api_Value_c29_w {s : St} {l0 : Lab} {v0 : Value} {a0 : (List ApiValue)} {ub1_0 : Nat} {a1_0 : Int} {a70 : (ApiValue → Int → Option Bool)} {r : Bool} (hp0 : SL s l0 v0 5 (a0.map dApiValue)) (hp1_0 : BoxR s ub1_0 3 (dI64 a1_0)) (ih70 : ∀ {s : St} {cs0 : List Value} {a0 : ApiValue} {a1 : Int} {r : Bool} (hp0 : RC s cs0 (dApiValue a0)) (h : a70 a0 a1 = some r), Calls Tryd.prog 14 #[.agg cs0.toArray, .int .i64 a1] s.w (Ret s K0 (fun s1 v => v = .bool r))) (h : slices_ContainsFunc_api_Value_api_Value_c29 a70 a0 a1_0 = some r) : Calls Tryd.prog 28 #[v0, .func (.func 29) #[] #[.pointer (some ⟨ub1_0, 0, none⟩)]] s.w (Ret s K0 (fun s1 v => v = .bool r)) := by
 unfold slices_ContainsFunc_api_Value_api_Value_c29 at h
 obtain ⟨lf0, lf0le, lf0ne, hp0⟩ := hp0.fix
 have lt1_0 := hp1_0.lt
 have hS := Step.r0 K0 s
 refine k_fn (rs := [4]) (args := [v0, .func (.func 29) #[] #[.pointer (some ⟨ub1_0, 0, none⟩)]]) Tryd.func28 rfl rfl rfl rfl ?_
 refine k_seq ?_
 refine k_region ?_
 refine k_assign rfl rfl ?_
 refine k_nil ?_
 refine k_seq ?_
 refine k_region ?_
 refine k_move rfl rfl ?_
 refine k_move rfl rfl ?_
 obtain ⟨x1, hx1, h⟩ := ob h
 refine k_call cal43 rfl (slices_IndexFunc_api_Value_api_Value_c29_w  hp0 hp1_0 ih70 hx1) rfl ?_
 rintro s1 vr1 st1 rfl
 have szs1 := st1.size
 have hS := hS.trans0 st1
 refine k_geq rfl rfl rfl ?_
 refine k_assign rfl rfl ?_
 refine k_nil ?_
 refine k_keep [(4, _)] ⟨rfl, trivial⟩ ?_
 refine k_ret ?_
 obtain rfl := Option.some.inj h
 refine ⟨_, rfl, Ret.mk hS ?_⟩
 exact rfl

set_option maxHeartbeats 1000000 in
set_option maxRecDepth 100000 in
theorem value_shaped_s_w {s : St} {cs0 : List Value} {a0 : ApiValue} {a1 : Int} {a70 : (ApiValue → Int → Option Bool)} {r : Bool} (hp0 : RC s cs0 (dApiValue a0)) (ih70 : ∀ {s : St} {cs0 : List Value} {a0 : ApiValue} {a1 : Int} {r : Bool} (hp0 : RC s cs0 (dApiValue a0)) (h : a70 a0 a1 = some r), Calls Tryd.prog 14 #[.agg cs0.toArray, .int .i64 a1] s.w (Ret s K0 (fun s1 v => v = .bool r))) (h : value_shaped_s a70 a0 a1 = some r) : Calls Tryd.prog 14 #[.agg cs0.toArray, .int .i64 a1] s.w (Ret s K0 (fun s1 v => v = .bool r)) := by
 unfold value_shaped_s at h
 obtain ⟨q0_0, q0_1, rfl, hq0_0, hq0_1⟩ := opnApiValue hp0
 have hS := Step.r0 K0 s
 refine k_fn (rs := [4]) (args := [.agg #[.int .i64 a0.Kind, .int .i64 a0.Num, S a0.Text, q0_0, q0_1], .int .i64 a1]) Tryd.func14 rfl rfl rfl rfl ?_
 refine k_seq ?_
 refine k_region ?_
 refine k_box rfl rfl ?_
 intro s1 b1 st1 h1 ge1
 have szs1 := st1.size
 have hS := hS.trans0 st1
 replace hq0_0 := hq0_0.up2 st1
 replace hq0_1 := hq0_1.up2 st1
 have lt1 := h1.lt
 refine k_box rfl rfl ?_
 intro s2 b2 st2 h2 ge2
 have szs2 := st2.size
 have hS := hS.trans0 st2
 replace hq0_0 := hq0_0.up2 st2
 replace hq0_1 := hq0_1.up2 st2
 replace h1 := h1.up2 st2
 have lt2 := h2.lt
 refine k_assign rfl rfl ?_
 refine k_nil ?_
 refine k_keep [(2, _), (3, _), (4, _)] ⟨rfl, rfl, rfl, trivial⟩ ?_
 refine k_seq ?_
 refine k_seq ?_
 refine k_region ?_
 refine k_load_blk one3 rfl h2 rfl rfl ?_
 refine k_lss rfl rfl rfl ?_
 refine k_nil ?_
 refine k_keep [(2, _), (3, _), (4, _), (9, _)] ⟨rfl, rfl, rfl, rfl, trivial⟩ ?_
 refine k_cond_dec rfl (fun c3 => ?_) (fun c3 => ?_)
 ·
  have h := itT h c3
  refine k_seq ?_
  refine k_region ?_
  refine k_assign rfl rfl ?_
  refine k_nil ?_
  refine k_keep [(2, _), (3, _), (4, _)] ⟨rfl, rfl, rfl, trivial⟩ ?_
  refine k_ret ?_
  obtain rfl := Option.some.inj h
  refine ⟨_, rfl, Ret.mk hS ?_⟩
  exact rfl
 ·
  have h := itF h c3
  refine k_skip ?_
  refine k_seq ?_
  refine k_region ?_
  refine k_field_addr fld25_0 rfl rfl ?_
  refine k_load_blk one3 rfl h1 rfl rfl ?_
  refine k_build plc25 zero25 rfl (Parts.cons (CellsOf.lit rfl rfl).1 Parts.nil) (by rfl) rfl ?_
  refine k_as (v := .agg #[.int .i64 a0.Kind, .int .i64 0, S ([] : List UInt8), .slice none 0 0, .slice none 0 0]) rfl ?_
  refine k_alloc zero25 rfl ?_
  intro s4 b4 st4 h4 ge4
  have szs4 := st4.size
  have hS := hS.trans0 st4
  replace hq0_0 := hq0_0.up2 st4
  replace hq0_1 := hq0_1.up2 st4
  replace h1 := h1.up2 st4
  replace h2 := h2.up2 st4
  have lt4 := h4.lt
  refine k_store_c (cs' := [.int .i64 a0.Kind, .int .i64 0, S ([] : List UInt8), .slice none 0 0, .slice none 0 0]) size25 rfl rfl h4 (by first | (simp; done) | omega | (dsimp only; omega)) (CellsOf.lit rfl rfl) rfl (by first | rfl | (simp; done) | (simp; omega)) rfl ?_
  intro s5 st5 h4
  have szs5 := st5.size
  have hS := hS.c0 st5
  replace hq0_0 := hq0_0.up2 st5
  replace hq0_1 := hq0_1.up2 st5
  replace h1 := h1.up2 st5
  replace h2 := h2.up2 st5
  refine k_nil ?_
  refine k_keep [(2, _), (3, _), (4, _), (5, _)] ⟨rfl, rfl, rfl, rfl, trivial⟩ ?_
  refine k_seq ?_
  obtain ⟨kj1, hK6, h⟩ := jn_out h
  have hE6 := Step.r0 (KC (b4 + 1) 0) s5
  refine k_cutc (X := St × Int × (List UInt8) × (List ApiValue) × Value × (List (List UInt8)) × Value) [(2, .pointer (some ⟨b1, 0, none⟩)), (3, .pointer (some ⟨b2, 0, none⟩)), (4, .bool false), (5, .pointer (some ⟨b4, 0, none⟩))] (fun (xL : St × Int × (List UInt8) × (List ApiValue) × Value × (List (List UInt8)) × Value) => match xL with | (sl, x2, x3, x4, v7, x5, v8) => []) (fun (xL : St × Int × (List UInt8) × (List ApiValue) × Value × (List (List UInt8)) × Value) (wL : World) => match xL with | (sl, x2, x3, x4, v7, x5, v8) => sl.w = wL ∧ Step (KC (b4 + 1) 0) s5 sl ∧ (R sl v7 (.sl 5 (x4.map dApiValue))) ∧ (R sl v8 (.sl 1 (x5.map dS))) ∧ (Blk sl b4 ⟨b4 + 1, 0⟩ [.int .i64 a0.Kind, .int .i64 x2, S x3, v7, v8] 25) ∧ kj1 x2 x3 x4 x5 = some r) ?_ ?_
  ·
   refine k_seq ?_
   refine k_region ?_
   refine k_field_addr fld25_0 rfl rfl ?_
   refine k_load_blk one3 rfl h1 rfl rfl ?_
   refine k_nil ?_
   refine k_keep [(2, _), (3, _), (4, _), (5, _), (14, _)] ⟨rfl, rfl, rfl, rfl, rfl, trivial⟩ ?_
   refine k_block ?_
   refine k_seq ?_
   refine k_block ?_
   refine k_seq ?_
   refine k_block ?_
   refine k_seq ?_
   refine k_block ?_
   refine k_seq ?_
   refine k_block ?_
   refine k_seq ?_
   refine k_block ?_
   refine k_seq ?_
   refine k_block ?_
   refine k_seq ?_
   refine k_seq ?_
   obtain ⟨kj6, hK9, h⟩ := jn_out h
   have hE9 := Step.r0 K0 s5
   refine k_cutc (X := St) [(2, .pointer (some ⟨b1, 0, none⟩)), (3, .pointer (some ⟨b2, 0, none⟩)), (4, .bool false), (5, .pointer (some ⟨b4, 0, none⟩)), (14, .int .i64 a0.Kind)] (fun (xL : St) => match xL with | sl => []) (fun (xL : St) (wL : World) => match xL with | sl => sl.w = wL ∧ Step K0 s5 sl ∧ kj6 () = some r) ?_ ?_
   ·
    refine k_seq ?_
    refine k_seq ?_
    refine k_region ?_
    refine k_eql rfl rfl rfl ?_
    refine k_assign rfl rfl ?_
    refine k_nil ?_
    refine k_keep [(2, _), (3, _), (4, _), (5, _), (14, _), (15, _)] ⟨rfl, rfl, rfl, rfl, rfl, rfl, trivial⟩ ?_
    refine k_cond_dec rfl (fun c10 => ?_) (fun c10 => ?_)
    ·
     have h := itT h c10
     refine k_skip ?_
     refine k_cond_dec rfl (fun c11 => ?_) (fun c11 => ?_)
     ·
      have h := itT h c11
      refine k_exit rfl ?_
      refine k_exit rfl ?_
      exact k_stop ⟨(s5, 0, ([] : List UInt8), [], .slice none 0 0, [], .slice none 0 0), trivial, ⟨rfl, rfl, rfl, rfl, trivial⟩, ⟨rfl, hE6, (R.of_SL (.inl ⟨rfl, none, 0, rfl, fun _ => rfl⟩)), (R.of_SL (.inl ⟨rfl, none, 0, rfl, fun _ => rfl⟩)), h4, h⟩⟩
     ·
      have h := itF h c11
      refine k_skip ?_
      exact k_stop ⟨s5, trivial, ⟨rfl, rfl, rfl, rfl, rfl, trivial⟩, ⟨rfl, hE9, h⟩⟩
    ·
     have h := itF h c10
     refine k_seq ?_
     refine k_region ?_
     refine k_eql rfl rfl rfl ?_
     refine k_assign rfl rfl ?_
     refine k_nil ?_
     refine k_keep [(2, _), (3, _), (4, _), (5, _), (14, _), (15, _)] ⟨rfl, rfl, rfl, rfl, rfl, rfl, trivial⟩ ?_
     refine k_cond_dec rfl (fun c12 => ?_) (fun c12 => ?_)
     ·
      have h := itT h c12
      refine k_skip ?_
      refine k_cond_dec rfl (fun c13 => ?_) (fun c13 => ?_)
      ·
       have h := itT h c13
       refine k_exit rfl ?_
       refine k_exit rfl ?_
       exact k_stop ⟨(s5, 0, ([] : List UInt8), [], .slice none 0 0, [], .slice none 0 0), trivial, ⟨rfl, rfl, rfl, rfl, trivial⟩, ⟨rfl, hE6, (R.of_SL (.inl ⟨rfl, none, 0, rfl, fun _ => rfl⟩)), (R.of_SL (.inl ⟨rfl, none, 0, rfl, fun _ => rfl⟩)), h4, h⟩⟩
      ·
       have h := itF h c13
       refine k_skip ?_
       exact k_stop ⟨s5, trivial, ⟨rfl, rfl, rfl, rfl, rfl, trivial⟩, ⟨rfl, hE9, h⟩⟩
     ·
      have h := itF h c12
      refine k_region ?_
      refine k_eql rfl rfl rfl ?_
      refine k_assign rfl rfl ?_
      refine k_nil ?_
      refine k_keep [(2, _), (3, _), (4, _), (5, _), (14, _), (15, _)] ⟨rfl, rfl, rfl, rfl, rfl, rfl, trivial⟩ ?_
      refine k_cond_dec rfl (fun c14 => ?_) (fun c14 => ?_)
      ·
       have h := itT h c14
       refine k_exit rfl ?_
       refine k_exit rfl ?_
       exact k_stop ⟨(s5, 0, ([] : List UInt8), [], .slice none 0 0, [], .slice none 0 0), trivial, ⟨rfl, rfl, rfl, rfl, trivial⟩, ⟨rfl, hE6, (R.of_SL (.inl ⟨rfl, none, 0, rfl, fun _ => rfl⟩)), (R.of_SL (.inl ⟨rfl, none, 0, rfl, fun _ => rfl⟩)), h4, h⟩⟩
      ·
       have h := itF h c14
       refine k_skip ?_
       exact k_stop ⟨s5, trivial, ⟨rfl, rfl, rfl, rfl, rfl, trivial⟩, ⟨rfl, hE9, h⟩⟩
   ·
    rintro s15 wL ⟨rfl, hE9, h⟩
    rw [hK9] at h
    have szs15 := hE9.size
    have hS := hS.trans0 hE9
    have hE6 := hE6.trans0 hE9
    replace hq0_0 := hq0_0.up2 hE9
    replace hq0_1 := hq0_1.up2 hE9
    replace h1 := h1.up2 hE9
    replace h4 := h4.up2 hE9
    refine k_seq ?_
    refine k_seq ?_
    refine k_region ?_
    refine k_eql rfl rfl rfl ?_
    refine k_assign rfl rfl ?_
    refine k_nil ?_
    refine k_keep [(2, _), (3, _), (4, _), (5, _), (14, _), (19, _)] ⟨rfl, rfl, rfl, rfl, rfl, rfl, trivial⟩ ?_
    refine k_cond_dec rfl (fun c16 => ?_) (fun c16 => ?_)
    ·
     have h := itT h c16
     refine k_exit rfl ?_
     refine k_seq ?_
     refine k_region ?_
     refine k_field_addr fld25_1 rfl rfl ?_
     refine k_load_blk one2 rfl h1 rfl rfl ?_
     refine k_field_addr fld25_1 rfl rfl ?_
     refine k_store_c (cs' := [.int .i64 a0.Kind, .int .i64 a0.Num, S ([] : List UInt8), .slice none 0 0, .slice none 0 0]) size2 rfl rfl h4 (by first | (simp; done) | omega | (dsimp only; omega)) (CellsOf.lit rfl rfl) rfl (by first | rfl | (simp; done) | (simp; omega)) rfl ?_
     intro s17 st17 h4
     have szs17 := st17.size
     have hS := hS.c0 st17
     have hE6 := hE6.c0 st17
     refine k_nil ?_
     refine k_keep [(2, _), (3, _), (4, _), (5, _)] ⟨rfl, rfl, rfl, rfl, trivial⟩ ?_
     refine k_exit rfl ?_
     exact k_stop ⟨(s17, a0.Num, ([] : List UInt8), [], .slice none 0 0, [], .slice none 0 0), trivial, ⟨rfl, rfl, rfl, rfl, trivial⟩, ⟨rfl, hE6, (R.of_SL (.inl ⟨rfl, none, 0, rfl, fun _ => rfl⟩)), (R.of_SL (.inl ⟨rfl, none, 0, rfl, fun _ => rfl⟩)), h4, h⟩⟩
    ·
     have h := itF h c16
     refine k_skip ?_
     refine k_seq ?_
     refine k_seq ?_
     refine k_region ?_
     refine k_eql rfl rfl rfl ?_
     refine k_assign rfl rfl ?_
     refine k_nil ?_
     refine k_keep [(2, _), (3, _), (4, _), (5, _), (14, _), (21, _)] ⟨rfl, rfl, rfl, rfl, rfl, rfl, trivial⟩ ?_
     refine k_cond_dec rfl (fun c18 => ?_) (fun c18 => ?_)
     ·
      have h := itT h c18
      refine k_exit rfl ?_
      refine k_seq ?_
      refine k_region ?_
      refine k_field_addr fld25_2 rfl rfl ?_
      refine k_load_blk one9 rfl h1 rfl rfl ?_
      refine k_field_addr fld25_2 rfl rfl ?_
      refine k_store_c (cs' := [.int .i64 a0.Kind, .int .i64 0, S a0.Text, .slice none 0 0, .slice none 0 0]) size9 rfl rfl h4 (by first | (simp; done) | omega | (dsimp only; omega)) (CellsOf.lit rfl rfl) rfl (by first | rfl | (simp; done) | (simp; omega)) rfl ?_
      intro s19 st19 h4
      have szs19 := st19.size
      have hS := hS.c0 st19
      have hE6 := hE6.c0 st19
      refine k_nil ?_
      refine k_keep [(2, _), (3, _), (4, _), (5, _)] ⟨rfl, rfl, rfl, rfl, trivial⟩ ?_
      refine k_exit rfl ?_
      exact k_stop ⟨(s19, 0, a0.Text, [], .slice none 0 0, [], .slice none 0 0), trivial, ⟨rfl, rfl, rfl, rfl, trivial⟩, ⟨rfl, hE6, (R.of_SL (.inl ⟨rfl, none, 0, rfl, fun _ => rfl⟩)), (R.of_SL (.inl ⟨rfl, none, 0, rfl, fun _ => rfl⟩)), h4, h⟩⟩
     ·
      have h := itF h c18
      refine k_skip ?_
      refine k_seq ?_
      refine k_seq ?_
      refine k_region ?_
      refine k_eql rfl rfl rfl ?_
      refine k_assign rfl rfl ?_
      refine k_nil ?_
      refine k_keep [(2, _), (3, _), (4, _), (5, _), (14, _), (23, _)] ⟨rfl, rfl, rfl, rfl, rfl, rfl, trivial⟩ ?_
      refine k_cond_dec rfl (fun c20 => ?_) (fun c20 => ?_)
      ·
       have h := itT h c20
       refine k_exit rfl ?_
       refine k_seq ?_
       refine k_region ?_
       refine k_field_addr fld25_4 rfl rfl ?_
       refine k_load_blk one23 rfl h1 rfl rfl ?_
       refine k_field_addr fld25_4 rfl rfl ?_
       refine k_store_c (cs' := [.int .i64 a0.Kind, .int .i64 0, S ([] : List UInt8), .slice none 0 0, q0_1]) size23 rfl rfl h4 (by first | (simp; done) | omega | (dsimp only; omega)) (CellsOf.sl (SL.of_R hq0_1)) rfl (by first | rfl | (simp; done) | (simp; omega)) rfl ?_
       intro s21 st21 h4
       have szs21 := st21.size
       have hS := hS.c0 st21
       have hE6 := hE6.c0 st21
       replace hq0_1 := hq0_1.up2 st21
       replace hq0_0 := hq0_0.up2 st21
       replace h1 := h1.up2 st21
       refine k_nil ?_
       refine k_keep [(2, _), (3, _), (4, _), (5, _)] ⟨rfl, rfl, rfl, rfl, trivial⟩ ?_
       refine k_seq ?_
       refine k_region ?_
       refine k_field_addr fld25_4 rfl rfl ?_
       refine k_load_blk one23 rfl h1 rfl rfl ?_
       refine k_len Tryd.underlying23 rfl (SL.of_R hq0_1).hasLen rfl ?_
       refine k_as (v := .int .i64 (a0.Keys.length : Int)) (by simp only [List.length_map]) ?_
       refine k_field_addr fld25_3 rfl rfl ?_
       refine k_load_blk one22 rfl h1 rfl rfl ?_
       refine k_len Tryd.underlying22 rfl (SL.of_R hq0_0).hasLen rfl ?_
       refine k_as (v := .int .i64 (a0.List_.length : Int)) (by simp only [List.length_map]) ?_
       refine k_neq rfl rfl rfl ?_
       refine k_nil ?_
       refine k_keep [(2, _), (3, _), (4, _), (5, _), (42, _)] ⟨rfl, rfl, rfl, rfl, rfl, trivial⟩ ?_
       refine k_cond_dec rfl (fun c22 => ?_) (fun c22 => ?_)
       ·
        have h := itT h c22
        refine k_seq ?_
        refine k_region ?_
        refine k_assign rfl rfl ?_
        refine k_nil ?_
        refine k_keep [(2, _), (3, _), (4, _), (5, _)] ⟨rfl, rfl, rfl, rfl, trivial⟩ ?_
        refine k_ret ?_
        obtain rfl := Option.some.inj h
        refine ⟨_, rfl, Ret.mk hS ?_⟩
        exact rfl
       ·
        have h := itF h c22
        refine k_skip ?_
        refine k_blk ?_
        refine k_seq ?_
        refine k_region ?_
        refine k_field_addr fld25_3 rfl rfl ?_
        refine k_load_blk one22 rfl h1 rfl rfl ?_
        refine k_field_addr fld25_3 rfl rfl ?_
        refine k_store_c (cs' := [.int .i64 a0.Kind, .int .i64 0, S ([] : List UInt8), q0_0, q0_1]) size22 rfl rfl h4 (by first | (simp; done) | omega | (dsimp only; omega)) (CellsOf.sl (SL.of_R hq0_0)) rfl (by first | rfl | (simp; done) | (simp; omega)) rfl ?_
        intro s23 st23 h4
        have szs23 := st23.size
        have hS := hS.c0 st23
        have hE6 := hE6.c0 st23
        replace hq0_0 := hq0_0.up2 st23
        replace hq0_1 := hq0_1.up2 st23
        refine k_nil ?_
        refine k_keep [(2, _), (3, _), (4, _), (5, _)] ⟨rfl, rfl, rfl, rfl, trivial⟩ ?_
        refine k_exit rfl ?_
        exact k_stop ⟨(s23, 0, ([] : List UInt8), a0.List_, q0_0, a0.Keys, q0_1), trivial, ⟨rfl, rfl, rfl, rfl, trivial⟩, ⟨rfl, hE6, hq0_0, hq0_1, h4, h⟩⟩
      ·
       have h := itF h c20
       refine k_skip ?_
       refine k_seq ?_
       refine k_region ?_
       refine k_eql rfl rfl rfl ?_
       refine k_assign rfl rfl ?_
       refine k_nil ?_
       refine k_keep [(2, _), (3, _), (4, _), (5, _), (25, _)] ⟨rfl, rfl, rfl, rfl, rfl, trivial⟩ ?_
       refine k_cond_dec rfl (fun c24 => ?_) (fun c24 => ?_)
       ·
        have h := itT h c24
        refine k_exit rfl ?_
        refine k_seq ?_
        refine k_region ?_
        refine k_field_addr fld25_3 rfl rfl ?_
        refine k_load_blk one22 rfl h1 rfl rfl ?_
        refine k_field_addr fld25_3 rfl rfl ?_
        refine k_store_c (cs' := [.int .i64 a0.Kind, .int .i64 0, S ([] : List UInt8), q0_0, .slice none 0 0]) size22 rfl rfl h4 (by first | (simp; done) | omega | (dsimp only; omega)) (CellsOf.sl (SL.of_R hq0_0)) rfl (by first | rfl | (simp; done) | (simp; omega)) rfl ?_
        intro s25 st25 h4
        have szs25 := st25.size
        have hS := hS.c0 st25
        have hE6 := hE6.c0 st25
        replace hq0_0 := hq0_0.up2 st25
        refine k_nil ?_
        refine k_keep [(2, _), (3, _), (4, _), (5, _)] ⟨rfl, rfl, rfl, rfl, trivial⟩ ?_
        refine k_exit rfl ?_
        exact k_stop ⟨(s25, 0, ([] : List UInt8), a0.List_, q0_0, [], .slice none 0 0), trivial, ⟨rfl, rfl, rfl, rfl, trivial⟩, ⟨rfl, hE6, hq0_0, (R.of_SL (.inl ⟨rfl, none, 0, rfl, fun _ => rfl⟩)), h4, h⟩⟩
       ·
        have h := itF h c24
        refine k_skip ?_
        refine k_exit rfl ?_
        refine k_seq ?_
        refine k_seq ?_
        refine k_region ?_
        refine k_assign rfl rfl ?_
        refine k_nil ?_
        refine k_keep [(2, _), (3, _), (4, _), (5, _)] ⟨rfl, rfl, rfl, rfl, trivial⟩ ?_
        refine k_ret ?_
        obtain rfl := Option.some.inj h
        refine ⟨_, rfl, Ret.mk hS ?_⟩
        exact rfl
  ·
   rintro ⟨s26, x2, x3, x4, v7, x5, v8⟩ wL ⟨rfl, hE6, h7, h8, h4, h⟩
   rw [hK6] at h
   have szs26 := hE6.size
   have hS := hS.c0 hE6
   replace hq0_0 := hq0_0.up2 hE6
   replace hq0_1 := hq0_1.up2 hE6
   replace h1 := h1.up2 hE6
   replace h2 := h2.up2 hE6
   refine k_seq ?_
   refine k_seq ?_
   refine k_region ?_
   refine k_field_addr fld25_1 rfl rfl ?_
   refine k_load_blk one2 rfl h1 rfl rfl ?_
   refine k_field_addr fld25_1 rfl rfl ?_
   refine k_load_blk one2 rfl h4 rfl rfl ?_
   refine k_neq rfl rfl rfl ?_
   refine k_move rfl rfl ?_
   have hE27 := Step.r0 K0 s26
   refine k_cutl (X := St) 6 [(2, .pointer (some ⟨b1, 0, none⟩)), (3, .pointer (some ⟨b2, 0, none⟩)), (4, .bool false), (5, .pointer (some ⟨b4, 0, none⟩)), (46, .pointer (some ⟨b1, 1, none⟩)), (47, .int .i64 a0.Num), (48, .pointer (some ⟨b4, 1, none⟩)), (49, .int .i64 x2), (50, .bool (decide (a0.Num ≠ x2)))] (fun _ => [(57, .bool (decide ((a0.Num ≠ x2) ∨ (a0.Text ≠ x3))))]) (fun sl wL => sl.w = wL ∧ Step K0 s26 sl) ?_ ?_
   ·
    refine k_again 51 rfl ?_
    refine k_split (fun c28 => ?_) (fun c28 => ?_)
    ·
     refine k_no rfl rfl rfl rfl ?_
     refine k_no rfl rfl rfl rfl ?_
     refine k_no rfl rfl rfl rfl ?_
     refine k_no rfl rfl rfl rfl ?_
     refine k_no rfl rfl rfl rfl ?_
     refine k_pickT rfl rfl rfl rfl ?_
     exact k_met ⟨s26, ⟨(congrArg (fun b => some (Value.bool b)) (by first | exact decide_eq_decide.2 ⟨Or.inr, fun h => h.resolve_left c28⟩ | exact (decide_eq_true (Or.inl c28)).symm | (simp [c28]; done) | (simp [c28, i64] <;> omega))), trivial⟩, ⟨rfl, rfl, rfl, rfl, rfl, rfl, rfl, rfl, rfl, trivial⟩, rfl, hE27⟩
    ·
     refine k_yes rfl rfl ?_
     refine k_field_addr fld25_2 rfl rfl ?_
     refine k_yes rfl rfl ?_
     refine k_load_blk one9 rfl h1 rfl rfl ?_
     refine k_yes rfl rfl ?_
     refine k_field_addr fld25_2 rfl rfl ?_
     refine k_yes rfl rfl ?_
     refine k_load_blk one9 rfl h4 rfl rfl ?_
     refine k_yes rfl rfl ?_
     refine k_neq_str rfl rfl rfl ?_
     refine k_pickF rfl rfl rfl rfl ?_
     exact k_met ⟨s26, ⟨(congrArg (fun b => some (Value.bool b)) (by first | exact decide_eq_decide.2 ⟨Or.inr, fun h => h.resolve_left c28⟩ | exact (decide_eq_true (Or.inl c28)).symm | (simp [c28]; done) | (simp [c28, i64] <;> omega))), trivial⟩, ⟨rfl, rfl, rfl, rfl, rfl, rfl, rfl, rfl, rfl, trivial⟩, rfl, hE27⟩
   ·
    rintro s29 wL ⟨rfl, hE27⟩
    have szs29 := hE27.size
    have hS := hS.trans0 hE27
    replace hq0_0 := hq0_0.up2 hE27
    replace hq0_1 := hq0_1.up2 hE27
    replace h1 := h1.up2 hE27
    replace h2 := h2.up2 hE27
    replace h7 := h7.up2 hE27
    replace h8 := h8.up2 hE27
    replace h4 := h4.up2 hE27
    refine k_move rfl rfl ?_
    have hE30 := Step.r0 K0 s29
    refine k_cutl (X := St) 8 [(2, .pointer (some ⟨b1, 0, none⟩)), (3, .pointer (some ⟨b2, 0, none⟩)), (4, .bool false), (5, .pointer (some ⟨b4, 0, none⟩)), (46, .pointer (some ⟨b1, 1, none⟩)), (47, .int .i64 a0.Num), (48, .pointer (some ⟨b4, 1, none⟩)), (49, .int .i64 x2), (50, .bool (decide (a0.Num ≠ x2))), (57, .bool (decide ((a0.Num ≠ x2) ∨ (a0.Text ≠ x3))))] (fun _ => [(66, .bool (decide (((a0.Num ≠ x2) ∨ (a0.Text ≠ x3)) ∨ ((a0.Keys.length : Int) ≠ (x5.length : Int)))))]) (fun sl wL => sl.w = wL ∧ Step K0 s29 sl) ?_ ?_
    ·
     refine k_again 58 rfl ?_
     refine k_split (fun c31 => ?_) (fun c31 => ?_)
     ·
      refine k_no rfl rfl rfl rfl ?_
      refine k_no rfl rfl rfl rfl ?_
      refine k_no rfl rfl rfl rfl ?_
      refine k_no rfl rfl rfl rfl ?_
      refine k_no rfl rfl rfl rfl ?_
      refine k_no rfl rfl rfl rfl ?_
      refine k_no rfl rfl rfl rfl ?_
      refine k_pickT rfl rfl rfl rfl ?_
      exact k_met ⟨s29, ⟨(congrArg (fun b => some (Value.bool b)) (by first | exact decide_eq_decide.2 ⟨Or.inr, fun h => h.resolve_left c31⟩ | exact (decide_eq_true (Or.inl c31)).symm | (simp [c31]; done) | (simp [c31, i64] <;> omega))), trivial⟩, ⟨rfl, rfl, rfl, rfl, rfl, rfl, rfl, rfl, rfl, rfl, trivial⟩, rfl, hE30⟩
     ·
      refine k_yes rfl rfl ?_
      refine k_field_addr fld25_4 rfl rfl ?_
      refine k_yes rfl rfl ?_
      refine k_load_blk one23 rfl h1 rfl rfl ?_
      refine k_yes rfl rfl ?_
      refine k_len Tryd.underlying23 rfl (SL.of_R hq0_1).hasLen rfl ?_
      refine k_as (v := .int .i64 (a0.Keys.length : Int)) (by simp only [List.length_map]) ?_
      refine k_yes rfl rfl ?_
      refine k_field_addr fld25_4 rfl rfl ?_
      refine k_yes rfl rfl ?_
      refine k_load_blk one23 rfl h4 rfl rfl ?_
      refine k_yes rfl rfl ?_
      refine k_len Tryd.underlying23 rfl (SL.of_R h8).hasLen rfl ?_
      refine k_as (v := .int .i64 (x5.length : Int)) (by simp only [List.length_map]) ?_
      refine k_yes rfl rfl ?_
      refine k_neq rfl rfl rfl ?_
      refine k_pickF rfl rfl rfl rfl ?_
      exact k_met ⟨s29, ⟨(congrArg (fun b => some (Value.bool b)) (by first | exact decide_eq_decide.2 ⟨Or.inr, fun h => h.resolve_left c31⟩ | exact (decide_eq_true (Or.inl c31)).symm | (simp [c31]; done) | (simp [c31, i64] <;> omega))), trivial⟩, ⟨rfl, rfl, rfl, rfl, rfl, rfl, rfl, rfl, rfl, rfl, trivial⟩, rfl, hE30⟩
    ·
     rintro s32 wL ⟨rfl, hE30⟩
     have szs32 := hE30.size
     have hS := hS.trans0 hE30
     replace hq0_0 := hq0_0.up2 hE30
     replace hq0_1 := hq0_1.up2 hE30
     replace h1 := h1.up2 hE30
     replace h2 := h2.up2 hE30
     replace h7 := h7.up2 hE30
     replace h4 := h4.up2 hE30
     refine k_move rfl rfl ?_
     have hE33 := Step.r0 K0 s32
     refine k_cutl (X := St) 8 [(2, .pointer (some ⟨b1, 0, none⟩)), (3, .pointer (some ⟨b2, 0, none⟩)), (4, .bool false), (5, .pointer (some ⟨b4, 0, none⟩)), (46, .pointer (some ⟨b1, 1, none⟩)), (47, .int .i64 a0.Num), (48, .pointer (some ⟨b4, 1, none⟩)), (49, .int .i64 x2), (50, .bool (decide (a0.Num ≠ x2))), (57, .bool (decide ((a0.Num ≠ x2) ∨ (a0.Text ≠ x3)))), (66, .bool (decide (((a0.Num ≠ x2) ∨ (a0.Text ≠ x3)) ∨ ((a0.Keys.length : Int) ≠ (x5.length : Int)))))] (fun _ => [(75, .bool (decide ((((a0.Num ≠ x2) ∨ (a0.Text ≠ x3)) ∨ ((a0.Keys.length : Int) ≠ (x5.length : Int))) ∨ ((a0.List_.length : Int) ≠ (x4.length : Int)))))]) (fun sl wL => sl.w = wL ∧ Step K0 s32 sl) ?_ ?_
     ·
      refine k_again 67 rfl ?_
      refine k_split (fun c34 => ?_) (fun c34 => ?_)
      ·
       refine k_no rfl rfl rfl rfl ?_
       refine k_no rfl rfl rfl rfl ?_
       refine k_no rfl rfl rfl rfl ?_
       refine k_no rfl rfl rfl rfl ?_
       refine k_no rfl rfl rfl rfl ?_
       refine k_no rfl rfl rfl rfl ?_
       refine k_no rfl rfl rfl rfl ?_
       refine k_pickT rfl rfl rfl rfl ?_
       exact k_met ⟨s32, ⟨(congrArg (fun b => some (Value.bool b)) (by first | exact decide_eq_decide.2 ⟨Or.inr, fun h => h.resolve_left c34⟩ | exact (decide_eq_true (Or.inl c34)).symm | (simp [c34]; done) | (simp [c34, i64] <;> omega))), trivial⟩, ⟨rfl, rfl, rfl, rfl, rfl, rfl, rfl, rfl, rfl, rfl, rfl, trivial⟩, rfl, hE33⟩
      ·
       refine k_yes rfl rfl ?_
       refine k_field_addr fld25_3 rfl rfl ?_
       refine k_yes rfl rfl ?_
       refine k_load_blk one22 rfl h1 rfl rfl ?_
       refine k_yes rfl rfl ?_
       refine k_len Tryd.underlying22 rfl (SL.of_R hq0_0).hasLen rfl ?_
       refine k_as (v := .int .i64 (a0.List_.length : Int)) (by simp only [List.length_map]) ?_
       refine k_yes rfl rfl ?_
       refine k_field_addr fld25_3 rfl rfl ?_
       refine k_yes rfl rfl ?_
       refine k_load_blk one22 rfl h4 rfl rfl ?_
       refine k_yes rfl rfl ?_
       refine k_len Tryd.underlying22 rfl (SL.of_R h7).hasLen rfl ?_
       refine k_as (v := .int .i64 (x4.length : Int)) (by simp only [List.length_map]) ?_
       refine k_yes rfl rfl ?_
       refine k_neq rfl rfl rfl ?_
       refine k_pickF rfl rfl rfl rfl ?_
       exact k_met ⟨s32, ⟨(congrArg (fun b => some (Value.bool b)) (by first | exact decide_eq_decide.2 ⟨Or.inr, fun h => h.resolve_left c34⟩ | exact (decide_eq_true (Or.inl c34)).symm | (simp [c34]; done) | (simp [c34, i64] <;> omega))), trivial⟩, ⟨rfl, rfl, rfl, rfl, rfl, rfl, rfl, rfl, rfl, rfl, rfl, trivial⟩, rfl, hE33⟩
     ·
      rintro s35 wL ⟨rfl, hE33⟩
      have szs35 := hE33.size
      have hS := hS.trans0 hE33
      replace hq0_0 := hq0_0.up2 hE33
      replace hq0_1 := hq0_1.up2 hE33
      replace h1 := h1.up2 hE33
      replace h2 := h2.up2 hE33
      refine k_move rfl rfl ?_
      obtain ⟨x7, hx7, h⟩ := ob h
      have hE36 := Step.r0 K0 s35
      refine k_cutl (X := St) 5 [(2, .pointer (some ⟨b1, 0, none⟩)), (3, .pointer (some ⟨b2, 0, none⟩)), (4, .bool false), (5, .pointer (some ⟨b4, 0, none⟩)), (46, .pointer (some ⟨b1, 1, none⟩)), (47, .int .i64 a0.Num), (48, .pointer (some ⟨b4, 1, none⟩)), (49, .int .i64 x2), (50, .bool (decide (a0.Num ≠ x2))), (57, .bool (decide ((a0.Num ≠ x2) ∨ (a0.Text ≠ x3)))), (66, .bool (decide (((a0.Num ≠ x2) ∨ (a0.Text ≠ x3)) ∨ ((a0.Keys.length : Int) ≠ (x5.length : Int))))), (75, .bool (decide ((((a0.Num ≠ x2) ∨ (a0.Text ≠ x3)) ∨ ((a0.Keys.length : Int) ≠ (x5.length : Int))) ∨ ((a0.List_.length : Int) ≠ (x4.length : Int)))))] (fun _ => [(81, .bool x7)]) (fun sl wL => sl.w = wL ∧ Step K0 s35 sl) ?_ ?_
      ·
       refine k_again 76 rfl ?_
       refine k_split (fun c37 => ?_) (fun c37 => ?_)
       ·
        have hx7 := itT hx7 c37
        refine k_no rfl rfl rfl rfl ?_
        refine k_no rfl rfl rfl rfl ?_
        refine k_no rfl rfl rfl rfl ?_
        refine k_no rfl rfl rfl rfl ?_
        refine k_pickT rfl rfl rfl rfl ?_
        exact k_met ⟨s35, ⟨(congrArg (fun b => some (Value.bool b)) (Option.some.inj hx7)), trivial⟩, ⟨rfl, rfl, rfl, rfl, rfl, rfl, rfl, rfl, rfl, rfl, rfl, rfl, trivial⟩, rfl, hE36⟩
       ·
        have hx7 := itF hx7 c37
        refine k_yes rfl rfl ?_
        refine k_field_addr fld25_2 rfl rfl ?_
        refine k_yes rfl rfl ?_
        refine k_load_blk one9 rfl h1 rfl rfl ?_
        refine k_yes rfl rfl ?_
        obtain ⟨x8, hx8, hx7⟩ := ob hx7
        refine k_call cal26 rfl (value_plain_w   hx8) rfl ?_
        rintro s38 vr38 st38 rfl
        have szs38 := st38.size
        have hS := hS.trans0 st38
        have hE36 := hE36.trans0 st38
        refine k_yes rfl rfl ?_
        refine k_not rfl rfl ?_
        refine k_pickF rfl rfl rfl rfl ?_
        exact k_met ⟨s38, ⟨(congrArg (fun b => some (Value.bool b)) (Option.some.inj hx7)), trivial⟩, ⟨rfl, rfl, rfl, rfl, rfl, rfl, rfl, rfl, rfl, rfl, rfl, rfl, trivial⟩, rfl, hE36⟩
      ·
       rintro s39 wL ⟨rfl, hE36⟩
       have szs39 := hE36.size
       have hS := hS.trans0 hE36
       replace hq0_0 := hq0_0.up2 hE36
       replace hq0_1 := hq0_1.up2 hE36
       replace h1 := h1.up2 hE36
       replace h2 := h2.up2 hE36
       refine k_nil ?_
       refine k_keep [(2, _), (3, _), (4, _), (81, _)] ⟨rfl, rfl, rfl, rfl, trivial⟩ ?_
       refine k_cond rfl (fun c40 => ?_) (fun c40 => ?_)
       ·
        have h := ibT h c40
        refine k_seq ?_
        refine k_region ?_
        refine k_assign rfl rfl ?_
        refine k_nil ?_
        refine k_keep [(2, _), (3, _), (4, _)] ⟨rfl, rfl, rfl, trivial⟩ ?_
        refine k_ret ?_
        obtain rfl := Option.some.inj h
        refine ⟨_, rfl, Ret.mk hS ?_⟩
        exact rfl
       ·
        have h := ibF h c40
        refine k_skip ?_
        refine k_seq ?_
        refine k_keep [(2, _), (3, _), (4, _)] ⟨rfl, rfl, rfl, trivial⟩ ?_
        obtain ⟨kj9, hK41, h⟩ := jn_out h
        have hE41 := Step.r0 K0 s39
        refine k_cutc (X := St) [(2, .pointer (some ⟨b1, 0, none⟩)), (3, .pointer (some ⟨b2, 0, none⟩)), (4, .bool false)] (fun (xL : St) => match xL with | sl => []) (fun (xL : St) (wL : World) => match xL with | sl => sl.w = wL ∧ Step K0 s39 sl ∧ kj9 () = some r) ?_ ?_
        ·
         refine k_seq ?_
         refine k_region ?_
         refine k_field_addr fld25_4 rfl rfl ?_
         refine k_load_blk one23 rfl h1 rfl rfl ?_
         refine k_len Tryd.underlying23 rfl (SL.of_R hq0_1).hasLen rfl ?_
         refine k_as (v := .int .i64 (a0.Keys.length : Int)) (by simp only [List.length_map]) ?_
         refine k_move rfl rfl ?_
         refine k_nil ?_
         refine k_keep [(2, _), (3, _), (4, _), (83, _), (84, _), (85, _)] ⟨rfl, rfl, rfl, rfl, rfl, rfl, trivial⟩ ?_
         refine k_block ?_
         refine k_loopc (X := St × Int × Nat) [(2, _), (3, _), (4, _), (83, _), (84, _)] (fun (xL : St × Int × Nat) => match xL with | (sl, x10, j) => [(85, .int .i64 x10)]) (fun (xL : St × Int × Nat) (wL : World) => match xL with | (sl, x10, j) => sl.w = wL ∧ Step K0 s39 sl ∧ value_shaped_s_l1 a0 kj9 j x10 = some r) (fun (xL : St × Int × Nat) => match xL with | (sl, x10, j) => j) (s39, 0, FU) ⟨rfl, rfl, rfl, rfl, rfl, trivial⟩ ⟨(by first | rfl | (simp <;> rfl)), trivial⟩ ⟨rfl, (Step.refl _).of0 (by first | exact fun _ h => h | (intro c h; simp [KC, KO, KU, KN, KB] at h <;> omega)), h⟩ ?_
         rintro ⟨s43, x10, j⟩ wL ⟨rfl, hE42, h⟩
         cases j with
         | zero => rw [value_shaped_s_l1] at h; exact (noneNe h).elim
         | succ j =>
         rw [value_shaped_s_l1] at h
         have szs43 := hE42.size
         have hS := hS.trans0 hE42
         have hE41 := hE41.trans0 hE42
         replace hq0_1 := hq0_1.up2 hE42
         replace h1 := h1.up2 hE42
         refine k_seq ?_
         refine k_region ?_
         refine k_lss rfl rfl rfl ?_
         refine k_nil ?_
         refine k_seq ?_
         refine k_cond_dec rfl (fun c44 => ?_) (fun c44 => ?_)
         ·
          have h := itT h c44
          refine k_skip ?_
          refine k_seq ?_
          refine k_block ?_
          refine k_seq ?_
          refine k_region ?_
          refine k_move rfl rfl ?_
          obtain ⟨x11, hx11, h⟩ := ob h
          refine k_ixaddr Tryd.underlying23 size9 rfl rfl (SL.of_R hq0_1) (geti_out hx11).1 (geti_map hx11) rfl ?_
          intro qx11 hqx11
          refine k_load_val one9 rfl hqx11 rfl ?_
          refine k_assign rfl rfl ?_
          refine k_assign rfl rfl ?_
          refine k_nil ?_
          refine k_keep [(2, _), (3, _), (4, _), (6, _), (7, _), (83, _), (84, _), (85, _)] ⟨rfl, rfl, rfl, rfl, rfl, rfl, rfl, rfl, trivial⟩ ?_
          refine k_seq ?_
          refine k_region ?_
          refine k_move rfl rfl ?_
          obtain ⟨x12, hx12, h⟩ := ob h
          refine k_call cal27 rfl (value_key_w   hx12) rfl ?_
          rintro s45 vr45 st45 rfl
          have szs45 := st45.size
          have hS := hS.trans0 st45
          have hE41 := hE41.trans0 st45
          have hE42 := hE42.trans0 st45
          replace hq0_1 := hq0_1.up2 st45
          replace h1 := h1.up2 st45
          refine k_not rfl rfl ?_
          refine k_move rfl rfl ?_
          obtain ⟨x13, hx13, h⟩ := ob h
          have hE46 := Step.r0 K0 s45
          refine k_cutl (X := St) 13 [(2, .pointer (some ⟨b1, 0, none⟩)), (3, .pointer (some ⟨b2, 0, none⟩)), (4, .bool false), (6, .int .i64 x10), (7, S x11), (83, q0_1), (84, .int .i64 (a0.Keys.length : Int)), (85, .int .i64 x10), (90, S x11), (91, .bool x12), (92, .bool (!x12))] (fun _ => [(106, .bool x13)]) (fun sl wL => sl.w = wL ∧ Step K0 s45 sl) ?_ ?_
          ·
           refine k_again 93 rfl ?_
           refine k_splitb (fun c47 => ?_) (fun c47 => ?_)
           ·
            have hx13 := ibT hx13 c47
            refine k_no rfl rfl rfl rfl ?_
            refine k_no rfl rfl rfl rfl ?_
            refine k_no rfl rfl rfl rfl ?_
            refine k_nou rfl rfl rfl rfl ?_
            refine k_nou rfl rfl rfl rfl ?_
            refine k_nou rfl rfl rfl rfl ?_
            refine k_nou rfl rfl rfl rfl ?_
            refine k_nou rfl rfl rfl rfl ?_
            refine k_nou rfl rfl rfl rfl ?_
            refine k_nou rfl rfl rfl rfl ?_
            refine k_nou rfl rfl rfl rfl ?_
            refine k_no rfl rfl rfl rfl ?_
            refine k_pickT rfl rfl rfl rfl ?_
            exact k_met ⟨s45, ⟨(congrArg (fun b => some (Value.bool b)) (Option.some.inj hx13)), trivial⟩, ⟨rfl, rfl, rfl, rfl, rfl, rfl, rfl, rfl, rfl, rfl, rfl, trivial⟩, rfl, hE46⟩
           ·
            have hx13 := ibF hx13 c47
            refine k_yes rfl rfl ?_
            refine k_move rfl rfl ?_
            refine k_yes rfl rfl ?_
            refine k_gtr rfl rfl rfl ?_
            refine k_yes rfl rfl ?_
            refine k_move rfl rfl ?_
            obtain ⟨x14, hx14, hx13⟩ := ob hx13
            have hE48 := Step.r0 K0 s45
            refine k_cutl (X := St) 9 [(2, .pointer (some ⟨b1, 0, none⟩)), (3, .pointer (some ⟨b2, 0, none⟩)), (4, .bool false), (6, .int .i64 x10), (7, S x11), (83, q0_1), (84, .int .i64 (a0.Keys.length : Int)), (85, .int .i64 x10), (90, S x11), (91, .bool x12), (92, .bool (!x12)), (93, .bool false), (94, .int .i64 x10), (95, .bool (decide (0 < x10)))] (fun _ => [(105, .bool x14)]) (fun sl wL => sl.w = wL ∧ Step K0 s45 sl) ?_ ?_
            ·
             refine k_again 96 rfl ?_
             refine k_split (fun c49 => ?_) (fun c49 => ?_)
             ·
              have hx14 := itT hx14 c49
              refine k_yes rfl rfl ?_
              refine k_field_addr fld25_4 rfl rfl ?_
              refine k_yes rfl rfl ?_
              refine k_load_blk one23 rfl h1 rfl rfl ?_
              refine k_yes rfl rfl ?_
              refine k_move rfl rfl ?_
              refine k_yes rfl rfl ?_
              refine k_sub_ rfl rfl rfl ?_
              refine k_yes rfl rfl ?_
              obtain ⟨x15, hx15, hx14⟩ := ob hx14
              refine k_ixaddr Tryd.underlying23 size9 rfl rfl (SL.of_R hq0_1) (geti_out hx15).1 (geti_map hx15) rfl ?_
              intro qx15 hqx15
              refine k_yes rfl rfl ?_
              refine k_load_val one9 rfl hqx15 rfl ?_
              refine k_yes rfl rfl ?_
              refine k_move rfl rfl ?_
              refine k_yes rfl rfl ?_
              refine k_geq_str rfl rfl rfl ?_
              refine k_yes rfl rfl ?_
              refine k_pickT rfl rfl rfl rfl ?_
              exact k_met ⟨s45, ⟨(congrArg (fun b => some (Value.bool b)) (Option.some.inj hx14)), trivial⟩, ⟨rfl, rfl, rfl, rfl, rfl, rfl, rfl, rfl, rfl, rfl, rfl, rfl, rfl, rfl, trivial⟩, rfl, hE48⟩
             ·
              have hx14 := itF hx14 c49
              refine k_no rfl rfl rfl rfl ?_
              refine k_no rfl rfl rfl rfl ?_
              refine k_no rfl rfl rfl rfl ?_
              refine k_no rfl rfl rfl rfl ?_
              refine k_no rfl rfl rfl rfl ?_
              refine k_no rfl rfl rfl rfl ?_
              refine k_no rfl rfl rfl rfl ?_
              refine k_no rfl rfl rfl rfl ?_
              refine k_yes rfl rfl ?_
              refine k_pickF rfl rfl rfl rfl ?_
              exact k_met ⟨s45, ⟨(congrArg (fun b => some (Value.bool b)) (Option.some.inj hx14)), trivial⟩, ⟨rfl, rfl, rfl, rfl, rfl, rfl, rfl, rfl, rfl, rfl, rfl, rfl, rfl, rfl, trivial⟩, rfl, hE48⟩
            ·
             rintro s50 wL ⟨rfl, hE48⟩
             have szs50 := hE48.size
             have hS := hS.trans0 hE48
             have hE41 := hE41.trans0 hE48
             have hE42 := hE42.trans0 hE48
             have hE46 := hE46.trans0 hE48
             refine k_pickF rfl rfl rfl rfl ?_
             exact k_met ⟨s50, ⟨(congrArg (fun b => some (Value.bool b)) (Option.some.inj hx13)), trivial⟩, ⟨rfl, rfl, rfl, rfl, rfl, rfl, rfl, rfl, rfl, rfl, rfl, trivial⟩, rfl, hE46⟩
          ·
           rintro s51 wL ⟨rfl, hE46⟩
           have szs51 := hE46.size
           have hS := hS.trans0 hE46
           have hE41 := hE41.trans0 hE46
           have hE42 := hE42.trans0 hE46
           refine k_nil ?_
           refine k_keep [(2, _), (3, _), (4, _), (83, _), (84, _), (85, _), (106, _)] ⟨rfl, rfl, rfl, rfl, rfl, rfl, rfl, trivial⟩ ?_
           refine k_cond rfl (fun c52 => ?_) (fun c52 => ?_)
           ·
            have h := ibT h c52
            refine k_seq ?_
            refine k_region ?_
            refine k_assign rfl rfl ?_
            refine k_nil ?_
            refine k_keep [(2, _), (3, _), (4, _), (83, _), (84, _), (85, _)] ⟨rfl, rfl, rfl, rfl, rfl, rfl, trivial⟩ ?_
            refine k_ret ?_
            obtain rfl := Option.some.inj h
            refine ⟨_, rfl, Ret.mk hS ?_⟩
            exact rfl
           ·
            have h := ibF h c52
            refine k_skip ?_
            refine k_blk ?_
            refine k_region ?_
            refine k_add rfl rfl rfl ?_
            refine k_move rfl rfl ?_
            refine k_nil ?_
            exact k_stop ⟨(s51, i64 (x10 + 1), j), ⟨(by first | rfl | (simp <;> rfl)), trivial⟩, ⟨rfl, rfl, rfl, rfl, rfl, trivial⟩, ⟨rfl, hE42, h⟩, (by simp)⟩
         ·
          have h := itF h c44
          refine k_exit rfl ?_
          exact k_stop ⟨s43, trivial, ⟨rfl, rfl, rfl, trivial⟩, ⟨rfl, hE41, h⟩⟩
        ·
         rintro s53 wL ⟨rfl, hE41, h⟩
         rw [hK41] at h
         have szs53 := hE41.size
         have hS := hS.trans0 hE41
         replace hq0_0 := hq0_0.up2 hE41
         replace h1 := h1.up2 hE41
         replace h2 := h2.up2 hE41
         refine k_seq ?_
         refine k_region ?_
         refine k_field_addr fld25_3 rfl rfl ?_
         refine k_load_blk one22 rfl h1 rfl rfl ?_
         refine k_makeFunc rfl rfl rfl ?_
         obtain ⟨x16, hx16, h⟩ := ob h
         refine k_call cal28 rfl (slices_ContainsFunc_api_Value_api_Value_c29_w  (SL.of_R hq0_0) (show BoxR s53 b2 3 (dI64 a1) from ⟨_, h2, RC.val _ rfl⟩) ih70 hx16) rfl ?_
         rintro s54 vr54 st54 rfl
         have szs54 := st54.size
         have hS := hS.trans0 st54
         refine k_not rfl rfl ?_
         refine k_assign rfl rfl ?_
         refine k_nil ?_
         refine k_keep [(4, _)] ⟨rfl, trivial⟩ ?_
         refine k_ret ?_
         obtain rfl := Option.some.inj h
         refine ⟨_, rfl, Ret.mk hS ?_⟩
         exact rfl
theorem value_shaped_rw (j : Nat) : ∀ {s : St} {cs0 : List Value} {a0 : ApiValue} {a1 : Int} {r : Bool} (hp0 : RC s cs0 (dApiValue a0)) (h : value_shaped_r j a0 a1 = some r), Calls Tryd.prog 14 #[.agg cs0.toArray, .int .i64 a1] s.w (Ret s K0 (fun s1 v => v = .bool r)) := by
 induction j with
 | zero => intro s cs0 a0 a1 r hp0 h; rw [value_shaped_r] at h; exact (noneNe h).elim
 | succ j ih => intro s cs0 a0 a1 r hp0 h; rw [value_shaped_r] at h; exact value_shaped_s_w hp0 ih h
theorem value_shaped_w {s : St} {cs0 : List Value} {a0 : ApiValue} {a1 : Int} {r : Bool} (hp0 : RC s cs0 (dApiValue a0)) (h : value_shaped a0 a1 = some r) : Calls Tryd.prog 14 #[.agg cs0.toArray, .int .i64 a1] s.w (Ret s K0 (fun s1 v => v = .bool r)) := value_shaped_rw (FU + (dpApiValue a0)) hp0 h

set_option maxHeartbeats 1000000 in
set_option maxRecDepth 100000 in
theorem strconv_AppendUint_w {s : St} {l0 : Lab} {v0 : Value} {a0 : (List UInt8)} {a1 : UInt64} {a2 : Int} {r : (List UInt8)} (hp0 : Own s l0 5 1 v0 (a0.map bD)) (hlle0 : l0.o ≤ s.n) (tb2 : Tab2 s) (h : strconv_AppendUint a0 a1 a2 = some r) : Calls Tryd.prog 50 #[v0, .int .u64 (a1.toNat : Int), .int .i64 a2] s.w (Ret s (KC l0.o l0.c) (fun s1 v => ∃ (u0 : Value), v = u0 ∧ R s1 u0 (.sl 1 (r.map bD)))) := by
 unfold strconv_AppendUint at h
 have lp0 := Own.le1 hp0
 have hS := Step.r0 (KC l0.o l0.c) s
 refine k_fn (rs := [6]) (args := [v0, .int .u64 (a1.toNat : Int), .int .i64 a2]) Tryd.func50 rfl rfl rfl rfl ?_
 refine k_seq ?_
 refine k_region ?_
 refine k_assign rfl rfl ?_
 refine k_nil ?_
 refine k_seq ?_
 refine k_seq ?_
 refine k_region ?_
 refine k_move rfl rfl ?_
 refine k_eql rfl rfl rfl ?_
 refine k_nil ?_
 refine k_keep [(0, _), (1, _), (2, _), (6, _), (10, _)] ⟨rfl, rfl, rfl, rfl, rfl, trivial⟩ ?_
 refine k_cond_dec rfl (fun c1 => ?_) (fun c1 => ?_)
 ·
  have h := itT h c1
  refine k_seq ?_
  refine k_seq ?_
  refine k_region ?_
  refine k_move rfl rfl ?_
  refine k_lss rfl rfl rfl ?_
  refine k_nil ?_
  refine k_keep [(0, _), (1, _), (2, _), (6, _), (12, _)] ⟨rfl, rfl, rfl, rfl, rfl, trivial⟩ ?_
  refine k_cond_dec rfl (fun c2 => ?_) (fun c2 => ?_)
  ·
   have h := itT h c2
   refine k_seq ?_
   refine k_region ?_
   refine k_move rfl rfl ?_
   refine k_move rfl rfl ?_
   refine k_conv (p := (a1.toNat : Int)) Tryd.underlying81 Tryd.underlying3 rfl rfl ?_
   by_cases c3 : 0 ≤ i64 (a1.toNat : Int) ∧ i64 (a1.toNat : Int) < 100
   case neg => exact (noneNe (itF h c3)).elim
   replace h := itT h c3
   refine k_call cal65 rfl (small_w (a0 := (i64 (a1.toNat : Int))) c3) rfl ?_
   rintro s4 _ st4 rfl
   have szs4 := st4.size
   have hS := hS.trans0 st4
   replace hp0 := hp0.up2 st4
   obtain ⟨x1, hx1, h⟩ := ob h
   refine k_append_str elem37 rfl rfl Tryd.underlying9 rfl rfl hp0 (by have := (app_out hx1).1; simp only [List.length_map]; omega) rfl ?_
   intro s5 v5 st5 h5
   rw [← List.map_append, ← (app_out hx1).2] at h5
   have szs5 := st5.size
   have hS := hS.c0 st5
   refine k_assign rfl rfl ?_
   refine k_nil ?_
   refine k_keep [(0, _), (1, _), (2, _), (6, _)] ⟨rfl, rfl, rfl, rfl, trivial⟩ ?_
   refine k_ret ?_
   obtain ⟨s6, e6, st6, h6⟩ := h5.freeze
   rw [← e6]
   have szs6 := st6.size
   have hS := hS.c0 st6
   obtain rfl := Option.some.inj h
   refine ⟨_, rfl, Ret.mk hS ?_⟩
   exact ⟨_, rfl, h6⟩
  ·
   have h := itF h c2
   refine k_skip ?_
   refine k_seq ?_
   refine k_region ?_
   refine k_alloc zero94 rfl ?_
   intro s7 b7 st7 h7 ge7
   have szs7 := st7.size
   have hS := hS.trans0 st7
   replace hp0 := hp0.up2 st7
   replace tb2 := tb2.up2 st7
   have lt7 := h7.lt
   refine k_nil ?_
   refine k_keep [(0, _), (1, _), (2, _), (6, _), (7, _)] ⟨rfl, rfl, rfl, rfl, rfl, trivial⟩ ?_
   refine k_seq ?_
   refine k_region ?_
   refine k_move rfl rfl ?_
   by_cases c8 : 1 ≤ a1.toNat
   case neg => exact (noneNe (itF h c8)).elim
   replace h := itT h c8
   refine k_call cal66 rfl (numDigits_w (a0 := a1) tb2 c8) rfl ?_
   rintro s9 _ st9 rfl
   have szs9 := st9.size
   have hS := hS.trans0 st9
   replace hp0 := hp0.up2 st9
   replace h7 := h7.up2 st9
   refine k_assign rfl rfl ?_
   refine k_nil ?_
   refine k_keep [(0, _), (1, _), (2, _), (6, _), (7, _), (8, _)] ⟨rfl, rfl, rfl, rfl, rfl, rfl, trivial⟩ ?_
   refine k_seq ?_
   refine k_region ?_
   refine k_move rfl rfl ?_
   by_cases c11 : 0 ≤ ((decF 30 a1.toNat).length : Int) ∧ ((decF 30 a1.toNat).length : Int) ≤ 24
   case neg => exact (noneNe (itF h c11)).elim
   replace h := itT h c11
   have hj10 : (((decF 30 a1.toNat).length : Int) : Int).toNat ≤ (List.replicate 24 (0 : UInt8)).length := by have hq : (List.replicate 24 (0 : UInt8)).length = 24 := (List.length_replicate); omega
   refine k_cut_rowx (g := bD) (xs := (List.replicate 24 (0 : UInt8))) (j := (((decF 30 a1.toNat).length : Int) : Int).toNat) cB (fun _ => rfl) (fun _ => rfl) arr94 rfl h7 (List.length_replicate) (CutAt.int rfl c11.1) (by omega) rfl ?_
   intro h12
   refine k_move rfl rfl ?_
   by_cases c14 : (decF 30 a1.toNat).length = (((decF 30 a1.toNat).length : Int) : Int).toNat ∧ (((decF 30 a1.toNat).length : Int) : Int).toNat < 1000
   case neg => exact (noneNe (itF h c14)).elim
   replace h := itT h c14
   refine k_call cal67 rfl (fmt10_w (xs := (List.replicate 24 (0 : UInt8))) (a1 := a1) h7 (by first | (simp; done) | omega | (dsimp only; omega)) hj10 c14) rfl ?_
   rintro s13 _ st13 ⟨rfl, h7⟩
   have hl13 : (decF 30 a1.toNat ++ (List.replicate 24 (0 : UInt8)).drop (((decF 30 a1.toNat).length : Int) : Int).toNat).length = 24 := by have hq := hj10; have hq2 : (List.replicate 24 (0 : UInt8)).length = 24 := (List.length_replicate); rw [List.length_append, List.length_drop, c14.1]; omega
   have szs13 := st13.size
   have hS := hS.c0 st13
   replace hp0 := hp0.up2 st13
   refine k_nil ?_
   refine k_keep [(0, _), (1, _), (2, _), (6, _), (7, _), (8, _)] ⟨rfl, rfl, rfl, rfl, rfl, rfl, trivial⟩ ?_
   refine k_seq ?_
   refine k_region ?_
   refine k_move rfl rfl ?_
   refine k_move rfl rfl ?_
   by_cases c16 : 0 ≤ ((decF 30 a1.toNat).length : Int) ∧ ((decF 30 a1.toNat).length : Int) ≤ 24
   case neg => exact (noneNe (itF h c16)).elim
   replace h := itT h c16
   have hj15 : (((decF 30 a1.toNat).length : Int) : Int).toNat ≤ (decF 30 a1.toNat ++ (List.replicate 24 (0 : UInt8)).drop (((decF 30 a1.toNat).length : Int) : Int).toNat).length := by have hq : (decF 30 a1.toNat ++ (List.replicate 24 (0 : UInt8)).drop (((decF 30 a1.toNat).length : Int) : Int).toNat).length = 24 := hl13; omega
   refine k_cut_rowx (g := bD) (xs := (decF 30 a1.toNat ++ (List.replicate 24 (0 : UInt8)).drop (((decF 30 a1.toNat).length : Int) : Int).toNat)) (j := (((decF 30 a1.toNat).length : Int) : Int).toNat) cB (fun _ => rfl) (fun _ => rfl) arr94 rfl h7 hl13 (CutAt.int rfl c16.1) (by omega) rfl ?_
   intro h17
   obtain ⟨x2, hx2, h⟩ := ob h
   refine k_append (es := ((decF 30 a1.toNat ++ (List.replicate 24 (0 : UInt8)).drop (((decF 30 a1.toNat).length : Int) : Int).toNat).take (((decF 30 a1.toNat).length : Int) : Int).toNat).map bD) elem37 rfl rfl hp0 h17 (by have := (app_out hx2).1; simp only [List.length_map] at *; omega) (by have := (app_out hx2).1; simp only [List.length_map] at *; omega) rfl ?_
   intro s18 v18 st18 h18
   rw [← List.map_append, ← (app_out hx2).2] at h18
   have szs18 := st18.size
   have hS := hS.c0 st18
   refine k_assign rfl rfl ?_
   refine k_nil ?_
   refine k_keep [(0, _), (1, _), (2, _), (6, _)] ⟨rfl, rfl, rfl, rfl, trivial⟩ ?_
   refine k_ret ?_
   obtain ⟨s19, e19, st19, h19⟩ := h18.freeze
   rw [← e19]
   have szs19 := st19.size
   have hS := hS.c0 st19
   obtain rfl := Option.some.inj h
   refine ⟨_, rfl, Ret.mk hS ?_⟩
   exact ⟨_, rfl, h19⟩
 ·
  have h := itF h c1
  refine k_skip ?_
  refine k_seq ?_
  refine k_region ?_
  refine k_move rfl rfl ?_
  refine k_move rfl rfl ?_
  refine k_move rfl rfl ?_
  by_cases c20 : (0 : Nat) = 1
  case neg => exact (noneNe (itF h c20)).elim
  replace h := itT h c20
  refine k_call cal68 rfl (show Calls Tryd.prog 68 #[v0, .int .u64 (a1.toNat : Int), .int .i64 a2, .bool false, .bool true] s.w (Ret s K0 (fun _ v => v = .tuple #[v0, S ([] : List UInt8)])) from absurd c20 (by decide)) rfl ?_
  rintro s21 _ st21 rfl
  have szs21 := st21.size
  have hS := hS.trans0 st21
  replace hp0 := hp0.up2 st21
  refine k_move rfl rfl ?_
  refine k_extract rfl rfl rfl ?_
  refine k_extract rfl rfl rfl ?_
  refine k_assign rfl rfl ?_
  refine k_nil ?_
  refine k_keep [(0, _), (6, _)] ⟨rfl, rfl, trivial⟩ ?_
  refine k_seq ?_
  refine k_region ?_
  refine k_move rfl rfl ?_
  refine k_assign rfl rfl ?_
  refine k_nil ?_
  refine k_keep [(6, _)] ⟨rfl, trivial⟩ ?_
  refine k_ret ?_
  obtain ⟨s22, e22, st22, h22⟩ := hp0.freeze
  rw [← e22]
  have szs22 := st22.size
  have hS := hS.c0 st22
  obtain rfl := Option.some.inj h
  refine ⟨_, rfl, Ret.mk hS ?_⟩
  exact ⟨_, rfl, h22⟩

set_option maxHeartbeats 1000000 in
set_option maxRecDepth 100000 in
theorem value_quoted_own_w {s : St} {l0 : Lab} {v0 : Value} {a0 : (List UInt8)} {a1 : (List UInt8)} {r : (List UInt8)} (hp0 : Own s l0 5 1 v0 (a0.map bD)) (hlle0 : l0.o ≤ s.n) (h : value_quoted a0 a1 = some r) : Calls Tryd.prog 19 #[v0, S a1] s.w (Ret s (KC l0.o l0.c) (fun s1 v => ∃ (u0 : Value), v = u0 ∧ Own s1 l0 5 1 u0 (r.map bD))) := by
 unfold value_quoted at h
 have lp0 := Own.le1 hp0
 have hS := Step.r0 (KC l0.o l0.c) s
 refine k_fn (rs := [4]) (args := [v0, S a1]) Tryd.func19 rfl rfl rfl rfl ?_
 refine k_seq ?_
 refine k_region ?_
 refine k_assign rfl rfl ?_
 refine k_nil ?_
 refine k_seq ?_
 refine k_region ?_
 refine k_move rfl rfl ?_
 refine k_bslice2 (ds := ([(34 : UInt8)] : List UInt8).map bD) slc37 rfl (RVs.cons (R.val rfl) RVs.nil) (by rfl) (by rfl) rfl rfl ?_
 intro s1 v1 b1 st1 ge1 bl1 h1
 have szs1 := st1.size
 have hS := hS.trans0 st1
 replace hp0 := hp0.up2 st1
 have lt1 := Own.le1 h1
 obtain ⟨x1, hx1, h⟩ := ob h
 refine k_append (es := ([(34 : UInt8)] : List UInt8).map bD) elem37 rfl rfl hp0 (h1.sl) (by have := (app_out hx1).1; simp only [List.length_map] at *; omega) (by have := (app_out hx1).1; simp only [List.length_map] at *; omega) rfl ?_
 intro s2 v2 st2 h2
 rw [← List.map_append, ← (app_out hx1).2] at h2
 have szs2 := st2.size
 have hS := hS.c0 st2
 refine k_assign rfl rfl ?_
 refine k_nil ?_
 refine k_keep [(0, _), (1, _), (4, _)] ⟨rfl, rfl, rfl, trivial⟩ ?_
 refine k_seq ?_
 obtain ⟨kj2, hK3, h⟩ := jn_out h
 have hE3 := Step.r0 (KC l0.o l0.c) s2
 refine k_cutc (X := St × (List UInt8) × Value) [(4, .slice none 0 0)] (fun (xL : St × (List UInt8) × Value) => match xL with | (sl, x3, v4) => [(0, v4)]) (fun (xL : St × (List UInt8) × Value) (wL : World) => match xL with | (sl, x3, v4) => sl.w = wL ∧ Step (KC l0.o l0.c) s2 sl ∧ (Own sl ⟨l0.o, l0.c⟩ 5 1 v4 (x3.map bD)) ∧ kj2 x3 = some r) ?_ ?_
 ·
  refine k_seq ?_
  refine k_region ?_
  refine k_move rfl rfl ?_
  refine k_len_str Tryd.underlying9 rfl rfl ?_
  refine k_move rfl rfl ?_
  refine k_nil ?_
  refine k_keep [(0, _), (1, _), (4, _), (10, _), (11, _)] ⟨rfl, rfl, rfl, rfl, rfl, trivial⟩ ?_
  refine k_block ?_
  refine k_loopc (X := St × (List UInt8) × Value × Int × Nat) [(1, _), (4, _), (10, _)] (fun (xL : St × (List UInt8) × Value × Int × Nat) => match xL with | (sl, x4, v6, x5, j) => [(0, v6), (11, .int .i64 x5)]) (fun (xL : St × (List UInt8) × Value × Int × Nat) (wL : World) => match xL with | (sl, x4, v6, x5, j) => sl.w = wL ∧ Step (KC l0.o l0.c) s2 sl ∧ (Own sl ⟨l0.o, l0.c⟩ 5 1 v6 (x4.map bD)) ∧ value_quoted_l1 a1 kj2 j x4 x5 = some r) (fun (xL : St × (List UInt8) × Value × Int × Nat) => match xL with | (sl, x4, v6, x5, j) => j) (s2, x1, v2, 0, FU) ⟨rfl, rfl, rfl, trivial⟩ ⟨(by first | rfl | (simp <;> rfl)), (by first | rfl | (simp <;> rfl)), trivial⟩ ⟨rfl, (Step.refl _).of0 (by first | exact fun _ h => h | (intro c h; simp [KC, KO, KU, KN, KB] at h <;> omega)), h2, h⟩ ?_
  rintro ⟨s7, x4, v6, x5, j⟩ wL ⟨rfl, hE5, h6, h⟩
  cases j with
  | zero => rw [value_quoted_l1] at h; exact (noneNe h).elim
  | succ j =>
  rw [value_quoted_l1] at h
  have szs7 := hE5.size
  have hS := hS.c0 hE5
  have hE3 := hE3.c0 hE5
  refine k_seq ?_
  refine k_region ?_
  refine k_lss rfl rfl rfl ?_
  refine k_nil ?_
  refine k_seq ?_
  refine k_cond_dec rfl (fun c8 => ?_) (fun c8 => ?_)
  ·
   have h := itT h c8
   refine k_skip ?_
   refine k_seq ?_
   refine k_block ?_
   refine k_seq ?_
   refine k_region ?_
   refine k_move rfl rfl ?_
   refine k_assign rfl rfl ?_
   refine k_nil ?_
   refine k_keep [(0, _), (1, _), (4, _), (5, _), (10, _), (11, _)] ⟨rfl, rfl, rfl, rfl, rfl, rfl, trivial⟩ ?_
   refine k_seq ?_
   obtain ⟨kj6, hK9, h⟩ := jn_out h
   have hE9 := Step.r0 (KC l0.o l0.c) s7
   refine k_cutc (X := St × (List UInt8) × Value) [(1, S a1), (4, .slice none 0 0), (5, .int .i64 x5), (10, .int .i64 (a1.length : Int)), (11, .int .i64 x5)] (fun (xL : St × (List UInt8) × Value) => match xL with | (sl, x7, v10) => [(0, v10)]) (fun (xL : St × (List UInt8) × Value) (wL : World) => match xL with | (sl, x7, v10) => sl.w = wL ∧ Step (KC l0.o l0.c) s7 sl ∧ (Own sl ⟨l0.o, l0.c⟩ 5 1 v10 (x7.map bD)) ∧ kj6 x7 = some r) ?_ ?_
   ·
    refine k_seq ?_
    refine k_region ?_
    refine k_move rfl rfl ?_
    refine k_move rfl rfl ?_
    obtain ⟨x8, hx8, h⟩ := ob h
    refine k_index_str Tryd.underlying9 rfl rfl (geti_out hx8).1 (geti_out hx8).2.1 rfl ?_
    refine k_as (congrArg (fun c : UInt8 => Value.int .u8 (c.toNat : Int)) (geti_getD hx8)) ?_
    refine k_eql rfl rfl rfl ?_
    refine k_move rfl rfl ?_
    obtain ⟨x9, hx9, h⟩ := ob h
    have hE11 := Step.r0 K0 s7
    refine k_cutl (X := St) 5 [(0, v6), (1, S a1), (4, .slice none 0 0), (5, .int .i64 x5), (10, .int .i64 (a1.length : Int)), (11, .int .i64 x5), (14, S a1), (15, .int .i64 x5), (16, .int .u8 (x8.toNat : Int)), (17, .bool (decide ((x8.toNat : Int) = 34)))] (fun _ => [(23, .bool x9)]) (fun sl wL => sl.w = wL ∧ Step K0 s7 sl) ?_ ?_
    ·
     refine k_again 18 rfl ?_
     refine k_split (fun c12 => ?_) (fun c12 => ?_)
     ·
      have hx9 := itT hx9 c12
      refine k_no rfl rfl rfl rfl ?_
      refine k_no rfl rfl rfl rfl ?_
      refine k_no rfl rfl rfl rfl ?_
      refine k_no rfl rfl rfl rfl ?_
      refine k_pickT rfl rfl rfl rfl ?_
      exact k_met ⟨s7, ⟨(congrArg (fun b => some (Value.bool b)) (Option.some.inj hx9)), trivial⟩, ⟨rfl, rfl, rfl, rfl, rfl, rfl, rfl, rfl, rfl, rfl, trivial⟩, rfl, hE11⟩
     ·
      have hx9 := itF hx9 c12
      refine k_yes rfl rfl ?_
      refine k_move rfl rfl ?_
      refine k_yes rfl rfl ?_
      refine k_move rfl rfl ?_
      refine k_yes rfl rfl ?_
      obtain ⟨x10, hx10, hx9⟩ := ob hx9
      refine k_index_str Tryd.underlying9 rfl rfl (geti_out hx10).1 (geti_out hx10).2.1 rfl ?_
      refine k_as (congrArg (fun c : UInt8 => Value.int .u8 (c.toNat : Int)) (geti_getD hx10)) ?_
      refine k_yes rfl rfl ?_
      refine k_eql rfl rfl rfl ?_
      refine k_pickF rfl rfl rfl rfl ?_
      exact k_met ⟨s7, ⟨(congrArg (fun b => some (Value.bool b)) (Option.some.inj hx9)), trivial⟩, ⟨rfl, rfl, rfl, rfl, rfl, rfl, rfl, rfl, rfl, rfl, trivial⟩, rfl, hE11⟩
    ·
     rintro s13 wL ⟨rfl, hE11⟩
     have szs13 := hE11.size
     have hS := hS.trans0 hE11
     have hE3 := hE3.trans0 hE11
     have hE5 := hE5.trans0 hE11
     have hE9 := hE9.trans0 hE11
     replace h6 := h6.up2 hE11
     refine k_nil ?_
     refine k_keep [(0, _), (1, _), (4, _), (5, _), (10, _), (11, _), (23, _)] ⟨rfl, rfl, rfl, rfl, rfl, rfl, rfl, trivial⟩ ?_
     refine k_cond rfl (fun c14 => ?_) (fun c14 => ?_)
     ·
      have h := ibT h c14
      refine k_region ?_
      refine k_move rfl rfl ?_
      refine k_bslice2 (ds := ([(92 : UInt8)] : List UInt8).map bD) slc37 rfl (RVs.cons (R.val rfl) RVs.nil) (by rfl) (by rfl) rfl rfl ?_
      intro s15 v15 b15 st15 ge15 bl15 h15
      have szs15 := st15.size
      have hS := hS.trans0 st15
      have hE3 := hE3.trans0 st15
      have hE5 := hE5.trans0 st15
      have hE9 := hE9.trans0 st15
      replace h6 := h6.up2 st15
      have lt15 := Own.le1 h15
      obtain ⟨x11, hx11, h⟩ := ob h
      refine k_append (es := ([(92 : UInt8)] : List UInt8).map bD) elem37 rfl rfl h6 (h15.sl) (by have := (app_out hx11).1; simp only [List.length_map] at *; omega) (by have := (app_out hx11).1; simp only [List.length_map] at *; omega) rfl ?_
      intro s16 v16 st16 h16
      rw [← List.map_append, ← (app_out hx11).2] at h16
      have szs16 := st16.size
      have hS := hS.c0 st16
      have hE3 := hE3.c0 st16
      have hE5 := hE5.c0 st16
      have hE9 := hE9.c0 st16
      refine k_assign rfl rfl ?_
      refine k_nil ?_
      exact k_stop ⟨(s16, x11, v16), ⟨(by first | rfl | (simp <;> rfl)), trivial⟩, ⟨rfl, rfl, rfl, rfl, rfl, trivial⟩, ⟨rfl, hE9, h16, h⟩⟩
     ·
      have h := ibF h c14
      refine k_skip ?_
      exact k_stop ⟨(s13, x4, v6), ⟨(by first | rfl | (simp <;> rfl)), trivial⟩, ⟨rfl, rfl, rfl, rfl, rfl, trivial⟩, ⟨rfl, hE9, h6, h⟩⟩
   ·
    rintro ⟨s17, x7, v10⟩ wL ⟨rfl, hE9, h10, h⟩
    rw [hK9] at h
    have szs17 := hE9.size
    have hS := hS.c0 hE9
    have hE3 := hE3.c0 hE9
    have hE5 := hE5.c0 hE9
    refine k_region ?_
    refine k_move rfl rfl ?_
    refine k_move rfl rfl ?_
    refine k_move rfl rfl ?_
    obtain ⟨x12, hx12, h⟩ := ob h
    refine k_index_str Tryd.underlying9 rfl rfl (geti_out hx12).1 (geti_out hx12).2.1 rfl ?_
    refine k_as (congrArg (fun c : UInt8 => Value.int .u8 (c.toNat : Int)) (geti_getD hx12)) ?_
    refine k_bslice2 (ds := ([x12] : List UInt8).map bD) slc37 rfl (RVs.cons (R.val rfl) RVs.nil) (by rfl) (by rfl) rfl rfl ?_
    intro s18 v18 b18 st18 ge18 bl18 h18
    have szs18 := st18.size
    have hS := hS.trans0 st18
    have hE3 := hE3.trans0 st18
    have hE5 := hE5.trans0 st18
    replace h10 := h10.up2 st18
    have lt18 := Own.le1 h18
    obtain ⟨x13, hx13, h⟩ := ob h
    refine k_append (es := ([x12] : List UInt8).map bD) elem37 rfl rfl h10 (h18.sl) (by have := (app_out hx13).1; simp only [List.length_map] at *; omega) (by have := (app_out hx13).1; simp only [List.length_map] at *; omega) rfl ?_
    intro s19 v19 st19 h19
    rw [← List.map_append, ← (app_out hx13).2] at h19
    have szs19 := st19.size
    have hS := hS.c0 st19
    have hE3 := hE3.c0 st19
    have hE5 := hE5.c0 st19
    refine k_assign rfl rfl ?_
    refine k_nil ?_
    refine k_blk ?_
    refine k_region ?_
    refine k_add rfl rfl rfl ?_
    refine k_move rfl rfl ?_
    refine k_nil ?_
    exact k_stop ⟨(s19, x13, v19, i64 (x5 + 1), j), ⟨(by first | rfl | (simp <;> rfl)), (by first | rfl | (simp <;> rfl)), trivial⟩, ⟨rfl, rfl, rfl, trivial⟩, ⟨rfl, hE5, h19, h⟩, (by simp)⟩
  ·
   have h := itF h c8
   refine k_exit rfl ?_
   exact k_stop ⟨(s7, x4, v6), ⟨(by first | rfl | (simp <;> rfl)), trivial⟩, ⟨rfl, trivial⟩, ⟨rfl, hE3, h6, h⟩⟩
 ·
  rintro ⟨s20, x3, v4⟩ wL ⟨rfl, hE3, h4, h⟩
  rw [hK3] at h
  have szs20 := hE3.size
  have hS := hS.c0 hE3
  refine k_seq ?_
  refine k_region ?_
  refine k_move rfl rfl ?_
  refine k_bslice2 (ds := ([(34 : UInt8)] : List UInt8).map bD) slc37 rfl (RVs.cons (R.val rfl) RVs.nil) (by rfl) (by rfl) rfl rfl ?_
  intro s21 v21 b21 st21 ge21 bl21 h21
  have szs21 := st21.size
  have hS := hS.trans0 st21
  replace h4 := h4.up2 st21
  have lt21 := Own.le1 h21
  obtain ⟨x14, hx14, h⟩ := ob h
  refine k_append (es := ([(34 : UInt8)] : List UInt8).map bD) elem37 rfl rfl h4 (h21.sl) (by have := (app_out hx14).1; simp only [List.length_map] at *; omega) (by have := (app_out hx14).1; simp only [List.length_map] at *; omega) rfl ?_
  intro s22 v22 st22 h22
  rw [← List.map_append, ← (app_out hx14).2] at h22
  have szs22 := st22.size
  have hS := hS.c0 st22
  refine k_assign rfl rfl ?_
  refine k_nil ?_
  refine k_keep [(4, _)] ⟨rfl, trivial⟩ ?_
  refine k_ret ?_
  obtain rfl := Option.some.inj h
  refine ⟨_, rfl, Ret.mk hS ?_⟩
  exact ⟨_, rfl, h22⟩

set_option maxHeartbeats 1000000 in
set_option maxRecDepth 100000 in
theorem strconv_AppendUint_own_w {s : St} {l0 : Lab} {v0 : Value} {a0 : (List UInt8)} {a1 : UInt64} {a2 : Int} {r : (List UInt8)} (hp0 : Own s l0 5 1 v0 (a0.map bD)) (hlle0 : l0.o ≤ s.n) (tb2 : Tab2 s) (h : strconv_AppendUint a0 a1 a2 = some r) : Calls Tryd.prog 50 #[v0, .int .u64 (a1.toNat : Int), .int .i64 a2] s.w (Ret s (KC l0.o l0.c) (fun s1 v => ∃ (u0 : Value), v = u0 ∧ Own s1 l0 5 1 u0 (r.map bD))) := by
 unfold strconv_AppendUint at h
 have lp0 := Own.le1 hp0
 have hS := Step.r0 (KC l0.o l0.c) s
 refine k_fn (rs := [6]) (args := [v0, .int .u64 (a1.toNat : Int), .int .i64 a2]) Tryd.func50 rfl rfl rfl rfl ?_
 refine k_seq ?_
 refine k_region ?_
 refine k_assign rfl rfl ?_
 refine k_nil ?_
 refine k_seq ?_
 refine k_seq ?_
 refine k_region ?_
 refine k_move rfl rfl ?_
 refine k_eql rfl rfl rfl ?_
 refine k_nil ?_
 refine k_keep [(0, _), (1, _), (2, _), (6, _), (10, _)] ⟨rfl, rfl, rfl, rfl, rfl, trivial⟩ ?_
 refine k_cond_dec rfl (fun c1 => ?_) (fun c1 => ?_)
 ·
  have h := itT h c1
  refine k_seq ?_
  refine k_seq ?_
  refine k_region ?_
  refine k_move rfl rfl ?_
  refine k_lss rfl rfl rfl ?_
  refine k_nil ?_
  refine k_keep [(0, _), (1, _), (2, _), (6, _), (12, _)] ⟨rfl, rfl, rfl, rfl, rfl, trivial⟩ ?_
  refine k_cond_dec rfl (fun c2 => ?_) (fun c2 => ?_)
  ·
   have h := itT h c2
   refine k_seq ?_
   refine k_region ?_
   refine k_move rfl rfl ?_
   refine k_move rfl rfl ?_
   refine k_conv (p := (a1.toNat : Int)) Tryd.underlying81 Tryd.underlying3 rfl rfl ?_
   by_cases c3 : 0 ≤ i64 (a1.toNat : Int) ∧ i64 (a1.toNat : Int) < 100
   case neg => exact (noneNe (itF h c3)).elim
   replace h := itT h c3
   refine k_call cal65 rfl (small_w (a0 := (i64 (a1.toNat : Int))) c3) rfl ?_
   rintro s4 _ st4 rfl
   have szs4 := st4.size
   have hS := hS.trans0 st4
   replace hp0 := hp0.up2 st4
   obtain ⟨x1, hx1, h⟩ := ob h
   refine k_append_str elem37 rfl rfl Tryd.underlying9 rfl rfl hp0 (by have := (app_out hx1).1; simp only [List.length_map]; omega) rfl ?_
   intro s5 v5 st5 h5
   rw [← List.map_append, ← (app_out hx1).2] at h5
   have szs5 := st5.size
   have hS := hS.c0 st5
   refine k_assign rfl rfl ?_
   refine k_nil ?_
   refine k_keep [(0, _), (1, _), (2, _), (6, _)] ⟨rfl, rfl, rfl, rfl, trivial⟩ ?_
   refine k_ret ?_
   obtain rfl := Option.some.inj h
   refine ⟨_, rfl, Ret.mk hS ?_⟩
   exact ⟨_, rfl, h5⟩
  ·
   have h := itF h c2
   refine k_skip ?_
   refine k_seq ?_
   refine k_region ?_
   refine k_alloc zero94 rfl ?_
   intro s6 b6 st6 h6 ge6
   have szs6 := st6.size
   have hS := hS.trans0 st6
   replace hp0 := hp0.up2 st6
   replace tb2 := tb2.up2 st6
   have lt6 := h6.lt
   refine k_nil ?_
   refine k_keep [(0, _), (1, _), (2, _), (6, _), (7, _)] ⟨rfl, rfl, rfl, rfl, rfl, trivial⟩ ?_
   refine k_seq ?_
   refine k_region ?_
   refine k_move rfl rfl ?_
   by_cases c7 : 1 ≤ a1.toNat
   case neg => exact (noneNe (itF h c7)).elim
   replace h := itT h c7
   refine k_call cal66 rfl (numDigits_w (a0 := a1) tb2 c7) rfl ?_
   rintro s8 _ st8 rfl
   have szs8 := st8.size
   have hS := hS.trans0 st8
   replace hp0 := hp0.up2 st8
   replace h6 := h6.up2 st8
   refine k_assign rfl rfl ?_
   refine k_nil ?_
   refine k_keep [(0, _), (1, _), (2, _), (6, _), (7, _), (8, _)] ⟨rfl, rfl, rfl, rfl, rfl, rfl, trivial⟩ ?_
   refine k_seq ?_
   refine k_region ?_
   refine k_move rfl rfl ?_
   by_cases c10 : 0 ≤ ((decF 30 a1.toNat).length : Int) ∧ ((decF 30 a1.toNat).length : Int) ≤ 24
   case neg => exact (noneNe (itF h c10)).elim
   replace h := itT h c10
   have hj9 : (((decF 30 a1.toNat).length : Int) : Int).toNat ≤ (List.replicate 24 (0 : UInt8)).length := by have hq : (List.replicate 24 (0 : UInt8)).length = 24 := (List.length_replicate); omega
   refine k_cut_rowx (g := bD) (xs := (List.replicate 24 (0 : UInt8))) (j := (((decF 30 a1.toNat).length : Int) : Int).toNat) cB (fun _ => rfl) (fun _ => rfl) arr94 rfl h6 (List.length_replicate) (CutAt.int rfl c10.1) (by omega) rfl ?_
   intro h11
   refine k_move rfl rfl ?_
   by_cases c13 : (decF 30 a1.toNat).length = (((decF 30 a1.toNat).length : Int) : Int).toNat ∧ (((decF 30 a1.toNat).length : Int) : Int).toNat < 1000
   case neg => exact (noneNe (itF h c13)).elim
   replace h := itT h c13
   refine k_call cal67 rfl (fmt10_w (xs := (List.replicate 24 (0 : UInt8))) (a1 := a1) h6 (by first | (simp; done) | omega | (dsimp only; omega)) hj9 c13) rfl ?_
   rintro s12 _ st12 ⟨rfl, h6⟩
   have hl12 : (decF 30 a1.toNat ++ (List.replicate 24 (0 : UInt8)).drop (((decF 30 a1.toNat).length : Int) : Int).toNat).length = 24 := by have hq := hj9; have hq2 : (List.replicate 24 (0 : UInt8)).length = 24 := (List.length_replicate); rw [List.length_append, List.length_drop, c13.1]; omega
   have szs12 := st12.size
   have hS := hS.c0 st12
   replace hp0 := hp0.up2 st12
   refine k_nil ?_
   refine k_keep [(0, _), (1, _), (2, _), (6, _), (7, _), (8, _)] ⟨rfl, rfl, rfl, rfl, rfl, rfl, trivial⟩ ?_
   refine k_seq ?_
   refine k_region ?_
   refine k_move rfl rfl ?_
   refine k_move rfl rfl ?_
   by_cases c15 : 0 ≤ ((decF 30 a1.toNat).length : Int) ∧ ((decF 30 a1.toNat).length : Int) ≤ 24
   case neg => exact (noneNe (itF h c15)).elim
   replace h := itT h c15
   have hj14 : (((decF 30 a1.toNat).length : Int) : Int).toNat ≤ (decF 30 a1.toNat ++ (List.replicate 24 (0 : UInt8)).drop (((decF 30 a1.toNat).length : Int) : Int).toNat).length := by have hq : (decF 30 a1.toNat ++ (List.replicate 24 (0 : UInt8)).drop (((decF 30 a1.toNat).length : Int) : Int).toNat).length = 24 := hl12; omega
   refine k_cut_rowx (g := bD) (xs := (decF 30 a1.toNat ++ (List.replicate 24 (0 : UInt8)).drop (((decF 30 a1.toNat).length : Int) : Int).toNat)) (j := (((decF 30 a1.toNat).length : Int) : Int).toNat) cB (fun _ => rfl) (fun _ => rfl) arr94 rfl h6 hl12 (CutAt.int rfl c15.1) (by omega) rfl ?_
   intro h16
   obtain ⟨x2, hx2, h⟩ := ob h
   refine k_append (es := ((decF 30 a1.toNat ++ (List.replicate 24 (0 : UInt8)).drop (((decF 30 a1.toNat).length : Int) : Int).toNat).take (((decF 30 a1.toNat).length : Int) : Int).toNat).map bD) elem37 rfl rfl hp0 h16 (by have := (app_out hx2).1; simp only [List.length_map] at *; omega) (by have := (app_out hx2).1; simp only [List.length_map] at *; omega) rfl ?_
   intro s17 v17 st17 h17
   rw [← List.map_append, ← (app_out hx2).2] at h17
   have szs17 := st17.size
   have hS := hS.c0 st17
   refine k_assign rfl rfl ?_
   refine k_nil ?_
   refine k_keep [(0, _), (1, _), (2, _), (6, _)] ⟨rfl, rfl, rfl, rfl, trivial⟩ ?_
   refine k_ret ?_
   obtain rfl := Option.some.inj h
   refine ⟨_, rfl, Ret.mk hS ?_⟩
   exact ⟨_, rfl, h17⟩
 ·
  have h := itF h c1
  refine k_skip ?_
  refine k_seq ?_
  refine k_region ?_
  refine k_move rfl rfl ?_
  refine k_move rfl rfl ?_
  refine k_move rfl rfl ?_
  by_cases c18 : (0 : Nat) = 1
  case neg => exact (noneNe (itF h c18)).elim
  replace h := itT h c18
  refine k_call cal68 rfl (show Calls Tryd.prog 68 #[v0, .int .u64 (a1.toNat : Int), .int .i64 a2, .bool false, .bool true] s.w (Ret s K0 (fun _ v => v = .tuple #[v0, S ([] : List UInt8)])) from absurd c18 (by decide)) rfl ?_
  rintro s19 _ st19 rfl
  have szs19 := st19.size
  have hS := hS.trans0 st19
  replace hp0 := hp0.up2 st19
  refine k_move rfl rfl ?_
  refine k_extract rfl rfl rfl ?_
  refine k_extract rfl rfl rfl ?_
  refine k_assign rfl rfl ?_
  refine k_nil ?_
  refine k_keep [(0, _), (6, _)] ⟨rfl, rfl, trivial⟩ ?_
  refine k_seq ?_
  refine k_region ?_
  refine k_move rfl rfl ?_
  refine k_assign rfl rfl ?_
  refine k_nil ?_
  refine k_keep [(6, _)] ⟨rfl, trivial⟩ ?_
  refine k_ret ?_
  obtain rfl := Option.some.inj h
  refine ⟨_, rfl, Ret.mk hS ?_⟩
  exact ⟨_, rfl, hp0⟩

set_option maxHeartbeats 1000000 in
set_option maxRecDepth 100000 in
theorem strconv_AppendInt_own_w {s : St} {l0 : Lab} {v0 : Value} {a0 : (List UInt8)} {a1 : Int} {a2 : Int} {r : (List UInt8)} (hp0 : Own s l0 5 1 v0 (a0.map bD)) (hlle0 : l0.o ≤ s.n) (tb2 : Tab2 s) (h : strconv_AppendInt a0 a1 a2 = some r) : Calls Tryd.prog 36 #[v0, .int .i64 a1, .int .i64 a2] s.w (Ret s (KC l0.o l0.c) (fun s1 v => ∃ (u0 : Value), v = u0 ∧ Own s1 l0 5 1 u0 (r.map bD))) := by
 unfold strconv_AppendInt at h
 have lp0 := Own.le1 hp0
 have hS := Step.r0 (KC l0.o l0.c) s
 refine k_fn (rs := [6]) (args := [v0, .int .i64 a1, .int .i64 a2]) Tryd.func36 rfl rfl rfl rfl ?_
 refine k_seq ?_
 refine k_region ?_
 refine k_assign rfl rfl ?_
 refine k_nil ?_
 refine k_seq ?_
 refine k_region ?_
 refine k_move rfl rfl ?_
 refine k_conv (p := a1) Tryd.underlying2 Tryd.underlying81 rfl rfl ?_
 refine k_as (congrArg (Value.int .u64) (w64 _)) ?_
 refine k_assign rfl rfl ?_
 refine k_nil ?_
 refine k_keep [(0, _), (1, _), (2, _), (6, _), (7, _)] ⟨rfl, rfl, rfl, rfl, rfl, trivial⟩ ?_
 refine k_seq ?_
 refine k_seq ?_
 refine k_region ?_
 refine k_move rfl rfl ?_
 refine k_lss rfl rfl rfl ?_
 refine k_nil ?_
 refine k_keep [(0, _), (2, _), (6, _), (7, _), (11, _)] ⟨rfl, rfl, rfl, rfl, rfl, trivial⟩ ?_
 refine k_cond_dec rfl (fun c1 => ?_) (fun c1 => ?_)
 ·
  have h := itT h c1
  refine k_seq ?_
  refine k_region ?_
  refine k_move rfl rfl ?_
  refine k_bslice2 (ds := ([(45 : UInt8)] : List UInt8).map bD) slc37 rfl (RVs.cons (R.val rfl) RVs.nil) (by rfl) (by rfl) rfl rfl ?_
  intro s2 v2 b2 st2 ge2 bl2 h2
  have szs2 := st2.size
  have hS := hS.trans0 st2
  replace hp0 := hp0.up2 st2
  replace tb2 := tb2.up2 st2
  have lt2 := Own.le1 h2
  obtain ⟨x1, hx1, h⟩ := ob h
  refine k_append (es := ([(45 : UInt8)] : List UInt8).map bD) elem37 rfl rfl hp0 (h2.sl) (by have := (app_out hx1).1; simp only [List.length_map] at *; omega) (by have := (app_out hx1).1; simp only [List.length_map] at *; omega) rfl ?_
  intro s3 v3 st3 h3
  rw [← List.map_append, ← (app_out hx1).2] at h3
  have szs3 := st3.size
  have hS := hS.c0 st3
  replace tb2 := tb2.up2 st3
  refine k_assign rfl rfl ?_
  refine k_nil ?_
  refine k_keep [(0, _), (2, _), (6, _), (7, _)] ⟨rfl, rfl, rfl, rfl, trivial⟩ ?_
  refine k_region ?_
  refine k_move rfl rfl ?_
  refine k_neg rfl rfl ?_
  refine k_as (congrArg (Value.int .u64) (w64 _)) ?_
  refine k_assign rfl rfl ?_
  refine k_nil ?_
  refine k_keep [(0, _), (2, _), (6, _), (7, _)] ⟨rfl, rfl, rfl, rfl, trivial⟩ ?_
  refine k_seq ?_
  refine k_region ?_
  refine k_move rfl rfl ?_
  refine k_move rfl rfl ?_
  refine k_move rfl rfl ?_
  obtain ⟨x2, hx2, h⟩ := ob h
  refine k_call cal50 rfl (strconv_AppendUint_own_w  h3 (by first | assumption | omega | (dsimp only; omega) | (simp <;> omega)) tb2 hx2) rfl ?_
  rintro s4 v4_0 st4 ⟨_, rfl, h4_0⟩
  have szs4 := st4.size
  have hS := hS.c0 st4
  refine k_assign rfl rfl ?_
  refine k_nil ?_
  refine k_keep [(6, _)] ⟨rfl, trivial⟩ ?_
  refine k_ret ?_
  obtain rfl := Option.some.inj h
  refine ⟨_, rfl, Ret.mk hS ?_⟩
  exact ⟨_, rfl, h4_0⟩
 ·
  have h := itF h c1
  refine k_skip ?_
  refine k_seq ?_
  refine k_region ?_
  refine k_move rfl rfl ?_
  refine k_move rfl rfl ?_
  refine k_move rfl rfl ?_
  obtain ⟨x3, hx3, h⟩ := ob h
  refine k_call cal50 rfl (strconv_AppendUint_own_w  hp0 (by first | assumption | omega | (dsimp only; omega) | (simp <;> omega)) tb2 hx3) rfl ?_
  rintro s5 v5_0 st5 ⟨_, rfl, h5_0⟩
  have szs5 := st5.size
  have hS := hS.c0 st5
  refine k_assign rfl rfl ?_
  refine k_nil ?_
  refine k_keep [(6, _)] ⟨rfl, trivial⟩ ?_
  refine k_ret ?_
  obtain rfl := Option.some.inj h
  refine ⟨_, rfl, Ret.mk hS ?_⟩
  exact ⟨_, rfl, h5_0⟩

set_option maxHeartbeats 1000000 in
set_option maxRecDepth 100000 in
theorem strconv_AppendInt_o_own_w {s : St} {l0 : Lab} {v0 : Value} {a0 : (List UInt8)} {a1 : Int} {a2 : Int} {r : (List UInt8)} (hp0 : Own s l0 5 1 v0 (a0.map bD)) (hlle0 : l0.o ≤ s.n) (tb2 : Tab2 s) (h : strconv_AppendInt_o a0 a1 a2 = some r) : Calls Tryd.prog 18 #[v0, .int .i64 a1, .int .i64 a2] s.w (Ret s (KC l0.o l0.c) (fun s1 v => ∃ (u0 : Value), v = u0 ∧ Own s1 l0 5 1 u0 (r.map bD))) := by
 unfold strconv_AppendInt_o at h
 have lp0 := Own.le1 hp0
 have hS := Step.r0 (KC l0.o l0.c) s
 refine k_fn (rs := [6]) (args := [v0, .int .i64 a1, .int .i64 a2]) Tryd.func18 rfl rfl rfl rfl ?_
 refine k_seq ?_
 refine k_region ?_
 refine k_assign rfl rfl ?_
 refine k_nil ?_
 refine k_seq ?_
 refine k_region ?_
 refine k_move rfl rfl ?_
 refine k_move rfl rfl ?_
 refine k_move rfl rfl ?_
 obtain ⟨x1, hx1, h⟩ := ob h
 refine k_call cal36 rfl (strconv_AppendInt_own_w  hp0 (by first | assumption | omega | (dsimp only; omega) | (simp <;> omega)) tb2 hx1) rfl ?_
 rintro s1 v1_0 st1 ⟨_, rfl, h1_0⟩
 have szs1 := st1.size
 have hS := hS.c0 st1
 refine k_assign rfl rfl ?_
 refine k_nil ?_
 refine k_keep [(6, _)] ⟨rfl, trivial⟩ ?_
 refine k_ret ?_
 obtain rfl := Option.some.inj h
 refine ⟨_, rfl, Ret.mk hS ?_⟩
 exact ⟨_, rfl, h1_0⟩

set_option maxHeartbeats 1000000 in
set_option maxRecDepth 100000 in
theorem value_text_own_s_w {s : St} {l0 : Lab} {v0 : Value} {a0 : (List UInt8)} {cs1 : List Value} {a1 : ApiValue} {a70 : ((List UInt8) → ApiValue → Option (List UInt8))} {r : (List UInt8)} (hp0 : Own s l0 5 1 v0 (a0.map bD)) (hlle0 : l0.o ≤ s.n) (hp1 : RC s cs1 (dApiValue a1)) (tb2 : Tab2 s) (ih70 : ∀ {s : St} {l0 : Lab} {v0 : Value} {a0 : (List UInt8)} {cs1 : List Value} {a1 : ApiValue} {r : (List UInt8)} (hp0 : Own s l0 5 1 v0 (a0.map bD)) (hlle0 : l0.o ≤ s.n) (hp1 : RC s cs1 (dApiValue a1)) (tb2 : Tab2 s) (h : a70 a0 a1 = some r), Calls Tryd.prog 12 #[v0, .agg cs1.toArray] s.w (Ret s (KC l0.o l0.c) (fun s1 v => ∃ (u0 : Value), v = u0 ∧ Own s1 l0 5 1 u0 (r.map bD)))) (h : value_text_s a70 a0 a1 = some r) : Calls Tryd.prog 12 #[v0, .agg cs1.toArray] s.w (Ret s (KC l0.o l0.c) (fun s1 v => ∃ (u0 : Value), v = u0 ∧ Own s1 l0 5 1 u0 (r.map bD))) := by
 unfold value_text_s at h
 have lp0 := Own.le1 hp0
 obtain ⟨q1_0, q1_1, rfl, hq1_0, hq1_1⟩ := opnApiValue hp1
 have hS := Step.r0 (KC l0.o l0.c) s
 refine k_fn (rs := [4]) (args := [v0, .agg #[.int .i64 a1.Kind, .int .i64 a1.Num, S a1.Text, q1_0, q1_1]]) Tryd.func12 rfl rfl rfl rfl ?_
 refine k_seq ?_
 refine k_region ?_
 refine k_box rfl rfl ?_
 intro s1 b1 st1 h1 ge1
 have szs1 := st1.size
 have hS := hS.trans0 st1
 replace hq1_0 := hq1_0.up2 st1
 replace hq1_1 := hq1_1.up2 st1
 replace hp0 := hp0.up2 st1
 replace tb2 := tb2.up2 st1
 have lt1 := h1.lt
 refine k_assign rfl rfl ?_
 refine k_nil ?_
 refine k_keep [(0, _), (3, _), (4, _)] ⟨rfl, rfl, rfl, trivial⟩ ?_
 refine k_seq ?_
 obtain ⟨kj1, hK2, h⟩ := jn_out h
 have hE2 := Step.r0 K0 s1
 refine k_cutc (X := St) [(0, v0), (4, .slice none 0 0)] (fun (xL : St) => match xL with | sl => []) (fun (xL : St) (wL : World) => match xL with | sl => sl.w = wL ∧ Step K0 s1 sl ∧ kj1 () = some r) ?_ ?_
 ·
  refine k_seq ?_
  refine k_region ?_
  refine k_field_addr fld25_0 rfl rfl ?_
  refine k_load_blk one3 rfl h1 rfl rfl ?_
  refine k_nil ?_
  refine k_keep [(0, _), (3, _), (4, _), (9, _)] ⟨rfl, rfl, rfl, rfl, trivial⟩ ?_
  refine k_block ?_
  refine k_seq ?_
  refine k_region ?_
  refine k_eql rfl rfl rfl ?_
  refine k_assign rfl rfl ?_
  refine k_nil ?_
  refine k_keep [(0, _), (3, _), (4, _), (9, _), (10, _)] ⟨rfl, rfl, rfl, rfl, rfl, trivial⟩ ?_
  refine k_cond_dec rfl (fun c3 => ?_) (fun c3 => ?_)
  ·
   have h := itT h c3
   refine k_seq ?_
   refine k_region ?_
   refine k_move rfl rfl ?_
   obtain ⟨x2, hx2, h⟩ := ob h
   refine k_append_str elem37 rfl rfl Tryd.underlying9 rfl rfl hp0 (by have := (app_out hx2).1; simp only [List.length_map]; omega) rfl ?_
   intro s4 v4 st4 h4
   rw [← List.map_append, ← (app_out hx2).2] at h4
   have szs4 := st4.size
   have hS := hS.c0 st4
   refine k_assign rfl rfl ?_
   refine k_nil ?_
   refine k_keep [(0, _), (4, _)] ⟨rfl, rfl, trivial⟩ ?_
   refine k_ret ?_
   obtain rfl := Option.some.inj h
   refine ⟨_, rfl, Ret.mk hS ?_⟩
   exact ⟨_, rfl, h4⟩
  ·
   have h := itF h c3
   refine k_seq ?_
   refine k_region ?_
   refine k_eql rfl rfl rfl ?_
   refine k_assign rfl rfl ?_
   refine k_nil ?_
   refine k_keep [(0, _), (3, _), (4, _), (9, _), (14, _)] ⟨rfl, rfl, rfl, rfl, rfl, trivial⟩ ?_
   refine k_cond_dec rfl (fun c5 => ?_) (fun c5 => ?_)
   ·
    have h := itT h c5
    refine k_seq ?_
    refine k_region ?_
    refine k_move rfl rfl ?_
    obtain ⟨x3, hx3, h⟩ := ob h
    refine k_append_str elem37 rfl rfl Tryd.underlying9 rfl rfl hp0 (by have := (app_out hx3).1; simp only [List.length_map]; omega) rfl ?_
    intro s6 v6 st6 h6
    rw [← List.map_append, ← (app_out hx3).2] at h6
    have szs6 := st6.size
    have hS := hS.c0 st6
    refine k_assign rfl rfl ?_
    refine k_nil ?_
    refine k_keep [(0, _), (4, _)] ⟨rfl, rfl, trivial⟩ ?_
    refine k_ret ?_
    obtain rfl := Option.some.inj h
    refine ⟨_, rfl, Ret.mk hS ?_⟩
    exact ⟨_, rfl, h6⟩
   ·
    have h := itF h c5
    refine k_seq ?_
    refine k_region ?_
    refine k_eql rfl rfl rfl ?_
    refine k_assign rfl rfl ?_
    refine k_nil ?_
    refine k_keep [(0, _), (3, _), (4, _), (9, _), (18, _)] ⟨rfl, rfl, rfl, rfl, rfl, trivial⟩ ?_
    refine k_cond_dec rfl (fun c7 => ?_) (fun c7 => ?_)
    ·
     have h := itT h c7
     refine k_seq ?_
     refine k_region ?_
     refine k_move rfl rfl ?_
     refine k_field_addr fld25_1 rfl rfl ?_
     refine k_load_blk one2 rfl h1 rfl rfl ?_
     obtain ⟨x4, hx4, h⟩ := ob h
     refine k_call cal18 rfl (strconv_AppendInt_o_own_w  hp0 (by first | assumption | omega | (dsimp only; omega) | (simp <;> omega)) tb2 hx4) rfl ?_
     rintro s8 v8_0 st8 ⟨_, rfl, h8_0⟩
     have szs8 := st8.size
     have hS := hS.c0 st8
     refine k_assign rfl rfl ?_
     refine k_nil ?_
     refine k_keep [(0, _), (4, _)] ⟨rfl, rfl, trivial⟩ ?_
     refine k_ret ?_
     obtain rfl := Option.some.inj h
     refine ⟨_, rfl, Ret.mk hS ?_⟩
     exact ⟨_, rfl, h8_0⟩
    ·
     have h := itF h c7
     refine k_seq ?_
     refine k_region ?_
     refine k_eql rfl rfl rfl ?_
     refine k_assign rfl rfl ?_
     refine k_nil ?_
     refine k_keep [(0, _), (3, _), (4, _), (9, _), (24, _)] ⟨rfl, rfl, rfl, rfl, rfl, trivial⟩ ?_
     refine k_cond_dec rfl (fun c9 => ?_) (fun c9 => ?_)
     ·
      have h := itT h c9
      refine k_seq ?_
      refine k_region ?_
      refine k_move rfl rfl ?_
      refine k_field_addr fld25_2 rfl rfl ?_
      refine k_load_blk one9 rfl h1 rfl rfl ?_
      obtain ⟨x5, hx5, h⟩ := ob h
      refine k_call cal19 rfl (value_quoted_own_w  hp0 (by first | assumption | omega | (dsimp only; omega) | (simp <;> omega)) hx5) rfl ?_
      rintro s10 v10_0 st10 ⟨_, rfl, h10_0⟩
      have szs10 := st10.size
      have hS := hS.c0 st10
      refine k_assign rfl rfl ?_
      refine k_nil ?_
      refine k_keep [(0, _), (4, _)] ⟨rfl, rfl, trivial⟩ ?_
      refine k_ret ?_
      obtain rfl := Option.some.inj h
      refine ⟨_, rfl, Ret.mk hS ?_⟩
      exact ⟨_, rfl, h10_0⟩
     ·
      have h := itF h c9
      refine k_seq ?_
      refine k_keep [(0, _), (3, _), (4, _), (9, _)] ⟨rfl, rfl, rfl, rfl, trivial⟩ ?_
      obtain ⟨kj6, hK11, h⟩ := jn_out h
      have hE11 := Step.r0 K0 s1
      refine k_cutc (X := St × Bool) [(0, v0), (3, .pointer (some ⟨b1, 0, none⟩)), (4, .slice none 0 0)] (fun (xL : St × Bool) => match xL with | (sl, x7) => [(30, .bool x7)]) (fun (xL : St × Bool) (wL : World) => match xL with | (sl, x7) => sl.w = wL ∧ Step K0 s1 sl ∧ kj6 x7 = some r) ?_ ?_
      ·
       refine k_seq ?_
       refine k_region ?_
       refine k_eql rfl rfl rfl ?_
       refine k_assign rfl rfl ?_
       refine k_nil ?_
       refine k_keep [(0, _), (3, _), (4, _), (9, _), (30, _)] ⟨rfl, rfl, rfl, rfl, rfl, trivial⟩ ?_
       refine k_cond_dec rfl (fun c12 => ?_) (fun c12 => ?_)
       ·
        have h := itT h c12
        refine k_skip ?_
        exact k_stop ⟨(s1, decide (a1.Kind = 5)), ⟨(by first | rfl | (simp <;> rfl)), trivial⟩, ⟨rfl, rfl, rfl, trivial⟩, ⟨rfl, hE11, h⟩⟩
       ·
        have h := itF h c12
        refine k_region ?_
        refine k_eql rfl rfl rfl ?_
        refine k_assign rfl rfl ?_
        refine k_nil ?_
        exact k_stop ⟨(s1, decide (a1.Kind = 6)), ⟨(by first | rfl | (simp <;> rfl)), trivial⟩, ⟨rfl, rfl, rfl, trivial⟩, ⟨rfl, hE11, h⟩⟩
      ·
       rintro ⟨s13, x7⟩ wL ⟨rfl, hE11, h⟩
       rw [hK11] at h
       have szs13 := hE11.size
       have hS := hS.trans0 hE11
       have hE2 := hE2.trans0 hE11
       replace hp0 := hp0.up2 hE11
       replace hq1_0 := hq1_0.up2 hE11
       replace hq1_1 := hq1_1.up2 hE11
       replace h1 := h1.up2 hE11
       replace tb2 := tb2.up2 hE11
       refine k_cond rfl (fun c14 => ?_) (fun c14 => ?_)
       ·
        have h := ibT h c14
        refine k_seq ?_
        refine k_region ?_
        refine k_build_arr arr52 zero52 rfl (Parts.cons (CellsOf.lit rfl rfl).1 (Parts.cons (CellsOf.lit rfl rfl).1 Parts.nil)) (by rfl) rfl ?_
        refine k_as (v := .agg (([] : List Value) ++ ([([] : List UInt8), ([] : List UInt8), ([] : List UInt8), ([] : List UInt8), ([] : List UInt8), ([91, 93] : List UInt8), ([123, 125] : List UInt8)] : List (List UInt8)).map S).toArray) rfl ?_
        refine k_field_addr fld25_0 rfl rfl ?_
        refine k_load_blk one3 rfl h1 rfl rfl ?_
        obtain ⟨x8, hx8, h⟩ := ob h
        refine k_index_row S (xs := ([([] : List UInt8), ([] : List UInt8), ([] : List UInt8), ([] : List UInt8), ([] : List UInt8), ([91, 93] : List UInt8), ([123, 125] : List UInt8)] : List (List UInt8))) arr52 one9 rfl rfl (rfl) hx8 rfl ?_
        refine k_assign rfl rfl ?_
        refine k_nil ?_
        refine k_keep [(0, _), (3, _), (4, _), (5, _)] ⟨rfl, rfl, rfl, rfl, trivial⟩ ?_
        refine k_seq ?_
        refine k_region ?_
        refine k_move rfl rfl ?_
        refine k_move rfl rfl ?_
        obtain ⟨x9, hx9, h⟩ := ob h
        refine k_index_str Tryd.underlying9 rfl rfl (geti_out hx9).1 (geti_out hx9).2.1 rfl ?_
        refine k_as (congrArg (fun c : UInt8 => Value.int .u8 (c.toNat : Int)) (geti_getD hx9)) ?_
        refine k_bslice2 (ds := ([x9] : List UInt8).map bD) slc37 rfl (RVs.cons (R.val rfl) RVs.nil) (by rfl) (by rfl) rfl rfl ?_
        intro s15 v15 b15 st15 ge15 bl15 h15
        have szs15 := st15.size
        have hS := hS.trans0 st15
        have hE2 := hE2.trans0 st15
        replace hp0 := hp0.up2 st15
        replace hq1_0 := hq1_0.up2 st15
        replace hq1_1 := hq1_1.up2 st15
        replace h1 := h1.up2 st15
        replace tb2 := tb2.up2 st15
        have lt15 := Own.le1 h15
        obtain ⟨x10, hx10, h⟩ := ob h
        refine k_append (es := ([x9] : List UInt8).map bD) elem37 rfl rfl hp0 (h15.sl) (by have := (app_out hx10).1; simp only [List.length_map] at *; omega) (by have := (app_out hx10).1; simp only [List.length_map] at *; omega) rfl ?_
        intro s16 v16 st16 h16
        rw [← List.map_append, ← (app_out hx10).2] at h16
        have szs16 := st16.size
        have hS := hS.c0 st16
        replace hq1_0 := hq1_0.up2 st16
        replace hq1_1 := hq1_1.up2 st16
        replace h1 := h1.up2 st16
        replace tb2 := tb2.up2 st16
        refine k_assign rfl rfl ?_
        refine k_nil ?_
        refine k_keep [(0, _), (3, _), (4, _), (5, _)] ⟨rfl, rfl, rfl, rfl, trivial⟩ ?_
        refine k_seq ?_
        obtain ⟨kj11, hK17, h⟩ := jn_out h
        have hE17 := Step.r0 (KC l0.o l0.c) s16
        refine k_cutc (X := St × (List UInt8) × Value) [(4, .slice none 0 0), (5, S x8)] (fun (xL : St × (List UInt8) × Value) => match xL with | (sl, x12, v18) => [(0, v18)]) (fun (xL : St × (List UInt8) × Value) (wL : World) => match xL with | (sl, x12, v18) => sl.w = wL ∧ Step (KC l0.o l0.c) s16 sl ∧ (Own sl ⟨l0.o, l0.c⟩ 5 1 v18 (x12.map bD)) ∧ kj11 x12 = some r) ?_ ?_
        ·
         refine k_seq ?_
         refine k_region ?_
         refine k_field_addr fld25_3 rfl rfl ?_
         refine k_load_blk one22 rfl h1 rfl rfl ?_
         refine k_len Tryd.underlying22 rfl (SL.of_R hq1_0).hasLen rfl ?_
         refine k_as (v := .int .i64 (a1.List_.length : Int)) (by simp only [List.length_map]) ?_
         refine k_move rfl rfl ?_
         refine k_nil ?_
         refine k_keep [(0, _), (3, _), (4, _), (5, _), (43, _), (44, _), (45, _)] ⟨rfl, rfl, rfl, rfl, rfl, rfl, rfl, trivial⟩ ?_
         refine k_block ?_
         refine k_loopc (X := St × (List UInt8) × Value × Int × Nat) [(3, _), (4, _), (5, _), (43, _), (44, _)] (fun (xL : St × (List UInt8) × Value × Int × Nat) => match xL with | (sl, x13, v20, x14, j) => [(0, v20), (45, .int .i64 x14)]) (fun (xL : St × (List UInt8) × Value × Int × Nat) (wL : World) => match xL with | (sl, x13, v20, x14, j) => sl.w = wL ∧ Step (KC l0.o l0.c) s16 sl ∧ (Own sl ⟨l0.o, l0.c⟩ 5 1 v20 (x13.map bD)) ∧ value_text_s_l1 a1 a70 kj11 j x13 x14 = some r) (fun (xL : St × (List UInt8) × Value × Int × Nat) => match xL with | (sl, x13, v20, x14, j) => j) (s16, x10, v16, 0, FU) ⟨rfl, rfl, rfl, rfl, rfl, trivial⟩ ⟨(by first | rfl | (simp <;> rfl)), (by first | rfl | (simp <;> rfl)), trivial⟩ ⟨rfl, (Step.refl _).of0 (by first | exact fun _ h => h | (intro c h; simp [KC, KO, KU, KN, KB] at h <;> omega)), h16, h⟩ ?_
         rintro ⟨s21, x13, v20, x14, j⟩ wL ⟨rfl, hE19, h20, h⟩
         cases j with
         | zero => rw [value_text_s_l1] at h; exact (noneNe h).elim
         | succ j =>
         rw [value_text_s_l1] at h
         have szs21 := hE19.size
         have hS := hS.c0 hE19
         have hE17 := hE17.c0 hE19
         replace hq1_0 := hq1_0.up2 hE19
         replace hq1_1 := hq1_1.up2 hE19
         replace h1 := h1.up2 hE19
         replace tb2 := tb2.up2 hE19
         refine k_seq ?_
         refine k_region ?_
         refine k_lss rfl rfl rfl ?_
         refine k_nil ?_
         refine k_seq ?_
         refine k_cond_dec rfl (fun c22 => ?_) (fun c22 => ?_)
         ·
          have h := itT h c22
          refine k_skip ?_
          refine k_seq ?_
          refine k_block ?_
          refine k_seq ?_
          refine k_region ?_
          refine k_move rfl rfl ?_
          obtain ⟨x15, hx15, h⟩ := ob h
          refine k_ixaddr Tryd.underlying22 size25 rfl rfl (SL.of_R hq1_0) (geti_out hx15).1 (geti_map hx15) rfl ?_
          intro qx15 hqx15
          refine k_load_agg (by exact agg25) rfl hqx15 rfl ?_
          intro cs23 h23
          obtain ⟨q23_0, q23_1, rfl, hq23_0, hq23_1⟩ := opnApiValue h23
          refine k_alloc zero25 rfl ?_
          intro s24 b24 st24 h24 ge24
          have szs24 := st24.size
          have hS := hS.trans0 st24
          have hE17 := hE17.trans0 st24
          have hE19 := hE19.trans0 st24
          replace hq23_0 := hq23_0.up2 st24
          replace hq23_1 := hq23_1.up2 st24
          replace hq1_1 := hq1_1.up2 st24
          replace h1 := h1.up2 st24
          replace h20 := h20.up2 st24
          replace tb2 := tb2.up2 st24
          have lt24 := h24.lt
          refine k_assign rfl rfl ?_
          refine k_store_c (cs' := [.int .i64 x15.Kind, .int .i64 x15.Num, S x15.Text, q23_0, q23_1]) size25 rfl rfl h24 (by first | (simp; done) | omega | (dsimp only; omega)) (CellsOf.lit (vs := [.int .i64 x15.Kind, .int .i64 x15.Num, S x15.Text, q23_0, q23_1]) rfl (ones.cons rfl (ones.cons rfl (ones.cons rfl (ones.cons ((SL.of_R hq23_0)).one1 (ones.cons ((SL.of_R hq23_1)).one1 ones.nil)))))) rfl (by first | rfl | (simp; done) | (simp; omega)) rfl ?_
          intro s25 st25 h24
          have szs25 := st25.size
          have hS := hS.c0 st25
          have hE17 := hE17.c0 st25
          have hE19 := hE19.c0 st25
          replace hq23_0 := hq23_0.up2 st25
          replace hq23_1 := hq23_1.up2 st25
          replace hq1_1 := hq1_1.up2 st25
          replace h1 := h1.up2 st25
          replace h20 := h20.up2 st25
          replace tb2 := tb2.up2 st25
          refine k_nil ?_
          refine k_keep [(0, _), (3, _), (4, _), (5, _), (6, _), (7, _), (43, _), (44, _), (45, _)] ⟨rfl, rfl, rfl, rfl, rfl, rfl, rfl, rfl, rfl, trivial⟩ ?_
          refine k_seq ?_
          obtain ⟨kj16, hK26, h⟩ := jn_out h
          have hE26 := Step.r0 (KC l0.o l0.c) s25
          refine k_cutc (X := St × (List UInt8) × Value) [(3, .pointer (some ⟨b1, 0, none⟩)), (4, .slice none 0 0), (5, S x8), (6, .int .i64 x14), (7, .pointer (some ⟨b24, 0, none⟩)), (43, q1_0), (44, .int .i64 (a1.List_.length : Int)), (45, .int .i64 x14)] (fun (xL : St × (List UInt8) × Value) => match xL with | (sl, x17, v27) => [(0, v27)]) (fun (xL : St × (List UInt8) × Value) (wL : World) => match xL with | (sl, x17, v27) => sl.w = wL ∧ Step (KC l0.o l0.c) s25 sl ∧ (Own sl ⟨l0.o, l0.c⟩ 5 1 v27 (x17.map bD)) ∧ kj16 x17 = some r) ?_ ?_
          ·
           refine k_seq ?_
           refine k_region ?_
           refine k_move rfl rfl ?_
           refine k_gtr rfl rfl rfl ?_
           refine k_nil ?_
           refine k_keep [(0, _), (3, _), (4, _), (5, _), (6, _), (7, _), (43, _), (44, _), (45, _), (51, _)] ⟨rfl, rfl, rfl, rfl, rfl, rfl, rfl, rfl, rfl, rfl, trivial⟩ ?_
           refine k_cond_dec rfl (fun c28 => ?_) (fun c28 => ?_)
           ·
            have h := itT h c28
            refine k_region ?_
            refine k_move rfl rfl ?_
            refine k_bslice2 (ds := ([(44 : UInt8)] : List UInt8).map bD) slc37 rfl (RVs.cons (R.val rfl) RVs.nil) (by rfl) (by rfl) rfl rfl ?_
            intro s29 v29 b29 st29 ge29 bl29 h29
            have szs29 := st29.size
            have hS := hS.trans0 st29
            have hE17 := hE17.trans0 st29
            have hE19 := hE19.trans0 st29
            have hE26 := hE26.trans0 st29
            replace h20 := h20.up2 st29
            have lt29 := Own.le1 h29
            obtain ⟨x18, hx18, h⟩ := ob h
            refine k_append (es := ([(44 : UInt8)] : List UInt8).map bD) elem37 rfl rfl h20 (h29.sl) (by have := (app_out hx18).1; simp only [List.length_map] at *; omega) (by have := (app_out hx18).1; simp only [List.length_map] at *; omega) rfl ?_
            intro s30 v30 st30 h30
            rw [← List.map_append, ← (app_out hx18).2] at h30
            have szs30 := st30.size
            have hS := hS.c0 st30
            have hE17 := hE17.c0 st30
            have hE19 := hE19.c0 st30
            have hE26 := hE26.c0 st30
            refine k_assign rfl rfl ?_
            refine k_nil ?_
            exact k_stop ⟨(s30, x18, v30), ⟨(by first | rfl | (simp <;> rfl)), trivial⟩, ⟨rfl, rfl, rfl, rfl, rfl, rfl, rfl, rfl, trivial⟩, ⟨rfl, hE26, h30, h⟩⟩
           ·
            have h := itF h c28
            refine k_skip ?_
            exact k_stop ⟨(s25, x13, v20), ⟨(by first | rfl | (simp <;> rfl)), trivial⟩, ⟨rfl, rfl, rfl, rfl, rfl, rfl, rfl, rfl, trivial⟩, ⟨rfl, hE26, h20, h⟩⟩
          ·
           rintro ⟨s31, x17, v27⟩ wL ⟨rfl, hE26, h27, h⟩
           rw [hK26] at h
           have szs31 := hE26.size
           have hS := hS.c0 hE26
           have hE17 := hE17.c0 hE26
           have hE19 := hE19.c0 hE26
           replace hq1_1 := hq1_1.up2 hE26
           replace h1 := h1.up2 hE26
           replace hq23_0 := hq23_0.up2 hE26
           replace hq23_1 := hq23_1.up2 hE26
           replace h24 := h24.up2 hE26
           replace tb2 := tb2.up2 hE26
           refine k_seq ?_
           refine k_seq ?_
           refine k_region ?_
           refine k_field_addr fld25_0 rfl rfl ?_
           refine k_load_blk one3 rfl h1 rfl rfl ?_
           refine k_eql rfl rfl rfl ?_
           refine k_nil ?_
           refine k_keep [(0, _), (3, _), (4, _), (5, _), (6, _), (7, _), (43, _), (44, _), (45, _), (57, _)] ⟨rfl, rfl, rfl, rfl, rfl, rfl, rfl, rfl, rfl, rfl, trivial⟩ ?_
           refine k_cond_dec rfl (fun c32 => ?_) (fun c32 => ?_)
           ·
            have h := itT h c32
            refine k_region ?_
            refine k_move rfl rfl ?_
            refine k_field_addr fld25_4 rfl rfl ?_
            refine k_load_blk one23 rfl h1 rfl rfl ?_
            refine k_move rfl rfl ?_
            obtain ⟨x19, hx19, h⟩ := ob h
            refine k_ixaddr Tryd.underlying23 size9 rfl rfl (SL.of_R hq1_1) (geti_out hx19).1 (geti_map hx19) rfl ?_
            intro qx19 hqx19
            refine k_load_val one9 rfl hqx19 rfl ?_
            obtain ⟨x20, hx20, h⟩ := ob h
            refine k_call cal19 rfl (value_quoted_own_w  h27 (by first | assumption | omega | (dsimp only; omega) | (simp <;> omega)) hx20) rfl ?_
            rintro s33 v33_0 st33 ⟨_, rfl, h33_0⟩
            have szs33 := st33.size
            have hS := hS.c0 st33
            have hE17 := hE17.c0 st33
            have hE19 := hE19.c0 st33
            replace hq23_0 := hq23_0.up2 st33
            replace hq23_1 := hq23_1.up2 st33
            replace h24 := h24.up2 st33
            replace tb2 := tb2.up2 st33
            refine k_bslice2 (ds := ([(58 : UInt8)] : List UInt8).map bD) slc37 rfl (RVs.cons (R.val rfl) RVs.nil) (by rfl) (by rfl) rfl rfl ?_
            intro s34 v34 b34 st34 ge34 bl34 h34
            have szs34 := st34.size
            have hS := hS.trans0 st34
            have hE17 := hE17.trans0 st34
            have hE19 := hE19.trans0 st34
            replace hq23_0 := hq23_0.up2 st34
            replace hq23_1 := hq23_1.up2 st34
            replace h24 := h24.up2 st34
            replace h33_0 := h33_0.up2 st34
            replace tb2 := tb2.up2 st34
            have lt34 := Own.le1 h34
            obtain ⟨x21, hx21, h⟩ := ob h
            refine k_append (es := ([(58 : UInt8)] : List UInt8).map bD) elem37 rfl rfl h33_0 (h34.sl) (by have := (app_out hx21).1; simp only [List.length_map] at *; omega) (by have := (app_out hx21).1; simp only [List.length_map] at *; omega) rfl ?_
            intro s35 v35 st35 h35
            rw [← List.map_append, ← (app_out hx21).2] at h35
            have szs35 := st35.size
            have hS := hS.c0 st35
            have hE17 := hE17.c0 st35
            have hE19 := hE19.c0 st35
            replace hq23_0 := hq23_0.up2 st35
            replace hq23_1 := hq23_1.up2 st35
            replace h24 := h24.up2 st35
            replace tb2 := tb2.up2 st35
            refine k_assign rfl rfl ?_
            refine k_nil ?_
            refine k_keep [(0, _), (3, _), (4, _), (5, _), (7, _), (43, _), (44, _), (45, _)] ⟨rfl, rfl, rfl, rfl, rfl, rfl, rfl, rfl, trivial⟩ ?_
            refine k_region ?_
            refine k_move rfl rfl ?_
            refine k_load_blka (cs := [.int .i64 x15.Kind, .int .i64 x15.Num, S x15.Text, q23_0, q23_1]) agg25 rfl h24 rfl ?_
            obtain ⟨x22, hx22, h⟩ := ob h
            refine k_call cal12 rfl (ih70  h35 (by first | assumption | omega | (dsimp only; omega) | (simp <;> omega)) (clsApiValue x15 hq23_0 hq23_1) tb2 hx22) rfl ?_
            rintro s36 v36_0 st36 ⟨_, rfl, h36_0⟩
            have szs36 := st36.size
            have hS := hS.c0 st36
            have hE17 := hE17.c0 st36
            have hE19 := hE19.c0 st36
            refine k_assign rfl rfl ?_
            refine k_nil ?_
            refine k_blk ?_
            refine k_region ?_
            refine k_add rfl rfl rfl ?_
            refine k_move rfl rfl ?_
            refine k_nil ?_
            exact k_stop ⟨(s36, x22, v36_0, i64 (x14 + 1), j), ⟨(by first | rfl | (simp <;> rfl)), (by first | rfl | (simp <;> rfl)), trivial⟩, ⟨rfl, rfl, rfl, rfl, rfl, trivial⟩, ⟨rfl, hE19, h36_0, h⟩, (by simp)⟩
           ·
            have h := itF h c32
            refine k_skip ?_
            refine k_region ?_
            refine k_move rfl rfl ?_
            refine k_load_blka (cs := [.int .i64 x15.Kind, .int .i64 x15.Num, S x15.Text, q23_0, q23_1]) agg25 rfl h24 rfl ?_
            obtain ⟨x23, hx23, h⟩ := ob h
            refine k_call cal12 rfl (ih70  h27 (by first | assumption | omega | (dsimp only; omega) | (simp <;> omega)) (clsApiValue x15 hq23_0 hq23_1) tb2 hx23) rfl ?_
            rintro s37 v37_0 st37 ⟨_, rfl, h37_0⟩
            have szs37 := st37.size
            have hS := hS.c0 st37
            have hE17 := hE17.c0 st37
            have hE19 := hE19.c0 st37
            refine k_assign rfl rfl ?_
            refine k_nil ?_
            refine k_blk ?_
            refine k_region ?_
            refine k_add rfl rfl rfl ?_
            refine k_move rfl rfl ?_
            refine k_nil ?_
            exact k_stop ⟨(s37, x23, v37_0, i64 (x14 + 1), j), ⟨(by first | rfl | (simp <;> rfl)), (by first | rfl | (simp <;> rfl)), trivial⟩, ⟨rfl, rfl, rfl, rfl, rfl, trivial⟩, ⟨rfl, hE19, h37_0, h⟩, (by simp)⟩
         ·
          have h := itF h c22
          refine k_exit rfl ?_
          exact k_stop ⟨(s21, x13, v20), ⟨(by first | rfl | (simp <;> rfl)), trivial⟩, ⟨rfl, rfl, trivial⟩, ⟨rfl, hE17, h20, h⟩⟩
        ·
         rintro ⟨s38, x12, v18⟩ wL ⟨rfl, hE17, h18, h⟩
         rw [hK17] at h
         have szs38 := hE17.size
         have hS := hS.c0 hE17
         refine k_seq ?_
         refine k_region ?_
         refine k_move rfl rfl ?_
         refine k_move rfl rfl ?_
         obtain ⟨x24, hx24, h⟩ := ob h
         refine k_index_str Tryd.underlying9 rfl rfl (geti_out hx24).1 (geti_out hx24).2.1 rfl ?_
         refine k_as (congrArg (fun c : UInt8 => Value.int .u8 (c.toNat : Int)) (geti_getD hx24)) ?_
         refine k_bslice2 (ds := ([x24] : List UInt8).map bD) slc37 rfl (RVs.cons (R.val rfl) RVs.nil) (by rfl) (by rfl) rfl rfl ?_
         intro s39 v39 b39 st39 ge39 bl39 h39
         have szs39 := st39.size
         have hS := hS.trans0 st39
         replace h18 := h18.up2 st39
         have lt39 := Own.le1 h39
         obtain ⟨x25, hx25, h⟩ := ob h
         refine k_append (es := ([x24] : List UInt8).map bD) elem37 rfl rfl h18 (h39.sl) (by have := (app_out hx25).1; simp only [List.length_map] at *; omega) (by have := (app_out hx25).1; simp only [List.length_map] at *; omega) rfl ?_
         intro s40 v40 st40 h40
         rw [← List.map_append, ← (app_out hx25).2] at h40
         have szs40 := st40.size
         have hS := hS.c0 st40
         refine k_assign rfl rfl ?_
         refine k_nil ?_
         refine k_keep [(0, _), (4, _)] ⟨rfl, rfl, trivial⟩ ?_
         refine k_ret ?_
         obtain rfl := Option.some.inj h
         refine ⟨_, rfl, Ret.mk hS ?_⟩
         exact ⟨_, rfl, h40⟩
       ·
        have h := ibF h c14
        refine k_skip ?_
        refine k_blk ?_
        exact k_stop ⟨s13, trivial, ⟨rfl, rfl, trivial⟩, ⟨rfl, hE2, h⟩⟩
 ·
  rintro s41 wL ⟨rfl, hE2, h⟩
  rw [hK2] at h
  have szs41 := hE2.size
  have hS := hS.trans0 hE2
  replace hp0 := hp0.up2 hE2
  refine k_seq ?_
  refine k_region ?_
  refine k_move rfl rfl ?_
  obtain ⟨x26, hx26, h⟩ := ob h
  refine k_append_str elem37 rfl rfl Tryd.underlying9 rfl rfl hp0 (by have := (app_out hx26).1; simp only [List.length_map]; omega) rfl ?_
  intro s42 v42 st42 h42
  rw [← List.map_append, ← (app_out hx26).2] at h42
  have szs42 := st42.size
  have hS := hS.c0 st42
  refine k_assign rfl rfl ?_
  refine k_nil ?_
  refine k_keep [(4, _)] ⟨rfl, trivial⟩ ?_
  refine k_ret ?_
  obtain rfl := Option.some.inj h
  refine ⟨_, rfl, Ret.mk hS ?_⟩
  exact ⟨_, rfl, h42⟩
theorem value_text_rw (j : Nat) : ∀ {s : St} {l0 : Lab} {v0 : Value} {a0 : (List UInt8)} {cs1 : List Value} {a1 : ApiValue} {r : (List UInt8)} (hp0 : Own s l0 5 1 v0 (a0.map bD)) (hlle0 : l0.o ≤ s.n) (hp1 : RC s cs1 (dApiValue a1)) (tb2 : Tab2 s) (h : value_text_r j a0 a1 = some r), Calls Tryd.prog 12 #[v0, .agg cs1.toArray] s.w (Ret s (KC l0.o l0.c) (fun s1 v => ∃ (u0 : Value), v = u0 ∧ Own s1 l0 5 1 u0 (r.map bD))) := by
 induction j with
 | zero => intro s l0 v0 a0 cs1 a1 r hp0 hlle0 hp1 tb2 h; rw [value_text_r] at h; exact (noneNe h).elim
 | succ j ih => intro s l0 v0 a0 cs1 a1 r hp0 hlle0 hp1 tb2 h; rw [value_text_r] at h; exact value_text_own_s_w hp0 hlle0 hp1 tb2 ih h
theorem value_text_own_w {s : St} {l0 : Lab} {v0 : Value} {a0 : (List UInt8)} {cs1 : List Value} {a1 : ApiValue} {r : (List UInt8)} (hp0 : Own s l0 5 1 v0 (a0.map bD)) (hlle0 : l0.o ≤ s.n) (hp1 : RC s cs1 (dApiValue a1)) (tb2 : Tab2 s) (h : value_text a0 a1 = some r) : Calls Tryd.prog 12 #[v0, .agg cs1.toArray] s.w (Ret s (KC l0.o l0.c) (fun s1 v => ∃ (u0 : Value), v = u0 ∧ Own s1 l0 5 1 u0 (r.map bD))) := value_text_rw (FU + (dpApiValue a1)) hp0 hlle0 hp1 tb2 h
end Go.Proofs
