import Derived.Test.YtepifllifhikiaaDoorW12KeysTwo0
set_option linter.unusedSimpArgs false
set_option linter.unusedVariables false
namespace Go.Proofs
open Go.Fw
set_option maxHeartbeats 1000000 in
set_option maxRecDepth 100000 in
theorem law12_KeysTwo_w {s : St} {l0 : Lab} {v0 : Value} {a0 : (List Law12Act)} {l1 : Lab} {v1 : Value} {a1 : (List Law12Act)} {r : Bool} (hp0 : SL s l0 v0 4 (a0.map dLaw12Act)) (hp1 : SL s l1 v1 4 (a1.map dLaw12Act)) (tb0 : Tab0 s) (h : law12_KeysTwo a0 a1 = some r) : Calls Tryd.prog 5 #[v0, v1] s.w (Ret s K0 (fun s1 v => v = .bool r)) := by
 unfold law12_KeysTwo at h
 obtain ⟨lf0, lf0le, lf0ne, hp0⟩ := hp0.fix
 obtain ⟨lf1, lf1le, lf1ne, hp1⟩ := hp1.fix
 have hS := Step.r0 K0 s
 refine k_fn (rs := [4]) (args := [v0, v1]) Tryd.func5 rfl rfl rfl rfl ?_
 refine k_seq ?_
 refine k_region ?_
 refine k_assign rfl rfl ?_
 refine k_nil ?_
 refine k_seq ?_
 refine k_seq ?_
 refine k_region ?_
 refine k_move rfl rfl ?_
 obtain ⟨x1, hx1, h⟩ := ob h
 refine k_call cal20 rfl (law12_long_w  hp0 hx1) rfl ?_
 rintro s1 vr1 st1 rfl
 have szs1 := st1.size
 have hS := hS.trans0 st1
 replace hp0 := hp0.up2 st1
 replace hp1 := hp1.up2 st1
 replace tb0 := tb0.up2 st1
 refine k_move rfl rfl ?_
 obtain ⟨x2, hx2, h⟩ := ob h
 have hE2 := Step.r0 K0 s1
 refine k_cutl (X := St) 3 [(0, v0), (1, v1), (4, .bool false), (10, v0), (11, .bool x1)] (fun _ => [(15, .bool x2)]) (fun sl wL => sl.w = wL ∧ Step K0 s1 sl) ?_ ?_
 ·
  refine k_again 12 rfl ?_
  refine k_splitb (fun c3 => ?_) (fun c3 => ?_)
  ·
   have hx2 := ibT hx2 c3
   refine k_no rfl rfl rfl rfl ?_
   refine k_no rfl rfl rfl rfl ?_
   refine k_pickT rfl rfl rfl rfl ?_
   exact k_met ⟨s1, ⟨(congrArg (fun b => some (Value.bool b)) (Option.some.inj hx2)), trivial⟩, ⟨rfl, rfl, rfl, rfl, rfl, trivial⟩, rfl, hE2⟩
  ·
   have hx2 := ibF hx2 c3
   refine k_yes rfl rfl ?_
   refine k_move rfl rfl ?_
   refine k_yes rfl rfl ?_
   obtain ⟨x3, hx3, hx2⟩ := ob hx2
   refine k_call cal20 rfl (law12_long_w  hp1 hx3) rfl ?_
   rintro s4 vr4 st4 rfl
   have szs4 := st4.size
   have hS := hS.trans0 st4
   have hE2 := hE2.trans0 st4
   refine k_pickF rfl rfl rfl rfl ?_
   exact k_met ⟨s4, ⟨(congrArg (fun b => some (Value.bool b)) (Option.some.inj hx2)), trivial⟩, ⟨rfl, rfl, rfl, rfl, rfl, trivial⟩, rfl, hE2⟩
 ·
  rintro s5 wL ⟨rfl, hE2⟩
  have szs5 := hE2.size
  have hS := hS.trans0 hE2
  replace hp0 := hp0.up2 hE2
  replace hp1 := hp1.up2 hE2
  replace tb0 := tb0.up2 hE2
  refine k_nil ?_
  refine k_keep [(0, _), (1, _), (4, _), (15, _)] ⟨rfl, rfl, rfl, rfl, trivial⟩ ?_
  refine k_cond rfl (fun c6 => ?_) (fun c6 => ?_)
  ·
   have h := ibT h c6
   refine k_seq ?_
   refine k_region ?_
   obtain ⟨x4, hx4, h⟩ := ob h
   refine k_call cal9 rfl (law12_awake_w  tb0 hx4) rfl ?_
   rintro s7 vr7 st7 rfl
   have szs7 := st7.size
   have hS := hS.trans0 st7
   refine k_assign rfl rfl ?_
   refine k_nil ?_
   refine k_keep [(0, _), (1, _), (4, _)] ⟨rfl, rfl, rfl, trivial⟩ ?_
   refine k_ret ?_
   obtain rfl := Option.some.inj h
   refine ⟨_, rfl, Ret.mk hS ?_⟩
   exact rfl
  ·
   have h := ibF h c6
   refine k_skip ?_
   refine k_seq ?_
   refine k_region ?_
   obtain ⟨x5, hx5, h⟩ := ob h
   refine k_call cal10 rfl (keys_New_int_w   hx5) rfl ?_
   rintro s8 v8_0 st8 ⟨ku8_0, _, rfl, hk8_0, h8_0⟩
   have szs8 := st8.size
   have hS := hS.trans0 st8
   replace hp0 := hp0.up2 st8
   replace hp1 := hp1.up2 st8
   replace tb0 := tb0.up2 st8
   have le8_0 := h8_0.le
   have ne8_0 := h8_0.ne
   obtain ⟨x6, hx6, h⟩ := ob h
   refine k_call cal10 rfl (keys_New_int_w   hx6) rfl ?_
   rintro s9 v9_0 st9 ⟨ku9_0, _, rfl, hk9_0, h9_0⟩
   have szs9 := st9.size
   have hS := hS.trans0 st9
   replace hp0 := hp0.up2 st9
   replace hp1 := hp1.up2 st9
   replace h8_0 := h8_0.up2 st9
   replace tb0 := tb0.up2 st9
   have le9_0 := h9_0.le
   have ne9_0 := h9_0.ne
   obtain ⟨x7, hx7, h⟩ := ob h
   refine k_call cal10 rfl (keys_New_int_w   hx7) rfl ?_
   rintro s10 v10_0 st10 ⟨ku10_0, _, rfl, hk10_0, h10_0⟩
   have szs10 := st10.size
   have hS := hS.trans0 st10
   replace hp0 := hp0.up2 st10
   replace hp1 := hp1.up2 st10
   replace h8_0 := h8_0.up2 st10
   replace h9_0 := h9_0.up2 st10
   replace tb0 := tb0.up2 st10
   have le10_0 := h10_0.le
   have ne10_0 := h10_0.ne
   refine k_assign rfl rfl ?_
   refine k_assign rfl rfl ?_
   refine k_assign rfl rfl ?_
   refine k_nil ?_
   refine k_keep [(0, _), (1, _), (4, _), (5, _), (6, _), (7, _)] ⟨rfl, rfl, rfl, rfl, rfl, rfl, trivial⟩ ?_
   refine k_seq ?_
   refine k_seq ?_
   refine k_region ?_
   refine k_move rfl rfl ?_
   obtain ⟨pb11, rfl⟩ := h8_0.ptr
   refine k_eql_pnil Tryd.underlying26 rfl rfl rfl ?_
   refine k_move rfl rfl ?_
   refine k_yes rfl rfl ?_
   refine k_move rfl rfl ?_
   refine k_yes rfl rfl ?_
   obtain ⟨pb12, rfl⟩ := h9_0.ptr
   refine k_eql_pnil Tryd.underlying26 rfl rfl rfl ?_
   refine k_pickF rfl rfl rfl rfl ?_
   refine k_move rfl rfl ?_
   refine k_yes rfl rfl ?_
   refine k_move rfl rfl ?_
   refine k_yes rfl rfl ?_
   obtain ⟨pb13, rfl⟩ := h10_0.ptr
   refine k_eql_pnil Tryd.underlying26 rfl rfl rfl ?_
   refine k_pickF rfl rfl rfl rfl ?_
   refine k_nil ?_
   refine k_keep [(0, _), (1, _), (4, _), (5, _), (6, _), (7, _), (29, _)] ⟨rfl, rfl, rfl, rfl, rfl, rfl, rfl, trivial⟩ ?_
   refine k_cond_false rfl ?_
   refine k_skip ?_
   refine k_seq ?_
   refine k_keep [(0, _), (1, _), (4, _), (5, _), (6, _), (7, _)] ⟨rfl, rfl, rfl, rfl, rfl, rfl, trivial⟩ ?_
   obtain ⟨kj8, hK14, h⟩ := jn_out h
   have hE14 := Step.r0 (KU (KO ku9_0) (KO ku10_0)) s10
   refine k_cutc (X := St × KeysIndexInt × KeysIndexInt) [(0, v0), (4, .bool false), (5, (.pointer (some ⟨pb11, 0, none⟩))), (6, (.pointer (some ⟨pb12, 0, none⟩))), (7, (.pointer (some ⟨pb13, 0, none⟩)))] (fun (xL : St × KeysIndexInt × KeysIndexInt) => match xL with | (sl, x9, x10) => []) (fun (xL : St × KeysIndexInt × KeysIndexInt) (wL : World) => match xL with | (sl, x9, x10) => sl.w = wL ∧ Step (KU (KO ku9_0) (KO ku10_0)) s10 sl ∧ (OKeysIndexInt sl ku9_0 (.pointer (some ⟨pb12, 0, none⟩)) x9) ∧ (OKeysIndexInt sl ku10_0 (.pointer (some ⟨pb13, 0, none⟩)) x10) ∧ kj8 x9 x10 = some r) ?_ ?_
   ·
    refine k_seq ?_
    refine k_region ?_
    refine k_assign rfl rfl ?_
    refine k_nil ?_
    refine k_block ?_
    refine k_loopc (X := St × Int × KeysIndexInt × KeysIndexInt × Nat) [(0, _), (1, _), (4, _), (5, _), (6, _), (7, _)] (fun (xL : St × Int × KeysIndexInt × KeysIndexInt × Nat) => match xL with | (sl, x11, x12, x13, j) => [(8, .int .i64 x11)]) (fun (xL : St × Int × KeysIndexInt × KeysIndexInt × Nat) (wL : World) => match xL with | (sl, x11, x12, x13, j) => sl.w = wL ∧ Step (KU (KO ku9_0) (KO ku10_0)) s10 sl ∧ (OKeysIndexInt sl ku9_0 (.pointer (some ⟨pb12, 0, none⟩)) x12) ∧ (OKeysIndexInt sl ku10_0 (.pointer (some ⟨pb13, 0, none⟩)) x13) ∧ law12_KeysTwo_l1 a1 kj8 j x11 x12 x13 = some r) (fun (xL : St × Int × KeysIndexInt × KeysIndexInt × Nat) => match xL with | (sl, x11, x12, x13, j) => j) (s10, 0, x6, x7, FU) ⟨rfl, rfl, rfl, rfl, rfl, rfl, trivial⟩ ⟨(by first | rfl | (simp <;> rfl)), trivial⟩ ⟨rfl, (Step.refl _).of0 (by first | exact fun _ h => h | (intro c h; simp [KC, KO, KU, KN, KB] at h <;> omega)), h9_0, h10_0, h⟩ ?_
    rintro ⟨s16, x11, x12, x13, j⟩ wL ⟨rfl, hE15, h9_0, h10_0, h⟩
    cases j with
    | zero => rw [law12_KeysTwo_l1] at h; exact (noneNe h).elim
    | succ j =>
    rw [law12_KeysTwo_l1] at h
    have szs16 := hE15.size
    have hS := hS.c0 hE15
    have hE14 := hE14.c0 hE15
    replace hp1 := hp1.up2 hE15
    refine k_seq ?_
    refine k_seq ?_
    refine k_region ?_
    refine k_move rfl rfl ?_
    refine k_move rfl rfl ?_
    refine k_len Tryd.underlying44 rfl hp1.hasLen rfl ?_
    refine k_as (v := .int .i64 (a1.length : Int)) (by simp only [List.length_map]) ?_
    refine k_lss rfl rfl rfl ?_
    refine k_nil ?_
    refine k_keep [(0, _), (1, _), (4, _), (5, _), (6, _), (7, _), (8, _), (33, _)] ⟨rfl, rfl, rfl, rfl, rfl, rfl, rfl, rfl, trivial⟩ ?_
    refine k_cond_dec rfl (fun c17 => ?_) (fun c17 => ?_)
    ·
     have h := itT h c17
     refine k_skip ?_
     refine k_seq ?_
     refine k_block ?_
     refine k_seq ?_
     refine k_keep [(0, _), (1, _), (4, _), (5, _), (6, _), (7, _), (8, _)] ⟨rfl, rfl, rfl, rfl, rfl, rfl, rfl, trivial⟩ ?_
     refine k_drawT (KN s16.n) 11 (.read 0 (.read 1 (.read 2 (.read 3 (.read 4 (.read 5 (.read 6 (.read 7 (.read 8 (.read 9 (.read 10 .fin))))))))))) mixed (by intro c h; (try simp only [KC, KO, KU, KN, KB] at h) <;> omega) rfl rfl rfl ?_
     intro s18 st18
     have szs18 := st18.size
     have hS := hS.trans0 st18
     have hE14 := hE14.trans0 st18
     have hE15 := hE15.trans0 st18
     replace hp1 := hp1.up2 st18
     replace h9_0 := h9_0.up2 st18
     replace h10_0 := h10_0.up2 st18
     refine rt_read ((.pointer (some ⟨pb12, 0, none⟩))) rfl rfl (fun s19 st19 => ?_) ?_
     ·refine k_move rfl rfl ?_
      exact fq_end
     refine rt_read (v1) rfl rfl (fun s20 st20 => ?_) ?_
     ·refine k_move rfl rfl ?_
      exact fq_end
     refine rt_read (.int .i64 x11) rfl rfl (fun s21 st21 => ?_) ?_
     ·refine k_move rfl rfl ?_
      exact fq_end
     obtain ⟨x14, hx14, h⟩ := ob h
     refine rt_ix rfl (wanted_none rfl) Tryd.underlying44 size47 rfl rfl hp1 (geti_out hx14).1 (geti_map hx14) rfl ?_
     intro q22 hq22
     refine rt_fa rfl (wanted_none rfl) rfl hq22 (by rfl) fld47_2 rfl ?_
     intro q23 h23
     refine rt_read (S x14.Key) rfl rfl (fun s24 st24 => ?_) ?_
     ·try replace h23 := h23.up2 st24
      refine k_load_val one9 rfl h23 rfl ?_
      exact fq_end
     refine rt_read (v1) rfl rfl (fun s25 st25 => ?_) ?_
     ·refine k_move rfl rfl ?_
      exact fq_end
     refine rt_read (.int .i64 x11) rfl rfl (fun s26 st26 => ?_) ?_
     ·refine k_move rfl rfl ?_
      exact fq_end
     obtain ⟨x15, hx15, h⟩ := ob h
     refine rt_ix rfl (wanted_none rfl) Tryd.underlying44 size47 rfl rfl hp1 (geti_out hx15).1 (geti_map hx15) rfl ?_
     intro q27 hq27
     refine rt_fa rfl (wanted_none rfl) rfl hq27 (by rfl) fld47_1 rfl ?_
     intro q28 h28
     refine rt_read (.int .i64 x15.V) rfl rfl (fun s29 st29 => ?_) ?_
     ·try replace h28 := h28.up2 st29
      refine k_load_val one3 rfl h28 rfl ?_
      exact fq_end
     refine rt_fin ?_
     obtain ⟨x16, hx16, h⟩ := ob h
     refine k_call cal11 rfl (keys_Index_int_Set_w  h9_0 hx16) rfl ?_
     rintro s30 vr30 st30 ⟨rfl, h9_0⟩
     have szs30 := st30.size
     have hS := hS.c0 st30
     have hE14 := hE14.c0 st30
     have hE15 := hE15.c0 st30
     replace hp1 := hp1.up2 st30
     replace h10_0 := h10_0.up2 st30
     refine k_nil ?_
     refine k_keep [(0, _), (1, _), (4, _), (5, _), (6, _), (7, _), (8, _)] ⟨rfl, rfl, rfl, rfl, rfl, rfl, rfl, trivial⟩ ?_
     refine k_drawT (KN s30.n) 11 (.read 0 (.read 1 (.read 2 (.read 3 (.read 4 (.read 5 (.read 6 (.read 7 (.read 8 (.read 9 (.read 10 .fin))))))))))) mixed (by intro c h; (try simp only [KC, KO, KU, KN, KB] at h) <;> omega) rfl rfl rfl ?_
     intro s31 st31
     have szs31 := st31.size
     have hS := hS.trans0 st31
     have hE14 := hE14.trans0 st31
     have hE15 := hE15.trans0 st31
     replace hp1 := hp1.up2 st31
     replace h9_0 := h9_0.up2 st31
     replace h10_0 := h10_0.up2 st31
     refine rt_read ((.pointer (some ⟨pb13, 0, none⟩))) rfl rfl (fun s32 st32 => ?_) ?_
     ·refine k_move rfl rfl ?_
      exact fq_end
     refine rt_read (v1) rfl rfl (fun s33 st33 => ?_) ?_
     ·refine k_move rfl rfl ?_
      exact fq_end
     refine rt_read (.int .i64 x11) rfl rfl (fun s34 st34 => ?_) ?_
     ·refine k_move rfl rfl ?_
      exact fq_end
     obtain ⟨x17, hx17, h⟩ := ob h
     refine rt_ix rfl (wanted_none rfl) Tryd.underlying44 size47 rfl rfl hp1 (geti_out hx17).1 (geti_map hx17) rfl ?_
     intro q35 hq35
     refine rt_fa rfl (wanted_none rfl) rfl hq35 (by rfl) fld47_2 rfl ?_
     intro q36 h36
     refine rt_read (S x17.Key) rfl rfl (fun s37 st37 => ?_) ?_
     ·try replace h36 := h36.up2 st37
      refine k_load_val one9 rfl h36 rfl ?_
      exact fq_end
     refine rt_read (v1) rfl rfl (fun s38 st38 => ?_) ?_
     ·refine k_move rfl rfl ?_
      exact fq_end
     refine rt_read (.int .i64 x11) rfl rfl (fun s39 st39 => ?_) ?_
     ·refine k_move rfl rfl ?_
      exact fq_end
     obtain ⟨x18, hx18, h⟩ := ob h
     refine rt_ix rfl (wanted_none rfl) Tryd.underlying44 size47 rfl rfl hp1 (geti_out hx18).1 (geti_map hx18) rfl ?_
     intro q40 hq40
     refine rt_fa rfl (wanted_none rfl) rfl hq40 (by rfl) fld47_1 rfl ?_
     intro q41 h41
     refine rt_read (.int .i64 x18.V) rfl rfl (fun s42 st42 => ?_) ?_
     ·try replace h41 := h41.up2 st42
      refine k_load_val one3 rfl h41 rfl ?_
      exact fq_end
     refine rt_fin ?_
     obtain ⟨x19, hx19, h⟩ := ob h
     refine k_call cal11 rfl (keys_Index_int_Set_w  h10_0 hx19) rfl ?_
     rintro s43 vr43 st43 ⟨rfl, h10_0⟩
     have szs43 := st43.size
     have hS := hS.c0 st43
     have hE14 := hE14.c0 st43
     have hE15 := hE15.c0 st43
     replace h9_0 := h9_0.up2 st43
     refine k_nil ?_
     refine k_blk ?_
     refine k_region ?_
     refine k_move rfl rfl ?_
     refine k_add rfl rfl rfl ?_
     refine k_assign rfl rfl ?_
     refine k_nil ?_
     exact k_stop ⟨(s43, i64 (x11 + 1), x16.2, x19.2, j), ⟨(by first | rfl | (simp <;> rfl)), trivial⟩, ⟨rfl, rfl, rfl, rfl, rfl, rfl, trivial⟩, ⟨rfl, hE15, h9_0, h10_0, h⟩, (by simp)⟩
    ·
     have h := itF h c17
     refine k_exit rfl ?_
     exact k_stop ⟨(s16, x12, x13), trivial, ⟨rfl, rfl, rfl, rfl, rfl, trivial⟩, ⟨rfl, hE14, h9_0, h10_0, h⟩⟩
   ·
    rintro ⟨s44, x9, x10⟩ wL ⟨rfl, hE14, h9_0, h10_0, h⟩
    rw [hK14] at h
    have szs44 := hE14.size
    have hS := hS.c0 hE14
    replace hp0 := hp0.up2 hE14
    replace h8_0 := h8_0.up2 hE14
    replace tb0 := tb0.up2 hE14
    refine k_seq ?_
    obtain ⟨kj20, hK45, h⟩ := jn_out h
    have hE45 := Step.r0 (KU (KO ku8_0) (KO ku10_0)) s44
    refine k_cutc (X := St × KeysIndexInt × KeysIndexInt) [(4, .bool false), (5, (.pointer (some ⟨pb11, 0, none⟩))), (6, (.pointer (some ⟨pb12, 0, none⟩))), (7, (.pointer (some ⟨pb13, 0, none⟩)))] (fun (xL : St × KeysIndexInt × KeysIndexInt) => match xL with | (sl, x21, x22) => []) (fun (xL : St × KeysIndexInt × KeysIndexInt) (wL : World) => match xL with | (sl, x21, x22) => sl.w = wL ∧ Step (KU (KO ku8_0) (KO ku10_0)) s44 sl ∧ (OKeysIndexInt sl ku8_0 (.pointer (some ⟨pb11, 0, none⟩)) x21) ∧ (OKeysIndexInt sl ku10_0 (.pointer (some ⟨pb13, 0, none⟩)) x22) ∧ kj20 x21 x22 = some r) ?_ ?_
    ·
     refine k_seq ?_
     refine k_region ?_
     refine k_assign rfl rfl ?_
     refine k_nil ?_
     refine k_block ?_
     refine k_loopc (X := St × Int × KeysIndexInt × KeysIndexInt × Nat) [(0, _), (4, _), (5, _), (6, _), (7, _)] (fun (xL : St × Int × KeysIndexInt × KeysIndexInt × Nat) => match xL with | (sl, x23, x24, x25, j) => [(9, .int .i64 x23)]) (fun (xL : St × Int × KeysIndexInt × KeysIndexInt × Nat) (wL : World) => match xL with | (sl, x23, x24, x25, j) => sl.w = wL ∧ Step (KU (KO ku8_0) (KO ku10_0)) s44 sl ∧ (OKeysIndexInt sl ku8_0 (.pointer (some ⟨pb11, 0, none⟩)) x24) ∧ (OKeysIndexInt sl ku10_0 (.pointer (some ⟨pb13, 0, none⟩)) x25) ∧ law12_KeysTwo_l2 a0 kj20 j x23 x24 x25 = some r) (fun (xL : St × Int × KeysIndexInt × KeysIndexInt × Nat) => match xL with | (sl, x23, x24, x25, j) => j) (s44, 0, x5, x10, FU) ⟨rfl, rfl, rfl, rfl, rfl, trivial⟩ ⟨(by first | rfl | (simp <;> rfl)), trivial⟩ ⟨rfl, (Step.refl _).of0 (by first | exact fun _ h => h | (intro c h; simp [KC, KO, KU, KN, KB] at h <;> omega)), h8_0, h10_0, h⟩ ?_
     rintro ⟨s47, x23, x24, x25, j⟩ wL ⟨rfl, hE46, h8_0, h10_0, h⟩
     cases j with
     | zero => rw [law12_KeysTwo_l2] at h; exact (noneNe h).elim
     | succ j =>
     rw [law12_KeysTwo_l2] at h
     have szs47 := hE46.size
     have hS := hS.c0 hE46
     have hE45 := hE45.c0 hE46
     replace hp0 := hp0.up2 hE46
     refine k_seq ?_
     refine k_seq ?_
     refine k_region ?_
     refine k_move rfl rfl ?_
     refine k_move rfl rfl ?_
     refine k_len Tryd.underlying44 rfl hp0.hasLen rfl ?_
     refine k_as (v := .int .i64 (a0.length : Int)) (by simp only [List.length_map]) ?_
     refine k_lss rfl rfl rfl ?_
     refine k_nil ?_
     refine k_keep [(0, _), (4, _), (5, _), (6, _), (7, _), (9, _), (63, _)] ⟨rfl, rfl, rfl, rfl, rfl, rfl, rfl, trivial⟩ ?_
     refine k_cond_dec rfl (fun c48 => ?_) (fun c48 => ?_)
     ·
      have h := itT h c48
      refine k_skip ?_
      refine k_seq ?_
      refine k_block ?_
      refine k_seq ?_
      refine k_keep [(0, _), (4, _), (5, _), (6, _), (7, _), (9, _)] ⟨rfl, rfl, rfl, rfl, rfl, rfl, trivial⟩ ?_
      refine k_drawT (KN s47.n) 11 (.read 0 (.read 1 (.read 2 (.read 3 (.read 4 (.read 5 (.read 6 (.read 7 (.read 8 (.read 9 (.read 10 .fin))))))))))) mixed (by intro c h; (try simp only [KC, KO, KU, KN, KB] at h) <;> omega) rfl rfl rfl ?_
      intro s49 st49
      have szs49 := st49.size
      have hS := hS.trans0 st49
      have hE45 := hE45.trans0 st49
      have hE46 := hE46.trans0 st49
      replace hp0 := hp0.up2 st49
      replace h8_0 := h8_0.up2 st49
      replace h10_0 := h10_0.up2 st49
      refine rt_read ((.pointer (some ⟨pb11, 0, none⟩))) rfl rfl (fun s50 st50 => ?_) ?_
      ·refine k_move rfl rfl ?_
       exact fq_end
      refine rt_read (v0) rfl rfl (fun s51 st51 => ?_) ?_
      ·refine k_move rfl rfl ?_
       exact fq_end
      refine rt_read (.int .i64 x23) rfl rfl (fun s52 st52 => ?_) ?_
      ·refine k_move rfl rfl ?_
       exact fq_end
      obtain ⟨x26, hx26, h⟩ := ob h
      refine rt_ix rfl (wanted_none rfl) Tryd.underlying44 size47 rfl rfl hp0 (geti_out hx26).1 (geti_map hx26) rfl ?_
      intro q53 hq53
      refine rt_fa rfl (wanted_none rfl) rfl hq53 (by rfl) fld47_2 rfl ?_
      intro q54 h54
      refine rt_read (S x26.Key) rfl rfl (fun s55 st55 => ?_) ?_
      ·try replace h54 := h54.up2 st55
       refine k_load_val one9 rfl h54 rfl ?_
       exact fq_end
      refine rt_read (v0) rfl rfl (fun s56 st56 => ?_) ?_
      ·refine k_move rfl rfl ?_
       exact fq_end
      refine rt_read (.int .i64 x23) rfl rfl (fun s57 st57 => ?_) ?_
      ·refine k_move rfl rfl ?_
       exact fq_end
      obtain ⟨x27, hx27, h⟩ := ob h
      refine rt_ix rfl (wanted_none rfl) Tryd.underlying44 size47 rfl rfl hp0 (geti_out hx27).1 (geti_map hx27) rfl ?_
      intro q58 hq58
      refine rt_fa rfl (wanted_none rfl) rfl hq58 (by rfl) fld47_1 rfl ?_
      intro q59 h59
      refine rt_read (.int .i64 x27.V) rfl rfl (fun s60 st60 => ?_) ?_
      ·try replace h59 := h59.up2 st60
       refine k_load_val one3 rfl h59 rfl ?_
       exact fq_end
      refine rt_fin ?_
      obtain ⟨x28, hx28, h⟩ := ob h
      refine k_call cal11 rfl (keys_Index_int_Set_w  h8_0 hx28) rfl ?_
      rintro s61 vr61 st61 ⟨rfl, h8_0⟩
      have szs61 := st61.size
      have hS := hS.c0 st61
      have hE45 := hE45.c0 st61
      have hE46 := hE46.c0 st61
      replace hp0 := hp0.up2 st61
      replace h10_0 := h10_0.up2 st61
      refine k_nil ?_
      refine k_keep [(0, _), (4, _), (5, _), (6, _), (7, _), (9, _)] ⟨rfl, rfl, rfl, rfl, rfl, rfl, trivial⟩ ?_
      refine k_drawT (KN s61.n) 11 (.read 0 (.read 1 (.read 2 (.read 3 (.read 4 (.read 5 (.read 6 (.read 7 (.read 8 (.read 9 (.read 10 .fin))))))))))) mixed (by intro c h; (try simp only [KC, KO, KU, KN, KB] at h) <;> omega) rfl rfl rfl ?_
      intro s62 st62
      have szs62 := st62.size
      have hS := hS.trans0 st62
      have hE45 := hE45.trans0 st62
      have hE46 := hE46.trans0 st62
      replace hp0 := hp0.up2 st62
      replace h8_0 := h8_0.up2 st62
      replace h10_0 := h10_0.up2 st62
      refine rt_read ((.pointer (some ⟨pb13, 0, none⟩))) rfl rfl (fun s63 st63 => ?_) ?_
      ·refine k_move rfl rfl ?_
       exact fq_end
      refine rt_read (v0) rfl rfl (fun s64 st64 => ?_) ?_
      ·refine k_move rfl rfl ?_
       exact fq_end
      refine rt_read (.int .i64 x23) rfl rfl (fun s65 st65 => ?_) ?_
      ·refine k_move rfl rfl ?_
       exact fq_end
      obtain ⟨x29, hx29, h⟩ := ob h
      refine rt_ix rfl (wanted_none rfl) Tryd.underlying44 size47 rfl rfl hp0 (geti_out hx29).1 (geti_map hx29) rfl ?_
      intro q66 hq66
      refine rt_fa rfl (wanted_none rfl) rfl hq66 (by rfl) fld47_2 rfl ?_
      intro q67 h67
      refine rt_read (S x29.Key) rfl rfl (fun s68 st68 => ?_) ?_
      ·try replace h67 := h67.up2 st68
       refine k_load_val one9 rfl h67 rfl ?_
       exact fq_end
      refine rt_read (v0) rfl rfl (fun s69 st69 => ?_) ?_
      ·refine k_move rfl rfl ?_
       exact fq_end
      refine rt_read (.int .i64 x23) rfl rfl (fun s70 st70 => ?_) ?_
      ·refine k_move rfl rfl ?_
       exact fq_end
      obtain ⟨x30, hx30, h⟩ := ob h
      refine rt_ix rfl (wanted_none rfl) Tryd.underlying44 size47 rfl rfl hp0 (geti_out hx30).1 (geti_map hx30) rfl ?_
      intro q71 hq71
      refine rt_fa rfl (wanted_none rfl) rfl hq71 (by rfl) fld47_1 rfl ?_
      intro q72 h72
      refine rt_read (.int .i64 x30.V) rfl rfl (fun s73 st73 => ?_) ?_
      ·try replace h72 := h72.up2 st73
       refine k_load_val one3 rfl h72 rfl ?_
       exact fq_end
      refine rt_fin ?_
      obtain ⟨x31, hx31, h⟩ := ob h
      refine k_call cal11 rfl (keys_Index_int_Set_w  h10_0 hx31) rfl ?_
      rintro s74 vr74 st74 ⟨rfl, h10_0⟩
      have szs74 := st74.size
      have hS := hS.c0 st74
      have hE45 := hE45.c0 st74
      have hE46 := hE46.c0 st74
      replace h8_0 := h8_0.up2 st74
      refine k_nil ?_
      refine k_blk ?_
      refine k_region ?_
      refine k_move rfl rfl ?_
      refine k_add rfl rfl rfl ?_
      refine k_assign rfl rfl ?_
      refine k_nil ?_
      exact k_stop ⟨(s74, i64 (x23 + 1), x28.2, x31.2, j), ⟨(by first | rfl | (simp <;> rfl)), trivial⟩, ⟨rfl, rfl, rfl, rfl, rfl, trivial⟩, ⟨rfl, hE46, h8_0, h10_0, h⟩, (by simp)⟩
     ·
      have h := itF h c48
      refine k_exit rfl ?_
      exact k_stop ⟨(s47, x24, x25), trivial, ⟨rfl, rfl, rfl, rfl, trivial⟩, ⟨rfl, hE45, h8_0, h10_0, h⟩⟩
    ·
     rintro ⟨s75, x21, x22⟩ wL ⟨rfl, hE45, h8_0, h10_0, h⟩
     rw [hK45] at h
     have szs75 := hE45.size
     have hS := hS.c0 hE45
     replace h9_0 := h9_0.up2 hE45
     replace tb0 := tb0.up2 hE45
     refine k_seq ?_
     refine k_region ?_
     refine k_move rfl rfl ?_
     refine k_move rfl rfl ?_
     refine k_bslice_raw (vs := [(.pointer (some ⟨pb11, 0, none⟩)), (.pointer (some ⟨pb12, 0, none⟩))]) slc24 rfl rfl (List.forall_mem_cons.2 ⟨rfl, (List.forall_mem_cons.2 ⟨rfl, (fun _ h => nomatch h)⟩)⟩) rfl rfl ?_
     intro s76 b76 st76 ge76 bl76 h76
     have szs76 := st76.size
     have hS := hS.trans0 st76
     replace h8_0 := h8_0.up2 st76
     replace h9_0 := h9_0.up2 st76
     replace h10_0 := h10_0.up2 st76
     replace tb0 := tb0.up2 st76
     obtain ⟨x32, hx32, h⟩ := ob h
     refine k_call cal16 rfl (keys_Merge_int_qoo_w  h8_0 h9_0 h76 hx32) rfl ?_
     rintro s77 vr77 st77 ⟨ub77_0_0, rfl, hg77_0_0, h77_0_0⟩
     have szs77 := st77.size
     have hS := hS.trans0 st77
     replace h8_0 := h8_0.up2 st77
     replace h9_0 := h9_0.up2 st77
     replace h10_0 := h10_0.up2 st77
     replace h76 := h76.up2 st77
     replace tb0 := tb0.up2 st77
     obtain ⟨x33, hx33, h⟩ := ob h
     refine k_call cal15 rfl (law12_row_c31qoo_w  h8_0 h9_0 h76 h77_0_0 hx33) rfl ?_
     rintro s78 v78_0 st78 ⟨_, rfl, h78_0⟩
     have szs78 := st78.size
     have hS := hS.trans0 st78
     replace h10_0 := h10_0.up2 st78
     replace tb0 := tb0.up2 st78
     refine k_move rfl rfl ?_
     obtain ⟨x34, hx34, h⟩ := ob h
     refine k_call cal21 rfl (keys_Index_int_Scan_w  h10_0 hx34) rfl ?_
     rintro s79 vr79 st79 ⟨ub79_0_0, ub79_0_1, ub79_0_2, rfl, hg79_0_0, h79_0_0, hg79_0_1, h79_0_1, hg79_0_2, h79_0_2⟩
     have szs79 := st79.size
     have hS := hS.trans0 st79
     replace h78_0 := h78_0.up2 st79
     replace h10_0 := h10_0.up2 st79
     replace tb0 := tb0.up2 st79
     obtain ⟨x35, hx35, h⟩ := ob h
     refine k_call cal15 rfl (law12_row_c39_w  h79_0_0 h10_0 h79_0_1 h79_0_2 hx35) rfl ?_
     rintro s80 v80_0 st80 ⟨_, rfl, h80_0⟩
     have szs80 := st80.size
     have hS := hS.trans0 st80
     replace h78_0 := h78_0.up2 st80
     replace tb0 := tb0.up2 st80
     obtain ⟨x36, hx36, h⟩ := ob h
     refine k_call cal14 rfl (law12_same_w  (SL.of_R h78_0) (SL.of_R h80_0) hx36) rfl ?_
     rintro s81 vr81 st81 rfl
     have szs81 := st81.size
     have hS := hS.trans0 st81
     replace tb0 := tb0.up2 st81
     refine k_move rfl rfl ?_
     obtain ⟨x37, hx37, h⟩ := ob h
     have hE82 := Step.r0 K0 s81
     refine k_cutl (X := St) 2 [(4, .bool false), (5, (.pointer (some ⟨pb11, 0, none⟩))), (6, (.pointer (some ⟨pb12, 0, none⟩))), (7, (.pointer (some ⟨pb13, 0, none⟩))), (90, (.pointer (some ⟨pb11, 0, none⟩))), (91, (.pointer (some ⟨pb12, 0, none⟩))), (92, .slice (some ⟨b76, 0, none⟩) 2 2), (93, .func (.func 31) #[] #[.pointer (some ⟨ub77_0_0, 0, none⟩)]), (94, v78_0), (95, (.pointer (some ⟨pb13, 0, none⟩))), (96, .func (.func 39) #[] #[.pointer (some ⟨ub79_0_0, 0, none⟩), .pointer (some ⟨ub79_0_1, 0, none⟩), .pointer (some ⟨ub79_0_2, 0, none⟩)]), (97, v80_0), (98, .bool x36)] (fun _ => [(101, .bool x37)]) (fun sl wL => sl.w = wL ∧ Step K0 s81 sl) ?_ ?_
     ·
      refine k_again 99 rfl ?_
      refine k_splitb (fun c83 => ?_) (fun c83 => ?_)
      ·
       have hx37 := ibT hx37 c83
       refine k_yes rfl rfl ?_
       obtain ⟨x38, hx38, hx37⟩ := ob hx37
       refine k_call cal9 rfl (law12_awake_w  tb0 hx38) rfl ?_
       rintro s84 vr84 st84 rfl
       have szs84 := st84.size
       have hS := hS.trans0 st84
       have hE82 := hE82.trans0 st84
       refine k_pickT rfl rfl rfl rfl ?_
       exact k_met ⟨s84, ⟨(congrArg (fun b => some (Value.bool b)) (Option.some.inj hx37)), trivial⟩, ⟨rfl, rfl, rfl, rfl, rfl, rfl, rfl, rfl, rfl, rfl, rfl, rfl, rfl, trivial⟩, rfl, hE82⟩
      ·
       have hx37 := ibF hx37 c83
       refine k_no rfl rfl rfl rfl ?_
       refine k_pickF rfl rfl rfl rfl ?_
       exact k_met ⟨s81, ⟨(congrArg (fun b => some (Value.bool b)) (Option.some.inj hx37)), trivial⟩, ⟨rfl, rfl, rfl, rfl, rfl, rfl, rfl, rfl, rfl, rfl, rfl, rfl, rfl, trivial⟩, rfl, hE82⟩
     ·
      rintro s85 wL ⟨rfl, hE82⟩
      have szs85 := hE82.size
      have hS := hS.trans0 hE82
      refine k_assign rfl rfl ?_
      refine k_nil ?_
      refine k_keep [(4, _)] ⟨rfl, trivial⟩ ?_
      refine k_ret ?_
      obtain rfl := Option.some.inj h
      refine ⟨_, rfl, Ret.mk hS ?_⟩
      exact rfl
end Go.Proofs
