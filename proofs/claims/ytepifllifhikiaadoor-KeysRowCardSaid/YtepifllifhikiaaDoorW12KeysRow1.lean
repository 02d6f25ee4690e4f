import Derived.Test.YtepifllifhikiaaDoorW12KeysRow0
set_option linter.unusedSimpArgs false
set_option linter.unusedVariables false
namespace Go.Proofs
open Go.Fw
set_option maxHeartbeats 1000000 in
set_option maxRecDepth 100000 in
theorem law12_KeysRow_w {s : St} {v0 : Value} {a0 : (List Law12Act)} {a1 : (List UInt8)} {a2 : (List UInt8)} {r : Bool} (hp0 : R s v0 (.sl 4 (a0.map dLaw12Act))) (tb0 : Tab0 s) (h : law12_KeysRow a0 a1 a2 = some r) : Calls Tryd.prog 6 #[v0, S a1, S a2] s.w (Ret s K0 (fun s1 v => v = .bool r)) := by
 unfold law12_KeysRow at h
 have hS := Step.r0 K0 s
 refine k_fn (rs := [6]) (args := [v0, S a1, S a2]) Tryd.func6 rfl rfl rfl rfl ?_
 refine k_seq ?_
 refine k_region ?_
 refine k_assign rfl rfl ?_
 refine k_nil ?_
 refine k_seq ?_
 refine k_seq ?_
 refine k_region ?_
 refine k_move rfl rfl ?_
 obtain ⟨x1, hx1, h⟩ := ob h
 refine k_call cal20 rfl (law12_long_w  (SL.of_R hp0) hx1) rfl ?_
 rintro s1 vr1 st1 rfl
 have szs1 := st1.size
 have hS := hS.trans0 st1
 replace hp0 := hp0.up2 st1
 replace tb0 := tb0.up2 st1
 refine k_move rfl rfl ?_
 have hE2 := Step.r0 K0 s1
 refine k_cutl (X := St) 7 [(0, v0), (1, S a1), (2, S a2), (6, .bool false), (19, v0), (20, .bool x1)] (fun _ => [(28, .bool (decide ((x1 = true) ∨ (1000 < i64 ((a1.length : Int) + (a2.length : Int))))))]) (fun sl wL => sl.w = wL ∧ Step K0 s1 sl) ?_ ?_
 ·
  refine k_again 21 rfl ?_
  refine k_splitb (fun c3 => ?_) (fun c3 => ?_)
  ·
   refine k_no rfl rfl rfl rfl ?_
   refine k_no rfl rfl rfl rfl ?_
   refine k_no rfl rfl rfl rfl ?_
   refine k_no rfl rfl rfl rfl ?_
   refine k_no rfl rfl rfl rfl ?_
   refine k_no rfl rfl rfl rfl ?_
   refine k_pickT rfl rfl rfl rfl ?_
   exact k_met ⟨s1, ⟨(congrArg (fun b => some (Value.bool b)) (by first | exact decide_eq_decide.2 ⟨Or.inr, fun h => h.resolve_left c3⟩ | exact (decide_eq_true (Or.inl c3)).symm | (simp [c3]; done) | (simp [c3, i64] <;> omega))), trivial⟩, ⟨rfl, rfl, rfl, rfl, rfl, rfl, trivial⟩, rfl, hE2⟩
  ·
   refine k_yes rfl rfl ?_
   refine k_move rfl rfl ?_
   refine k_yes rfl rfl ?_
   refine k_len_str Tryd.underlying9 rfl rfl ?_
   refine k_yes rfl rfl ?_
   refine k_move rfl rfl ?_
   refine k_yes rfl rfl ?_
   refine k_len_str Tryd.underlying9 rfl rfl ?_
   refine k_yes rfl rfl ?_
   refine k_add rfl rfl rfl ?_
   refine k_yes rfl rfl ?_
   refine k_gtr rfl rfl rfl ?_
   refine k_pickF rfl rfl rfl rfl ?_
   exact k_met ⟨s1, ⟨(congrArg (fun b => some (Value.bool b)) (by first | exact decide_eq_decide.2 ⟨Or.inr, fun h => h.resolve_left c3⟩ | exact (decide_eq_true (Or.inl c3)).symm | (simp [c3]; done) | (simp [c3, i64] <;> omega))), trivial⟩, ⟨rfl, rfl, rfl, rfl, rfl, rfl, trivial⟩, rfl, hE2⟩
 ·
  rintro s4 wL ⟨rfl, hE2⟩
  have szs4 := hE2.size
  have hS := hS.trans0 hE2
  replace hp0 := hp0.up2 hE2
  replace tb0 := tb0.up2 hE2
  refine k_nil ?_
  refine k_keep [(0, _), (1, _), (2, _), (6, _), (28, _)] ⟨rfl, rfl, rfl, rfl, rfl, trivial⟩ ?_
  refine k_cond_dec rfl (fun c5 => ?_) (fun c5 => ?_)
  ·
   have h := itT h c5
   refine k_seq ?_
   refine k_region ?_
   obtain ⟨x2, hx2, h⟩ := ob h
   refine k_call cal9 rfl (law12_awake_w  tb0 hx2) rfl ?_
   rintro s6 vr6 st6 rfl
   have szs6 := st6.size
   have hS := hS.trans0 st6
   refine k_assign rfl rfl ?_
   refine k_nil ?_
   refine k_keep [(0, _), (1, _), (2, _), (6, _)] ⟨rfl, rfl, rfl, rfl, trivial⟩ ?_
   refine k_ret ?_
   obtain rfl := Option.some.inj h
   refine ⟨_, rfl, Ret.mk hS ?_⟩
   exact rfl
  ·
   have h := itF h c5
   refine k_skip ?_
   refine k_seq ?_
   refine k_region ?_
   obtain ⟨x3, hx3, h⟩ := ob h
   refine k_call cal10 rfl (keys_New_int_w   hx3) rfl ?_
   rintro s7 v7_0 st7 ⟨ku7_0, _, rfl, hk7_0, h7_0⟩
   have szs7 := st7.size
   have hS := hS.trans0 st7
   replace hp0 := hp0.up2 st7
   replace tb0 := tb0.up2 st7
   have le7_0 := h7_0.le
   have ne7_0 := h7_0.ne
   refine k_assign rfl rfl ?_
   refine k_nil ?_
   refine k_keep [(0, _), (1, _), (2, _), (6, _), (7, _)] ⟨rfl, rfl, rfl, rfl, rfl, trivial⟩ ?_
   refine k_seq ?_
   refine k_seq ?_
   refine k_region ?_
   refine k_move rfl rfl ?_
   obtain ⟨pb8, rfl⟩ := h7_0.ptr
   refine k_eql_pnil Tryd.underlying26 rfl rfl rfl ?_
   refine k_nil ?_
   refine k_keep [(0, _), (1, _), (2, _), (6, _), (7, _), (32, _)] ⟨rfl, rfl, rfl, rfl, rfl, rfl, trivial⟩ ?_
   refine k_cond_false rfl ?_
   refine k_skip ?_
   refine k_seq ?_
   refine k_keep [(0, _), (1, _), (2, _), (6, _), (7, _)] ⟨rfl, rfl, rfl, rfl, rfl, trivial⟩ ?_
   obtain ⟨kj4, hK9, h⟩ := jn_out h
   have hE9 := Step.r0 (KO ku7_0) s7
   refine k_cutc (X := St × KeysIndexInt) [(0, v0), (1, S a1), (2, S a2), (6, .bool false), (7, (.pointer (some ⟨pb8, 0, none⟩)))] (fun (xL : St × KeysIndexInt) => match xL with | (sl, x5) => []) (fun (xL : St × KeysIndexInt) (wL : World) => match xL with | (sl, x5) => sl.w = wL ∧ Step (KO ku7_0) s7 sl ∧ (OKeysIndexInt sl ku7_0 (.pointer (some ⟨pb8, 0, none⟩)) x5) ∧ kj4 x5 = some r) ?_ ?_
   ·
    refine k_seq ?_
    refine k_region ?_
    refine k_assign rfl rfl ?_
    refine k_nil ?_
    refine k_block ?_
    refine k_loopc (X := St × Int × KeysIndexInt × Nat) [(0, _), (1, _), (2, _), (6, _), (7, _)] (fun (xL : St × Int × KeysIndexInt × Nat) => match xL with | (sl, x6, x7, j) => [(8, .int .i64 x6)]) (fun (xL : St × Int × KeysIndexInt × Nat) (wL : World) => match xL with | (sl, x6, x7, j) => sl.w = wL ∧ Step (KO ku7_0) s7 sl ∧ (OKeysIndexInt sl ku7_0 (.pointer (some ⟨pb8, 0, none⟩)) x7) ∧ law12_KeysRow_l1 a0 kj4 j x6 x7 = some r) (fun (xL : St × Int × KeysIndexInt × Nat) => match xL with | (sl, x6, x7, j) => j) (s7, 0, x3, FU) ⟨rfl, rfl, rfl, rfl, rfl, trivial⟩ ⟨(by first | rfl | (simp <;> rfl)), trivial⟩ ⟨rfl, (Step.refl _).of0 (by first | exact fun _ h => h | (intro c h; simp [KC, KO, KU, KN, KB] at h <;> omega)), h7_0, h⟩ ?_
    rintro ⟨s11, x6, x7, j⟩ wL ⟨rfl, hE10, h7_0, h⟩
    cases j with
    | zero => rw [law12_KeysRow_l1] at h; exact (noneNe h).elim
    | succ j =>
    rw [law12_KeysRow_l1] at h
    have szs11 := hE10.size
    have hS := hS.c0 hE10
    have hE9 := hE9.c0 hE10
    replace hp0 := hp0.up2 hE10
    refine k_seq ?_
    refine k_seq ?_
    refine k_region ?_
    refine k_move rfl rfl ?_
    refine k_move rfl rfl ?_
    refine k_len Tryd.underlying44 rfl (SL.of_R hp0).hasLen rfl ?_
    refine k_as (v := .int .i64 (a0.length : Int)) (by simp only [List.length_map]) ?_
    refine k_lss rfl rfl rfl ?_
    refine k_nil ?_
    refine k_keep [(0, _), (1, _), (2, _), (6, _), (7, _), (8, _), (36, _)] ⟨rfl, rfl, rfl, rfl, rfl, rfl, rfl, trivial⟩ ?_
    refine k_cond_dec rfl (fun c12 => ?_) (fun c12 => ?_)
    ·
     have h := itT h c12
     refine k_skip ?_
     refine k_seq ?_
     refine k_block ?_
     refine k_seq ?_
     refine k_region ?_
     refine k_move rfl rfl ?_
     refine k_move rfl rfl ?_
     obtain ⟨x8, hx8, h⟩ := ob h
     refine k_ixaddr Tryd.underlying44 size47 rfl rfl (SL.of_R hp0) (geti_out hx8).1 (geti_map hx8) rfl ?_
     intro qx8 hqx8
     refine k_field_at (o := 0) rfl hqx8 (by rfl) fld47_0 rfl ?_
     intro q13 h13
     refine k_load_val one3 rfl h13 rfl ?_
     refine k_eql rfl rfl rfl ?_
     refine k_nil ?_
     refine k_keep [(0, _), (1, _), (2, _), (6, _), (7, _), (8, _), (44, _)] ⟨rfl, rfl, rfl, rfl, rfl, rfl, rfl, trivial⟩ ?_
     refine k_cond_dec rfl (fun c14 => ?_) (fun c14 => ?_)
     ·
      have h := itT h c14
      refine k_keep [(0, _), (1, _), (2, _), (6, _), (7, _), (8, _)] ⟨rfl, rfl, rfl, rfl, rfl, rfl, trivial⟩ ?_
      refine k_drawT (KN s11.n) 11 (.read 0 (.read 1 (.read 2 (.read 3 (.read 4 (.read 5 (.read 6 (.read 7 (.read 8 (.read 9 (.read 10 .fin))))))))))) mixed (by intro c h; (try simp only [KC, KO, KU, KN, KB] at h) <;> omega) rfl rfl rfl ?_
      intro s15 st15
      have szs15 := st15.size
      have hS := hS.trans0 st15
      have hE9 := hE9.trans0 st15
      have hE10 := hE10.trans0 st15
      replace hp0 := hp0.up2 st15
      replace h7_0 := h7_0.up2 st15
      refine rt_read ((.pointer (some ⟨pb8, 0, none⟩))) rfl rfl (fun s16 st16 => ?_) ?_
      ·refine k_move rfl rfl ?_
       exact fq_end
      refine rt_read (v0) rfl rfl (fun s17 st17 => ?_) ?_
      ·refine k_move rfl rfl ?_
       exact fq_end
      refine rt_read (.int .i64 x6) rfl rfl (fun s18 st18 => ?_) ?_
      ·refine k_move rfl rfl ?_
       exact fq_end
      obtain ⟨x9, hx9, h⟩ := ob h
      refine rt_ix rfl (wanted_none rfl) Tryd.underlying44 size47 rfl rfl (SL.of_R hp0) (geti_out hx9).1 (geti_map hx9) rfl ?_
      intro q19 hq19
      refine rt_fa rfl (wanted_none rfl) rfl hq19 (by rfl) fld47_2 rfl ?_
      intro q20 h20
      refine rt_read (S x9.Key) rfl rfl (fun s21 st21 => ?_) ?_
      ·try replace h20 := h20.up2 st21
       refine k_load_val one9 rfl h20 rfl ?_
       exact fq_end
      refine rt_read (v0) rfl rfl (fun s22 st22 => ?_) ?_
      ·refine k_move rfl rfl ?_
       exact fq_end
      refine rt_read (.int .i64 x6) rfl rfl (fun s23 st23 => ?_) ?_
      ·refine k_move rfl rfl ?_
       exact fq_end
      obtain ⟨x10, hx10, h⟩ := ob h
      refine rt_ix rfl (wanted_none rfl) Tryd.underlying44 size47 rfl rfl (SL.of_R hp0) (geti_out hx10).1 (geti_map hx10) rfl ?_
      intro q24 hq24
      refine rt_fa rfl (wanted_none rfl) rfl hq24 (by rfl) fld47_1 rfl ?_
      intro q25 h25
      refine rt_read (.int .i64 x10.V) rfl rfl (fun s26 st26 => ?_) ?_
      ·try replace h25 := h25.up2 st26
       refine k_load_val one3 rfl h25 rfl ?_
       exact fq_end
      refine rt_fin ?_
      obtain ⟨x11, hx11, h⟩ := ob h
      refine k_call cal11 rfl (keys_Index_int_Set_w  h7_0 hx11) rfl ?_
      rintro s27 vr27 st27 ⟨rfl, h7_0⟩
      have szs27 := st27.size
      have hS := hS.c0 st27
      have hE9 := hE9.c0 st27
      have hE10 := hE10.c0 st27
      refine k_nil ?_
      refine k_blk ?_
      refine k_region ?_
      refine k_move rfl rfl ?_
      refine k_add rfl rfl rfl ?_
      refine k_assign rfl rfl ?_
      refine k_nil ?_
      exact k_stop ⟨(s27, i64 (x6 + 1), x11.2, j), ⟨(by first | rfl | (simp <;> rfl)), trivial⟩, ⟨rfl, rfl, rfl, rfl, rfl, trivial⟩, ⟨rfl, hE10, h7_0, h⟩, (by simp)⟩
     ·
      have h := itF h c14
      refine k_region ?_
      refine k_move rfl rfl ?_
      refine k_move rfl rfl ?_
      refine k_move rfl rfl ?_
      obtain ⟨x12, hx12, h⟩ := ob h
      refine k_ixaddr Tryd.underlying44 size47 rfl rfl (SL.of_R hp0) (geti_out hx12).1 (geti_map hx12) rfl ?_
      intro qx12 hqx12
      refine k_field_at (o := 0) rfl hqx12 (by rfl) fld47_2 rfl ?_
      intro q28 h28
      refine k_load_val one9 rfl h28 rfl ?_
      obtain ⟨x13, hx13, h⟩ := ob h
      refine k_call cal22 rfl (keys_Index_int_Delete_w  h7_0 hx13) rfl ?_
      rintro s29 vr29 st29 ⟨rfl, h7_0⟩
      have szs29 := st29.size
      have hS := hS.c0 st29
      have hE9 := hE9.c0 st29
      have hE10 := hE10.c0 st29
      refine k_nil ?_
      refine k_blk ?_
      refine k_region ?_
      refine k_move rfl rfl ?_
      refine k_add rfl rfl rfl ?_
      refine k_assign rfl rfl ?_
      refine k_nil ?_
      exact k_stop ⟨(s29, i64 (x6 + 1), x13.2, j), ⟨(by first | rfl | (simp <;> rfl)), trivial⟩, ⟨rfl, rfl, rfl, rfl, rfl, trivial⟩, ⟨rfl, hE10, h7_0, h⟩, (by simp)⟩
    ·
     have h := itF h c12
     refine k_exit rfl ?_
     exact k_stop ⟨(s11, x7), trivial, ⟨rfl, rfl, rfl, rfl, rfl, trivial⟩, ⟨rfl, hE9, h7_0, h⟩⟩
   ·
    rintro ⟨s30, x5⟩ wL ⟨rfl, hE9, h7_0, h⟩
    rw [hK9] at h
    have szs30 := hE9.size
    have hS := hS.c0 hE9
    replace hp0 := hp0.up2 hE9
    replace tb0 := tb0.up2 hE9
    refine k_seq ?_
    obtain ⟨kj14, hK31, h⟩ := jn_out h
    have hE31 := Step.r0 K0 s30
    refine k_cutc (X := St) [(1, S a1), (2, S a2), (6, .bool false), (7, (.pointer (some ⟨pb8, 0, none⟩)))] (fun (xL : St) => match xL with | sl => []) (fun (xL : St) (wL : World) => match xL with | sl => sl.w = wL ∧ Step K0 s30 sl ∧ kj14 () = some r) ?_ ?_
    ·
     refine k_seq ?_
     refine k_region ?_
     refine k_assign rfl rfl ?_
     refine k_nil ?_
     refine k_block ?_
     refine k_loopc (X := St × Int × Nat) [(0, _), (1, _), (2, _), (6, _), (7, _)] (fun (xL : St × Int × Nat) => match xL with | (sl, x15, j) => [(9, .int .i64 x15)]) (fun (xL : St × Int × Nat) (wL : World) => match xL with | (sl, x15, j) => sl.w = wL ∧ Step K0 s30 sl ∧ law12_KeysRow_l2 a0 x5 kj14 j x15 = some r) (fun (xL : St × Int × Nat) => match xL with | (sl, x15, j) => j) (s30, 0, FU) ⟨rfl, rfl, rfl, rfl, rfl, trivial⟩ ⟨(by first | rfl | (simp <;> rfl)), trivial⟩ ⟨rfl, (Step.refl _).of0 (by first | exact fun _ h => h | (intro c h; simp [KC, KO, KU, KN, KB] at h <;> omega)), h⟩ ?_
     rintro ⟨s33, x15, j⟩ wL ⟨rfl, hE32, h⟩
     cases j with
     | zero => rw [law12_KeysRow_l2] at h; exact (noneNe h).elim
     | succ j =>
     rw [law12_KeysRow_l2] at h
     have szs33 := hE32.size
     have hS := hS.trans0 hE32
     have hE31 := hE31.trans0 hE32
     replace hp0 := hp0.up2 hE32
     replace h7_0 := h7_0.up2 hE32
     obtain ⟨kj16, hkj16, h⟩ := jn_out h
     refine k_seq ?_
     refine k_seq ?_
     refine k_region ?_
     refine k_move rfl rfl ?_
     refine k_move rfl rfl ?_
     refine k_len Tryd.underlying44 rfl (SL.of_R hp0).hasLen rfl ?_
     refine k_as (v := .int .i64 (a0.length : Int)) (by simp only [List.length_map]) ?_
     refine k_lss rfl rfl rfl ?_
     refine k_nil ?_
     refine k_keep [(0, _), (1, _), (2, _), (6, _), (7, _), (9, _), (67, _)] ⟨rfl, rfl, rfl, rfl, rfl, rfl, rfl, trivial⟩ ?_
     refine k_cond_dec rfl (fun c34 => ?_) (fun c34 => ?_)
     ·
      have h := itT h c34
      refine k_skip ?_
      refine k_seq ?_
      refine k_keep [(0, _), (1, _), (2, _), (6, _), (7, _), (9, _)] ⟨rfl, rfl, rfl, rfl, rfl, rfl, trivial⟩ ?_
      obtain ⟨kj17, hK35, h⟩ := jn_out h
      have hE35 := Step.r0 K0 s33
      refine k_cutc (X := St) [(0, v0), (1, S a1), (2, S a2), (6, .bool false), (7, (.pointer (some ⟨pb8, 0, none⟩))), (9, .int .i64 x15)] (fun (xL : St) => match xL with | sl => []) (fun (xL : St) (wL : World) => match xL with | sl => sl.w = wL ∧ Step K0 s33 sl ∧ kj17 () = some r) ?_ ?_
      ·
       refine k_block ?_
       refine k_seq ?_
       refine k_region ?_
       refine k_move rfl rfl ?_
       refine k_assign rfl rfl ?_
       refine k_nil ?_
       refine k_keep [(0, _), (1, _), (2, _), (6, _), (7, _), (9, _), (10, _)] ⟨rfl, rfl, rfl, rfl, rfl, rfl, rfl, trivial⟩ ?_
       refine k_seq ?_
       obtain ⟨kj18, hK36, h⟩ := jn_out h
       have hE36 := Step.r0 K0 s33
       refine k_cutc (X := St × Int) [(0, v0), (1, S a1), (2, S a2), (6, .bool false), (7, (.pointer (some ⟨pb8, 0, none⟩))), (9, .int .i64 x15)] (fun (xL : St × Int) => match xL with | (sl, x19) => [(10, .int .i64 x19)]) (fun (xL : St × Int) (wL : World) => match xL with | (sl, x19) => sl.w = wL ∧ Step K0 s33 sl ∧ kj18 x19 = some r) ?_ ?_
       ·
        refine k_seq ?_
        refine k_region ?_
        refine k_move rfl rfl ?_
        refine k_assign rfl rfl ?_
        refine k_nil ?_
        refine k_keep [(0, _), (1, _), (2, _), (6, _), (7, _), (9, _), (10, _), (11, _)] ⟨rfl, rfl, rfl, rfl, rfl, rfl, rfl, rfl, trivial⟩ ?_
        refine k_block ?_
        refine k_loopc (X := St × Int × Int × Nat) [(0, _), (1, _), (2, _), (6, _), (7, _), (9, _)] (fun (xL : St × Int × Int × Nat) => match xL with | (sl, x20, x21, j) => [(10, .int .i64 x20), (11, .int .i64 x21)]) (fun (xL : St × Int × Int × Nat) (wL : World) => match xL with | (sl, x20, x21, j) => sl.w = wL ∧ Step K0 s33 sl ∧ law12_KeysRow_l3 a0 x15 kj18 j x20 x21 = some r) (fun (xL : St × Int × Int × Nat) => match xL with | (sl, x20, x21, j) => j) (s33, x15, x15, FU) ⟨rfl, rfl, rfl, rfl, rfl, rfl, trivial⟩ ⟨(by first | rfl | (simp <;> rfl)), (by first | rfl | (simp <;> rfl)), trivial⟩ ⟨rfl, (Step.refl _).of0 (by first | exact fun _ h => h | (intro c h; simp [KC, KO, KU, KN, KB] at h <;> omega)), h⟩ ?_
        rintro ⟨s38, x20, x21, j⟩ wL ⟨rfl, hE37, h⟩
        cases j with
        | zero => rw [law12_KeysRow_l3] at h; exact (noneNe h).elim
        | succ j =>
        rw [law12_KeysRow_l3] at h
        have szs38 := hE37.size
        have hS := hS.trans0 hE37
        have hE31 := hE31.trans0 hE37
        have hE32 := hE32.trans0 hE37
        have hE35 := hE35.trans0 hE37
        have hE36 := hE36.trans0 hE37
        replace hp0 := hp0.up2 hE37
        refine k_seq ?_
        refine k_seq ?_
        refine k_region ?_
        refine k_move rfl rfl ?_
        refine k_move rfl rfl ?_
        refine k_len Tryd.underlying44 rfl (SL.of_R hp0).hasLen rfl ?_
        refine k_as (v := .int .i64 (a0.length : Int)) (by simp only [List.length_map]) ?_
        refine k_lss rfl rfl rfl ?_
        refine k_nil ?_
        refine k_keep [(0, _), (1, _), (2, _), (6, _), (7, _), (9, _), (10, _), (11, _), (75, _)] ⟨rfl, rfl, rfl, rfl, rfl, rfl, rfl, rfl, rfl, trivial⟩ ?_
        refine k_cond_dec rfl (fun c39 => ?_) (fun c39 => ?_)
        ·
         have h := itT h c39
         refine k_skip ?_
         refine k_seq ?_
         refine k_block ?_
         refine k_seq ?_
         refine k_keep [(0, _), (1, _), (2, _), (6, _), (7, _), (9, _), (10, _), (11, _)] ⟨rfl, rfl, rfl, rfl, rfl, rfl, rfl, rfl, trivial⟩ ?_
         refine k_drawT (KN s38.n) 10 (.read 0 (.read 1 (.read 2 (.read 3 (.read 4 (.read 5 (.read 6 (.read 7 (.read 8 (.read 9 .fin)))))))))) mixed (by intro c h; (try simp only [KC, KO, KU, KN, KB] at h) <;> omega) rfl rfl rfl ?_
         intro s40 st40
         have szs40 := st40.size
         have hS := hS.trans0 st40
         have hE31 := hE31.trans0 st40
         have hE32 := hE32.trans0 st40
         have hE35 := hE35.trans0 st40
         have hE36 := hE36.trans0 st40
         have hE37 := hE37.trans0 st40
         replace hp0 := hp0.up2 st40
         refine rt_read (v0) rfl rfl (fun s41 st41 => ?_) ?_
         ·refine k_move rfl rfl ?_
          exact fq_end
         refine rt_read (.int .i64 x21) rfl rfl (fun s42 st42 => ?_) ?_
         ·refine k_move rfl rfl ?_
          exact fq_end
         obtain ⟨x22, hx22, h⟩ := ob h
         refine rt_ix rfl (wanted_none rfl) Tryd.underlying44 size47 rfl rfl (SL.of_R hp0) (geti_out hx22).1 (geti_map hx22) rfl ?_
         intro q43 hq43
         refine rt_fa rfl (wanted_none rfl) rfl hq43 (by rfl) fld47_2 rfl ?_
         intro q44 h44
         refine rt_read (S x22.Key) rfl rfl (fun s45 st45 => ?_) ?_
         ·try replace h44 := h44.up2 st45
          refine k_load_val one9 rfl h44 rfl ?_
          exact fq_end
         refine rt_read (v0) rfl rfl (fun s46 st46 => ?_) ?_
         ·refine k_move rfl rfl ?_
          exact fq_end
         refine rt_read (.int .i64 x15) rfl rfl (fun s47 st47 => ?_) ?_
         ·refine k_move rfl rfl ?_
          exact fq_end
         obtain ⟨x23, hx23, h⟩ := ob h
         refine rt_ix rfl (wanted_none rfl) Tryd.underlying44 size47 rfl rfl (SL.of_R hp0) (geti_out hx23).1 (geti_map hx23) rfl ?_
         intro q48 hq48
         refine rt_fa rfl (wanted_none rfl) rfl hq48 (by rfl) fld47_2 rfl ?_
         intro q49 h49
         refine rt_read (S x23.Key) rfl rfl (fun s50 st50 => ?_) ?_
         ·try replace h49 := h49.up2 st50
          refine k_load_val one9 rfl h49 rfl ?_
          exact fq_end
         refine rt_fin ?_
         refine k_eql_str rfl rfl rfl ?_
         refine k_nil ?_
         refine k_keep [(0, _), (1, _), (2, _), (6, _), (7, _), (9, _), (10, _), (11, _), (88, _)] ⟨rfl, rfl, rfl, rfl, rfl, rfl, rfl, rfl, rfl, trivial⟩ ?_
         refine k_cond_dec rfl (fun c51 => ?_) (fun c51 => ?_)
         ·
          have h := itT h c51
          refine k_region ?_
          refine k_move rfl rfl ?_
          refine k_assign rfl rfl ?_
          refine k_nil ?_
          refine k_blk ?_
          refine k_region ?_
          refine k_move rfl rfl ?_
          refine k_add rfl rfl rfl ?_
          refine k_assign rfl rfl ?_
          refine k_nil ?_
          exact k_stop ⟨(s40, x21, i64 (x21 + 1), j), ⟨(by first | rfl | (simp <;> rfl)), (by first | rfl | (simp <;> rfl)), trivial⟩, ⟨rfl, rfl, rfl, rfl, rfl, rfl, trivial⟩, ⟨rfl, hE37, h⟩, (by simp)⟩
         ·
          have h := itF h c51
          refine k_skip ?_
          refine k_blk ?_
          refine k_region ?_
          refine k_move rfl rfl ?_
          refine k_add rfl rfl rfl ?_
          refine k_assign rfl rfl ?_
          refine k_nil ?_
          exact k_stop ⟨(s40, x20, i64 (x21 + 1), j), ⟨(by first | rfl | (simp <;> rfl)), (by first | rfl | (simp <;> rfl)), trivial⟩, ⟨rfl, rfl, rfl, rfl, rfl, rfl, trivial⟩, ⟨rfl, hE37, h⟩, (by simp)⟩
        ·
         have h := itF h c39
         refine k_exit rfl ?_
         exact k_stop ⟨(s38, x20), ⟨(by first | rfl | (simp <;> rfl)), trivial⟩, ⟨rfl, rfl, rfl, rfl, rfl, rfl, trivial⟩, ⟨rfl, hE36, h⟩⟩
       ·
        rintro ⟨s52, x19⟩ wL ⟨rfl, hE36, h⟩
        rw [hK36] at h
        have szs52 := hE36.size
        have hS := hS.trans0 hE36
        have hE31 := hE31.trans0 hE36
        have hE32 := hE32.trans0 hE36
        have hE35 := hE35.trans0 hE36
        replace hp0 := hp0.up2 hE36
        replace h7_0 := h7_0.up2 hE36
        refine k_seq ?_
        refine k_region ?_
        refine k_move rfl rfl ?_
        refine k_move rfl rfl ?_
        refine k_move rfl rfl ?_
        obtain ⟨x24, hx24, h⟩ := ob h
        refine k_ixaddr Tryd.underlying44 size47 rfl rfl (SL.of_R hp0) (geti_out hx24).1 (geti_map hx24) rfl ?_
        intro qx24 hqx24
        refine k_field_at (o := 0) rfl hqx24 (by rfl) fld47_2 rfl ?_
        intro q53 h53
        refine k_load_val one9 rfl h53 rfl ?_
        obtain ⟨x25, hx25, h⟩ := ob h
        refine k_call cal23 rfl (keys_Index_int_Get_w  h7_0 hx25) rfl ?_
        rintro s54 vr54 st54 rfl
        have szs54 := st54.size
        have hS := hS.trans0 st54
        have hE31 := hE31.trans0 st54
        have hE32 := hE32.trans0 st54
        have hE35 := hE35.trans0 st54
        replace hp0 := hp0.up2 st54
        refine k_move rfl rfl ?_
        refine k_extract rfl rfl rfl ?_
        refine k_extract rfl rfl rfl ?_
        refine k_assign rfl rfl ?_
        refine k_assign rfl rfl ?_
        refine k_nil ?_
        refine k_keep [(0, _), (1, _), (2, _), (6, _), (7, _), (9, _), (10, _), (12, _), (13, _)] ⟨rfl, rfl, rfl, rfl, rfl, rfl, rfl, rfl, rfl, trivial⟩ ?_
        refine k_seq ?_
        refine k_region ?_
        refine k_move rfl rfl ?_
        refine k_move rfl rfl ?_
        refine k_move rfl rfl ?_
        obtain ⟨x26, hx26, h⟩ := ob h
        refine k_ixaddr Tryd.underlying44 size47 rfl rfl (SL.of_R hp0) (geti_out hx26).1 (geti_map hx26) rfl ?_
        intro qx26 hqx26
        refine k_field_at (o := 0) rfl hqx26 (by rfl) fld47_0 rfl ?_
        intro q55 h55
        refine k_load_val one3 rfl h55 rfl ?_
        refine k_eql rfl rfl rfl ?_
        refine k_neqb Tryd.underlying4 rfl rfl rfl ?_
        refine k_move rfl rfl ?_
        obtain ⟨x27, hx27, h⟩ := ob h
        have hE56 := Step.r0 K0 s54
        refine k_cutl (X := St) 11 [(0, v0), (1, S a1), (2, S a2), (6, .bool false), (7, (.pointer (some ⟨pb8, 0, none⟩))), (9, .int .i64 x15), (10, .int .i64 x19), (12, .int .i64 x25.1), (13, .bool x25.2), (100, .bool x25.2), (101, v0), (102, .int .i64 x19), (103, qx26), (104, q55), (105, .int .i64 x26.Do), (106, .bool (decide (x26.Do = 0))), (107, .bool (!(x25.2 == decide (x26.Do = 0))))] (fun _ => [(119, .bool x27)]) (fun sl wL => sl.w = wL ∧ Step K0 s54 sl) ?_ ?_
        ·
         refine k_again 108 rfl ?_
         refine k_splitb (fun c57 => ?_) (fun c57 => ?_)
         ·
          have hx27 := ibT hx27 c57
          refine k_no rfl rfl rfl rfl ?_
          refine k_no rfl rfl rfl rfl ?_
          refine k_nou rfl rfl rfl rfl ?_
          refine k_nou rfl rfl rfl rfl ?_
          refine k_nou rfl rfl rfl rfl ?_
          refine k_nou rfl rfl rfl rfl ?_
          refine k_nou rfl rfl rfl rfl ?_
          refine k_nou rfl rfl rfl rfl ?_
          refine k_nou rfl rfl rfl rfl ?_
          refine k_no rfl rfl rfl rfl ?_
          refine k_pickT rfl rfl rfl rfl ?_
          exact k_met ⟨s54, ⟨(congrArg (fun b => some (Value.bool b)) (Option.some.inj hx27)), trivial⟩, ⟨rfl, rfl, rfl, rfl, rfl, rfl, rfl, rfl, rfl, rfl, rfl, rfl, rfl, rfl, rfl, rfl, rfl, trivial⟩, rfl, hE56⟩
         ·
          have hx27 := ibF hx27 c57
          refine k_yes rfl rfl ?_
          refine k_move rfl rfl ?_
          refine k_yes rfl rfl ?_
          refine k_move rfl rfl ?_
          obtain ⟨x28, hx28, hx27⟩ := ob hx27
          have hE58 := Step.r0 K0 s54
          refine k_cutl (X := St) 8 [(0, v0), (1, S a1), (2, S a2), (6, .bool false), (7, (.pointer (some ⟨pb8, 0, none⟩))), (9, .int .i64 x15), (10, .int .i64 x19), (12, .int .i64 x25.1), (13, .bool x25.2), (100, .bool x25.2), (101, v0), (102, .int .i64 x19), (103, qx26), (104, q55), (105, .int .i64 x26.Do), (106, .bool (decide (x26.Do = 0))), (107, .bool (!(x25.2 == decide (x26.Do = 0)))), (108, .bool false), (109, .bool x25.2)] (fun _ => [(118, .bool x28)]) (fun sl wL => sl.w = wL ∧ Step K0 s54 sl) ?_ ?_
          ·
           refine k_again 110 rfl ?_
           refine k_splitb (fun c59 => ?_) (fun c59 => ?_)
           ·
            have hx28 := ibT hx28 c59
            refine k_yes rfl rfl ?_
            refine k_move rfl rfl ?_
            refine k_yes rfl rfl ?_
            refine k_move rfl rfl ?_
            refine k_yes rfl rfl ?_
            refine k_move rfl rfl ?_
            refine k_yes rfl rfl ?_
            obtain ⟨x29, hx29, hx28⟩ := ob hx28
            refine k_ixaddr Tryd.underlying44 size47 rfl rfl (SL.of_R hp0) (geti_out hx29).1 (geti_map hx29) rfl ?_
            intro qx29 hqx29
            refine k_yes rfl rfl ?_
            refine k_field_at (o := 0) rfl hqx29 (by rfl) fld47_1 rfl ?_
            intro q60 h60
            refine k_yes rfl rfl ?_
            refine k_load_val one3 rfl h60 rfl ?_
            refine k_yes rfl rfl ?_
            refine k_neq rfl rfl rfl ?_
            refine k_yes rfl rfl ?_
            refine k_pickT rfl rfl rfl rfl ?_
            exact k_met ⟨s54, ⟨(congrArg (fun b => some (Value.bool b)) (Option.some.inj hx28)), trivial⟩, ⟨rfl, rfl, rfl, rfl, rfl, rfl, rfl, rfl, rfl, rfl, rfl, rfl, rfl, rfl, rfl, rfl, rfl, rfl, rfl, trivial⟩, rfl, hE58⟩
           ·
            have hx28 := ibF hx28 c59
            refine k_no rfl rfl rfl rfl ?_
            refine k_no rfl rfl rfl rfl ?_
            refine k_no rfl rfl rfl rfl ?_
            refine k_no rfl rfl rfl rfl ?_
            refine k_no rfl rfl rfl rfl ?_
            refine k_no rfl rfl rfl rfl ?_
            refine k_no rfl rfl rfl rfl ?_
            refine k_yes rfl rfl ?_
            refine k_pickF rfl rfl rfl rfl ?_
            exact k_met ⟨s54, ⟨(congrArg (fun b => some (Value.bool b)) (Option.some.inj hx28)), trivial⟩, ⟨rfl, rfl, rfl, rfl, rfl, rfl, rfl, rfl, rfl, rfl, rfl, rfl, rfl, rfl, rfl, rfl, rfl, rfl, rfl, trivial⟩, rfl, hE58⟩
          ·
           rintro s61 wL ⟨rfl, hE58⟩
           have szs61 := hE58.size
           have hS := hS.trans0 hE58
           have hE31 := hE31.trans0 hE58
           have hE32 := hE32.trans0 hE58
           have hE35 := hE35.trans0 hE58
           have hE56 := hE56.trans0 hE58
           refine k_pickF rfl rfl rfl rfl ?_
           exact k_met ⟨s61, ⟨(congrArg (fun b => some (Value.bool b)) (Option.some.inj hx27)), trivial⟩, ⟨rfl, rfl, rfl, rfl, rfl, rfl, rfl, rfl, rfl, rfl, rfl, rfl, rfl, rfl, rfl, rfl, rfl, trivial⟩, rfl, hE56⟩
        ·
         rintro s62 wL ⟨rfl, hE56⟩
         have szs62 := hE56.size
         have hS := hS.trans0 hE56
         have hE31 := hE31.trans0 hE56
         have hE32 := hE32.trans0 hE56
         have hE35 := hE35.trans0 hE56
         refine k_nil ?_
         refine k_keep [(0, _), (1, _), (2, _), (6, _), (7, _), (9, _), (119, _)] ⟨rfl, rfl, rfl, rfl, rfl, rfl, rfl, trivial⟩ ?_
         refine k_cond rfl (fun c63 => ?_) (fun c63 => ?_)
         ·
          have h := ibT h c63
          refine k_seq ?_
          refine k_region ?_
          refine k_assign rfl rfl ?_
          refine k_nil ?_
          refine k_keep [(0, _), (1, _), (2, _), (6, _), (7, _), (9, _)] ⟨rfl, rfl, rfl, rfl, rfl, rfl, trivial⟩ ?_
          refine k_ret ?_
          obtain rfl := Option.some.inj h
          refine ⟨_, rfl, Ret.mk hS ?_⟩
          exact rfl
         ·
          have h := ibF h c63
          refine k_skip ?_
          refine k_blk ?_
          exact k_stop ⟨s62, trivial, ⟨rfl, rfl, rfl, rfl, rfl, rfl, trivial⟩, ⟨rfl, hE35, h⟩⟩
      ·
       rintro s64 wL ⟨rfl, hE35, h⟩
       rw [hK35] at h
       have szs64 := hE35.size
       have hS := hS.trans0 hE35
       have hE31 := hE31.trans0 hE35
       have hE32 := hE32.trans0 hE35
       refine k_region ?_
       refine k_move rfl rfl ?_
       refine k_add rfl rfl rfl ?_
       refine k_assign rfl rfl ?_
       refine k_nil ?_
       rw [hkj16] at h
       exact k_stop ⟨(s64, i64 (x15 + 1), j), ⟨(by first | rfl | (simp <;> rfl)), trivial⟩, ⟨rfl, rfl, rfl, rfl, rfl, trivial⟩, ⟨rfl, hE32, h⟩, (by simp)⟩
     ·
      have h := itF h c34
      refine k_exit rfl ?_
      exact k_stop ⟨s33, trivial, ⟨rfl, rfl, rfl, rfl, trivial⟩, ⟨rfl, hE31, h⟩⟩
    ·
     rintro s65 wL ⟨rfl, hE31, h⟩
     rw [hK31] at h
     have szs65 := hE31.size
     have hS := hS.trans0 hE31
     replace h7_0 := h7_0.up2 hE31
     replace tb0 := tb0.up2 hE31
     refine k_seq ?_
     refine k_region ?_
     refine k_move rfl rfl ?_
     obtain ⟨x30, hx30, h⟩ := ob h
     refine k_call cal24 rfl (keys_Index_int_Keys_w  h7_0 hx30) rfl ?_
     rintro s66 v66_0 st66 ⟨_, rfl, h66_0⟩
     have szs66 := st66.size
     have hS := hS.trans0 st66
     replace h7_0 := h7_0.up2 st66
     replace tb0 := tb0.up2 st66
     refine k_assign rfl rfl ?_
     refine k_nil ?_
     refine k_keep [(1, _), (2, _), (6, _), (7, _), (14, _)] ⟨rfl, rfl, rfl, rfl, rfl, trivial⟩ ?_
     refine k_seq ?_
     refine k_region ?_
     refine k_assign rfl rfl ?_
     refine k_nil ?_
     refine k_seq ?_
     obtain ⟨kj31, hK67, h⟩ := jn_out h
     have hE67 := Step.r0 K0 s66
     refine k_cutc (X := St × Int) [(1, S a1), (2, S a2), (6, .bool false), (7, (.pointer (some ⟨pb8, 0, none⟩)))] (fun (xL : St × Int) => match xL with | (sl, x32) => [(15, .int .i64 x32)]) (fun (xL : St × Int) (wL : World) => match xL with | (sl, x32) => sl.w = wL ∧ Step K0 s66 sl ∧ kj31 x32 = some r) ?_ ?_
     ·
      refine k_seq ?_
      refine k_region ?_
      refine k_assign rfl rfl ?_
      refine k_nil ?_
      refine k_block ?_
      refine k_loopc (X := St × Int × Int × Nat) [(1, _), (2, _), (6, _), (7, _), (14, _)] (fun (xL : St × Int × Int × Nat) => match xL with | (sl, x33, x34, j) => [(15, .int .i64 x33), (16, .int .i64 x34)]) (fun (xL : St × Int × Int × Nat) (wL : World) => match xL with | (sl, x33, x34, j) => sl.w = wL ∧ Step K0 s66 sl ∧ law12_KeysRow_l4 x30 a1 a2 kj31 j x33 x34 = some r) (fun (xL : St × Int × Int × Nat) => match xL with | (sl, x33, x34, j) => j) (s66, 0, 0, FU) ⟨rfl, rfl, rfl, rfl, rfl, trivial⟩ ⟨(by first | rfl | (simp <;> rfl)), (by first | rfl | (simp <;> rfl)), trivial⟩ ⟨rfl, (Step.refl _).of0 (by first | exact fun _ h => h | (intro c h; simp [KC, KO, KU, KN, KB] at h <;> omega)), h⟩ ?_
      rintro ⟨s69, x33, x34, j⟩ wL ⟨rfl, hE68, h⟩
      cases j with
      | zero => rw [law12_KeysRow_l4] at h; exact (noneNe h).elim
      | succ j =>
      rw [law12_KeysRow_l4] at h
      have szs69 := hE68.size
      have hS := hS.trans0 hE68
      have hE67 := hE67.trans0 hE68
      replace h66_0 := h66_0.up2 hE68
      refine k_seq ?_
      refine k_seq ?_
      refine k_region ?_
      refine k_move rfl rfl ?_
      refine k_move rfl rfl ?_
      refine k_len Tryd.underlying53 rfl (SL.of_R h66_0).hasLen rfl ?_
      refine k_as (v := .int .i64 (x30.length : Int)) (by simp only [List.length_map]) ?_
      refine k_lss rfl rfl rfl ?_
      refine k_nil ?_
      refine k_keep [(1, _), (2, _), (6, _), (7, _), (14, _), (15, _), (16, _), (125, _)] ⟨rfl, rfl, rfl, rfl, rfl, rfl, rfl, rfl, trivial⟩ ?_
      refine k_cond_dec rfl (fun c70 => ?_) (fun c70 => ?_)
      ·
       have h := itT h c70
       refine k_skip ?_
       refine k_seq ?_
       refine k_block ?_
       refine k_seq ?_
       refine k_seq ?_
       refine k_keep [(1, _), (2, _), (6, _), (7, _), (14, _), (15, _), (16, _)] ⟨rfl, rfl, rfl, rfl, rfl, rfl, rfl, trivial⟩ ?_
       refine k_drawT (KN s69.n) 12 (.read 0 (.read 1 (.read 2 (.read 3 (.read 4 (.read 5 (.read 6 (.read 7 (.read 8 (.read 9 (.read 10 (.read 11 .fin)))))))))))) mixed (by intro c h; (try simp only [KC, KO, KU, KN, KB] at h) <;> omega) rfl rfl rfl ?_
       intro s71 st71
       have szs71 := st71.size
       have hS := hS.trans0 st71
       have hE67 := hE67.trans0 st71
       have hE68 := hE68.trans0 st71
       replace h66_0 := h66_0.up2 st71
       refine rt_read (.int .i64 x34) rfl rfl (fun s72 st72 => ?_) ?_
       ·refine k_move rfl rfl ?_
        exact fq_end
       refine rt_read (.bool (decide (0 < x34))) rfl rfl (fun s73 st73 => ?_) ?_
       ·refine k_gtr rfl rfl rfl ?_
        exact fq_end
       refine rt_read (.bool (decide (0 < x34))) rfl rfl (fun s74 st74 => ?_) ?_
       ·refine k_move rfl rfl ?_
        exact fq_end
       refine rt_split (fun c75 => ?_) (fun c75 => ?_)
       ·
        have h := itT h c75
        refine rt_read (v66_0) rfl rfl (fun s76 st76 => ?_) ?_
        ·refine k_yes rfl rfl ?_
         refine k_move rfl rfl ?_
         exact fq_end
        refine rt_read (.int .i64 x34) rfl rfl (fun s77 st77 => ?_) ?_
        ·refine k_yes rfl rfl ?_
         refine k_move rfl rfl ?_
         exact fq_end
        refine rt_read (.int .i64 (i64 (x34 - 1))) rfl rfl (fun s78 st78 => ?_) ?_
        ·refine k_yes rfl rfl ?_
         refine k_sub_ rfl rfl rfl ?_
         exact fq_end
        obtain ⟨x35, hx35, h⟩ := ob h
        refine rt_ix rfl (wanted_yes rfl rfl rfl) Tryd.underlying53 size9 rfl rfl (SL.of_R h66_0) (geti_out hx35).1 (geti_map hx35) rfl ?_
        intro q79 hq79
        refine rt_read (S x35) rfl rfl (fun s80 st80 => ?_) ?_
        ·try replace hq79 := hq79.up2 st80
         refine k_yes rfl rfl ?_
         refine k_load_val one9 rfl hq79 rfl ?_
         exact fq_end
        refine rt_read (v66_0) rfl rfl (fun s81 st81 => ?_) ?_
        ·refine k_yes rfl rfl ?_
         refine k_move rfl rfl ?_
         exact fq_end
        refine rt_read (.int .i64 x34) rfl rfl (fun s82 st82 => ?_) ?_
        ·refine k_yes rfl rfl ?_
         refine k_move rfl rfl ?_
         exact fq_end
        obtain ⟨x36, hx36, h⟩ := ob h
        refine rt_ix rfl (wanted_yes rfl rfl rfl) Tryd.underlying53 size9 rfl rfl (SL.of_R h66_0) (geti_out hx36).1 (geti_map hx36) rfl ?_
        intro q83 hq83
        refine rt_read (S x36) rfl rfl (fun s84 st84 => ?_) ?_
        ·try replace hq83 := hq83.up2 st84
         refine k_yes rfl rfl ?_
         refine k_load_val one9 rfl hq83 rfl ?_
         exact fq_end
        refine rt_fin ?_
        refine k_yes rfl rfl ?_
        refine k_geq_str rfl rfl rfl ?_
        refine k_pickT rfl rfl rfl rfl ?_
        refine k_nil ?_
        refine k_keep [(1, _), (2, _), (6, _), (7, _), (14, _), (15, _), (16, _), (141, _)] ⟨rfl, rfl, rfl, rfl, rfl, rfl, rfl, rfl, trivial⟩ ?_
        refine k_cond rfl (fun c85 => ?_) (fun c85 => ?_)
        ·
         have h := ibT h c85
         refine k_seq ?_
         refine k_region ?_
         refine k_assign rfl rfl ?_
         refine k_nil ?_
         refine k_keep [(1, _), (2, _), (6, _), (7, _), (14, _), (15, _), (16, _)] ⟨rfl, rfl, rfl, rfl, rfl, rfl, rfl, trivial⟩ ?_
         refine k_ret ?_
         obtain rfl := Option.some.inj h
         refine ⟨_, rfl, Ret.mk hS ?_⟩
         exact rfl
        ·
         have h := ibF h c85
         refine k_skip ?_
         refine k_seq ?_
         refine k_region ?_
         refine k_move rfl rfl ?_
         refine k_move rfl rfl ?_
         obtain ⟨x37, hx37, h⟩ := ob h
         refine k_ixaddr Tryd.underlying53 size9 rfl rfl (SL.of_R h66_0) (geti_out hx37).1 (geti_map hx37) rfl ?_
         intro qx37 hqx37
         refine k_load_val one9 rfl hqx37 rfl ?_
         refine k_move rfl rfl ?_
         refine k_geq_str rfl rfl rfl ?_
         refine k_move rfl rfl ?_
         obtain ⟨x38, hx38, h⟩ := ob h
         have hE86 := Step.r0 K0 s71
         refine k_cutl (X := St) 11 [(1, S a1), (2, S a2), (6, .bool false), (7, (.pointer (some ⟨pb8, 0, none⟩))), (14, v66_0), (15, .int .i64 x33), (16, .int .i64 x34), (141, .bool (!Op.bytesLess x35 x36)), (142, v66_0), (143, .int .i64 x34), (144, qx37), (145, S x37), (146, S a1), (147, .bool (!Op.bytesLess x37 a1))] (fun _ => [(159, .bool x38)]) (fun sl wL => sl.w = wL ∧ Step K0 s71 sl) ?_ ?_
         ·
          refine k_again 148 rfl ?_
          refine k_splitb (fun c87 => ?_) (fun c87 => ?_)
          ·
           have hx38 := ibT hx38 c87
           refine k_yes rfl rfl ?_
           refine k_move rfl rfl ?_
           refine k_yes rfl rfl ?_
           refine k_eql_str rfl rfl rfl ?_
           refine k_yes rfl rfl ?_
           refine k_move rfl rfl ?_
           obtain ⟨x39, hx39, hx38⟩ := ob hx38
           have hE88 := Step.r0 K0 s71
           refine k_cutl (X := St) 7 [(1, S a1), (2, S a2), (6, .bool false), (7, (.pointer (some ⟨pb8, 0, none⟩))), (14, v66_0), (15, .int .i64 x33), (16, .int .i64 x34), (141, .bool (!Op.bytesLess x35 x36)), (142, v66_0), (143, .int .i64 x34), (144, qx37), (145, S x37), (146, S a1), (147, .bool (!Op.bytesLess x37 a1)), (148, .bool true), (149, S a2), (150, .bool (decide (a2 = ([] : List UInt8))))] (fun _ => [(158, .bool x39)]) (fun sl wL => sl.w = wL ∧ Step K0 s71 sl) ?_ ?_
           ·
            refine k_again 151 rfl ?_
            refine k_split (fun c89 => ?_) (fun c89 => ?_)
            ·
             have hx39 := itT hx39 c89
             refine k_no rfl rfl rfl rfl ?_
             refine k_no rfl rfl rfl rfl ?_
             refine k_no rfl rfl rfl rfl ?_
             refine k_no rfl rfl rfl rfl ?_
             refine k_no rfl rfl rfl rfl ?_
             refine k_no rfl rfl rfl rfl ?_
             refine k_yes rfl rfl ?_
             refine k_pickT rfl rfl rfl rfl ?_
             exact k_met ⟨s71, ⟨(congrArg (fun b => some (Value.bool b)) (Option.some.inj hx39)), trivial⟩, ⟨rfl, rfl, rfl, rfl, rfl, rfl, rfl, rfl, rfl, rfl, rfl, rfl, rfl, rfl, rfl, rfl, rfl, trivial⟩, rfl, hE88⟩
            ·
             have hx39 := itF hx39 c89
             refine k_yes rfl rfl ?_
             refine k_move rfl rfl ?_
             refine k_yes rfl rfl ?_
             refine k_move rfl rfl ?_
             refine k_yes rfl rfl ?_
             obtain ⟨x40, hx40, hx39⟩ := ob hx39
             refine k_ixaddr Tryd.underlying53 size9 rfl rfl (SL.of_R h66_0) (geti_out hx40).1 (geti_map hx40) rfl ?_
             intro qx40 hqx40
             refine k_yes rfl rfl ?_
             refine k_load_val one9 rfl hqx40 rfl ?_
             refine k_yes rfl rfl ?_
             refine k_move rfl rfl ?_
             refine k_yes rfl rfl ?_
             refine k_lss_str rfl rfl rfl ?_
             refine k_yes rfl rfl ?_
             refine k_pickF rfl rfl rfl rfl ?_
             exact k_met ⟨s71, ⟨(congrArg (fun b => some (Value.bool b)) (Option.some.inj hx39)), trivial⟩, ⟨rfl, rfl, rfl, rfl, rfl, rfl, rfl, rfl, rfl, rfl, rfl, rfl, rfl, rfl, rfl, rfl, rfl, trivial⟩, rfl, hE88⟩
           ·
            rintro s90 wL ⟨rfl, hE88⟩
            have szs90 := hE88.size
            have hS := hS.trans0 hE88
            have hE67 := hE67.trans0 hE88
            have hE68 := hE68.trans0 hE88
            have hE86 := hE86.trans0 hE88
            refine k_pickT rfl rfl rfl rfl ?_
            exact k_met ⟨s90, ⟨(congrArg (fun b => some (Value.bool b)) (Option.some.inj hx38)), trivial⟩, ⟨rfl, rfl, rfl, rfl, rfl, rfl, rfl, rfl, rfl, rfl, rfl, rfl, rfl, rfl, trivial⟩, rfl, hE86⟩
          ·
           have hx38 := ibF hx38 c87
           refine k_no rfl rfl rfl rfl ?_
           refine k_no rfl rfl rfl rfl ?_
           refine k_no rfl rfl rfl rfl ?_
           refine k_nou rfl rfl rfl rfl ?_
           refine k_nou rfl rfl rfl rfl ?_
           refine k_nou rfl rfl rfl rfl ?_
           refine k_nou rfl rfl rfl rfl ?_
           refine k_nou rfl rfl rfl rfl ?_
           refine k_nou rfl rfl rfl rfl ?_
           refine k_no rfl rfl rfl rfl ?_
           refine k_pickF rfl rfl rfl rfl ?_
           exact k_met ⟨s71, ⟨(congrArg (fun b => some (Value.bool b)) (Option.some.inj hx38)), trivial⟩, ⟨rfl, rfl, rfl, rfl, rfl, rfl, rfl, rfl, rfl, rfl, rfl, rfl, rfl, rfl, trivial⟩, rfl, hE86⟩
         ·
          rintro s91 wL ⟨rfl, hE86⟩
          have szs91 := hE86.size
          have hS := hS.trans0 hE86
          have hE67 := hE67.trans0 hE86
          have hE68 := hE68.trans0 hE86
          refine k_nil ?_
          refine k_keep [(1, _), (2, _), (6, _), (7, _), (14, _), (15, _), (16, _), (159, _)] ⟨rfl, rfl, rfl, rfl, rfl, rfl, rfl, rfl, trivial⟩ ?_
          refine k_cond rfl (fun c92 => ?_) (fun c92 => ?_)
          ·
           have h := ibT h c92
           refine k_region ?_
           refine k_move rfl rfl ?_
           refine k_add rfl rfl rfl ?_
           refine k_assign rfl rfl ?_
           refine k_nil ?_
           refine k_blk ?_
           refine k_region ?_
           refine k_move rfl rfl ?_
           refine k_add rfl rfl rfl ?_
           refine k_assign rfl rfl ?_
           refine k_nil ?_
           exact k_stop ⟨(s91, i64 (x33 + 1), i64 (x34 + 1), j), ⟨(by first | rfl | (simp <;> rfl)), (by first | rfl | (simp <;> rfl)), trivial⟩, ⟨rfl, rfl, rfl, rfl, rfl, trivial⟩, ⟨rfl, hE68, h⟩, (by simp)⟩
          ·
           have h := ibF h c92
           refine k_skip ?_
           refine k_blk ?_
           refine k_region ?_
           refine k_move rfl rfl ?_
           refine k_add rfl rfl rfl ?_
           refine k_assign rfl rfl ?_
           refine k_nil ?_
           exact k_stop ⟨(s91, x33, i64 (x34 + 1), j), ⟨(by first | rfl | (simp <;> rfl)), (by first | rfl | (simp <;> rfl)), trivial⟩, ⟨rfl, rfl, rfl, rfl, rfl, trivial⟩, ⟨rfl, hE68, h⟩, (by simp)⟩
       ·
        have h := itF h c75
        refine rt_read undef rfl rfl (fun s93 st93 => ?_) ?_
        ·refine k_no rfl rfl rfl rfl ?_
         exact fq_end
        refine rt_read undef rfl rfl (fun s94 st94 => ?_) ?_
        ·refine k_no rfl rfl rfl rfl ?_
         exact fq_end
        refine rt_read undef rfl rfl (fun s95 st95 => ?_) ?_
        ·refine k_no rfl rfl rfl rfl ?_
         exact fq_end
        refine rt_read undef rfl rfl (fun s96 st96 => ?_) ?_
        ·refine k_no rfl rfl rfl rfl ?_
         exact fq_end
        refine rt_read undef rfl rfl (fun s97 st97 => ?_) ?_
        ·refine k_no rfl rfl rfl rfl ?_
         exact fq_end
        refine rt_read undef rfl rfl (fun s98 st98 => ?_) ?_
        ·refine k_no rfl rfl rfl rfl ?_
         exact fq_end
        refine rt_read undef rfl rfl (fun s99 st99 => ?_) ?_
        ·refine k_no rfl rfl rfl rfl ?_
         exact fq_end
        refine rt_read undef rfl rfl (fun s100 st100 => ?_) ?_
        ·refine k_no rfl rfl rfl rfl ?_
         exact fq_end
        refine rt_read undef rfl rfl (fun s101 st101 => ?_) ?_
        ·refine k_no rfl rfl rfl rfl ?_
         exact fq_end
        refine rt_fin ?_
        refine k_no rfl rfl rfl rfl ?_
        refine k_pickF rfl rfl rfl rfl ?_
        refine k_nil ?_
        refine k_keep [(1, _), (2, _), (6, _), (7, _), (14, _), (15, _), (16, _), (141, _)] ⟨rfl, rfl, rfl, rfl, rfl, rfl, rfl, rfl, trivial⟩ ?_
        refine k_cond_false rfl ?_
        refine k_skip ?_
        refine k_seq ?_
        refine k_region ?_
        refine k_move rfl rfl ?_
        refine k_move rfl rfl ?_
        obtain ⟨x41, hx41, h⟩ := ob h
        refine k_ixaddr Tryd.underlying53 size9 rfl rfl (SL.of_R h66_0) (geti_out hx41).1 (geti_map hx41) rfl ?_
        intro qx41 hqx41
        refine k_load_val one9 rfl hqx41 rfl ?_
        refine k_move rfl rfl ?_
        refine k_geq_str rfl rfl rfl ?_
        refine k_move rfl rfl ?_
        obtain ⟨x42, hx42, h⟩ := ob h
        have hE102 := Step.r0 K0 s71
        refine k_cutl (X := St) 11 [(1, S a1), (2, S a2), (6, .bool false), (7, (.pointer (some ⟨pb8, 0, none⟩))), (14, v66_0), (15, .int .i64 x33), (16, .int .i64 x34), (141, .bool false), (142, v66_0), (143, .int .i64 x34), (144, qx41), (145, S x41), (146, S a1), (147, .bool (!Op.bytesLess x41 a1))] (fun _ => [(159, .bool x42)]) (fun sl wL => sl.w = wL ∧ Step K0 s71 sl) ?_ ?_
        ·
         refine k_again 148 rfl ?_
         refine k_splitb (fun c103 => ?_) (fun c103 => ?_)
         ·
          have hx42 := ibT hx42 c103
          refine k_yes rfl rfl ?_
          refine k_move rfl rfl ?_
          refine k_yes rfl rfl ?_
          refine k_eql_str rfl rfl rfl ?_
          refine k_yes rfl rfl ?_
          refine k_move rfl rfl ?_
          obtain ⟨x43, hx43, hx42⟩ := ob hx42
          have hE104 := Step.r0 K0 s71
          refine k_cutl (X := St) 7 [(1, S a1), (2, S a2), (6, .bool false), (7, (.pointer (some ⟨pb8, 0, none⟩))), (14, v66_0), (15, .int .i64 x33), (16, .int .i64 x34), (141, .bool false), (142, v66_0), (143, .int .i64 x34), (144, qx41), (145, S x41), (146, S a1), (147, .bool (!Op.bytesLess x41 a1)), (148, .bool true), (149, S a2), (150, .bool (decide (a2 = ([] : List UInt8))))] (fun _ => [(158, .bool x43)]) (fun sl wL => sl.w = wL ∧ Step K0 s71 sl) ?_ ?_
          ·
           refine k_again 151 rfl ?_
           refine k_split (fun c105 => ?_) (fun c105 => ?_)
           ·
            have hx43 := itT hx43 c105
            refine k_no rfl rfl rfl rfl ?_
            refine k_no rfl rfl rfl rfl ?_
            refine k_no rfl rfl rfl rfl ?_
            refine k_no rfl rfl rfl rfl ?_
            refine k_no rfl rfl rfl rfl ?_
            refine k_no rfl rfl rfl rfl ?_
            refine k_yes rfl rfl ?_
            refine k_pickT rfl rfl rfl rfl ?_
            exact k_met ⟨s71, ⟨(congrArg (fun b => some (Value.bool b)) (Option.some.inj hx43)), trivial⟩, ⟨rfl, rfl, rfl, rfl, rfl, rfl, rfl, rfl, rfl, rfl, rfl, rfl, rfl, rfl, rfl, rfl, rfl, trivial⟩, rfl, hE104⟩
           ·
            have hx43 := itF hx43 c105
            refine k_yes rfl rfl ?_
            refine k_move rfl rfl ?_
            refine k_yes rfl rfl ?_
            refine k_move rfl rfl ?_
            refine k_yes rfl rfl ?_
            obtain ⟨x44, hx44, hx43⟩ := ob hx43
            refine k_ixaddr Tryd.underlying53 size9 rfl rfl (SL.of_R h66_0) (geti_out hx44).1 (geti_map hx44) rfl ?_
            intro qx44 hqx44
            refine k_yes rfl rfl ?_
            refine k_load_val one9 rfl hqx44 rfl ?_
            refine k_yes rfl rfl ?_
            refine k_move rfl rfl ?_
            refine k_yes rfl rfl ?_
            refine k_lss_str rfl rfl rfl ?_
            refine k_yes rfl rfl ?_
            refine k_pickF rfl rfl rfl rfl ?_
            exact k_met ⟨s71, ⟨(congrArg (fun b => some (Value.bool b)) (Option.some.inj hx43)), trivial⟩, ⟨rfl, rfl, rfl, rfl, rfl, rfl, rfl, rfl, rfl, rfl, rfl, rfl, rfl, rfl, rfl, rfl, rfl, trivial⟩, rfl, hE104⟩
          ·
           rintro s106 wL ⟨rfl, hE104⟩
           have szs106 := hE104.size
           have hS := hS.trans0 hE104
           have hE67 := hE67.trans0 hE104
           have hE68 := hE68.trans0 hE104
           have hE102 := hE102.trans0 hE104
           refine k_pickT rfl rfl rfl rfl ?_
           exact k_met ⟨s106, ⟨(congrArg (fun b => some (Value.bool b)) (Option.some.inj hx42)), trivial⟩, ⟨rfl, rfl, rfl, rfl, rfl, rfl, rfl, rfl, rfl, rfl, rfl, rfl, rfl, rfl, trivial⟩, rfl, hE102⟩
         ·
          have hx42 := ibF hx42 c103
          refine k_no rfl rfl rfl rfl ?_
          refine k_no rfl rfl rfl rfl ?_
          refine k_no rfl rfl rfl rfl ?_
          refine k_nou rfl rfl rfl rfl ?_
          refine k_nou rfl rfl rfl rfl ?_
          refine k_nou rfl rfl rfl rfl ?_
          refine k_nou rfl rfl rfl rfl ?_
          refine k_nou rfl rfl rfl rfl ?_
          refine k_nou rfl rfl rfl rfl ?_
          refine k_no rfl rfl rfl rfl ?_
          refine k_pickF rfl rfl rfl rfl ?_
          exact k_met ⟨s71, ⟨(congrArg (fun b => some (Value.bool b)) (Option.some.inj hx42)), trivial⟩, ⟨rfl, rfl, rfl, rfl, rfl, rfl, rfl, rfl, rfl, rfl, rfl, rfl, rfl, rfl, trivial⟩, rfl, hE102⟩
        ·
         rintro s107 wL ⟨rfl, hE102⟩
         have szs107 := hE102.size
         have hS := hS.trans0 hE102
         have hE67 := hE67.trans0 hE102
         have hE68 := hE68.trans0 hE102
         refine k_nil ?_
         refine k_keep [(1, _), (2, _), (6, _), (7, _), (14, _), (15, _), (16, _), (159, _)] ⟨rfl, rfl, rfl, rfl, rfl, rfl, rfl, rfl, trivial⟩ ?_
         refine k_cond rfl (fun c108 => ?_) (fun c108 => ?_)
         ·
          have h := ibT h c108
          refine k_region ?_
          refine k_move rfl rfl ?_
          refine k_add rfl rfl rfl ?_
          refine k_assign rfl rfl ?_
          refine k_nil ?_
          refine k_blk ?_
          refine k_region ?_
          refine k_move rfl rfl ?_
          refine k_add rfl rfl rfl ?_
          refine k_assign rfl rfl ?_
          refine k_nil ?_
          exact k_stop ⟨(s107, i64 (x33 + 1), i64 (x34 + 1), j), ⟨(by first | rfl | (simp <;> rfl)), (by first | rfl | (simp <;> rfl)), trivial⟩, ⟨rfl, rfl, rfl, rfl, rfl, trivial⟩, ⟨rfl, hE68, h⟩, (by simp)⟩
         ·
          have h := ibF h c108
          refine k_skip ?_
          refine k_blk ?_
          refine k_region ?_
          refine k_move rfl rfl ?_
          refine k_add rfl rfl rfl ?_
          refine k_assign rfl rfl ?_
          refine k_nil ?_
          exact k_stop ⟨(s107, x33, i64 (x34 + 1), j), ⟨(by first | rfl | (simp <;> rfl)), (by first | rfl | (simp <;> rfl)), trivial⟩, ⟨rfl, rfl, rfl, rfl, rfl, trivial⟩, ⟨rfl, hE68, h⟩, (by simp)⟩
      ·
       have h := itF h c70
       refine k_exit rfl ?_
       exact k_stop ⟨(s69, x33), ⟨(by first | rfl | (simp <;> rfl)), trivial⟩, ⟨rfl, rfl, rfl, rfl, trivial⟩, ⟨rfl, hE67, h⟩⟩
     ·
      rintro ⟨s109, x32⟩ wL ⟨rfl, hE67, h⟩
      rw [hK67] at h
      have szs109 := hE67.size
      have hS := hS.trans0 hE67
      replace h7_0 := h7_0.up2 hE67
      replace tb0 := tb0.up2 hE67
      refine k_seq ?_
      refine k_region ?_
      refine k_move rfl rfl ?_
      refine k_move rfl rfl ?_
      refine k_move rfl rfl ?_
      obtain ⟨x45, hx45, h⟩ := ob h
      refine k_call cal21 rfl (keys_Index_int_Scan_w  h7_0 hx45) rfl ?_
      rintro s110 vr110 st110 ⟨ub110_0_0, ub110_0_1, ub110_0_2, rfl, hg110_0_0, h110_0_0, hg110_0_1, h110_0_1, hg110_0_2, h110_0_2⟩
      have szs110 := st110.size
      have hS := hS.trans0 st110
      replace h7_0 := h7_0.up2 st110
      replace tb0 := tb0.up2 st110
      obtain ⟨x46, hx46, h⟩ := ob h
      refine k_call cal15 rfl (law12_row_c39_w  h110_0_0 h7_0 h110_0_1 h110_0_2 hx46) rfl ?_
      rintro s111 v111_0 st111 ⟨_, rfl, h111_0⟩
      have szs111 := st111.size
      have hS := hS.trans0 st111
      replace tb0 := tb0.up2 st111
      refine k_assign rfl rfl ?_
      refine k_nil ?_
      refine k_keep [(1, _), (2, _), (6, _), (15, _), (17, _)] ⟨rfl, rfl, rfl, rfl, rfl, trivial⟩ ?_
      refine k_seq ?_
      obtain ⟨kj47, hK112, h⟩ := jn_out h
      have hE112 := Step.r0 K0 s111
      refine k_cutc (X := St) [(6, .bool false), (15, .int .i64 x32), (17, v111_0)] (fun (xL : St) => match xL with | sl => []) (fun (xL : St) (wL : World) => match xL with | sl => sl.w = wL ∧ Step K0 s111 sl ∧ kj47 () = some r) ?_ ?_
      ·
       refine k_seq ?_
       refine k_region ?_
       refine k_assign rfl rfl ?_
       refine k_nil ?_
       refine k_block ?_
       refine k_loopc (X := St × Int × Nat) [(1, _), (2, _), (6, _), (15, _), (17, _)] (fun (xL : St × Int × Nat) => match xL with | (sl, x48, j) => [(18, .int .i64 x48)]) (fun (xL : St × Int × Nat) (wL : World) => match xL with | (sl, x48, j) => sl.w = wL ∧ Step K0 s111 sl ∧ law12_KeysRow_l5 x46 a1 a2 kj47 j x48 = some r) (fun (xL : St × Int × Nat) => match xL with | (sl, x48, j) => j) (s111, 0, FU) ⟨rfl, rfl, rfl, rfl, rfl, trivial⟩ ⟨(by first | rfl | (simp <;> rfl)), trivial⟩ ⟨rfl, (Step.refl _).of0 (by first | exact fun _ h => h | (intro c h; simp [KC, KO, KU, KN, KB] at h <;> omega)), h⟩ ?_
       rintro ⟨s114, x48, j⟩ wL ⟨rfl, hE113, h⟩
       cases j with
       | zero => rw [law12_KeysRow_l5] at h; exact (noneNe h).elim
       | succ j =>
       rw [law12_KeysRow_l5] at h
       have szs114 := hE113.size
       have hS := hS.trans0 hE113
       have hE112 := hE112.trans0 hE113
       replace h111_0 := h111_0.up2 hE113
       refine k_seq ?_
       refine k_seq ?_
       refine k_region ?_
       refine k_move rfl rfl ?_
       refine k_move rfl rfl ?_
       refine k_len Tryd.underlying28 rfl (SL.of_R h111_0).hasLen rfl ?_
       refine k_as (v := .int .i64 (x46.length : Int)) (by simp only [List.length_map]) ?_
       refine k_lss rfl rfl rfl ?_
       refine k_nil ?_
       refine k_keep [(1, _), (2, _), (6, _), (15, _), (17, _), (18, _), (170, _)] ⟨rfl, rfl, rfl, rfl, rfl, rfl, rfl, trivial⟩ ?_
       refine k_cond_dec rfl (fun c115 => ?_) (fun c115 => ?_)
       ·
        have h := itT h c115
        refine k_skip ?_
        refine k_seq ?_
        refine k_block ?_
        refine k_seq ?_
        refine k_keep [(1, _), (2, _), (6, _), (15, _), (17, _), (18, _)] ⟨rfl, rfl, rfl, rfl, rfl, rfl, trivial⟩ ?_
        refine k_drawT (KN s114.n) 38 (.read 0 (.read 1 (.read 2 (.read 3 (.read 4 (.read 5 (.read 6 (.read 7 (.read 8 (.read 9 (.read 10 (.read 11 (.read 12 (.read 13 (.read 14 (.read 15 (.read 16 (.read 17 (.read 18 (.read 19 (.read 20 (.read 21 (.read 22 (.read 23 (.read 24 (.read 25 (.read 26 (.read 27 (.read 28 (.read 29 (.read 30 (.read 31 (.read 32 (.read 33 (.read 34 (.read 35 (.read 36 (.read 37 .fin)))))))))))))))))))))))))))))))))))))) mixed (by intro c h; (try simp only [KC, KO, KU, KN, KB] at h) <;> omega) rfl rfl rfl ?_
        intro s116 st116
        have szs116 := st116.size
        have hS := hS.trans0 st116
        have hE112 := hE112.trans0 st116
        have hE113 := hE113.trans0 st116
        replace h111_0 := h111_0.up2 st116
        refine rt_read (v111_0) rfl rfl (fun s117 st117 => ?_) ?_
        ·refine k_move rfl rfl ?_
         exact fq_end
        refine rt_read (.int .i64 x48) rfl rfl (fun s118 st118 => ?_) ?_
        ·refine k_move rfl rfl ?_
         exact fq_end
        obtain ⟨x49, hx49, h⟩ := ob h
        refine rt_ix rfl (wanted_none rfl) Tryd.underlying28 size55 rfl rfl (SL.of_R h111_0) (geti_out hx49).1 (geti_map hx49) rfl ?_
        intro q119 hq119
        refine rt_fa rfl (wanted_none rfl) rfl hq119 (by rfl) fld55_0 rfl ?_
        intro q120 h120
        refine rt_read (S x49.Key) rfl rfl (fun s121 st121 => ?_) ?_
        ·try replace h120 := h120.up2 st121
         refine k_load_val one9 rfl h120 rfl ?_
         exact fq_end
        refine rt_read (S a1) rfl rfl (fun s122 st122 => ?_) ?_
        ·refine k_move rfl rfl ?_
         exact fq_end
        refine rt_read (.bool (Op.bytesLess x49.Key a1)) rfl rfl (fun s123 st123 => ?_) ?_
        ·refine k_lss_str rfl rfl rfl ?_
         exact fq_end
        refine rt_read (.bool (Op.bytesLess x49.Key a1)) rfl rfl (fun s124 st124 => ?_) ?_
        ·refine k_move rfl rfl ?_
         exact fq_end
        refine rt_splitb (fun c125 => ?_) (fun c125 => ?_)
        ·
         have h := ibT h c125
         refine rt_read undef rfl rfl (fun s126 st126 => ?_) ?_
         ·refine k_no rfl rfl rfl rfl ?_
          exact fq_end
         refine rt_read undef rfl rfl (fun s127 st127 => ?_) ?_
         ·refine k_no rfl rfl rfl rfl ?_
          exact fq_end
         refine rt_read undef rfl rfl (fun s128 st128 => ?_) ?_
         ·refine k_no rfl rfl rfl rfl ?_
          exact fq_end
         refine rt_read undef rfl rfl (fun s129 st129 => ?_) ?_
         ·refine k_nou rfl rfl rfl rfl ?_
          exact fq_end
         refine rt_read undef rfl rfl (fun s130 st130 => ?_) ?_
         ·refine k_nou rfl rfl rfl rfl ?_
          exact fq_end
         refine rt_read undef rfl rfl (fun s131 st131 => ?_) ?_
         ·refine k_nou rfl rfl rfl rfl ?_
          exact fq_end
         refine rt_read undef rfl rfl (fun s132 st132 => ?_) ?_
         ·refine k_nou rfl rfl rfl rfl ?_
          exact fq_end
         refine rt_read undef rfl rfl (fun s133 st133 => ?_) ?_
         ·refine k_nou rfl rfl rfl rfl ?_
          exact fq_end
         refine rt_read undef rfl rfl (fun s134 st134 => ?_) ?_
         ·refine k_nou rfl rfl rfl rfl ?_
          exact fq_end
         refine rt_read undef rfl rfl (fun s135 st135 => ?_) ?_
         ·refine k_nou rfl rfl rfl rfl ?_
          exact fq_end
         refine rt_read undef rfl rfl (fun s136 st136 => ?_) ?_
         ·refine k_no rfl rfl rfl rfl ?_
          exact fq_end
         refine rt_read (.bool true) rfl rfl (fun s137 st137 => ?_) ?_
         ·refine k_pickT rfl rfl rfl rfl ?_
          exact fq_end
         refine rt_read (.bool true) rfl rfl (fun s138 st138 => ?_) ?_
         ·refine k_move rfl rfl ?_
          exact fq_end
         refine rt_read undef rfl rfl (fun s139 st139 => ?_) ?_
         ·refine k_no rfl rfl rfl rfl ?_
          exact fq_end
         refine rt_read undef rfl rfl (fun s140 st140 => ?_) ?_
         ·refine k_no rfl rfl rfl rfl ?_
          exact fq_end
         refine rt_read undef rfl rfl (fun s141 st141 => ?_) ?_
         ·refine k_no rfl rfl rfl rfl ?_
          exact fq_end
         refine rt_read undef rfl rfl (fun s142 st142 => ?_) ?_
         ·refine k_nou rfl rfl rfl rfl ?_
          exact fq_end
         refine rt_read undef rfl rfl (fun s143 st143 => ?_) ?_
         ·refine k_nou rfl rfl rfl rfl ?_
          exact fq_end
         refine rt_read undef rfl rfl (fun s144 st144 => ?_) ?_
         ·refine k_nou rfl rfl rfl rfl ?_
          exact fq_end
         refine rt_read undef rfl rfl (fun s145 st145 => ?_) ?_
         ·refine k_nou rfl rfl rfl rfl ?_
          exact fq_end
         refine rt_read undef rfl rfl (fun s146 st146 => ?_) ?_
         ·refine k_nou rfl rfl rfl rfl ?_
          exact fq_end
         refine rt_read undef rfl rfl (fun s147 st147 => ?_) ?_
         ·refine k_nou rfl rfl rfl rfl ?_
          exact fq_end
         refine rt_read undef rfl rfl (fun s148 st148 => ?_) ?_
         ·refine k_nou rfl rfl rfl rfl ?_
          exact fq_end
         refine rt_read undef rfl rfl (fun s149 st149 => ?_) ?_
         ·refine k_nou rfl rfl rfl rfl ?_
          exact fq_end
         refine rt_read undef rfl rfl (fun s150 st150 => ?_) ?_
         ·refine k_nou rfl rfl rfl rfl ?_
          exact fq_end
         refine rt_read undef rfl rfl (fun s151 st151 => ?_) ?_
         ·refine k_nou rfl rfl rfl rfl ?_
          exact fq_end
         refine rt_read undef rfl rfl (fun s152 st152 => ?_) ?_
         ·refine k_nou rfl rfl rfl rfl ?_
          exact fq_end
         refine rt_read undef rfl rfl (fun s153 st153 => ?_) ?_
         ·refine k_nou rfl rfl rfl rfl ?_
          exact fq_end
         refine rt_read undef rfl rfl (fun s154 st154 => ?_) ?_
         ·refine k_no rfl rfl rfl rfl ?_
          exact fq_end
         refine rt_read (.bool true) rfl rfl (fun s155 st155 => ?_) ?_
         ·refine k_pickT rfl rfl rfl rfl ?_
          exact fq_end
         refine rt_fin ?_
         refine k_nil ?_
         refine k_keep [(1, _), (2, _), (6, _), (15, _), (17, _), (18, _), (210, _)] ⟨rfl, rfl, rfl, rfl, rfl, rfl, rfl, trivial⟩ ?_
         refine k_cond_true rfl ?_
         refine k_seq ?_
         refine k_region ?_
         refine k_assign rfl rfl ?_
         refine k_nil ?_
         refine k_keep [(1, _), (2, _), (6, _), (15, _), (17, _), (18, _)] ⟨rfl, rfl, rfl, rfl, rfl, rfl, trivial⟩ ?_
         refine k_ret ?_
         obtain rfl := Option.some.inj h
         refine ⟨_, rfl, Ret.mk hS ?_⟩
         exact rfl
        ·
         have h := ibF h c125
         refine rt_read (S a2) rfl rfl (fun s156 st156 => ?_) ?_
         ·refine k_yes rfl rfl ?_
          refine k_move rfl rfl ?_
          exact fq_end
         refine rt_read (.bool (decide (a2 ≠ ([] : List UInt8)))) rfl rfl (fun s157 st157 => ?_) ?_
         ·refine k_yes rfl rfl ?_
          refine k_neq_str rfl rfl rfl ?_
          exact fq_end
         refine rt_read (.bool (decide (a2 ≠ ([] : List UInt8)))) rfl rfl (fun s158 st158 => ?_) ?_
         ·refine k_yes rfl rfl ?_
          refine k_move rfl rfl ?_
          exact fq_end
         refine rt_split (fun c159 => ?_) (fun c159 => ?_)
         ·
          have h := itT h c159
          refine rt_read (v111_0) rfl rfl (fun s160 st160 => ?_) ?_
          ·refine k_yes rfl rfl ?_
           refine k_move rfl rfl ?_
           exact fq_end
          refine rt_read (.int .i64 x48) rfl rfl (fun s161 st161 => ?_) ?_
          ·refine k_yes rfl rfl ?_
           refine k_move rfl rfl ?_
           exact fq_end
          obtain ⟨x50, hx50, h⟩ := ob h
          refine rt_ix rfl (wanted_yes rfl rfl rfl) Tryd.underlying28 size55 rfl rfl (SL.of_R h111_0) (geti_out hx50).1 (geti_map hx50) rfl ?_
          intro q162 hq162
          refine rt_fa rfl (wanted_yes rfl rfl rfl) rfl hq162 (by rfl) fld55_0 rfl ?_
          intro q163 h163
          refine rt_read (S x50.Key) rfl rfl (fun s164 st164 => ?_) ?_
          ·try replace h163 := h163.up2 st164
           refine k_yes rfl rfl ?_
           refine k_load_val one9 rfl h163 rfl ?_
           exact fq_end
          refine rt_read (S a2) rfl rfl (fun s165 st165 => ?_) ?_
          ·refine k_yes rfl rfl ?_
           refine k_move rfl rfl ?_
           exact fq_end
          refine rt_read (.bool (!Op.bytesLess x50.Key a2)) rfl rfl (fun s166 st166 => ?_) ?_
          ·refine k_yes rfl rfl ?_
           refine k_geq_str rfl rfl rfl ?_
           exact fq_end
          refine rt_read (.bool (!Op.bytesLess x50.Key a2)) rfl rfl (fun s167 st167 => ?_) ?_
          ·refine k_yes rfl rfl ?_
           refine k_pickT rfl rfl rfl rfl ?_
           exact fq_end
          refine rt_read (.bool (!Op.bytesLess x50.Key a2)) rfl rfl (fun s168 st168 => ?_) ?_
          ·refine k_pickF rfl rfl rfl rfl ?_
           exact fq_end
          refine rt_read (.bool (!Op.bytesLess x50.Key a2)) rfl rfl (fun s169 st169 => ?_) ?_
          ·refine k_move rfl rfl ?_
           exact fq_end
          refine rt_splitb (fun c170 => ?_) (fun c170 => ?_)
          ·
           have h := ibT h c170
           refine rt_read undef rfl rfl (fun s171 st171 => ?_) ?_
           ·refine k_no rfl rfl rfl rfl ?_
            exact fq_end
           refine rt_read undef rfl rfl (fun s172 st172 => ?_) ?_
           ·refine k_no rfl rfl rfl rfl ?_
            exact fq_end
           refine rt_read undef rfl rfl (fun s173 st173 => ?_) ?_
           ·refine k_no rfl rfl rfl rfl ?_
            exact fq_end
           refine rt_read undef rfl rfl (fun s174 st174 => ?_) ?_
           ·refine k_nou rfl rfl rfl rfl ?_
            exact fq_end
           refine rt_read undef rfl rfl (fun s175 st175 => ?_) ?_
           ·refine k_nou rfl rfl rfl rfl ?_
            exact fq_end
           refine rt_read undef rfl rfl (fun s176 st176 => ?_) ?_
           ·refine k_nou rfl rfl rfl rfl ?_
            exact fq_end
           refine rt_read undef rfl rfl (fun s177 st177 => ?_) ?_
           ·refine k_nou rfl rfl rfl rfl ?_
            exact fq_end
           refine rt_read undef rfl rfl (fun s178 st178 => ?_) ?_
           ·refine k_nou rfl rfl rfl rfl ?_
            exact fq_end
           refine rt_read undef rfl rfl (fun s179 st179 => ?_) ?_
           ·refine k_nou rfl rfl rfl rfl ?_
            exact fq_end
           refine rt_read undef rfl rfl (fun s180 st180 => ?_) ?_
           ·refine k_nou rfl rfl rfl rfl ?_
            exact fq_end
           refine rt_read undef rfl rfl (fun s181 st181 => ?_) ?_
           ·refine k_nou rfl rfl rfl rfl ?_
            exact fq_end
           refine rt_read undef rfl rfl (fun s182 st182 => ?_) ?_
           ·refine k_nou rfl rfl rfl rfl ?_
            exact fq_end
           refine rt_read undef rfl rfl (fun s183 st183 => ?_) ?_
           ·refine k_nou rfl rfl rfl rfl ?_
            exact fq_end
           refine rt_read undef rfl rfl (fun s184 st184 => ?_) ?_
           ·refine k_nou rfl rfl rfl rfl ?_
            exact fq_end
           refine rt_read undef rfl rfl (fun s185 st185 => ?_) ?_
           ·refine k_nou rfl rfl rfl rfl ?_
            exact fq_end
           refine rt_read undef rfl rfl (fun s186 st186 => ?_) ?_
           ·refine k_no rfl rfl rfl rfl ?_
            exact fq_end
           refine rt_read (.bool true) rfl rfl (fun s187 st187 => ?_) ?_
           ·refine k_pickT rfl rfl rfl rfl ?_
            exact fq_end
           refine rt_fin ?_
           refine k_nil ?_
           refine k_keep [(1, _), (2, _), (6, _), (15, _), (17, _), (18, _), (210, _)] ⟨rfl, rfl, rfl, rfl, rfl, rfl, rfl, trivial⟩ ?_
           refine k_cond_true rfl ?_
           refine k_seq ?_
           refine k_region ?_
           refine k_assign rfl rfl ?_
           refine k_nil ?_
           refine k_keep [(1, _), (2, _), (6, _), (15, _), (17, _), (18, _)] ⟨rfl, rfl, rfl, rfl, rfl, rfl, trivial⟩ ?_
           refine k_ret ?_
           obtain rfl := Option.some.inj h
           refine ⟨_, rfl, Ret.mk hS ?_⟩
           exact rfl
          ·
           have h := ibF h c170
           refine rt_read (.int .i64 x48) rfl rfl (fun s188 st188 => ?_) ?_
           ·refine k_yes rfl rfl ?_
            refine k_move rfl rfl ?_
            exact fq_end
           refine rt_read (.bool (decide (0 < x48))) rfl rfl (fun s189 st189 => ?_) ?_
           ·refine k_yes rfl rfl ?_
            refine k_gtr rfl rfl rfl ?_
            exact fq_end
           refine rt_read (.bool (decide (0 < x48))) rfl rfl (fun s190 st190 => ?_) ?_
           ·refine k_yes rfl rfl ?_
            refine k_move rfl rfl ?_
            exact fq_end
           refine rt_split (fun c191 => ?_) (fun c191 => ?_)
           ·
            have h := itT h c191
            refine rt_read (v111_0) rfl rfl (fun s192 st192 => ?_) ?_
            ·refine k_yes rfl rfl ?_
             refine k_move rfl rfl ?_
             exact fq_end
            refine rt_read (.int .i64 x48) rfl rfl (fun s193 st193 => ?_) ?_
            ·refine k_yes rfl rfl ?_
             refine k_move rfl rfl ?_
             exact fq_end
            refine rt_read (.int .i64 (i64 (x48 - 1))) rfl rfl (fun s194 st194 => ?_) ?_
            ·refine k_yes rfl rfl ?_
             refine k_sub_ rfl rfl rfl ?_
             exact fq_end
            obtain ⟨x51, hx51, h⟩ := ob h
            refine rt_ix rfl (wanted_yes rfl rfl rfl) Tryd.underlying28 size55 rfl rfl (SL.of_R h111_0) (geti_out hx51).1 (geti_map hx51) rfl ?_
            intro q195 hq195
            refine rt_fa rfl (wanted_yes rfl rfl rfl) rfl hq195 (by rfl) fld55_0 rfl ?_
            intro q196 h196
            refine rt_read (S x51.Key) rfl rfl (fun s197 st197 => ?_) ?_
            ·try replace h196 := h196.up2 st197
             refine k_yes rfl rfl ?_
             refine k_load_val one9 rfl h196 rfl ?_
             exact fq_end
            refine rt_read (v111_0) rfl rfl (fun s198 st198 => ?_) ?_
            ·refine k_yes rfl rfl ?_
             refine k_move rfl rfl ?_
             exact fq_end
            refine rt_read (.int .i64 x48) rfl rfl (fun s199 st199 => ?_) ?_
            ·refine k_yes rfl rfl ?_
             refine k_move rfl rfl ?_
             exact fq_end
            obtain ⟨x52, hx52, h⟩ := ob h
            refine rt_ix rfl (wanted_yes rfl rfl rfl) Tryd.underlying28 size55 rfl rfl (SL.of_R h111_0) (geti_out hx52).1 (geti_map hx52) rfl ?_
            intro q200 hq200
            refine rt_fa rfl (wanted_yes rfl rfl rfl) rfl hq200 (by rfl) fld55_0 rfl ?_
            intro q201 h201
            refine rt_read (S x52.Key) rfl rfl (fun s202 st202 => ?_) ?_
            ·try replace h201 := h201.up2 st202
             refine k_yes rfl rfl ?_
             refine k_load_val one9 rfl h201 rfl ?_
             exact fq_end
            refine rt_read (.bool (!Op.bytesLess x51.Key x52.Key)) rfl rfl (fun s203 st203 => ?_) ?_
            ·refine k_yes rfl rfl ?_
             refine k_geq_str rfl rfl rfl ?_
             exact fq_end
            refine rt_read (.bool (!Op.bytesLess x51.Key x52.Key)) rfl rfl (fun s204 st204 => ?_) ?_
            ·refine k_yes rfl rfl ?_
             refine k_pickT rfl rfl rfl rfl ?_
             exact fq_end
            refine rt_read (.bool (!Op.bytesLess x51.Key x52.Key)) rfl rfl (fun s205 st205 => ?_) ?_
            ·refine k_pickF rfl rfl rfl rfl ?_
             exact fq_end
            refine rt_fin ?_
            refine k_nil ?_
            refine k_keep [(1, _), (2, _), (6, _), (15, _), (17, _), (18, _), (210, _)] ⟨rfl, rfl, rfl, rfl, rfl, rfl, rfl, trivial⟩ ?_
            refine k_cond rfl (fun c206 => ?_) (fun c206 => ?_)
            ·
             have h := ibT h c206
             refine k_seq ?_
             refine k_region ?_
             refine k_assign rfl rfl ?_
             refine k_nil ?_
             refine k_keep [(1, _), (2, _), (6, _), (15, _), (17, _), (18, _)] ⟨rfl, rfl, rfl, rfl, rfl, rfl, trivial⟩ ?_
             refine k_ret ?_
             obtain rfl := Option.some.inj h
             refine ⟨_, rfl, Ret.mk hS ?_⟩
             exact rfl
            ·
             have h := ibF h c206
             refine k_skip ?_
             refine k_blk ?_
             refine k_region ?_
             refine k_move rfl rfl ?_
             refine k_add rfl rfl rfl ?_
             refine k_assign rfl rfl ?_
             refine k_nil ?_
             exact k_stop ⟨(s116, i64 (x48 + 1), j), ⟨(by first | rfl | (simp <;> rfl)), trivial⟩, ⟨rfl, rfl, rfl, rfl, rfl, trivial⟩, ⟨rfl, hE113, h⟩, (by simp)⟩
           ·
            have h := itF h c191
            refine rt_read undef rfl rfl (fun s207 st207 => ?_) ?_
            ·refine k_no rfl rfl rfl rfl ?_
             exact fq_end
            refine rt_read undef rfl rfl (fun s208 st208 => ?_) ?_
            ·refine k_no rfl rfl rfl rfl ?_
             exact fq_end
            refine rt_read undef rfl rfl (fun s209 st209 => ?_) ?_
            ·refine k_no rfl rfl rfl rfl ?_
             exact fq_end
            refine rt_read undef rfl rfl (fun s210 st210 => ?_) ?_
            ·refine k_no rfl rfl rfl rfl ?_
             exact fq_end
            refine rt_read undef rfl rfl (fun s211 st211 => ?_) ?_
            ·refine k_no rfl rfl rfl rfl ?_
             exact fq_end
            refine rt_read undef rfl rfl (fun s212 st212 => ?_) ?_
            ·refine k_no rfl rfl rfl rfl ?_
             exact fq_end
            refine rt_read undef rfl rfl (fun s213 st213 => ?_) ?_
            ·refine k_no rfl rfl rfl rfl ?_
             exact fq_end
            refine rt_read undef rfl rfl (fun s214 st214 => ?_) ?_
            ·refine k_no rfl rfl rfl rfl ?_
             exact fq_end
            refine rt_read undef rfl rfl (fun s215 st215 => ?_) ?_
            ·refine k_no rfl rfl rfl rfl ?_
             exact fq_end
            refine rt_read undef rfl rfl (fun s216 st216 => ?_) ?_
            ·refine k_no rfl rfl rfl rfl ?_
             exact fq_end
            refine rt_read undef rfl rfl (fun s217 st217 => ?_) ?_
            ·refine k_no rfl rfl rfl rfl ?_
             exact fq_end
            refine rt_read undef rfl rfl (fun s218 st218 => ?_) ?_
            ·refine k_no rfl rfl rfl rfl ?_
             exact fq_end
            refine rt_read (.bool false) rfl rfl (fun s219 st219 => ?_) ?_
            ·refine k_yes rfl rfl ?_
             refine k_pickF rfl rfl rfl rfl ?_
             exact fq_end
            refine rt_read (.bool false) rfl rfl (fun s220 st220 => ?_) ?_
            ·refine k_pickF rfl rfl rfl rfl ?_
             exact fq_end
            refine rt_fin ?_
            refine k_nil ?_
            refine k_keep [(1, _), (2, _), (6, _), (15, _), (17, _), (18, _), (210, _)] ⟨rfl, rfl, rfl, rfl, rfl, rfl, rfl, trivial⟩ ?_
            refine k_cond_false rfl ?_
            refine k_skip ?_
            refine k_blk ?_
            refine k_region ?_
            refine k_move rfl rfl ?_
            refine k_add rfl rfl rfl ?_
            refine k_assign rfl rfl ?_
            refine k_nil ?_
            exact k_stop ⟨(s116, i64 (x48 + 1), j), ⟨(by first | rfl | (simp <;> rfl)), trivial⟩, ⟨rfl, rfl, rfl, rfl, rfl, trivial⟩, ⟨rfl, hE113, h⟩, (by simp)⟩
         ·
          have h := itF h c159
          refine rt_read undef rfl rfl (fun s221 st221 => ?_) ?_
          ·refine k_no rfl rfl rfl rfl ?_
           exact fq_end
          refine rt_read undef rfl rfl (fun s222 st222 => ?_) ?_
          ·refine k_no rfl rfl rfl rfl ?_
           exact fq_end
          refine rt_read undef rfl rfl (fun s223 st223 => ?_) ?_
          ·refine k_no rfl rfl rfl rfl ?_
           exact fq_end
          refine rt_read undef rfl rfl (fun s224 st224 => ?_) ?_
          ·refine k_no rfl rfl rfl rfl ?_
           exact fq_end
          refine rt_read undef rfl rfl (fun s225 st225 => ?_) ?_
          ·refine k_no rfl rfl rfl rfl ?_
           exact fq_end
          refine rt_read undef rfl rfl (fun s226 st226 => ?_) ?_
          ·refine k_no rfl rfl rfl rfl ?_
           exact fq_end
          refine rt_read undef rfl rfl (fun s227 st227 => ?_) ?_
          ·refine k_no rfl rfl rfl rfl ?_
           exact fq_end
          refine rt_read (.bool false) rfl rfl (fun s228 st228 => ?_) ?_
          ·refine k_yes rfl rfl ?_
           refine k_pickF rfl rfl rfl rfl ?_
           exact fq_end
          refine rt_read (.bool false) rfl rfl (fun s229 st229 => ?_) ?_
          ·refine k_pickF rfl rfl rfl rfl ?_
           exact fq_end
          refine rt_read (.bool false) rfl rfl (fun s230 st230 => ?_) ?_
          ·refine k_move rfl rfl ?_
           exact fq_end
          refine rt_read (.int .i64 x48) rfl rfl (fun s231 st231 => ?_) ?_
          ·refine k_yes rfl rfl ?_
           refine k_move rfl rfl ?_
           exact fq_end
          refine rt_read (.bool (decide (0 < x48))) rfl rfl (fun s232 st232 => ?_) ?_
          ·refine k_yes rfl rfl ?_
           refine k_gtr rfl rfl rfl ?_
           exact fq_end
          refine rt_read (.bool (decide (0 < x48))) rfl rfl (fun s233 st233 => ?_) ?_
          ·refine k_yes rfl rfl ?_
           refine k_move rfl rfl ?_
           exact fq_end
          refine rt_split (fun c234 => ?_) (fun c234 => ?_)
          ·
           have h := itT h c234
           refine rt_read (v111_0) rfl rfl (fun s235 st235 => ?_) ?_
           ·refine k_yes rfl rfl ?_
            refine k_move rfl rfl ?_
            exact fq_end
           refine rt_read (.int .i64 x48) rfl rfl (fun s236 st236 => ?_) ?_
           ·refine k_yes rfl rfl ?_
            refine k_move rfl rfl ?_
            exact fq_end
           refine rt_read (.int .i64 (i64 (x48 - 1))) rfl rfl (fun s237 st237 => ?_) ?_
           ·refine k_yes rfl rfl ?_
            refine k_sub_ rfl rfl rfl ?_
            exact fq_end
           obtain ⟨x53, hx53, h⟩ := ob h
           refine rt_ix rfl (wanted_yes rfl rfl rfl) Tryd.underlying28 size55 rfl rfl (SL.of_R h111_0) (geti_out hx53).1 (geti_map hx53) rfl ?_
           intro q238 hq238
           refine rt_fa rfl (wanted_yes rfl rfl rfl) rfl hq238 (by rfl) fld55_0 rfl ?_
           intro q239 h239
           refine rt_read (S x53.Key) rfl rfl (fun s240 st240 => ?_) ?_
           ·try replace h239 := h239.up2 st240
            refine k_yes rfl rfl ?_
            refine k_load_val one9 rfl h239 rfl ?_
            exact fq_end
           refine rt_read (v111_0) rfl rfl (fun s241 st241 => ?_) ?_
           ·refine k_yes rfl rfl ?_
            refine k_move rfl rfl ?_
            exact fq_end
           refine rt_read (.int .i64 x48) rfl rfl (fun s242 st242 => ?_) ?_
           ·refine k_yes rfl rfl ?_
            refine k_move rfl rfl ?_
            exact fq_end
           obtain ⟨x54, hx54, h⟩ := ob h
           refine rt_ix rfl (wanted_yes rfl rfl rfl) Tryd.underlying28 size55 rfl rfl (SL.of_R h111_0) (geti_out hx54).1 (geti_map hx54) rfl ?_
           intro q243 hq243
           refine rt_fa rfl (wanted_yes rfl rfl rfl) rfl hq243 (by rfl) fld55_0 rfl ?_
           intro q244 h244
           refine rt_read (S x54.Key) rfl rfl (fun s245 st245 => ?_) ?_
           ·try replace h244 := h244.up2 st245
            refine k_yes rfl rfl ?_
            refine k_load_val one9 rfl h244 rfl ?_
            exact fq_end
           refine rt_read (.bool (!Op.bytesLess x53.Key x54.Key)) rfl rfl (fun s246 st246 => ?_) ?_
           ·refine k_yes rfl rfl ?_
            refine k_geq_str rfl rfl rfl ?_
            exact fq_end
           refine rt_read (.bool (!Op.bytesLess x53.Key x54.Key)) rfl rfl (fun s247 st247 => ?_) ?_
           ·refine k_yes rfl rfl ?_
            refine k_pickT rfl rfl rfl rfl ?_
            exact fq_end
           refine rt_read (.bool (!Op.bytesLess x53.Key x54.Key)) rfl rfl (fun s248 st248 => ?_) ?_
           ·refine k_pickF rfl rfl rfl rfl ?_
            exact fq_end
           refine rt_fin ?_
           refine k_nil ?_
           refine k_keep [(1, _), (2, _), (6, _), (15, _), (17, _), (18, _), (210, _)] ⟨rfl, rfl, rfl, rfl, rfl, rfl, rfl, trivial⟩ ?_
           refine k_cond rfl (fun c249 => ?_) (fun c249 => ?_)
           ·
            have h := ibT h c249
            refine k_seq ?_
            refine k_region ?_
            refine k_assign rfl rfl ?_
            refine k_nil ?_
            refine k_keep [(1, _), (2, _), (6, _), (15, _), (17, _), (18, _)] ⟨rfl, rfl, rfl, rfl, rfl, rfl, trivial⟩ ?_
            refine k_ret ?_
            obtain rfl := Option.some.inj h
            refine ⟨_, rfl, Ret.mk hS ?_⟩
            exact rfl
           ·
            have h := ibF h c249
            refine k_skip ?_
            refine k_blk ?_
            refine k_region ?_
            refine k_move rfl rfl ?_
            refine k_add rfl rfl rfl ?_
            refine k_assign rfl rfl ?_
            refine k_nil ?_
            exact k_stop ⟨(s116, i64 (x48 + 1), j), ⟨(by first | rfl | (simp <;> rfl)), trivial⟩, ⟨rfl, rfl, rfl, rfl, rfl, trivial⟩, ⟨rfl, hE113, h⟩, (by simp)⟩
          ·
           have h := itF h c234
           refine rt_read undef rfl rfl (fun s250 st250 => ?_) ?_
           ·refine k_no rfl rfl rfl rfl ?_
            exact fq_end
           refine rt_read undef rfl rfl (fun s251 st251 => ?_) ?_
           ·refine k_no rfl rfl rfl rfl ?_
            exact fq_end
           refine rt_read undef rfl rfl (fun s252 st252 => ?_) ?_
           ·refine k_no rfl rfl rfl rfl ?_
            exact fq_end
           refine rt_read undef rfl rfl (fun s253 st253 => ?_) ?_
           ·refine k_no rfl rfl rfl rfl ?_
            exact fq_end
           refine rt_read undef rfl rfl (fun s254 st254 => ?_) ?_
           ·refine k_no rfl rfl rfl rfl ?_
            exact fq_end
           refine rt_read undef rfl rfl (fun s255 st255 => ?_) ?_
           ·refine k_no rfl rfl rfl rfl ?_
            exact fq_end
           refine rt_read undef rfl rfl (fun s256 st256 => ?_) ?_
           ·refine k_no rfl rfl rfl rfl ?_
            exact fq_end
           refine rt_read undef rfl rfl (fun s257 st257 => ?_) ?_
           ·refine k_no rfl rfl rfl rfl ?_
            exact fq_end
           refine rt_read undef rfl rfl (fun s258 st258 => ?_) ?_
           ·refine k_no rfl rfl rfl rfl ?_
            exact fq_end
           refine rt_read undef rfl rfl (fun s259 st259 => ?_) ?_
           ·refine k_no rfl rfl rfl rfl ?_
            exact fq_end
           refine rt_read undef rfl rfl (fun s260 st260 => ?_) ?_
           ·refine k_no rfl rfl rfl rfl ?_
            exact fq_end
           refine rt_read undef rfl rfl (fun s261 st261 => ?_) ?_
           ·refine k_no rfl rfl rfl rfl ?_
            exact fq_end
           refine rt_read (.bool false) rfl rfl (fun s262 st262 => ?_) ?_
           ·refine k_yes rfl rfl ?_
            refine k_pickF rfl rfl rfl rfl ?_
            exact fq_end
           refine rt_read (.bool false) rfl rfl (fun s263 st263 => ?_) ?_
           ·refine k_pickF rfl rfl rfl rfl ?_
            exact fq_end
           refine rt_fin ?_
           refine k_nil ?_
           refine k_keep [(1, _), (2, _), (6, _), (15, _), (17, _), (18, _), (210, _)] ⟨rfl, rfl, rfl, rfl, rfl, rfl, rfl, trivial⟩ ?_
           refine k_cond_false rfl ?_
           refine k_skip ?_
           refine k_blk ?_
           refine k_region ?_
           refine k_move rfl rfl ?_
           refine k_add rfl rfl rfl ?_
           refine k_assign rfl rfl ?_
           refine k_nil ?_
           exact k_stop ⟨(s116, i64 (x48 + 1), j), ⟨(by first | rfl | (simp <;> rfl)), trivial⟩, ⟨rfl, rfl, rfl, rfl, rfl, trivial⟩, ⟨rfl, hE113, h⟩, (by simp)⟩
       ·
        have h := itF h c115
        refine k_exit rfl ?_
        exact k_stop ⟨s114, trivial, ⟨rfl, rfl, rfl, trivial⟩, ⟨rfl, hE112, h⟩⟩
      ·
       rintro s264 wL ⟨rfl, hE112, h⟩
       rw [hK112] at h
       have szs264 := hE112.size
       have hS := hS.trans0 hE112
       replace h111_0 := h111_0.up2 hE112
       replace tb0 := tb0.up2 hE112
       refine k_seq ?_
       refine k_region ?_
       refine k_move rfl rfl ?_
       refine k_len Tryd.underlying28 rfl (SL.of_R h111_0).hasLen rfl ?_
       refine k_as (v := .int .i64 (x46.length : Int)) (by simp only [List.length_map]) ?_
       refine k_move rfl rfl ?_
       refine k_eql rfl rfl rfl ?_
       refine k_move rfl rfl ?_
       obtain ⟨x55, hx55, h⟩ := ob h
       have hE265 := Step.r0 K0 s264
       refine k_cutl (X := St) 2 [(6, .bool false), (15, .int .i64 x32), (17, v111_0), (211, v111_0), (212, .int .i64 (x46.length : Int)), (213, .int .i64 x32), (214, .bool (decide ((x46.length : Int) = x32)))] (fun _ => [(217, .bool x55)]) (fun sl wL => sl.w = wL ∧ Step K0 s264 sl) ?_ ?_
       ·
        refine k_again 215 rfl ?_
        refine k_split (fun c266 => ?_) (fun c266 => ?_)
        ·
         have hx55 := itT hx55 c266
         refine k_yes rfl rfl ?_
         obtain ⟨x56, hx56, hx55⟩ := ob hx55
         refine k_call cal9 rfl (law12_awake_w  tb0 hx56) rfl ?_
         rintro s267 vr267 st267 rfl
         have szs267 := st267.size
         have hS := hS.trans0 st267
         have hE265 := hE265.trans0 st267
         refine k_pickT rfl rfl rfl rfl ?_
         exact k_met ⟨s267, ⟨(congrArg (fun b => some (Value.bool b)) (Option.some.inj hx55)), trivial⟩, ⟨rfl, rfl, rfl, rfl, rfl, rfl, rfl, trivial⟩, rfl, hE265⟩
        ·
         have hx55 := itF hx55 c266
         refine k_no rfl rfl rfl rfl ?_
         refine k_pickF rfl rfl rfl rfl ?_
         exact k_met ⟨s264, ⟨(congrArg (fun b => some (Value.bool b)) (Option.some.inj hx55)), trivial⟩, ⟨rfl, rfl, rfl, rfl, rfl, rfl, rfl, trivial⟩, rfl, hE265⟩
       ·
        rintro s268 wL ⟨rfl, hE265⟩
        have szs268 := hE265.size
        have hS := hS.trans0 hE265
        refine k_assign rfl rfl ?_
        refine k_nil ?_
        refine k_keep [(6, _)] ⟨rfl, trivial⟩ ?_
        refine k_ret ?_
        obtain rfl := Option.some.inj h
        refine ⟨_, rfl, Ret.mk hS ?_⟩
        exact rfl
end Go.Proofs
