import Derived.Test.YtcagpghggohoiaaW020
set_option linter.unusedSimpArgs false
set_option linter.unusedVariables false
namespace Go.Proofs
open Go.Fw
set_option maxHeartbeats 1000000 in
set_option maxRecDepth 100000 in
theorem law02_CodeAgain_w {s : St} {l0 : Lab} {v0 : Value} {a0 : (List Law02Item)} {a1 : Int} {r : Bool} (hp0 : SL s l0 v0 4 (a0.map dLaw02Item)) (h : law02_CodeAgain a0 a1 = some r) : Calls Try.prog 8 #[v0, .int .i64 a1] s.w (Ret s K0 (fun s1 v => v = .bool r)) := by
  unfold law02_CodeAgain at h
  obtain ⟨lf0, lf0le, lf0ne, hp0⟩ := hp0.fix
  have hS : Step K0 s s := (Step.refl _).of0 (by first | exact fun _ h => h | (intro c h; simp [KC, KO, KU] at h <;> omega))
  refine k_fn (rs := [4]) (args := [v0, .int .i64 a1]) Try.func8 rfl rfl rfl rfl ?_
  refine k_seq ?_
  refine k_region ?_
  refine k_assign rfl rfl ?_
  refine k_nil ?_
  refine k_seq ?_
  refine k_seq ?_
  refine k_region ?_
  refine k_move rfl rfl ?_
  obtain ⟨x1, hx1, h⟩ := ob h
  refine k_call cal14 rfl (law02_long_w  hp0 hx1) rfl ?_
  rintro s1 vr1 st1 rfl
  have szs1 := st1.size
  have hS : Step K0 s s1 := hS.trans0 st1
  replace hp0 := hp0.up' st1
  refine k_nil ?_
  refine k_keep [(0, _), (1, _), (4, _), (19, _)] ⟨rfl, rfl, rfl, rfl, trivial⟩ ?_
  refine k_cond rfl (fun c2 => ?_) (fun c2 => ?_)
  · -- T
    have h := ibT h c2
    refine k_seq ?_
    refine k_region ?_
    obtain ⟨x2, hx2, h⟩ := ob h
    obtain rfl := Option.some.inj (show some true = some x2 from hx2)
    refine k_call cal9 rfl (law02_awake_w   hx2) rfl ?_
    rintro s3 vr3 st3 rfl
    have szs3 := st3.size
    have hS : Step K0 s s3 := hS.trans0 st3
    replace hp0 := hp0.up' st3
    refine k_assign rfl rfl ?_
    refine k_nil ?_
    refine k_keep [(0, _), (1, _), (4, _)] ⟨rfl, rfl, rfl, trivial⟩ ?_
    refine k_ret ?_
    obtain rfl := Option.some.inj h
    refine ⟨_, rfl, Ret.mk hS ?_⟩
    exact rfl
  · -- F
    have h := ibF h c2
    refine k_skip ?_
    refine k_seq ?_
    refine k_region ?_
    obtain ⟨x3, hx3, h⟩ := ob h
    refine k_call cal10 rfl (code_NewWriter_w   hx3) rfl ?_
    rintro s4 v4_0 st4 ⟨ku4_0, _, rfl, hk4_0, h4_0⟩
    have szs4 := st4.size
    have hS : Step K0 s s4 := hS.trans0 st4
    replace hp0 := hp0.up' st4
    have le4_0 := h4_0.le
    have ne4_0 := h4_0.ne
    refine k_assign rfl rfl ?_
    refine k_nil ?_
    refine k_keep [(0, _), (1, _), (4, _), (5, _)] ⟨rfl, rfl, rfl, rfl, trivial⟩ ?_
    refine k_seq ?_
    obtain ⟨kj4, hK5, h⟩ := jn_out h
    have hE5 : Step (KO ku4_0) s4 s4 := (Step.refl _).of0 (by first | exact fun _ h => h | (intro c h; simp [KC, KO, KU] at h <;> omega))
    refine k_cutc (X := St × (List UInt8)) [(0, v0), (1, .int .i64 a1), (4, .bool false), (5, v4_0)] (fun (xL : St × (List UInt8)) => match xL with | (sl, x5) => []) (fun (xL : St × (List UInt8)) (wL : World) => match xL with | (sl, x5) => sl.w = wL ∧ Step (KO ku4_0) s4 sl ∧ (WrS sl ku4_0 v4_0 x5) ∧ kj4 x5 = some r) ?_ ?_
    · -- the ways
      refine k_seq ?_
      refine k_region ?_
      refine k_assign rfl rfl ?_
      refine k_nil ?_
      refine k_block ?_
      refine k_loopc (X := St × Int × (List UInt8) × Nat) [(0, _), (1, _), (4, _), (5, _)] (fun (xL : St × Int × (List UInt8) × Nat) => match xL with | (sl, x6, x7, j) => [(6, .int .i64 x6)]) (fun (xL : St × Int × (List UInt8) × Nat) (wL : World) => match xL with | (sl, x6, x7, j) => sl.w = wL ∧ Step (KO ku4_0) s4 sl ∧ (WrS sl ku4_0 v4_0 x7) ∧ law02_CodeAgain_l1 a0 kj4 j x6 x7 = some r) (fun (xL : St × Int × (List UInt8) × Nat) => match xL with | (sl, x6, x7, j) => j) (s4, 0, x3, FU) ⟨rfl, rfl, rfl, rfl, trivial⟩ ⟨(by first | rfl | (simp <;> rfl)), trivial⟩ ⟨rfl, (Step.refl _).of0 (by first | exact fun _ h => h | (intro c h; simp [KC, KO, KU] at h <;> omega)), h4_0, h⟩ ?_
      rintro ⟨s7, x6, x7, j⟩ wL ⟨rfl, hE6, h4_0, h⟩
      cases j with
      | zero => rw [law02_CodeAgain_l1] at h; exact (noneNe h).elim
      | succ j =>
      rw [law02_CodeAgain_l1] at h
      have szs7 := hE6.size
      have hS : Step K0 s s7 := hS.comp hE6 (by intro l hl hk; simp only [KC, KO, KU, K0] at hk ⊢; omega)
      have hE5 : Step (KO ku4_0) s4 s7 := hE5.comp hE6 (by intro l hl hk; simp only [KC, KO, KU, K0] at hk ⊢; omega)
      replace hp0 := hp0.up' hE6
      refine k_seq ?_
      refine k_seq ?_
      refine k_region ?_
      refine k_move rfl rfl ?_
      refine k_move rfl rfl ?_
      refine k_len Try.underlying32 rfl hp0.hasLen rfl ?_
      refine k_as (v := .int .i64 (a0.length : Int)) (by simp only [List.length_map]) ?_
      refine k_lss rfl rfl rfl ?_
      refine k_nil ?_
      refine k_keep [(0, _), (1, _), (4, _), (5, _), (6, _), (25, _)] ⟨rfl, rfl, rfl, rfl, rfl, rfl, trivial⟩ ?_
      refine k_cond_dec rfl (fun c8 => ?_) (fun c8 => ?_)
      · -- T
        have h := itT h c8
        refine k_skip ?_
        refine k_seq ?_
        refine k_block ?_
        refine k_region ?_
        refine k_move rfl rfl ?_
        refine k_move rfl rfl ?_
        refine k_move rfl rfl ?_
        obtain ⟨x8, hx8, h⟩ := ob h
        refine k_ixaddr Try.underlying32 size36 rfl rfl hp0 (geti_out hx8).1 (geti_map hx8) rfl ?_
        intro qx8 hqx8
        refine k_load_agg (by exact agg36) rfl hqx8 rfl ?_
        intro cs9 h9
        obtain rfl := opnLaw02Item h9
        obtain ⟨x9, hx9, h⟩ := ob h
        refine k_call cal15 rfl (law02_write_w  h4_0 (clsLaw02Item x8) hx9) rfl ?_
        rintro s10 vr10 st10 ⟨rfl, h4_0⟩
        have szs10 := st10.size
        have hS : Step K0 s s10 := hS.comp st10 (by intro l hl hk; simp only [KC, KO, KU, K0] at hk ⊢; omega)
        have hE5 : Step (KO ku4_0) s4 s10 := hE5.comp st10 (by intro l hl hk; simp only [KC, KO, KU, K0] at hk ⊢; omega)
        have hE6 : Step (KO ku4_0) s4 s10 := hE6.comp st10 (by intro l hl hk; simp only [KC, KO, KU, K0] at hk ⊢; omega)
        replace hp0 := hp0.up' st10
        replace hqx8 := hqx8.up' st10
        refine k_nil ?_
        refine k_blk ?_
        refine k_region ?_
        refine k_move rfl rfl ?_
        refine k_add rfl rfl rfl ?_
        refine k_assign rfl rfl ?_
        refine k_nil ?_
        exact k_stop ⟨(s10, i64 (x6 + 1), x9, j), ⟨(by first | rfl | (simp <;> rfl)), trivial⟩, ⟨rfl, rfl, rfl, rfl, trivial⟩, ⟨rfl, hE6, h4_0, h⟩, (by simp)⟩
      · -- F
        have h := itF h c8
        refine k_exit rfl ?_
        exact k_stop ⟨(s7, x7), trivial, ⟨rfl, rfl, rfl, rfl, trivial⟩, ⟨rfl, hE5, h4_0, h⟩⟩
    · -- behind
      rintro ⟨s11, x5⟩ wL ⟨rfl, hE5, h4_0, h⟩
      rw [hK5] at h
      have szs11 := hE5.size
      have hS : Step K0 s s11 := hS.comp hE5 (by intro l hl hk; simp only [KC, KO, KU, K0] at hk ⊢; omega)
      replace hp0 := hp0.up' hE5
      refine k_seq ?_
      refine k_region ?_
      refine k_move rfl rfl ?_
      obtain ⟨x10, hx10, h⟩ := ob h
      refine k_call cal12 rfl (code_Writer_Bytes_w  h4_0 hx10) rfl ?_
      rintro s12 v12_0 st12 ⟨_, rfl, h12_0⟩
      have szs12 := st12.size
      have hS : Step K0 s s12 := hS.trans0 st12
      replace hp0 := hp0.up' st12
      replace h4_0 := h4_0.up' st12
      refine k_assign rfl rfl ?_
      refine k_nil ?_
      refine k_keep [(0, _), (1, _), (4, _), (7, _)] ⟨rfl, rfl, rfl, rfl, trivial⟩ ?_
      refine k_seq ?_
      refine k_region ?_
      refine k_move rfl rfl ?_
      obtain ⟨x11, hx11, h⟩ := ob h
      refine k_call cal20 rfl (code_NewReader_w  (SL.of_R h12_0) hx11) rfl ?_
      rintro s13 v13_0 st13 ⟨ku13_0, _, rfl, hk13_0, h13_0⟩
      have szs13 := st13.size
      have hS : Step K0 s s13 := hS.trans0 st13
      replace hp0 := hp0.up' st13
      replace h12_0 := h12_0.up' st13
      have le13_0 := h13_0.le
      have ne13_0 := h13_0.ne
      refine k_assign rfl rfl ?_
      refine k_nil ?_
      refine k_keep [(0, _), (1, _), (4, _), (7, _), (8, _)] ⟨rfl, rfl, rfl, rfl, rfl, trivial⟩ ?_
      refine k_seq ?_
      refine k_region ?_
      refine k_move rfl rfl ?_
      refine k_max2 rfl rfl rfl ?_
      refine k_move rfl rfl ?_
      refine k_len Try.underlying27 rfl (SL.of_R h12_0).hasLen rfl ?_
      refine k_as (v := .int .i64 (x10.length : Int)) (by simp only [List.length_map]) ?_
      refine k_add rfl rfl rfl ?_
      by_cases c14 : i64 ((x10.length : Int) + 1) ≠ 0
      case neg => exact (noneNe (itF h c14)).elim
      replace h := itT h c14
      refine k_rem rfl rfl c14 rfl ?_
      refine k_assign rfl rfl ?_
      refine k_nil ?_
      refine k_keep [(0, _), (4, _), (7, _), (8, _), (9, _)] ⟨rfl, rfl, rfl, rfl, rfl, trivial⟩ ?_
      refine k_seq ?_
      refine k_region ?_
      refine k_move rfl rfl ?_
      refine k_move rfl rfl ?_
      obtain ⟨x12, hx12, h⟩ := ob h
      refine k_cut_sl (i := (0 : Int).toNat) (j := ((max 0 a1).tmod (i64 ((x10.length : Int) + 1)) : Int).toNat) Try.underlying27 size5 rfl (SL.of_R h12_0) CutAt.none (CutAt.int rfl (Int.le_trans (subl_out hx12).1 (subl_out hx12).2.1)) (subl_ij hx12) (by rw [List.length_map]; exact subl_j hx12) rfl ?_
      intro vx12 hcx12
      rw [← List.map_drop, ← List.map_take, ← (subl_out hx12).2.2.2] at hcx12
      have hcx12 := R.of_SL hcx12
      obtain ⟨x13, hx13, h⟩ := ob h
      refine k_call cal20 rfl (code_NewReader_w  (SL.of_R hcx12) hx13) rfl ?_
      rintro s15 v15_0 st15 ⟨ku15_0, _, rfl, hk15_0, h15_0⟩
      have szs15 := st15.size
      have hS : Step K0 s s15 := hS.trans0 st15
      replace hp0 := hp0.up' st15
      replace h12_0 := h12_0.up' st15
      replace hcx12 := hcx12.up' st15
      replace h13_0 := h13_0.up' st15
      have le15_0 := h15_0.le
      have ne15_0 := h15_0.ne
      refine k_assign rfl rfl ?_
      refine k_nil ?_
      refine k_keep [(0, _), (4, _), (8, _), (9, _), (10, _)] ⟨rfl, rfl, rfl, rfl, rfl, trivial⟩ ?_
      refine k_seq ?_
      obtain ⟨kj14, hK16, h⟩ := jn_out h
      have hE16 : Step (KU (KO ku13_0) (KO ku15_0)) s15 s15 := (Step.refl _).of0 (by first | exact fun _ h => h | (intro c h; simp [KC, KO, KU] at h <;> omega))
      refine k_cutc (X := St × Rd × Rd) [(4, .bool false), (8, v13_0)] (fun (xL : St × Rd × Rd) => match xL with | (sl, x15, x16) => []) (fun (xL : St × Rd × Rd) (wL : World) => match xL with | (sl, x15, x16) => sl.w = wL ∧ Step (KU (KO ku13_0) (KO ku15_0)) s15 sl ∧ (RdS sl ku13_0 v13_0 x15) ∧ (RdS sl ku15_0 v15_0 x16) ∧ kj14 x15 x16 = some r) ?_ ?_
      · -- the ways
        refine k_seq ?_
        refine k_region ?_
        refine k_assign rfl rfl ?_
        refine k_nil ?_
        refine k_block ?_
        refine k_loopc (X := St × Int × Rd × Rd × Nat) [(0, _), (4, _), (8, _), (9, _), (10, _)] (fun (xL : St × Int × Rd × Rd × Nat) => match xL with | (sl, x17, x18, x19, j) => [(11, .int .i64 x17)]) (fun (xL : St × Int × Rd × Rd × Nat) (wL : World) => match xL with | (sl, x17, x18, x19, j) => sl.w = wL ∧ Step (KU (KO ku13_0) (KO ku15_0)) s15 sl ∧ (RdS sl ku13_0 v13_0 x18) ∧ (RdS sl ku15_0 v15_0 x19) ∧ law02_CodeAgain_l2 a0 a1 x10 kj14 j x17 x18 x19 = some r) (fun (xL : St × Int × Rd × Rd × Nat) => match xL with | (sl, x17, x18, x19, j) => j) (s15, 0, x11, x13, FU) ⟨rfl, rfl, rfl, rfl, rfl, trivial⟩ ⟨(by first | rfl | (simp <;> rfl)), trivial⟩ ⟨rfl, (Step.refl _).of0 (by first | exact fun _ h => h | (intro c h; simp [KC, KO, KU] at h <;> omega)), h13_0, h15_0, h⟩ ?_
        rintro ⟨s18, x17, x18, x19, j⟩ wL ⟨rfl, hE17, h13_0, h15_0, h⟩
        cases j with
        | zero => rw [law02_CodeAgain_l2] at h; exact (noneNe h).elim
        | succ j =>
        rw [law02_CodeAgain_l2] at h
        have szs18 := hE17.size
        have hS : Step K0 s s18 := hS.comp hE17 (by intro l hl hk; simp only [KC, KO, KU, K0] at hk ⊢; omega)
        have hE16 : Step (KU (KO ku13_0) (KO ku15_0)) s15 s18 := hE16.comp hE17 (by intro l hl hk; simp only [KC, KO, KU, K0] at hk ⊢; omega)
        replace hp0 := hp0.up' hE17
        refine k_seq ?_
        refine k_seq ?_
        refine k_region ?_
        refine k_move rfl rfl ?_
        refine k_move rfl rfl ?_
        refine k_len Try.underlying32 rfl hp0.hasLen rfl ?_
        refine k_as (v := .int .i64 (a0.length : Int)) (by simp only [List.length_map]) ?_
        refine k_lss rfl rfl rfl ?_
        refine k_nil ?_
        refine k_keep [(0, _), (4, _), (8, _), (9, _), (10, _), (11, _), (51, _)] ⟨rfl, rfl, rfl, rfl, rfl, rfl, rfl, trivial⟩ ?_
        refine k_cond_dec rfl (fun c19 => ?_) (fun c19 => ?_)
        · -- T
          have h := itT h c19
          refine k_skip ?_
          refine k_seq ?_
          refine k_block ?_
          refine k_seq ?_
          refine k_region ?_
          refine k_move rfl rfl ?_
          refine k_move rfl rfl ?_
          obtain ⟨x20, hx20, h⟩ := ob h
          refine k_ixaddr Try.underlying32 size36 rfl rfl hp0 (geti_out hx20).1 (geti_map hx20) rfl ?_
          intro qx20 hqx20
          refine k_load_agg (by exact agg36) rfl hqx20 rfl ?_
          intro cs20 h20
          obtain rfl := opnLaw02Item h20
          refine k_alloc zero36 rfl ?_
          intro s21 b21 st21 h21 ge21
          have szs21 := st21.size
          have hS : Step K0 s s21 := hS.trans0 st21
          have hE16 : Step (KU (KO ku13_0) (KO ku15_0)) s15 s21 := hE16.trans0 st21
          have hE17 : Step (KU (KO ku13_0) (KO ku15_0)) s15 s21 := hE17.trans0 st21
          replace hp0 := hp0.up' st21
          replace hqx20 := hqx20.up' st21
          replace h13_0 := h13_0.up' st21
          replace h15_0 := h15_0.up' st21
          have lt21 := h21.lt
          refine k_store_c (cs' := [.int .i64 x20.Kind, .int .i64 x20.Most, .int .u64 (x20.X.toNat : Int), S x20.S]) size36 rfl rfl h21 (by first | (simp; done) | omega | (dsimp only; omega)) (CellsOf.lit rfl rfl) rfl rfl rfl ?_
          intro s22 st22 h21
          have szs22 := st22.size
          have hS : Step K0 s s22 := hS.comp st22 (by intro l hl hk; simp only [KC, KO, KU, K0] at hk ⊢; omega)
          have hE16 : Step (KU (KO ku13_0) (KO ku15_0)) s15 s22 := hE16.comp st22 (by intro l hl hk; simp only [KC, KO, KU, K0] at hk ⊢; omega)
          have hE17 : Step (KU (KO ku13_0) (KO ku15_0)) s15 s22 := hE17.comp st22 (by intro l hl hk; simp only [KC, KO, KU, K0] at hk ⊢; omega)
          replace hp0 := hp0.up' st22
          replace hqx20 := hqx20.up' st22
          replace h13_0 := h13_0.up' st22
          replace h15_0 := h15_0.up' st22
          refine k_nil ?_
          refine k_keep [(0, _), (4, _), (8, _), (9, _), (10, _), (11, _), (12, _)] ⟨rfl, rfl, rfl, rfl, rfl, rfl, rfl, trivial⟩ ?_
          refine k_seq ?_
          refine k_region ?_
          refine k_field_addr fld36_3 rfl rfl ?_
          refine k_load_blk one9 rfl h21 rfl rfl ?_
          refine k_len_str Try.underlying9 rfl rfl ?_
          refine k_field_addr fld36_1 rfl rfl ?_
          refine k_store_c (cs' := [.int .i64 x20.Kind, .int .i64 (x20.S.length : Int), .int .u64 (x20.X.toNat : Int), S x20.S]) size3 rfl rfl h21 (by first | (simp; done) | omega | (dsimp only; omega)) (CellsOf.lit rfl rfl) rfl rfl rfl ?_
          intro s23 st23 h21
          have szs23 := st23.size
          have hS : Step K0 s s23 := hS.comp st23 (by intro l hl hk; simp only [KC, KO, KU, K0] at hk ⊢; omega)
          have hE16 : Step (KU (KO ku13_0) (KO ku15_0)) s15 s23 := hE16.comp st23 (by intro l hl hk; simp only [KC, KO, KU, K0] at hk ⊢; omega)
          have hE17 : Step (KU (KO ku13_0) (KO ku15_0)) s15 s23 := hE17.comp st23 (by intro l hl hk; simp only [KC, KO, KU, K0] at hk ⊢; omega)
          replace hp0 := hp0.up' st23
          replace h13_0 := h13_0.up' st23
          replace h15_0 := h15_0.up' st23
          refine k_nil ?_
          refine k_keep [(0, _), (4, _), (8, _), (9, _), (10, _), (11, _), (12, _)] ⟨rfl, rfl, rfl, rfl, rfl, rfl, rfl, trivial⟩ ?_
          refine k_seq ?_
          refine k_region ?_
          refine k_move rfl rfl ?_
          refine k_load_blka (cs := [.int .i64 x20.Kind, .int .i64 (x20.S.length : Int), .int .u64 (x20.X.toNat : Int), S x20.S]) agg36 rfl h21 rfl ?_
          obtain ⟨x21, hx21, h⟩ := ob h
          refine k_call cal24 rfl (law02_read_w  h13_0 (clsLaw02Item (⟨x20.Kind, (x20.S.length : Int), x20.X, x20.S⟩ : Law02Item)) hx21) rfl ?_
          rintro s24 vr24 st24 ⟨rfl, h13_0⟩
          have szs24 := st24.size
          have hS : Step K0 s s24 := hS.comp st24 (by intro l hl hk; simp only [KC, KO, KU, K0] at hk ⊢; omega)
          have hE16 : Step (KU (KO ku13_0) (KO ku15_0)) s15 s24 := hE16.comp st24 (by intro l hl hk; simp only [KC, KO, KU, K0] at hk ⊢; omega)
          have hE17 : Step (KU (KO ku13_0) (KO ku15_0)) s15 s24 := hE17.comp st24 (by intro l hl hk; simp only [KC, KO, KU, K0] at hk ⊢; omega)
          replace hp0 := hp0.up' st24
          replace h15_0 := h15_0.up' st24
          replace h21 := h21.up' st24
          refine k_move rfl rfl ?_
          refine k_extract rfl rfl rfl ?_
          refine k_extract rfl rfl rfl ?_
          refine k_assign rfl rfl ?_
          refine k_assign rfl rfl ?_
          refine k_nil ?_
          refine k_keep [(0, _), (4, _), (8, _), (9, _), (10, _), (11, _), (12, _), (13, _), (14, _)] ⟨rfl, rfl, rfl, rfl, rfl, rfl, rfl, rfl, rfl, trivial⟩ ?_
          refine k_seq ?_
          refine k_region ?_
          refine k_load_blka (cs := [.int .i64 x20.Kind, .int .i64 (x20.S.length : Int), .int .u64 (x20.X.toNat : Int), S x20.S]) agg36 rfl h21 rfl ?_
          obtain ⟨x22, hx22, h⟩ := ob h
          refine k_call cal29 rfl (law02_kind_w  (clsLaw02Item (⟨x20.Kind, (x20.S.length : Int), x20.X, x20.S⟩ : Law02Item)) hx22) rfl ?_
          rintro s25 vr25 st25 rfl
          have szs25 := st25.size
          have hS : Step K0 s s25 := hS.trans0 st25
          have hE16 : Step (KU (KO ku13_0) (KO ku15_0)) s15 s25 := hE16.trans0 st25
          have hE17 : Step (KU (KO ku13_0) (KO ku15_0)) s15 s25 := hE17.trans0 st25
          replace hp0 := hp0.up' st25
          replace h13_0 := h13_0.up' st25
          replace h15_0 := h15_0.up' st25
          replace h21 := h21.up' st25
          refine k_assign rfl rfl ?_
          refine k_nil ?_
          refine k_keep [(0, _), (4, _), (8, _), (9, _), (10, _), (11, _), (12, _), (13, _), (14, _), (15, _)] ⟨rfl, rfl, rfl, rfl, rfl, rfl, rfl, rfl, rfl, rfl, trivial⟩ ?_
          refine k_seq ?_
          refine k_seq ?_
          refine k_region ?_
          refine k_move rfl rfl ?_
          refine k_eql rfl rfl rfl ?_
          refine k_move rfl rfl ?_
          have hE26 : Step K0 s25 s25 := (Step.refl _).of0 (by first | exact fun _ h => h | (intro c h; simp [KC, KO, KU] at h <;> omega))
          refine k_cutl (X := St) 7 [(0, v0), (4, .bool false), (8, v13_0), (9, .int .i64 ((max 0 a1).tmod (i64 ((x10.length : Int) + 1)))), (10, v15_0), (11, .int .i64 x17), (12, .pointer (some ⟨b21, 0, none⟩)), (13, .int .u64 (x21.1.toNat : Int)), (14, S x21.2.1), (15, .int .i64 x22), (70, .int .i64 x22), (71, .bool (decide (x22 = 0)))] (fun _ => [(79, .bool (decide ((x22 = 0) ∧ ((x21.1.toNat : Int) ≠ ((ofI64 ((ofI8 (x20.X.toNat : Int)).toNat : Int)).toNat : Int)))))]) (fun sl wL => sl.w = wL ∧ Step K0 s25 sl) ?_ ?_
          · -- the ways
            refine k_again 72 rfl ?_
            refine k_split (fun c27 => ?_) (fun c27 => ?_)
            · -- t72 True
              refine k_yes rfl rfl ?_
              refine k_move rfl rfl ?_
              refine k_yes rfl rfl ?_
              refine k_field_addr fld36_2 rfl rfl ?_
              refine k_yes rfl rfl ?_
              refine k_load_blk one29 rfl h21 rfl rfl ?_
              refine k_yes rfl rfl ?_
              refine k_conv (p := (x20.X.toNat : Int)) Try.underlying29 Try.underlying5 rfl rfl ?_
              refine k_as (congrArg (Value.int .u8) (w8 _)) ?_
              refine k_yes rfl rfl ?_
              refine k_conv (p := ((ofI8 (x20.X.toNat : Int)).toNat : Int)) Try.underlying5 Try.underlying29 rfl rfl ?_
              refine k_as (congrArg (Value.int .u64) (w64 _)) ?_
              refine k_yes rfl rfl ?_
              refine k_neq rfl rfl rfl ?_
              refine k_pickT rfl rfl rfl rfl ?_
              exact k_met ⟨s25, ⟨(congrArg (fun b => some (Value.bool b)) (by first | exact decide_eq_decide.2 ⟨fun h => ⟨c27, h⟩, fun h => h.2⟩ | exact (decide_eq_false (fun h => c27 h.1)).symm | (simp [c27]; done) | (simp [c27, i64] <;> omega))), trivial⟩, ⟨rfl, rfl, rfl, rfl, rfl, rfl, rfl, rfl, rfl, rfl, rfl, rfl, trivial⟩, rfl, hE26⟩
            · -- t72 False
              refine k_no rfl rfl rfl rfl ?_
              refine k_no rfl rfl rfl rfl ?_
              refine k_no rfl rfl rfl rfl ?_
              refine k_no rfl rfl rfl rfl ?_
              refine k_no rfl rfl rfl rfl ?_
              refine k_no rfl rfl rfl rfl ?_
              refine k_pickF rfl rfl rfl rfl ?_
              exact k_met ⟨s25, ⟨(congrArg (fun b => some (Value.bool b)) (by first | exact decide_eq_decide.2 ⟨fun h => ⟨c27, h⟩, fun h => h.2⟩ | exact (decide_eq_false (fun h => c27 h.1)).symm | (simp [c27]; done) | (simp [c27, i64] <;> omega))), trivial⟩, ⟨rfl, rfl, rfl, rfl, rfl, rfl, rfl, rfl, rfl, rfl, rfl, rfl, trivial⟩, rfl, hE26⟩
          · -- behind
            rintro s28 wL ⟨rfl, hE26⟩
            have szs28 := hE26.size
            have hS : Step K0 s s28 := hS.trans0 hE26
            have hE16 : Step (KU (KO ku13_0) (KO ku15_0)) s15 s28 := hE16.trans0 hE26
            have hE17 : Step (KU (KO ku13_0) (KO ku15_0)) s15 s28 := hE17.trans0 hE26
            replace hp0 := hp0.up' hE26
            replace h13_0 := h13_0.up' hE26
            replace h15_0 := h15_0.up' hE26
            replace h21 := h21.up' hE26
            refine k_move rfl rfl ?_
            have hE29 : Step K0 s28 s28 := (Step.refl _).of0 (by first | exact fun _ h => h | (intro c h; simp [KC, KO, KU] at h <;> omega))
            refine k_cutl (X := St) 11 [(0, v0), (4, .bool false), (8, v13_0), (9, .int .i64 ((max 0 a1).tmod (i64 ((x10.length : Int) + 1)))), (10, v15_0), (11, .int .i64 x17), (12, .pointer (some ⟨b21, 0, none⟩)), (13, .int .u64 (x21.1.toNat : Int)), (14, S x21.2.1), (15, .int .i64 x22), (70, .int .i64 x22), (71, .bool (decide (x22 = 0))), (79, .bool (decide ((x22 = 0) ∧ ((x21.1.toNat : Int) ≠ ((ofI64 ((ofI8 (x20.X.toNat : Int)).toNat : Int)).toNat : Int)))))] (fun _ => [(91, .bool (decide (((x22 = 0) ∧ ((x21.1.toNat : Int) ≠ ((ofI64 ((ofI8 (x20.X.toNat : Int)).toNat : Int)).toNat : Int))) ∨ ((x22 = 1) ∧ ((x21.1.toNat : Int) ≠ ((ofI64 ((ofI32 (x20.X.toNat : Int)).toNat : Int)).toNat : Int))))))]) (fun sl wL => sl.w = wL ∧ Step K0 s28 sl) ?_ ?_
            · -- the ways
              refine k_again 80 rfl ?_
              refine k_split (fun c30 => ?_) (fun c30 => ?_)
              · -- t80 True
                refine k_no rfl rfl rfl rfl ?_
                refine k_no rfl rfl rfl rfl ?_
                refine k_no rfl rfl rfl rfl ?_
                refine k_nou rfl rfl rfl rfl ?_
                refine k_nou rfl rfl rfl rfl ?_
                refine k_nou rfl rfl rfl rfl ?_
                refine k_nou rfl rfl rfl rfl ?_
                refine k_nou rfl rfl rfl rfl ?_
                refine k_nou rfl rfl rfl rfl ?_
                refine k_no rfl rfl rfl rfl ?_
                refine k_pickT rfl rfl rfl rfl ?_
                exact k_met ⟨s28, ⟨(congrArg (fun b => some (Value.bool b)) (by first | exact decide_eq_decide.2 ⟨Or.inr, fun h => h.resolve_left c30⟩ | exact (decide_eq_true (Or.inl c30)).symm | (simp [c30]; done) | (simp [c30, i64] <;> omega))), trivial⟩, ⟨rfl, rfl, rfl, rfl, rfl, rfl, rfl, rfl, rfl, rfl, rfl, rfl, rfl, trivial⟩, rfl, hE29⟩
              · -- t80 False
                refine k_yes rfl rfl ?_
                refine k_move rfl rfl ?_
                refine k_yes rfl rfl ?_
                refine k_eql rfl rfl rfl ?_
                refine k_yes rfl rfl ?_
                refine k_move rfl rfl ?_
                have hE31 : Step K0 s28 s28 := (Step.refl _).of0 (by first | exact fun _ h => h | (intro c h; simp [KC, KO, KU] at h <;> omega))
                refine k_cutl (X := St) 7 [(0, v0), (4, .bool false), (8, v13_0), (9, .int .i64 ((max 0 a1).tmod (i64 ((x10.length : Int) + 1)))), (10, v15_0), (11, .int .i64 x17), (12, .pointer (some ⟨b21, 0, none⟩)), (13, .int .u64 (x21.1.toNat : Int)), (14, S x21.2.1), (15, .int .i64 x22), (70, .int .i64 x22), (71, .bool (decide (x22 = 0))), (79, .bool (decide ((x22 = 0) ∧ ((x21.1.toNat : Int) ≠ ((ofI64 ((ofI8 (x20.X.toNat : Int)).toNat : Int)).toNat : Int))))), (80, .bool false), (81, .int .i64 x22), (82, .bool (decide (x22 = 1)))] (fun _ => [(90, .bool (decide ((x22 = 1) ∧ ((x21.1.toNat : Int) ≠ ((ofI64 ((ofI32 (x20.X.toNat : Int)).toNat : Int)).toNat : Int)))))]) (fun sl wL => sl.w = wL ∧ Step K0 s28 sl) ?_ ?_
                · -- the ways
                  refine k_again 83 rfl ?_
                  refine k_split (fun c32 => ?_) (fun c32 => ?_)
                  · -- t83 True
                    refine k_yes rfl rfl ?_
                    refine k_move rfl rfl ?_
                    refine k_yes rfl rfl ?_
                    refine k_field_addr fld36_2 rfl rfl ?_
                    refine k_yes rfl rfl ?_
                    refine k_load_blk one29 rfl h21 rfl rfl ?_
                    refine k_yes rfl rfl ?_
                    refine k_conv (p := (x20.X.toNat : Int)) Try.underlying29 Try.underlying58 rfl rfl ?_
                    refine k_as (congrArg (Value.int .u32) (w32 _)) ?_
                    refine k_yes rfl rfl ?_
                    refine k_conv (p := ((ofI32 (x20.X.toNat : Int)).toNat : Int)) Try.underlying58 Try.underlying29 rfl rfl ?_
                    refine k_as (congrArg (Value.int .u64) (w64 _)) ?_
                    refine k_yes rfl rfl ?_
                    refine k_neq rfl rfl rfl ?_
                    refine k_yes rfl rfl ?_
                    refine k_pickT rfl rfl rfl rfl ?_
                    exact k_met ⟨s28, ⟨(congrArg (fun b => some (Value.bool b)) (by first | exact decide_eq_decide.2 ⟨fun h => ⟨c32, h⟩, fun h => h.2⟩ | exact (decide_eq_false (fun h => c32 h.1)).symm | (simp [c32]; done) | (simp [c32, i64] <;> omega))), trivial⟩, ⟨rfl, rfl, rfl, rfl, rfl, rfl, rfl, rfl, rfl, rfl, rfl, rfl, rfl, rfl, rfl, rfl, trivial⟩, rfl, hE31⟩
                  · -- t83 False
                    refine k_no rfl rfl rfl rfl ?_
                    refine k_no rfl rfl rfl rfl ?_
                    refine k_no rfl rfl rfl rfl ?_
                    refine k_no rfl rfl rfl rfl ?_
                    refine k_no rfl rfl rfl rfl ?_
                    refine k_no rfl rfl rfl rfl ?_
                    refine k_yes rfl rfl ?_
                    refine k_pickF rfl rfl rfl rfl ?_
                    exact k_met ⟨s28, ⟨(congrArg (fun b => some (Value.bool b)) (by first | exact decide_eq_decide.2 ⟨fun h => ⟨c32, h⟩, fun h => h.2⟩ | exact (decide_eq_false (fun h => c32 h.1)).symm | (simp [c32]; done) | (simp [c32, i64] <;> omega))), trivial⟩, ⟨rfl, rfl, rfl, rfl, rfl, rfl, rfl, rfl, rfl, rfl, rfl, rfl, rfl, rfl, rfl, rfl, trivial⟩, rfl, hE31⟩
                · -- behind
                  rintro s33 wL ⟨rfl, hE31⟩
                  have szs33 := hE31.size
                  have hS : Step K0 s s33 := hS.trans0 hE31
                  have hE16 : Step (KU (KO ku13_0) (KO ku15_0)) s15 s33 := hE16.trans0 hE31
                  have hE17 : Step (KU (KO ku13_0) (KO ku15_0)) s15 s33 := hE17.trans0 hE31
                  have hE29 : Step K0 s28 s33 := hE29.trans0 hE31
                  replace hp0 := hp0.up' hE31
                  replace h13_0 := h13_0.up' hE31
                  replace h15_0 := h15_0.up' hE31
                  replace h21 := h21.up' hE31
                  refine k_pickF rfl rfl rfl rfl ?_
                  exact k_met ⟨s33, ⟨(congrArg (fun b => some (Value.bool b)) (by first | exact decide_eq_decide.2 ⟨Or.inr, fun h => h.resolve_left c30⟩ | exact (decide_eq_true (Or.inl c30)).symm | (simp [c30]; done) | (simp [c30, i64] <;> omega))), trivial⟩, ⟨rfl, rfl, rfl, rfl, rfl, rfl, rfl, rfl, rfl, rfl, rfl, rfl, rfl, trivial⟩, rfl, hE29⟩
            · -- behind
              rintro s34 wL ⟨rfl, hE29⟩
              have szs34 := hE29.size
              have hS : Step K0 s s34 := hS.trans0 hE29
              have hE16 : Step (KU (KO ku13_0) (KO ku15_0)) s15 s34 := hE16.trans0 hE29
              have hE17 : Step (KU (KO ku13_0) (KO ku15_0)) s15 s34 := hE17.trans0 hE29
              replace hp0 := hp0.up' hE29
              replace h13_0 := h13_0.up' hE29
              replace h15_0 := h15_0.up' hE29
              replace h21 := h21.up' hE29
              refine k_move rfl rfl ?_
              have hE35 : Step K0 s34 s34 := (Step.refl _).of0 (by first | exact fun _ h => h | (intro c h; simp [KC, KO, KU] at h <;> omega))
              refine k_cutl (X := St) 9 [(0, v0), (4, .bool false), (8, v13_0), (9, .int .i64 ((max 0 a1).tmod (i64 ((x10.length : Int) + 1)))), (10, v15_0), (11, .int .i64 x17), (12, .pointer (some ⟨b21, 0, none⟩)), (13, .int .u64 (x21.1.toNat : Int)), (14, S x21.2.1), (15, .int .i64 x22), (70, .int .i64 x22), (71, .bool (decide (x22 = 0))), (79, .bool (decide ((x22 = 0) ∧ ((x21.1.toNat : Int) ≠ ((ofI64 ((ofI8 (x20.X.toNat : Int)).toNat : Int)).toNat : Int))))), (91, .bool (decide (((x22 = 0) ∧ ((x21.1.toNat : Int) ≠ ((ofI64 ((ofI8 (x20.X.toNat : Int)).toNat : Int)).toNat : Int))) ∨ ((x22 = 1) ∧ ((x21.1.toNat : Int) ≠ ((ofI64 ((ofI32 (x20.X.toNat : Int)).toNat : Int)).toNat : Int))))))] (fun _ => [(101, .bool (decide ((((x22 = 0) ∧ ((x21.1.toNat : Int) ≠ ((ofI64 ((ofI8 (x20.X.toNat : Int)).toNat : Int)).toNat : Int))) ∨ ((x22 = 1) ∧ ((x21.1.toNat : Int) ≠ ((ofI64 ((ofI32 (x20.X.toNat : Int)).toNat : Int)).toNat : Int)))) ∨ ((x22 = 2) ∧ ((x21.1.toNat : Int) ≠ (x20.X.toNat : Int))))))]) (fun sl wL => sl.w = wL ∧ Step K0 s34 sl) ?_ ?_
              · -- the ways
                refine k_again 92 rfl ?_
                refine k_split (fun c36 => ?_) (fun c36 => ?_)
                · -- t92 True
                  refine k_no rfl rfl rfl rfl ?_
                  refine k_no rfl rfl rfl rfl ?_
                  refine k_no rfl rfl rfl rfl ?_
                  refine k_nou rfl rfl rfl rfl ?_
                  refine k_nou rfl rfl rfl rfl ?_
                  refine k_nou rfl rfl rfl rfl ?_
                  refine k_nou rfl rfl rfl rfl ?_
                  refine k_no rfl rfl rfl rfl ?_
                  refine k_pickT rfl rfl rfl rfl ?_
                  exact k_met ⟨s34, ⟨(congrArg (fun b => some (Value.bool b)) (by first | exact decide_eq_decide.2 ⟨Or.inr, fun h => h.resolve_left c36⟩ | exact (decide_eq_true (Or.inl c36)).symm | (simp [c36]; done) | (simp [c36, i64] <;> omega))), trivial⟩, ⟨rfl, rfl, rfl, rfl, rfl, rfl, rfl, rfl, rfl, rfl, rfl, rfl, rfl, rfl, trivial⟩, rfl, hE35⟩
                · -- t92 False
                  refine k_yes rfl rfl ?_
                  refine k_move rfl rfl ?_
                  refine k_yes rfl rfl ?_
                  refine k_eql rfl rfl rfl ?_
                  refine k_yes rfl rfl ?_
                  refine k_move rfl rfl ?_
                  have hE37 : Step K0 s34 s34 := (Step.refl _).of0 (by first | exact fun _ h => h | (intro c h; simp [KC, KO, KU] at h <;> omega))
                  refine k_cutl (X := St) 5 [(0, v0), (4, .bool false), (8, v13_0), (9, .int .i64 ((max 0 a1).tmod (i64 ((x10.length : Int) + 1)))), (10, v15_0), (11, .int .i64 x17), (12, .pointer (some ⟨b21, 0, none⟩)), (13, .int .u64 (x21.1.toNat : Int)), (14, S x21.2.1), (15, .int .i64 x22), (70, .int .i64 x22), (71, .bool (decide (x22 = 0))), (79, .bool (decide ((x22 = 0) ∧ ((x21.1.toNat : Int) ≠ ((ofI64 ((ofI8 (x20.X.toNat : Int)).toNat : Int)).toNat : Int))))), (91, .bool (decide (((x22 = 0) ∧ ((x21.1.toNat : Int) ≠ ((ofI64 ((ofI8 (x20.X.toNat : Int)).toNat : Int)).toNat : Int))) ∨ ((x22 = 1) ∧ ((x21.1.toNat : Int) ≠ ((ofI64 ((ofI32 (x20.X.toNat : Int)).toNat : Int)).toNat : Int)))))), (92, .bool false), (93, .int .i64 x22), (94, .bool (decide (x22 = 2)))] (fun _ => [(100, .bool (decide ((x22 = 2) ∧ ((x21.1.toNat : Int) ≠ (x20.X.toNat : Int)))))]) (fun sl wL => sl.w = wL ∧ Step K0 s34 sl) ?_ ?_
                  · -- the ways
                    refine k_again 95 rfl ?_
                    refine k_split (fun c38 => ?_) (fun c38 => ?_)
                    · -- t95 True
                      refine k_yes rfl rfl ?_
                      refine k_move rfl rfl ?_
                      refine k_yes rfl rfl ?_
                      refine k_field_addr fld36_2 rfl rfl ?_
                      refine k_yes rfl rfl ?_
                      refine k_load_blk one29 rfl h21 rfl rfl ?_
                      refine k_yes rfl rfl ?_
                      refine k_neq rfl rfl rfl ?_
                      refine k_yes rfl rfl ?_
                      refine k_pickT rfl rfl rfl rfl ?_
                      exact k_met ⟨s34, ⟨(congrArg (fun b => some (Value.bool b)) (by first | exact decide_eq_decide.2 ⟨fun h => ⟨c38, h⟩, fun h => h.2⟩ | exact (decide_eq_false (fun h => c38 h.1)).symm | (simp [c38]; done) | (simp [c38, i64] <;> omega))), trivial⟩, ⟨rfl, rfl, rfl, rfl, rfl, rfl, rfl, rfl, rfl, rfl, rfl, rfl, rfl, rfl, rfl, rfl, rfl, trivial⟩, rfl, hE37⟩
                    · -- t95 False
                      refine k_no rfl rfl rfl rfl ?_
                      refine k_no rfl rfl rfl rfl ?_
                      refine k_no rfl rfl rfl rfl ?_
                      refine k_no rfl rfl rfl rfl ?_
                      refine k_yes rfl rfl ?_
                      refine k_pickF rfl rfl rfl rfl ?_
                      exact k_met ⟨s34, ⟨(congrArg (fun b => some (Value.bool b)) (by first | exact decide_eq_decide.2 ⟨fun h => ⟨c38, h⟩, fun h => h.2⟩ | exact (decide_eq_false (fun h => c38 h.1)).symm | (simp [c38]; done) | (simp [c38, i64] <;> omega))), trivial⟩, ⟨rfl, rfl, rfl, rfl, rfl, rfl, rfl, rfl, rfl, rfl, rfl, rfl, rfl, rfl, rfl, rfl, rfl, trivial⟩, rfl, hE37⟩
                  · -- behind
                    rintro s39 wL ⟨rfl, hE37⟩
                    have szs39 := hE37.size
                    have hS : Step K0 s s39 := hS.trans0 hE37
                    have hE16 : Step (KU (KO ku13_0) (KO ku15_0)) s15 s39 := hE16.trans0 hE37
                    have hE17 : Step (KU (KO ku13_0) (KO ku15_0)) s15 s39 := hE17.trans0 hE37
                    have hE35 : Step K0 s34 s39 := hE35.trans0 hE37
                    replace hp0 := hp0.up' hE37
                    replace h13_0 := h13_0.up' hE37
                    replace h15_0 := h15_0.up' hE37
                    replace h21 := h21.up' hE37
                    refine k_pickF rfl rfl rfl rfl ?_
                    exact k_met ⟨s39, ⟨(congrArg (fun b => some (Value.bool b)) (by first | exact decide_eq_decide.2 ⟨Or.inr, fun h => h.resolve_left c36⟩ | exact (decide_eq_true (Or.inl c36)).symm | (simp [c36]; done) | (simp [c36, i64] <;> omega))), trivial⟩, ⟨rfl, rfl, rfl, rfl, rfl, rfl, rfl, rfl, rfl, rfl, rfl, rfl, rfl, rfl, trivial⟩, rfl, hE35⟩
              · -- behind
                rintro s40 wL ⟨rfl, hE35⟩
                have szs40 := hE35.size
                have hS : Step K0 s s40 := hS.trans0 hE35
                have hE16 : Step (KU (KO ku13_0) (KO ku15_0)) s15 s40 := hE16.trans0 hE35
                have hE17 : Step (KU (KO ku13_0) (KO ku15_0)) s15 s40 := hE17.trans0 hE35
                replace hp0 := hp0.up' hE35
                replace h13_0 := h13_0.up' hE35
                replace h15_0 := h15_0.up' hE35
                replace h21 := h21.up' hE35
                refine k_move rfl rfl ?_
                have hE41 : Step K0 s40 s40 := (Step.refl _).of0 (by first | exact fun _ h => h | (intro c h; simp [KC, KO, KU] at h <;> omega))
                refine k_cutl (X := St) 9 [(0, v0), (4, .bool false), (8, v13_0), (9, .int .i64 ((max 0 a1).tmod (i64 ((x10.length : Int) + 1)))), (10, v15_0), (11, .int .i64 x17), (12, .pointer (some ⟨b21, 0, none⟩)), (13, .int .u64 (x21.1.toNat : Int)), (14, S x21.2.1), (15, .int .i64 x22), (70, .int .i64 x22), (71, .bool (decide (x22 = 0))), (79, .bool (decide ((x22 = 0) ∧ ((x21.1.toNat : Int) ≠ ((ofI64 ((ofI8 (x20.X.toNat : Int)).toNat : Int)).toNat : Int))))), (91, .bool (decide (((x22 = 0) ∧ ((x21.1.toNat : Int) ≠ ((ofI64 ((ofI8 (x20.X.toNat : Int)).toNat : Int)).toNat : Int))) ∨ ((x22 = 1) ∧ ((x21.1.toNat : Int) ≠ ((ofI64 ((ofI32 (x20.X.toNat : Int)).toNat : Int)).toNat : Int)))))), (101, .bool (decide ((((x22 = 0) ∧ ((x21.1.toNat : Int) ≠ ((ofI64 ((ofI8 (x20.X.toNat : Int)).toNat : Int)).toNat : Int))) ∨ ((x22 = 1) ∧ ((x21.1.toNat : Int) ≠ ((ofI64 ((ofI32 (x20.X.toNat : Int)).toNat : Int)).toNat : Int)))) ∨ ((x22 = 2) ∧ ((x21.1.toNat : Int) ≠ (x20.X.toNat : Int))))))] (fun _ => [(111, .bool (decide (((((x22 = 0) ∧ ((x21.1.toNat : Int) ≠ ((ofI64 ((ofI8 (x20.X.toNat : Int)).toNat : Int)).toNat : Int))) ∨ ((x22 = 1) ∧ ((x21.1.toNat : Int) ≠ ((ofI64 ((ofI32 (x20.X.toNat : Int)).toNat : Int)).toNat : Int)))) ∨ ((x22 = 2) ∧ ((x21.1.toNat : Int) ≠ (x20.X.toNat : Int)))) ∨ ((2 < x22) ∧ (x21.2.1 ≠ x20.S)))))]) (fun sl wL => sl.w = wL ∧ Step K0 s40 sl) ?_ ?_
                · -- the ways
                  refine k_again 102 rfl ?_
                  refine k_split (fun c42 => ?_) (fun c42 => ?_)
                  · -- t102 True
                    refine k_no rfl rfl rfl rfl ?_
                    refine k_no rfl rfl rfl rfl ?_
                    refine k_no rfl rfl rfl rfl ?_
                    refine k_nou rfl rfl rfl rfl ?_
                    refine k_nou rfl rfl rfl rfl ?_
                    refine k_nou rfl rfl rfl rfl ?_
                    refine k_nou rfl rfl rfl rfl ?_
                    refine k_no rfl rfl rfl rfl ?_
                    refine k_pickT rfl rfl rfl rfl ?_
                    exact k_met ⟨s40, ⟨(congrArg (fun b => some (Value.bool b)) (by first | exact decide_eq_decide.2 ⟨Or.inr, fun h => h.resolve_left c42⟩ | exact (decide_eq_true (Or.inl c42)).symm | (simp [c42]; done) | (simp [c42, i64] <;> omega))), trivial⟩, ⟨rfl, rfl, rfl, rfl, rfl, rfl, rfl, rfl, rfl, rfl, rfl, rfl, rfl, rfl, rfl, trivial⟩, rfl, hE41⟩
                  · -- t102 False
                    refine k_yes rfl rfl ?_
                    refine k_move rfl rfl ?_
                    refine k_yes rfl rfl ?_
                    refine k_gtr rfl rfl rfl ?_
                    refine k_yes rfl rfl ?_
                    refine k_move rfl rfl ?_
                    have hE43 : Step K0 s40 s40 := (Step.refl _).of0 (by first | exact fun _ h => h | (intro c h; simp [KC, KO, KU] at h <;> omega))
                    refine k_cutl (X := St) 5 [(0, v0), (4, .bool false), (8, v13_0), (9, .int .i64 ((max 0 a1).tmod (i64 ((x10.length : Int) + 1)))), (10, v15_0), (11, .int .i64 x17), (12, .pointer (some ⟨b21, 0, none⟩)), (13, .int .u64 (x21.1.toNat : Int)), (14, S x21.2.1), (15, .int .i64 x22), (70, .int .i64 x22), (71, .bool (decide (x22 = 0))), (79, .bool (decide ((x22 = 0) ∧ ((x21.1.toNat : Int) ≠ ((ofI64 ((ofI8 (x20.X.toNat : Int)).toNat : Int)).toNat : Int))))), (91, .bool (decide (((x22 = 0) ∧ ((x21.1.toNat : Int) ≠ ((ofI64 ((ofI8 (x20.X.toNat : Int)).toNat : Int)).toNat : Int))) ∨ ((x22 = 1) ∧ ((x21.1.toNat : Int) ≠ ((ofI64 ((ofI32 (x20.X.toNat : Int)).toNat : Int)).toNat : Int)))))), (101, .bool (decide ((((x22 = 0) ∧ ((x21.1.toNat : Int) ≠ ((ofI64 ((ofI8 (x20.X.toNat : Int)).toNat : Int)).toNat : Int))) ∨ ((x22 = 1) ∧ ((x21.1.toNat : Int) ≠ ((ofI64 ((ofI32 (x20.X.toNat : Int)).toNat : Int)).toNat : Int)))) ∨ ((x22 = 2) ∧ ((x21.1.toNat : Int) ≠ (x20.X.toNat : Int)))))), (102, .bool false), (103, .int .i64 x22), (104, .bool (decide (2 < x22)))] (fun _ => [(110, .bool (decide ((2 < x22) ∧ (x21.2.1 ≠ x20.S))))]) (fun sl wL => sl.w = wL ∧ Step K0 s40 sl) ?_ ?_
                    · -- the ways
                      refine k_again 105 rfl ?_
                      refine k_split (fun c44 => ?_) (fun c44 => ?_)
                      · -- t105 True
                        refine k_yes rfl rfl ?_
                        refine k_move rfl rfl ?_
                        refine k_yes rfl rfl ?_
                        refine k_field_addr fld36_3 rfl rfl ?_
                        refine k_yes rfl rfl ?_
                        refine k_load_blk one9 rfl h21 rfl rfl ?_
                        refine k_yes rfl rfl ?_
                        refine k_neq_str rfl rfl rfl ?_
                        refine k_yes rfl rfl ?_
                        refine k_pickT rfl rfl rfl rfl ?_
                        exact k_met ⟨s40, ⟨(congrArg (fun b => some (Value.bool b)) (by first | exact decide_eq_decide.2 ⟨fun h => ⟨c44, h⟩, fun h => h.2⟩ | exact (decide_eq_false (fun h => c44 h.1)).symm | (simp [c44]; done) | (simp [c44, i64] <;> omega))), trivial⟩, ⟨rfl, rfl, rfl, rfl, rfl, rfl, rfl, rfl, rfl, rfl, rfl, rfl, rfl, rfl, rfl, rfl, rfl, rfl, trivial⟩, rfl, hE43⟩
                      · -- t105 False
                        refine k_no rfl rfl rfl rfl ?_
                        refine k_no rfl rfl rfl rfl ?_
                        refine k_no rfl rfl rfl rfl ?_
                        refine k_no rfl rfl rfl rfl ?_
                        refine k_yes rfl rfl ?_
                        refine k_pickF rfl rfl rfl rfl ?_
                        exact k_met ⟨s40, ⟨(congrArg (fun b => some (Value.bool b)) (by first | exact decide_eq_decide.2 ⟨fun h => ⟨c44, h⟩, fun h => h.2⟩ | exact (decide_eq_false (fun h => c44 h.1)).symm | (simp [c44]; done) | (simp [c44, i64] <;> omega))), trivial⟩, ⟨rfl, rfl, rfl, rfl, rfl, rfl, rfl, rfl, rfl, rfl, rfl, rfl, rfl, rfl, rfl, rfl, rfl, rfl, trivial⟩, rfl, hE43⟩
                    · -- behind
                      rintro s45 wL ⟨rfl, hE43⟩
                      have szs45 := hE43.size
                      have hS : Step K0 s s45 := hS.trans0 hE43
                      have hE16 : Step (KU (KO ku13_0) (KO ku15_0)) s15 s45 := hE16.trans0 hE43
                      have hE17 : Step (KU (KO ku13_0) (KO ku15_0)) s15 s45 := hE17.trans0 hE43
                      have hE41 : Step K0 s40 s45 := hE41.trans0 hE43
                      replace hp0 := hp0.up' hE43
                      replace h13_0 := h13_0.up' hE43
                      replace h15_0 := h15_0.up' hE43
                      replace h21 := h21.up' hE43
                      refine k_pickF rfl rfl rfl rfl ?_
                      exact k_met ⟨s45, ⟨(congrArg (fun b => some (Value.bool b)) (by first | exact decide_eq_decide.2 ⟨Or.inr, fun h => h.resolve_left c42⟩ | exact (decide_eq_true (Or.inl c42)).symm | (simp [c42]; done) | (simp [c42, i64] <;> omega))), trivial⟩, ⟨rfl, rfl, rfl, rfl, rfl, rfl, rfl, rfl, rfl, rfl, rfl, rfl, rfl, rfl, rfl, trivial⟩, rfl, hE41⟩
                · -- behind
                  rintro s46 wL ⟨rfl, hE41⟩
                  have szs46 := hE41.size
                  have hS : Step K0 s s46 := hS.trans0 hE41
                  have hE16 : Step (KU (KO ku13_0) (KO ku15_0)) s15 s46 := hE16.trans0 hE41
                  have hE17 : Step (KU (KO ku13_0) (KO ku15_0)) s15 s46 := hE17.trans0 hE41
                  replace hp0 := hp0.up' hE41
                  replace h13_0 := h13_0.up' hE41
                  replace h15_0 := h15_0.up' hE41
                  replace h21 := h21.up' hE41
                  refine k_move rfl rfl ?_
                  obtain ⟨x23, hx23, h⟩ := ob h
                  have hE47 : Step K0 s46 s46 := (Step.refl _).of0 (by first | exact fun _ h => h | (intro c h; simp [KC, KO, KU] at h <;> omega))
                  refine k_cutl (X := St) 4 [(0, v0), (4, .bool false), (8, v13_0), (9, .int .i64 ((max 0 a1).tmod (i64 ((x10.length : Int) + 1)))), (10, v15_0), (11, .int .i64 x17), (12, .pointer (some ⟨b21, 0, none⟩)), (13, .int .u64 (x21.1.toNat : Int)), (14, S x21.2.1), (15, .int .i64 x22), (70, .int .i64 x22), (71, .bool (decide (x22 = 0))), (79, .bool (decide ((x22 = 0) ∧ ((x21.1.toNat : Int) ≠ ((ofI64 ((ofI8 (x20.X.toNat : Int)).toNat : Int)).toNat : Int))))), (91, .bool (decide (((x22 = 0) ∧ ((x21.1.toNat : Int) ≠ ((ofI64 ((ofI8 (x20.X.toNat : Int)).toNat : Int)).toNat : Int))) ∨ ((x22 = 1) ∧ ((x21.1.toNat : Int) ≠ ((ofI64 ((ofI32 (x20.X.toNat : Int)).toNat : Int)).toNat : Int)))))), (101, .bool (decide ((((x22 = 0) ∧ ((x21.1.toNat : Int) ≠ ((ofI64 ((ofI8 (x20.X.toNat : Int)).toNat : Int)).toNat : Int))) ∨ ((x22 = 1) ∧ ((x21.1.toNat : Int) ≠ ((ofI64 ((ofI32 (x20.X.toNat : Int)).toNat : Int)).toNat : Int)))) ∨ ((x22 = 2) ∧ ((x21.1.toNat : Int) ≠ (x20.X.toNat : Int)))))), (111, .bool (decide (((((x22 = 0) ∧ ((x21.1.toNat : Int) ≠ ((ofI64 ((ofI8 (x20.X.toNat : Int)).toNat : Int)).toNat : Int))) ∨ ((x22 = 1) ∧ ((x21.1.toNat : Int) ≠ ((ofI64 ((ofI32 (x20.X.toNat : Int)).toNat : Int)).toNat : Int)))) ∨ ((x22 = 2) ∧ ((x21.1.toNat : Int) ≠ (x20.X.toNat : Int)))) ∨ ((2 < x22) ∧ (x21.2.1 ≠ x20.S)))))] (fun _ => [(116, .bool x23)]) (fun sl wL => sl.w = wL ∧ Step K0 s46 sl) ?_ ?_
                  · -- the ways
                    refine k_again 112 rfl ?_
                    refine k_split (fun c48 => ?_) (fun c48 => ?_)
                    · -- t112 True
                      have hx23 := itT hx23 c48
                      refine k_no rfl rfl rfl rfl ?_
                      refine k_no rfl rfl rfl rfl ?_
                      refine k_no rfl rfl rfl rfl ?_
                      refine k_pickT rfl rfl rfl rfl ?_
                      exact k_met ⟨s46, ⟨(congrArg (fun b => some (Value.bool b)) (Option.some.inj hx23)), trivial⟩, ⟨rfl, rfl, rfl, rfl, rfl, rfl, rfl, rfl, rfl, rfl, rfl, rfl, rfl, rfl, rfl, rfl, trivial⟩, rfl, hE47⟩
                    · -- t112 False
                      have hx23 := itF hx23 c48
                      refine k_yes rfl rfl ?_
                      refine k_move rfl rfl ?_
                      refine k_yes rfl rfl ?_
                      obtain ⟨x24, hx24, hx23⟩ := ob hx23
                      refine k_call cal27 rfl (code_Reader_Err_w  h13_0 hx24) rfl ?_
                      rintro s49 vr49 st49 rfl
                      have szs49 := st49.size
                      have hS : Step K0 s s49 := hS.trans0 st49
                      have hE16 : Step (KU (KO ku13_0) (KO ku15_0)) s15 s49 := hE16.trans0 st49
                      have hE17 : Step (KU (KO ku13_0) (KO ku15_0)) s15 s49 := hE17.trans0 st49
                      have hE47 : Step K0 s46 s49 := hE47.trans0 st49
                      replace hp0 := hp0.up' st49
                      replace h13_0 := h13_0.up' st49
                      replace h15_0 := h15_0.up' st49
                      replace h21 := h21.up' st49
                      refine k_yes rfl rfl ?_
                      refine k_neq rfl rfl rfl ?_
                      refine k_pickF rfl rfl rfl rfl ?_
                      exact k_met ⟨s49, ⟨(congrArg (fun b => some (Value.bool b)) (Option.some.inj hx23)), trivial⟩, ⟨rfl, rfl, rfl, rfl, rfl, rfl, rfl, rfl, rfl, rfl, rfl, rfl, rfl, rfl, rfl, rfl, trivial⟩, rfl, hE47⟩
                  · -- behind
                    rintro s50 wL ⟨rfl, hE47⟩
                    have szs50 := hE47.size
                    have hS : Step K0 s s50 := hS.trans0 hE47
                    have hE16 : Step (KU (KO ku13_0) (KO ku15_0)) s15 s50 := hE16.trans0 hE47
                    have hE17 : Step (KU (KO ku13_0) (KO ku15_0)) s15 s50 := hE17.trans0 hE47
                    replace hp0 := hp0.up' hE47
                    replace h13_0 := h13_0.up' hE47
                    replace h15_0 := h15_0.up' hE47
                    replace h21 := h21.up' hE47
                    refine k_nil ?_
                    refine k_keep [(0, _), (4, _), (8, _), (9, _), (10, _), (11, _), (12, _), (13, _), (14, _), (116, _)] ⟨rfl, rfl, rfl, rfl, rfl, rfl, rfl, rfl, rfl, rfl, trivial⟩ ?_
                    refine k_cond rfl (fun c51 => ?_) (fun c51 => ?_)
                    · -- T
                      have h := ibT h c51
                      refine k_seq ?_
                      refine k_region ?_
                      refine k_assign rfl rfl ?_
                      refine k_nil ?_
                      refine k_keep [(0, _), (4, _), (8, _), (9, _), (10, _), (11, _), (12, _), (13, _), (14, _)] ⟨rfl, rfl, rfl, rfl, rfl, rfl, rfl, rfl, rfl, trivial⟩ ?_
                      refine k_ret ?_
                      obtain rfl := Option.some.inj h
                      refine ⟨_, rfl, Ret.mk hS ?_⟩
                      exact rfl
                    · -- F
                      have h := ibF h c51
                      refine k_skip ?_
                      refine k_seq ?_
                      refine k_region ?_
                      refine k_move rfl rfl ?_
                      refine k_load_blka (cs := [.int .i64 x20.Kind, .int .i64 (x20.S.length : Int), .int .u64 (x20.X.toNat : Int), S x20.S]) agg36 rfl h21 rfl ?_
                      obtain ⟨x25, hx25, h⟩ := ob h
                      refine k_call cal24 rfl (law02_read_w  h15_0 (clsLaw02Item (⟨x20.Kind, (x20.S.length : Int), x20.X, x20.S⟩ : Law02Item)) hx25) rfl ?_
                      rintro s52 vr52 st52 ⟨rfl, h15_0⟩
                      have szs52 := st52.size
                      have hS : Step K0 s s52 := hS.comp st52 (by intro l hl hk; simp only [KC, KO, KU, K0] at hk ⊢; omega)
                      have hE16 : Step (KU (KO ku13_0) (KO ku15_0)) s15 s52 := hE16.comp st52 (by intro l hl hk; simp only [KC, KO, KU, K0] at hk ⊢; omega)
                      have hE17 : Step (KU (KO ku13_0) (KO ku15_0)) s15 s52 := hE17.comp st52 (by intro l hl hk; simp only [KC, KO, KU, K0] at hk ⊢; omega)
                      replace hp0 := hp0.up' st52
                      replace h13_0 := h13_0.up' st52
                      replace h21 := h21.up' st52
                      refine k_move rfl rfl ?_
                      refine k_extract rfl rfl rfl ?_
                      refine k_extract rfl rfl rfl ?_
                      refine k_assign rfl rfl ?_
                      refine k_assign rfl rfl ?_
                      refine k_nil ?_
                      refine k_keep [(0, _), (4, _), (8, _), (9, _), (10, _), (11, _), (13, _), (14, _), (16, _), (17, _)] ⟨rfl, rfl, rfl, rfl, rfl, rfl, rfl, rfl, rfl, rfl, trivial⟩ ?_
                      refine k_seq ?_
                      refine k_region ?_
                      refine k_move rfl rfl ?_
                      obtain ⟨x26, hx26, h⟩ := ob h
                      refine k_call cal26 rfl (code_Reader_At_w  h13_0 hx26) rfl ?_
                      rintro s53 vr53 st53 rfl
                      have szs53 := st53.size
                      have hS : Step K0 s s53 := hS.trans0 st53
                      have hE16 : Step (KU (KO ku13_0) (KO ku15_0)) s15 s53 := hE16.trans0 st53
                      have hE17 : Step (KU (KO ku13_0) (KO ku15_0)) s15 s53 := hE17.trans0 st53
                      replace hp0 := hp0.up' st53
                      replace h13_0 := h13_0.up' st53
                      replace h15_0 := h15_0.up' st53
                      refine k_move rfl rfl ?_
                      refine k_leq rfl rfl rfl ?_
                      refine k_move rfl rfl ?_
                      obtain ⟨x27, hx27, h⟩ := ob h
                      have hE54 : Step K0 s53 s53 := (Step.refl _).of0 (by first | exact fun _ h => h | (intro c h; simp [KC, KO, KU] at h <;> omega))
                      refine k_cutl (X := St) 16 [(0, v0), (4, .bool false), (8, v13_0), (9, .int .i64 ((max 0 a1).tmod (i64 ((x10.length : Int) + 1)))), (10, v15_0), (11, .int .i64 x17), (13, .int .u64 (x21.1.toNat : Int)), (14, S x21.2.1), (16, .int .u64 (x25.1.toNat : Int)), (17, S x25.2.1), (123, v13_0), (124, .int .i64 x26), (125, .int .i64 ((max 0 a1).tmod (i64 ((x10.length : Int) + 1)))), (126, .bool (decide (x26 ≤ (max 0 a1).tmod (i64 ((x10.length : Int) + 1)))))] (fun _ => [(143, .bool x27)]) (fun sl wL => sl.w = wL ∧ Step K0 s53 sl) ?_ ?_
                      · -- the ways
                        refine k_again 127 rfl ?_
                        refine k_split (fun c55 => ?_) (fun c55 => ?_)
                        · -- t127 True
                          have hx27 := itT hx27 c55
                          refine k_yes rfl rfl ?_
                          refine k_move rfl rfl ?_
                          refine k_yes rfl rfl ?_
                          refine k_move rfl rfl ?_
                          refine k_yes rfl rfl ?_
                          refine k_neq rfl rfl rfl ?_
                          refine k_yes rfl rfl ?_
                          refine k_move rfl rfl ?_
                          have hE56 : Step K0 s53 s53 := (Step.refl _).of0 (by first | exact fun _ h => h | (intro c h; simp [KC, KO, KU] at h <;> omega))
                          refine k_cutl (X := St) 4 [(0, v0), (4, .bool false), (8, v13_0), (9, .int .i64 ((max 0 a1).tmod (i64 ((x10.length : Int) + 1)))), (10, v15_0), (11, .int .i64 x17), (13, .int .u64 (x21.1.toNat : Int)), (14, S x21.2.1), (16, .int .u64 (x25.1.toNat : Int)), (17, S x25.2.1), (123, v13_0), (124, .int .i64 x26), (125, .int .i64 ((max 0 a1).tmod (i64 ((x10.length : Int) + 1)))), (126, .bool (decide (x26 ≤ (max 0 a1).tmod (i64 ((x10.length : Int) + 1))))), (127, .bool true), (128, .int .u64 (x25.1.toNat : Int)), (129, .int .u64 (x21.1.toNat : Int)), (130, .bool (decide ((x25.1.toNat : Int) ≠ (x21.1.toNat : Int))))] (fun _ => [(135, .bool (decide (((x25.1.toNat : Int) ≠ (x21.1.toNat : Int)) ∨ (x25.2.1 ≠ x21.2.1))))]) (fun sl wL => sl.w = wL ∧ Step K0 s53 sl) ?_ ?_
                          · -- the ways
                            refine k_again 131 rfl ?_
                            refine k_split (fun c57 => ?_) (fun c57 => ?_)
                            · -- t131 True
                              refine k_no rfl rfl rfl rfl ?_
                              refine k_no rfl rfl rfl rfl ?_
                              refine k_no rfl rfl rfl rfl ?_
                              refine k_yes rfl rfl ?_
                              refine k_pickT rfl rfl rfl rfl ?_
                              exact k_met ⟨s53, ⟨(congrArg (fun b => some (Value.bool b)) (by first | exact decide_eq_decide.2 ⟨Or.inr, fun h => h.resolve_left c57⟩ | exact (decide_eq_true (Or.inl c57)).symm | (simp [c57]; done) | (simp [c57, i64] <;> omega))), trivial⟩, ⟨rfl, rfl, rfl, rfl, rfl, rfl, rfl, rfl, rfl, rfl, rfl, rfl, rfl, rfl, rfl, rfl, rfl, rfl, trivial⟩, rfl, hE56⟩
                            · -- t131 False
                              refine k_yes rfl rfl ?_
                              refine k_move rfl rfl ?_
                              refine k_yes rfl rfl ?_
                              refine k_move rfl rfl ?_
                              refine k_yes rfl rfl ?_
                              refine k_neq_str rfl rfl rfl ?_
                              refine k_yes rfl rfl ?_
                              refine k_pickF rfl rfl rfl rfl ?_
                              exact k_met ⟨s53, ⟨(congrArg (fun b => some (Value.bool b)) (by first | exact decide_eq_decide.2 ⟨Or.inr, fun h => h.resolve_left c57⟩ | exact (decide_eq_true (Or.inl c57)).symm | (simp [c57]; done) | (simp [c57, i64] <;> omega))), trivial⟩, ⟨rfl, rfl, rfl, rfl, rfl, rfl, rfl, rfl, rfl, rfl, rfl, rfl, rfl, rfl, rfl, rfl, rfl, rfl, trivial⟩, rfl, hE56⟩
                          · -- behind
                            rintro s58 wL ⟨rfl, hE56⟩
                            have szs58 := hE56.size
                            have hS : Step K0 s s58 := hS.trans0 hE56
                            have hE16 : Step (KU (KO ku13_0) (KO ku15_0)) s15 s58 := hE16.trans0 hE56
                            have hE17 : Step (KU (KO ku13_0) (KO ku15_0)) s15 s58 := hE17.trans0 hE56
                            have hE54 : Step K0 s53 s58 := hE54.trans0 hE56
                            replace hp0 := hp0.up' hE56
                            replace h13_0 := h13_0.up' hE56
                            replace h15_0 := h15_0.up' hE56
                            refine k_yes rfl rfl ?_
                            refine k_move rfl rfl ?_
                            obtain ⟨x28, hx28, hx27⟩ := ob hx27
                            have hE59 : Step K0 s58 s58 := (Step.refl _).of0 (by first | exact fun _ h => h | (intro c h; simp [KC, KO, KU] at h <;> omega))
                            refine k_cutl (X := St) 6 [(0, v0), (4, .bool false), (8, v13_0), (9, .int .i64 ((max 0 a1).tmod (i64 ((x10.length : Int) + 1)))), (10, v15_0), (11, .int .i64 x17), (13, .int .u64 (x21.1.toNat : Int)), (14, S x21.2.1), (16, .int .u64 (x25.1.toNat : Int)), (17, S x25.2.1), (123, v13_0), (124, .int .i64 x26), (125, .int .i64 ((max 0 a1).tmod (i64 ((x10.length : Int) + 1)))), (126, .bool (decide (x26 ≤ (max 0 a1).tmod (i64 ((x10.length : Int) + 1))))), (127, .bool true), (128, .int .u64 (x25.1.toNat : Int)), (129, .int .u64 (x21.1.toNat : Int)), (130, .bool (decide ((x25.1.toNat : Int) ≠ (x21.1.toNat : Int)))), (135, .bool (decide (((x25.1.toNat : Int) ≠ (x21.1.toNat : Int)) ∨ (x25.2.1 ≠ x21.2.1))))] (fun _ => [(142, .bool x28)]) (fun sl wL => sl.w = wL ∧ Step K0 s58 sl) ?_ ?_
                            · -- the ways
                              refine k_again 136 rfl ?_
                              refine k_split (fun c60 => ?_) (fun c60 => ?_)
                              · -- t136 True
                                have hx28 := itT hx28 c60
                                refine k_no rfl rfl rfl rfl ?_
                                refine k_no rfl rfl rfl rfl ?_
                                refine k_no rfl rfl rfl rfl ?_
                                refine k_no rfl rfl rfl rfl ?_
                                refine k_no rfl rfl rfl rfl ?_
                                refine k_yes rfl rfl ?_
                                refine k_pickT rfl rfl rfl rfl ?_
                                exact k_met ⟨s58, ⟨(congrArg (fun b => some (Value.bool b)) (Option.some.inj hx28)), trivial⟩, ⟨rfl, rfl, rfl, rfl, rfl, rfl, rfl, rfl, rfl, rfl, rfl, rfl, rfl, rfl, rfl, rfl, rfl, rfl, rfl, trivial⟩, rfl, hE59⟩
                              · -- t136 False
                                have hx28 := itF hx28 c60
                                refine k_yes rfl rfl ?_
                                refine k_move rfl rfl ?_
                                refine k_yes rfl rfl ?_
                                obtain ⟨x29, hx29, hx28⟩ := ob hx28
                                refine k_call cal26 rfl (code_Reader_At_w  h15_0 hx29) rfl ?_
                                rintro s61 vr61 st61 rfl
                                have szs61 := st61.size
                                have hS : Step K0 s s61 := hS.trans0 st61
                                have hE16 : Step (KU (KO ku13_0) (KO ku15_0)) s15 s61 := hE16.trans0 st61
                                have hE17 : Step (KU (KO ku13_0) (KO ku15_0)) s15 s61 := hE17.trans0 st61
                                have hE54 : Step K0 s53 s61 := hE54.trans0 st61
                                have hE59 : Step K0 s58 s61 := hE59.trans0 st61
                                replace hp0 := hp0.up' st61
                                replace h13_0 := h13_0.up' st61
                                replace h15_0 := h15_0.up' st61
                                refine k_yes rfl rfl ?_
                                refine k_move rfl rfl ?_
                                refine k_yes rfl rfl ?_
                                obtain ⟨x30, hx30, hx28⟩ := ob hx28
                                refine k_call cal26 rfl (code_Reader_At_w  h13_0 hx30) rfl ?_
                                rintro s62 vr62 st62 rfl
                                have szs62 := st62.size
                                have hS : Step K0 s s62 := hS.trans0 st62
                                have hE16 : Step (KU (KO ku13_0) (KO ku15_0)) s15 s62 := hE16.trans0 st62
                                have hE17 : Step (KU (KO ku13_0) (KO ku15_0)) s15 s62 := hE17.trans0 st62
                                have hE54 : Step K0 s53 s62 := hE54.trans0 st62
                                have hE59 : Step K0 s58 s62 := hE59.trans0 st62
                                replace hp0 := hp0.up' st62
                                replace h13_0 := h13_0.up' st62
                                replace h15_0 := h15_0.up' st62
                                refine k_yes rfl rfl ?_
                                refine k_neq rfl rfl rfl ?_
                                refine k_yes rfl rfl ?_
                                refine k_pickF rfl rfl rfl rfl ?_
                                exact k_met ⟨s62, ⟨(congrArg (fun b => some (Value.bool b)) (Option.some.inj hx28)), trivial⟩, ⟨rfl, rfl, rfl, rfl, rfl, rfl, rfl, rfl, rfl, rfl, rfl, rfl, rfl, rfl, rfl, rfl, rfl, rfl, rfl, trivial⟩, rfl, hE59⟩
                            · -- behind
                              rintro s63 wL ⟨rfl, hE59⟩
                              have szs63 := hE59.size
                              have hS : Step K0 s s63 := hS.trans0 hE59
                              have hE16 : Step (KU (KO ku13_0) (KO ku15_0)) s15 s63 := hE16.trans0 hE59
                              have hE17 : Step (KU (KO ku13_0) (KO ku15_0)) s15 s63 := hE17.trans0 hE59
                              have hE54 : Step K0 s53 s63 := hE54.trans0 hE59
                              replace hp0 := hp0.up' hE59
                              replace h13_0 := h13_0.up' hE59
                              replace h15_0 := h15_0.up' hE59
                              refine k_pickT rfl rfl rfl rfl ?_
                              exact k_met ⟨s63, ⟨(congrArg (fun b => some (Value.bool b)) (Option.some.inj hx27)), trivial⟩, ⟨rfl, rfl, rfl, rfl, rfl, rfl, rfl, rfl, rfl, rfl, rfl, rfl, rfl, rfl, trivial⟩, rfl, hE54⟩
                        · -- t127 False
                          have hx27 := itF hx27 c55
                          refine k_no rfl rfl rfl rfl ?_
                          refine k_no rfl rfl rfl rfl ?_
                          refine k_no rfl rfl rfl rfl ?_
                          refine k_no rfl rfl rfl rfl ?_
                          refine k_nou rfl rfl rfl rfl ?_
                          refine k_nou rfl rfl rfl rfl ?_
                          refine k_nou rfl rfl rfl rfl ?_
                          refine k_no rfl rfl rfl rfl ?_
                          refine k_no rfl rfl rfl rfl ?_
                          refine k_nou rfl rfl rfl rfl ?_
                          refine k_nou rfl rfl rfl rfl ?_
                          refine k_nou rfl rfl rfl rfl ?_
                          refine k_nou rfl rfl rfl rfl ?_
                          refine k_nou rfl rfl rfl rfl ?_
                          refine k_no rfl rfl rfl rfl ?_
                          refine k_pickF rfl rfl rfl rfl ?_
                          exact k_met ⟨s53, ⟨(congrArg (fun b => some (Value.bool b)) (Option.some.inj hx27)), trivial⟩, ⟨rfl, rfl, rfl, rfl, rfl, rfl, rfl, rfl, rfl, rfl, rfl, rfl, rfl, rfl, trivial⟩, rfl, hE54⟩
                      · -- behind
                        rintro s64 wL ⟨rfl, hE54⟩
                        have szs64 := hE54.size
                        have hS : Step K0 s s64 := hS.trans0 hE54
                        have hE16 : Step (KU (KO ku13_0) (KO ku15_0)) s15 s64 := hE16.trans0 hE54
                        have hE17 : Step (KU (KO ku13_0) (KO ku15_0)) s15 s64 := hE17.trans0 hE54
                        replace hp0 := hp0.up' hE54
                        replace h13_0 := h13_0.up' hE54
                        replace h15_0 := h15_0.up' hE54
                        refine k_move rfl rfl ?_
                        obtain ⟨x31, hx31, h⟩ := ob h
                        have hE65 : Step K0 s64 s64 := (Step.refl _).of0 (by first | exact fun _ h => h | (intro c h; simp [KC, KO, KU] at h <;> omega))
                        refine k_cutl (X := St) 10 [(0, v0), (4, .bool false), (8, v13_0), (9, .int .i64 ((max 0 a1).tmod (i64 ((x10.length : Int) + 1)))), (10, v15_0), (11, .int .i64 x17), (13, .int .u64 (x21.1.toNat : Int)), (14, S x21.2.1), (16, .int .u64 (x25.1.toNat : Int)), (17, S x25.2.1), (123, v13_0), (124, .int .i64 x26), (125, .int .i64 ((max 0 a1).tmod (i64 ((x10.length : Int) + 1)))), (126, .bool (decide (x26 ≤ (max 0 a1).tmod (i64 ((x10.length : Int) + 1))))), (143, .bool x27)] (fun _ => [(154, .bool x31)]) (fun sl wL => sl.w = wL ∧ Step K0 s64 sl) ?_ ?_
                        · -- the ways
                          refine k_again 144 rfl ?_
                          refine k_splitb (fun c66 => ?_) (fun c66 => ?_)
                          · -- t144 True
                            have hx31 := ibT hx31 c66
                            refine k_no rfl rfl rfl rfl ?_
                            refine k_no rfl rfl rfl rfl ?_
                            refine k_no rfl rfl rfl rfl ?_
                            refine k_no rfl rfl rfl rfl ?_
                            refine k_no rfl rfl rfl rfl ?_
                            refine k_nou rfl rfl rfl rfl ?_
                            refine k_nou rfl rfl rfl rfl ?_
                            refine k_nou rfl rfl rfl rfl ?_
                            refine k_no rfl rfl rfl rfl ?_
                            refine k_pickT rfl rfl rfl rfl ?_
                            exact k_met ⟨s64, ⟨(congrArg (fun b => some (Value.bool b)) (Option.some.inj hx31)), trivial⟩, ⟨rfl, rfl, rfl, rfl, rfl, rfl, rfl, rfl, rfl, rfl, rfl, rfl, rfl, rfl, rfl, trivial⟩, rfl, hE65⟩
                          · -- t144 False
                            have hx31 := ibF hx31 c66
                            refine k_yes rfl rfl ?_
                            refine k_move rfl rfl ?_
                            refine k_yes rfl rfl ?_
                            obtain ⟨x32, hx32, hx31⟩ := ob hx31
                            refine k_call cal26 rfl (code_Reader_At_w  h13_0 hx32) rfl ?_
                            rintro s67 vr67 st67 rfl
                            have szs67 := st67.size
                            have hS : Step K0 s s67 := hS.trans0 st67
                            have hE16 : Step (KU (KO ku13_0) (KO ku15_0)) s15 s67 := hE16.trans0 st67
                            have hE17 : Step (KU (KO ku13_0) (KO ku15_0)) s15 s67 := hE17.trans0 st67
                            have hE65 : Step K0 s64 s67 := hE65.trans0 st67
                            replace hp0 := hp0.up' st67
                            replace h13_0 := h13_0.up' st67
                            replace h15_0 := h15_0.up' st67
                            refine k_yes rfl rfl ?_
                            refine k_move rfl rfl ?_
                            refine k_yes rfl rfl ?_
                            refine k_gtr rfl rfl rfl ?_
                            refine k_yes rfl rfl ?_
                            refine k_move rfl rfl ?_
                            obtain ⟨x33, hx33, hx31⟩ := ob hx31
                            have hE68 : Step K0 s67 s67 := (Step.refl _).of0 (by first | exact fun _ h => h | (intro c h; simp [KC, KO, KU] at h <;> omega))
                            refine k_cutl (X := St) 4 [(0, v0), (4, .bool false), (8, v13_0), (9, .int .i64 ((max 0 a1).tmod (i64 ((x10.length : Int) + 1)))), (10, v15_0), (11, .int .i64 x17), (13, .int .u64 (x21.1.toNat : Int)), (14, S x21.2.1), (16, .int .u64 (x25.1.toNat : Int)), (17, S x25.2.1), (123, v13_0), (124, .int .i64 x26), (125, .int .i64 ((max 0 a1).tmod (i64 ((x10.length : Int) + 1)))), (126, .bool (decide (x26 ≤ (max 0 a1).tmod (i64 ((x10.length : Int) + 1))))), (143, .bool x27), (144, .bool false), (145, v13_0), (146, .int .i64 x32), (147, .int .i64 ((max 0 a1).tmod (i64 ((x10.length : Int) + 1)))), (148, .bool (decide ((max 0 a1).tmod (i64 ((x10.length : Int) + 1)) < x32)))] (fun _ => [(153, .bool x33)]) (fun sl wL => sl.w = wL ∧ Step K0 s67 sl) ?_ ?_
                            · -- the ways
                              refine k_again 149 rfl ?_
                              refine k_split (fun c69 => ?_) (fun c69 => ?_)
                              · -- t149 True
                                have hx33 := itT hx33 c69
                                refine k_yes rfl rfl ?_
                                refine k_move rfl rfl ?_
                                refine k_yes rfl rfl ?_
                                obtain ⟨x34, hx34, hx33⟩ := ob hx33
                                refine k_call cal27 rfl (code_Reader_Err_w  h15_0 hx34) rfl ?_
                                rintro s70 vr70 st70 rfl
                                have szs70 := st70.size
                                have hS : Step K0 s s70 := hS.trans0 st70
                                have hE16 : Step (KU (KO ku13_0) (KO ku15_0)) s15 s70 := hE16.trans0 st70
                                have hE17 : Step (KU (KO ku13_0) (KO ku15_0)) s15 s70 := hE17.trans0 st70
                                have hE65 : Step K0 s64 s70 := hE65.trans0 st70
                                have hE68 : Step K0 s67 s70 := hE68.trans0 st70
                                replace hp0 := hp0.up' st70
                                replace h13_0 := h13_0.up' st70
                                replace h15_0 := h15_0.up' st70
                                refine k_yes rfl rfl ?_
                                refine k_neq rfl rfl rfl ?_
                                refine k_yes rfl rfl ?_
                                refine k_pickT rfl rfl rfl rfl ?_
                                exact k_met ⟨s70, ⟨(congrArg (fun b => some (Value.bool b)) (Option.some.inj hx33)), trivial⟩, ⟨rfl, rfl, rfl, rfl, rfl, rfl, rfl, rfl, rfl, rfl, rfl, rfl, rfl, rfl, rfl, rfl, rfl, rfl, rfl, rfl, trivial⟩, rfl, hE68⟩
                              · -- t149 False
                                have hx33 := itF hx33 c69
                                refine k_no rfl rfl rfl rfl ?_
                                refine k_no rfl rfl rfl rfl ?_
                                refine k_no rfl rfl rfl rfl ?_
                                refine k_yes rfl rfl ?_
                                refine k_pickF rfl rfl rfl rfl ?_
                                exact k_met ⟨s67, ⟨(congrArg (fun b => some (Value.bool b)) (Option.some.inj hx33)), trivial⟩, ⟨rfl, rfl, rfl, rfl, rfl, rfl, rfl, rfl, rfl, rfl, rfl, rfl, rfl, rfl, rfl, rfl, rfl, rfl, rfl, rfl, trivial⟩, rfl, hE68⟩
                            · -- behind
                              rintro s71 wL ⟨rfl, hE68⟩
                              have szs71 := hE68.size
                              have hS : Step K0 s s71 := hS.trans0 hE68
                              have hE16 : Step (KU (KO ku13_0) (KO ku15_0)) s15 s71 := hE16.trans0 hE68
                              have hE17 : Step (KU (KO ku13_0) (KO ku15_0)) s15 s71 := hE17.trans0 hE68
                              have hE65 : Step K0 s64 s71 := hE65.trans0 hE68
                              replace hp0 := hp0.up' hE68
                              replace h13_0 := h13_0.up' hE68
                              replace h15_0 := h15_0.up' hE68
                              refine k_pickF rfl rfl rfl rfl ?_
                              exact k_met ⟨s71, ⟨(congrArg (fun b => some (Value.bool b)) (Option.some.inj hx31)), trivial⟩, ⟨rfl, rfl, rfl, rfl, rfl, rfl, rfl, rfl, rfl, rfl, rfl, rfl, rfl, rfl, rfl, trivial⟩, rfl, hE65⟩
                        · -- behind
                          rintro s72 wL ⟨rfl, hE65⟩
                          have szs72 := hE65.size
                          have hS : Step K0 s s72 := hS.trans0 hE65
                          have hE16 : Step (KU (KO ku13_0) (KO ku15_0)) s15 s72 := hE16.trans0 hE65
                          have hE17 : Step (KU (KO ku13_0) (KO ku15_0)) s15 s72 := hE17.trans0 hE65
                          replace hp0 := hp0.up' hE65
                          replace h13_0 := h13_0.up' hE65
                          replace h15_0 := h15_0.up' hE65
                          refine k_nil ?_
                          refine k_keep [(0, _), (4, _), (8, _), (9, _), (10, _), (11, _), (154, _)] ⟨rfl, rfl, rfl, rfl, rfl, rfl, rfl, trivial⟩ ?_
                          refine k_cond rfl (fun c73 => ?_) (fun c73 => ?_)
                          · -- T
                            have h := ibT h c73
                            refine k_seq ?_
                            refine k_region ?_
                            refine k_assign rfl rfl ?_
                            refine k_nil ?_
                            refine k_keep [(0, _), (4, _), (8, _), (9, _), (10, _), (11, _)] ⟨rfl, rfl, rfl, rfl, rfl, rfl, trivial⟩ ?_
                            refine k_ret ?_
                            obtain rfl := Option.some.inj h
                            refine ⟨_, rfl, Ret.mk hS ?_⟩
                            exact rfl
                          · -- F
                            have h := ibF h c73
                            refine k_skip ?_
                            refine k_blk ?_
                            refine k_region ?_
                            refine k_move rfl rfl ?_
                            refine k_add rfl rfl rfl ?_
                            refine k_assign rfl rfl ?_
                            refine k_nil ?_
                            exact k_stop ⟨(s72, i64 (x17 + 1), x21.2.2, x25.2.2, j), ⟨(by first | rfl | (simp <;> rfl)), trivial⟩, ⟨rfl, rfl, rfl, rfl, rfl, trivial⟩, ⟨rfl, hE17, h13_0, h15_0, h⟩, (by simp)⟩
        · -- F
          have h := itF h c19
          refine k_exit rfl ?_
          exact k_stop ⟨(s18, x18, x19), trivial, ⟨rfl, rfl, trivial⟩, ⟨rfl, hE16, h13_0, h15_0, h⟩⟩
      · -- behind
        rintro ⟨s74, x15, x16⟩ wL ⟨rfl, hE16, h13_0, h15_0, h⟩
        rw [hK16] at h
        have szs74 := hE16.size
        have hS : Step K0 s s74 := hS.comp hE16 (by intro l hl hk; simp only [KC, KO, KU, K0] at hk ⊢; omega)
        refine k_seq ?_
        refine k_region ?_
        refine k_move rfl rfl ?_
        obtain ⟨x35, hx35, h⟩ := ob h
        refine k_call cal22 rfl (code_Reader_End_w  h13_0 hx35) rfl ?_
        rintro s75 vr75 st75 ⟨rfl, h13_0⟩
        have szs75 := st75.size
        have hS : Step K0 s s75 := hS.comp st75 (by intro l hl hk; simp only [KC, KO, KU, K0] at hk ⊢; omega)
        refine k_eql rfl rfl rfl ?_
        refine k_move rfl rfl ?_
        obtain ⟨x36, hx36, h⟩ := ob h
        have hE76 : Step K0 s75 s75 := (Step.refl _).of0 (by first | exact fun _ h => h | (intro c h; simp [KC, KO, KU] at h <;> omega))
        refine k_cutl (X := St) 2 [(4, .bool false), (8, v13_0), (155, v13_0), (156, .int .i64 x35.1), (157, .bool (decide (x35.1 = 0)))] (fun _ => [(160, .bool x36)]) (fun sl wL => sl.w = wL ∧ Step K0 s75 sl) ?_ ?_
        · -- the ways
          refine k_again 158 rfl ?_
          refine k_split (fun c77 => ?_) (fun c77 => ?_)
          · -- t158 True
            have hx36 := itT hx36 c77
            refine k_yes rfl rfl ?_
            obtain ⟨x37, hx37, hx36⟩ := ob hx36
            obtain rfl := Option.some.inj (show some true = some x37 from hx37)
            refine k_call cal9 rfl (law02_awake_w   hx37) rfl ?_
            rintro s78 vr78 st78 rfl
            have szs78 := st78.size
            have hS : Step K0 s s78 := hS.trans0 st78
            have hE76 : Step K0 s75 s78 := hE76.trans0 st78
            replace h13_0 := h13_0.up' st78
            refine k_pickT rfl rfl rfl rfl ?_
            exact k_met ⟨s78, ⟨(congrArg (fun b => some (Value.bool b)) (Option.some.inj hx36)), trivial⟩, ⟨rfl, rfl, rfl, rfl, rfl, trivial⟩, rfl, hE76⟩
          · -- t158 False
            have hx36 := itF hx36 c77
            refine k_no rfl rfl rfl rfl ?_
            refine k_pickF rfl rfl rfl rfl ?_
            exact k_met ⟨s75, ⟨(congrArg (fun b => some (Value.bool b)) (Option.some.inj hx36)), trivial⟩, ⟨rfl, rfl, rfl, rfl, rfl, trivial⟩, rfl, hE76⟩
        · -- behind
          rintro s79 wL ⟨rfl, hE76⟩
          have szs79 := hE76.size
          have hS : Step K0 s s79 := hS.trans0 hE76
          replace h13_0 := h13_0.up' hE76
          refine k_assign rfl rfl ?_
          refine k_nil ?_
          refine k_keep [(4, _)] ⟨rfl, trivial⟩ ?_
          refine k_ret ?_
          obtain rfl := Option.some.inj h
          refine ⟨_, rfl, Ret.mk hS ?_⟩
          exact rfl

set_option maxHeartbeats 1000000 in
set_option maxRecDepth 100000 in
theorem ref02_Reader_off_w {s : St} {k0 : Nat} {p0 : Value} {a0 : Ref02Reader} {a1 : Int} {a2 : Bool} {r : ((List UInt8) × Ref02Reader)} (ho0 : ORef02Reader s k0 p0 a0) (h : ref02_Reader_off a0 a1 a2 = some r) : Calls Try.prog 53 #[p0, .int .i64 a1, .bool a2] s.w (Ret s (KO k0) (fun s1 v => ∃ (u0 : Value), v = u0 ∧ R s1 u0 (.sl 1 (r.1.map bD)) ∧ ORef02Reader s1 k0 p0 r.2)) := by
  unfold ref02_Reader_off at h
  have le0 := ho0.le
  have ne0 := ho0.ne
  obtain ⟨bo0, rfl⟩ := ho0.ptr
  obtain ⟨wo0_0, hb_o0, hwo0_0⟩ := ho0.at_
  have hS : Step (KO k0) s s := (Step.refl _).of0 (by first | exact fun _ h => h | (intro c h; simp [KC, KO, KU] at h <;> omega))
  refine k_fn (rs := [6]) (args := [.pointer (some ⟨bo0, 0, none⟩), .int .i64 a1, .bool a2]) Try.func53 rfl rfl rfl rfl ?_
  refine k_seq ?_
  refine k_region ?_
  refine k_assign rfl rfl ?_
  refine k_nil ?_
  refine k_seq ?_
  refine k_region ?_
  refine k_move rfl rfl ?_
  refine k_move rfl rfl ?_
  refine k_nilCheck rfl rfl ?_
  refine k_field_addr fld49_1 rfl rfl ?_
  refine k_load_blk one4 rfl hb_o0 rfl rfl ?_
  refine k_move rfl rfl ?_
  have hE1 : Step K0 s s := (Step.refl _).of0 (by first | exact fun _ h => h | (intro c h; simp [KC, KO, KU] at h <;> omega))
  refine k_cutl (X := St) 3 [(0, .pointer (some ⟨bo0, 0, none⟩)), (1, .int .i64 a1), (2, .bool a2), (6, .slice none 0 0), (8, .pointer (some ⟨bo0, 0, none⟩)), (9, .pointer (some ⟨bo0, 0, none⟩)), (10, .pointer (some ⟨bo0, 0, none⟩)), (11, .pointer (some ⟨bo0, 1, none⟩)), (12, .bool a0.Bad)] (fun _ => [(16, .bool (decide ((a0.Bad = true) ∨ ((!a2) = true))))]) (fun sl wL => sl.w = wL ∧ Step K0 s sl) ?_ ?_
  · -- the ways
    refine k_again 13 rfl ?_
    refine k_splitb (fun c2 => ?_) (fun c2 => ?_)
    · -- t13 True
      refine k_no rfl rfl rfl rfl ?_
      refine k_no rfl rfl rfl rfl ?_
      refine k_pickT rfl rfl rfl rfl ?_
      exact k_met ⟨s, ⟨(congrArg (fun b => some (Value.bool b)) (by first | exact decide_eq_decide.2 ⟨Or.inr, fun h => h.resolve_left c2⟩ | exact (decide_eq_true (Or.inl c2)).symm | (simp [c2]; done) | (simp [c2, i64] <;> omega))), trivial⟩, ⟨rfl, rfl, rfl, rfl, rfl, rfl, rfl, rfl, rfl, trivial⟩, rfl, hE1⟩
    · -- t13 False
      refine k_yes rfl rfl ?_
      refine k_move rfl rfl ?_
      refine k_yes rfl rfl ?_
      refine k_not rfl rfl ?_
      refine k_pickF rfl rfl rfl rfl ?_
      exact k_met ⟨s, ⟨(congrArg (fun b => some (Value.bool b)) (by first | exact decide_eq_decide.2 ⟨Or.inr, fun h => h.resolve_left c2⟩ | exact (decide_eq_true (Or.inl c2)).symm | (simp [c2]; done) | (simp [c2, i64] <;> omega))), trivial⟩, ⟨rfl, rfl, rfl, rfl, rfl, rfl, rfl, rfl, rfl, trivial⟩, rfl, hE1⟩
  · -- behind
    rintro s3 wL ⟨rfl, hE1⟩
    have szs3 := hE1.size
    have hS : Step (KO k0) s s3 := hS.trans0 hE1
    replace hwo0_0 := hwo0_0.up' hE1
    replace hb_o0 := hb_o0.up' hE1
    refine k_move rfl rfl ?_
    have hE4 : Step K0 s3 s3 := (Step.refl _).of0 (by first | exact fun _ h => h | (intro c h; simp [KC, KO, KU] at h <;> omega))
    refine k_cutl (X := St) 3 [(0, .pointer (some ⟨bo0, 0, none⟩)), (1, .int .i64 a1), (2, .bool a2), (6, .slice none 0 0), (8, .pointer (some ⟨bo0, 0, none⟩)), (9, .pointer (some ⟨bo0, 0, none⟩)), (10, .pointer (some ⟨bo0, 0, none⟩)), (11, .pointer (some ⟨bo0, 1, none⟩)), (12, .bool a0.Bad), (16, .bool (decide ((a0.Bad = true) ∨ ((!a2) = true))))] (fun _ => [(20, .bool (decide (((a0.Bad = true) ∨ ((!a2) = true)) ∨ (a1 < 0))))]) (fun sl wL => sl.w = wL ∧ Step K0 s3 sl) ?_ ?_
    · -- the ways
      refine k_again 17 rfl ?_
      refine k_split (fun c5 => ?_) (fun c5 => ?_)
      · -- t17 True
        refine k_no rfl rfl rfl rfl ?_
        refine k_no rfl rfl rfl rfl ?_
        refine k_pickT rfl rfl rfl rfl ?_
        exact k_met ⟨s3, ⟨(congrArg (fun b => some (Value.bool b)) (by first | exact decide_eq_decide.2 ⟨Or.inr, fun h => h.resolve_left c5⟩ | exact (decide_eq_true (Or.inl c5)).symm | (simp [c5]; done) | (simp [c5, i64] <;> omega))), trivial⟩, ⟨rfl, rfl, rfl, rfl, rfl, rfl, rfl, rfl, rfl, rfl, trivial⟩, rfl, hE4⟩
      · -- t17 False
        refine k_yes rfl rfl ?_
        refine k_move rfl rfl ?_
        refine k_yes rfl rfl ?_
        refine k_lss rfl rfl rfl ?_
        refine k_pickF rfl rfl rfl rfl ?_
        exact k_met ⟨s3, ⟨(congrArg (fun b => some (Value.bool b)) (by first | exact decide_eq_decide.2 ⟨Or.inr, fun h => h.resolve_left c5⟩ | exact (decide_eq_true (Or.inl c5)).symm | (simp [c5]; done) | (simp [c5, i64] <;> omega))), trivial⟩, ⟨rfl, rfl, rfl, rfl, rfl, rfl, rfl, rfl, rfl, rfl, trivial⟩, rfl, hE4⟩
    · -- behind
      rintro s6 wL ⟨rfl, hE4⟩
      have szs6 := hE4.size
      have hS : Step (KO k0) s s6 := hS.trans0 hE4
      replace hwo0_0 := hwo0_0.up' hE4
      replace hb_o0 := hb_o0.up' hE4
      refine k_move rfl rfl ?_
      have hE7 : Step K0 s6 s6 := (Step.refl _).of0 (by first | exact fun _ h => h | (intro c h; simp [KC, KO, KU] at h <;> omega))
      refine k_cutl (X := St) 8 [(0, .pointer (some ⟨bo0, 0, none⟩)), (1, .int .i64 a1), (2, .bool a2), (6, .slice none 0 0), (8, .pointer (some ⟨bo0, 0, none⟩)), (9, .pointer (some ⟨bo0, 0, none⟩)), (10, .pointer (some ⟨bo0, 0, none⟩)), (11, .pointer (some ⟨bo0, 1, none⟩)), (12, .bool a0.Bad), (16, .bool (decide ((a0.Bad = true) ∨ ((!a2) = true)))), (20, .bool (decide (((a0.Bad = true) ∨ ((!a2) = true)) ∨ (a1 < 0))))] (fun _ => [(29, .bool (decide ((((a0.Bad = true) ∨ ((!a2) = true)) ∨ (a1 < 0)) ∨ ((a0.B.length : Int) < a1))))]) (fun sl wL => sl.w = wL ∧ Step K0 s6 sl) ?_ ?_
      · -- the ways
        refine k_again 21 rfl ?_
        refine k_split (fun c8 => ?_) (fun c8 => ?_)
        · -- t21 True
          refine k_no rfl rfl rfl rfl ?_
          refine k_no rfl rfl rfl rfl ?_
          refine k_no rfl rfl rfl rfl ?_
          refine k_no rfl rfl rfl rfl ?_
          refine k_no rfl rfl rfl rfl ?_
          refine k_no rfl rfl rfl rfl ?_
          refine k_no rfl rfl rfl rfl ?_
          refine k_pickT rfl rfl rfl rfl ?_
          exact k_met ⟨s6, ⟨(congrArg (fun b => some (Value.bool b)) (by first | exact decide_eq_decide.2 ⟨Or.inr, fun h => h.resolve_left c8⟩ | exact (decide_eq_true (Or.inl c8)).symm | (simp [c8]; done) | (simp [c8, i64] <;> omega))), trivial⟩, ⟨rfl, rfl, rfl, rfl, rfl, rfl, rfl, rfl, rfl, rfl, rfl, trivial⟩, rfl, hE7⟩
        · -- t21 False
          refine k_yes rfl rfl ?_
          refine k_move rfl rfl ?_
          refine k_yes rfl rfl ?_
          refine k_move rfl rfl ?_
          refine k_yes rfl rfl ?_
          refine k_nilCheck rfl rfl ?_
          refine k_yes rfl rfl ?_
          refine k_field_addr fld49_0 rfl rfl ?_
          refine k_yes rfl rfl ?_
          refine k_load_blk one27 rfl hb_o0 rfl rfl ?_
          refine k_yes rfl rfl ?_
          refine k_len Try.underlying27 rfl (SL.of_R hwo0_0).hasLen rfl ?_
          refine k_as (v := .int .i64 (a0.B.length : Int)) (by simp only [List.length_map]) ?_
          refine k_yes rfl rfl ?_
          refine k_gtr rfl rfl rfl ?_
          refine k_pickF rfl rfl rfl rfl ?_
          exact k_met ⟨s6, ⟨(congrArg (fun b => some (Value.bool b)) (by first | exact decide_eq_decide.2 ⟨Or.inr, fun h => h.resolve_left c8⟩ | exact (decide_eq_true (Or.inl c8)).symm | (simp [c8]; done) | (simp [c8, i64] <;> omega))), trivial⟩, ⟨rfl, rfl, rfl, rfl, rfl, rfl, rfl, rfl, rfl, rfl, rfl, trivial⟩, rfl, hE7⟩
      · -- behind
        rintro s9 wL ⟨rfl, hE7⟩
        have szs9 := hE7.size
        have hS : Step (KO k0) s s9 := hS.trans0 hE7
        replace hwo0_0 := hwo0_0.up' hE7
        replace hb_o0 := hb_o0.up' hE7
        refine k_nilCheck rfl rfl ?_
        refine k_field_addr fld49_1 rfl rfl ?_
        refine k_store_c (cs' := [wo0_0, .bool (decide ((((a0.Bad = true) ∨ ((!a2) = true)) ∨ (a1 < 0)) ∨ ((a0.B.length : Int) < a1)))]) size4 rfl rfl hb_o0 (by first | (simp; done) | omega | (dsimp only; omega)) (CellsOf.lit rfl rfl) rfl rfl rfl ?_
        intro s10 st10 hb_o0
        have szs10 := st10.size
        have hS : Step (KO k0) s s10 := hS.comp st10 (by intro l hl hk; simp only [KC, KO, KU, K0] at hk ⊢; omega)
        replace hwo0_0 := hwo0_0.up' st10
        refine k_nil ?_
        refine k_keep [(0, _), (1, _), (6, _)] ⟨rfl, rfl, rfl, trivial⟩ ?_
        refine k_seq ?_
        refine k_seq ?_
        refine k_region ?_
        refine k_move rfl rfl ?_
        refine k_nilCheck rfl rfl ?_
        refine k_field_addr fld49_1 rfl rfl ?_
        refine k_load_blk one4 rfl hb_o0 rfl rfl ?_
        refine k_nil ?_
        refine k_keep [(0, _), (1, _), (6, _), (35, _)] ⟨rfl, rfl, rfl, rfl, trivial⟩ ?_
        refine k_cond_dec rfl (fun c11 => ?_) (fun c11 => ?_)
        · -- T
          have h := itT h c11
          refine k_seq ?_
          refine k_region ?_
          refine k_assign rfl rfl ?_
          refine k_nil ?_
          refine k_keep [(0, _), (1, _), (6, _)] ⟨rfl, rfl, rfl, trivial⟩ ?_
          refine k_ret ?_
          obtain rfl := Option.some.inj h
          refine ⟨_, rfl, Ret.mk hS ?_⟩
          exact ⟨_, rfl, (R.of_SL (.inl ⟨rfl, none, 0, rfl, fun _ => rfl⟩)), (ORef02Reader.mk_ (⟨a0.B, decide ((((a0.Bad = true) ∨ ((!a2) = true)) ∨ (a1 < 0)) ∨ ((a0.B.length : Int) < a1))⟩ : Ref02Reader) (by omega) hwo0_0 hb_o0)⟩
        · -- F
          have h := itF h c11
          refine k_skip ?_
          refine k_seq ?_
          refine k_region ?_
          refine k_move rfl rfl ?_
          obtain ⟨x1, hx1, h⟩ := ob h
          refine k_call (vs := [.int .u64 ((0 : UInt64).toNat : Int), .int .i64 a1]) cal41 rfl (ref02_whole_own_w   hx1) rfl ?_
          rintro s12 v12_0 st12 ⟨_, l12_0, rfl, hl12_0, h12_0⟩
          have szs12 := st12.size
          have hS : Step (KO k0) s s12 := hS.trans0 st12
          replace hwo0_0 := hwo0_0.up' st12
          replace hb_o0 := hb_o0.up' st12
          obtain ⟨l12_0, hl12_0, h12_0⟩ := Own.anew 2120 h12_0 hl12_0 szs12
          have lt12_0 := Own.le1 h12_0
          refine k_assign rfl rfl ?_
          refine k_nil ?_
          refine k_keep [(0, _), (1, _), (6, _), (7, _)] ⟨rfl, rfl, rfl, rfl, trivial⟩ ?_
          refine k_seq ?_
          refine k_region ?_
          refine k_move rfl rfl ?_
          refine k_move rfl rfl ?_
          refine k_nilCheck rfl rfl ?_
          refine k_field_addr fld49_0 rfl rfl ?_
          refine k_load_blk one27 rfl hb_o0 rfl rfl ?_
          refine k_copy (ds := x1.map bD) (es := a0.B.map bD) elem27 rfl rfl h12_0 (SL.of_R hwo0_0) rfl ?_
          intro s13 st13 h12_0
          rw [← cpy_map] at h12_0
          have szs13 := st13.size
          have hS : Step (KO k0) s s13 := hS.comp st13 (by intro l hl hk; simp only [KC, KO, KU, K0] at hk ⊢; omega)
          replace hwo0_0 := hwo0_0.up' st13
          replace hb_o0 := hb_o0.up' st13
          refine k_as (v := .int .i64 ((min a0.B.length x1.length : Nat) : Int)) (by simp only [List.length_map]) ?_
          refine k_nil ?_
          refine k_keep [(0, _), (1, _), (6, _), (7, _)] ⟨rfl, rfl, rfl, rfl, trivial⟩ ?_
          refine k_seq ?_
          refine k_region ?_
          refine k_move rfl rfl ?_
          refine k_move rfl rfl ?_
          refine k_nilCheck rfl rfl ?_
          refine k_field_addr fld49_0 rfl rfl ?_
          refine k_load_blk one27 rfl hb_o0 rfl rfl ?_
          refine k_move rfl rfl ?_
          obtain ⟨x2, hx2, h⟩ := ob h
          refine k_cut_sl (i := (a1 : Int).toNat) (j := ((a0.B.length : Int) : Int).toNat) Try.underlying27 size5 rfl (SL.of_R hwo0_0) (CutAt.int rfl (subl_out hx2).1) (CutAt.len (by rw [List.length_map]; rfl)) (subl_ij hx2) (by rw [List.length_map]; exact subl_j hx2) rfl ?_
          intro vx2 hcx2
          rw [← List.map_drop, ← List.map_take, ← (subl_out hx2).2.2.2] at hcx2
          have hcx2 := R.of_SL hcx2
          refine k_nilCheck rfl rfl ?_
          refine k_field_addr fld49_0 rfl rfl ?_
          refine k_store_c (cs' := [vx2, .bool (decide ((((a0.Bad = true) ∨ ((!a2) = true)) ∨ (a1 < 0)) ∨ ((a0.B.length : Int) < a1)))]) size27 rfl rfl hb_o0 (by first | (simp; done) | omega | (dsimp only; omega)) (CellsOf.sl (SL.of_R hcx2)) rfl rfl rfl ?_
          intro s14 st14 hb_o0
          have szs14 := st14.size
          have hS : Step (KO k0) s s14 := hS.comp st14 (by intro l hl hk; simp only [KC, KO, KU, K0] at hk ⊢; omega)
          replace hwo0_0 := hwo0_0.up' st14
          replace hcx2 := hcx2.up' st14
          replace h12_0 := h12_0.up' st14
          refine k_nil ?_
          refine k_keep [(6, _), (7, _)] ⟨rfl, rfl, trivial⟩ ?_
          refine k_seq ?_
          refine k_region ?_
          refine k_move rfl rfl ?_
          refine k_assign rfl rfl ?_
          refine k_nil ?_
          refine k_keep [(6, _)] ⟨rfl, trivial⟩ ?_
          refine k_ret ?_
          obtain ⟨s15, e15, st15, h15⟩ := h12_0.freeze
          rw [← e15]
          have szs15 := st15.size
          have hS : Step (KO k0) s s15 := hS.comp st15 (by intro l hl hk; simp only [KC, KO, KU, K0] at hk ⊢; omega)
          replace hcx2 := hcx2.up' st15
          replace hb_o0 := hb_o0.up' st15
          obtain rfl := Option.some.inj h
          refine ⟨_, rfl, Ret.mk hS ?_⟩
          exact ⟨_, rfl, h15, (ORef02Reader.mk_ (⟨x2, decide ((((a0.Bad = true) ∨ ((!a2) = true)) ∨ (a1 < 0)) ∨ ((a0.B.length : Int) < a1))⟩ : Ref02Reader) (by omega) hcx2 hb_o0)⟩

set_option maxHeartbeats 1000000 in
set_option maxRecDepth 100000 in
theorem ref02_sum_w {s : St} {v0 : Value} {a0 : (List UInt8)} {r : UInt64} (hp0 : R s v0 (.sl 1 (a0.map bD))) (h : ref02_sum a0 = some r) : Calls Try.prog 58 #[v0] s.w (Ret s K0 (fun s1 v => v = .int .u64 (r.toNat : Int))) := by
  unfold ref02_sum at h
  have hS : Step K0 s s := (Step.refl _).of0 (by first | exact fun _ h => h | (intro c h; simp [KC, KO, KU] at h <;> omega))
  refine k_fn (rs := [2]) (args := [v0]) Try.func58 rfl rfl rfl rfl ?_
  refine k_seq ?_
  refine k_region ?_
  refine k_assign rfl rfl ?_
  refine k_nil ?_
  refine k_seq ?_
  refine k_region ?_
  refine k_assign rfl rfl ?_
  refine k_nil ?_
  refine k_seq ?_
  obtain ⟨kj1, hK1, h⟩ := jn_out h
  have hE1 : Step K0 s s := (Step.refl _).of0 (by first | exact fun _ h => h | (intro c h; simp [KC, KO, KU] at h <;> omega))
  refine k_cutc (X := St × UInt64) [(2, .int .u64 0)] (fun (xL : St × UInt64) => match xL with | (sl, x2) => [(3, .int .u64 (x2.toNat : Int))]) (fun (xL : St × UInt64) (wL : World) => match xL with | (sl, x2) => sl.w = wL ∧ Step K0 s sl ∧ kj1 x2 = some r) ?_ ?_
  · -- the ways
    refine k_block ?_
    refine k_loopc (X := St × (List UInt8) × Value × UInt64 × Nat) [(2, _)] (fun (xL : St × (List UInt8) × Value × UInt64 × Nat) => match xL with | (sl, x3, v3, x4, j) => [(0, v3), (3, .int .u64 (x4.toNat : Int))]) (fun (xL : St × (List UInt8) × Value × UInt64 × Nat) (wL : World) => match xL with | (sl, x3, v3, x4, j) => sl.w = wL ∧ Step K0 s sl ∧ (R sl v3 (.sl 1 (x3.map bD))) ∧ ref02_sum_l1 kj1 j x3 x4 = some r) (fun (xL : St × (List UInt8) × Value × UInt64 × Nat) => match xL with | (sl, x3, v3, x4, j) => j) (s, a0, v0, (0 : UInt64), FU) ⟨rfl, trivial⟩ ⟨(by first | rfl | (simp <;> rfl)), (by first | rfl | (simp <;> rfl)), trivial⟩ ⟨rfl, (Step.refl _).of0 (by first | exact fun _ h => h | (intro c h; simp [KC, KO, KU] at h <;> omega)), hp0, h⟩ ?_
    rintro ⟨s4, x3, v3, x4, j⟩ wL ⟨rfl, hE2, h3, h⟩
    cases j with
    | zero => rw [ref02_sum_l1] at h; exact (noneNe h).elim
    | succ j =>
    rw [ref02_sum_l1] at h
    have szs4 := hE2.size
    have hS : Step K0 s s4 := hS.trans0 hE2
    have hE1 : Step K0 s s4 := hE1.trans0 hE2
    refine k_seq ?_
    refine k_seq ?_
    refine k_region ?_
    refine k_move rfl rfl ?_
    refine k_len Try.underlying27 rfl (SL.of_R h3).hasLen rfl ?_
    refine k_as (v := .int .i64 (x3.length : Int)) (by simp only [List.length_map]) ?_
    refine k_gtr rfl rfl rfl ?_
    refine k_nil ?_
    refine k_keep [(0, _), (2, _), (3, _), (6, _)] ⟨rfl, rfl, rfl, rfl, trivial⟩ ?_
    refine k_cond_dec rfl (fun c5 => ?_) (fun c5 => ?_)
    · -- T
      have h := itT h c5
      refine k_skip ?_
      refine k_block ?_
      refine k_seq ?_
      refine k_region ?_
      refine k_move rfl rfl ?_
      refine k_shl rfl rfl (by decide) rfl ?_
      refine k_as (congrArg (Value.int .u64) (w64 _)) ?_
      refine k_move rfl rfl ?_
      obtain ⟨x5, hx5, h⟩ := ob h
      refine k_ixaddr Try.underlying27 size5 rfl rfl (SL.of_R h3) (geti_out hx5).1 (geti_map hx5) rfl ?_
      intro qx5 hqx5
      refine k_load_val one5 rfl hqx5 rfl ?_
      refine k_conv (p := (x5.toNat : Int)) Try.underlying5 Try.underlying29 rfl rfl ?_
      refine k_as (congrArg (Value.int .u64) (w64 _)) ?_
      refine k_bits (p := ((ofI64 ((x4.toNat : Int) * 2 ^ (min (8 : Int).toNat 64))).toNat : Int)) (q := ((ofI64 (x5.toNat : Int)).toNat : Int)) (.inr (.inl ⟨rfl, rfl⟩)) rfl rfl rfl ?_
      refine k_as (congrArg (Value.int .u64) (or64 _ _)) ?_
      refine k_assign rfl rfl ?_
      refine k_nil ?_
      refine k_keep [(0, _), (2, _), (3, _)] ⟨rfl, rfl, rfl, trivial⟩ ?_
      refine k_region ?_
      refine k_move rfl rfl ?_
      obtain ⟨x6, hx6, h⟩ := ob h
      refine k_cut_sl (i := (1 : Int).toNat) (j := ((x3.length : Int) : Int).toNat) Try.underlying27 size5 rfl (SL.of_R h3) (CutAt.int rfl (subl_out hx6).1) (CutAt.len (by rw [List.length_map]; rfl)) (subl_ij hx6) (by rw [List.length_map]; exact subl_j hx6) rfl ?_
      intro vx6 hcx6
      rw [← List.map_drop, ← List.map_take, ← (subl_out hx6).2.2.2] at hcx6
      have hcx6 := R.of_SL hcx6
      refine k_assign rfl rfl ?_
      refine k_nil ?_
      refine k_blk ?_
      exact k_stop ⟨(s4, x6, vx6, (ofI64 ((x4.toNat : Int) * 2 ^ (min (8 : Int).toNat 64))) ||| (ofI64 (x5.toNat : Int)), j), ⟨(by first | rfl | (simp <;> rfl)), (by first | rfl | (simp <;> rfl)), trivial⟩, ⟨rfl, trivial⟩, ⟨rfl, hE2, hcx6, h⟩, (by simp)⟩
    · -- F
      have h := itF h c5
      refine k_exit rfl ?_
      exact k_stop ⟨(s4, x4), ⟨(by first | rfl | (simp <;> rfl)), trivial⟩, ⟨rfl, trivial⟩, ⟨rfl, hE1, h⟩⟩
  · -- behind
    rintro ⟨s6, x2⟩ wL ⟨rfl, hE1, h⟩
    rw [hK1] at h
    have szs6 := hE1.size
    have hS : Step K0 s s6 := hS.trans0 hE1
    refine k_seq ?_
    refine k_region ?_
    refine k_move rfl rfl ?_
    refine k_assign rfl rfl ?_
    refine k_nil ?_
    refine k_keep [(2, _)] ⟨rfl, trivial⟩ ?_
    refine k_ret ?_
    obtain rfl := Option.some.inj h
    refine ⟨_, rfl, Ret.mk hS ?_⟩
    exact rfl

set_option maxHeartbeats 1000000 in
set_option maxRecDepth 100000 in
theorem ref02_Reader_Wide_w {s : St} {k0 : Nat} {p0 : Value} {a0 : Ref02Reader} {a1 : Int} {r : (UInt64 × Ref02Reader)} (ho0 : ORef02Reader s k0 p0 a0) (h : ref02_Reader_Wide a0 a1 = some r) : Calls Try.prog 49 #[p0, .int .i64 a1] s.w (Ret s (KO k0) (fun s1 v => v = .int .u64 (r.1.toNat : Int) ∧ ORef02Reader s1 k0 p0 r.2)) := by
  unfold ref02_Reader_Wide at h
  have le0 := ho0.le
  have ne0 := ho0.ne
  have hS : Step (KO k0) s s := (Step.refl _).of0 (by first | exact fun _ h => h | (intro c h; simp [KC, KO, KU] at h <;> omega))
  refine k_fn (rs := [4]) (args := [p0, .int .i64 a1]) Try.func49 rfl rfl rfl rfl ?_
  refine k_seq ?_
  refine k_region ?_
  refine k_assign rfl rfl ?_
  refine k_nil ?_
  refine k_seq ?_
  refine k_region ?_
  refine k_move rfl rfl ?_
  refine k_move rfl rfl ?_
  obtain ⟨x1, hx1, h⟩ := ob h
  refine k_call cal53 rfl (ref02_Reader_off_w  ho0 hx1) rfl ?_
  rintro s1 v1_0 st1 ⟨_, rfl, h1_0, ho0⟩
  have szs1 := st1.size
  have hS : Step (KO k0) s s1 := hS.comp st1 (by intro l hl hk; simp only [KC, KO, KU, K0] at hk ⊢; omega)
  obtain ⟨x2, hx2, h⟩ := ob h
  refine k_call cal58 rfl (ref02_sum_w  (show R s1 v1_0 (.sl 1 (x1.1.map bD)) from h1_0) hx2) rfl ?_
  rintro s2 vr2 st2 rfl
  have szs2 := st2.size
  have hS : Step (KO k0) s s2 := hS.trans0 st2
  replace h1_0 := h1_0.up' st2
  replace ho0 := ho0.up' st2
  refine k_assign rfl rfl ?_
  refine k_nil ?_
  refine k_keep [(4, _)] ⟨rfl, trivial⟩ ?_
  refine k_ret ?_
  obtain rfl := Option.some.inj h
  refine ⟨_, rfl, Ret.mk hS ?_⟩
  exact ⟨rfl, ho0⟩

set_option maxHeartbeats 1000000 in
set_option maxRecDepth 100000 in
theorem ref02_Reader_ahead_w {s : St} {k0 : Nat} {p0 : Value} {a0 : Ref02Reader} {r : (Int × UInt64)} (ho0 : ORef02Reader s k0 p0 a0) (h : ref02_Reader_ahead a0 = some r) : Calls Try.prog 59 #[p0] s.w (Ret s K0 (fun s1 v => v = .tuple #[.int .i64 r.1, .int .u64 (r.2.toNat : Int)])) := by
  unfold ref02_Reader_ahead at h
  have le0 := ho0.le
  have ne0 := ho0.ne
  obtain ⟨bo0, rfl⟩ := ho0.ptr
  obtain ⟨wo0_0, hb_o0, hwo0_0⟩ := ho0.at_
  have hS : Step K0 s s := (Step.refl _).of0 (by first | exact fun _ h => h | (intro c h; simp [KC, KO, KU] at h <;> omega))
  refine k_fn (rs := [2, 3]) (args := [.pointer (some ⟨bo0, 0, none⟩)]) Try.func59 rfl rfl rfl rfl ?_
  refine k_seq ?_
  refine k_region ?_
  refine k_assign rfl rfl ?_
  refine k_assign rfl rfl ?_
  refine k_nil ?_
  refine k_seq ?_
  refine k_region ?_
  refine k_assign rfl rfl ?_
  refine k_nil ?_
  refine k_seq ?_
  obtain ⟨kj1, hK1, h⟩ := jn_out h
  have hE1 : Step K0 s s := (Step.refl _).of0 (by first | exact fun _ h => h | (intro c h; simp [KC, KO, KU] at h <;> omega))
  refine k_cutc (X := St × Int) [(0, .pointer (some ⟨bo0, 0, none⟩)), (2, .int .i64 0), (3, .int .u64 0)] (fun (xL : St × Int) => match xL with | (sl, x2) => [(4, .int .i64 x2)]) (fun (xL : St × Int) (wL : World) => match xL with | (sl, x2) => sl.w = wL ∧ Step K0 s sl ∧ kj1 x2 = some r) ?_ ?_
  · -- the ways
    refine k_seq ?_
    refine k_region ?_
    refine k_move rfl rfl ?_
    refine k_nilCheck rfl rfl ?_
    refine k_field_addr fld49_0 rfl rfl ?_
    refine k_load_blk one27 rfl hb_o0 rfl rfl ?_
    refine k_len Try.underlying27 rfl (SL.of_R hwo0_0).hasLen rfl ?_
    refine k_as (v := .int .i64 (a0.B.length : Int)) (by simp only [List.length_map]) ?_
    refine k_gtr rfl rfl rfl ?_
    refine k_nil ?_
    refine k_keep [(0, _), (2, _), (3, _), (4, _), (11, _)] ⟨rfl, rfl, rfl, rfl, rfl, trivial⟩ ?_
    refine k_cond_dec rfl (fun c2 => ?_) (fun c2 => ?_)
    · -- T
      have h := itT h c2
      refine k_region ?_
      refine k_move rfl rfl ?_
      refine k_nilCheck rfl rfl ?_
      refine k_field_addr fld49_0 rfl rfl ?_
      refine k_load_blk one27 rfl hb_o0 rfl rfl ?_
      obtain ⟨x3, hx3, h⟩ := ob h
      refine k_ixaddr Try.underlying27 size5 rfl rfl (SL.of_R hwo0_0) (geti_out hx3).1 (geti_map hx3) rfl ?_
      intro qx3 hqx3
      refine k_load_val one5 rfl hqx3 rfl ?_
      refine k_conv (p := (x3.toNat : Int)) Try.underlying5 Try.underlying3 rfl rfl ?_
      refine k_as (congrArg (Value.int .i64) (i64_b8 _)) ?_
      refine k_sub_ rfl rfl rfl ?_
      refine k_max2 rfl rfl rfl ?_
      refine k_add rfl rfl rfl ?_
      refine k_assign rfl rfl ?_
      refine k_nil ?_
      exact k_stop ⟨(s, i64 (1 + (max 0 (i64 ((x3.toNat : Int) - 247))))), ⟨(by first | rfl | (simp <;> rfl)), trivial⟩, ⟨rfl, rfl, rfl, trivial⟩, ⟨rfl, hE1, h⟩⟩
    · -- F
      have h := itF h c2
      refine k_skip ?_
      exact k_stop ⟨(s, 0), ⟨(by first | rfl | (simp <;> rfl)), trivial⟩, ⟨rfl, rfl, rfl, trivial⟩, ⟨rfl, hE1, h⟩⟩
  · -- behind
    rintro ⟨s3, x2⟩ wL ⟨rfl, hE1, h⟩
    rw [hK1] at h
    have szs3 := hE1.size
    have hS : Step K0 s s3 := hS.trans0 hE1
    replace hwo0_0 := hwo0_0.up' hE1
    replace hb_o0 := hb_o0.up' hE1
    refine k_seq ?_
    refine k_seq ?_
    refine k_region ?_
    refine k_move rfl rfl ?_
    refine k_lss rfl rfl rfl ?_
    refine k_move rfl rfl ?_
    have hE4 : Step K0 s3 s3 := (Step.refl _).of0 (by first | exact fun _ h => h | (intro c h; simp [KC, KO, KU] at h <;> omega))
    refine k_cutl (X := St) 8 [(0, .pointer (some ⟨bo0, 0, none⟩)), (2, .int .i64 0), (3, .int .u64 0), (4, .int .i64 x2), (22, .int .i64 x2), (23, .bool (decide (x2 < 1)))] (fun _ => [(32, .bool (decide ((x2 < 1) ∨ ((a0.B.length : Int) < x2))))]) (fun sl wL => sl.w = wL ∧ Step K0 s3 sl) ?_ ?_
    · -- the ways
      refine k_again 24 rfl ?_
      refine k_split (fun c5 => ?_) (fun c5 => ?_)
      · -- t24 True
        refine k_no rfl rfl rfl rfl ?_
        refine k_no rfl rfl rfl rfl ?_
        refine k_no rfl rfl rfl rfl ?_
        refine k_no rfl rfl rfl rfl ?_
        refine k_no rfl rfl rfl rfl ?_
        refine k_no rfl rfl rfl rfl ?_
        refine k_no rfl rfl rfl rfl ?_
        refine k_pickT rfl rfl rfl rfl ?_
        exact k_met ⟨s3, ⟨(congrArg (fun b => some (Value.bool b)) (by first | exact decide_eq_decide.2 ⟨Or.inr, fun h => h.resolve_left c5⟩ | exact (decide_eq_true (Or.inl c5)).symm | (simp [c5]; done) | (simp [c5, i64] <;> omega))), trivial⟩, ⟨rfl, rfl, rfl, rfl, rfl, rfl, trivial⟩, rfl, hE4⟩
      · -- t24 False
        refine k_yes rfl rfl ?_
        refine k_move rfl rfl ?_
        refine k_yes rfl rfl ?_
        refine k_move rfl rfl ?_
        refine k_yes rfl rfl ?_
        refine k_nilCheck rfl rfl ?_
        refine k_yes rfl rfl ?_
        refine k_field_addr fld49_0 rfl rfl ?_
        refine k_yes rfl rfl ?_
        refine k_load_blk one27 rfl hb_o0 rfl rfl ?_
        refine k_yes rfl rfl ?_
        refine k_len Try.underlying27 rfl (SL.of_R hwo0_0).hasLen rfl ?_
        refine k_as (v := .int .i64 (a0.B.length : Int)) (by simp only [List.length_map]) ?_
        refine k_yes rfl rfl ?_
        refine k_gtr rfl rfl rfl ?_
        refine k_pickF rfl rfl rfl rfl ?_
        exact k_met ⟨s3, ⟨(congrArg (fun b => some (Value.bool b)) (by first | exact decide_eq_decide.2 ⟨Or.inr, fun h => h.resolve_left c5⟩ | exact (decide_eq_true (Or.inl c5)).symm | (simp [c5]; done) | (simp [c5, i64] <;> omega))), trivial⟩, ⟨rfl, rfl, rfl, rfl, rfl, rfl, trivial⟩, rfl, hE4⟩
    · -- behind
      rintro s6 wL ⟨rfl, hE4⟩
      have szs6 := hE4.size
      have hS : Step K0 s s6 := hS.trans0 hE4
      replace hwo0_0 := hwo0_0.up' hE4
      replace hb_o0 := hb_o0.up' hE4
      refine k_nil ?_
      refine k_keep [(0, _), (2, _), (3, _), (4, _), (32, _)] ⟨rfl, rfl, rfl, rfl, rfl, trivial⟩ ?_
      refine k_cond_dec rfl (fun c7 => ?_) (fun c7 => ?_)
      · -- T
        have h := itT h c7
        refine k_seq ?_
        refine k_region ?_
        refine k_assign rfl rfl ?_
        refine k_assign rfl rfl ?_
        refine k_nil ?_
        refine k_keep [(0, _), (2, _), (3, _), (4, _)] ⟨rfl, rfl, rfl, rfl, trivial⟩ ?_
        refine k_ret ?_
        obtain rfl := Option.some.inj h
        refine ⟨_, rfl, Ret.mk hS ?_⟩
        exact rfl
      · -- F
        have h := itF h c7
        refine k_skip ?_
        refine k_seq ?_
        refine k_seq ?_
        refine k_region ?_
        refine k_move rfl rfl ?_
        refine k_eql rfl rfl rfl ?_
        refine k_nil ?_
        refine k_keep [(0, _), (2, _), (3, _), (4, _), (34, _)] ⟨rfl, rfl, rfl, rfl, rfl, trivial⟩ ?_
        refine k_cond_dec rfl (fun c8 => ?_) (fun c8 => ?_)
        · -- T
          have h := itT h c8
          refine k_seq ?_
          refine k_keep [(0, _), (4, _)] ⟨rfl, rfl, trivial⟩ ?_
          refine k_draw K0 8 [(false, 0), (false, 1), (false, 2), (false, 3), (false, 4), (false, 5), (false, 6), (false, 7)] mixed (fun _ h => h) rfl rfl ?_
          intro s9 st9
          have szs9 := st9.size
          have hS : Step K0 s s9 := hS.trans0 st9
          replace hwo0_0 := hwo0_0.up' st9
          replace hb_o0 := hb_o0.up' st9
          refine rd_read (.pointer (some ⟨bo0, 0, none⟩)) rfl rfl (fun s10 st10 => ?_) ?_
          · try replace hwo0_0 := hwo0_0.up' st10
            try replace hb_o0 := hb_o0.up' st10
            refine k_move rfl rfl ?_
            exact fq_end
          refine rd_read (.pointer (some ⟨bo0, 0, none⟩)) rfl rfl (fun s11 st11 => ?_) ?_
          · try replace hwo0_0 := hwo0_0.up' st11
            try replace hb_o0 := hb_o0.up' st11
            refine k_nilCheck rfl rfl ?_
            exact fq_end
          refine rd_read (.pointer (some ⟨bo0, 0, none⟩)) rfl rfl (fun s12 st12 => ?_) ?_
          · try replace hwo0_0 := hwo0_0.up' st12
            try replace hb_o0 := hb_o0.up' st12
            refine k_field_addr fld49_0 rfl rfl ?_
            exact fq_end
          refine rd_read (wo0_0) rfl rfl (fun s13 st13 => ?_) ?_
          · try replace hwo0_0 := hwo0_0.up' st13
            try replace hb_o0 := hb_o0.up' st13
            refine k_load_blk one27 rfl hb_o0 rfl rfl ?_
            exact fq_end
          obtain ⟨x4, hx4, h⟩ := ob h
          refine rd_ix rfl (wanted_none rfl) Try.underlying27 size5 rfl rfl (SL.of_R hwo0_0) (geti_out hx4).1 (geti_map hx4) rfl ?_
          intro qx4 hqx4
          refine rd_read (.int .u8 (x4.toNat : Int)) rfl rfl (fun s14 st14 => ?_) ?_
          · try replace hwo0_0 := hwo0_0.up' st14
            try replace hqx4 := hqx4.up' st14
            try replace hb_o0 := hb_o0.up' st14
            refine k_load_val one5 rfl hqx4 rfl ?_
            exact fq_end
          refine rd_read (.int .u64 ((ofI64 (x4.toNat : Int)).toNat : Int)) rfl rfl (fun s15 st15 => ?_) ?_
          · try replace hwo0_0 := hwo0_0.up' st15
            try replace hqx4 := hqx4.up' st15
            try replace hb_o0 := hb_o0.up' st15
            refine k_conv (p := (x4.toNat : Int)) Try.underlying5 Try.underlying29 rfl rfl ?_
            refine k_as (congrArg (Value.int .u64) (w64 _)) ?_
            exact fq_end
          refine rd_read (.int .i64 1) rfl rfl (fun s16 st16 => ?_) ?_
          · try replace hwo0_0 := hwo0_0.up' st16
            try replace hqx4 := hqx4.up' st16
            try replace hb_o0 := hb_o0.up' st16
            refine k_assign rfl rfl ?_
            exact fq_end
          refine rd_nil ?_
          refine k_assign rfl rfl ?_
          refine k_nil ?_
          refine k_keep [(0, _), (2, _), (3, _), (4, _)] ⟨rfl, rfl, rfl, rfl, trivial⟩ ?_
          refine k_ret ?_
          obtain rfl := Option.some.inj h
          refine ⟨_, rfl, Ret.mk hS ?_⟩
          exact rfl
        · -- F
          have h := itF h c8
          refine k_skip ?_
          refine k_seq ?_
          refine k_region ?_
          refine k_move rfl rfl ?_
          refine k_nilCheck rfl rfl ?_
          refine k_field_addr fld49_0 rfl rfl ?_
          refine k_load_blk one27 rfl hb_o0 rfl rfl ?_
          refine k_move rfl rfl ?_
          obtain ⟨x5, hx5, h⟩ := ob h
          refine k_cut_sl (i := (1 : Int).toNat) (j := (x2 : Int).toNat) Try.underlying27 size5 rfl (SL.of_R hwo0_0) (CutAt.int rfl (subl_out hx5).1) (CutAt.int rfl (Int.le_trans (subl_out hx5).1 (subl_out hx5).2.1)) (subl_ij hx5) (by rw [List.length_map]; exact subl_j hx5) rfl ?_
          intro vx5 hcx5
          rw [← List.map_drop, ← List.map_take, ← (subl_out hx5).2.2.2] at hcx5
          have hcx5 := R.of_SL hcx5
          obtain ⟨x6, hx6, h⟩ := ob h
          refine k_call cal58 rfl (ref02_sum_w  (show R s6 vx5 (.sl 1 (x5.map bD)) from hcx5) hx6) rfl ?_
          rintro s17 vr17 st17 rfl
          have szs17 := st17.size
          have hS : Step K0 s s17 := hS.trans0 st17
          replace hwo0_0 := hwo0_0.up' st17
          replace hcx5 := hcx5.up' st17
          replace hb_o0 := hb_o0.up' st17
          refine k_assign rfl rfl ?_
          refine k_nil ?_
          refine k_keep [(2, _), (3, _), (4, _), (5, _)] ⟨rfl, rfl, rfl, rfl, trivial⟩ ?_
          refine k_seq ?_
          refine k_seq ?_
          refine k_region ?_
          refine k_move rfl rfl ?_
          refine k_lss rfl rfl rfl ?_
          refine k_move rfl rfl ?_
          obtain ⟨x7, hx7, h⟩ := ob h
          have hE18 : Step K0 s17 s17 := (Step.refl _).of0 (by first | exact fun _ h => h | (intro c h; simp [KC, KO, KU] at h <;> omega))
          refine k_cutl (X := St) 6 [(2, .int .i64 0), (3, .int .u64 0), (4, .int .i64 x2), (5, .int .u64 (x6.toNat : Int)), (49, .int .u64 (x6.toNat : Int)), (50, .bool (decide ((x6.toNat : Int) < 248)))] (fun _ => [(57, .bool x7)]) (fun sl wL => sl.w = wL ∧ Step K0 s17 sl) ?_ ?_
          · -- the ways
            refine k_again 51 rfl ?_
            refine k_split (fun c19 => ?_) (fun c19 => ?_)
            · -- t51 True
              have hx7 := itT hx7 c19
              refine k_no rfl rfl rfl rfl ?_
              refine k_no rfl rfl rfl rfl ?_
              refine k_no rfl rfl rfl rfl ?_
              refine k_no rfl rfl rfl rfl ?_
              refine k_no rfl rfl rfl rfl ?_
              refine k_pickT rfl rfl rfl rfl ?_
              exact k_met ⟨s17, ⟨(congrArg (fun b => some (Value.bool b)) (Option.some.inj hx7)), trivial⟩, ⟨rfl, rfl, rfl, rfl, rfl, rfl, trivial⟩, rfl, hE18⟩
            · -- t51 False
              have hx7 := itF hx7 c19
              refine k_yes rfl rfl ?_
              refine k_move rfl rfl ?_
              refine k_yes rfl rfl ?_
              obtain ⟨x8, hx8, hx7⟩ := ob hx7
              refine k_call cal42 rfl (ref02_needs_w   hx8) rfl ?_
              rintro s20 vr20 st20 rfl
              have szs20 := st20.size
              have hS : Step K0 s s20 := hS.trans0 st20
              have hE18 : Step K0 s17 s20 := hE18.trans0 st20
              replace hwo0_0 := hwo0_0.up' st20
              replace hb_o0 := hb_o0.up' st20
              refine k_yes rfl rfl ?_
              refine k_move rfl rfl ?_
              refine k_yes rfl rfl ?_
              refine k_sub_ rfl rfl rfl ?_
              refine k_yes rfl rfl ?_
              refine k_neq rfl rfl rfl ?_
              refine k_pickF rfl rfl rfl rfl ?_
              exact k_met ⟨s20, ⟨(congrArg (fun b => some (Value.bool b)) (Option.some.inj hx7)), trivial⟩, ⟨rfl, rfl, rfl, rfl, rfl, rfl, trivial⟩, rfl, hE18⟩
          · -- behind
            rintro s21 wL ⟨rfl, hE18⟩
            have szs21 := hE18.size
            have hS : Step K0 s s21 := hS.trans0 hE18
            replace hwo0_0 := hwo0_0.up' hE18
            replace hb_o0 := hb_o0.up' hE18
            refine k_nil ?_
            refine k_keep [(2, _), (3, _), (4, _), (5, _), (57, _)] ⟨rfl, rfl, rfl, rfl, rfl, trivial⟩ ?_
            refine k_cond rfl (fun c22 => ?_) (fun c22 => ?_)
            · -- T
              have h := ibT h c22
              refine k_seq ?_
              refine k_region ?_
              refine k_assign rfl rfl ?_
              refine k_assign rfl rfl ?_
              refine k_nil ?_
              refine k_keep [(2, _), (3, _), (4, _), (5, _)] ⟨rfl, rfl, rfl, rfl, trivial⟩ ?_
              refine k_ret ?_
              obtain rfl := Option.some.inj h
              refine ⟨_, rfl, Ret.mk hS ?_⟩
              exact rfl
            · -- F
              have h := ibF h c22
              refine k_skip ?_
              refine k_seq ?_
              refine k_region ?_
              refine k_move rfl rfl ?_
              refine k_move rfl rfl ?_
              refine k_assign rfl rfl ?_
              refine k_assign rfl rfl ?_
              refine k_nil ?_
              refine k_keep [(2, _), (3, _)] ⟨rfl, rfl, trivial⟩ ?_
              refine k_ret ?_
              obtain rfl := Option.some.inj h
              refine ⟨_, rfl, Ret.mk hS ?_⟩
              exact rfl

set_option maxHeartbeats 1000000 in
set_option maxRecDepth 100000 in
theorem ref02_Reader_off_nt_w {s : St} {k0 : Nat} {p0 : Value} {a0 : Ref02Reader} {a1 : Int} {a2 : Bool} {r : ((List UInt8) × Ref02Reader)} (ho0 : ORef02Reader s k0 p0 a0) (h : ref02_Reader_off_nt a0 a1 a2 = some r) : Calls Try.prog 53 #[p0, .int .i64 a1, .bool a2] s.w (Ret s (KO k0) (fun s1 v => ∃ (u0 : Value), v = u0 ∧ R s1 u0 (.sl 1 (r.1.map bD)) ∧ (r.1 = [] → u0 = .slice none 0 0) ∧ ORef02Reader s1 k0 p0 r.2)) := by
  unfold ref02_Reader_off_nt at h
  have le0 := ho0.le
  have ne0 := ho0.ne
  obtain ⟨bo0, rfl⟩ := ho0.ptr
  obtain ⟨wo0_0, hb_o0, hwo0_0⟩ := ho0.at_
  have hS : Step (KO k0) s s := (Step.refl _).of0 (by first | exact fun _ h => h | (intro c h; simp [KC, KO, KU] at h <;> omega))
  refine k_fn (rs := [6]) (args := [.pointer (some ⟨bo0, 0, none⟩), .int .i64 a1, .bool a2]) Try.func53 rfl rfl rfl rfl ?_
  refine k_seq ?_
  refine k_region ?_
  refine k_assign rfl rfl ?_
  refine k_nil ?_
  refine k_seq ?_
  refine k_region ?_
  refine k_move rfl rfl ?_
  refine k_move rfl rfl ?_
  refine k_nilCheck rfl rfl ?_
  refine k_field_addr fld49_1 rfl rfl ?_
  refine k_load_blk one4 rfl hb_o0 rfl rfl ?_
  refine k_move rfl rfl ?_
  have hE1 : Step K0 s s := (Step.refl _).of0 (by first | exact fun _ h => h | (intro c h; simp [KC, KO, KU] at h <;> omega))
  refine k_cutl (X := St) 3 [(0, .pointer (some ⟨bo0, 0, none⟩)), (1, .int .i64 a1), (2, .bool a2), (6, .slice none 0 0), (8, .pointer (some ⟨bo0, 0, none⟩)), (9, .pointer (some ⟨bo0, 0, none⟩)), (10, .pointer (some ⟨bo0, 0, none⟩)), (11, .pointer (some ⟨bo0, 1, none⟩)), (12, .bool a0.Bad)] (fun _ => [(16, .bool (decide ((a0.Bad = true) ∨ ((!a2) = true))))]) (fun sl wL => sl.w = wL ∧ Step K0 s sl) ?_ ?_
  · -- the ways
    refine k_again 13 rfl ?_
    refine k_splitb (fun c2 => ?_) (fun c2 => ?_)
    · -- t13 True
      refine k_no rfl rfl rfl rfl ?_
      refine k_no rfl rfl rfl rfl ?_
      refine k_pickT rfl rfl rfl rfl ?_
      exact k_met ⟨s, ⟨(congrArg (fun b => some (Value.bool b)) (by first | exact decide_eq_decide.2 ⟨Or.inr, fun h => h.resolve_left c2⟩ | exact (decide_eq_true (Or.inl c2)).symm | (simp [c2]; done) | (simp [c2, i64] <;> omega))), trivial⟩, ⟨rfl, rfl, rfl, rfl, rfl, rfl, rfl, rfl, rfl, trivial⟩, rfl, hE1⟩
    · -- t13 False
      refine k_yes rfl rfl ?_
      refine k_move rfl rfl ?_
      refine k_yes rfl rfl ?_
      refine k_not rfl rfl ?_
      refine k_pickF rfl rfl rfl rfl ?_
      exact k_met ⟨s, ⟨(congrArg (fun b => some (Value.bool b)) (by first | exact decide_eq_decide.2 ⟨Or.inr, fun h => h.resolve_left c2⟩ | exact (decide_eq_true (Or.inl c2)).symm | (simp [c2]; done) | (simp [c2, i64] <;> omega))), trivial⟩, ⟨rfl, rfl, rfl, rfl, rfl, rfl, rfl, rfl, rfl, trivial⟩, rfl, hE1⟩
  · -- behind
    rintro s3 wL ⟨rfl, hE1⟩
    have szs3 := hE1.size
    have hS : Step (KO k0) s s3 := hS.trans0 hE1
    replace hwo0_0 := hwo0_0.up' hE1
    replace hb_o0 := hb_o0.up' hE1
    refine k_move rfl rfl ?_
    have hE4 : Step K0 s3 s3 := (Step.refl _).of0 (by first | exact fun _ h => h | (intro c h; simp [KC, KO, KU] at h <;> omega))
    refine k_cutl (X := St) 3 [(0, .pointer (some ⟨bo0, 0, none⟩)), (1, .int .i64 a1), (2, .bool a2), (6, .slice none 0 0), (8, .pointer (some ⟨bo0, 0, none⟩)), (9, .pointer (some ⟨bo0, 0, none⟩)), (10, .pointer (some ⟨bo0, 0, none⟩)), (11, .pointer (some ⟨bo0, 1, none⟩)), (12, .bool a0.Bad), (16, .bool (decide ((a0.Bad = true) ∨ ((!a2) = true))))] (fun _ => [(20, .bool (decide (((a0.Bad = true) ∨ ((!a2) = true)) ∨ (a1 < 0))))]) (fun sl wL => sl.w = wL ∧ Step K0 s3 sl) ?_ ?_
    · -- the ways
      refine k_again 17 rfl ?_
      refine k_split (fun c5 => ?_) (fun c5 => ?_)
      · -- t17 True
        refine k_no rfl rfl rfl rfl ?_
        refine k_no rfl rfl rfl rfl ?_
        refine k_pickT rfl rfl rfl rfl ?_
        exact k_met ⟨s3, ⟨(congrArg (fun b => some (Value.bool b)) (by first | exact decide_eq_decide.2 ⟨Or.inr, fun h => h.resolve_left c5⟩ | exact (decide_eq_true (Or.inl c5)).symm | (simp [c5]; done) | (simp [c5, i64] <;> omega))), trivial⟩, ⟨rfl, rfl, rfl, rfl, rfl, rfl, rfl, rfl, rfl, rfl, trivial⟩, rfl, hE4⟩
      · -- t17 False
        refine k_yes rfl rfl ?_
        refine k_move rfl rfl ?_
        refine k_yes rfl rfl ?_
        refine k_lss rfl rfl rfl ?_
        refine k_pickF rfl rfl rfl rfl ?_
        exact k_met ⟨s3, ⟨(congrArg (fun b => some (Value.bool b)) (by first | exact decide_eq_decide.2 ⟨Or.inr, fun h => h.resolve_left c5⟩ | exact (decide_eq_true (Or.inl c5)).symm | (simp [c5]; done) | (simp [c5, i64] <;> omega))), trivial⟩, ⟨rfl, rfl, rfl, rfl, rfl, rfl, rfl, rfl, rfl, rfl, trivial⟩, rfl, hE4⟩
    · -- behind
      rintro s6 wL ⟨rfl, hE4⟩
      have szs6 := hE4.size
      have hS : Step (KO k0) s s6 := hS.trans0 hE4
      replace hwo0_0 := hwo0_0.up' hE4
      replace hb_o0 := hb_o0.up' hE4
      refine k_move rfl rfl ?_
      have hE7 : Step K0 s6 s6 := (Step.refl _).of0 (by first | exact fun _ h => h | (intro c h; simp [KC, KO, KU] at h <;> omega))
      refine k_cutl (X := St) 8 [(0, .pointer (some ⟨bo0, 0, none⟩)), (1, .int .i64 a1), (2, .bool a2), (6, .slice none 0 0), (8, .pointer (some ⟨bo0, 0, none⟩)), (9, .pointer (some ⟨bo0, 0, none⟩)), (10, .pointer (some ⟨bo0, 0, none⟩)), (11, .pointer (some ⟨bo0, 1, none⟩)), (12, .bool a0.Bad), (16, .bool (decide ((a0.Bad = true) ∨ ((!a2) = true)))), (20, .bool (decide (((a0.Bad = true) ∨ ((!a2) = true)) ∨ (a1 < 0))))] (fun _ => [(29, .bool (decide ((((a0.Bad = true) ∨ ((!a2) = true)) ∨ (a1 < 0)) ∨ ((a0.B.length : Int) < a1))))]) (fun sl wL => sl.w = wL ∧ Step K0 s6 sl) ?_ ?_
      · -- the ways
        refine k_again 21 rfl ?_
        refine k_split (fun c8 => ?_) (fun c8 => ?_)
        · -- t21 True
          refine k_no rfl rfl rfl rfl ?_
          refine k_no rfl rfl rfl rfl ?_
          refine k_no rfl rfl rfl rfl ?_
          refine k_no rfl rfl rfl rfl ?_
          refine k_no rfl rfl rfl rfl ?_
          refine k_no rfl rfl rfl rfl ?_
          refine k_no rfl rfl rfl rfl ?_
          refine k_pickT rfl rfl rfl rfl ?_
          exact k_met ⟨s6, ⟨(congrArg (fun b => some (Value.bool b)) (by first | exact decide_eq_decide.2 ⟨Or.inr, fun h => h.resolve_left c8⟩ | exact (decide_eq_true (Or.inl c8)).symm | (simp [c8]; done) | (simp [c8, i64] <;> omega))), trivial⟩, ⟨rfl, rfl, rfl, rfl, rfl, rfl, rfl, rfl, rfl, rfl, rfl, trivial⟩, rfl, hE7⟩
        · -- t21 False
          refine k_yes rfl rfl ?_
          refine k_move rfl rfl ?_
          refine k_yes rfl rfl ?_
          refine k_move rfl rfl ?_
          refine k_yes rfl rfl ?_
          refine k_nilCheck rfl rfl ?_
          refine k_yes rfl rfl ?_
          refine k_field_addr fld49_0 rfl rfl ?_
          refine k_yes rfl rfl ?_
          refine k_load_blk one27 rfl hb_o0 rfl rfl ?_
          refine k_yes rfl rfl ?_
          refine k_len Try.underlying27 rfl (SL.of_R hwo0_0).hasLen rfl ?_
          refine k_as (v := .int .i64 (a0.B.length : Int)) (by simp only [List.length_map]) ?_
          refine k_yes rfl rfl ?_
          refine k_gtr rfl rfl rfl ?_
          refine k_pickF rfl rfl rfl rfl ?_
          exact k_met ⟨s6, ⟨(congrArg (fun b => some (Value.bool b)) (by first | exact decide_eq_decide.2 ⟨Or.inr, fun h => h.resolve_left c8⟩ | exact (decide_eq_true (Or.inl c8)).symm | (simp [c8]; done) | (simp [c8, i64] <;> omega))), trivial⟩, ⟨rfl, rfl, rfl, rfl, rfl, rfl, rfl, rfl, rfl, rfl, rfl, trivial⟩, rfl, hE7⟩
      · -- behind
        rintro s9 wL ⟨rfl, hE7⟩
        have szs9 := hE7.size
        have hS : Step (KO k0) s s9 := hS.trans0 hE7
        replace hwo0_0 := hwo0_0.up' hE7
        replace hb_o0 := hb_o0.up' hE7
        refine k_nilCheck rfl rfl ?_
        refine k_field_addr fld49_1 rfl rfl ?_
        refine k_store_c (cs' := [wo0_0, .bool (decide ((((a0.Bad = true) ∨ ((!a2) = true)) ∨ (a1 < 0)) ∨ ((a0.B.length : Int) < a1)))]) size4 rfl rfl hb_o0 (by first | (simp; done) | omega | (dsimp only; omega)) (CellsOf.lit rfl rfl) rfl rfl rfl ?_
        intro s10 st10 hb_o0
        have szs10 := st10.size
        have hS : Step (KO k0) s s10 := hS.comp st10 (by intro l hl hk; simp only [KC, KO, KU, K0] at hk ⊢; omega)
        replace hwo0_0 := hwo0_0.up' st10
        refine k_nil ?_
        refine k_keep [(0, _), (1, _), (6, _)] ⟨rfl, rfl, rfl, trivial⟩ ?_
        refine k_seq ?_
        refine k_seq ?_
        refine k_region ?_
        refine k_move rfl rfl ?_
        refine k_nilCheck rfl rfl ?_
        refine k_field_addr fld49_1 rfl rfl ?_
        refine k_load_blk one4 rfl hb_o0 rfl rfl ?_
        refine k_nil ?_
        refine k_keep [(0, _), (1, _), (6, _), (35, _)] ⟨rfl, rfl, rfl, rfl, trivial⟩ ?_
        refine k_cond_dec rfl (fun c11 => ?_) (fun c11 => ?_)
        · -- T
          have h := itT h c11
          refine k_seq ?_
          refine k_region ?_
          refine k_assign rfl rfl ?_
          refine k_nil ?_
          refine k_keep [(0, _), (1, _), (6, _)] ⟨rfl, rfl, rfl, trivial⟩ ?_
          refine k_ret ?_
          obtain rfl := Option.some.inj h
          refine ⟨_, rfl, Ret.mk hS ?_⟩
          exact ⟨_, rfl, (R.of_SL (.inl ⟨rfl, none, 0, rfl, fun _ => rfl⟩)), (fun _ => rfl), (ORef02Reader.mk_ (⟨a0.B, decide ((((a0.Bad = true) ∨ ((!a2) = true)) ∨ (a1 < 0)) ∨ ((a0.B.length : Int) < a1))⟩ : Ref02Reader) (by omega) hwo0_0 hb_o0)⟩
        · -- F
          have h := itF h c11
          refine k_skip ?_
          refine k_seq ?_
          refine k_region ?_
          refine k_move rfl rfl ?_
          obtain ⟨x1, hx1, h⟩ := ob h
          refine k_call (vs := [.int .u64 ((0 : UInt64).toNat : Int), .int .i64 a1]) cal41 rfl (ref02_whole_own_w   hx1) rfl ?_
          rintro s12 v12_0 st12 ⟨_, l12_0, rfl, hl12_0, h12_0⟩
          have szs12 := st12.size
          have hS : Step (KO k0) s s12 := hS.trans0 st12
          replace hwo0_0 := hwo0_0.up' st12
          replace hb_o0 := hb_o0.up' st12
          obtain ⟨l12_0, hl12_0, h12_0⟩ := Own.anew 2120 h12_0 hl12_0 szs12
          have lt12_0 := Own.le1 h12_0
          refine k_assign rfl rfl ?_
          refine k_nil ?_
          refine k_keep [(0, _), (1, _), (6, _), (7, _)] ⟨rfl, rfl, rfl, rfl, trivial⟩ ?_
          refine k_seq ?_
          refine k_region ?_
          refine k_move rfl rfl ?_
          refine k_move rfl rfl ?_
          refine k_nilCheck rfl rfl ?_
          refine k_field_addr fld49_0 rfl rfl ?_
          refine k_load_blk one27 rfl hb_o0 rfl rfl ?_
          refine k_copy (ds := x1.map bD) (es := a0.B.map bD) elem27 rfl rfl h12_0 (SL.of_R hwo0_0) rfl ?_
          intro s13 st13 h12_0
          rw [← cpy_map] at h12_0
          have szs13 := st13.size
          have hS : Step (KO k0) s s13 := hS.comp st13 (by intro l hl hk; simp only [KC, KO, KU, K0] at hk ⊢; omega)
          replace hwo0_0 := hwo0_0.up' st13
          replace hb_o0 := hb_o0.up' st13
          refine k_as (v := .int .i64 ((min a0.B.length x1.length : Nat) : Int)) (by simp only [List.length_map]) ?_
          refine k_nil ?_
          refine k_keep [(0, _), (1, _), (6, _), (7, _)] ⟨rfl, rfl, rfl, rfl, trivial⟩ ?_
          refine k_seq ?_
          refine k_region ?_
          refine k_move rfl rfl ?_
          refine k_move rfl rfl ?_
          refine k_nilCheck rfl rfl ?_
          refine k_field_addr fld49_0 rfl rfl ?_
          refine k_load_blk one27 rfl hb_o0 rfl rfl ?_
          refine k_move rfl rfl ?_
          obtain ⟨x2, hx2, h⟩ := ob h
          refine k_cut_sl (i := (a1 : Int).toNat) (j := ((a0.B.length : Int) : Int).toNat) Try.underlying27 size5 rfl (SL.of_R hwo0_0) (CutAt.int rfl (subl_out hx2).1) (CutAt.len (by rw [List.length_map]; rfl)) (subl_ij hx2) (by rw [List.length_map]; exact subl_j hx2) rfl ?_
          intro vx2 hcx2
          rw [← List.map_drop, ← List.map_take, ← (subl_out hx2).2.2.2] at hcx2
          have hcx2 := R.of_SL hcx2
          refine k_nilCheck rfl rfl ?_
          refine k_field_addr fld49_0 rfl rfl ?_
          refine k_store_c (cs' := [vx2, .bool (decide ((((a0.Bad = true) ∨ ((!a2) = true)) ∨ (a1 < 0)) ∨ ((a0.B.length : Int) < a1)))]) size27 rfl rfl hb_o0 (by first | (simp; done) | omega | (dsimp only; omega)) (CellsOf.sl (SL.of_R hcx2)) rfl rfl rfl ?_
          intro s14 st14 hb_o0
          have szs14 := st14.size
          have hS : Step (KO k0) s s14 := hS.comp st14 (by intro l hl hk; simp only [KC, KO, KU, K0] at hk ⊢; omega)
          replace hwo0_0 := hwo0_0.up' st14
          replace hcx2 := hcx2.up' st14
          replace h12_0 := h12_0.up' st14
          refine k_nil ?_
          refine k_keep [(6, _), (7, _)] ⟨rfl, rfl, trivial⟩ ?_
          refine k_seq ?_
          refine k_region ?_
          refine k_move rfl rfl ?_
          refine k_assign rfl rfl ?_
          refine k_nil ?_
          refine k_keep [(6, _)] ⟨rfl, trivial⟩ ?_
          refine k_ret ?_
          obtain ⟨s15, e15, st15, h15⟩ := h12_0.freeze
          rw [← e15]
          have szs15 := st15.size
          have hS : Step (KO k0) s s15 := hS.comp st15 (by intro l hl hk; simp only [KC, KO, KU, K0] at hk ⊢; omega)
          replace hcx2 := hcx2.up' st15
          replace hb_o0 := hb_o0.up' st15
          by_cases c16 : (cpy x1 a0.B) ≠ []
          case neg => exact (noneNe (itF h c16)).elim
          replace h := itT h c16
          obtain rfl := Option.some.inj h
          refine ⟨_, rfl, Ret.mk hS ?_⟩
          exact ⟨_, rfl, h15, (fun e => absurd e c16), (ORef02Reader.mk_ (⟨x2, decide ((((a0.Bad = true) ∨ ((!a2) = true)) ∨ (a1 < 0)) ∨ ((a0.B.length : Int) < a1))⟩ : Ref02Reader) (by omega) hcx2 hb_o0)⟩

set_option maxHeartbeats 1000000 in
set_option maxRecDepth 100000 in
theorem ref02_Reader_Uint_w {s : St} {k0 : Nat} {p0 : Value} {a0 : Ref02Reader} {r : (UInt64 × Ref02Reader)} (ho0 : ORef02Reader s k0 p0 a0) (h : ref02_Reader_Uint a0 = some r) : Calls Try.prog 50 #[p0] s.w (Ret s (KO k0) (fun s1 v => v = .int .u64 (r.1.toNat : Int) ∧ ORef02Reader s1 k0 p0 r.2)) := by
  unfold ref02_Reader_Uint at h
  have le0 := ho0.le
  have ne0 := ho0.ne
  have hS : Step (KO k0) s s := (Step.refl _).of0 (by first | exact fun _ h => h | (intro c h; simp [KC, KO, KU] at h <;> omega))
  refine k_fn (rs := [2]) (args := [p0]) Try.func50 rfl rfl rfl rfl ?_
  refine k_seq ?_
  refine k_region ?_
  refine k_assign rfl rfl ?_
  refine k_nil ?_
  refine k_seq ?_
  refine k_region ?_
  refine k_move rfl rfl ?_
  obtain ⟨x1, hx1, h⟩ := ob h
  refine k_call cal59 rfl (ref02_Reader_ahead_w  ho0 hx1) rfl ?_
  rintro s1 vr1 st1 rfl
  have szs1 := st1.size
  have hS : Step (KO k0) s s1 := hS.trans0 st1
  replace ho0 := ho0.up' st1
  refine k_move rfl rfl ?_
  refine k_extract rfl rfl rfl ?_
  refine k_extract rfl rfl rfl ?_
  refine k_assign rfl rfl ?_
  refine k_assign rfl rfl ?_
  refine k_nil ?_
  refine k_keep [(0, _), (2, _), (3, _), (4, _)] ⟨rfl, rfl, rfl, rfl, trivial⟩ ?_
  refine k_seq ?_
  refine k_seq ?_
  refine k_region ?_
  refine k_move rfl rfl ?_
  refine k_move rfl rfl ?_
  refine k_move rfl rfl ?_
  refine k_gtr rfl rfl rfl ?_
  obtain ⟨x2, hx2, h⟩ := ob h
  refine k_call cal53 rfl (ref02_Reader_off_nt_w  ho0 hx2) rfl ?_
  rintro s2 v2_0 st2 ⟨_, rfl, h2_0, hz2_0, ho0⟩
  have szs2 := st2.size
  have hS : Step (KO k0) s s2 := hS.comp st2 (by intro l hl hk; simp only [KC, KO, KU, K0] at hk ⊢; omega)
  refine k_eql_nilt Try.underlying27 rfl h2_0 hz2_0 rfl rfl ?_
  refine k_nil ?_
  refine k_keep [(2, _), (4, _), (15, _)] ⟨rfl, rfl, rfl, trivial⟩ ?_
  refine k_cond_dec rfl (fun c3 => ?_) (fun c3 => ?_)
  · -- T
    have h := itT h c3
    refine k_seq ?_
    refine k_region ?_
    refine k_assign rfl rfl ?_
    refine k_nil ?_
    refine k_keep [(2, _), (4, _)] ⟨rfl, rfl, trivial⟩ ?_
    refine k_ret ?_
    obtain rfl := Option.some.inj h
    refine ⟨_, rfl, Ret.mk hS ?_⟩
    exact ⟨rfl, ho0⟩
  · -- F
    have h := itF h c3
    refine k_skip ?_
    refine k_seq ?_
    refine k_region ?_
    refine k_move rfl rfl ?_
    refine k_assign rfl rfl ?_
    refine k_nil ?_
    refine k_keep [(2, _)] ⟨rfl, trivial⟩ ?_
    refine k_ret ?_
    obtain rfl := Option.some.inj h
    refine ⟨_, rfl, Ret.mk hS ?_⟩
    exact ⟨rfl, ho0⟩

set_option maxHeartbeats 1000000 in
set_option maxRecDepth 100000 in
theorem ref02_Reader_Text_w {s : St} {k0 : Nat} {p0 : Value} {a0 : Ref02Reader} {a1 : Int} {r : ((List UInt8) × Ref02Reader)} (ho0 : ORef02Reader s k0 p0 a0) (h : ref02_Reader_Text a0 a1 = some r) : Calls Try.prog 51 #[p0, .int .i64 a1] s.w (Ret s (KO k0) (fun s1 v => v = S r.1 ∧ ORef02Reader s1 k0 p0 r.2)) := by
  unfold ref02_Reader_Text at h
  have le0 := ho0.le
  have ne0 := ho0.ne
  obtain ⟨bo0, rfl⟩ := ho0.ptr
  obtain ⟨wo0_0, hb_o0, hwo0_0⟩ := ho0.at_
  have hS : Step (KO k0) s s := (Step.refl _).of0 (by first | exact fun _ h => h | (intro c h; simp [KC, KO, KU] at h <;> omega))
  refine k_fn (rs := [4]) (args := [.pointer (some ⟨bo0, 0, none⟩), .int .i64 a1]) Try.func51 rfl rfl rfl rfl ?_
  refine k_seq ?_
  refine k_region ?_
  refine k_assign rfl rfl ?_
  refine k_nil ?_
  refine k_seq ?_
  refine k_region ?_
  refine k_move rfl rfl ?_
  obtain ⟨x1, hx1, h⟩ := ob h
  refine k_call cal59 rfl (ref02_Reader_ahead_w  (ORef02Reader.mk_ a0 (by omega) hwo0_0 hb_o0) hx1) rfl ?_
  rintro s1 vr1 st1 rfl
  have szs1 := st1.size
  have hS : Step (KO k0) s s1 := hS.trans0 st1
  replace hwo0_0 := hwo0_0.up' st1
  replace hb_o0 := hb_o0.up' st1
  refine k_move rfl rfl ?_
  refine k_extract rfl rfl rfl ?_
  refine k_extract rfl rfl rfl ?_
  refine k_assign rfl rfl ?_
  refine k_assign rfl rfl ?_
  refine k_nil ?_
  refine k_keep [(0, _), (1, _), (4, _), (5, _), (6, _)] ⟨rfl, rfl, rfl, rfl, rfl, trivial⟩ ?_
  refine k_seq ?_
  refine k_region ?_
  refine k_move rfl rfl ?_
  refine k_gtr rfl rfl rfl ?_
  refine k_move rfl rfl ?_
  have hE2 : Step K0 s1 s1 := (Step.refl _).of0 (by first | exact fun _ h => h | (intro c h; simp [KC, KO, KU] at h <;> omega))
  refine k_cutl (X := St) 3 [(0, .pointer (some ⟨bo0, 0, none⟩)), (1, .int .i64 a1), (4, S ([] : List UInt8)), (5, .int .i64 x1.1), (6, .int .u64 (x1.2.toNat : Int)), (14, .int .i64 x1.1), (15, .bool (decide (0 < x1.1)))] (fun _ => [(19, .bool (decide ((0 < x1.1) ∧ (0 ≤ a1))))]) (fun sl wL => sl.w = wL ∧ Step K0 s1 sl) ?_ ?_
  · -- the ways
    refine k_again 16 rfl ?_
    refine k_split (fun c3 => ?_) (fun c3 => ?_)
    · -- t16 True
      refine k_yes rfl rfl ?_
      refine k_move rfl rfl ?_
      refine k_yes rfl rfl ?_
      refine k_geq rfl rfl rfl ?_
      refine k_pickT rfl rfl rfl rfl ?_
      exact k_met ⟨s1, ⟨(congrArg (fun b => some (Value.bool b)) (by first | exact decide_eq_decide.2 ⟨fun h => ⟨c3, h⟩, fun h => h.2⟩ | exact (decide_eq_false (fun h => c3 h.1)).symm | (simp [c3]; done) | (simp [c3, i64] <;> omega))), trivial⟩, ⟨rfl, rfl, rfl, rfl, rfl, rfl, rfl, trivial⟩, rfl, hE2⟩
    · -- t16 False
      refine k_no rfl rfl rfl rfl ?_
      refine k_no rfl rfl rfl rfl ?_
      refine k_pickF rfl rfl rfl rfl ?_
      exact k_met ⟨s1, ⟨(congrArg (fun b => some (Value.bool b)) (by first | exact decide_eq_decide.2 ⟨fun h => ⟨c3, h⟩, fun h => h.2⟩ | exact (decide_eq_false (fun h => c3 h.1)).symm | (simp [c3]; done) | (simp [c3, i64] <;> omega))), trivial⟩, ⟨rfl, rfl, rfl, rfl, rfl, rfl, rfl, trivial⟩, rfl, hE2⟩
  · -- behind
    rintro s4 wL ⟨rfl, hE2⟩
    have szs4 := hE2.size
    have hS : Step (KO k0) s s4 := hS.trans0 hE2
    replace hwo0_0 := hwo0_0.up' hE2
    replace hb_o0 := hb_o0.up' hE2
    refine k_move rfl rfl ?_
    have hE5 : Step K0 s4 s4 := (Step.refl _).of0 (by first | exact fun _ h => h | (intro c h; simp [KC, KO, KU] at h <;> omega))
    refine k_cutl (X := St) 6 [(0, .pointer (some ⟨bo0, 0, none⟩)), (1, .int .i64 a1), (4, S ([] : List UInt8)), (5, .int .i64 x1.1), (6, .int .u64 (x1.2.toNat : Int)), (14, .int .i64 x1.1), (15, .bool (decide (0 < x1.1))), (19, .bool (decide ((0 < x1.1) ∧ (0 ≤ a1))))] (fun _ => [(26, .bool (decide (((0 < x1.1) ∧ (0 ≤ a1)) ∧ ((x1.2.toNat : Int) ≤ ((ofI64 (max a1 0)).toNat : Int)))))]) (fun sl wL => sl.w = wL ∧ Step K0 s4 sl) ?_ ?_
    · -- the ways
      refine k_again 20 rfl ?_
      refine k_split (fun c6 => ?_) (fun c6 => ?_)
      · -- t20 True
        refine k_yes rfl rfl ?_
        refine k_move rfl rfl ?_
        refine k_yes rfl rfl ?_
        refine k_move rfl rfl ?_
        refine k_yes rfl rfl ?_
        refine k_max2 rfl rfl rfl ?_
        refine k_yes rfl rfl ?_
        refine k_conv (p := max a1 0) Try.underlying3 Try.underlying29 rfl rfl ?_
        refine k_as (congrArg (Value.int .u64) (w64 _)) ?_
        refine k_yes rfl rfl ?_
        refine k_leq rfl rfl rfl ?_
        refine k_pickT rfl rfl rfl rfl ?_
        exact k_met ⟨s4, ⟨(congrArg (fun b => some (Value.bool b)) (by first | exact decide_eq_decide.2 ⟨fun h => ⟨c6, h⟩, fun h => h.2⟩ | exact (decide_eq_false (fun h => c6 h.1)).symm | (simp [c6]; done) | (simp [c6, i64] <;> omega))), trivial⟩, ⟨rfl, rfl, rfl, rfl, rfl, rfl, rfl, rfl, trivial⟩, rfl, hE5⟩
      · -- t20 False
        refine k_no rfl rfl rfl rfl ?_
        refine k_no rfl rfl rfl rfl ?_
        refine k_no rfl rfl rfl rfl ?_
        refine k_no rfl rfl rfl rfl ?_
        refine k_no rfl rfl rfl rfl ?_
        refine k_pickF rfl rfl rfl rfl ?_
        exact k_met ⟨s4, ⟨(congrArg (fun b => some (Value.bool b)) (by first | exact decide_eq_decide.2 ⟨fun h => ⟨c6, h⟩, fun h => h.2⟩ | exact (decide_eq_false (fun h => c6 h.1)).symm | (simp [c6]; done) | (simp [c6, i64] <;> omega))), trivial⟩, ⟨rfl, rfl, rfl, rfl, rfl, rfl, rfl, rfl, trivial⟩, rfl, hE5⟩
    · -- behind
      rintro s7 wL ⟨rfl, hE5⟩
      have szs7 := hE5.size
      have hS : Step (KO k0) s s7 := hS.trans0 hE5
      replace hwo0_0 := hwo0_0.up' hE5
      replace hb_o0 := hb_o0.up' hE5
      refine k_move rfl rfl ?_
      have hE8 : Step K0 s7 s7 := (Step.refl _).of0 (by first | exact fun _ h => h | (intro c h; simp [KC, KO, KU] at h <;> omega))
      refine k_cutl (X := St) 11 [(0, .pointer (some ⟨bo0, 0, none⟩)), (1, .int .i64 a1), (4, S ([] : List UInt8)), (5, .int .i64 x1.1), (6, .int .u64 (x1.2.toNat : Int)), (14, .int .i64 x1.1), (15, .bool (decide (0 < x1.1))), (19, .bool (decide ((0 < x1.1) ∧ (0 ≤ a1)))), (26, .bool (decide (((0 < x1.1) ∧ (0 ≤ a1)) ∧ ((x1.2.toNat : Int) ≤ ((ofI64 (max a1 0)).toNat : Int)))))] (fun _ => [(38, .bool (decide ((((0 < x1.1) ∧ (0 ≤ a1)) ∧ ((x1.2.toNat : Int) ≤ ((ofI64 (max a1 0)).toNat : Int))) ∧ ((x1.2.toNat : Int) ≤ ((ofI64 (i64 ((a0.B.length : Int) - x1.1))).toNat : Int)))))]) (fun sl wL => sl.w = wL ∧ Step K0 s7 sl) ?_ ?_
      · -- the ways
        refine k_again 27 rfl ?_
        refine k_split (fun c9 => ?_) (fun c9 => ?_)
        · -- t27 True
          refine k_yes rfl rfl ?_
          refine k_move rfl rfl ?_
          refine k_yes rfl rfl ?_
          refine k_move rfl rfl ?_
          refine k_yes rfl rfl ?_
          refine k_nilCheck rfl rfl ?_
          refine k_yes rfl rfl ?_
          refine k_field_addr fld49_0 rfl rfl ?_
          refine k_yes rfl rfl ?_
          refine k_load_blk one27 rfl hb_o0 rfl rfl ?_
          refine k_yes rfl rfl ?_
          refine k_len Try.underlying27 rfl (SL.of_R hwo0_0).hasLen rfl ?_
          refine k_as (v := .int .i64 (a0.B.length : Int)) (by simp only [List.length_map]) ?_
          refine k_yes rfl rfl ?_
          refine k_move rfl rfl ?_
          refine k_yes rfl rfl ?_
          refine k_sub_ rfl rfl rfl ?_
          refine k_yes rfl rfl ?_
          refine k_conv (p := i64 ((a0.B.length : Int) - x1.1)) Try.underlying3 Try.underlying29 rfl rfl ?_
          refine k_as (congrArg (Value.int .u64) (w64 _)) ?_
          refine k_yes rfl rfl ?_
          refine k_leq rfl rfl rfl ?_
          refine k_pickT rfl rfl rfl rfl ?_
          exact k_met ⟨s7, ⟨(congrArg (fun b => some (Value.bool b)) (by first | exact decide_eq_decide.2 ⟨fun h => ⟨c9, h⟩, fun h => h.2⟩ | exact (decide_eq_false (fun h => c9 h.1)).symm | (simp [c9]; done) | (simp [c9, i64] <;> omega))), trivial⟩, ⟨rfl, rfl, rfl, rfl, rfl, rfl, rfl, rfl, rfl, trivial⟩, rfl, hE8⟩
        · -- t27 False
          refine k_no rfl rfl rfl rfl ?_
          refine k_no rfl rfl rfl rfl ?_
          refine k_no rfl rfl rfl rfl ?_
          refine k_no rfl rfl rfl rfl ?_
          refine k_no rfl rfl rfl rfl ?_
          refine k_no rfl rfl rfl rfl ?_
          refine k_no rfl rfl rfl rfl ?_
          refine k_no rfl rfl rfl rfl ?_
          refine k_no rfl rfl rfl rfl ?_
          refine k_no rfl rfl rfl rfl ?_
          refine k_pickF rfl rfl rfl rfl ?_
          exact k_met ⟨s7, ⟨(congrArg (fun b => some (Value.bool b)) (by first | exact decide_eq_decide.2 ⟨fun h => ⟨c9, h⟩, fun h => h.2⟩ | exact (decide_eq_false (fun h => c9 h.1)).symm | (simp [c9]; done) | (simp [c9, i64] <;> omega))), trivial⟩, ⟨rfl, rfl, rfl, rfl, rfl, rfl, rfl, rfl, rfl, trivial⟩, rfl, hE8⟩
      · -- behind
        rintro s10 wL ⟨rfl, hE8⟩
        have szs10 := hE8.size
        have hS : Step (KO k0) s s10 := hS.trans0 hE8
        replace hwo0_0 := hwo0_0.up' hE8
        replace hb_o0 := hb_o0.up' hE8
        refine k_assign rfl rfl ?_
        refine k_nil ?_
        refine k_keep [(0, _), (4, _), (5, _), (6, _), (7, _)] ⟨rfl, rfl, rfl, rfl, rfl, trivial⟩ ?_
        refine k_seq ?_
        obtain ⟨kj2, hK11, h⟩ := jn_out h
        have hE11 : Step K0 s10 s10 := (Step.refl _).of0 (by first | exact fun _ h => h | (intro c h; simp [KC, KO, KU] at h <;> omega))
        refine k_cutc (X := St × UInt64) [(0, .pointer (some ⟨bo0, 0, none⟩)), (4, S ([] : List UInt8)), (5, .int .i64 x1.1), (7, .bool (decide ((((0 < x1.1) ∧ (0 ≤ a1)) ∧ ((x1.2.toNat : Int) ≤ ((ofI64 (max a1 0)).toNat : Int))) ∧ ((x1.2.toNat : Int) ≤ ((ofI64 (i64 ((a0.B.length : Int) - x1.1))).toNat : Int)))))] (fun (xL : St × UInt64) => match xL with | (sl, x3) => [(6, .int .u64 (x3.toNat : Int))]) (fun (xL : St × UInt64) (wL : World) => match xL with | (sl, x3) => sl.w = wL ∧ Step K0 s10 sl ∧ kj2 x3 = some r) ?_ ?_
        · -- the ways
          refine k_seq ?_
          refine k_region ?_
          refine k_move rfl rfl ?_
          refine k_notd rfl rfl ?_
          refine k_nil ?_
          refine k_keep [(0, _), (4, _), (5, _), (6, _), (7, _), (40, _)] ⟨rfl, rfl, rfl, rfl, rfl, rfl, trivial⟩ ?_
          refine k_cond_dec rfl (fun c12 => ?_) (fun c12 => ?_)
          · -- T
            have h := itT h c12
            refine k_region ?_
            refine k_assign rfl rfl ?_
            refine k_nil ?_
            exact k_stop ⟨(s10, (0 : UInt64)), ⟨(by first | rfl | (simp <;> rfl)), trivial⟩, ⟨rfl, rfl, rfl, rfl, trivial⟩, ⟨rfl, hE11, h⟩⟩
          · -- F
            have h := itF h c12
            refine k_skip ?_
            exact k_stop ⟨(s10, x1.2), ⟨(by first | rfl | (simp <;> rfl)), trivial⟩, ⟨rfl, rfl, rfl, rfl, trivial⟩, ⟨rfl, hE11, h⟩⟩
        · -- behind
          rintro ⟨s13, x3⟩ wL ⟨rfl, hE11, h⟩
          rw [hK11] at h
          have szs13 := hE11.size
          have hS : Step (KO k0) s s13 := hS.trans0 hE11
          replace hwo0_0 := hwo0_0.up' hE11
          replace hb_o0 := hb_o0.up' hE11
          refine k_seq ?_
          refine k_region ?_
          refine k_move rfl rfl ?_
          refine k_move rfl rfl ?_
          refine k_move rfl rfl ?_
          refine k_conv (p := (x3.toNat : Int)) Try.underlying29 Try.underlying3 rfl rfl ?_
          refine k_add rfl rfl rfl ?_
          refine k_move rfl rfl ?_
          obtain ⟨x4, hx4, h⟩ := ob h
          refine k_call cal53 rfl (ref02_Reader_off_nt_w  (ORef02Reader.mk_ a0 (by omega) hwo0_0 hb_o0) hx4) rfl ?_
          rintro s14 v14_0 st14 ⟨_, rfl, h14_0, hz14_0, hm14_0⟩
          obtain ⟨w14_0_0, hb_14_0, hw14_0_0⟩ := hm14_0.at_
          have szs14 := st14.size
          have hS : Step (KO k0) s s14 := hS.comp st14 (by intro l hl hk; simp only [KC, KO, KU, K0] at hk ⊢; omega)
          refine k_assign rfl rfl ?_
          refine k_nil ?_
          refine k_keep [(4, _), (5, _), (8, _)] ⟨rfl, rfl, rfl, trivial⟩ ?_
          refine k_seq ?_
          refine k_seq ?_
          refine k_region ?_
          refine k_move rfl rfl ?_
          refine k_eql_nilt Try.underlying27 rfl h14_0 hz14_0 rfl rfl ?_
          refine k_nil ?_
          refine k_keep [(4, _), (5, _), (8, _), (49, _)] ⟨rfl, rfl, rfl, rfl, trivial⟩ ?_
          refine k_cond_dec rfl (fun c15 => ?_) (fun c15 => ?_)
          · -- T
            have h := itT h c15
            refine k_seq ?_
            refine k_region ?_
            refine k_assign rfl rfl ?_
            refine k_nil ?_
            refine k_keep [(4, _), (5, _), (8, _)] ⟨rfl, rfl, rfl, trivial⟩ ?_
            refine k_ret ?_
            obtain rfl := Option.some.inj h
            refine ⟨_, rfl, Ret.mk hS ?_⟩
            exact ⟨rfl, (ORef02Reader.mk_ x4.2 (by omega) hw14_0_0 hb_14_0)⟩
          · -- F
            have h := itF h c15
            refine k_skip ?_
            refine k_seq ?_
            refine k_region ?_
            refine k_move rfl rfl ?_
            refine k_move rfl rfl ?_
            obtain ⟨x5, hx5, h⟩ := ob h
            refine k_cut_sl (i := (x1.1 : Int).toNat) (j := ((x4.1.length : Int) : Int).toNat) Try.underlying27 size5 rfl (SL.of_R h14_0) (CutAt.int rfl (subl_out hx5).1) (CutAt.len (by rw [List.length_map]; rfl)) (subl_ij hx5) (by rw [List.length_map]; exact subl_j hx5) rfl ?_
            intro vx5 hcx5
            rw [← List.map_drop, ← List.map_take, ← (subl_out hx5).2.2.2] at hcx5
            have hcx5 := R.of_SL hcx5
            refine k_bts (m := x5) Try.underlying27 Try.underlying5 Try.underlying9 rfl (SL.of_R hcx5) rfl ?_
            refine k_assign rfl rfl ?_
            refine k_nil ?_
            refine k_keep [(4, _)] ⟨rfl, trivial⟩ ?_
            refine k_ret ?_
            obtain rfl := Option.some.inj h
            refine ⟨_, rfl, Ret.mk hS ?_⟩
            exact ⟨rfl, (ORef02Reader.mk_ x4.2 (by omega) hw14_0_0 hb_14_0)⟩

set_option maxHeartbeats 1000000 in
set_option maxRecDepth 100000 in
theorem ref02_Reader_Raw_w {s : St} {k0 : Nat} {p0 : Value} {a0 : Ref02Reader} {a1 : Int} {r : ((List UInt8) × Ref02Reader)} (ho0 : ORef02Reader s k0 p0 a0) (h : ref02_Reader_Raw a0 a1 = some r) : Calls Try.prog 52 #[p0, .int .i64 a1] s.w (Ret s (KO k0) (fun s1 v => ∃ (u0 : Value), v = u0 ∧ R s1 u0 (.sl 1 (r.1.map bD)) ∧ ORef02Reader s1 k0 p0 r.2)) := by
  unfold ref02_Reader_Raw at h
  have le0 := ho0.le
  have ne0 := ho0.ne
  have hS : Step (KO k0) s s := (Step.refl _).of0 (by first | exact fun _ h => h | (intro c h; simp [KC, KO, KU] at h <;> omega))
  refine k_fn (rs := [4]) (args := [p0, .int .i64 a1]) Try.func52 rfl rfl rfl rfl ?_
  refine k_seq ?_
  refine k_region ?_
  refine k_assign rfl rfl ?_
  refine k_nil ?_
  refine k_seq ?_
  refine k_region ?_
  refine k_move rfl rfl ?_
  refine k_move rfl rfl ?_
  obtain ⟨x1, hx1, h⟩ := ob h
  refine k_call cal53 rfl (ref02_Reader_off_w  ho0 hx1) rfl ?_
  rintro s1 v1_0 st1 ⟨_, rfl, h1_0, ho0⟩
  have szs1 := st1.size
  have hS : Step (KO k0) s s1 := hS.comp st1 (by intro l hl hk; simp only [KC, KO, KU, K0] at hk ⊢; omega)
  refine k_assign rfl rfl ?_
  refine k_nil ?_
  refine k_keep [(4, _)] ⟨rfl, trivial⟩ ?_
  refine k_ret ?_
  obtain rfl := Option.some.inj h
  refine ⟨_, rfl, Ret.mk hS ?_⟩
  exact ⟨_, rfl, h1_0, ho0⟩

set_option maxHeartbeats 1000000 in
set_option maxRecDepth 100000 in
theorem law02_meant_w {s : St} {k0 : Nat} {p0 : Value} {a0 : Ref02Reader} {cs1 : List Value} {a1 : Law02Item} {r : (UInt64 × (List UInt8) × Ref02Reader)} (ho0 : ORef02Reader s k0 p0 a0) (hp1 : RC s cs1 (dLaw02Item a1)) (h : law02_meant a0 a1 = some r) : Calls Try.prog 25 #[p0, .agg cs1.toArray] s.w (Ret s (KO k0) (fun s1 v => v = .tuple #[.int .u64 (r.1.toNat : Int), S r.2.1] ∧ ORef02Reader s1 k0 p0 r.2.2)) := by
  unfold law02_meant at h
  have le0 := ho0.le
  have ne0 := ho0.ne
  obtain rfl := opnLaw02Item hp1
  have hS : Step (KO k0) s s := (Step.refl _).of0 (by first | exact fun _ h => h | (intro c h; simp [KC, KO, KU] at h <;> omega))
  refine k_fn (rs := [4, 5]) (args := [p0, .agg #[.int .i64 a1.Kind, .int .i64 a1.Most, .int .u64 (a1.X.toNat : Int), S a1.S]]) Try.func25 rfl rfl rfl rfl ?_
  refine k_seq ?_
  refine k_region ?_
  refine k_box rfl rfl ?_
  intro s1 b1 st1 h1 ge1
  have szs1 := st1.size
  have hS : Step (KO k0) s s1 := hS.trans0 st1
  replace ho0 := ho0.up' st1
  have lt1 := h1.lt
  refine k_assign rfl rfl ?_
  refine k_assign rfl rfl ?_
  refine k_nil ?_
  refine k_keep [(0, _), (3, _), (4, _), (5, _)] ⟨rfl, rfl, rfl, rfl, trivial⟩ ?_
  refine k_seq ?_
  refine k_seq ?_
  refine k_region ?_
  refine k_load_blka (cs := [.int .i64 a1.Kind, .int .i64 a1.Most, .int .u64 (a1.X.toNat : Int), S a1.S]) agg36 rfl h1 rfl ?_
  obtain ⟨x1, hx1, h⟩ := ob h
  refine k_call cal29 rfl (law02_kind_w  (clsLaw02Item a1) hx1) rfl ?_
  rintro s2 vr2 st2 rfl
  have szs2 := st2.size
  have hS : Step (KO k0) s s2 := hS.trans0 st2
  replace ho0 := ho0.up' st2
  replace h1 := h1.up' st2
  refine k_nil ?_
  refine k_keep [(0, _), (3, _), (4, _), (5, _), (7, _)] ⟨rfl, rfl, rfl, rfl, rfl, trivial⟩ ?_
  refine k_block ?_
  refine k_seq ?_
  refine k_region ?_
  refine k_eql rfl rfl rfl ?_
  refine k_assign rfl rfl ?_
  refine k_nil ?_
  refine k_keep [(0, _), (3, _), (4, _), (5, _), (7, _), (8, _)] ⟨rfl, rfl, rfl, rfl, rfl, rfl, trivial⟩ ?_
  refine k_cond_dec rfl (fun c3 => ?_) (fun c3 => ?_)
  · -- T
    have h := itT h c3
    refine k_seq ?_
    refine k_region ?_
    refine k_move rfl rfl ?_
    obtain ⟨x2, hx2, h⟩ := ob h
    refine k_call cal49 rfl (ref02_Reader_Wide_w  ho0 hx2) rfl ?_
    rintro s4 vr4 st4 ⟨rfl, ho0⟩
    have szs4 := st4.size
    have hS : Step (KO k0) s s4 := hS.comp st4 (by intro l hl hk; simp only [KC, KO, KU, K0] at hk ⊢; omega)
    replace h1 := h1.up' st4
    refine k_assign rfl rfl ?_
    refine k_assign rfl rfl ?_
    refine k_nil ?_
    refine k_keep [(0, _), (3, _), (4, _), (5, _)] ⟨rfl, rfl, rfl, rfl, trivial⟩ ?_
    refine k_ret ?_
    obtain rfl := Option.some.inj h
    refine ⟨_, rfl, Ret.mk hS ?_⟩
    exact ⟨rfl, ho0⟩
  · -- F
    have h := itF h c3
    refine k_seq ?_
    refine k_region ?_
    refine k_eql rfl rfl rfl ?_
    refine k_assign rfl rfl ?_
    refine k_nil ?_
    refine k_keep [(0, _), (3, _), (4, _), (5, _), (7, _), (12, _)] ⟨rfl, rfl, rfl, rfl, rfl, rfl, trivial⟩ ?_
    refine k_cond_dec rfl (fun c5 => ?_) (fun c5 => ?_)
    · -- T
      have h := itT h c5
      refine k_seq ?_
      refine k_region ?_
      refine k_move rfl rfl ?_
      obtain ⟨x3, hx3, h⟩ := ob h
      refine k_call cal49 rfl (ref02_Reader_Wide_w  ho0 hx3) rfl ?_
      rintro s6 vr6 st6 ⟨rfl, ho0⟩
      have szs6 := st6.size
      have hS : Step (KO k0) s s6 := hS.comp st6 (by intro l hl hk; simp only [KC, KO, KU, K0] at hk ⊢; omega)
      replace h1 := h1.up' st6
      refine k_assign rfl rfl ?_
      refine k_assign rfl rfl ?_
      refine k_nil ?_
      refine k_keep [(0, _), (3, _), (4, _), (5, _)] ⟨rfl, rfl, rfl, rfl, trivial⟩ ?_
      refine k_ret ?_
      obtain rfl := Option.some.inj h
      refine ⟨_, rfl, Ret.mk hS ?_⟩
      exact ⟨rfl, ho0⟩
    · -- F
      have h := itF h c5
      refine k_seq ?_
      refine k_region ?_
      refine k_eql rfl rfl rfl ?_
      refine k_assign rfl rfl ?_
      refine k_nil ?_
      refine k_keep [(0, _), (3, _), (4, _), (5, _), (7, _), (16, _)] ⟨rfl, rfl, rfl, rfl, rfl, rfl, trivial⟩ ?_
      refine k_cond_dec rfl (fun c7 => ?_) (fun c7 => ?_)
      · -- T
        have h := itT h c7
        refine k_seq ?_
        refine k_region ?_
        refine k_move rfl rfl ?_
        obtain ⟨x4, hx4, h⟩ := ob h
        refine k_call cal50 rfl (ref02_Reader_Uint_w  ho0 hx4) rfl ?_
        rintro s8 vr8 st8 ⟨rfl, ho0⟩
        have szs8 := st8.size
        have hS : Step (KO k0) s s8 := hS.comp st8 (by intro l hl hk; simp only [KC, KO, KU, K0] at hk ⊢; omega)
        replace h1 := h1.up' st8
        refine k_assign rfl rfl ?_
        refine k_assign rfl rfl ?_
        refine k_nil ?_
        refine k_keep [(0, _), (3, _), (4, _), (5, _)] ⟨rfl, rfl, rfl, rfl, trivial⟩ ?_
        refine k_ret ?_
        obtain rfl := Option.some.inj h
        refine ⟨_, rfl, Ret.mk hS ?_⟩
        exact ⟨rfl, ho0⟩
      · -- F
        have h := itF h c7
        refine k_seq ?_
        refine k_region ?_
        refine k_eql rfl rfl rfl ?_
        refine k_assign rfl rfl ?_
        refine k_nil ?_
        refine k_keep [(0, _), (3, _), (4, _), (5, _), (20, _)] ⟨rfl, rfl, rfl, rfl, rfl, trivial⟩ ?_
        refine k_cond_dec rfl (fun c9 => ?_) (fun c9 => ?_)
        · -- T
          have h := itT h c9
          refine k_seq ?_
          refine k_region ?_
          refine k_move rfl rfl ?_
          refine k_field_addr fld36_1 rfl rfl ?_
          refine k_load_blk one3 rfl h1 rfl rfl ?_
          obtain ⟨x5, hx5, h⟩ := ob h
          refine k_call cal51 rfl (ref02_Reader_Text_w  ho0 hx5) rfl ?_
          rintro s10 vr10 st10 ⟨rfl, ho0⟩
          have szs10 := st10.size
          have hS : Step (KO k0) s s10 := hS.comp st10 (by intro l hl hk; simp only [KC, KO, KU, K0] at hk ⊢; omega)
          replace h1 := h1.up' st10
          refine k_assign rfl rfl ?_
          refine k_assign rfl rfl ?_
          refine k_nil ?_
          refine k_keep [(0, _), (3, _), (4, _), (5, _)] ⟨rfl, rfl, rfl, rfl, trivial⟩ ?_
          refine k_ret ?_
          obtain rfl := Option.some.inj h
          refine ⟨_, rfl, Ret.mk hS ?_⟩
          exact ⟨rfl, ho0⟩
        · -- F
          have h := itF h c9
          refine k_skip ?_
          refine k_blk ?_
          refine k_seq ?_
          refine k_keep [(0, _), (3, _)] ⟨rfl, rfl, trivial⟩ ?_
          refine k_draw (KO k0) 6 [(false, 0), (false, 1), (false, 2), (true, 3), (false, 4), (false, 5)] mixed (by intro c h; simp [KC, KO, KU] at h <;> omega) rfl rfl ?_
          intro s11 st11
          have szs11 := st11.size
          have hS : Step (KO k0) s s11 := hS.trans0 st11
          replace ho0 := ho0.up' st11
          replace h1 := h1.up' st11
          refine rd_read (p0) rfl rfl (fun s12 st12 => ?_) ?_
          · try replace ho0 := ho0.up' st12
            try replace h1 := h1.up' st12
            refine k_move rfl rfl ?_
            exact fq_end
          refine rd_read (.pointer (some ⟨b1, 1, none⟩)) rfl rfl (fun s13 st13 => ?_) ?_
          · try replace ho0 := ho0.up' st13
            try replace h1 := h1.up' st13
            refine k_field_addr fld36_1 rfl rfl ?_
            exact fq_end
          refine rd_read (.int .i64 a1.Most) rfl rfl (fun s14 st14 => ?_) ?_
          · try replace ho0 := ho0.up' st14
            try replace h1 := h1.up' st14
            refine k_load_blk one3 rfl h1 rfl rfl ?_
            exact fq_end
          refine rd_act rfl rfl ?_
          obtain ⟨x6, hx6, h⟩ := ob h
          refine k_call cal52 rfl (ref02_Reader_Raw_w  ho0 hx6) rfl ?_
          rintro s15 v15_0 st15 ⟨_, rfl, h15_0, ho0⟩
          have szs15 := st15.size
          have hS : Step (KO k0) s s15 := hS.comp st15 (by intro l hl hk; simp only [KC, KO, KU, K0] at hk ⊢; omega)
          replace h1 := h1.up' st15
          refine rd_cont (st15.mono (by intro l hl; simp only [KC, KO, KU] at hl ⊢; omega) (by intro c h; simp [KC, KO, KU] at h <;> omega)) ?_
          refine rd_read (S x6.1) rfl rfl (fun s16 st16 => ?_) ?_
          · try replace h15_0 := h15_0.up' st16
            try replace ho0 := ho0.up' st16
            try replace h1 := h1.up' st16
            refine k_bts (m := x6.1) Try.underlying27 Try.underlying5 Try.underlying9 rfl (SL.of_R h15_0) rfl ?_
            exact fq_end
          refine rd_read (.int .u64 0) rfl rfl (fun s17 st17 => ?_) ?_
          · try replace h15_0 := h15_0.up' st17
            try replace ho0 := ho0.up' st17
            try replace h1 := h1.up' st17
            refine k_assign rfl rfl ?_
            exact fq_end
          refine rd_nil ?_
          refine k_assign rfl rfl ?_
          refine k_nil ?_
          refine k_keep [(4, _), (5, _)] ⟨rfl, rfl, trivial⟩ ?_
          refine k_ret ?_
          obtain rfl := Option.some.inj h
          refine ⟨_, rfl, Ret.mk hS ?_⟩
          exact ⟨rfl, ho0⟩

set_option maxHeartbeats 1000000 in
set_option maxRecDepth 100000 in
theorem ref02_Reader_End_w {s : St} {k0 : Nat} {p0 : Value} {a0 : Ref02Reader} {r : (Bool × Ref02Reader)} (ho0 : ORef02Reader s k0 p0 a0) (h : ref02_Reader_End a0 = some r) : Calls Try.prog 28 #[p0] s.w (Ret s (KO k0) (fun s1 v => v = .bool r.1 ∧ ORef02Reader s1 k0 p0 r.2)) := by
  unfold ref02_Reader_End at h
  have le0 := ho0.le
  have ne0 := ho0.ne
  obtain ⟨bo0, rfl⟩ := ho0.ptr
  obtain ⟨wo0_0, hb_o0, hwo0_0⟩ := ho0.at_
  have hS : Step (KO k0) s s := (Step.refl _).of0 (by first | exact fun _ h => h | (intro c h; simp [KC, KO, KU] at h <;> omega))
  refine k_fn (rs := [2]) (args := [.pointer (some ⟨bo0, 0, none⟩)]) Try.func28 rfl rfl rfl rfl ?_
  refine k_seq ?_
  refine k_region ?_
  refine k_assign rfl rfl ?_
  refine k_nil ?_
  refine k_seq ?_
  refine k_region ?_
  refine k_move rfl rfl ?_
  refine k_move rfl rfl ?_
  refine k_nilCheck rfl rfl ?_
  refine k_field_addr fld49_0 rfl rfl ?_
  refine k_load_blk one27 rfl hb_o0 rfl rfl ?_
  refine k_len Try.underlying27 rfl (SL.of_R hwo0_0).hasLen rfl ?_
  refine k_as (v := .int .i64 (a0.B.length : Int)) (by simp only [List.length_map]) ?_
  refine k_eql rfl rfl rfl ?_
  obtain ⟨x1, hx1, h⟩ := ob h
  refine k_call cal53 rfl (ref02_Reader_off_w  (ORef02Reader.mk_ a0 (by omega) hwo0_0 hb_o0) hx1) rfl ?_
  rintro s1 v1_0 st1 ⟨_, rfl, h1_0, hm1_0⟩
  obtain ⟨w1_0_0, hb_1_0, hw1_0_0⟩ := hm1_0.at_
  have szs1 := st1.size
  have hS : Step (KO k0) s s1 := hS.comp st1 (by intro l hl hk; simp only [KC, KO, KU, K0] at hk ⊢; omega)
  replace hwo0_0 := hwo0_0.up' st1
  refine k_nil ?_
  refine k_keep [(0, _), (2, _)] ⟨rfl, rfl, trivial⟩ ?_
  refine k_seq ?_
  refine k_region ?_
  refine k_move rfl rfl ?_
  refine k_nilCheck rfl rfl ?_
  refine k_field_addr fld49_1 rfl rfl ?_
  refine k_load_blk one4 rfl hb_1_0 rfl rfl ?_
  refine k_assign rfl rfl ?_
  refine k_nil ?_
  refine k_keep [(2, _)] ⟨rfl, trivial⟩ ?_
  refine k_ret ?_
  obtain rfl := Option.some.inj h
  refine ⟨_, rfl, Ret.mk hS ?_⟩
  exact ⟨rfl, (ORef02Reader.mk_ x1.2 (by omega) hw1_0_0 hb_1_0)⟩

set_option maxHeartbeats 1000000 in
set_option maxRecDepth 100000 in
theorem law02_CodeReads_w {s : St} {l0 : Lab} {v0 : Value} {a0 : (List UInt8)} {l1 : Lab} {v1 : Value} {a1 : (List Law02Item)} {a2 : Int} {r : Bool} (hp0 : SL s l0 v0 1 (a0.map bD)) (hp1 : SL s l1 v1 4 (a1.map dLaw02Item)) (h : law02_CodeReads a0 a1 a2 = some r) : Calls Try.prog 6 #[v0, v1, .int .i64 a2] s.w (Ret s K0 (fun s1 v => v = .bool r)) := by
  unfold law02_CodeReads at h
  obtain ⟨lf0, lf0le, lf0ne, hp0⟩ := hp0.fix
  obtain ⟨lf1, lf1le, lf1ne, hp1⟩ := hp1.fix
  have hS : Step K0 s s := (Step.refl _).of0 (by first | exact fun _ h => h | (intro c h; simp [KC, KO, KU] at h <;> omega))
  refine k_fn (rs := [6]) (args := [v0, v1, .int .i64 a2]) Try.func6 rfl rfl rfl rfl ?_
  refine k_seq ?_
  refine k_region ?_
  refine k_assign rfl rfl ?_
  refine k_nil ?_
  refine k_seq ?_
  refine k_seq ?_
  refine k_region ?_
  refine k_move rfl rfl ?_
  obtain ⟨x1, hx1, h⟩ := ob h
  refine k_call cal14 rfl (law02_long_w  hp1 hx1) rfl ?_
  rintro s1 vr1 st1 rfl
  have szs1 := st1.size
  have hS : Step K0 s s1 := hS.trans0 st1
  replace hp0 := hp0.up' st1
  replace hp1 := hp1.up' st1
  refine k_move rfl rfl ?_
  have hE2 : Step K0 s1 s1 := (Step.refl _).of0 (by first | exact fun _ h => h | (intro c h; simp [KC, KO, KU] at h <;> omega))
  refine k_cutl (X := St) 4 [(0, v0), (1, v1), (2, .int .i64 a2), (6, .bool false), (16, v1), (17, .bool x1)] (fun _ => [(22, .bool (decide ((x1 = true) ∨ (60000 < (a0.length : Int)))))]) (fun sl wL => sl.w = wL ∧ Step K0 s1 sl) ?_ ?_
  · -- the ways
    refine k_again 18 rfl ?_
    refine k_splitb (fun c3 => ?_) (fun c3 => ?_)
    · -- t18 True
      refine k_no rfl rfl rfl rfl ?_
      refine k_no rfl rfl rfl rfl ?_
      refine k_no rfl rfl rfl rfl ?_
      refine k_pickT rfl rfl rfl rfl ?_
      exact k_met ⟨s1, ⟨(congrArg (fun b => some (Value.bool b)) (by first | exact decide_eq_decide.2 ⟨Or.inr, fun h => h.resolve_left c3⟩ | exact (decide_eq_true (Or.inl c3)).symm | (simp [c3]; done) | (simp [c3, i64] <;> omega))), trivial⟩, ⟨rfl, rfl, rfl, rfl, rfl, rfl, trivial⟩, rfl, hE2⟩
    · -- t18 False
      refine k_yes rfl rfl ?_
      refine k_move rfl rfl ?_
      refine k_yes rfl rfl ?_
      refine k_len Try.underlying27 rfl hp0.hasLen rfl ?_
      refine k_as (v := .int .i64 (a0.length : Int)) (by simp only [List.length_map]) ?_
      refine k_yes rfl rfl ?_
      refine k_gtr rfl rfl rfl ?_
      refine k_pickF rfl rfl rfl rfl ?_
      exact k_met ⟨s1, ⟨(congrArg (fun b => some (Value.bool b)) (by first | exact decide_eq_decide.2 ⟨Or.inr, fun h => h.resolve_left c3⟩ | exact (decide_eq_true (Or.inl c3)).symm | (simp [c3]; done) | (simp [c3, i64] <;> omega))), trivial⟩, ⟨rfl, rfl, rfl, rfl, rfl, rfl, trivial⟩, rfl, hE2⟩
  · -- behind
    rintro s4 wL ⟨rfl, hE2⟩
    have szs4 := hE2.size
    have hS : Step K0 s s4 := hS.trans0 hE2
    replace hp0 := hp0.up' hE2
    replace hp1 := hp1.up' hE2
    refine k_nil ?_
    refine k_keep [(0, _), (1, _), (2, _), (6, _), (22, _)] ⟨rfl, rfl, rfl, rfl, rfl, trivial⟩ ?_
    refine k_cond_dec rfl (fun c5 => ?_) (fun c5 => ?_)
    · -- T
      have h := itT h c5
      refine k_seq ?_
      refine k_region ?_
      obtain ⟨x2, hx2, h⟩ := ob h
      obtain rfl := Option.some.inj (show some true = some x2 from hx2)
      refine k_call cal9 rfl (law02_awake_w   hx2) rfl ?_
      rintro s6 vr6 st6 rfl
      have szs6 := st6.size
      have hS : Step K0 s s6 := hS.trans0 st6
      replace hp0 := hp0.up' st6
      replace hp1 := hp1.up' st6
      refine k_assign rfl rfl ?_
      refine k_nil ?_
      refine k_keep [(0, _), (1, _), (2, _), (6, _)] ⟨rfl, rfl, rfl, rfl, trivial⟩ ?_
      refine k_ret ?_
      obtain rfl := Option.some.inj h
      refine ⟨_, rfl, Ret.mk hS ?_⟩
      exact rfl
    · -- F
      have h := itF h c5
      refine k_skip ?_
      refine k_seq ?_
      refine k_region ?_
      refine k_move rfl rfl ?_
      refine k_bts (m := a0) Try.underlying27 Try.underlying5 Try.underlying9 rfl hp0 rfl ?_
      refine k_assign rfl rfl ?_
      refine k_nil ?_
      refine k_keep [(0, _), (1, _), (2, _), (6, _), (7, _)] ⟨rfl, rfl, rfl, rfl, rfl, trivial⟩ ?_
      refine k_seq ?_
      refine k_region ?_
      refine k_move rfl rfl ?_
      obtain ⟨x3, hx3, h⟩ := ob h
      refine k_call cal20 rfl (code_NewReader_w  hp0 hx3) rfl ?_
      rintro s7 v7_0 st7 ⟨ku7_0, _, rfl, hk7_0, h7_0⟩
      have szs7 := st7.size
      have hS : Step K0 s s7 := hS.trans0 st7
      replace hp0 := hp0.up' st7
      replace hp1 := hp1.up' st7
      have le7_0 := h7_0.le
      have ne7_0 := h7_0.ne
      refine k_move rfl rfl ?_
      refine k_stb Try.underlying9 Try.underlying27 Try.underlying5 rfl rfl ?_
      intro s8 v8 st8 h8
      have szs8 := st8.size
      have hS : Step K0 s s8 := hS.trans0 st8
      replace hp0 := hp0.up' st8
      replace hp1 := hp1.up' st8
      replace h7_0 := h7_0.up' st8
      refine k_build plc49 zero49 rfl (Parts.cons (CellsOf.sl (SL.of_R h8)).1 Parts.nil) (by rfl) rfl ?_
      refine k_as (v := .agg #[v8, .bool false]) rfl ?_
      refine k_box rfl rfl ?_
      intro s9 b9 st9 h9 ge9
      have szs9 := st9.size
      have hS : Step K0 s s9 := hS.trans0 st9
      replace hp0 := hp0.up' st9
      replace hp1 := hp1.up' st9
      replace h8 := h8.up' st9
      replace h7_0 := h7_0.up' st9
      have lt9 := h9.lt
      refine k_assign rfl rfl ?_
      refine k_assign rfl rfl ?_
      refine k_nil ?_
      refine k_keep [(0, _), (1, _), (2, _), (6, _), (7, _), (8, _), (9, _)] ⟨rfl, rfl, rfl, rfl, rfl, rfl, rfl, trivial⟩ ?_
      refine k_seq ?_
      obtain ⟨kj4, hK10, h⟩ := jn_out h
      have hE10 : Step (KU (KO ku7_0) (KU (KC (b9 + 1) 0) (KO (b9 + 1)))) s9 s9 := (Step.refl _).of0 (by first | exact fun _ h => h | (intro c h; simp [KC, KO, KU] at h <;> omega))
      refine k_cutc (X := St × Rd × (List UInt8) × Value × Bool) [(0, v0), (6, .bool false), (7, S a0), (8, v7_0), (9, .pointer (some ⟨b9, 0, none⟩))] (fun (xL : St × Rd × (List UInt8) × Value × Bool) => match xL with | (sl, x5, x6, v11, x7) => []) (fun (xL : St × Rd × (List UInt8) × Value × Bool) (wL : World) => match xL with | (sl, x5, x6, v11, x7) => sl.w = wL ∧ Step (KU (KO ku7_0) (KU (KC (b9 + 1) 0) (KO (b9 + 1)))) s9 sl ∧ (RdS sl ku7_0 v7_0 x5) ∧ (R sl v11 (.sl 1 (x6.map bD))) ∧ (Blk sl b9 ⟨b9 + 1, 0⟩ [v11, .bool x7] 49) ∧ kj4 x5 x6 x7 = some r) ?_ ?_
      · -- the ways
        refine k_seq ?_
        refine k_region ?_
        refine k_assign rfl rfl ?_
        refine k_nil ?_
        refine k_block ?_
        refine k_loopc (X := St × Int × Rd × (List UInt8) × Value × Bool × Nat) [(0, _), (1, _), (2, _), (6, _), (7, _), (8, _), (9, _)] (fun (xL : St × Int × Rd × (List UInt8) × Value × Bool × Nat) => match xL with | (sl, x8, x9, x10, v13, x11, j) => [(10, .int .i64 x8)]) (fun (xL : St × Int × Rd × (List UInt8) × Value × Bool × Nat) (wL : World) => match xL with | (sl, x8, x9, x10, v13, x11, j) => sl.w = wL ∧ Step (KU (KO ku7_0) (KU (KC (b9 + 1) 0) (KO (b9 + 1)))) s9 sl ∧ (RdS sl ku7_0 v7_0 x9) ∧ (R sl v13 (.sl 1 (x10.map bD))) ∧ (Blk sl b9 ⟨b9 + 1, 0⟩ [v13, .bool x11] 49) ∧ law02_CodeReads_l1 a1 a0 a2 kj4 j x8 x9 x10 x11 = some r) (fun (xL : St × Int × Rd × (List UInt8) × Value × Bool × Nat) => match xL with | (sl, x8, x9, x10, v13, x11, j) => j) (s9, 0, x3, a0, v8, false, FU) ⟨rfl, rfl, rfl, rfl, rfl, rfl, rfl, trivial⟩ ⟨(by first | rfl | (simp <;> rfl)), trivial⟩ ⟨rfl, (Step.refl _).of0 (by first | exact fun _ h => h | (intro c h; simp [KC, KO, KU] at h <;> omega)), h7_0, h8, h9, h⟩ ?_
        rintro ⟨s14, x8, x9, x10, v13, x11, j⟩ wL ⟨rfl, hE12, h7_0, h13, h9, h⟩
        cases j with
        | zero => rw [law02_CodeReads_l1] at h; exact (noneNe h).elim
        | succ j =>
        rw [law02_CodeReads_l1] at h
        have szs14 := hE12.size
        have hS : Step K0 s s14 := hS.comp hE12 (by intro l hl hk; simp only [KC, KO, KU, K0] at hk ⊢; omega)
        have hE10 : Step (KU (KO ku7_0) (KU (KC (b9 + 1) 0) (KO (b9 + 1)))) s9 s14 := hE10.comp hE12 (by intro l hl hk; simp only [KC, KO, KU, K0] at hk ⊢; omega)
        replace hp0 := hp0.up' hE12
        replace hp1 := hp1.up' hE12
        refine k_seq ?_
        refine k_seq ?_
        refine k_region ?_
        refine k_move rfl rfl ?_
        refine k_move rfl rfl ?_
        refine k_len Try.underlying32 rfl hp1.hasLen rfl ?_
        refine k_as (v := .int .i64 (a1.length : Int)) (by simp only [List.length_map]) ?_
        refine k_lss rfl rfl rfl ?_
        refine k_nil ?_
        refine k_keep [(0, _), (1, _), (2, _), (6, _), (7, _), (8, _), (9, _), (10, _), (35, _)] ⟨rfl, rfl, rfl, rfl, rfl, rfl, rfl, rfl, rfl, trivial⟩ ?_
        refine k_cond_dec rfl (fun c15 => ?_) (fun c15 => ?_)
        · -- T
          have h := itT h c15
          refine k_skip ?_
          refine k_seq ?_
          refine k_block ?_
          refine k_seq ?_
          refine k_keep [(0, _), (1, _), (2, _), (6, _), (7, _), (8, _), (9, _), (10, _)] ⟨rfl, rfl, rfl, rfl, rfl, rfl, rfl, rfl, trivial⟩ ?_
          obtain ⟨kj12, hK16, h⟩ := jn_out h
          have hE16 : Step (KU (KO ku7_0) (KC (b9 + 1) 0)) s14 s14 := (Step.refl _).of0 (by first | exact fun _ h => h | (intro c h; simp [KC, KO, KU] at h <;> omega))
          refine k_cutc (X := St × Rd × Bool) [(0, v0), (1, v1), (2, .int .i64 a2), (6, .bool false), (7, S a0), (8, v7_0), (9, .pointer (some ⟨b9, 0, none⟩)), (10, .int .i64 x8)] (fun (xL : St × Rd × Bool) => match xL with | (sl, x13, x14) => []) (fun (xL : St × Rd × Bool) (wL : World) => match xL with | (sl, x13, x14) => sl.w = wL ∧ Step (KU (KO ku7_0) (KC (b9 + 1) 0)) s14 sl ∧ (RdS sl ku7_0 v7_0 x13) ∧ (Blk sl b9 ⟨b9 + 1, 0⟩ [v13, .bool x14] 49) ∧ kj12 x13 x14 = some r) ?_ ?_
          · -- the ways
            refine k_seq ?_
            refine k_region ?_
            refine k_move rfl rfl ?_
            refine k_move rfl rfl ?_
            refine k_eql rfl rfl rfl ?_
            refine k_nil ?_
            refine k_keep [(0, _), (1, _), (2, _), (6, _), (7, _), (8, _), (9, _), (10, _), (40, _)] ⟨rfl, rfl, rfl, rfl, rfl, rfl, rfl, rfl, rfl, trivial⟩ ?_
            refine k_cond_dec rfl (fun c17 => ?_) (fun c17 => ?_)
            · -- T
              have h := itT h c17
              refine k_seq ?_
              refine k_region ?_
              refine k_move rfl rfl ?_
              obtain ⟨x15, hx15, h⟩ := ob h
              refine k_call cal23 rfl (code_Reader_Fail_w  h7_0 hx15) rfl ?_
              rintro s18 vr18 st18 ⟨rfl, h7_0⟩
              have szs18 := st18.size
              have hS : Step K0 s s18 := hS.comp st18 (by intro l hl hk; simp only [KC, KO, KU, K0] at hk ⊢; omega)
              have hE10 : Step (KU (KO ku7_0) (KU (KC (b9 + 1) 0) (KO (b9 + 1)))) s9 s18 := hE10.comp st18 (by intro l hl hk; simp only [KC, KO, KU, K0] at hk ⊢; omega)
              have hE12 : Step (KU (KO ku7_0) (KU (KC (b9 + 1) 0) (KO (b9 + 1)))) s9 s18 := hE12.comp st18 (by intro l hl hk; simp only [KC, KO, KU, K0] at hk ⊢; omega)
              have hE16 : Step (KU (KO ku7_0) (KC (b9 + 1) 0)) s14 s18 := hE16.comp st18 (by intro l hl hk; simp only [KC, KO, KU, K0] at hk ⊢; omega)
              replace hp0 := hp0.up' st18
              replace hp1 := hp1.up' st18
              replace h13 := h13.up' st18
              replace h9 := h9.up' st18
              refine k_nil ?_
              refine k_keep [(0, _), (1, _), (2, _), (6, _), (7, _), (8, _), (9, _), (10, _)] ⟨rfl, rfl, rfl, rfl, rfl, rfl, rfl, rfl, trivial⟩ ?_
              refine k_region ?_
              refine k_move rfl rfl ?_
              refine k_nilCheck rfl rfl ?_
              refine k_field_addr fld49_1 rfl rfl ?_
              refine k_store_c (cs' := [v13, .bool true]) size4 rfl rfl h9 (by first | (simp; done) | omega | (dsimp only; omega)) (CellsOf.lit rfl rfl) rfl rfl rfl ?_
              intro s19 st19 h9
              have szs19 := st19.size
              have hS : Step K0 s s19 := hS.comp st19 (by intro l hl hk; simp only [KC, KO, KU, K0] at hk ⊢; omega)
              have hE10 : Step (KU (KO ku7_0) (KU (KC (b9 + 1) 0) (KO (b9 + 1)))) s9 s19 := hE10.comp st19 (by intro l hl hk; simp only [KC, KO, KU, K0] at hk ⊢; omega)
              have hE12 : Step (KU (KO ku7_0) (KU (KC (b9 + 1) 0) (KO (b9 + 1)))) s9 s19 := hE12.comp st19 (by intro l hl hk; simp only [KC, KO, KU, K0] at hk ⊢; omega)
              have hE16 : Step (KU (KO ku7_0) (KC (b9 + 1) 0)) s14 s19 := hE16.comp st19 (by intro l hl hk; simp only [KC, KO, KU, K0] at hk ⊢; omega)
              replace hp0 := hp0.up' st19
              replace hp1 := hp1.up' st19
              replace h7_0 := h7_0.up' st19
              replace h13 := h13.up' st19
              refine k_nil ?_
              exact k_stop ⟨(s19, x15, true), trivial, ⟨rfl, rfl, rfl, rfl, rfl, rfl, rfl, rfl, trivial⟩, ⟨rfl, hE16, h7_0, h9, h⟩⟩
            · -- F
              have h := itF h c17
              refine k_skip ?_
              exact k_stop ⟨(s14, x9, x11), trivial, ⟨rfl, rfl, rfl, rfl, rfl, rfl, rfl, rfl, trivial⟩, ⟨rfl, hE16, h7_0, h9, h⟩⟩
          · -- behind
            rintro ⟨s20, x13, x14⟩ wL ⟨rfl, hE16, h7_0, h9, h⟩
            rw [hK16] at h
            have szs20 := hE16.size
            have hS : Step K0 s s20 := hS.comp hE16 (by intro l hl hk; simp only [KC, KO, KU, K0] at hk ⊢; omega)
            have hE10 : Step (KU (KO ku7_0) (KU (KC (b9 + 1) 0) (KO (b9 + 1)))) s9 s20 := hE10.comp hE16 (by intro l hl hk; simp only [KC, KO, KU, K0] at hk ⊢; omega)
            have hE12 : Step (KU (KO ku7_0) (KU (KC (b9 + 1) 0) (KO (b9 + 1)))) s9 s20 := hE12.comp hE16 (by intro l hl hk; simp only [KC, KO, KU, K0] at hk ⊢; omega)
            replace hp0 := hp0.up' hE16
            replace hp1 := hp1.up' hE16
            replace h13 := h13.up' hE16
            refine k_seq ?_
            refine k_region ?_
            refine k_move rfl rfl ?_
            refine k_move rfl rfl ?_
            refine k_move rfl rfl ?_
            obtain ⟨x16, hx16, h⟩ := ob h
            refine k_ixaddr Try.underlying32 size36 rfl rfl hp1 (geti_out hx16).1 (geti_map hx16) rfl ?_
            intro qx16 hqx16
            refine k_load_agg (by exact agg36) rfl hqx16 rfl ?_
            intro cs21 h21
            obtain rfl := opnLaw02Item h21
            obtain ⟨x17, hx17, h⟩ := ob h
            refine k_call cal24 rfl (law02_read_w  h7_0 (clsLaw02Item x16) hx17) rfl ?_
            rintro s22 vr22 st22 ⟨rfl, h7_0⟩
            have szs22 := st22.size
            have hS : Step K0 s s22 := hS.comp st22 (by intro l hl hk; simp only [KC, KO, KU, K0] at hk ⊢; omega)
            have hE10 : Step (KU (KO ku7_0) (KU (KC (b9 + 1) 0) (KO (b9 + 1)))) s9 s22 := hE10.comp st22 (by intro l hl hk; simp only [KC, KO, KU, K0] at hk ⊢; omega)
            have hE12 : Step (KU (KO ku7_0) (KU (KC (b9 + 1) 0) (KO (b9 + 1)))) s9 s22 := hE12.comp st22 (by intro l hl hk; simp only [KC, KO, KU, K0] at hk ⊢; omega)
            replace hp0 := hp0.up' st22
            replace hp1 := hp1.up' st22
            replace hqx16 := hqx16.up' st22
            replace h13 := h13.up' st22
            replace h9 := h9.up' st22
            refine k_move rfl rfl ?_
            refine k_extract rfl rfl rfl ?_
            refine k_extract rfl rfl rfl ?_
            refine k_assign rfl rfl ?_
            refine k_assign rfl rfl ?_
            refine k_nil ?_
            refine k_keep [(0, _), (1, _), (2, _), (6, _), (7, _), (8, _), (9, _), (10, _), (11, _), (12, _)] ⟨rfl, rfl, rfl, rfl, rfl, rfl, rfl, rfl, rfl, rfl, trivial⟩ ?_
            refine k_seq ?_
            refine k_region ?_
            refine k_move rfl rfl ?_
            refine k_move rfl rfl ?_
            refine k_move rfl rfl ?_
            obtain ⟨x18, hx18, h⟩ := ob h
            refine k_ixaddr Try.underlying32 size36 rfl rfl hp1 (geti_out hx18).1 (geti_map hx18) rfl ?_
            intro qx18 hqx18
            refine k_load_agg (by exact agg36) rfl hqx18 rfl ?_
            intro cs23 h23
            obtain rfl := opnLaw02Item h23
            obtain ⟨x19, hx19, h⟩ := ob h
            refine k_call cal25 rfl (law02_meant_w  (ORef02Reader.mk_ (⟨x10, x14⟩ : Ref02Reader) (by omega) h13 h9) (clsLaw02Item x18) hx19) rfl ?_
            rintro s24 vr24 st24 ⟨rfl, hm24_0⟩
            obtain ⟨w24_0_0, hb_24_0, hw24_0_0⟩ := hm24_0.at_
            have szs24 := st24.size
            have hS : Step K0 s s24 := hS.comp st24 (by intro l hl hk; simp only [KC, KO, KU, K0] at hk ⊢; omega)
            have hE10 : Step (KU (KO ku7_0) (KU (KC (b9 + 1) 0) (KO (b9 + 1)))) s9 s24 := hE10.comp st24 (by intro l hl hk; simp only [KC, KO, KU, K0] at hk ⊢; omega)
            have hE12 : Step (KU (KO ku7_0) (KU (KC (b9 + 1) 0) (KO (b9 + 1)))) s9 s24 := hE12.comp st24 (by intro l hl hk; simp only [KC, KO, KU, K0] at hk ⊢; omega)
            replace hp0 := hp0.up' st24
            replace hp1 := hp1.up' st24
            replace hqx18 := hqx18.up' st24
            replace h7_0 := h7_0.up' st24
            refine k_move rfl rfl ?_
            refine k_extract rfl rfl rfl ?_
            refine k_extract rfl rfl rfl ?_
            refine k_assign rfl rfl ?_
            refine k_assign rfl rfl ?_
            refine k_nil ?_
            refine k_keep [(0, _), (1, _), (2, _), (6, _), (7, _), (8, _), (9, _), (10, _), (11, _), (12, _), (13, _), (14, _)] ⟨rfl, rfl, rfl, rfl, rfl, rfl, rfl, rfl, rfl, rfl, rfl, rfl, trivial⟩ ?_
            refine k_seq ?_
            refine k_draw K0 31 [(false, 0), (false, 1), (false, 2), (false, 3), (false, 4), (false, 5), (false, 6), (false, 7), (false, 8), (false, 9), (false, 11), (false, 12), (false, 13), (false, 14), (false, 15), (false, 16), (false, 17), (false, 18), (true, 10), (false, 19), (false, 20), (false, 21), (false, 22), (false, 25), (false, 26), (false, 27), (false, 28), (true, 23), (false, 24), (false, 29), (false, 30)] mixed (fun _ h => h) rfl rfl ?_
            intro s25 st25
            have szs25 := st25.size
            have hS : Step K0 s s25 := hS.trans0 st25
            have hE10 : Step (KU (KO ku7_0) (KU (KC (b9 + 1) 0) (KO (b9 + 1)))) s9 s25 := hE10.trans0 st25
            have hE12 : Step (KU (KO ku7_0) (KU (KC (b9 + 1) 0) (KO (b9 + 1)))) s9 s25 := hE12.trans0 st25
            replace hp0 := hp0.up' st25
            replace hp1 := hp1.up' st25
            replace h7_0 := h7_0.up' st25
            replace hw24_0_0 := hw24_0_0.up' st25
            replace hb_24_0 := hb_24_0.up' st25
            refine rd_read (.int .u64 (x17.1.toNat : Int)) rfl rfl (fun s26 st26 => ?_) ?_
            · try replace hp0 := hp0.up' st26
              try replace hp1 := hp1.up' st26
              try replace h7_0 := h7_0.up' st26
              try replace hw24_0_0 := hw24_0_0.up' st26
              try replace hb_24_0 := hb_24_0.up' st26
              refine k_move rfl rfl ?_
              exact fq_end
            refine rd_read (.int .u64 (x19.1.toNat : Int)) rfl rfl (fun s27 st27 => ?_) ?_
            · try replace hp0 := hp0.up' st27
              try replace hp1 := hp1.up' st27
              try replace h7_0 := h7_0.up' st27
              try replace hw24_0_0 := hw24_0_0.up' st27
              try replace hb_24_0 := hb_24_0.up' st27
              refine k_move rfl rfl ?_
              exact fq_end
            refine rd_read (.bool (decide ((x17.1.toNat : Int) ≠ (x19.1.toNat : Int)))) rfl rfl (fun s28 st28 => ?_) ?_
            · try replace hp0 := hp0.up' st28
              try replace hp1 := hp1.up' st28
              try replace h7_0 := h7_0.up' st28
              try replace hw24_0_0 := hw24_0_0.up' st28
              try replace hb_24_0 := hb_24_0.up' st28
              refine k_neq rfl rfl rfl ?_
              exact fq_end
            refine rd_read (.bool (decide ((x17.1.toNat : Int) ≠ (x19.1.toNat : Int)))) rfl rfl (fun s29 st29 => ?_) ?_
            · try replace hp0 := hp0.up' st29
              try replace hp1 := hp1.up' st29
              try replace h7_0 := h7_0.up' st29
              try replace hw24_0_0 := hw24_0_0.up' st29
              try replace hb_24_0 := hb_24_0.up' st29
              refine k_move rfl rfl ?_
              exact fq_end
            refine rd_split (fun c30 => ?_) (fun c30 => ?_)
            · -- t67 True
              have h := itT h c30
              refine rd_read undef rfl rfl (fun s31 st31 => ?_) ?_
              · refine k_no rfl rfl rfl rfl ?_
                exact fq_end
              refine rd_read undef rfl rfl (fun s32 st32 => ?_) ?_
              · refine k_no rfl rfl rfl rfl ?_
                exact fq_end
              refine rd_read undef rfl rfl (fun s33 st33 => ?_) ?_
              · refine k_no rfl rfl rfl rfl ?_
                exact fq_end
              refine rd_read (.bool true) rfl rfl (fun s34 st34 => ?_) ?_
              · try replace hp0 := hp0.up' st34
                try replace hp1 := hp1.up' st34
                try replace h7_0 := h7_0.up' st34
                try replace hw24_0_0 := hw24_0_0.up' st34
                try replace hb_24_0 := hb_24_0.up' st34
                refine k_pickT rfl rfl rfl rfl ?_
                exact fq_end
              refine rd_read (.bool true) rfl rfl (fun s35 st35 => ?_) ?_
              · try replace hp0 := hp0.up' st35
                try replace hp1 := hp1.up' st35
                try replace h7_0 := h7_0.up' st35
                try replace hw24_0_0 := hw24_0_0.up' st35
                try replace hb_24_0 := hb_24_0.up' st35
                refine k_move rfl rfl ?_
                exact fq_end
              refine rd_read undef rfl rfl (fun s36 st36 => ?_) ?_
              · refine k_no rfl rfl rfl rfl ?_
                exact fq_end
              refine rd_read undef rfl rfl (fun s37 st37 => ?_) ?_
              · refine k_no rfl rfl rfl rfl ?_
                exact fq_end
              refine rd_read undef rfl rfl (fun s38 st38 => ?_) ?_
              · refine k_no rfl rfl rfl rfl ?_
                exact fq_end
              refine rd_read undef rfl rfl (fun s39 st39 => ?_) ?_
              · refine k_no rfl rfl rfl rfl ?_
                exact fq_end
              refine rd_read undef rfl rfl (fun s40 st40 => ?_) ?_
              · refine k_no rfl rfl rfl rfl ?_
                exact fq_end
              refine rd_read undef rfl rfl (fun s41 st41 => ?_) ?_
              · refine k_no rfl rfl rfl rfl ?_
                exact fq_end
              refine rd_read undef rfl rfl (fun s42 st42 => ?_) ?_
              · refine k_no rfl rfl rfl rfl ?_
                exact fq_end
              refine rd_read undef rfl rfl (fun s43 st43 => ?_) ?_
              · refine k_no rfl rfl rfl rfl ?_
                exact fq_end
              refine rd_read undef rfl rfl (fun s44 st44 => ?_) ?_
              · refine k_no rfl rfl rfl rfl ?_
                exact fq_end
              refine rd_act rfl rfl ?_
              refine k_no rfl rfl rfl rfl ?_
              refine rd_cont (Step.refl _) ?_
              refine rd_read undef rfl rfl (fun s45 st45 => ?_) ?_
              · refine k_no rfl rfl rfl rfl ?_
                exact fq_end
              refine rd_read (.bool true) rfl rfl (fun s46 st46 => ?_) ?_
              · try replace hp0 := hp0.up' st46
                try replace hp1 := hp1.up' st46
                try replace h7_0 := h7_0.up' st46
                try replace hw24_0_0 := hw24_0_0.up' st46
                try replace hb_24_0 := hb_24_0.up' st46
                refine k_pickT rfl rfl rfl rfl ?_
                exact fq_end
              refine rd_read (.bool true) rfl rfl (fun s47 st47 => ?_) ?_
              · try replace hp0 := hp0.up' st47
                try replace hp1 := hp1.up' st47
                try replace h7_0 := h7_0.up' st47
                try replace hw24_0_0 := hw24_0_0.up' st47
                try replace hb_24_0 := hb_24_0.up' st47
                refine k_move rfl rfl ?_
                exact fq_end
              refine rd_read undef rfl rfl (fun s48 st48 => ?_) ?_
              · refine k_no rfl rfl rfl rfl ?_
                exact fq_end
              refine rd_read undef rfl rfl (fun s49 st49 => ?_) ?_
              · refine k_no rfl rfl rfl rfl ?_
                exact fq_end
              refine rd_read undef rfl rfl (fun s50 st50 => ?_) ?_
              · refine k_no rfl rfl rfl rfl ?_
                exact fq_end
              refine rd_read undef rfl rfl (fun s51 st51 => ?_) ?_
              · refine k_no rfl rfl rfl rfl ?_
                exact fq_end
              refine rd_read undef rfl rfl (fun s52 st52 => ?_) ?_
              · refine k_no rfl rfl rfl rfl ?_
                exact fq_end
              refine rd_act rfl rfl ?_
              refine k_no rfl rfl rfl rfl ?_
              refine rd_cont (Step.refl _) ?_
              refine rd_read undef rfl rfl (fun s53 st53 => ?_) ?_
              · refine k_no rfl rfl rfl rfl ?_
                exact fq_end
              refine rd_read undef rfl rfl (fun s54 st54 => ?_) ?_
              · refine k_no rfl rfl rfl rfl ?_
                exact fq_end
              refine rd_read (.bool true) rfl rfl (fun s55 st55 => ?_) ?_
              · try replace hp0 := hp0.up' st55
                try replace hp1 := hp1.up' st55
                try replace h7_0 := h7_0.up' st55
                try replace hw24_0_0 := hw24_0_0.up' st55
                try replace hb_24_0 := hb_24_0.up' st55
                refine k_pickT rfl rfl rfl rfl ?_
                exact fq_end
              refine rd_nil ?_
              refine k_nil ?_
              refine k_keep [(0, _), (1, _), (2, _), (6, _), (7, _), (8, _), (9, _), (10, _), (94, _)] ⟨rfl, rfl, rfl, rfl, rfl, rfl, rfl, rfl, rfl, trivial⟩ ?_
              refine k_cond_true rfl ?_
              refine k_seq ?_
              refine k_region ?_
              refine k_assign rfl rfl ?_
              refine k_nil ?_
              refine k_keep [(0, _), (1, _), (2, _), (6, _), (7, _), (8, _), (9, _), (10, _)] ⟨rfl, rfl, rfl, rfl, rfl, rfl, rfl, rfl, trivial⟩ ?_
              refine k_ret ?_
              obtain rfl := Option.some.inj h
              refine ⟨_, rfl, Ret.mk hS ?_⟩
              exact rfl
            · -- t67 False
              have h := itF h c30
              refine rd_read (S x17.2.1) rfl rfl (fun s56 st56 => ?_) ?_
              · try replace hp0 := hp0.up' st56
                try replace hp1 := hp1.up' st56
                try replace h7_0 := h7_0.up' st56
                try replace hw24_0_0 := hw24_0_0.up' st56
                try replace hb_24_0 := hb_24_0.up' st56
                refine k_yes rfl rfl ?_
                refine k_move rfl rfl ?_
                exact fq_end
              refine rd_read (S x19.2.1) rfl rfl (fun s57 st57 => ?_) ?_
              · try replace hp0 := hp0.up' st57
                try replace hp1 := hp1.up' st57
                try replace h7_0 := h7_0.up' st57
                try replace hw24_0_0 := hw24_0_0.up' st57
                try replace hb_24_0 := hb_24_0.up' st57
                refine k_yes rfl rfl ?_
                refine k_move rfl rfl ?_
                exact fq_end
              refine rd_read (.bool (decide (x17.2.1 ≠ x19.2.1))) rfl rfl (fun s58 st58 => ?_) ?_
              · try replace hp0 := hp0.up' st58
                try replace hp1 := hp1.up' st58
                try replace h7_0 := h7_0.up' st58
                try replace hw24_0_0 := hw24_0_0.up' st58
                try replace hb_24_0 := hb_24_0.up' st58
                refine k_yes rfl rfl ?_
                refine k_neq_str rfl rfl rfl ?_
                exact fq_end
              refine rd_read (.bool (decide (x17.2.1 ≠ x19.2.1))) rfl rfl (fun s59 st59 => ?_) ?_
              · try replace hp0 := hp0.up' st59
                try replace hp1 := hp1.up' st59
                try replace h7_0 := h7_0.up' st59
                try replace hw24_0_0 := hw24_0_0.up' st59
                try replace hb_24_0 := hb_24_0.up' st59
                refine k_pickF rfl rfl rfl rfl ?_
                exact fq_end
              refine rd_read (.bool (decide (x17.2.1 ≠ x19.2.1))) rfl rfl (fun s60 st60 => ?_) ?_
              · try replace hp0 := hp0.up' st60
                try replace hp1 := hp1.up' st60
                try replace h7_0 := h7_0.up' st60
                try replace hw24_0_0 := hw24_0_0.up' st60
                try replace hb_24_0 := hb_24_0.up' st60
                refine k_move rfl rfl ?_
                exact fq_end
              refine rd_split (fun c61 => ?_) (fun c61 => ?_)
              · -- t72 True
                have h := itT h c61
                refine rd_read undef rfl rfl (fun s62 st62 => ?_) ?_
                · refine k_no rfl rfl rfl rfl ?_
                  exact fq_end
                refine rd_read undef rfl rfl (fun s63 st63 => ?_) ?_
                · refine k_no rfl rfl rfl rfl ?_
                  exact fq_end
                refine rd_read undef rfl rfl (fun s64 st64 => ?_) ?_
                · refine k_no rfl rfl rfl rfl ?_
                  exact fq_end
                refine rd_read undef rfl rfl (fun s65 st65 => ?_) ?_
                · refine k_no rfl rfl rfl rfl ?_
                  exact fq_end
                refine rd_read undef rfl rfl (fun s66 st66 => ?_) ?_
                · refine k_no rfl rfl rfl rfl ?_
                  exact fq_end
                refine rd_read undef rfl rfl (fun s67 st67 => ?_) ?_
                · refine k_no rfl rfl rfl rfl ?_
                  exact fq_end
                refine rd_read undef rfl rfl (fun s68 st68 => ?_) ?_
                · refine k_no rfl rfl rfl rfl ?_
                  exact fq_end
                refine rd_read undef rfl rfl (fun s69 st69 => ?_) ?_
                · refine k_no rfl rfl rfl rfl ?_
                  exact fq_end
                refine rd_read undef rfl rfl (fun s70 st70 => ?_) ?_
                · refine k_no rfl rfl rfl rfl ?_
                  exact fq_end
                refine rd_act rfl rfl ?_
                refine k_no rfl rfl rfl rfl ?_
                refine rd_cont (Step.refl _) ?_
                refine rd_read undef rfl rfl (fun s71 st71 => ?_) ?_
                · refine k_no rfl rfl rfl rfl ?_
                  exact fq_end
                refine rd_read (.bool true) rfl rfl (fun s72 st72 => ?_) ?_
                · try replace hp0 := hp0.up' st72
                  try replace hp1 := hp1.up' st72
                  try replace h7_0 := h7_0.up' st72
                  try replace hw24_0_0 := hw24_0_0.up' st72
                  try replace hb_24_0 := hb_24_0.up' st72
                  refine k_pickT rfl rfl rfl rfl ?_
                  exact fq_end
                refine rd_read (.bool true) rfl rfl (fun s73 st73 => ?_) ?_
                · try replace hp0 := hp0.up' st73
                  try replace hp1 := hp1.up' st73
                  try replace h7_0 := h7_0.up' st73
                  try replace hw24_0_0 := hw24_0_0.up' st73
                  try replace hb_24_0 := hb_24_0.up' st73
                  refine k_move rfl rfl ?_
                  exact fq_end
                refine rd_read undef rfl rfl (fun s74 st74 => ?_) ?_
                · refine k_no rfl rfl rfl rfl ?_
                  exact fq_end
                refine rd_read undef rfl rfl (fun s75 st75 => ?_) ?_
                · refine k_no rfl rfl rfl rfl ?_
                  exact fq_end
                refine rd_read undef rfl rfl (fun s76 st76 => ?_) ?_
                · refine k_no rfl rfl rfl rfl ?_
                  exact fq_end
                refine rd_read undef rfl rfl (fun s77 st77 => ?_) ?_
                · refine k_no rfl rfl rfl rfl ?_
                  exact fq_end
                refine rd_read undef rfl rfl (fun s78 st78 => ?_) ?_
                · refine k_no rfl rfl rfl rfl ?_
                  exact fq_end
                refine rd_act rfl rfl ?_
                refine k_no rfl rfl rfl rfl ?_
                refine rd_cont (Step.refl _) ?_
                refine rd_read undef rfl rfl (fun s79 st79 => ?_) ?_
                · refine k_no rfl rfl rfl rfl ?_
                  exact fq_end
                refine rd_read undef rfl rfl (fun s80 st80 => ?_) ?_
                · refine k_no rfl rfl rfl rfl ?_
                  exact fq_end
                refine rd_read (.bool true) rfl rfl (fun s81 st81 => ?_) ?_
                · try replace hp0 := hp0.up' st81
                  try replace hp1 := hp1.up' st81
                  try replace h7_0 := h7_0.up' st81
                  try replace hw24_0_0 := hw24_0_0.up' st81
                  try replace hb_24_0 := hb_24_0.up' st81
                  refine k_pickT rfl rfl rfl rfl ?_
                  exact fq_end
                refine rd_nil ?_
                refine k_nil ?_
                refine k_keep [(0, _), (1, _), (2, _), (6, _), (7, _), (8, _), (9, _), (10, _), (94, _)] ⟨rfl, rfl, rfl, rfl, rfl, rfl, rfl, rfl, rfl, trivial⟩ ?_
                refine k_cond_true rfl ?_
                refine k_seq ?_
                refine k_region ?_
                refine k_assign rfl rfl ?_
                refine k_nil ?_
                refine k_keep [(0, _), (1, _), (2, _), (6, _), (7, _), (8, _), (9, _), (10, _)] ⟨rfl, rfl, rfl, rfl, rfl, rfl, rfl, rfl, trivial⟩ ?_
                refine k_ret ?_
                obtain rfl := Option.some.inj h
                refine ⟨_, rfl, Ret.mk hS ?_⟩
                exact rfl
              · -- t72 False
                have h := itF h c61
                refine rd_read (v7_0) rfl rfl (fun s82 st82 => ?_) ?_
                · try replace hp0 := hp0.up' st82
                  try replace hp1 := hp1.up' st82
                  try replace h7_0 := h7_0.up' st82
                  try replace hw24_0_0 := hw24_0_0.up' st82
                  try replace hb_24_0 := hb_24_0.up' st82
                  refine k_yes rfl rfl ?_
                  refine k_move rfl rfl ?_
                  exact fq_end
                refine rd_read (S a0) rfl rfl (fun s83 st83 => ?_) ?_
                · try replace hp0 := hp0.up' st83
                  try replace hp1 := hp1.up' st83
                  try replace h7_0 := h7_0.up' st83
                  try replace hw24_0_0 := hw24_0_0.up' st83
                  try replace hb_24_0 := hb_24_0.up' st83
                  refine k_yes rfl rfl ?_
                  refine k_move rfl rfl ?_
                  exact fq_end
                refine rd_read (.int .i64 (a0.length : Int)) rfl rfl (fun s84 st84 => ?_) ?_
                · try replace hp0 := hp0.up' st84
                  try replace hp1 := hp1.up' st84
                  try replace h7_0 := h7_0.up' st84
                  try replace hw24_0_0 := hw24_0_0.up' st84
                  try replace hb_24_0 := hb_24_0.up' st84
                  refine k_yes rfl rfl ?_
                  refine k_len_str Try.underlying9 rfl rfl ?_
                  exact fq_end
                refine rd_read (.pointer (some ⟨b9, 0, none⟩)) rfl rfl (fun s85 st85 => ?_) ?_
                · try replace hp0 := hp0.up' st85
                  try replace hp1 := hp1.up' st85
                  try replace h7_0 := h7_0.up' st85
                  try replace hw24_0_0 := hw24_0_0.up' st85
                  try replace hb_24_0 := hb_24_0.up' st85
                  refine k_yes rfl rfl ?_
                  refine k_move rfl rfl ?_
                  exact fq_end
                refine rd_read (.pointer (some ⟨b9, 0, none⟩)) rfl rfl (fun s86 st86 => ?_) ?_
                · try replace hp0 := hp0.up' st86
                  try replace hp1 := hp1.up' st86
                  try replace h7_0 := h7_0.up' st86
                  try replace hw24_0_0 := hw24_0_0.up' st86
                  try replace hb_24_0 := hb_24_0.up' st86
                  refine k_yes rfl rfl ?_
                  refine k_nilCheck rfl rfl ?_
                  exact fq_end
                refine rd_read (.pointer (some ⟨b9, 0, none⟩)) rfl rfl (fun s87 st87 => ?_) ?_
                · try replace hp0 := hp0.up' st87
                  try replace hp1 := hp1.up' st87
                  try replace h7_0 := h7_0.up' st87
                  try replace hw24_0_0 := hw24_0_0.up' st87
                  try replace hb_24_0 := hb_24_0.up' st87
                  refine k_yes rfl rfl ?_
                  refine k_field_addr fld49_0 rfl rfl ?_
                  exact fq_end
                refine rd_read (w24_0_0) rfl rfl (fun s88 st88 => ?_) ?_
                · try replace hp0 := hp0.up' st88
                  try replace hp1 := hp1.up' st88
                  try replace h7_0 := h7_0.up' st88
                  try replace hw24_0_0 := hw24_0_0.up' st88
                  try replace hb_24_0 := hb_24_0.up' st88
                  refine k_yes rfl rfl ?_
                  refine k_load_blk one27 rfl hb_24_0 rfl rfl ?_
                  exact fq_end
                refine rd_read (.int .i64 (x19.2.2.B.length : Int)) rfl rfl (fun s89 st89 => ?_) ?_
                · try replace hp0 := hp0.up' st89
                  try replace hp1 := hp1.up' st89
                  try replace hw24_0_0 := hw24_0_0.up' st89
                  try replace h7_0 := h7_0.up' st89
                  try replace hb_24_0 := hb_24_0.up' st89
                  refine k_yes rfl rfl ?_
                  refine k_len Try.underlying27 rfl (SL.of_R hw24_0_0).hasLen rfl ?_
                  refine k_as (v := .int .i64 (x19.2.2.B.length : Int)) (by simp only [List.length_map]) ?_
                  exact fq_end
                refine rd_read (.int .i64 (i64 ((a0.length : Int) - (x19.2.2.B.length : Int)))) rfl rfl (fun s90 st90 => ?_) ?_
                · try replace hp0 := hp0.up' st90
                  try replace hp1 := hp1.up' st90
                  try replace hw24_0_0 := hw24_0_0.up' st90
                  try replace h7_0 := h7_0.up' st90
                  try replace hb_24_0 := hb_24_0.up' st90
                  refine k_yes rfl rfl ?_
                  refine k_sub_ rfl rfl rfl ?_
                  exact fq_end
                refine rd_act rfl rfl ?_
                refine k_yes rfl rfl ?_
                obtain ⟨x20, hx20, h⟩ := ob h
                refine k_call cal26 rfl (code_Reader_At_w  h7_0 hx20) rfl ?_
                rintro s91 vr91 st91 rfl
                have szs91 := st91.size
                have hS : Step K0 s s91 := hS.trans0 st91
                have hE10 : Step (KU (KO ku7_0) (KU (KC (b9 + 1) 0) (KO (b9 + 1)))) s9 s91 := hE10.trans0 st91
                have hE12 : Step (KU (KO ku7_0) (KU (KC (b9 + 1) 0) (KO (b9 + 1)))) s9 s91 := hE12.trans0 st91
                replace hp0 := hp0.up' st91
                replace hp1 := hp1.up' st91
                replace hw24_0_0 := hw24_0_0.up' st91
                replace h7_0 := h7_0.up' st91
                replace hb_24_0 := hb_24_0.up' st91
                refine rd_cont (st91) ?_
                refine rd_read (.bool (decide (x20 ≠ i64 ((a0.length : Int) - (x19.2.2.B.length : Int))))) rfl rfl (fun s92 st92 => ?_) ?_
                · try replace hp0 := hp0.up' st92
                  try replace hp1 := hp1.up' st92
                  try replace hw24_0_0 := hw24_0_0.up' st92
                  try replace h7_0 := h7_0.up' st92
                  try replace hb_24_0 := hb_24_0.up' st92
                  refine k_yes rfl rfl ?_
                  refine k_neq rfl rfl rfl ?_
                  exact fq_end
                refine rd_read (.bool (decide (x20 ≠ i64 ((a0.length : Int) - (x19.2.2.B.length : Int))))) rfl rfl (fun s93 st93 => ?_) ?_
                · try replace hp0 := hp0.up' st93
                  try replace hp1 := hp1.up' st93
                  try replace hw24_0_0 := hw24_0_0.up' st93
                  try replace h7_0 := h7_0.up' st93
                  try replace hb_24_0 := hb_24_0.up' st93
                  refine k_pickF rfl rfl rfl rfl ?_
                  exact fq_end
                refine rd_read (.bool (decide (x20 ≠ i64 ((a0.length : Int) - (x19.2.2.B.length : Int))))) rfl rfl (fun s94 st94 => ?_) ?_
                · try replace hp0 := hp0.up' st94
                  try replace hp1 := hp1.up' st94
                  try replace hw24_0_0 := hw24_0_0.up' st94
                  try replace h7_0 := h7_0.up' st94
                  try replace hb_24_0 := hb_24_0.up' st94
                  refine k_move rfl rfl ?_
                  exact fq_end
                refine rd_split (fun c95 => ?_) (fun c95 => ?_)
                · -- t85 True
                  have h := itT h c95
                  refine rd_read undef rfl rfl (fun s96 st96 => ?_) ?_
                  · refine k_no rfl rfl rfl rfl ?_
                    exact fq_end
                  refine rd_read undef rfl rfl (fun s97 st97 => ?_) ?_
                  · refine k_no rfl rfl rfl rfl ?_
                    exact fq_end
                  refine rd_read undef rfl rfl (fun s98 st98 => ?_) ?_
                  · refine k_no rfl rfl rfl rfl ?_
                    exact fq_end
                  refine rd_read undef rfl rfl (fun s99 st99 => ?_) ?_
                  · refine k_no rfl rfl rfl rfl ?_
                    exact fq_end
                  refine rd_read undef rfl rfl (fun s100 st100 => ?_) ?_
                  · refine k_no rfl rfl rfl rfl ?_
                    exact fq_end
                  refine rd_act rfl rfl ?_
                  refine k_no rfl rfl rfl rfl ?_
                  refine rd_cont (Step.refl _) ?_
                  refine rd_read undef rfl rfl (fun s101 st101 => ?_) ?_
                  · refine k_no rfl rfl rfl rfl ?_
                    exact fq_end
                  refine rd_read undef rfl rfl (fun s102 st102 => ?_) ?_
                  · refine k_no rfl rfl rfl rfl ?_
                    exact fq_end
                  refine rd_read (.bool true) rfl rfl (fun s103 st103 => ?_) ?_
                  · try replace hp0 := hp0.up' st103
                    try replace hp1 := hp1.up' st103
                    try replace hw24_0_0 := hw24_0_0.up' st103
                    try replace h7_0 := h7_0.up' st103
                    try replace hb_24_0 := hb_24_0.up' st103
                    refine k_pickT rfl rfl rfl rfl ?_
                    exact fq_end
                  refine rd_nil ?_
                  refine k_nil ?_
                  refine k_keep [(0, _), (1, _), (2, _), (6, _), (7, _), (8, _), (9, _), (10, _), (94, _)] ⟨rfl, rfl, rfl, rfl, rfl, rfl, rfl, rfl, rfl, trivial⟩ ?_
                  refine k_cond_true rfl ?_
                  refine k_seq ?_
                  refine k_region ?_
                  refine k_assign rfl rfl ?_
                  refine k_nil ?_
                  refine k_keep [(0, _), (1, _), (2, _), (6, _), (7, _), (8, _), (9, _), (10, _)] ⟨rfl, rfl, rfl, rfl, rfl, rfl, rfl, rfl, trivial⟩ ?_
                  refine k_ret ?_
                  obtain rfl := Option.some.inj h
                  refine ⟨_, rfl, Ret.mk hS ?_⟩
                  exact rfl
                · -- t85 False
                  have h := itF h c95
                  refine rd_read (v7_0) rfl rfl (fun s104 st104 => ?_) ?_
                  · try replace hp0 := hp0.up' st104
                    try replace hp1 := hp1.up' st104
                    try replace hw24_0_0 := hw24_0_0.up' st104
                    try replace h7_0 := h7_0.up' st104
                    try replace hb_24_0 := hb_24_0.up' st104
                    refine k_yes rfl rfl ?_
                    refine k_move rfl rfl ?_
                    exact fq_end
                  refine rd_read (.pointer (some ⟨b9, 0, none⟩)) rfl rfl (fun s105 st105 => ?_) ?_
                  · try replace hp0 := hp0.up' st105
                    try replace hp1 := hp1.up' st105
                    try replace hw24_0_0 := hw24_0_0.up' st105
                    try replace h7_0 := h7_0.up' st105
                    try replace hb_24_0 := hb_24_0.up' st105
                    refine k_yes rfl rfl ?_
                    refine k_move rfl rfl ?_
                    exact fq_end
                  refine rd_read (.pointer (some ⟨b9, 0, none⟩)) rfl rfl (fun s106 st106 => ?_) ?_
                  · try replace hp0 := hp0.up' st106
                    try replace hp1 := hp1.up' st106
                    try replace hw24_0_0 := hw24_0_0.up' st106
                    try replace h7_0 := h7_0.up' st106
                    try replace hb_24_0 := hb_24_0.up' st106
                    refine k_yes rfl rfl ?_
                    refine k_nilCheck rfl rfl ?_
                    exact fq_end
                  refine rd_read (.pointer (some ⟨b9, 1, none⟩)) rfl rfl (fun s107 st107 => ?_) ?_
                  · try replace hp0 := hp0.up' st107
                    try replace hp1 := hp1.up' st107
                    try replace hw24_0_0 := hw24_0_0.up' st107
                    try replace h7_0 := h7_0.up' st107
                    try replace hb_24_0 := hb_24_0.up' st107
                    refine k_yes rfl rfl ?_
                    refine k_field_addr fld49_1 rfl rfl ?_
                    exact fq_end
                  refine rd_read (.bool x19.2.2.Bad) rfl rfl (fun s108 st108 => ?_) ?_
                  · try replace hp0 := hp0.up' st108
                    try replace hp1 := hp1.up' st108
                    try replace hw24_0_0 := hw24_0_0.up' st108
                    try replace h7_0 := h7_0.up' st108
                    try replace hb_24_0 := hb_24_0.up' st108
                    refine k_yes rfl rfl ?_
                    refine k_load_blk one4 rfl hb_24_0 rfl rfl ?_
                    exact fq_end
                  refine rd_act rfl rfl ?_
                  refine k_yes rfl rfl ?_
                  obtain ⟨x21, hx21, h⟩ := ob h
                  refine k_call cal27 rfl (code_Reader_Err_w  h7_0 hx21) rfl ?_
                  rintro s109 vr109 st109 rfl
                  have szs109 := st109.size
                  have hS : Step K0 s s109 := hS.trans0 st109
                  have hE10 : Step (KU (KO ku7_0) (KU (KC (b9 + 1) 0) (KO (b9 + 1)))) s9 s109 := hE10.trans0 st109
                  have hE12 : Step (KU (KO ku7_0) (KU (KC (b9 + 1) 0) (KO (b9 + 1)))) s9 s109 := hE12.trans0 st109
                  replace hp0 := hp0.up' st109
                  replace hp1 := hp1.up' st109
                  replace hw24_0_0 := hw24_0_0.up' st109
                  replace h7_0 := h7_0.up' st109
                  replace hb_24_0 := hb_24_0.up' st109
                  refine rd_cont (st109) ?_
                  refine rd_read (.bool (decide (x21 = 0))) rfl rfl (fun s110 st110 => ?_) ?_
                  · try replace hp0 := hp0.up' st110
                    try replace hp1 := hp1.up' st110
                    try replace hw24_0_0 := hw24_0_0.up' st110
                    try replace h7_0 := h7_0.up' st110
                    try replace hb_24_0 := hb_24_0.up' st110
                    refine k_yes rfl rfl ?_
                    refine k_eql rfl rfl rfl ?_
                    exact fq_end
                  refine rd_read (.bool (decide (x21 = 0) == x19.2.2.Bad)) rfl rfl (fun s111 st111 => ?_) ?_
                  · try replace hp0 := hp0.up' st111
                    try replace hp1 := hp1.up' st111
                    try replace hw24_0_0 := hw24_0_0.up' st111
                    try replace h7_0 := h7_0.up' st111
                    try replace hb_24_0 := hb_24_0.up' st111
                    refine k_yes rfl rfl ?_
                    refine k_eqlb Try.underlying4 rfl rfl rfl ?_
                    exact fq_end
                  refine rd_read (.bool (decide (x21 = 0) == x19.2.2.Bad)) rfl rfl (fun s112 st112 => ?_) ?_
                  · try replace hp0 := hp0.up' st112
                    try replace hp1 := hp1.up' st112
                    try replace hw24_0_0 := hw24_0_0.up' st112
                    try replace h7_0 := h7_0.up' st112
                    try replace hb_24_0 := hb_24_0.up' st112
                    refine k_pickF rfl rfl rfl rfl ?_
                    exact fq_end
                  refine rd_nil ?_
                  refine k_nil ?_
                  refine k_keep [(0, _), (1, _), (2, _), (6, _), (7, _), (8, _), (9, _), (10, _), (94, _)] ⟨rfl, rfl, rfl, rfl, rfl, rfl, rfl, rfl, rfl, trivial⟩ ?_
                  refine k_cond rfl (fun c113 => ?_) (fun c113 => ?_)
                  · -- T
                    have h := ibT h c113
                    refine k_seq ?_
                    refine k_region ?_
                    refine k_assign rfl rfl ?_
                    refine k_nil ?_
                    refine k_keep [(0, _), (1, _), (2, _), (6, _), (7, _), (8, _), (9, _), (10, _)] ⟨rfl, rfl, rfl, rfl, rfl, rfl, rfl, rfl, trivial⟩ ?_
                    refine k_ret ?_
                    obtain rfl := Option.some.inj h
                    refine ⟨_, rfl, Ret.mk hS ?_⟩
                    exact rfl
                  · -- F
                    have h := ibF h c113
                    refine k_skip ?_
                    refine k_blk ?_
                    refine k_region ?_
                    refine k_move rfl rfl ?_
                    refine k_add rfl rfl rfl ?_
                    refine k_assign rfl rfl ?_
                    refine k_nil ?_
                    exact k_stop ⟨(s109, i64 (x8 + 1), x17.2.2, x19.2.2.B, w24_0_0, x19.2.2.Bad, j), ⟨(by first | rfl | (simp <;> rfl)), trivial⟩, ⟨rfl, rfl, rfl, rfl, rfl, rfl, rfl, trivial⟩, ⟨rfl, hE12, h7_0, hw24_0_0, hb_24_0, h⟩, (by simp)⟩
        · -- F
          have h := itF h c15
          refine k_exit rfl ?_
          exact k_stop ⟨(s14, x9, x10, v13, x11), trivial, ⟨rfl, rfl, rfl, rfl, rfl, trivial⟩, ⟨rfl, hE10, h7_0, h13, h9, h⟩⟩
      · -- behind
        rintro ⟨s114, x5, x6, v11, x7⟩ wL ⟨rfl, hE10, h7_0, h11, h9, h⟩
        rw [hK10] at h
        have szs114 := hE10.size
        have hS : Step K0 s s114 := hS.comp hE10 (by intro l hl hk; simp only [KC, KO, KU, K0] at hk ⊢; omega)
        replace hp0 := hp0.up' hE10
        refine k_seq ?_
        refine k_region ?_
        refine k_move rfl rfl ?_
        obtain ⟨x22, hx22, h⟩ := ob h
        refine k_call cal28 rfl (ref02_Reader_End_w  (ORef02Reader.mk_ (⟨x6, x7⟩ : Ref02Reader) (by omega) h11 h9) hx22) rfl ?_
        rintro s115 vr115 st115 ⟨rfl, hm115_0⟩
        obtain ⟨w115_0_0, hb_115_0, hw115_0_0⟩ := hm115_0.at_
        have szs115 := st115.size
        have hS : Step K0 s s115 := hS.comp st115 (by intro l hl hk; simp only [KC, KO, KU, K0] at hk ⊢; omega)
        replace hp0 := hp0.up' st115
        replace h7_0 := h7_0.up' st115
        refine k_assign rfl rfl ?_
        refine k_nil ?_
        refine k_keep [(0, _), (6, _), (7, _), (8, _), (15, _)] ⟨rfl, rfl, rfl, rfl, rfl, trivial⟩ ?_
        refine k_seq ?_
        refine k_region ?_
        refine k_move rfl rfl ?_
        obtain ⟨x23, hx23, h⟩ := ob h
        refine k_call cal22 rfl (code_Reader_End_w  h7_0 hx23) rfl ?_
        rintro s116 vr116 st116 ⟨rfl, h7_0⟩
        have szs116 := st116.size
        have hS : Step K0 s s116 := hS.comp st116 (by intro l hl hk; simp only [KC, KO, KU, K0] at hk ⊢; omega)
        replace hp0 := hp0.up' st116
        refine k_eql rfl rfl rfl ?_
        refine k_move rfl rfl ?_
        refine k_eqlb Try.underlying4 rfl rfl rfl ?_
        refine k_move rfl rfl ?_
        obtain ⟨x24, hx24, h⟩ := ob h
        have hE117 : Step K0 s116 s116 := (Step.refl _).of0 (by first | exact fun _ h => h | (intro c h; simp [KC, KO, KU] at h <;> omega))
        refine k_cutl (X := St) 6 [(0, v0), (6, .bool false), (7, S a0), (8, v7_0), (15, .bool x22.1), (97, v7_0), (98, .int .i64 x23.1), (99, .bool (decide (x23.1 = 2))), (100, .bool x22.1), (101, .bool (decide (x23.1 = 2) == x22.1))] (fun _ => [(108, .bool x24)]) (fun sl wL => sl.w = wL ∧ Step K0 s116 sl) ?_ ?_
        · -- the ways
          refine k_again 102 rfl ?_
          refine k_splitb (fun c118 => ?_) (fun c118 => ?_)
          · -- t102 True
            have hx24 := ibT hx24 c118
            refine k_yes rfl rfl ?_
            refine k_move rfl rfl ?_
            refine k_yes rfl rfl ?_
            obtain ⟨x25, hx25, hx24⟩ := ob hx24
            refine k_call cal27 rfl (code_Reader_Err_w  h7_0 hx25) rfl ?_
            rintro s119 vr119 st119 rfl
            have szs119 := st119.size
            have hS : Step K0 s s119 := hS.trans0 st119
            have hE117 : Step K0 s116 s119 := hE117.trans0 st119
            replace hp0 := hp0.up' st119
            replace h7_0 := h7_0.up' st119
            refine k_yes rfl rfl ?_
            refine k_eql rfl rfl rfl ?_
            refine k_yes rfl rfl ?_
            refine k_move rfl rfl ?_
            refine k_yes rfl rfl ?_
            refine k_eqlb Try.underlying4 rfl rfl rfl ?_
            refine k_pickT rfl rfl rfl rfl ?_
            exact k_met ⟨s119, ⟨(congrArg (fun b => some (Value.bool b)) (Option.some.inj hx24)), trivial⟩, ⟨rfl, rfl, rfl, rfl, rfl, rfl, rfl, rfl, rfl, rfl, trivial⟩, rfl, hE117⟩
          · -- t102 False
            have hx24 := ibF hx24 c118
            refine k_no rfl rfl rfl rfl ?_
            refine k_no rfl rfl rfl rfl ?_
            refine k_no rfl rfl rfl rfl ?_
            refine k_no rfl rfl rfl rfl ?_
            refine k_no rfl rfl rfl rfl ?_
            refine k_pickF rfl rfl rfl rfl ?_
            exact k_met ⟨s116, ⟨(congrArg (fun b => some (Value.bool b)) (Option.some.inj hx24)), trivial⟩, ⟨rfl, rfl, rfl, rfl, rfl, rfl, rfl, rfl, rfl, rfl, trivial⟩, rfl, hE117⟩
        · -- behind
          rintro s120 wL ⟨rfl, hE117⟩
          have szs120 := hE117.size
          have hS : Step K0 s s120 := hS.trans0 hE117
          replace hp0 := hp0.up' hE117
          replace h7_0 := h7_0.up' hE117
          refine k_move rfl rfl ?_
          have hE121 : Step K0 s120 s120 := (Step.refl _).of0 (by first | exact fun _ h => h | (intro c h; simp [KC, KO, KU] at h <;> omega))
          refine k_cutl (X := St) 5 [(0, v0), (6, .bool false), (7, S a0), (8, v7_0), (15, .bool x22.1), (97, v7_0), (98, .int .i64 x23.1), (99, .bool (decide (x23.1 = 2))), (100, .bool x22.1), (101, .bool (decide (x23.1 = 2) == x22.1)), (108, .bool x24)] (fun _ => [(114, .bool (decide ((x24 = true) ∧ (a0 = a0))))]) (fun sl wL => sl.w = wL ∧ Step K0 s120 sl) ?_ ?_
          · -- the ways
            refine k_again 109 rfl ?_
            refine k_splitb (fun c122 => ?_) (fun c122 => ?_)
            · -- t109 True
              refine k_yes rfl rfl ?_
              refine k_move rfl rfl ?_
              refine k_yes rfl rfl ?_
              refine k_bts (m := a0) Try.underlying27 Try.underlying5 Try.underlying9 rfl hp0 rfl ?_
              refine k_yes rfl rfl ?_
              refine k_move rfl rfl ?_
              refine k_yes rfl rfl ?_
              refine k_eql_str rfl rfl rfl ?_
              refine k_pickT rfl rfl rfl rfl ?_
              exact k_met ⟨s120, ⟨(congrArg (fun b => some (Value.bool b)) (by first | exact decide_eq_decide.2 ⟨fun h => ⟨c122, h⟩, fun h => h.2⟩ | exact (decide_eq_false (fun h => c122 h.1)).symm | (simp [c122]; done) | (simp [c122, i64] <;> omega))), trivial⟩, ⟨rfl, rfl, rfl, rfl, rfl, rfl, rfl, rfl, rfl, rfl, rfl, trivial⟩, rfl, hE121⟩
            · -- t109 False
              refine k_no rfl rfl rfl rfl ?_
              refine k_no rfl rfl rfl rfl ?_
              refine k_no rfl rfl rfl rfl ?_
              refine k_no rfl rfl rfl rfl ?_
              refine k_pickF rfl rfl rfl rfl ?_
              exact k_met ⟨s120, ⟨(congrArg (fun b => some (Value.bool b)) (by first | exact decide_eq_decide.2 ⟨fun h => ⟨c122, h⟩, fun h => h.2⟩ | exact (decide_eq_false (fun h => c122 h.1)).symm | (simp [c122]; done) | (simp [c122, i64] <;> omega))), trivial⟩, ⟨rfl, rfl, rfl, rfl, rfl, rfl, rfl, rfl, rfl, rfl, rfl, trivial⟩, rfl, hE121⟩
          · -- behind
            rintro s123 wL ⟨rfl, hE121⟩
            have szs123 := hE121.size
            have hS : Step K0 s s123 := hS.trans0 hE121
            replace hp0 := hp0.up' hE121
            replace h7_0 := h7_0.up' hE121
            refine k_move rfl rfl ?_
            obtain ⟨x26, hx26, h⟩ := ob h
            have hE124 : Step K0 s123 s123 := (Step.refl _).of0 (by first | exact fun _ h => h | (intro c h; simp [KC, KO, KU] at h <;> omega))
            refine k_cutl (X := St) 2 [(0, v0), (6, .bool false), (7, S a0), (8, v7_0), (15, .bool x22.1), (97, v7_0), (98, .int .i64 x23.1), (99, .bool (decide (x23.1 = 2))), (100, .bool x22.1), (101, .bool (decide (x23.1 = 2) == x22.1)), (108, .bool x24), (114, .bool (decide ((x24 = true) ∧ (a0 = a0))))] (fun _ => [(117, .bool x26)]) (fun sl wL => sl.w = wL ∧ Step K0 s123 sl) ?_ ?_
            · -- the ways
              refine k_again 115 rfl ?_
              refine k_split (fun c125 => ?_) (fun c125 => ?_)
              · -- t115 True
                have hx26 := itT hx26 c125
                refine k_yes rfl rfl ?_
                obtain ⟨x27, hx27, hx26⟩ := ob hx26
                obtain rfl := Option.some.inj (show some true = some x27 from hx27)
                refine k_call cal9 rfl (law02_awake_w   hx27) rfl ?_
                rintro s126 vr126 st126 rfl
                have szs126 := st126.size
                have hS : Step K0 s s126 := hS.trans0 st126
                have hE124 : Step K0 s123 s126 := hE124.trans0 st126
                replace hp0 := hp0.up' st126
                replace h7_0 := h7_0.up' st126
                refine k_pickT rfl rfl rfl rfl ?_
                exact k_met ⟨s126, ⟨(congrArg (fun b => some (Value.bool b)) (Option.some.inj hx26)), trivial⟩, ⟨rfl, rfl, rfl, rfl, rfl, rfl, rfl, rfl, rfl, rfl, rfl, rfl, trivial⟩, rfl, hE124⟩
              · -- t115 False
                have hx26 := itF hx26 c125
                refine k_no rfl rfl rfl rfl ?_
                refine k_pickF rfl rfl rfl rfl ?_
                exact k_met ⟨s123, ⟨(congrArg (fun b => some (Value.bool b)) (Option.some.inj hx26)), trivial⟩, ⟨rfl, rfl, rfl, rfl, rfl, rfl, rfl, rfl, rfl, rfl, rfl, rfl, trivial⟩, rfl, hE124⟩
            · -- behind
              rintro s127 wL ⟨rfl, hE124⟩
              have szs127 := hE124.size
              have hS : Step K0 s s127 := hS.trans0 hE124
              replace hp0 := hp0.up' hE124
              replace h7_0 := h7_0.up' hE124
              refine k_assign rfl rfl ?_
              refine k_nil ?_
              refine k_keep [(6, _)] ⟨rfl, trivial⟩ ?_
              refine k_ret ?_
              obtain rfl := Option.some.inj h
              refine ⟨_, rfl, Ret.mk hS ?_⟩
              exact rfl
end Go.Proofs
