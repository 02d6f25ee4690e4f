import Derived.Test.YtkdicklkghgdpaaW22NetNobody0
set_option linter.unusedSimpArgs false
set_option linter.unusedVariables false
namespace Go.Proofs
open Go.Fw
set_option maxHeartbeats 1000000 in
set_option maxRecDepth 100000 in
theorem law22_NetNobody_w {s : St} {l0 : Lab} {v0 : Value} {a0 : Law22Call} {r : Bool} (hp0 : SL s l0 v0 1 (a0.Bytes.map bD)) (h : law22_NetNobody a0 = some r) : Calls Try.prog 6 #[.agg #[.int .i64 a0.Do, .int .i64 a0.A, .int .i64 a0.B, .int .u64 (a0.Id.toNat : Int), v0]] s.w (Ret s K0 (fun s1 v => v = .bool r)) := by
  unfold law22_NetNobody at h
  obtain ⟨lf0, lf0le, lf0ne, hp0⟩ := hp0.fix
  have hS : Step K0 s s := (Step.refl _).of0 (by first | exact fun _ h => h | (intro c h; simp [KC, KO, KU, KN] at h <;> omega))
  refine k_fn (rs := [2]) (args := [.agg #[.int .i64 a0.Do, .int .i64 a0.A, .int .i64 a0.B, .int .u64 (a0.Id.toNat : Int), v0]]) Try.func6 rfl rfl rfl rfl ?_
  refine k_seq ?_
  refine k_region ?_
  refine k_box rfl rfl ?_
  intro s1 b1 st1 h1 ge1
  have szs1 := st1.size
  have hS : Step K0 s s1 := hS.trans0 st1
  replace hp0 := hp0.up2 st1
  have lt1 := h1.lt
  refine k_assign rfl rfl ?_
  refine k_nil ?_
  refine k_keep [(1, _), (2, _)] ⟨rfl, rfl, trivial⟩ ?_
  refine k_seq ?_
  refine k_region ?_
  refine k_assign rfl rfl ?_
  refine k_nil ?_
  refine k_seq ?_
  refine k_region ?_
  refine k_move rfl rfl ?_
  refine k_build plc64 zero64 rfl Parts.nil (by rfl) rfl ?_
  refine k_as (v := .agg (([.int .i64 0, .int .u64 0, .map none] : List Value) ++ (List.replicate 16 0).map cI).toArray) rfl ?_
  refine k_box rfl rfl ?_
  intro s2 b2 st2 h2 ge2
  have szs2 := st2.size
  have hS : Step K0 s s2 := hS.trans0 st2
  replace hp0 := hp0.up2 st2
  replace h1 := h1.up2 st2
  have lt2 := h2.lt
  refine k_bslice_raw (vs := [.pointer none, .pointer (some ⟨b2, 0, none⟩)]) slc65 rfl rfl (List.forall_mem_cons.2 ⟨rfl, (List.forall_mem_cons.2 ⟨rfl, (fun _ h => nomatch h)⟩)⟩) rfl rfl ?_
  intro s3 b3 st3 ge3 bl3 h3
  have szs3 := st3.size
  have hS : Step K0 s s3 := hS.trans0 st3
  replace hp0 := hp0.up2 st3
  replace h1 := h1.up2 st3
  replace h2 := h2.up2 st3
  refine k_assign rfl rfl ?_
  refine k_nil ?_
  refine k_keep [(1, _), (2, _), (4, _)] ⟨rfl, rfl, rfl, trivial⟩ ?_
  refine k_seq ?_
  have hz4 : ONetNet s3 (b2 + 1) (.pointer (some ⟨b2, 0, none⟩)) (⟨0, (0 : UInt64), none, (List.replicate 16 0)⟩ : NetNet) := (ONetNet.mk_ (⟨0, (0 : UInt64), none, (List.replicate 16 0)⟩ : NetNet) (by omega) (show MapO _ _ _ (.map none) none from rfl) (List.length_replicate) h2)
  have lehz4 := hz4.le
  have nehz4 := hz4.ne
  obtain ⟨kj1, hK5, h⟩ := jn_out h
  have hE5 : Step (KO (b2 + 1)) s3 s3 := (Step.refl _).of0 (by first | exact fun _ h => h | (intro c h; simp [KC, KO, KU, KN] at h <;> omega))
  refine k_cutc (X := St × NetNet) [(2, .bool false)] (fun (xL : St × NetNet) => match xL with | (sl, x2) => []) (fun (xL : St × NetNet) (wL : World) => match xL with | (sl, x2) => sl.w = wL ∧ Step (KO (b2 + 1)) s3 sl ∧ (ONetNet sl (b2 + 1) (.pointer (some ⟨b2, 0, none⟩)) x2) ∧ kj1 x2 = some r) ?_ ?_
  · -- the ways
    refine k_seq ?_
    refine k_region ?_
    refine k_assign rfl rfl ?_
    refine k_nil ?_
    refine k_block ?_
    refine k_rounds 3 ?_
    refine k_round ?_
    refine k_seq ?_
    refine k_seq ?_
    refine k_region ?_
    refine k_move rfl rfl ?_
    refine k_move rfl rfl ?_
    refine k_len Try.underlying65 rfl ⟨_, _, rfl⟩ rfl ?_
    refine k_lss rfl rfl rfl ?_
    refine k_as (v := .bool true) rfl ?_
    refine k_nil ?_
    refine k_cond_true rfl ?_
    refine k_skip ?_
    refine k_seq ?_
    refine k_block ?_
    refine k_seq ?_
    refine k_region ?_
    refine k_move rfl rfl ?_
    refine k_move rfl rfl ?_
    refine k_ixaddr_raw (i := 0) Try.underlying65 size24 rfl rfl rfl rfl rfl ?_
    refine k_load_blk one24 rfl h3 rfl rfl ?_
    refine k_assign rfl rfl ?_
    refine k_nil ?_
    refine k_seq ?_
    refine k_region ?_
    refine k_move rfl rfl ?_
    refine k_field_addr fld32_1 rfl rfl ?_
    refine k_load_blk one3 rfl h1 rfl rfl ?_
    refine k_field_addr fld32_2 rfl rfl ?_
    refine k_load_blk one3 rfl h1 rfl rfl ?_
    refine k_field_addr fld32_4 rfl rfl ?_
    refine k_load_blk one23 rfl h1 rfl rfl ?_
    obtain ⟨x3, hx3, h⟩ := ob h
    refine k_call cal11 rfl (net_Net_Send_nil_w  hp0 hx3) rfl ?_
    rintro s6 vr6 st6 rfl
    have szs6 := st6.size
    have hS : Step K0 s s6 := hS.trans0 st6
    have hE5 : Step (KO (b2 + 1)) s3 s6 := hE5.trans0 st6
    replace hp0 := hp0.up2 st6
    replace h1 := h1.up2 st6
    replace hz4 := hz4.up2 st6
    replace h3 := h3.up2 st6
    refine k_move rfl rfl ?_
    refine k_extract rfl rfl rfl ?_
    refine k_extract rfl rfl rfl ?_
    refine k_assign rfl rfl ?_
    refine k_assign rfl rfl ?_
    refine k_nil ?_
    refine k_keep [(1, _), (2, _), (4, _), (5, _), (6, _), (8, _), (19, _), (20, _), (21, _), (22, _), (25, _), (26, _), (27, _), (28, _), (29, _), (30, _), (31, _), (32, _), (33, _), (34, _), (35, _), (36, _), (37, _), (38, _), (39, _)] ⟨rfl, rfl, rfl, rfl, rfl, rfl, rfl, rfl, rfl, rfl, rfl, rfl, rfl, rfl, rfl, rfl, rfl, rfl, rfl, rfl, rfl, rfl, rfl, rfl, rfl, trivial⟩ ?_
    refine k_seq ?_
    refine k_region ?_
    refine k_move rfl rfl ?_
    refine k_field_addr fld32_3 rfl rfl ?_
    refine k_load_blk one30 rfl h1 rfl rfl ?_
    obtain ⟨x4, hx4, h⟩ := ob h
    refine k_call cal12 rfl (net_Net_Deliver_nil_w   hx4) rfl ?_
    rintro s7 vr7 st7 ⟨cs7_0, rfl, h7_0⟩
    have szs7 := st7.size
    have hS : Step K0 s s7 := hS.trans0 st7
    have hE5 : Step (KO (b2 + 1)) s3 s7 := hE5.trans0 st7
    replace hp0 := hp0.up2 st7
    replace h1 := h1.up2 st7
    replace hz4 := hz4.up2 st7
    replace h3 := h3.up2 st7
    obtain ⟨q7_0_0, rfl, hq7_0_0⟩ := opnApiMessage h7_0
    refine k_move rfl rfl ?_
    refine k_extract rfl rfl rfl ?_
    refine k_extract rfl rfl rfl ?_
    refine k_alloc zero36 rfl ?_
    intro s8 b8 st8 h8 ge8
    have szs8 := st8.size
    have hS : Step K0 s s8 := hS.trans0 st8
    have hE5 : Step (KO (b2 + 1)) s3 s8 := hE5.trans0 st8
    replace hp0 := hp0.up2 st8
    replace hq7_0_0 := hq7_0_0.up2 st8
    replace h1 := h1.up2 st8
    replace hz4 := hz4.up2 st8
    replace h3 := h3.up2 st8
    have lt8 := h8.lt
    refine k_store_c (cs' := [.int .i64 x4.1.From, .int .i64 x4.1.To, q7_0_0]) size36 rfl rfl h8 (by first | (simp; done) | omega | (dsimp only; omega)) (CellsOf.lit (vs := [.int .i64 x4.1.From, .int .i64 x4.1.To, q7_0_0]) rfl (ones.cons rfl (ones.cons rfl (ones.cons ((SL.of_R hq7_0_0)).one1 ones.nil)))) rfl (by first | rfl | (simp; done) | (simp; omega)) rfl ?_
    intro s9 st9 h8
    have szs9 := st9.size
    have hS : Step K0 s s9 := hS.comp st9 (by intro l hl hk; (try simp only [KC, KO, KU, KN, K0] at hk ⊢) <;> omega)
    have hE5 : Step (KO (b2 + 1)) s3 s9 := hE5.comp st9 (by intro l hl hk; (try simp only [KC, KO, KU, KN, K0] at hk ⊢) <;> omega)
    replace hp0 := hp0.up2 st9
    replace hq7_0_0 := hq7_0_0.up2 st9
    replace h1 := h1.up2 st9
    replace hz4 := hz4.up2 st9
    replace h3 := h3.up2 st9
    refine k_assign rfl rfl ?_
    refine k_nil ?_
    refine k_seq ?_
    refine k_region ?_
    refine k_move rfl rfl ?_
    refine k_field_addr fld32_3 rfl rfl ?_
    refine k_load_blk one30 rfl h1 rfl rfl ?_
    obtain ⟨x5, hx5, h⟩ := ob h
    refine k_call cal13 rfl (net_Net_Double_nil_w   hx5) rfl ?_
    rintro s10 vr10 st10 rfl
    have szs10 := st10.size
    have hS : Step K0 s s10 := hS.trans0 st10
    have hE5 : Step (KO (b2 + 1)) s3 s10 := hE5.trans0 st10
    replace hp0 := hp0.up2 st10
    replace hq7_0_0 := hq7_0_0.up2 st10
    replace h1 := h1.up2 st10
    replace hz4 := hz4.up2 st10
    replace h3 := h3.up2 st10
    replace h8 := h8.up2 st10
    refine k_move rfl rfl ?_
    refine k_extract rfl rfl rfl ?_
    refine k_extract rfl rfl rfl ?_
    refine k_assign rfl rfl ?_
    refine k_assign rfl rfl ?_
    refine k_nil ?_
    refine k_keep [(1, _), (2, _), (4, _), (5, _), (6, _), (8, _), (9, _), (10, _), (12, _), (19, _), (20, _), (21, _), (22, _), (25, _), (26, _), (27, _), (28, _), (29, _), (30, _), (31, _), (32, _), (33, _), (34, _), (35, _), (36, _), (37, _), (38, _), (39, _), (40, _), (41, _), (42, _), (43, _), (44, _), (45, _), (46, _), (47, _), (48, _), (49, _), (50, _), (51, _), (52, _), (53, _)] ⟨rfl, rfl, rfl, rfl, rfl, rfl, rfl, rfl, rfl, rfl, rfl, rfl, rfl, rfl, rfl, rfl, rfl, rfl, rfl, rfl, rfl, rfl, rfl, rfl, rfl, rfl, rfl, rfl, rfl, rfl, rfl, rfl, rfl, rfl, rfl, rfl, rfl, rfl, rfl, rfl, rfl, rfl, trivial⟩ ?_
    refine k_seq ?_
    refine k_region ?_
    refine k_move rfl rfl ?_
    refine k_field_addr fld32_3 rfl rfl ?_
    refine k_load_blk one30 rfl h1 rfl rfl ?_
    obtain ⟨x6, hx6, h⟩ := ob h
    refine k_call cal16 rfl (net_Net_At_nil_w   hx6) rfl ?_
    rintro s11 vr11 st11 ⟨cs11_0, rfl, h11_0⟩
    have szs11 := st11.size
    have hS : Step K0 s s11 := hS.trans0 st11
    have hE5 : Step (KO (b2 + 1)) s3 s11 := hE5.trans0 st11
    replace hp0 := hp0.up2 st11
    replace hq7_0_0 := hq7_0_0.up2 st11
    replace h1 := h1.up2 st11
    replace hz4 := hz4.up2 st11
    replace h3 := h3.up2 st11
    replace h8 := h8.up2 st11
    obtain ⟨q11_0_0, rfl, hq11_0_0⟩ := opnApiMessage h11_0
    refine k_move rfl rfl ?_
    refine k_extract rfl rfl rfl ?_
    refine k_extract rfl rfl rfl ?_
    refine k_alloc zero36 rfl ?_
    intro s12 b12 st12 h12 ge12
    have szs12 := st12.size
    have hS : Step K0 s s12 := hS.trans0 st12
    have hE5 : Step (KO (b2 + 1)) s3 s12 := hE5.trans0 st12
    replace hp0 := hp0.up2 st12
    replace hq7_0_0 := hq7_0_0.up2 st12
    replace hq11_0_0 := hq11_0_0.up2 st12
    replace h1 := h1.up2 st12
    replace hz4 := hz4.up2 st12
    replace h3 := h3.up2 st12
    replace h8 := h8.up2 st12
    have lt12 := h12.lt
    refine k_store_c (cs' := [.int .i64 x6.1.From, .int .i64 x6.1.To, q11_0_0]) size36 rfl rfl h12 (by first | (simp; done) | omega | (dsimp only; omega)) (CellsOf.lit (vs := [.int .i64 x6.1.From, .int .i64 x6.1.To, q11_0_0]) rfl (ones.cons rfl (ones.cons rfl (ones.cons ((SL.of_R hq11_0_0)).one1 ones.nil)))) rfl (by first | rfl | (simp; done) | (simp; omega)) rfl ?_
    intro s13 st13 h12
    have szs13 := st13.size
    have hS : Step K0 s s13 := hS.comp st13 (by intro l hl hk; (try simp only [KC, KO, KU, KN, K0] at hk ⊢) <;> omega)
    have hE5 : Step (KO (b2 + 1)) s3 s13 := hE5.comp st13 (by intro l hl hk; (try simp only [KC, KO, KU, KN, K0] at hk ⊢) <;> omega)
    replace hp0 := hp0.up2 st13
    replace hq7_0_0 := hq7_0_0.up2 st13
    replace hq11_0_0 := hq11_0_0.up2 st13
    replace h1 := h1.up2 st13
    replace hz4 := hz4.up2 st13
    replace h3 := h3.up2 st13
    replace h8 := h8.up2 st13
    refine k_assign rfl rfl ?_
    refine k_nil ?_
    refine k_seq ?_
    refine k_region ?_
    refine k_move rfl rfl ?_
    refine k_neq rfl rfl rfl ?_
    refine k_move rfl rfl ?_
    have hE14 : Step K0 s13 s13 := (Step.refl _).of0 (by first | exact fun _ h => h | (intro c h; simp [KC, KO, KU, KN] at h <;> omega))
    refine k_cutl (X := St) 3 [(1, .pointer (some ⟨b1, 0, none⟩)), (2, .bool false), (4, .slice (some ⟨b3, 0, none⟩) 2 2), (5, .int .i64 0), (6, .pointer none), (8, .int .i64 x3.2), (9, .pointer (some ⟨b8, 0, none⟩)), (10, .int .i64 x4.2), (12, .int .i64 x5.2), (13, .pointer (some ⟨b12, 0, none⟩)), (14, .int .i64 x6.2), (19, .int .i64 0), (20, .slice (some ⟨b3, 0, none⟩) 2 2), (21, .int .i64 2), (22, .bool true), (25, .slice (some ⟨b3, 0, none⟩) 2 2), (26, .int .i64 0), (27, .pointer (some ⟨b3, 0, none⟩)), (28, .pointer none), (29, .tuple #[.int .u64 (x3.1.toNat : Int), .int .i64 x3.2]), (30, .pointer none), (31, .pointer (some ⟨b1, 1, none⟩)), (32, .int .i64 a0.A), (33, .pointer (some ⟨b1, 2, none⟩)), (34, .int .i64 a0.B), (35, .pointer (some ⟨b1, 4, none⟩)), (36, v0), (37, .tuple #[.int .u64 (x3.1.toNat : Int), .int .i64 x3.2]), (38, .int .u64 (x3.1.toNat : Int)), (39, .int .i64 x3.2), (40, .tuple #[.agg #[.int .i64 x4.1.From, .int .i64 x4.1.To, q7_0_0], .int .i64 x4.2]), (41, .pointer none), (42, .pointer (some ⟨b1, 3, none⟩)), (43, .int .u64 (a0.Id.toNat : Int)), (44, .tuple #[.agg #[.int .i64 x4.1.From, .int .i64 x4.1.To, q7_0_0], .int .i64 x4.2]), (45, .agg #[.int .i64 x4.1.From, .int .i64 x4.1.To, q7_0_0]), (46, .int .i64 x4.2), (47, .tuple #[.int .u64 (x5.1.toNat : Int), .int .i64 x5.2]), (48, .pointer none), (49, .pointer (some ⟨b1, 3, none⟩)), (50, .int .u64 (a0.Id.toNat : Int)), (51, .tuple #[.int .u64 (x5.1.toNat : Int), .int .i64 x5.2]), (52, .int .u64 (x5.1.toNat : Int)), (53, .int .i64 x5.2), (54, .tuple #[.agg #[.int .i64 x6.1.From, .int .i64 x6.1.To, q11_0_0], .int .i64 x6.2]), (55, .pointer none), (56, .pointer (some ⟨b1, 3, none⟩)), (57, .int .u64 (a0.Id.toNat : Int)), (58, .tuple #[.agg #[.int .i64 x6.1.From, .int .i64 x6.1.To, q11_0_0], .int .i64 x6.2]), (59, .agg #[.int .i64 x6.1.From, .int .i64 x6.1.To, q11_0_0]), (60, .int .i64 x6.2), (61, .int .i64 x3.2), (62, .bool (decide (x3.2 ≠ 1)))] (fun _ => [(66, .bool (decide ((x3.2 ≠ 1) ∨ (x4.2 ≠ 4))))]) (fun sl wL => sl.w = wL ∧ Step K0 s13 sl) ?_ ?_
    · -- the ways
      refine k_again 63 rfl ?_
      refine k_split (fun c15 => ?_) (fun c15 => ?_)
      · -- t63 True
        refine k_no rfl rfl rfl rfl ?_
        refine k_no rfl rfl rfl rfl ?_
        refine k_pickT rfl rfl rfl rfl ?_
        exact k_met ⟨s13, ⟨(congrArg (fun b => some (Value.bool b)) (by first | exact decide_eq_decide.2 ⟨Or.inr, fun h => h.resolve_left c15⟩ | exact (decide_eq_true (Or.inl c15)).symm | (simp [c15]; done) | (simp [c15, i64] <;> omega))), trivial⟩, ⟨rfl, rfl, rfl, rfl, rfl, rfl, rfl, rfl, rfl, rfl, rfl, rfl, rfl, rfl, rfl, rfl, rfl, rfl, rfl, rfl, rfl, rfl, rfl, rfl, rfl, rfl, rfl, rfl, rfl, rfl, rfl, rfl, rfl, rfl, rfl, rfl, rfl, rfl, rfl, rfl, rfl, rfl, rfl, rfl, rfl, rfl, rfl, rfl, rfl, rfl, rfl, rfl, rfl, trivial⟩, rfl, hE14⟩
      · -- t63 False
        refine k_yes rfl rfl ?_
        refine k_move rfl rfl ?_
        refine k_yes rfl rfl ?_
        refine k_neq rfl rfl rfl ?_
        refine k_pickF rfl rfl rfl rfl ?_
        exact k_met ⟨s13, ⟨(congrArg (fun b => some (Value.bool b)) (by first | exact decide_eq_decide.2 ⟨Or.inr, fun h => h.resolve_left c15⟩ | exact (decide_eq_true (Or.inl c15)).symm | (simp [c15]; done) | (simp [c15, i64] <;> omega))), trivial⟩, ⟨rfl, rfl, rfl, rfl, rfl, rfl, rfl, rfl, rfl, rfl, rfl, rfl, rfl, rfl, rfl, rfl, rfl, rfl, rfl, rfl, rfl, rfl, rfl, rfl, rfl, rfl, rfl, rfl, rfl, rfl, rfl, rfl, rfl, rfl, rfl, rfl, rfl, rfl, rfl, rfl, rfl, rfl, rfl, rfl, rfl, rfl, rfl, rfl, rfl, rfl, rfl, rfl, rfl, trivial⟩, rfl, hE14⟩
    · -- behind
      rintro s16 wL ⟨rfl, hE14⟩
      have szs16 := hE14.size
      have hS : Step K0 s s16 := hS.trans0 hE14
      have hE5 : Step (KO (b2 + 1)) s3 s16 := hE5.trans0 hE14
      replace hp0 := hp0.up2 hE14
      replace hq7_0_0 := hq7_0_0.up2 hE14
      replace hq11_0_0 := hq11_0_0.up2 hE14
      replace h1 := h1.up2 hE14
      replace hz4 := hz4.up2 hE14
      replace h3 := h3.up2 hE14
      replace h8 := h8.up2 hE14
      replace h12 := h12.up2 hE14
      refine k_move rfl rfl ?_
      have hE17 : Step K0 s16 s16 := (Step.refl _).of0 (by first | exact fun _ h => h | (intro c h; simp [KC, KO, KU, KN] at h <;> omega))
      refine k_cutl (X := St) 3 [(1, .pointer (some ⟨b1, 0, none⟩)), (2, .bool false), (4, .slice (some ⟨b3, 0, none⟩) 2 2), (5, .int .i64 0), (6, .pointer none), (8, .int .i64 x3.2), (9, .pointer (some ⟨b8, 0, none⟩)), (10, .int .i64 x4.2), (12, .int .i64 x5.2), (13, .pointer (some ⟨b12, 0, none⟩)), (14, .int .i64 x6.2), (19, .int .i64 0), (20, .slice (some ⟨b3, 0, none⟩) 2 2), (21, .int .i64 2), (22, .bool true), (25, .slice (some ⟨b3, 0, none⟩) 2 2), (26, .int .i64 0), (27, .pointer (some ⟨b3, 0, none⟩)), (28, .pointer none), (29, .tuple #[.int .u64 (x3.1.toNat : Int), .int .i64 x3.2]), (30, .pointer none), (31, .pointer (some ⟨b1, 1, none⟩)), (32, .int .i64 a0.A), (33, .pointer (some ⟨b1, 2, none⟩)), (34, .int .i64 a0.B), (35, .pointer (some ⟨b1, 4, none⟩)), (36, v0), (37, .tuple #[.int .u64 (x3.1.toNat : Int), .int .i64 x3.2]), (38, .int .u64 (x3.1.toNat : Int)), (39, .int .i64 x3.2), (40, .tuple #[.agg #[.int .i64 x4.1.From, .int .i64 x4.1.To, q7_0_0], .int .i64 x4.2]), (41, .pointer none), (42, .pointer (some ⟨b1, 3, none⟩)), (43, .int .u64 (a0.Id.toNat : Int)), (44, .tuple #[.agg #[.int .i64 x4.1.From, .int .i64 x4.1.To, q7_0_0], .int .i64 x4.2]), (45, .agg #[.int .i64 x4.1.From, .int .i64 x4.1.To, q7_0_0]), (46, .int .i64 x4.2), (47, .tuple #[.int .u64 (x5.1.toNat : Int), .int .i64 x5.2]), (48, .pointer none), (49, .pointer (some ⟨b1, 3, none⟩)), (50, .int .u64 (a0.Id.toNat : Int)), (51, .tuple #[.int .u64 (x5.1.toNat : Int), .int .i64 x5.2]), (52, .int .u64 (x5.1.toNat : Int)), (53, .int .i64 x5.2), (54, .tuple #[.agg #[.int .i64 x6.1.From, .int .i64 x6.1.To, q11_0_0], .int .i64 x6.2]), (55, .pointer none), (56, .pointer (some ⟨b1, 3, none⟩)), (57, .int .u64 (a0.Id.toNat : Int)), (58, .tuple #[.agg #[.int .i64 x6.1.From, .int .i64 x6.1.To, q11_0_0], .int .i64 x6.2]), (59, .agg #[.int .i64 x6.1.From, .int .i64 x6.1.To, q11_0_0]), (60, .int .i64 x6.2), (61, .int .i64 x3.2), (62, .bool (decide (x3.2 ≠ 1))), (66, .bool (decide ((x3.2 ≠ 1) ∨ (x4.2 ≠ 4))))] (fun _ => [(70, .bool (decide (((x3.2 ≠ 1) ∨ (x4.2 ≠ 4)) ∨ (x5.2 ≠ 4))))]) (fun sl wL => sl.w = wL ∧ Step K0 s16 sl) ?_ ?_
      · -- the ways
        refine k_again 67 rfl ?_
        refine k_split (fun c18 => ?_) (fun c18 => ?_)
        · -- t67 True
          refine k_no rfl rfl rfl rfl ?_
          refine k_no rfl rfl rfl rfl ?_
          refine k_pickT rfl rfl rfl rfl ?_
          exact k_met ⟨s16, ⟨(congrArg (fun b => some (Value.bool b)) (by first | exact decide_eq_decide.2 ⟨Or.inr, fun h => h.resolve_left c18⟩ | exact (decide_eq_true (Or.inl c18)).symm | (simp [c18]; done) | (simp [c18, i64] <;> omega))), trivial⟩, ⟨rfl, rfl, rfl, rfl, rfl, rfl, rfl, rfl, rfl, rfl, rfl, rfl, rfl, rfl, rfl, rfl, rfl, rfl, rfl, rfl, rfl, rfl, rfl, rfl, rfl, rfl, rfl, rfl, rfl, rfl, rfl, rfl, rfl, rfl, rfl, rfl, rfl, rfl, rfl, rfl, rfl, rfl, rfl, rfl, rfl, rfl, rfl, rfl, rfl, rfl, rfl, rfl, rfl, rfl, trivial⟩, rfl, hE17⟩
        · -- t67 False
          refine k_yes rfl rfl ?_
          refine k_move rfl rfl ?_
          refine k_yes rfl rfl ?_
          refine k_neq rfl rfl rfl ?_
          refine k_pickF rfl rfl rfl rfl ?_
          exact k_met ⟨s16, ⟨(congrArg (fun b => some (Value.bool b)) (by first | exact decide_eq_decide.2 ⟨Or.inr, fun h => h.resolve_left c18⟩ | exact (decide_eq_true (Or.inl c18)).symm | (simp [c18]; done) | (simp [c18, i64] <;> omega))), trivial⟩, ⟨rfl, rfl, rfl, rfl, rfl, rfl, rfl, rfl, rfl, rfl, rfl, rfl, rfl, rfl, rfl, rfl, rfl, rfl, rfl, rfl, rfl, rfl, rfl, rfl, rfl, rfl, rfl, rfl, rfl, rfl, rfl, rfl, rfl, rfl, rfl, rfl, rfl, rfl, rfl, rfl, rfl, rfl, rfl, rfl, rfl, rfl, rfl, rfl, rfl, rfl, rfl, rfl, rfl, rfl, trivial⟩, rfl, hE17⟩
      · -- behind
        rintro s19 wL ⟨rfl, hE17⟩
        have szs19 := hE17.size
        have hS : Step K0 s s19 := hS.trans0 hE17
        have hE5 : Step (KO (b2 + 1)) s3 s19 := hE5.trans0 hE17
        replace hp0 := hp0.up2 hE17
        replace hq7_0_0 := hq7_0_0.up2 hE17
        replace hq11_0_0 := hq11_0_0.up2 hE17
        replace h1 := h1.up2 hE17
        replace hz4 := hz4.up2 hE17
        replace h3 := h3.up2 hE17
        replace h8 := h8.up2 hE17
        replace h12 := h12.up2 hE17
        refine k_move rfl rfl ?_
        have hE20 : Step K0 s19 s19 := (Step.refl _).of0 (by first | exact fun _ h => h | (intro c h; simp [KC, KO, KU, KN] at h <;> omega))
        refine k_cutl (X := St) 3 [(1, .pointer (some ⟨b1, 0, none⟩)), (2, .bool false), (4, .slice (some ⟨b3, 0, none⟩) 2 2), (5, .int .i64 0), (6, .pointer none), (8, .int .i64 x3.2), (9, .pointer (some ⟨b8, 0, none⟩)), (10, .int .i64 x4.2), (12, .int .i64 x5.2), (13, .pointer (some ⟨b12, 0, none⟩)), (14, .int .i64 x6.2), (19, .int .i64 0), (20, .slice (some ⟨b3, 0, none⟩) 2 2), (21, .int .i64 2), (22, .bool true), (25, .slice (some ⟨b3, 0, none⟩) 2 2), (26, .int .i64 0), (27, .pointer (some ⟨b3, 0, none⟩)), (28, .pointer none), (29, .tuple #[.int .u64 (x3.1.toNat : Int), .int .i64 x3.2]), (30, .pointer none), (31, .pointer (some ⟨b1, 1, none⟩)), (32, .int .i64 a0.A), (33, .pointer (some ⟨b1, 2, none⟩)), (34, .int .i64 a0.B), (35, .pointer (some ⟨b1, 4, none⟩)), (36, v0), (37, .tuple #[.int .u64 (x3.1.toNat : Int), .int .i64 x3.2]), (38, .int .u64 (x3.1.toNat : Int)), (39, .int .i64 x3.2), (40, .tuple #[.agg #[.int .i64 x4.1.From, .int .i64 x4.1.To, q7_0_0], .int .i64 x4.2]), (41, .pointer none), (42, .pointer (some ⟨b1, 3, none⟩)), (43, .int .u64 (a0.Id.toNat : Int)), (44, .tuple #[.agg #[.int .i64 x4.1.From, .int .i64 x4.1.To, q7_0_0], .int .i64 x4.2]), (45, .agg #[.int .i64 x4.1.From, .int .i64 x4.1.To, q7_0_0]), (46, .int .i64 x4.2), (47, .tuple #[.int .u64 (x5.1.toNat : Int), .int .i64 x5.2]), (48, .pointer none), (49, .pointer (some ⟨b1, 3, none⟩)), (50, .int .u64 (a0.Id.toNat : Int)), (51, .tuple #[.int .u64 (x5.1.toNat : Int), .int .i64 x5.2]), (52, .int .u64 (x5.1.toNat : Int)), (53, .int .i64 x5.2), (54, .tuple #[.agg #[.int .i64 x6.1.From, .int .i64 x6.1.To, q11_0_0], .int .i64 x6.2]), (55, .pointer none), (56, .pointer (some ⟨b1, 3, none⟩)), (57, .int .u64 (a0.Id.toNat : Int)), (58, .tuple #[.agg #[.int .i64 x6.1.From, .int .i64 x6.1.To, q11_0_0], .int .i64 x6.2]), (59, .agg #[.int .i64 x6.1.From, .int .i64 x6.1.To, q11_0_0]), (60, .int .i64 x6.2), (61, .int .i64 x3.2), (62, .bool (decide (x3.2 ≠ 1))), (66, .bool (decide ((x3.2 ≠ 1) ∨ (x4.2 ≠ 4)))), (70, .bool (decide (((x3.2 ≠ 1) ∨ (x4.2 ≠ 4)) ∨ (x5.2 ≠ 4))))] (fun _ => [(74, .bool (decide ((((x3.2 ≠ 1) ∨ (x4.2 ≠ 4)) ∨ (x5.2 ≠ 4)) ∨ (x6.2 ≠ 4))))]) (fun sl wL => sl.w = wL ∧ Step K0 s19 sl) ?_ ?_
        · -- the ways
          refine k_again 71 rfl ?_
          refine k_split (fun c21 => ?_) (fun c21 => ?_)
          · -- t71 True
            refine k_no rfl rfl rfl rfl ?_
            refine k_no rfl rfl rfl rfl ?_
            refine k_pickT rfl rfl rfl rfl ?_
            exact k_met ⟨s19, ⟨(congrArg (fun b => some (Value.bool b)) (by first | exact decide_eq_decide.2 ⟨Or.inr, fun h => h.resolve_left c21⟩ | exact (decide_eq_true (Or.inl c21)).symm | (simp [c21]; done) | (simp [c21, i64] <;> omega))), trivial⟩, ⟨rfl, rfl, rfl, rfl, rfl, rfl, rfl, rfl, rfl, rfl, rfl, rfl, rfl, rfl, rfl, rfl, rfl, rfl, rfl, rfl, rfl, rfl, rfl, rfl, rfl, rfl, rfl, rfl, rfl, rfl, rfl, rfl, rfl, rfl, rfl, rfl, rfl, rfl, rfl, rfl, rfl, rfl, rfl, rfl, rfl, rfl, rfl, rfl, rfl, rfl, rfl, rfl, rfl, rfl, rfl, trivial⟩, rfl, hE20⟩
          · -- t71 False
            refine k_yes rfl rfl ?_
            refine k_move rfl rfl ?_
            refine k_yes rfl rfl ?_
            refine k_neq rfl rfl rfl ?_
            refine k_pickF rfl rfl rfl rfl ?_
            exact k_met ⟨s19, ⟨(congrArg (fun b => some (Value.bool b)) (by first | exact decide_eq_decide.2 ⟨Or.inr, fun h => h.resolve_left c21⟩ | exact (decide_eq_true (Or.inl c21)).symm | (simp [c21]; done) | (simp [c21, i64] <;> omega))), trivial⟩, ⟨rfl, rfl, rfl, rfl, rfl, rfl, rfl, rfl, rfl, rfl, rfl, rfl, rfl, rfl, rfl, rfl, rfl, rfl, rfl, rfl, rfl, rfl, rfl, rfl, rfl, rfl, rfl, rfl, rfl, rfl, rfl, rfl, rfl, rfl, rfl, rfl, rfl, rfl, rfl, rfl, rfl, rfl, rfl, rfl, rfl, rfl, rfl, rfl, rfl, rfl, rfl, rfl, rfl, rfl, rfl, trivial⟩, rfl, hE20⟩
        · -- behind
          rintro s22 wL ⟨rfl, hE20⟩
          have szs22 := hE20.size
          have hS : Step K0 s s22 := hS.trans0 hE20
          have hE5 : Step (KO (b2 + 1)) s3 s22 := hE5.trans0 hE20
          replace hp0 := hp0.up2 hE20
          replace hq7_0_0 := hq7_0_0.up2 hE20
          replace hq11_0_0 := hq11_0_0.up2 hE20
          replace h1 := h1.up2 hE20
          replace hz4 := hz4.up2 hE20
          replace h3 := h3.up2 hE20
          replace h8 := h8.up2 hE20
          replace h12 := h12.up2 hE20
          refine k_move rfl rfl ?_
          obtain ⟨x7, hx7, h⟩ := ob h
          have hE23 : Step K0 s22 s22 := (Step.refl _).of0 (by first | exact fun _ h => h | (intro c h; simp [KC, KO, KU, KN] at h <;> omega))
          refine k_cutl (X := St) 6 [(1, .pointer (some ⟨b1, 0, none⟩)), (2, .bool false), (4, .slice (some ⟨b3, 0, none⟩) 2 2), (5, .int .i64 0), (6, .pointer none), (8, .int .i64 x3.2), (9, .pointer (some ⟨b8, 0, none⟩)), (10, .int .i64 x4.2), (12, .int .i64 x5.2), (13, .pointer (some ⟨b12, 0, none⟩)), (14, .int .i64 x6.2), (19, .int .i64 0), (20, .slice (some ⟨b3, 0, none⟩) 2 2), (21, .int .i64 2), (22, .bool true), (25, .slice (some ⟨b3, 0, none⟩) 2 2), (26, .int .i64 0), (27, .pointer (some ⟨b3, 0, none⟩)), (28, .pointer none), (29, .tuple #[.int .u64 (x3.1.toNat : Int), .int .i64 x3.2]), (30, .pointer none), (31, .pointer (some ⟨b1, 1, none⟩)), (32, .int .i64 a0.A), (33, .pointer (some ⟨b1, 2, none⟩)), (34, .int .i64 a0.B), (35, .pointer (some ⟨b1, 4, none⟩)), (36, v0), (37, .tuple #[.int .u64 (x3.1.toNat : Int), .int .i64 x3.2]), (38, .int .u64 (x3.1.toNat : Int)), (39, .int .i64 x3.2), (40, .tuple #[.agg #[.int .i64 x4.1.From, .int .i64 x4.1.To, q7_0_0], .int .i64 x4.2]), (41, .pointer none), (42, .pointer (some ⟨b1, 3, none⟩)), (43, .int .u64 (a0.Id.toNat : Int)), (44, .tuple #[.agg #[.int .i64 x4.1.From, .int .i64 x4.1.To, q7_0_0], .int .i64 x4.2]), (45, .agg #[.int .i64 x4.1.From, .int .i64 x4.1.To, q7_0_0]), (46, .int .i64 x4.2), (47, .tuple #[.int .u64 (x5.1.toNat : Int), .int .i64 x5.2]), (48, .pointer none), (49, .pointer (some ⟨b1, 3, none⟩)), (50, .int .u64 (a0.Id.toNat : Int)), (51, .tuple #[.int .u64 (x5.1.toNat : Int), .int .i64 x5.2]), (52, .int .u64 (x5.1.toNat : Int)), (53, .int .i64 x5.2), (54, .tuple #[.agg #[.int .i64 x6.1.From, .int .i64 x6.1.To, q11_0_0], .int .i64 x6.2]), (55, .pointer none), (56, .pointer (some ⟨b1, 3, none⟩)), (57, .int .u64 (a0.Id.toNat : Int)), (58, .tuple #[.agg #[.int .i64 x6.1.From, .int .i64 x6.1.To, q11_0_0], .int .i64 x6.2]), (59, .agg #[.int .i64 x6.1.From, .int .i64 x6.1.To, q11_0_0]), (60, .int .i64 x6.2), (61, .int .i64 x3.2), (62, .bool (decide (x3.2 ≠ 1))), (66, .bool (decide ((x3.2 ≠ 1) ∨ (x4.2 ≠ 4)))), (70, .bool (decide (((x3.2 ≠ 1) ∨ (x4.2 ≠ 4)) ∨ (x5.2 ≠ 4)))), (74, .bool (decide ((((x3.2 ≠ 1) ∨ (x4.2 ≠ 4)) ∨ (x5.2 ≠ 4)) ∨ (x6.2 ≠ 4))))] (fun _ => [(81, .bool x7)]) (fun sl wL => sl.w = wL ∧ Step K0 s22 sl) ?_ ?_
          · -- the ways
            refine k_again 75 rfl ?_
            refine k_split (fun c24 => ?_) (fun c24 => ?_)
            · -- t75 True
              have hx7 := itT hx7 c24
              refine k_no rfl rfl rfl rfl ?_
              refine k_no rfl rfl rfl rfl ?_
              refine k_no rfl rfl rfl rfl ?_
              refine k_no rfl rfl rfl rfl ?_
              refine k_no rfl rfl rfl rfl ?_
              refine k_pickT rfl rfl rfl rfl ?_
              exact k_met ⟨s22, ⟨(congrArg (fun b => some (Value.bool b)) (Option.some.inj hx7)), trivial⟩, ⟨rfl, rfl, rfl, rfl, rfl, rfl, rfl, rfl, rfl, rfl, rfl, rfl, rfl, rfl, rfl, rfl, rfl, rfl, rfl, rfl, rfl, rfl, rfl, rfl, rfl, rfl, rfl, rfl, rfl, rfl, rfl, rfl, rfl, rfl, rfl, rfl, rfl, rfl, rfl, rfl, rfl, rfl, rfl, rfl, rfl, rfl, rfl, rfl, rfl, rfl, rfl, rfl, rfl, rfl, rfl, rfl, trivial⟩, rfl, hE23⟩
            · -- t75 False
              have hx7 := itF hx7 c24
              refine k_yes rfl rfl ?_
              refine k_move rfl rfl ?_
              refine k_yes rfl rfl ?_
              refine k_field_addr fld32_3 rfl rfl ?_
              refine k_yes rfl rfl ?_
              refine k_load_blk one30 rfl h1 rfl rfl ?_
              refine k_yes rfl rfl ?_
              obtain ⟨x8, hx8, hx7⟩ := ob hx7
              refine k_call cal15 rfl (net_Net_Drop_nil_w   hx8) rfl ?_
              rintro s25 vr25 st25 rfl
              have szs25 := st25.size
              have hS : Step K0 s s25 := hS.trans0 st25
              have hE5 : Step (KO (b2 + 1)) s3 s25 := hE5.trans0 st25
              have hE23 : Step K0 s22 s25 := hE23.trans0 st25
              replace hp0 := hp0.up2 st25
              replace hq7_0_0 := hq7_0_0.up2 st25
              replace hq11_0_0 := hq11_0_0.up2 st25
              replace h1 := h1.up2 st25
              replace hz4 := hz4.up2 st25
              replace h3 := h3.up2 st25
              replace h8 := h8.up2 st25
              replace h12 := h12.up2 st25
              refine k_yes rfl rfl ?_
              refine k_neq rfl rfl rfl ?_
              refine k_pickF rfl rfl rfl rfl ?_
              exact k_met ⟨s25, ⟨(congrArg (fun b => some (Value.bool b)) (Option.some.inj hx7)), trivial⟩, ⟨rfl, rfl, rfl, rfl, rfl, rfl, rfl, rfl, rfl, rfl, rfl, rfl, rfl, rfl, rfl, rfl, rfl, rfl, rfl, rfl, rfl, rfl, rfl, rfl, rfl, rfl, rfl, rfl, rfl, rfl, rfl, rfl, rfl, rfl, rfl, rfl, rfl, rfl, rfl, rfl, rfl, rfl, rfl, rfl, rfl, rfl, rfl, rfl, rfl, rfl, rfl, rfl, rfl, rfl, rfl, rfl, trivial⟩, rfl, hE23⟩
          · -- behind
            rintro s26 wL ⟨rfl, hE23⟩
            have szs26 := hE23.size
            have hS : Step K0 s s26 := hS.trans0 hE23
            have hE5 : Step (KO (b2 + 1)) s3 s26 := hE5.trans0 hE23
            replace hp0 := hp0.up2 hE23
            replace hq7_0_0 := hq7_0_0.up2 hE23
            replace hq11_0_0 := hq11_0_0.up2 hE23
            replace h1 := h1.up2 hE23
            replace hz4 := hz4.up2 hE23
            replace h3 := h3.up2 hE23
            replace h8 := h8.up2 hE23
            replace h12 := h12.up2 hE23
            refine k_move rfl rfl ?_
            obtain ⟨x9, hx9, h⟩ := ob h
            have hE27 : Step K0 s26 s26 := (Step.refl _).of0 (by first | exact fun _ h => h | (intro c h; simp [KC, KO, KU, KN] at h <;> omega))
            refine k_cutl (X := St) 4 [(1, .pointer (some ⟨b1, 0, none⟩)), (2, .bool false), (4, .slice (some ⟨b3, 0, none⟩) 2 2), (5, .int .i64 0), (6, .pointer none), (8, .int .i64 x3.2), (9, .pointer (some ⟨b8, 0, none⟩)), (10, .int .i64 x4.2), (12, .int .i64 x5.2), (13, .pointer (some ⟨b12, 0, none⟩)), (14, .int .i64 x6.2), (19, .int .i64 0), (20, .slice (some ⟨b3, 0, none⟩) 2 2), (21, .int .i64 2), (22, .bool true), (25, .slice (some ⟨b3, 0, none⟩) 2 2), (26, .int .i64 0), (27, .pointer (some ⟨b3, 0, none⟩)), (28, .pointer none), (29, .tuple #[.int .u64 (x3.1.toNat : Int), .int .i64 x3.2]), (30, .pointer none), (31, .pointer (some ⟨b1, 1, none⟩)), (32, .int .i64 a0.A), (33, .pointer (some ⟨b1, 2, none⟩)), (34, .int .i64 a0.B), (35, .pointer (some ⟨b1, 4, none⟩)), (36, v0), (37, .tuple #[.int .u64 (x3.1.toNat : Int), .int .i64 x3.2]), (38, .int .u64 (x3.1.toNat : Int)), (39, .int .i64 x3.2), (40, .tuple #[.agg #[.int .i64 x4.1.From, .int .i64 x4.1.To, q7_0_0], .int .i64 x4.2]), (41, .pointer none), (42, .pointer (some ⟨b1, 3, none⟩)), (43, .int .u64 (a0.Id.toNat : Int)), (44, .tuple #[.agg #[.int .i64 x4.1.From, .int .i64 x4.1.To, q7_0_0], .int .i64 x4.2]), (45, .agg #[.int .i64 x4.1.From, .int .i64 x4.1.To, q7_0_0]), (46, .int .i64 x4.2), (47, .tuple #[.int .u64 (x5.1.toNat : Int), .int .i64 x5.2]), (48, .pointer none), (49, .pointer (some ⟨b1, 3, none⟩)), (50, .int .u64 (a0.Id.toNat : Int)), (51, .tuple #[.int .u64 (x5.1.toNat : Int), .int .i64 x5.2]), (52, .int .u64 (x5.1.toNat : Int)), (53, .int .i64 x5.2), (54, .tuple #[.agg #[.int .i64 x6.1.From, .int .i64 x6.1.To, q11_0_0], .int .i64 x6.2]), (55, .pointer none), (56, .pointer (some ⟨b1, 3, none⟩)), (57, .int .u64 (a0.Id.toNat : Int)), (58, .tuple #[.agg #[.int .i64 x6.1.From, .int .i64 x6.1.To, q11_0_0], .int .i64 x6.2]), (59, .agg #[.int .i64 x6.1.From, .int .i64 x6.1.To, q11_0_0]), (60, .int .i64 x6.2), (61, .int .i64 x3.2), (62, .bool (decide (x3.2 ≠ 1))), (66, .bool (decide ((x3.2 ≠ 1) ∨ (x4.2 ≠ 4)))), (70, .bool (decide (((x3.2 ≠ 1) ∨ (x4.2 ≠ 4)) ∨ (x5.2 ≠ 4)))), (74, .bool (decide ((((x3.2 ≠ 1) ∨ (x4.2 ≠ 4)) ∨ (x5.2 ≠ 4)) ∨ (x6.2 ≠ 4)))), (81, .bool x7)] (fun _ => [(86, .bool x9)]) (fun sl wL => sl.w = wL ∧ Step K0 s26 sl) ?_ ?_
            · -- the ways
              refine k_again 82 rfl ?_
              refine k_splitb (fun c28 => ?_) (fun c28 => ?_)
              · -- t82 True
                have hx9 := ibT hx9 c28
                refine k_no rfl rfl rfl rfl ?_
                refine k_no rfl rfl rfl rfl ?_
                refine k_no rfl rfl rfl rfl ?_
                refine k_pickT rfl rfl rfl rfl ?_
                exact k_met ⟨s26, ⟨(congrArg (fun b => some (Value.bool b)) (Option.some.inj hx9)), trivial⟩, ⟨rfl, rfl, rfl, rfl, rfl, rfl, rfl, rfl, rfl, rfl, rfl, rfl, rfl, rfl, rfl, rfl, rfl, rfl, rfl, rfl, rfl, rfl, rfl, rfl, rfl, rfl, rfl, rfl, rfl, rfl, rfl, rfl, rfl, rfl, rfl, rfl, rfl, rfl, rfl, rfl, rfl, rfl, rfl, rfl, rfl, rfl, rfl, rfl, rfl, rfl, rfl, rfl, rfl, rfl, rfl, rfl, rfl, trivial⟩, rfl, hE27⟩
              · -- t82 False
                have hx9 := ibF hx9 c28
                refine k_yes rfl rfl ?_
                refine k_move rfl rfl ?_
                refine k_yes rfl rfl ?_
                obtain ⟨x10, hx10, hx9⟩ := ob hx9
                refine k_call cal23 rfl (net_Net_Replicas_nil_w   hx10) rfl ?_
                rintro s29 vr29 st29 rfl
                have szs29 := st29.size
                have hS : Step K0 s s29 := hS.trans0 st29
                have hE5 : Step (KO (b2 + 1)) s3 s29 := hE5.trans0 st29
                have hE27 : Step K0 s26 s29 := hE27.trans0 st29
                replace hp0 := hp0.up2 st29
                replace hq7_0_0 := hq7_0_0.up2 st29
                replace hq11_0_0 := hq11_0_0.up2 st29
                replace h1 := h1.up2 st29
                replace hz4 := hz4.up2 st29
                replace h3 := h3.up2 st29
                replace h8 := h8.up2 st29
                replace h12 := h12.up2 st29
                refine k_yes rfl rfl ?_
                refine k_neq rfl rfl rfl ?_
                refine k_pickF rfl rfl rfl rfl ?_
                exact k_met ⟨s29, ⟨(congrArg (fun b => some (Value.bool b)) (Option.some.inj hx9)), trivial⟩, ⟨rfl, rfl, rfl, rfl, rfl, rfl, rfl, rfl, rfl, rfl, rfl, rfl, rfl, rfl, rfl, rfl, rfl, rfl, rfl, rfl, rfl, rfl, rfl, rfl, rfl, rfl, rfl, rfl, rfl, rfl, rfl, rfl, rfl, rfl, rfl, rfl, rfl, rfl, rfl, rfl, rfl, rfl, rfl, rfl, rfl, rfl, rfl, rfl, rfl, rfl, rfl, rfl, rfl, rfl, rfl, rfl, rfl, trivial⟩, rfl, hE27⟩
            · -- behind
              rintro s30 wL ⟨rfl, hE27⟩
              have szs30 := hE27.size
              have hS : Step K0 s s30 := hS.trans0 hE27
              have hE5 : Step (KO (b2 + 1)) s3 s30 := hE5.trans0 hE27
              replace hp0 := hp0.up2 hE27
              replace hq7_0_0 := hq7_0_0.up2 hE27
              replace hq11_0_0 := hq11_0_0.up2 hE27
              replace h1 := h1.up2 hE27
              replace hz4 := hz4.up2 hE27
              replace h3 := h3.up2 hE27
              replace h8 := h8.up2 hE27
              replace h12 := h12.up2 hE27
              refine k_move rfl rfl ?_
              obtain ⟨x11, hx11, h⟩ := ob h
              have hE31 : Step K0 s30 s30 := (Step.refl _).of0 (by first | exact fun _ h => h | (intro c h; simp [KC, KO, KU, KN] at h <;> omega))
              refine k_cutl (X := St) 4 [(1, .pointer (some ⟨b1, 0, none⟩)), (2, .bool false), (4, .slice (some ⟨b3, 0, none⟩) 2 2), (5, .int .i64 0), (6, .pointer none), (8, .int .i64 x3.2), (9, .pointer (some ⟨b8, 0, none⟩)), (10, .int .i64 x4.2), (12, .int .i64 x5.2), (13, .pointer (some ⟨b12, 0, none⟩)), (14, .int .i64 x6.2), (19, .int .i64 0), (20, .slice (some ⟨b3, 0, none⟩) 2 2), (21, .int .i64 2), (22, .bool true), (25, .slice (some ⟨b3, 0, none⟩) 2 2), (26, .int .i64 0), (27, .pointer (some ⟨b3, 0, none⟩)), (28, .pointer none), (29, .tuple #[.int .u64 (x3.1.toNat : Int), .int .i64 x3.2]), (30, .pointer none), (31, .pointer (some ⟨b1, 1, none⟩)), (32, .int .i64 a0.A), (33, .pointer (some ⟨b1, 2, none⟩)), (34, .int .i64 a0.B), (35, .pointer (some ⟨b1, 4, none⟩)), (36, v0), (37, .tuple #[.int .u64 (x3.1.toNat : Int), .int .i64 x3.2]), (38, .int .u64 (x3.1.toNat : Int)), (39, .int .i64 x3.2), (40, .tuple #[.agg #[.int .i64 x4.1.From, .int .i64 x4.1.To, q7_0_0], .int .i64 x4.2]), (41, .pointer none), (42, .pointer (some ⟨b1, 3, none⟩)), (43, .int .u64 (a0.Id.toNat : Int)), (44, .tuple #[.agg #[.int .i64 x4.1.From, .int .i64 x4.1.To, q7_0_0], .int .i64 x4.2]), (45, .agg #[.int .i64 x4.1.From, .int .i64 x4.1.To, q7_0_0]), (46, .int .i64 x4.2), (47, .tuple #[.int .u64 (x5.1.toNat : Int), .int .i64 x5.2]), (48, .pointer none), (49, .pointer (some ⟨b1, 3, none⟩)), (50, .int .u64 (a0.Id.toNat : Int)), (51, .tuple #[.int .u64 (x5.1.toNat : Int), .int .i64 x5.2]), (52, .int .u64 (x5.1.toNat : Int)), (53, .int .i64 x5.2), (54, .tuple #[.agg #[.int .i64 x6.1.From, .int .i64 x6.1.To, q11_0_0], .int .i64 x6.2]), (55, .pointer none), (56, .pointer (some ⟨b1, 3, none⟩)), (57, .int .u64 (a0.Id.toNat : Int)), (58, .tuple #[.agg #[.int .i64 x6.1.From, .int .i64 x6.1.To, q11_0_0], .int .i64 x6.2]), (59, .agg #[.int .i64 x6.1.From, .int .i64 x6.1.To, q11_0_0]), (60, .int .i64 x6.2), (61, .int .i64 x3.2), (62, .bool (decide (x3.2 ≠ 1))), (66, .bool (decide ((x3.2 ≠ 1) ∨ (x4.2 ≠ 4)))), (70, .bool (decide (((x3.2 ≠ 1) ∨ (x4.2 ≠ 4)) ∨ (x5.2 ≠ 4)))), (74, .bool (decide ((((x3.2 ≠ 1) ∨ (x4.2 ≠ 4)) ∨ (x5.2 ≠ 4)) ∨ (x6.2 ≠ 4)))), (81, .bool x7), (86, .bool x9)] (fun _ => [(91, .bool x11)]) (fun sl wL => sl.w = wL ∧ Step K0 s30 sl) ?_ ?_
              · -- the ways
                refine k_again 87 rfl ?_
                refine k_splitb (fun c32 => ?_) (fun c32 => ?_)
                · -- t87 True
                  have hx11 := ibT hx11 c32
                  refine k_no rfl rfl rfl rfl ?_
                  refine k_no rfl rfl rfl rfl ?_
                  refine k_no rfl rfl rfl rfl ?_
                  refine k_pickT rfl rfl rfl rfl ?_
                  exact k_met ⟨s30, ⟨(congrArg (fun b => some (Value.bool b)) (Option.some.inj hx11)), trivial⟩, ⟨rfl, rfl, rfl, rfl, rfl, rfl, rfl, rfl, rfl, rfl, rfl, rfl, rfl, rfl, rfl, rfl, rfl, rfl, rfl, rfl, rfl, rfl, rfl, rfl, rfl, rfl, rfl, rfl, rfl, rfl, rfl, rfl, rfl, rfl, rfl, rfl, rfl, rfl, rfl, rfl, rfl, rfl, rfl, rfl, rfl, rfl, rfl, rfl, rfl, rfl, rfl, rfl, rfl, rfl, rfl, rfl, rfl, rfl, trivial⟩, rfl, hE31⟩
                · -- t87 False
                  have hx11 := ibF hx11 c32
                  refine k_yes rfl rfl ?_
                  refine k_move rfl rfl ?_
                  refine k_yes rfl rfl ?_
                  obtain ⟨x12, hx12, hx11⟩ := ob hx11
                  refine k_call cal18 rfl (net_Net_Count_nil_w   hx12) rfl ?_
                  rintro s33 vr33 st33 rfl
                  have szs33 := st33.size
                  have hS : Step K0 s s33 := hS.trans0 st33
                  have hE5 : Step (KO (b2 + 1)) s3 s33 := hE5.trans0 st33
                  have hE31 : Step K0 s30 s33 := hE31.trans0 st33
                  replace hp0 := hp0.up2 st33
                  replace hq7_0_0 := hq7_0_0.up2 st33
                  replace hq11_0_0 := hq11_0_0.up2 st33
                  replace h1 := h1.up2 st33
                  replace hz4 := hz4.up2 st33
                  replace h3 := h3.up2 st33
                  replace h8 := h8.up2 st33
                  replace h12 := h12.up2 st33
                  refine k_yes rfl rfl ?_
                  refine k_neq rfl rfl rfl ?_
                  refine k_pickF rfl rfl rfl rfl ?_
                  exact k_met ⟨s33, ⟨(congrArg (fun b => some (Value.bool b)) (Option.some.inj hx11)), trivial⟩, ⟨rfl, rfl, rfl, rfl, rfl, rfl, rfl, rfl, rfl, rfl, rfl, rfl, rfl, rfl, rfl, rfl, rfl, rfl, rfl, rfl, rfl, rfl, rfl, rfl, rfl, rfl, rfl, rfl, rfl, rfl, rfl, rfl, rfl, rfl, rfl, rfl, rfl, rfl, rfl, rfl, rfl, rfl, rfl, rfl, rfl, rfl, rfl, rfl, rfl, rfl, rfl, rfl, rfl, rfl, rfl, rfl, rfl, rfl, trivial⟩, rfl, hE31⟩
              · -- behind
                rintro s34 wL ⟨rfl, hE31⟩
                have szs34 := hE31.size
                have hS : Step K0 s s34 := hS.trans0 hE31
                have hE5 : Step (KO (b2 + 1)) s3 s34 := hE5.trans0 hE31
                replace hp0 := hp0.up2 hE31
                replace hq7_0_0 := hq7_0_0.up2 hE31
                replace hq11_0_0 := hq11_0_0.up2 hE31
                replace h1 := h1.up2 hE31
                replace hz4 := hz4.up2 hE31
                replace h3 := h3.up2 hE31
                replace h8 := h8.up2 hE31
                replace h12 := h12.up2 hE31
                refine k_move rfl rfl ?_
                obtain ⟨x13, hx13, h⟩ := ob h
                have hE35 : Step K0 s34 s34 := (Step.refl _).of0 (by first | exact fun _ h => h | (intro c h; simp [KC, KO, KU, KN] at h <;> omega))
                refine k_cutl (X := St) 5 [(1, .pointer (some ⟨b1, 0, none⟩)), (2, .bool false), (4, .slice (some ⟨b3, 0, none⟩) 2 2), (5, .int .i64 0), (6, .pointer none), (8, .int .i64 x3.2), (9, .pointer (some ⟨b8, 0, none⟩)), (10, .int .i64 x4.2), (12, .int .i64 x5.2), (13, .pointer (some ⟨b12, 0, none⟩)), (14, .int .i64 x6.2), (19, .int .i64 0), (20, .slice (some ⟨b3, 0, none⟩) 2 2), (21, .int .i64 2), (22, .bool true), (25, .slice (some ⟨b3, 0, none⟩) 2 2), (26, .int .i64 0), (27, .pointer (some ⟨b3, 0, none⟩)), (28, .pointer none), (29, .tuple #[.int .u64 (x3.1.toNat : Int), .int .i64 x3.2]), (30, .pointer none), (31, .pointer (some ⟨b1, 1, none⟩)), (32, .int .i64 a0.A), (33, .pointer (some ⟨b1, 2, none⟩)), (34, .int .i64 a0.B), (35, .pointer (some ⟨b1, 4, none⟩)), (36, v0), (37, .tuple #[.int .u64 (x3.1.toNat : Int), .int .i64 x3.2]), (38, .int .u64 (x3.1.toNat : Int)), (39, .int .i64 x3.2), (40, .tuple #[.agg #[.int .i64 x4.1.From, .int .i64 x4.1.To, q7_0_0], .int .i64 x4.2]), (41, .pointer none), (42, .pointer (some ⟨b1, 3, none⟩)), (43, .int .u64 (a0.Id.toNat : Int)), (44, .tuple #[.agg #[.int .i64 x4.1.From, .int .i64 x4.1.To, q7_0_0], .int .i64 x4.2]), (45, .agg #[.int .i64 x4.1.From, .int .i64 x4.1.To, q7_0_0]), (46, .int .i64 x4.2), (47, .tuple #[.int .u64 (x5.1.toNat : Int), .int .i64 x5.2]), (48, .pointer none), (49, .pointer (some ⟨b1, 3, none⟩)), (50, .int .u64 (a0.Id.toNat : Int)), (51, .tuple #[.int .u64 (x5.1.toNat : Int), .int .i64 x5.2]), (52, .int .u64 (x5.1.toNat : Int)), (53, .int .i64 x5.2), (54, .tuple #[.agg #[.int .i64 x6.1.From, .int .i64 x6.1.To, q11_0_0], .int .i64 x6.2]), (55, .pointer none), (56, .pointer (some ⟨b1, 3, none⟩)), (57, .int .u64 (a0.Id.toNat : Int)), (58, .tuple #[.agg #[.int .i64 x6.1.From, .int .i64 x6.1.To, q11_0_0], .int .i64 x6.2]), (59, .agg #[.int .i64 x6.1.From, .int .i64 x6.1.To, q11_0_0]), (60, .int .i64 x6.2), (61, .int .i64 x3.2), (62, .bool (decide (x3.2 ≠ 1))), (66, .bool (decide ((x3.2 ≠ 1) ∨ (x4.2 ≠ 4)))), (70, .bool (decide (((x3.2 ≠ 1) ∨ (x4.2 ≠ 4)) ∨ (x5.2 ≠ 4)))), (74, .bool (decide ((((x3.2 ≠ 1) ∨ (x4.2 ≠ 4)) ∨ (x5.2 ≠ 4)) ∨ (x6.2 ≠ 4)))), (81, .bool x7), (86, .bool x9), (91, .bool x11)] (fun _ => [(97, .bool x13)]) (fun sl wL => sl.w = wL ∧ Step K0 s34 sl) ?_ ?_
                · -- the ways
                  refine k_again 92 rfl ?_
                  refine k_splitb (fun c36 => ?_) (fun c36 => ?_)
                  · -- t92 True
                    have hx13 := ibT hx13 c36
                    refine k_no rfl rfl rfl rfl ?_
                    refine k_no rfl rfl rfl rfl ?_
                    refine k_no rfl rfl rfl rfl ?_
                    refine k_no rfl rfl rfl rfl ?_
                    refine k_pickT rfl rfl rfl rfl ?_
                    exact k_met ⟨s34, ⟨(congrArg (fun b => some (Value.bool b)) (Option.some.inj hx13)), trivial⟩, ⟨rfl, rfl, rfl, rfl, rfl, rfl, rfl, rfl, rfl, rfl, rfl, rfl, rfl, rfl, rfl, rfl, rfl, rfl, rfl, rfl, rfl, rfl, rfl, rfl, rfl, rfl, rfl, rfl, rfl, rfl, rfl, rfl, rfl, rfl, rfl, rfl, rfl, rfl, rfl, rfl, rfl, rfl, rfl, rfl, rfl, rfl, rfl, rfl, rfl, rfl, rfl, rfl, rfl, rfl, rfl, rfl, rfl, rfl, rfl, trivial⟩, rfl, hE35⟩
                  · -- t92 False
                    have hx13 := ibF hx13 c36
                    refine k_yes rfl rfl ?_
                    refine k_move rfl rfl ?_
                    refine k_yes rfl rfl ?_
                    obtain ⟨x14, hx14, hx13⟩ := ob hx13
                    refine k_call cal14 rfl (net_Net_Letters_nil_w   hx14) rfl ?_
                    rintro s37 v37_0 st37 ⟨_, rfl, h37_0⟩
                    have szs37 := st37.size
                    have hS : Step K0 s s37 := hS.trans0 st37
                    have hE5 : Step (KO (b2 + 1)) s3 s37 := hE5.trans0 st37
                    have hE35 : Step K0 s34 s37 := hE35.trans0 st37
                    replace hp0 := hp0.up2 st37
                    replace hq7_0_0 := hq7_0_0.up2 st37
                    replace hq11_0_0 := hq11_0_0.up2 st37
                    replace h1 := h1.up2 st37
                    replace hz4 := hz4.up2 st37
                    replace h3 := h3.up2 st37
                    replace h8 := h8.up2 st37
                    replace h12 := h12.up2 st37
                    refine k_yes rfl rfl ?_
                    refine k_len Try.underlying40 rfl (SL.of_R h37_0).hasLen rfl ?_
                    refine k_as (v := .int .i64 (x14.length : Int)) (by simp only [List.length_map]) ?_
                    refine k_yes rfl rfl ?_
                    refine k_neq rfl rfl rfl ?_
                    refine k_pickF rfl rfl rfl rfl ?_
                    exact k_met ⟨s37, ⟨(congrArg (fun b => some (Value.bool b)) (Option.some.inj hx13)), trivial⟩, ⟨rfl, rfl, rfl, rfl, rfl, rfl, rfl, rfl, rfl, rfl, rfl, rfl, rfl, rfl, rfl, rfl, rfl, rfl, rfl, rfl, rfl, rfl, rfl, rfl, rfl, rfl, rfl, rfl, rfl, rfl, rfl, rfl, rfl, rfl, rfl, rfl, rfl, rfl, rfl, rfl, rfl, rfl, rfl, rfl, rfl, rfl, rfl, rfl, rfl, rfl, rfl, rfl, rfl, rfl, rfl, rfl, rfl, rfl, rfl, trivial⟩, rfl, hE35⟩
                · -- behind
                  rintro s38 wL ⟨rfl, hE35⟩
                  have szs38 := hE35.size
                  have hS : Step K0 s s38 := hS.trans0 hE35
                  have hE5 : Step (KO (b2 + 1)) s3 s38 := hE5.trans0 hE35
                  replace hp0 := hp0.up2 hE35
                  replace hq7_0_0 := hq7_0_0.up2 hE35
                  replace hq11_0_0 := hq11_0_0.up2 hE35
                  replace h1 := h1.up2 hE35
                  replace hz4 := hz4.up2 hE35
                  replace h3 := h3.up2 hE35
                  replace h8 := h8.up2 hE35
                  replace h12 := h12.up2 hE35
                  refine k_move rfl rfl ?_
                  obtain ⟨x15, hx15, h⟩ := ob h
                  have hE39 : Step K0 s38 s38 := (Step.refl _).of0 (by first | exact fun _ h => h | (intro c h; simp [KC, KO, KU, KN] at h <;> omega))
                  refine k_cutl (X := St) 4 [(1, .pointer (some ⟨b1, 0, none⟩)), (2, .bool false), (4, .slice (some ⟨b3, 0, none⟩) 2 2), (5, .int .i64 0), (6, .pointer none), (8, .int .i64 x3.2), (9, .pointer (some ⟨b8, 0, none⟩)), (10, .int .i64 x4.2), (12, .int .i64 x5.2), (13, .pointer (some ⟨b12, 0, none⟩)), (14, .int .i64 x6.2), (19, .int .i64 0), (20, .slice (some ⟨b3, 0, none⟩) 2 2), (21, .int .i64 2), (22, .bool true), (25, .slice (some ⟨b3, 0, none⟩) 2 2), (26, .int .i64 0), (27, .pointer (some ⟨b3, 0, none⟩)), (28, .pointer none), (29, .tuple #[.int .u64 (x3.1.toNat : Int), .int .i64 x3.2]), (30, .pointer none), (31, .pointer (some ⟨b1, 1, none⟩)), (32, .int .i64 a0.A), (33, .pointer (some ⟨b1, 2, none⟩)), (34, .int .i64 a0.B), (35, .pointer (some ⟨b1, 4, none⟩)), (36, v0), (37, .tuple #[.int .u64 (x3.1.toNat : Int), .int .i64 x3.2]), (38, .int .u64 (x3.1.toNat : Int)), (39, .int .i64 x3.2), (40, .tuple #[.agg #[.int .i64 x4.1.From, .int .i64 x4.1.To, q7_0_0], .int .i64 x4.2]), (41, .pointer none), (42, .pointer (some ⟨b1, 3, none⟩)), (43, .int .u64 (a0.Id.toNat : Int)), (44, .tuple #[.agg #[.int .i64 x4.1.From, .int .i64 x4.1.To, q7_0_0], .int .i64 x4.2]), (45, .agg #[.int .i64 x4.1.From, .int .i64 x4.1.To, q7_0_0]), (46, .int .i64 x4.2), (47, .tuple #[.int .u64 (x5.1.toNat : Int), .int .i64 x5.2]), (48, .pointer none), (49, .pointer (some ⟨b1, 3, none⟩)), (50, .int .u64 (a0.Id.toNat : Int)), (51, .tuple #[.int .u64 (x5.1.toNat : Int), .int .i64 x5.2]), (52, .int .u64 (x5.1.toNat : Int)), (53, .int .i64 x5.2), (54, .tuple #[.agg #[.int .i64 x6.1.From, .int .i64 x6.1.To, q11_0_0], .int .i64 x6.2]), (55, .pointer none), (56, .pointer (some ⟨b1, 3, none⟩)), (57, .int .u64 (a0.Id.toNat : Int)), (58, .tuple #[.agg #[.int .i64 x6.1.From, .int .i64 x6.1.To, q11_0_0], .int .i64 x6.2]), (59, .agg #[.int .i64 x6.1.From, .int .i64 x6.1.To, q11_0_0]), (60, .int .i64 x6.2), (61, .int .i64 x3.2), (62, .bool (decide (x3.2 ≠ 1))), (66, .bool (decide ((x3.2 ≠ 1) ∨ (x4.2 ≠ 4)))), (70, .bool (decide (((x3.2 ≠ 1) ∨ (x4.2 ≠ 4)) ∨ (x5.2 ≠ 4)))), (74, .bool (decide ((((x3.2 ≠ 1) ∨ (x4.2 ≠ 4)) ∨ (x5.2 ≠ 4)) ∨ (x6.2 ≠ 4)))), (81, .bool x7), (86, .bool x9), (91, .bool x11), (97, .bool x13)] (fun _ => [(102, .bool x15)]) (fun sl wL => sl.w = wL ∧ Step K0 s38 sl) ?_ ?_
                  · -- the ways
                    refine k_again 98 rfl ?_
                    refine k_splitb (fun c40 => ?_) (fun c40 => ?_)
                    · -- t98 True
                      have hx15 := ibT hx15 c40
                      refine k_no rfl rfl rfl rfl ?_
                      refine k_no rfl rfl rfl rfl ?_
                      refine k_no rfl rfl rfl rfl ?_
                      refine k_pickT rfl rfl rfl rfl ?_
                      exact k_met ⟨s38, ⟨(congrArg (fun b => some (Value.bool b)) (Option.some.inj hx15)), trivial⟩, ⟨rfl, rfl, rfl, rfl, rfl, rfl, rfl, rfl, rfl, rfl, rfl, rfl, rfl, rfl, rfl, rfl, rfl, rfl, rfl, rfl, rfl, rfl, rfl, rfl, rfl, rfl, rfl, rfl, rfl, rfl, rfl, rfl, rfl, rfl, rfl, rfl, rfl, rfl, rfl, rfl, rfl, rfl, rfl, rfl, rfl, rfl, rfl, rfl, rfl, rfl, rfl, rfl, rfl, rfl, rfl, rfl, rfl, rfl, rfl, rfl, trivial⟩, rfl, hE39⟩
                    · -- t98 False
                      have hx15 := ibF hx15 c40
                      refine k_yes rfl rfl ?_
                      refine k_move rfl rfl ?_
                      refine k_yes rfl rfl ?_
                      obtain ⟨x16, hx16, hx15⟩ := ob hx15
                      refine k_call cal22 rfl (net_Net_Copy_nil_w   hx16) rfl ?_
                      rintro s41 v41_0 st41 ⟨ku41_0, _, rfl, hk41_0, h41_0⟩
                      have szs41 := st41.size
                      have hS : Step K0 s s41 := hS.trans0 st41
                      have hE5 : Step (KO (b2 + 1)) s3 s41 := hE5.trans0 st41
                      have hE39 : Step K0 s38 s41 := hE39.trans0 st41
                      replace hp0 := hp0.up2 st41
                      replace hq7_0_0 := hq7_0_0.up2 st41
                      replace hq11_0_0 := hq11_0_0.up2 st41
                      replace h1 := h1.up2 st41
                      replace hz4 := hz4.up2 st41
                      replace h3 := h3.up2 st41
                      replace h8 := h8.up2 st41
                      replace h12 := h12.up2 st41
                      have ol41_0 := OptONetNet.le (k := ku41_0) h41_0
                      rcases oc_out hx15 with ⟨ho_42, hx15⟩ | ⟨x17, ho_42, hx15⟩
                      · -- nil
                        rw [ho_42] at h41_0
                        obtain rfl : v41_0 = .pointer none := h41_0
                        refine k_yes rfl rfl ?_
                        refine k_neq_pnil Try.underlying24 rfl rfl rfl ?_
                        refine k_pickF rfl rfl rfl rfl ?_
                        exact k_met ⟨s41, ⟨(congrArg (fun b => some (Value.bool b)) (Option.some.inj hx15)), trivial⟩, ⟨rfl, rfl, rfl, rfl, rfl, rfl, rfl, rfl, rfl, rfl, rfl, rfl, rfl, rfl, rfl, rfl, rfl, rfl, rfl, rfl, rfl, rfl, rfl, rfl, rfl, rfl, rfl, rfl, rfl, rfl, rfl, rfl, rfl, rfl, rfl, rfl, rfl, rfl, rfl, rfl, rfl, rfl, rfl, rfl, rfl, rfl, rfl, rfl, rfl, rfl, rfl, rfl, rfl, rfl, rfl, rfl, rfl, rfl, rfl, rfl, trivial⟩, rfl, hE39⟩
                      · -- some
                        rw [ho_42] at h41_0
                        replace h41_0 : ONetNet s41 ku41_0 v41_0 x17 := h41_0
                        replace ol41_0 := ol41_0.resolve_left (fun e => by rw [e] at ho_42; cases ho_42)
                        have le42 := h41_0.le
                        have ne42 := h41_0.ne
                        refine k_yes rfl rfl ?_
                        obtain ⟨pb43, rfl⟩ := h41_0.ptr
                        refine k_neq_pnil Try.underlying24 rfl rfl rfl ?_
                        refine k_pickF rfl rfl rfl rfl ?_
                        exact k_met ⟨s41, ⟨(congrArg (fun b => some (Value.bool b)) (Option.some.inj hx15)), trivial⟩, ⟨rfl, rfl, rfl, rfl, rfl, rfl, rfl, rfl, rfl, rfl, rfl, rfl, rfl, rfl, rfl, rfl, rfl, rfl, rfl, rfl, rfl, rfl, rfl, rfl, rfl, rfl, rfl, rfl, rfl, rfl, rfl, rfl, rfl, rfl, rfl, rfl, rfl, rfl, rfl, rfl, rfl, rfl, rfl, rfl, rfl, rfl, rfl, rfl, rfl, rfl, rfl, rfl, rfl, rfl, rfl, rfl, rfl, rfl, rfl, rfl, trivial⟩, rfl, hE39⟩
                  · -- behind
                    rintro s44 wL ⟨rfl, hE39⟩
                    have szs44 := hE39.size
                    have hS : Step K0 s s44 := hS.trans0 hE39
                    have hE5 : Step (KO (b2 + 1)) s3 s44 := hE5.trans0 hE39
                    replace hp0 := hp0.up2 hE39
                    replace hq7_0_0 := hq7_0_0.up2 hE39
                    replace hq11_0_0 := hq11_0_0.up2 hE39
                    replace h1 := h1.up2 hE39
                    replace hz4 := hz4.up2 hE39
                    replace h3 := h3.up2 hE39
                    replace h8 := h8.up2 hE39
                    replace h12 := h12.up2 hE39
                    refine k_nil ?_
                    refine k_cond rfl (fun c45 => ?_) (fun c45 => ?_)
                    · -- T
                      have h := ibT h c45
                      refine k_seq ?_
                      refine k_region ?_
                      refine k_assign rfl rfl ?_
                      refine k_nil ?_
                      refine k_ret ?_
                      obtain rfl := Option.some.inj h
                      refine ⟨_, rfl, Ret.mk hS ?_⟩
                      exact rfl
                    · -- F
                      have h := ibF h c45
                      refine k_skip ?_
                      refine k_blk ?_
                      refine k_region ?_
                      refine k_move rfl rfl ?_
                      refine k_add rfl rfl rfl ?_
                      refine k_as (v := .int .i64 1) (by first | rfl | decide) ?_
                      refine k_assign rfl rfl ?_
                      refine k_nil ?_
                      refine k_stopr ?_
                      refine k_round ?_
                      refine k_seq ?_
                      refine k_seq ?_
                      refine k_region ?_
                      refine k_move rfl rfl ?_
                      refine k_move rfl rfl ?_
                      refine k_len Try.underlying65 rfl ⟨_, _, rfl⟩ rfl ?_
                      refine k_lss rfl rfl rfl ?_
                      refine k_as (v := .bool true) rfl ?_
                      refine k_nil ?_
                      refine k_cond_true rfl ?_
                      refine k_skip ?_
                      refine k_seq ?_
                      refine k_block ?_
                      refine k_seq ?_
                      refine k_region ?_
                      refine k_move rfl rfl ?_
                      refine k_move rfl rfl ?_
                      refine k_ixaddr_raw (i := 1) Try.underlying65 size24 rfl rfl rfl rfl rfl ?_
                      refine k_load_blk one24 rfl h3 rfl rfl ?_
                      refine k_assign rfl rfl ?_
                      refine k_nil ?_
                      refine k_seq ?_
                      refine k_region ?_
                      refine k_move rfl rfl ?_
                      refine k_field_addr fld32_1 rfl rfl ?_
                      refine k_load_blk one3 rfl h1 rfl rfl ?_
                      refine k_field_addr fld32_2 rfl rfl ?_
                      refine k_load_blk one3 rfl h1 rfl rfl ?_
                      refine k_field_addr fld32_4 rfl rfl ?_
                      refine k_load_blk one23 rfl h1 rfl rfl ?_
                      obtain ⟨x18, hx18, h⟩ := ob h
                      refine k_call cal11 rfl (net_Net_Send_w  hz4 hp0 (by first | assumption | omega | (simp <;> omega)) hx18) rfl ?_
                      rintro s46 vr46 st46 ⟨rfl, hz4⟩
                      have szs46 := st46.size
                      have hS : Step K0 s s46 := hS.comp st46 (by intro l hl hk; (try simp only [KC, KO, KU, KN, K0] at hk ⊢) <;> omega)
                      have hE5 : Step (KO (b2 + 1)) s3 s46 := hE5.comp st46 (by intro l hl hk; (try simp only [KC, KO, KU, KN, K0] at hk ⊢) <;> omega)
                      replace hp0 := hp0.up2 st46
                      replace hq7_0_0 := hq7_0_0.up2 st46
                      replace hq11_0_0 := hq11_0_0.up2 st46
                      replace h1 := h1.up2 st46
                      replace h3 := h3.up2 st46
                      replace h8 := h8.up2 st46
                      replace h12 := h12.up2 st46
                      refine k_move rfl rfl ?_
                      refine k_extract rfl rfl rfl ?_
                      refine k_extract rfl rfl rfl ?_
                      refine k_assign rfl rfl ?_
                      refine k_assign rfl rfl ?_
                      refine k_nil ?_
                      refine k_keep [(1, _), (2, _), (4, _), (5, _), (6, _), (8, _), (9, _), (10, _), (12, _), (13, _), (14, _), (19, _), (20, _), (21, _), (22, _), (23, _), (24, _), (25, _), (26, _), (27, _), (28, _), (29, _), (30, _), (31, _), (32, _), (33, _), (34, _), (35, _), (36, _), (37, _), (38, _), (39, _), (40, _), (41, _), (42, _), (43, _), (44, _), (45, _), (46, _), (47, _), (48, _), (49, _), (50, _), (51, _), (52, _), (53, _), (54, _), (55, _), (56, _), (57, _), (58, _), (59, _), (60, _), (61, _), (62, _), (66, _), (70, _), (74, _), (81, _), (86, _), (91, _), (97, _), (102, _)] ⟨rfl, rfl, rfl, rfl, rfl, rfl, rfl, rfl, rfl, rfl, rfl, rfl, rfl, rfl, rfl, rfl, rfl, rfl, rfl, rfl, rfl, rfl, rfl, rfl, rfl, rfl, rfl, rfl, rfl, rfl, rfl, rfl, rfl, rfl, rfl, rfl, rfl, rfl, rfl, rfl, rfl, rfl, rfl, rfl, rfl, rfl, rfl, rfl, rfl, rfl, rfl, rfl, rfl, rfl, rfl, rfl, rfl, rfl, rfl, rfl, rfl, rfl, rfl, trivial⟩ ?_
                      refine k_seq ?_
                      refine k_region ?_
                      refine k_move rfl rfl ?_
                      refine k_field_addr fld32_3 rfl rfl ?_
                      refine k_load_blk one30 rfl h1 rfl rfl ?_
                      obtain ⟨x19, hx19, h⟩ := ob h
                      refine k_call cal12 rfl (net_Net_Deliver_w  hz4 hx19) rfl ?_
                      rintro s47 vr47 st47 ⟨cs47_0, rfl, h47_0, hz4⟩
                      have szs47 := st47.size
                      have hS : Step K0 s s47 := hS.comp st47 (by intro l hl hk; (try simp only [KC, KO, KU, KN, K0] at hk ⊢) <;> omega)
                      have hE5 : Step (KO (b2 + 1)) s3 s47 := hE5.comp st47 (by intro l hl hk; (try simp only [KC, KO, KU, KN, K0] at hk ⊢) <;> omega)
                      replace hp0 := hp0.up2 st47
                      replace hq7_0_0 := hq7_0_0.up2 st47
                      replace hq11_0_0 := hq11_0_0.up2 st47
                      replace h1 := h1.up2 st47
                      replace h3 := h3.up2 st47
                      replace h8 := h8.up2 st47
                      replace h12 := h12.up2 st47
                      obtain ⟨q47_0_0, rfl, hq47_0_0⟩ := opnApiMessage h47_0
                      refine k_move rfl rfl ?_
                      refine k_extract rfl rfl rfl ?_
                      refine k_extract rfl rfl rfl ?_
                      refine k_alloc zero36 rfl ?_
                      intro s48 b48 st48 h48 ge48
                      have szs48 := st48.size
                      have hS : Step K0 s s48 := hS.trans0 st48
                      have hE5 : Step (KO (b2 + 1)) s3 s48 := hE5.trans0 st48
                      replace hp0 := hp0.up2 st48
                      replace hq47_0_0 := hq47_0_0.up2 st48
                      replace hq11_0_0 := hq11_0_0.up2 st48
                      replace h1 := h1.up2 st48
                      replace hz4 := hz4.up2 st48
                      replace h3 := h3.up2 st48
                      replace hq7_0_0 := hq7_0_0.up2 st48
                      replace h8 := h8.up2 st48
                      replace h12 := h12.up2 st48
                      have lt48 := h48.lt
                      refine k_store_c (cs' := [.int .i64 x19.1.From, .int .i64 x19.1.To, q47_0_0]) size36 rfl rfl h48 (by first | (simp; done) | omega | (dsimp only; omega)) (CellsOf.lit (vs := [.int .i64 x19.1.From, .int .i64 x19.1.To, q47_0_0]) rfl (ones.cons rfl (ones.cons rfl (ones.cons ((SL.of_R hq47_0_0)).one1 ones.nil)))) rfl (by first | rfl | (simp; done) | (simp; omega)) rfl ?_
                      intro s49 st49 h48
                      have szs49 := st49.size
                      have hS : Step K0 s s49 := hS.comp st49 (by intro l hl hk; (try simp only [KC, KO, KU, KN, K0] at hk ⊢) <;> omega)
                      have hE5 : Step (KO (b2 + 1)) s3 s49 := hE5.comp st49 (by intro l hl hk; (try simp only [KC, KO, KU, KN, K0] at hk ⊢) <;> omega)
                      replace hp0 := hp0.up2 st49
                      replace hq47_0_0 := hq47_0_0.up2 st49
                      replace hq11_0_0 := hq11_0_0.up2 st49
                      replace h1 := h1.up2 st49
                      replace hz4 := hz4.up2 st49
                      replace h3 := h3.up2 st49
                      replace hq7_0_0 := hq7_0_0.up2 st49
                      replace h8 := h8.up2 st49
                      replace h12 := h12.up2 st49
                      refine k_assign rfl rfl ?_
                      refine k_nil ?_
                      refine k_seq ?_
                      refine k_region ?_
                      refine k_move rfl rfl ?_
                      refine k_field_addr fld32_3 rfl rfl ?_
                      refine k_load_blk one30 rfl h1 rfl rfl ?_
                      obtain ⟨x20, hx20, h⟩ := ob h
                      refine k_call cal13 rfl (net_Net_Double_w  hz4 hx20) rfl ?_
                      rintro s50 vr50 st50 ⟨rfl, hz4⟩
                      have szs50 := st50.size
                      have hS : Step K0 s s50 := hS.comp st50 (by intro l hl hk; (try simp only [KC, KO, KU, KN, K0] at hk ⊢) <;> omega)
                      have hE5 : Step (KO (b2 + 1)) s3 s50 := hE5.comp st50 (by intro l hl hk; (try simp only [KC, KO, KU, KN, K0] at hk ⊢) <;> omega)
                      replace hp0 := hp0.up2 st50
                      replace hq47_0_0 := hq47_0_0.up2 st50
                      replace hq11_0_0 := hq11_0_0.up2 st50
                      replace h1 := h1.up2 st50
                      replace h3 := h3.up2 st50
                      replace h12 := h12.up2 st50
                      replace h48 := h48.up2 st50
                      refine k_move rfl rfl ?_
                      refine k_extract rfl rfl rfl ?_
                      refine k_extract rfl rfl rfl ?_
                      refine k_assign rfl rfl ?_
                      refine k_assign rfl rfl ?_
                      refine k_nil ?_
                      refine k_keep [(1, _), (2, _), (4, _), (5, _), (6, _), (8, _), (9, _), (10, _), (12, _), (13, _), (14, _), (19, _), (20, _), (21, _), (22, _), (23, _), (24, _), (25, _), (26, _), (27, _), (28, _), (29, _), (30, _), (31, _), (32, _), (33, _), (34, _), (35, _), (36, _), (37, _), (38, _), (39, _), (40, _), (41, _), (42, _), (43, _), (44, _), (45, _), (46, _), (47, _), (48, _), (49, _), (50, _), (51, _), (52, _), (53, _), (54, _), (55, _), (56, _), (57, _), (58, _), (59, _), (60, _), (61, _), (62, _), (66, _), (70, _), (74, _), (81, _), (86, _), (91, _), (97, _), (102, _)] ⟨rfl, rfl, rfl, rfl, rfl, rfl, rfl, rfl, rfl, rfl, rfl, rfl, rfl, rfl, rfl, rfl, rfl, rfl, rfl, rfl, rfl, rfl, rfl, rfl, rfl, rfl, rfl, rfl, rfl, rfl, rfl, rfl, rfl, rfl, rfl, rfl, rfl, rfl, rfl, rfl, rfl, rfl, rfl, rfl, rfl, rfl, rfl, rfl, rfl, rfl, rfl, rfl, rfl, rfl, rfl, rfl, rfl, rfl, rfl, rfl, rfl, rfl, rfl, trivial⟩ ?_
                      refine k_seq ?_
                      refine k_region ?_
                      refine k_move rfl rfl ?_
                      refine k_field_addr fld32_3 rfl rfl ?_
                      refine k_load_blk one30 rfl h1 rfl rfl ?_
                      obtain ⟨x21, hx21, h⟩ := ob h
                      refine k_call cal16 rfl (net_Net_At_w  hz4 hx21) rfl ?_
                      rintro s51 vr51 st51 ⟨cs51_0, rfl, h51_0⟩
                      have szs51 := st51.size
                      have hS : Step K0 s s51 := hS.trans0 st51
                      have hE5 : Step (KO (b2 + 1)) s3 s51 := hE5.trans0 st51
                      replace hp0 := hp0.up2 st51
                      replace hq47_0_0 := hq47_0_0.up2 st51
                      replace hq11_0_0 := hq11_0_0.up2 st51
                      replace h1 := h1.up2 st51
                      replace hz4 := hz4.up2 st51
                      replace h3 := h3.up2 st51
                      replace h12 := h12.up2 st51
                      replace h48 := h48.up2 st51
                      obtain ⟨q51_0_0, rfl, hq51_0_0⟩ := opnApiMessage h51_0
                      refine k_move rfl rfl ?_
                      refine k_extract rfl rfl rfl ?_
                      refine k_extract rfl rfl rfl ?_
                      refine k_alloc zero36 rfl ?_
                      intro s52 b52 st52 h52 ge52
                      have szs52 := st52.size
                      have hS : Step K0 s s52 := hS.trans0 st52
                      have hE5 : Step (KO (b2 + 1)) s3 s52 := hE5.trans0 st52
                      replace hp0 := hp0.up2 st52
                      replace hq47_0_0 := hq47_0_0.up2 st52
                      replace hq51_0_0 := hq51_0_0.up2 st52
                      replace h1 := h1.up2 st52
                      replace hz4 := hz4.up2 st52
                      replace h3 := h3.up2 st52
                      replace hq11_0_0 := hq11_0_0.up2 st52
                      replace h12 := h12.up2 st52
                      replace h48 := h48.up2 st52
                      have lt52 := h52.lt
                      refine k_store_c (cs' := [.int .i64 x21.1.From, .int .i64 x21.1.To, q51_0_0]) size36 rfl rfl h52 (by first | (simp; done) | omega | (dsimp only; omega)) (CellsOf.lit (vs := [.int .i64 x21.1.From, .int .i64 x21.1.To, q51_0_0]) rfl (ones.cons rfl (ones.cons rfl (ones.cons ((SL.of_R hq51_0_0)).one1 ones.nil)))) rfl (by first | rfl | (simp; done) | (simp; omega)) rfl ?_
                      intro s53 st53 h52
                      have szs53 := st53.size
                      have hS : Step K0 s s53 := hS.comp st53 (by intro l hl hk; (try simp only [KC, KO, KU, KN, K0] at hk ⊢) <;> omega)
                      have hE5 : Step (KO (b2 + 1)) s3 s53 := hE5.comp st53 (by intro l hl hk; (try simp only [KC, KO, KU, KN, K0] at hk ⊢) <;> omega)
                      replace hp0 := hp0.up2 st53
                      replace hq47_0_0 := hq47_0_0.up2 st53
                      replace hq51_0_0 := hq51_0_0.up2 st53
                      replace h1 := h1.up2 st53
                      replace hz4 := hz4.up2 st53
                      replace h3 := h3.up2 st53
                      replace hq11_0_0 := hq11_0_0.up2 st53
                      replace h12 := h12.up2 st53
                      replace h48 := h48.up2 st53
                      refine k_assign rfl rfl ?_
                      refine k_nil ?_
                      refine k_seq ?_
                      refine k_region ?_
                      refine k_move rfl rfl ?_
                      refine k_neq rfl rfl rfl ?_
                      refine k_move rfl rfl ?_
                      have hE54 : Step K0 s53 s53 := (Step.refl _).of0 (by first | exact fun _ h => h | (intro c h; simp [KC, KO, KU, KN] at h <;> omega))
                      refine k_cutl (X := St) 3 [(1, .pointer (some ⟨b1, 0, none⟩)), (2, .bool false), (4, .slice (some ⟨b3, 0, none⟩) 2 2), (5, .int .i64 1), (6, (.pointer (some ⟨b2, 0, none⟩))), (8, .int .i64 x18.2.1), (9, .pointer (some ⟨b48, 0, none⟩)), (10, .int .i64 x19.2.1), (12, .int .i64 x20.2.1), (13, .pointer (some ⟨b52, 0, none⟩)), (14, .int .i64 x21.2), (19, .int .i64 1), (20, .slice (some ⟨b3, 0, none⟩) 2 2), (21, .int .i64 2), (22, .bool true), (23, .int .i64 0), (24, .int .i64 1), (25, .slice (some ⟨b3, 0, none⟩) 2 2), (26, .int .i64 1), (27, .pointer (some ⟨b3, 1, none⟩)), (28, (.pointer (some ⟨b2, 0, none⟩))), (29, .tuple #[.int .u64 (x18.1.toNat : Int), .int .i64 x18.2.1]), (30, (.pointer (some ⟨b2, 0, none⟩))), (31, .pointer (some ⟨b1, 1, none⟩)), (32, .int .i64 a0.A), (33, .pointer (some ⟨b1, 2, none⟩)), (34, .int .i64 a0.B), (35, .pointer (some ⟨b1, 4, none⟩)), (36, v0), (37, .tuple #[.int .u64 (x18.1.toNat : Int), .int .i64 x18.2.1]), (38, .int .u64 (x18.1.toNat : Int)), (39, .int .i64 x18.2.1), (40, .tuple #[.agg #[.int .i64 x19.1.From, .int .i64 x19.1.To, q47_0_0], .int .i64 x19.2.1]), (41, (.pointer (some ⟨b2, 0, none⟩))), (42, .pointer (some ⟨b1, 3, none⟩)), (43, .int .u64 (a0.Id.toNat : Int)), (44, .tuple #[.agg #[.int .i64 x19.1.From, .int .i64 x19.1.To, q47_0_0], .int .i64 x19.2.1]), (45, .agg #[.int .i64 x19.1.From, .int .i64 x19.1.To, q47_0_0]), (46, .int .i64 x19.2.1), (47, .tuple #[.int .u64 (x20.1.toNat : Int), .int .i64 x20.2.1]), (48, (.pointer (some ⟨b2, 0, none⟩))), (49, .pointer (some ⟨b1, 3, none⟩)), (50, .int .u64 (a0.Id.toNat : Int)), (51, .tuple #[.int .u64 (x20.1.toNat : Int), .int .i64 x20.2.1]), (52, .int .u64 (x20.1.toNat : Int)), (53, .int .i64 x20.2.1), (54, .tuple #[.agg #[.int .i64 x21.1.From, .int .i64 x21.1.To, q51_0_0], .int .i64 x21.2]), (55, (.pointer (some ⟨b2, 0, none⟩))), (56, .pointer (some ⟨b1, 3, none⟩)), (57, .int .u64 (a0.Id.toNat : Int)), (58, .tuple #[.agg #[.int .i64 x21.1.From, .int .i64 x21.1.To, q51_0_0], .int .i64 x21.2]), (59, .agg #[.int .i64 x21.1.From, .int .i64 x21.1.To, q51_0_0]), (60, .int .i64 x21.2), (61, .int .i64 x18.2.1), (62, .bool (decide (x18.2.1 ≠ 1))), (70, .bool (decide (((x3.2 ≠ 1) ∨ (x4.2 ≠ 4)) ∨ (x5.2 ≠ 4)))), (74, .bool (decide ((((x3.2 ≠ 1) ∨ (x4.2 ≠ 4)) ∨ (x5.2 ≠ 4)) ∨ (x6.2 ≠ 4)))), (81, .bool x7), (86, .bool x9), (91, .bool x11), (97, .bool x13), (102, .bool x15)] (fun _ => [(66, .bool (decide ((x18.2.1 ≠ 1) ∨ (x19.2.1 ≠ 4))))]) (fun sl wL => sl.w = wL ∧ Step K0 s53 sl) ?_ ?_
                      · -- the ways
                        refine k_again 63 rfl ?_
                        refine k_split (fun c55 => ?_) (fun c55 => ?_)
                        · -- t63 True
                          refine k_no rfl rfl rfl rfl ?_
                          refine k_no rfl rfl rfl rfl ?_
                          refine k_pickT rfl rfl rfl rfl ?_
                          exact k_met ⟨s53, ⟨(congrArg (fun b => some (Value.bool b)) (by first | exact decide_eq_decide.2 ⟨Or.inr, fun h => h.resolve_left c55⟩ | exact (decide_eq_true (Or.inl c55)).symm | (simp [c55]; done) | (simp [c55, i64] <;> omega))), trivial⟩, ⟨rfl, rfl, rfl, rfl, rfl, rfl, rfl, rfl, rfl, rfl, rfl, rfl, rfl, rfl, rfl, rfl, rfl, rfl, rfl, rfl, rfl, rfl, rfl, rfl, rfl, rfl, rfl, rfl, rfl, rfl, rfl, rfl, rfl, rfl, rfl, rfl, rfl, rfl, rfl, rfl, rfl, rfl, rfl, rfl, rfl, rfl, rfl, rfl, rfl, rfl, rfl, rfl, rfl, rfl, rfl, rfl, rfl, rfl, rfl, rfl, rfl, rfl, trivial⟩, rfl, hE54⟩
                        · -- t63 False
                          refine k_yes rfl rfl ?_
                          refine k_move rfl rfl ?_
                          refine k_yes rfl rfl ?_
                          refine k_neq rfl rfl rfl ?_
                          refine k_pickF rfl rfl rfl rfl ?_
                          exact k_met ⟨s53, ⟨(congrArg (fun b => some (Value.bool b)) (by first | exact decide_eq_decide.2 ⟨Or.inr, fun h => h.resolve_left c55⟩ | exact (decide_eq_true (Or.inl c55)).symm | (simp [c55]; done) | (simp [c55, i64] <;> omega))), trivial⟩, ⟨rfl, rfl, rfl, rfl, rfl, rfl, rfl, rfl, rfl, rfl, rfl, rfl, rfl, rfl, rfl, rfl, rfl, rfl, rfl, rfl, rfl, rfl, rfl, rfl, rfl, rfl, rfl, rfl, rfl, rfl, rfl, rfl, rfl, rfl, rfl, rfl, rfl, rfl, rfl, rfl, rfl, rfl, rfl, rfl, rfl, rfl, rfl, rfl, rfl, rfl, rfl, rfl, rfl, rfl, rfl, rfl, rfl, rfl, rfl, rfl, rfl, rfl, trivial⟩, rfl, hE54⟩
                      · -- behind
                        rintro s56 wL ⟨rfl, hE54⟩
                        have szs56 := hE54.size
                        have hS : Step K0 s s56 := hS.trans0 hE54
                        have hE5 : Step (KO (b2 + 1)) s3 s56 := hE5.trans0 hE54
                        replace hp0 := hp0.up2 hE54
                        replace hq47_0_0 := hq47_0_0.up2 hE54
                        replace hq51_0_0 := hq51_0_0.up2 hE54
                        replace h1 := h1.up2 hE54
                        replace hz4 := hz4.up2 hE54
                        replace h3 := h3.up2 hE54
                        replace h48 := h48.up2 hE54
                        replace h52 := h52.up2 hE54
                        refine k_move rfl rfl ?_
                        have hE57 : Step K0 s56 s56 := (Step.refl _).of0 (by first | exact fun _ h => h | (intro c h; simp [KC, KO, KU, KN] at h <;> omega))
                        refine k_cutl (X := St) 3 [(1, .pointer (some ⟨b1, 0, none⟩)), (2, .bool false), (4, .slice (some ⟨b3, 0, none⟩) 2 2), (5, .int .i64 1), (6, (.pointer (some ⟨b2, 0, none⟩))), (8, .int .i64 x18.2.1), (9, .pointer (some ⟨b48, 0, none⟩)), (10, .int .i64 x19.2.1), (12, .int .i64 x20.2.1), (13, .pointer (some ⟨b52, 0, none⟩)), (14, .int .i64 x21.2), (19, .int .i64 1), (20, .slice (some ⟨b3, 0, none⟩) 2 2), (21, .int .i64 2), (22, .bool true), (23, .int .i64 0), (24, .int .i64 1), (25, .slice (some ⟨b3, 0, none⟩) 2 2), (26, .int .i64 1), (27, .pointer (some ⟨b3, 1, none⟩)), (28, (.pointer (some ⟨b2, 0, none⟩))), (29, .tuple #[.int .u64 (x18.1.toNat : Int), .int .i64 x18.2.1]), (30, (.pointer (some ⟨b2, 0, none⟩))), (31, .pointer (some ⟨b1, 1, none⟩)), (32, .int .i64 a0.A), (33, .pointer (some ⟨b1, 2, none⟩)), (34, .int .i64 a0.B), (35, .pointer (some ⟨b1, 4, none⟩)), (36, v0), (37, .tuple #[.int .u64 (x18.1.toNat : Int), .int .i64 x18.2.1]), (38, .int .u64 (x18.1.toNat : Int)), (39, .int .i64 x18.2.1), (40, .tuple #[.agg #[.int .i64 x19.1.From, .int .i64 x19.1.To, q47_0_0], .int .i64 x19.2.1]), (41, (.pointer (some ⟨b2, 0, none⟩))), (42, .pointer (some ⟨b1, 3, none⟩)), (43, .int .u64 (a0.Id.toNat : Int)), (44, .tuple #[.agg #[.int .i64 x19.1.From, .int .i64 x19.1.To, q47_0_0], .int .i64 x19.2.1]), (45, .agg #[.int .i64 x19.1.From, .int .i64 x19.1.To, q47_0_0]), (46, .int .i64 x19.2.1), (47, .tuple #[.int .u64 (x20.1.toNat : Int), .int .i64 x20.2.1]), (48, (.pointer (some ⟨b2, 0, none⟩))), (49, .pointer (some ⟨b1, 3, none⟩)), (50, .int .u64 (a0.Id.toNat : Int)), (51, .tuple #[.int .u64 (x20.1.toNat : Int), .int .i64 x20.2.1]), (52, .int .u64 (x20.1.toNat : Int)), (53, .int .i64 x20.2.1), (54, .tuple #[.agg #[.int .i64 x21.1.From, .int .i64 x21.1.To, q51_0_0], .int .i64 x21.2]), (55, (.pointer (some ⟨b2, 0, none⟩))), (56, .pointer (some ⟨b1, 3, none⟩)), (57, .int .u64 (a0.Id.toNat : Int)), (58, .tuple #[.agg #[.int .i64 x21.1.From, .int .i64 x21.1.To, q51_0_0], .int .i64 x21.2]), (59, .agg #[.int .i64 x21.1.From, .int .i64 x21.1.To, q51_0_0]), (60, .int .i64 x21.2), (61, .int .i64 x18.2.1), (62, .bool (decide (x18.2.1 ≠ 1))), (66, .bool (decide ((x18.2.1 ≠ 1) ∨ (x19.2.1 ≠ 4)))), (74, .bool (decide ((((x3.2 ≠ 1) ∨ (x4.2 ≠ 4)) ∨ (x5.2 ≠ 4)) ∨ (x6.2 ≠ 4)))), (81, .bool x7), (86, .bool x9), (91, .bool x11), (97, .bool x13), (102, .bool x15)] (fun _ => [(70, .bool (decide (((x18.2.1 ≠ 1) ∨ (x19.2.1 ≠ 4)) ∨ (x20.2.1 ≠ 4))))]) (fun sl wL => sl.w = wL ∧ Step K0 s56 sl) ?_ ?_
                        · -- the ways
                          refine k_again 67 rfl ?_
                          refine k_split (fun c58 => ?_) (fun c58 => ?_)
                          · -- t67 True
                            refine k_no rfl rfl rfl rfl ?_
                            refine k_no rfl rfl rfl rfl ?_
                            refine k_pickT rfl rfl rfl rfl ?_
                            exact k_met ⟨s56, ⟨(congrArg (fun b => some (Value.bool b)) (by first | exact decide_eq_decide.2 ⟨Or.inr, fun h => h.resolve_left c58⟩ | exact (decide_eq_true (Or.inl c58)).symm | (simp [c58]; done) | (simp [c58, i64] <;> omega))), trivial⟩, ⟨rfl, rfl, rfl, rfl, rfl, rfl, rfl, rfl, rfl, rfl, rfl, rfl, rfl, rfl, rfl, rfl, rfl, rfl, rfl, rfl, rfl, rfl, rfl, rfl, rfl, rfl, rfl, rfl, rfl, rfl, rfl, rfl, rfl, rfl, rfl, rfl, rfl, rfl, rfl, rfl, rfl, rfl, rfl, rfl, rfl, rfl, rfl, rfl, rfl, rfl, rfl, rfl, rfl, rfl, rfl, rfl, rfl, rfl, rfl, rfl, rfl, rfl, trivial⟩, rfl, hE57⟩
                          · -- t67 False
                            refine k_yes rfl rfl ?_
                            refine k_move rfl rfl ?_
                            refine k_yes rfl rfl ?_
                            refine k_neq rfl rfl rfl ?_
                            refine k_pickF rfl rfl rfl rfl ?_
                            exact k_met ⟨s56, ⟨(congrArg (fun b => some (Value.bool b)) (by first | exact decide_eq_decide.2 ⟨Or.inr, fun h => h.resolve_left c58⟩ | exact (decide_eq_true (Or.inl c58)).symm | (simp [c58]; done) | (simp [c58, i64] <;> omega))), trivial⟩, ⟨rfl, rfl, rfl, rfl, rfl, rfl, rfl, rfl, rfl, rfl, rfl, rfl, rfl, rfl, rfl, rfl, rfl, rfl, rfl, rfl, rfl, rfl, rfl, rfl, rfl, rfl, rfl, rfl, rfl, rfl, rfl, rfl, rfl, rfl, rfl, rfl, rfl, rfl, rfl, rfl, rfl, rfl, rfl, rfl, rfl, rfl, rfl, rfl, rfl, rfl, rfl, rfl, rfl, rfl, rfl, rfl, rfl, rfl, rfl, rfl, rfl, rfl, trivial⟩, rfl, hE57⟩
                        · -- behind
                          rintro s59 wL ⟨rfl, hE57⟩
                          have szs59 := hE57.size
                          have hS : Step K0 s s59 := hS.trans0 hE57
                          have hE5 : Step (KO (b2 + 1)) s3 s59 := hE5.trans0 hE57
                          replace hp0 := hp0.up2 hE57
                          replace hq47_0_0 := hq47_0_0.up2 hE57
                          replace hq51_0_0 := hq51_0_0.up2 hE57
                          replace h1 := h1.up2 hE57
                          replace hz4 := hz4.up2 hE57
                          replace h3 := h3.up2 hE57
                          replace h48 := h48.up2 hE57
                          replace h52 := h52.up2 hE57
                          refine k_move rfl rfl ?_
                          have hE60 : Step K0 s59 s59 := (Step.refl _).of0 (by first | exact fun _ h => h | (intro c h; simp [KC, KO, KU, KN] at h <;> omega))
                          refine k_cutl (X := St) 3 [(1, .pointer (some ⟨b1, 0, none⟩)), (2, .bool false), (4, .slice (some ⟨b3, 0, none⟩) 2 2), (5, .int .i64 1), (6, (.pointer (some ⟨b2, 0, none⟩))), (8, .int .i64 x18.2.1), (9, .pointer (some ⟨b48, 0, none⟩)), (10, .int .i64 x19.2.1), (12, .int .i64 x20.2.1), (13, .pointer (some ⟨b52, 0, none⟩)), (14, .int .i64 x21.2), (19, .int .i64 1), (20, .slice (some ⟨b3, 0, none⟩) 2 2), (21, .int .i64 2), (22, .bool true), (23, .int .i64 0), (24, .int .i64 1), (25, .slice (some ⟨b3, 0, none⟩) 2 2), (26, .int .i64 1), (27, .pointer (some ⟨b3, 1, none⟩)), (28, (.pointer (some ⟨b2, 0, none⟩))), (29, .tuple #[.int .u64 (x18.1.toNat : Int), .int .i64 x18.2.1]), (30, (.pointer (some ⟨b2, 0, none⟩))), (31, .pointer (some ⟨b1, 1, none⟩)), (32, .int .i64 a0.A), (33, .pointer (some ⟨b1, 2, none⟩)), (34, .int .i64 a0.B), (35, .pointer (some ⟨b1, 4, none⟩)), (36, v0), (37, .tuple #[.int .u64 (x18.1.toNat : Int), .int .i64 x18.2.1]), (38, .int .u64 (x18.1.toNat : Int)), (39, .int .i64 x18.2.1), (40, .tuple #[.agg #[.int .i64 x19.1.From, .int .i64 x19.1.To, q47_0_0], .int .i64 x19.2.1]), (41, (.pointer (some ⟨b2, 0, none⟩))), (42, .pointer (some ⟨b1, 3, none⟩)), (43, .int .u64 (a0.Id.toNat : Int)), (44, .tuple #[.agg #[.int .i64 x19.1.From, .int .i64 x19.1.To, q47_0_0], .int .i64 x19.2.1]), (45, .agg #[.int .i64 x19.1.From, .int .i64 x19.1.To, q47_0_0]), (46, .int .i64 x19.2.1), (47, .tuple #[.int .u64 (x20.1.toNat : Int), .int .i64 x20.2.1]), (48, (.pointer (some ⟨b2, 0, none⟩))), (49, .pointer (some ⟨b1, 3, none⟩)), (50, .int .u64 (a0.Id.toNat : Int)), (51, .tuple #[.int .u64 (x20.1.toNat : Int), .int .i64 x20.2.1]), (52, .int .u64 (x20.1.toNat : Int)), (53, .int .i64 x20.2.1), (54, .tuple #[.agg #[.int .i64 x21.1.From, .int .i64 x21.1.To, q51_0_0], .int .i64 x21.2]), (55, (.pointer (some ⟨b2, 0, none⟩))), (56, .pointer (some ⟨b1, 3, none⟩)), (57, .int .u64 (a0.Id.toNat : Int)), (58, .tuple #[.agg #[.int .i64 x21.1.From, .int .i64 x21.1.To, q51_0_0], .int .i64 x21.2]), (59, .agg #[.int .i64 x21.1.From, .int .i64 x21.1.To, q51_0_0]), (60, .int .i64 x21.2), (61, .int .i64 x18.2.1), (62, .bool (decide (x18.2.1 ≠ 1))), (66, .bool (decide ((x18.2.1 ≠ 1) ∨ (x19.2.1 ≠ 4)))), (70, .bool (decide (((x18.2.1 ≠ 1) ∨ (x19.2.1 ≠ 4)) ∨ (x20.2.1 ≠ 4)))), (81, .bool x7), (86, .bool x9), (91, .bool x11), (97, .bool x13), (102, .bool x15)] (fun _ => [(74, .bool (decide ((((x18.2.1 ≠ 1) ∨ (x19.2.1 ≠ 4)) ∨ (x20.2.1 ≠ 4)) ∨ (x21.2 ≠ 4))))]) (fun sl wL => sl.w = wL ∧ Step K0 s59 sl) ?_ ?_
                          · -- the ways
                            refine k_again 71 rfl ?_
                            refine k_split (fun c61 => ?_) (fun c61 => ?_)
                            · -- t71 True
                              refine k_no rfl rfl rfl rfl ?_
                              refine k_no rfl rfl rfl rfl ?_
                              refine k_pickT rfl rfl rfl rfl ?_
                              exact k_met ⟨s59, ⟨(congrArg (fun b => some (Value.bool b)) (by first | exact decide_eq_decide.2 ⟨Or.inr, fun h => h.resolve_left c61⟩ | exact (decide_eq_true (Or.inl c61)).symm | (simp [c61]; done) | (simp [c61, i64] <;> omega))), trivial⟩, ⟨rfl, rfl, rfl, rfl, rfl, rfl, rfl, rfl, rfl, rfl, rfl, rfl, rfl, rfl, rfl, rfl, rfl, rfl, rfl, rfl, rfl, rfl, rfl, rfl, rfl, rfl, rfl, rfl, rfl, rfl, rfl, rfl, rfl, rfl, rfl, rfl, rfl, rfl, rfl, rfl, rfl, rfl, rfl, rfl, rfl, rfl, rfl, rfl, rfl, rfl, rfl, rfl, rfl, rfl, rfl, rfl, rfl, rfl, rfl, rfl, rfl, rfl, trivial⟩, rfl, hE60⟩
                            · -- t71 False
                              refine k_yes rfl rfl ?_
                              refine k_move rfl rfl ?_
                              refine k_yes rfl rfl ?_
                              refine k_neq rfl rfl rfl ?_
                              refine k_pickF rfl rfl rfl rfl ?_
                              exact k_met ⟨s59, ⟨(congrArg (fun b => some (Value.bool b)) (by first | exact decide_eq_decide.2 ⟨Or.inr, fun h => h.resolve_left c61⟩ | exact (decide_eq_true (Or.inl c61)).symm | (simp [c61]; done) | (simp [c61, i64] <;> omega))), trivial⟩, ⟨rfl, rfl, rfl, rfl, rfl, rfl, rfl, rfl, rfl, rfl, rfl, rfl, rfl, rfl, rfl, rfl, rfl, rfl, rfl, rfl, rfl, rfl, rfl, rfl, rfl, rfl, rfl, rfl, rfl, rfl, rfl, rfl, rfl, rfl, rfl, rfl, rfl, rfl, rfl, rfl, rfl, rfl, rfl, rfl, rfl, rfl, rfl, rfl, rfl, rfl, rfl, rfl, rfl, rfl, rfl, rfl, rfl, rfl, rfl, rfl, rfl, rfl, trivial⟩, rfl, hE60⟩
                          · -- behind
                            rintro s62 wL ⟨rfl, hE60⟩
                            have szs62 := hE60.size
                            have hS : Step K0 s s62 := hS.trans0 hE60
                            have hE5 : Step (KO (b2 + 1)) s3 s62 := hE5.trans0 hE60
                            replace hp0 := hp0.up2 hE60
                            replace hq47_0_0 := hq47_0_0.up2 hE60
                            replace hq51_0_0 := hq51_0_0.up2 hE60
                            replace h1 := h1.up2 hE60
                            replace hz4 := hz4.up2 hE60
                            replace h3 := h3.up2 hE60
                            replace h48 := h48.up2 hE60
                            replace h52 := h52.up2 hE60
                            refine k_move rfl rfl ?_
                            obtain ⟨x22, hx22, h⟩ := ob h
                            have hE63 : Step (KO (b2 + 1)) s62 s62 := (Step.refl _).of0 (by first | exact fun _ h => h | (intro c h; simp [KC, KO, KU, KN] at h <;> omega))
                            refine k_cutl (X := St) 6 [(1, .pointer (some ⟨b1, 0, none⟩)), (2, .bool false), (4, .slice (some ⟨b3, 0, none⟩) 2 2), (5, .int .i64 1), (6, (.pointer (some ⟨b2, 0, none⟩))), (8, .int .i64 x18.2.1), (9, .pointer (some ⟨b48, 0, none⟩)), (10, .int .i64 x19.2.1), (12, .int .i64 x20.2.1), (13, .pointer (some ⟨b52, 0, none⟩)), (14, .int .i64 x21.2), (19, .int .i64 1), (20, .slice (some ⟨b3, 0, none⟩) 2 2), (21, .int .i64 2), (22, .bool true), (23, .int .i64 0), (24, .int .i64 1), (25, .slice (some ⟨b3, 0, none⟩) 2 2), (26, .int .i64 1), (27, .pointer (some ⟨b3, 1, none⟩)), (28, (.pointer (some ⟨b2, 0, none⟩))), (29, .tuple #[.int .u64 (x18.1.toNat : Int), .int .i64 x18.2.1]), (30, (.pointer (some ⟨b2, 0, none⟩))), (31, .pointer (some ⟨b1, 1, none⟩)), (32, .int .i64 a0.A), (33, .pointer (some ⟨b1, 2, none⟩)), (34, .int .i64 a0.B), (35, .pointer (some ⟨b1, 4, none⟩)), (36, v0), (37, .tuple #[.int .u64 (x18.1.toNat : Int), .int .i64 x18.2.1]), (38, .int .u64 (x18.1.toNat : Int)), (39, .int .i64 x18.2.1), (40, .tuple #[.agg #[.int .i64 x19.1.From, .int .i64 x19.1.To, q47_0_0], .int .i64 x19.2.1]), (41, (.pointer (some ⟨b2, 0, none⟩))), (42, .pointer (some ⟨b1, 3, none⟩)), (43, .int .u64 (a0.Id.toNat : Int)), (44, .tuple #[.agg #[.int .i64 x19.1.From, .int .i64 x19.1.To, q47_0_0], .int .i64 x19.2.1]), (45, .agg #[.int .i64 x19.1.From, .int .i64 x19.1.To, q47_0_0]), (46, .int .i64 x19.2.1), (47, .tuple #[.int .u64 (x20.1.toNat : Int), .int .i64 x20.2.1]), (48, (.pointer (some ⟨b2, 0, none⟩))), (49, .pointer (some ⟨b1, 3, none⟩)), (50, .int .u64 (a0.Id.toNat : Int)), (51, .tuple #[.int .u64 (x20.1.toNat : Int), .int .i64 x20.2.1]), (52, .int .u64 (x20.1.toNat : Int)), (53, .int .i64 x20.2.1), (54, .tuple #[.agg #[.int .i64 x21.1.From, .int .i64 x21.1.To, q51_0_0], .int .i64 x21.2]), (55, (.pointer (some ⟨b2, 0, none⟩))), (56, .pointer (some ⟨b1, 3, none⟩)), (57, .int .u64 (a0.Id.toNat : Int)), (58, .tuple #[.agg #[.int .i64 x21.1.From, .int .i64 x21.1.To, q51_0_0], .int .i64 x21.2]), (59, .agg #[.int .i64 x21.1.From, .int .i64 x21.1.To, q51_0_0]), (60, .int .i64 x21.2), (61, .int .i64 x18.2.1), (62, .bool (decide (x18.2.1 ≠ 1))), (66, .bool (decide ((x18.2.1 ≠ 1) ∨ (x19.2.1 ≠ 4)))), (70, .bool (decide (((x18.2.1 ≠ 1) ∨ (x19.2.1 ≠ 4)) ∨ (x20.2.1 ≠ 4)))), (74, .bool (decide ((((x18.2.1 ≠ 1) ∨ (x19.2.1 ≠ 4)) ∨ (x20.2.1 ≠ 4)) ∨ (x21.2 ≠ 4)))), (86, .bool x9), (91, .bool x11), (97, .bool x13), (102, .bool x15)] (fun _ => [(81, .bool x22.1)]) (fun sl wL => sl.w = wL ∧ Step (KO (b2 + 1)) s62 sl ∧ ONetNet sl (b2 + 1) (.pointer (some ⟨b2, 0, none⟩)) x22.2) ?_ ?_
                            · -- the ways
                              refine k_again 75 rfl ?_
                              refine k_split (fun c64 => ?_) (fun c64 => ?_)
                              · -- t75 True
                                have hx22 := itT hx22 c64
                                refine k_no rfl rfl rfl rfl ?_
                                refine k_no rfl rfl rfl rfl ?_
                                refine k_no rfl rfl rfl rfl ?_
                                refine k_no rfl rfl rfl rfl ?_
                                refine k_no rfl rfl rfl rfl ?_
                                refine k_pickT rfl rfl rfl rfl ?_
                                obtain rfl := Option.some.inj hx22
                                exact k_met ⟨s62, ⟨rfl, trivial⟩, ⟨rfl, rfl, rfl, rfl, rfl, rfl, rfl, rfl, rfl, rfl, rfl, rfl, rfl, rfl, rfl, rfl, rfl, rfl, rfl, rfl, rfl, rfl, rfl, rfl, rfl, rfl, rfl, rfl, rfl, rfl, rfl, rfl, rfl, rfl, rfl, rfl, rfl, rfl, rfl, rfl, rfl, rfl, rfl, rfl, rfl, rfl, rfl, rfl, rfl, rfl, rfl, rfl, rfl, rfl, rfl, rfl, rfl, rfl, rfl, rfl, rfl, rfl, trivial⟩, rfl, hE63, hz4⟩
                              · -- t75 False
                                have hx22 := itF hx22 c64
                                refine k_yes rfl rfl ?_
                                refine k_move rfl rfl ?_
                                refine k_yes rfl rfl ?_
                                refine k_field_addr fld32_3 rfl rfl ?_
                                refine k_yes rfl rfl ?_
                                refine k_load_blk one30 rfl h1 rfl rfl ?_
                                refine k_yes rfl rfl ?_
                                obtain ⟨x23, hx23, hx22⟩ := ob hx22
                                refine k_call cal15 rfl (net_Net_Drop_w  hz4 hx23) rfl ?_
                                rintro s65 vr65 st65 ⟨rfl, hz4⟩
                                have szs65 := st65.size
                                have hS : Step K0 s s65 := hS.comp st65 (by intro l hl hk; (try simp only [KC, KO, KU, KN, K0] at hk ⊢) <;> omega)
                                have hE5 : Step (KO (b2 + 1)) s3 s65 := hE5.comp st65 (by intro l hl hk; (try simp only [KC, KO, KU, KN, K0] at hk ⊢) <;> omega)
                                have hE63 : Step (KO (b2 + 1)) s62 s65 := hE63.comp st65 (by intro l hl hk; (try simp only [KC, KO, KU, KN, K0] at hk ⊢) <;> omega)
                                replace hp0 := hp0.up2 st65
                                replace hq47_0_0 := hq47_0_0.up2 st65
                                replace hq51_0_0 := hq51_0_0.up2 st65
                                replace h1 := h1.up2 st65
                                replace h3 := h3.up2 st65
                                replace h48 := h48.up2 st65
                                replace h52 := h52.up2 st65
                                refine k_yes rfl rfl ?_
                                refine k_neq rfl rfl rfl ?_
                                refine k_pickF rfl rfl rfl rfl ?_
                                obtain rfl := Option.some.inj hx22
                                exact k_met ⟨s65, ⟨rfl, trivial⟩, ⟨rfl, rfl, rfl, rfl, rfl, rfl, rfl, rfl, rfl, rfl, rfl, rfl, rfl, rfl, rfl, rfl, rfl, rfl, rfl, rfl, rfl, rfl, rfl, rfl, rfl, rfl, rfl, rfl, rfl, rfl, rfl, rfl, rfl, rfl, rfl, rfl, rfl, rfl, rfl, rfl, rfl, rfl, rfl, rfl, rfl, rfl, rfl, rfl, rfl, rfl, rfl, rfl, rfl, rfl, rfl, rfl, rfl, rfl, rfl, rfl, rfl, rfl, trivial⟩, rfl, hE63, hz4⟩
                            · -- behind
                              rintro s66 wL ⟨rfl, hE63, hz4⟩
                              have szs66 := hE63.size
                              have hS : Step K0 s s66 := hS.comp hE63 (by intro l hl hk; (try simp only [KC, KO, KU, KN, K0] at hk ⊢) <;> omega)
                              have hE5 : Step (KO (b2 + 1)) s3 s66 := hE5.comp hE63 (by intro l hl hk; (try simp only [KC, KO, KU, KN, K0] at hk ⊢) <;> omega)
                              replace hp0 := hp0.up2 hE63
                              replace hq47_0_0 := hq47_0_0.up2 hE63
                              replace hq51_0_0 := hq51_0_0.up2 hE63
                              replace h1 := h1.up2 hE63
                              replace h3 := h3.up2 hE63
                              replace h48 := h48.up2 hE63
                              replace h52 := h52.up2 hE63
                              refine k_move rfl rfl ?_
                              obtain ⟨x24, hx24, h⟩ := ob h
                              have hE67 : Step K0 s66 s66 := (Step.refl _).of0 (by first | exact fun _ h => h | (intro c h; simp [KC, KO, KU, KN] at h <;> omega))
                              refine k_cutl (X := St) 4 [(1, .pointer (some ⟨b1, 0, none⟩)), (2, .bool false), (4, .slice (some ⟨b3, 0, none⟩) 2 2), (5, .int .i64 1), (6, (.pointer (some ⟨b2, 0, none⟩))), (8, .int .i64 x18.2.1), (9, .pointer (some ⟨b48, 0, none⟩)), (10, .int .i64 x19.2.1), (12, .int .i64 x20.2.1), (13, .pointer (some ⟨b52, 0, none⟩)), (14, .int .i64 x21.2), (19, .int .i64 1), (20, .slice (some ⟨b3, 0, none⟩) 2 2), (21, .int .i64 2), (22, .bool true), (23, .int .i64 0), (24, .int .i64 1), (25, .slice (some ⟨b3, 0, none⟩) 2 2), (26, .int .i64 1), (27, .pointer (some ⟨b3, 1, none⟩)), (28, (.pointer (some ⟨b2, 0, none⟩))), (29, .tuple #[.int .u64 (x18.1.toNat : Int), .int .i64 x18.2.1]), (30, (.pointer (some ⟨b2, 0, none⟩))), (31, .pointer (some ⟨b1, 1, none⟩)), (32, .int .i64 a0.A), (33, .pointer (some ⟨b1, 2, none⟩)), (34, .int .i64 a0.B), (35, .pointer (some ⟨b1, 4, none⟩)), (36, v0), (37, .tuple #[.int .u64 (x18.1.toNat : Int), .int .i64 x18.2.1]), (38, .int .u64 (x18.1.toNat : Int)), (39, .int .i64 x18.2.1), (40, .tuple #[.agg #[.int .i64 x19.1.From, .int .i64 x19.1.To, q47_0_0], .int .i64 x19.2.1]), (41, (.pointer (some ⟨b2, 0, none⟩))), (42, .pointer (some ⟨b1, 3, none⟩)), (43, .int .u64 (a0.Id.toNat : Int)), (44, .tuple #[.agg #[.int .i64 x19.1.From, .int .i64 x19.1.To, q47_0_0], .int .i64 x19.2.1]), (45, .agg #[.int .i64 x19.1.From, .int .i64 x19.1.To, q47_0_0]), (46, .int .i64 x19.2.1), (47, .tuple #[.int .u64 (x20.1.toNat : Int), .int .i64 x20.2.1]), (48, (.pointer (some ⟨b2, 0, none⟩))), (49, .pointer (some ⟨b1, 3, none⟩)), (50, .int .u64 (a0.Id.toNat : Int)), (51, .tuple #[.int .u64 (x20.1.toNat : Int), .int .i64 x20.2.1]), (52, .int .u64 (x20.1.toNat : Int)), (53, .int .i64 x20.2.1), (54, .tuple #[.agg #[.int .i64 x21.1.From, .int .i64 x21.1.To, q51_0_0], .int .i64 x21.2]), (55, (.pointer (some ⟨b2, 0, none⟩))), (56, .pointer (some ⟨b1, 3, none⟩)), (57, .int .u64 (a0.Id.toNat : Int)), (58, .tuple #[.agg #[.int .i64 x21.1.From, .int .i64 x21.1.To, q51_0_0], .int .i64 x21.2]), (59, .agg #[.int .i64 x21.1.From, .int .i64 x21.1.To, q51_0_0]), (60, .int .i64 x21.2), (61, .int .i64 x18.2.1), (62, .bool (decide (x18.2.1 ≠ 1))), (66, .bool (decide ((x18.2.1 ≠ 1) ∨ (x19.2.1 ≠ 4)))), (70, .bool (decide (((x18.2.1 ≠ 1) ∨ (x19.2.1 ≠ 4)) ∨ (x20.2.1 ≠ 4)))), (74, .bool (decide ((((x18.2.1 ≠ 1) ∨ (x19.2.1 ≠ 4)) ∨ (x20.2.1 ≠ 4)) ∨ (x21.2 ≠ 4)))), (81, .bool x22.1), (91, .bool x11), (97, .bool x13), (102, .bool x15)] (fun _ => [(86, .bool x24)]) (fun sl wL => sl.w = wL ∧ Step K0 s66 sl) ?_ ?_
                              · -- the ways
                                refine k_again 82 rfl ?_
                                refine k_splitb (fun c68 => ?_) (fun c68 => ?_)
                                · -- t82 True
                                  have hx24 := ibT hx24 c68
                                  refine k_no rfl rfl rfl rfl ?_
                                  refine k_no rfl rfl rfl rfl ?_
                                  refine k_no rfl rfl rfl rfl ?_
                                  refine k_pickT rfl rfl rfl rfl ?_
                                  exact k_met ⟨s66, ⟨(congrArg (fun b => some (Value.bool b)) (Option.some.inj hx24)), trivial⟩, ⟨rfl, rfl, rfl, rfl, rfl, rfl, rfl, rfl, rfl, rfl, rfl, rfl, rfl, rfl, rfl, rfl, rfl, rfl, rfl, rfl, rfl, rfl, rfl, rfl, rfl, rfl, rfl, rfl, rfl, rfl, rfl, rfl, rfl, rfl, rfl, rfl, rfl, rfl, rfl, rfl, rfl, rfl, rfl, rfl, rfl, rfl, rfl, rfl, rfl, rfl, rfl, rfl, rfl, rfl, rfl, rfl, rfl, rfl, rfl, rfl, rfl, rfl, trivial⟩, rfl, hE67⟩
                                · -- t82 False
                                  have hx24 := ibF hx24 c68
                                  refine k_yes rfl rfl ?_
                                  refine k_move rfl rfl ?_
                                  refine k_yes rfl rfl ?_
                                  obtain ⟨x25, hx25, hx24⟩ := ob hx24
                                  refine k_call cal23 rfl (net_Net_Replicas_w  hz4 hx25) rfl ?_
                                  rintro s69 vr69 st69 rfl
                                  have szs69 := st69.size
                                  have hS : Step K0 s s69 := hS.trans0 st69
                                  have hE5 : Step (KO (b2 + 1)) s3 s69 := hE5.trans0 st69
                                  have hE67 : Step K0 s66 s69 := hE67.trans0 st69
                                  replace hp0 := hp0.up2 st69
                                  replace hq47_0_0 := hq47_0_0.up2 st69
                                  replace hq51_0_0 := hq51_0_0.up2 st69
                                  replace h1 := h1.up2 st69
                                  replace hz4 := hz4.up2 st69
                                  replace h3 := h3.up2 st69
                                  replace h48 := h48.up2 st69
                                  replace h52 := h52.up2 st69
                                  refine k_yes rfl rfl ?_
                                  refine k_neq rfl rfl rfl ?_
                                  refine k_pickF rfl rfl rfl rfl ?_
                                  exact k_met ⟨s69, ⟨(congrArg (fun b => some (Value.bool b)) (Option.some.inj hx24)), trivial⟩, ⟨rfl, rfl, rfl, rfl, rfl, rfl, rfl, rfl, rfl, rfl, rfl, rfl, rfl, rfl, rfl, rfl, rfl, rfl, rfl, rfl, rfl, rfl, rfl, rfl, rfl, rfl, rfl, rfl, rfl, rfl, rfl, rfl, rfl, rfl, rfl, rfl, rfl, rfl, rfl, rfl, rfl, rfl, rfl, rfl, rfl, rfl, rfl, rfl, rfl, rfl, rfl, rfl, rfl, rfl, rfl, rfl, rfl, rfl, rfl, rfl, rfl, rfl, trivial⟩, rfl, hE67⟩
                              · -- behind
                                rintro s70 wL ⟨rfl, hE67⟩
                                have szs70 := hE67.size
                                have hS : Step K0 s s70 := hS.trans0 hE67
                                have hE5 : Step (KO (b2 + 1)) s3 s70 := hE5.trans0 hE67
                                replace hp0 := hp0.up2 hE67
                                replace hq47_0_0 := hq47_0_0.up2 hE67
                                replace hq51_0_0 := hq51_0_0.up2 hE67
                                replace h1 := h1.up2 hE67
                                replace hz4 := hz4.up2 hE67
                                replace h3 := h3.up2 hE67
                                replace h48 := h48.up2 hE67
                                replace h52 := h52.up2 hE67
                                refine k_move rfl rfl ?_
                                obtain ⟨x26, hx26, h⟩ := ob h
                                have hE71 : Step K0 s70 s70 := (Step.refl _).of0 (by first | exact fun _ h => h | (intro c h; simp [KC, KO, KU, KN] at h <;> omega))
                                refine k_cutl (X := St) 4 [(1, .pointer (some ⟨b1, 0, none⟩)), (2, .bool false), (4, .slice (some ⟨b3, 0, none⟩) 2 2), (5, .int .i64 1), (6, (.pointer (some ⟨b2, 0, none⟩))), (8, .int .i64 x18.2.1), (9, .pointer (some ⟨b48, 0, none⟩)), (10, .int .i64 x19.2.1), (12, .int .i64 x20.2.1), (13, .pointer (some ⟨b52, 0, none⟩)), (14, .int .i64 x21.2), (19, .int .i64 1), (20, .slice (some ⟨b3, 0, none⟩) 2 2), (21, .int .i64 2), (22, .bool true), (23, .int .i64 0), (24, .int .i64 1), (25, .slice (some ⟨b3, 0, none⟩) 2 2), (26, .int .i64 1), (27, .pointer (some ⟨b3, 1, none⟩)), (28, (.pointer (some ⟨b2, 0, none⟩))), (29, .tuple #[.int .u64 (x18.1.toNat : Int), .int .i64 x18.2.1]), (30, (.pointer (some ⟨b2, 0, none⟩))), (31, .pointer (some ⟨b1, 1, none⟩)), (32, .int .i64 a0.A), (33, .pointer (some ⟨b1, 2, none⟩)), (34, .int .i64 a0.B), (35, .pointer (some ⟨b1, 4, none⟩)), (36, v0), (37, .tuple #[.int .u64 (x18.1.toNat : Int), .int .i64 x18.2.1]), (38, .int .u64 (x18.1.toNat : Int)), (39, .int .i64 x18.2.1), (40, .tuple #[.agg #[.int .i64 x19.1.From, .int .i64 x19.1.To, q47_0_0], .int .i64 x19.2.1]), (41, (.pointer (some ⟨b2, 0, none⟩))), (42, .pointer (some ⟨b1, 3, none⟩)), (43, .int .u64 (a0.Id.toNat : Int)), (44, .tuple #[.agg #[.int .i64 x19.1.From, .int .i64 x19.1.To, q47_0_0], .int .i64 x19.2.1]), (45, .agg #[.int .i64 x19.1.From, .int .i64 x19.1.To, q47_0_0]), (46, .int .i64 x19.2.1), (47, .tuple #[.int .u64 (x20.1.toNat : Int), .int .i64 x20.2.1]), (48, (.pointer (some ⟨b2, 0, none⟩))), (49, .pointer (some ⟨b1, 3, none⟩)), (50, .int .u64 (a0.Id.toNat : Int)), (51, .tuple #[.int .u64 (x20.1.toNat : Int), .int .i64 x20.2.1]), (52, .int .u64 (x20.1.toNat : Int)), (53, .int .i64 x20.2.1), (54, .tuple #[.agg #[.int .i64 x21.1.From, .int .i64 x21.1.To, q51_0_0], .int .i64 x21.2]), (55, (.pointer (some ⟨b2, 0, none⟩))), (56, .pointer (some ⟨b1, 3, none⟩)), (57, .int .u64 (a0.Id.toNat : Int)), (58, .tuple #[.agg #[.int .i64 x21.1.From, .int .i64 x21.1.To, q51_0_0], .int .i64 x21.2]), (59, .agg #[.int .i64 x21.1.From, .int .i64 x21.1.To, q51_0_0]), (60, .int .i64 x21.2), (61, .int .i64 x18.2.1), (62, .bool (decide (x18.2.1 ≠ 1))), (66, .bool (decide ((x18.2.1 ≠ 1) ∨ (x19.2.1 ≠ 4)))), (70, .bool (decide (((x18.2.1 ≠ 1) ∨ (x19.2.1 ≠ 4)) ∨ (x20.2.1 ≠ 4)))), (74, .bool (decide ((((x18.2.1 ≠ 1) ∨ (x19.2.1 ≠ 4)) ∨ (x20.2.1 ≠ 4)) ∨ (x21.2 ≠ 4)))), (81, .bool x22.1), (86, .bool x24), (97, .bool x13), (102, .bool x15)] (fun _ => [(91, .bool x26)]) (fun sl wL => sl.w = wL ∧ Step K0 s70 sl) ?_ ?_
                                · -- the ways
                                  refine k_again 87 rfl ?_
                                  refine k_splitb (fun c72 => ?_) (fun c72 => ?_)
                                  · -- t87 True
                                    have hx26 := ibT hx26 c72
                                    refine k_no rfl rfl rfl rfl ?_
                                    refine k_no rfl rfl rfl rfl ?_
                                    refine k_no rfl rfl rfl rfl ?_
                                    refine k_pickT rfl rfl rfl rfl ?_
                                    exact k_met ⟨s70, ⟨(congrArg (fun b => some (Value.bool b)) (Option.some.inj hx26)), trivial⟩, ⟨rfl, rfl, rfl, rfl, rfl, rfl, rfl, rfl, rfl, rfl, rfl, rfl, rfl, rfl, rfl, rfl, rfl, rfl, rfl, rfl, rfl, rfl, rfl, rfl, rfl, rfl, rfl, rfl, rfl, rfl, rfl, rfl, rfl, rfl, rfl, rfl, rfl, rfl, rfl, rfl, rfl, rfl, rfl, rfl, rfl, rfl, rfl, rfl, rfl, rfl, rfl, rfl, rfl, rfl, rfl, rfl, rfl, rfl, rfl, rfl, rfl, rfl, trivial⟩, rfl, hE71⟩
                                  · -- t87 False
                                    have hx26 := ibF hx26 c72
                                    refine k_yes rfl rfl ?_
                                    refine k_move rfl rfl ?_
                                    refine k_yes rfl rfl ?_
                                    obtain ⟨x27, hx27, hx26⟩ := ob hx26
                                    refine k_call cal18 rfl (net_Net_Count_w  hz4 hx27) rfl ?_
                                    rintro s73 vr73 st73 rfl
                                    have szs73 := st73.size
                                    have hS : Step K0 s s73 := hS.trans0 st73
                                    have hE5 : Step (KO (b2 + 1)) s3 s73 := hE5.trans0 st73
                                    have hE71 : Step K0 s70 s73 := hE71.trans0 st73
                                    replace hp0 := hp0.up2 st73
                                    replace hq47_0_0 := hq47_0_0.up2 st73
                                    replace hq51_0_0 := hq51_0_0.up2 st73
                                    replace h1 := h1.up2 st73
                                    replace hz4 := hz4.up2 st73
                                    replace h3 := h3.up2 st73
                                    replace h48 := h48.up2 st73
                                    replace h52 := h52.up2 st73
                                    refine k_yes rfl rfl ?_
                                    refine k_neq rfl rfl rfl ?_
                                    refine k_pickF rfl rfl rfl rfl ?_
                                    exact k_met ⟨s73, ⟨(congrArg (fun b => some (Value.bool b)) (Option.some.inj hx26)), trivial⟩, ⟨rfl, rfl, rfl, rfl, rfl, rfl, rfl, rfl, rfl, rfl, rfl, rfl, rfl, rfl, rfl, rfl, rfl, rfl, rfl, rfl, rfl, rfl, rfl, rfl, rfl, rfl, rfl, rfl, rfl, rfl, rfl, rfl, rfl, rfl, rfl, rfl, rfl, rfl, rfl, rfl, rfl, rfl, rfl, rfl, rfl, rfl, rfl, rfl, rfl, rfl, rfl, rfl, rfl, rfl, rfl, rfl, rfl, rfl, rfl, rfl, rfl, rfl, trivial⟩, rfl, hE71⟩
                                · -- behind
                                  rintro s74 wL ⟨rfl, hE71⟩
                                  have szs74 := hE71.size
                                  have hS : Step K0 s s74 := hS.trans0 hE71
                                  have hE5 : Step (KO (b2 + 1)) s3 s74 := hE5.trans0 hE71
                                  replace hp0 := hp0.up2 hE71
                                  replace hq47_0_0 := hq47_0_0.up2 hE71
                                  replace hq51_0_0 := hq51_0_0.up2 hE71
                                  replace h1 := h1.up2 hE71
                                  replace hz4 := hz4.up2 hE71
                                  replace h3 := h3.up2 hE71
                                  replace h48 := h48.up2 hE71
                                  replace h52 := h52.up2 hE71
                                  refine k_move rfl rfl ?_
                                  obtain ⟨x28, hx28, h⟩ := ob h
                                  have hE75 : Step K0 s74 s74 := (Step.refl _).of0 (by first | exact fun _ h => h | (intro c h; simp [KC, KO, KU, KN] at h <;> omega))
                                  refine k_cutl (X := St) 5 [(1, .pointer (some ⟨b1, 0, none⟩)), (2, .bool false), (4, .slice (some ⟨b3, 0, none⟩) 2 2), (5, .int .i64 1), (6, (.pointer (some ⟨b2, 0, none⟩))), (8, .int .i64 x18.2.1), (9, .pointer (some ⟨b48, 0, none⟩)), (10, .int .i64 x19.2.1), (12, .int .i64 x20.2.1), (13, .pointer (some ⟨b52, 0, none⟩)), (14, .int .i64 x21.2), (19, .int .i64 1), (20, .slice (some ⟨b3, 0, none⟩) 2 2), (21, .int .i64 2), (22, .bool true), (23, .int .i64 0), (24, .int .i64 1), (25, .slice (some ⟨b3, 0, none⟩) 2 2), (26, .int .i64 1), (27, .pointer (some ⟨b3, 1, none⟩)), (28, (.pointer (some ⟨b2, 0, none⟩))), (29, .tuple #[.int .u64 (x18.1.toNat : Int), .int .i64 x18.2.1]), (30, (.pointer (some ⟨b2, 0, none⟩))), (31, .pointer (some ⟨b1, 1, none⟩)), (32, .int .i64 a0.A), (33, .pointer (some ⟨b1, 2, none⟩)), (34, .int .i64 a0.B), (35, .pointer (some ⟨b1, 4, none⟩)), (36, v0), (37, .tuple #[.int .u64 (x18.1.toNat : Int), .int .i64 x18.2.1]), (38, .int .u64 (x18.1.toNat : Int)), (39, .int .i64 x18.2.1), (40, .tuple #[.agg #[.int .i64 x19.1.From, .int .i64 x19.1.To, q47_0_0], .int .i64 x19.2.1]), (41, (.pointer (some ⟨b2, 0, none⟩))), (42, .pointer (some ⟨b1, 3, none⟩)), (43, .int .u64 (a0.Id.toNat : Int)), (44, .tuple #[.agg #[.int .i64 x19.1.From, .int .i64 x19.1.To, q47_0_0], .int .i64 x19.2.1]), (45, .agg #[.int .i64 x19.1.From, .int .i64 x19.1.To, q47_0_0]), (46, .int .i64 x19.2.1), (47, .tuple #[.int .u64 (x20.1.toNat : Int), .int .i64 x20.2.1]), (48, (.pointer (some ⟨b2, 0, none⟩))), (49, .pointer (some ⟨b1, 3, none⟩)), (50, .int .u64 (a0.Id.toNat : Int)), (51, .tuple #[.int .u64 (x20.1.toNat : Int), .int .i64 x20.2.1]), (52, .int .u64 (x20.1.toNat : Int)), (53, .int .i64 x20.2.1), (54, .tuple #[.agg #[.int .i64 x21.1.From, .int .i64 x21.1.To, q51_0_0], .int .i64 x21.2]), (55, (.pointer (some ⟨b2, 0, none⟩))), (56, .pointer (some ⟨b1, 3, none⟩)), (57, .int .u64 (a0.Id.toNat : Int)), (58, .tuple #[.agg #[.int .i64 x21.1.From, .int .i64 x21.1.To, q51_0_0], .int .i64 x21.2]), (59, .agg #[.int .i64 x21.1.From, .int .i64 x21.1.To, q51_0_0]), (60, .int .i64 x21.2), (61, .int .i64 x18.2.1), (62, .bool (decide (x18.2.1 ≠ 1))), (66, .bool (decide ((x18.2.1 ≠ 1) ∨ (x19.2.1 ≠ 4)))), (70, .bool (decide (((x18.2.1 ≠ 1) ∨ (x19.2.1 ≠ 4)) ∨ (x20.2.1 ≠ 4)))), (74, .bool (decide ((((x18.2.1 ≠ 1) ∨ (x19.2.1 ≠ 4)) ∨ (x20.2.1 ≠ 4)) ∨ (x21.2 ≠ 4)))), (81, .bool x22.1), (86, .bool x24), (91, .bool x26), (102, .bool x15)] (fun _ => [(97, .bool x28)]) (fun sl wL => sl.w = wL ∧ Step K0 s74 sl) ?_ ?_
                                  · -- the ways
                                    refine k_again 92 rfl ?_
                                    refine k_splitb (fun c76 => ?_) (fun c76 => ?_)
                                    · -- t92 True
                                      have hx28 := ibT hx28 c76
                                      refine k_no rfl rfl rfl rfl ?_
                                      refine k_no rfl rfl rfl rfl ?_
                                      refine k_no rfl rfl rfl rfl ?_
                                      refine k_no rfl rfl rfl rfl ?_
                                      refine k_pickT rfl rfl rfl rfl ?_
                                      exact k_met ⟨s74, ⟨(congrArg (fun b => some (Value.bool b)) (Option.some.inj hx28)), trivial⟩, ⟨rfl, rfl, rfl, rfl, rfl, rfl, rfl, rfl, rfl, rfl, rfl, rfl, rfl, rfl, rfl, rfl, rfl, rfl, rfl, rfl, rfl, rfl, rfl, rfl, rfl, rfl, rfl, rfl, rfl, rfl, rfl, rfl, rfl, rfl, rfl, rfl, rfl, rfl, rfl, rfl, rfl, rfl, rfl, rfl, rfl, rfl, rfl, rfl, rfl, rfl, rfl, rfl, rfl, rfl, rfl, rfl, rfl, rfl, rfl, rfl, rfl, rfl, trivial⟩, rfl, hE75⟩
                                    · -- t92 False
                                      have hx28 := ibF hx28 c76
                                      refine k_yes rfl rfl ?_
                                      refine k_move rfl rfl ?_
                                      refine k_yes rfl rfl ?_
                                      obtain ⟨x29, hx29, hx28⟩ := ob hx28
                                      refine k_call cal14 rfl (net_Net_Letters_w  hz4 hx29) rfl ?_
                                      rintro s77 v77_0 st77 ⟨_, rfl, h77_0⟩
                                      have szs77 := st77.size
                                      have hS : Step K0 s s77 := hS.trans0 st77
                                      have hE5 : Step (KO (b2 + 1)) s3 s77 := hE5.trans0 st77
                                      have hE75 : Step K0 s74 s77 := hE75.trans0 st77
                                      replace hp0 := hp0.up2 st77
                                      replace hq47_0_0 := hq47_0_0.up2 st77
                                      replace hq51_0_0 := hq51_0_0.up2 st77
                                      replace h1 := h1.up2 st77
                                      replace hz4 := hz4.up2 st77
                                      replace h3 := h3.up2 st77
                                      replace h48 := h48.up2 st77
                                      replace h52 := h52.up2 st77
                                      refine k_yes rfl rfl ?_
                                      refine k_len Try.underlying40 rfl (SL.of_R h77_0).hasLen rfl ?_
                                      refine k_as (v := .int .i64 (x29.length : Int)) (by simp only [List.length_map]) ?_
                                      refine k_yes rfl rfl ?_
                                      refine k_neq rfl rfl rfl ?_
                                      refine k_pickF rfl rfl rfl rfl ?_
                                      exact k_met ⟨s77, ⟨(congrArg (fun b => some (Value.bool b)) (Option.some.inj hx28)), trivial⟩, ⟨rfl, rfl, rfl, rfl, rfl, rfl, rfl, rfl, rfl, rfl, rfl, rfl, rfl, rfl, rfl, rfl, rfl, rfl, rfl, rfl, rfl, rfl, rfl, rfl, rfl, rfl, rfl, rfl, rfl, rfl, rfl, rfl, rfl, rfl, rfl, rfl, rfl, rfl, rfl, rfl, rfl, rfl, rfl, rfl, rfl, rfl, rfl, rfl, rfl, rfl, rfl, rfl, rfl, rfl, rfl, rfl, rfl, rfl, rfl, rfl, rfl, rfl, trivial⟩, rfl, hE75⟩
                                  · -- behind
                                    rintro s78 wL ⟨rfl, hE75⟩
                                    have szs78 := hE75.size
                                    have hS : Step K0 s s78 := hS.trans0 hE75
                                    have hE5 : Step (KO (b2 + 1)) s3 s78 := hE5.trans0 hE75
                                    replace hp0 := hp0.up2 hE75
                                    replace hq47_0_0 := hq47_0_0.up2 hE75
                                    replace hq51_0_0 := hq51_0_0.up2 hE75
                                    replace h1 := h1.up2 hE75
                                    replace hz4 := hz4.up2 hE75
                                    replace h3 := h3.up2 hE75
                                    replace h48 := h48.up2 hE75
                                    replace h52 := h52.up2 hE75
                                    refine k_move rfl rfl ?_
                                    obtain ⟨x30, hx30, h⟩ := ob h
                                    have hE79 : Step K0 s78 s78 := (Step.refl _).of0 (by first | exact fun _ h => h | (intro c h; simp [KC, KO, KU, KN] at h <;> omega))
                                    refine k_cutl (X := St) 4 [(1, .pointer (some ⟨b1, 0, none⟩)), (2, .bool false), (4, .slice (some ⟨b3, 0, none⟩) 2 2), (5, .int .i64 1), (6, (.pointer (some ⟨b2, 0, none⟩))), (8, .int .i64 x18.2.1), (9, .pointer (some ⟨b48, 0, none⟩)), (10, .int .i64 x19.2.1), (12, .int .i64 x20.2.1), (13, .pointer (some ⟨b52, 0, none⟩)), (14, .int .i64 x21.2), (19, .int .i64 1), (20, .slice (some ⟨b3, 0, none⟩) 2 2), (21, .int .i64 2), (22, .bool true), (23, .int .i64 0), (24, .int .i64 1), (25, .slice (some ⟨b3, 0, none⟩) 2 2), (26, .int .i64 1), (27, .pointer (some ⟨b3, 1, none⟩)), (28, (.pointer (some ⟨b2, 0, none⟩))), (29, .tuple #[.int .u64 (x18.1.toNat : Int), .int .i64 x18.2.1]), (30, (.pointer (some ⟨b2, 0, none⟩))), (31, .pointer (some ⟨b1, 1, none⟩)), (32, .int .i64 a0.A), (33, .pointer (some ⟨b1, 2, none⟩)), (34, .int .i64 a0.B), (35, .pointer (some ⟨b1, 4, none⟩)), (36, v0), (37, .tuple #[.int .u64 (x18.1.toNat : Int), .int .i64 x18.2.1]), (38, .int .u64 (x18.1.toNat : Int)), (39, .int .i64 x18.2.1), (40, .tuple #[.agg #[.int .i64 x19.1.From, .int .i64 x19.1.To, q47_0_0], .int .i64 x19.2.1]), (41, (.pointer (some ⟨b2, 0, none⟩))), (42, .pointer (some ⟨b1, 3, none⟩)), (43, .int .u64 (a0.Id.toNat : Int)), (44, .tuple #[.agg #[.int .i64 x19.1.From, .int .i64 x19.1.To, q47_0_0], .int .i64 x19.2.1]), (45, .agg #[.int .i64 x19.1.From, .int .i64 x19.1.To, q47_0_0]), (46, .int .i64 x19.2.1), (47, .tuple #[.int .u64 (x20.1.toNat : Int), .int .i64 x20.2.1]), (48, (.pointer (some ⟨b2, 0, none⟩))), (49, .pointer (some ⟨b1, 3, none⟩)), (50, .int .u64 (a0.Id.toNat : Int)), (51, .tuple #[.int .u64 (x20.1.toNat : Int), .int .i64 x20.2.1]), (52, .int .u64 (x20.1.toNat : Int)), (53, .int .i64 x20.2.1), (54, .tuple #[.agg #[.int .i64 x21.1.From, .int .i64 x21.1.To, q51_0_0], .int .i64 x21.2]), (55, (.pointer (some ⟨b2, 0, none⟩))), (56, .pointer (some ⟨b1, 3, none⟩)), (57, .int .u64 (a0.Id.toNat : Int)), (58, .tuple #[.agg #[.int .i64 x21.1.From, .int .i64 x21.1.To, q51_0_0], .int .i64 x21.2]), (59, .agg #[.int .i64 x21.1.From, .int .i64 x21.1.To, q51_0_0]), (60, .int .i64 x21.2), (61, .int .i64 x18.2.1), (62, .bool (decide (x18.2.1 ≠ 1))), (66, .bool (decide ((x18.2.1 ≠ 1) ∨ (x19.2.1 ≠ 4)))), (70, .bool (decide (((x18.2.1 ≠ 1) ∨ (x19.2.1 ≠ 4)) ∨ (x20.2.1 ≠ 4)))), (74, .bool (decide ((((x18.2.1 ≠ 1) ∨ (x19.2.1 ≠ 4)) ∨ (x20.2.1 ≠ 4)) ∨ (x21.2 ≠ 4)))), (81, .bool x22.1), (86, .bool x24), (91, .bool x26), (97, .bool x28)] (fun _ => [(102, .bool x30)]) (fun sl wL => sl.w = wL ∧ Step K0 s78 sl) ?_ ?_
                                    · -- the ways
                                      refine k_again 98 rfl ?_
                                      refine k_splitb (fun c80 => ?_) (fun c80 => ?_)
                                      · -- t98 True
                                        have hx30 := ibT hx30 c80
                                        refine k_no rfl rfl rfl rfl ?_
                                        refine k_no rfl rfl rfl rfl ?_
                                        refine k_no rfl rfl rfl rfl ?_
                                        refine k_pickT rfl rfl rfl rfl ?_
                                        exact k_met ⟨s78, ⟨(congrArg (fun b => some (Value.bool b)) (Option.some.inj hx30)), trivial⟩, ⟨rfl, rfl, rfl, rfl, rfl, rfl, rfl, rfl, rfl, rfl, rfl, rfl, rfl, rfl, rfl, rfl, rfl, rfl, rfl, rfl, rfl, rfl, rfl, rfl, rfl, rfl, rfl, rfl, rfl, rfl, rfl, rfl, rfl, rfl, rfl, rfl, rfl, rfl, rfl, rfl, rfl, rfl, rfl, rfl, rfl, rfl, rfl, rfl, rfl, rfl, rfl, rfl, rfl, rfl, rfl, rfl, rfl, rfl, rfl, rfl, rfl, rfl, trivial⟩, rfl, hE79⟩
                                      · -- t98 False
                                        have hx30 := ibF hx30 c80
                                        refine k_yes rfl rfl ?_
                                        refine k_move rfl rfl ?_
                                        refine k_yes rfl rfl ?_
                                        obtain ⟨x31, hx31, hx30⟩ := ob hx30
                                        refine k_call cal22 rfl (net_Net_Copy_w  hz4 hx31) rfl ?_
                                        rintro s81 v81_0 st81 ⟨ku81_0, _, rfl, hk81_0, h81_0⟩
                                        have szs81 := st81.size
                                        have hS : Step K0 s s81 := hS.trans0 st81
                                        have hE5 : Step (KO (b2 + 1)) s3 s81 := hE5.trans0 st81
                                        have hE79 : Step K0 s78 s81 := hE79.trans0 st81
                                        replace hp0 := hp0.up2 st81
                                        replace hq47_0_0 := hq47_0_0.up2 st81
                                        replace hq51_0_0 := hq51_0_0.up2 st81
                                        replace h1 := h1.up2 st81
                                        replace hz4 := hz4.up2 st81
                                        replace h3 := h3.up2 st81
                                        replace h48 := h48.up2 st81
                                        replace h52 := h52.up2 st81
                                        have ol81_0 := OptONetNet.le (k := ku81_0) h81_0
                                        rcases oc_out hx30 with ⟨ho_82, hx30⟩ | ⟨x32, ho_82, hx30⟩
                                        · -- nil
                                          rw [ho_82] at h81_0
                                          obtain rfl : v81_0 = .pointer none := h81_0
                                          refine k_yes rfl rfl ?_
                                          refine k_neq_pnil Try.underlying24 rfl rfl rfl ?_
                                          refine k_pickF rfl rfl rfl rfl ?_
                                          exact k_met ⟨s81, ⟨(congrArg (fun b => some (Value.bool b)) (Option.some.inj hx30)), trivial⟩, ⟨rfl, rfl, rfl, rfl, rfl, rfl, rfl, rfl, rfl, rfl, rfl, rfl, rfl, rfl, rfl, rfl, rfl, rfl, rfl, rfl, rfl, rfl, rfl, rfl, rfl, rfl, rfl, rfl, rfl, rfl, rfl, rfl, rfl, rfl, rfl, rfl, rfl, rfl, rfl, rfl, rfl, rfl, rfl, rfl, rfl, rfl, rfl, rfl, rfl, rfl, rfl, rfl, rfl, rfl, rfl, rfl, rfl, rfl, rfl, rfl, rfl, rfl, trivial⟩, rfl, hE79⟩
                                        · -- some
                                          rw [ho_82] at h81_0
                                          replace h81_0 : ONetNet s81 ku81_0 v81_0 x32 := h81_0
                                          replace ol81_0 := ol81_0.resolve_left (fun e => by rw [e] at ho_82; cases ho_82)
                                          have le82 := h81_0.le
                                          have ne82 := h81_0.ne
                                          refine k_yes rfl rfl ?_
                                          obtain ⟨pb83, rfl⟩ := h81_0.ptr
                                          refine k_neq_pnil Try.underlying24 rfl rfl rfl ?_
                                          refine k_pickF rfl rfl rfl rfl ?_
                                          exact k_met ⟨s81, ⟨(congrArg (fun b => some (Value.bool b)) (Option.some.inj hx30)), trivial⟩, ⟨rfl, rfl, rfl, rfl, rfl, rfl, rfl, rfl, rfl, rfl, rfl, rfl, rfl, rfl, rfl, rfl, rfl, rfl, rfl, rfl, rfl, rfl, rfl, rfl, rfl, rfl, rfl, rfl, rfl, rfl, rfl, rfl, rfl, rfl, rfl, rfl, rfl, rfl, rfl, rfl, rfl, rfl, rfl, rfl, rfl, rfl, rfl, rfl, rfl, rfl, rfl, rfl, rfl, rfl, rfl, rfl, rfl, rfl, rfl, rfl, rfl, rfl, trivial⟩, rfl, hE79⟩
                                    · -- behind
                                      rintro s84 wL ⟨rfl, hE79⟩
                                      have szs84 := hE79.size
                                      have hS : Step K0 s s84 := hS.trans0 hE79
                                      have hE5 : Step (KO (b2 + 1)) s3 s84 := hE5.trans0 hE79
                                      replace hp0 := hp0.up2 hE79
                                      replace hq47_0_0 := hq47_0_0.up2 hE79
                                      replace hq51_0_0 := hq51_0_0.up2 hE79
                                      replace h1 := h1.up2 hE79
                                      replace hz4 := hz4.up2 hE79
                                      replace h3 := h3.up2 hE79
                                      replace h48 := h48.up2 hE79
                                      replace h52 := h52.up2 hE79
                                      refine k_nil ?_
                                      refine k_cond rfl (fun c85 => ?_) (fun c85 => ?_)
                                      · -- T
                                        have h := ibT h c85
                                        refine k_seq ?_
                                        refine k_region ?_
                                        refine k_assign rfl rfl ?_
                                        refine k_nil ?_
                                        refine k_ret ?_
                                        obtain rfl := Option.some.inj h
                                        refine ⟨_, rfl, Ret.mk hS ?_⟩
                                        exact rfl
                                      · -- F
                                        have h := ibF h c85
                                        refine k_skip ?_
                                        refine k_blk ?_
                                        refine k_region ?_
                                        refine k_move rfl rfl ?_
                                        refine k_add rfl rfl rfl ?_
                                        refine k_as (v := .int .i64 2) (by first | rfl | decide) ?_
                                        refine k_assign rfl rfl ?_
                                        refine k_nil ?_
                                        refine k_stopr ?_
                                        refine k_round ?_
                                        refine k_seq ?_
                                        refine k_seq ?_
                                        refine k_region ?_
                                        refine k_move rfl rfl ?_
                                        refine k_move rfl rfl ?_
                                        refine k_len Try.underlying65 rfl ⟨_, _, rfl⟩ rfl ?_
                                        refine k_lss rfl rfl rfl ?_
                                        refine k_as (v := .bool false) rfl ?_
                                        refine k_nil ?_
                                        refine k_cond_false rfl ?_
                                        refine k_exit rfl ?_
                                        exact k_stop ⟨(s84, x22.2), trivial, ⟨rfl, trivial⟩, ⟨rfl, hE5, hz4, h⟩⟩
  · -- behind
    rintro ⟨s86, x2⟩ wL ⟨rfl, hE5, hz4, h⟩
    rw [hK5] at h
    have szs86 := hE5.size
    have hS : Step K0 s s86 := hS.comp hE5 (by intro l hl hk; (try simp only [KC, KO, KU, KN, K0] at hk ⊢) <;> omega)
    refine k_seq ?_
    refine k_region ?_
    obtain ⟨x33, hx33, h⟩ := ob h
    refine k_call cal10 rfl (law22_awake_w   hx33) rfl ?_
    rintro s87 vr87 st87 rfl
    have szs87 := st87.size
    have hS : Step K0 s s87 := hS.trans0 st87
    refine k_assign rfl rfl ?_
    refine k_nil ?_
    refine k_keep [(2, _)] ⟨rfl, trivial⟩ ?_
    refine k_ret ?_
    obtain rfl := Option.some.inj h
    refine ⟨_, rfl, Ret.mk hS ?_⟩
    exact rfl
end Go.Proofs
