import Derived.Test.YtkdicklkghgdpaaF22
set_option linter.unusedSimpArgs false
set_option linter.unusedVariables false
namespace Go.Proofs
open Go.Fw
set_option maxHeartbeats 1000000 in
set_option maxRecDepth 100000 in
theorem law22_many_w {s : St} {l0 : Lab} {v0 : Value} {a0 : (List Law22Call)} {r : Bool} (hp0 : SL s l0 v0 5 (a0.map dLaw22Call)) (h : law22_many a0 = some r) : Calls Try.prog 9 #[v0] s.w (Ret s K0 (fun s1 v => v = .bool r)) := by
  unfold law22_many at h
  obtain ⟨lf0, lf0le, lf0ne, hp0⟩ := hp0.fix
  have hS : Step K0 s s := (Step.refl _).of0 (by first | exact fun _ h => h | (intro c h; simp [KC, KO, KU, KN] at h <;> omega))
  refine k_fn (rs := [2]) (args := [v0]) Try.func9 rfl rfl rfl rfl ?_
  refine k_seq ?_
  refine k_region ?_
  refine k_assign rfl rfl ?_
  refine k_nil ?_
  refine k_seq ?_
  refine k_region ?_
  refine k_assign rfl rfl ?_
  refine k_nil ?_
  refine k_seq ?_
  obtain ⟨kj1, hK1, h⟩ := jn_out h
  have hE1 : Step K0 s s := (Step.refl _).of0 (by first | exact fun _ h => h | (intro c h; simp [KC, KO, KU, KN] at h <;> omega))
  refine k_cutc (X := St) [(2, .bool false)] (fun (xL : St) => match xL with | sl => []) (fun (xL : St) (wL : World) => match xL with | sl => sl.w = wL ∧ Step K0 s sl ∧ kj1 () = some r) ?_ ?_
  · -- the ways
    refine k_seq ?_
    refine k_region ?_
    refine k_assign rfl rfl ?_
    refine k_nil ?_
    refine k_block ?_
    refine k_loopc (X := St × Int × Int × Nat) [(0, _), (2, _)] (fun (xL : St × Int × Int × Nat) => match xL with | (sl, x2, x3, j) => [(3, .int .i64 x2), (4, .int .i64 x3)]) (fun (xL : St × Int × Int × Nat) (wL : World) => match xL with | (sl, x2, x3, j) => sl.w = wL ∧ Step K0 s sl ∧ law22_many_l1 a0 kj1 j x2 x3 = some r) (fun (xL : St × Int × Int × Nat) => match xL with | (sl, x2, x3, j) => j) (s, 0, 0, FU) ⟨rfl, rfl, trivial⟩ ⟨(by first | rfl | (simp <;> rfl)), (by first | rfl | (simp <;> rfl)), trivial⟩ ⟨rfl, (Step.refl _).of0 (by first | exact fun _ h => h | (intro c h; simp [KC, KO, KU, KN] at h <;> omega)), h⟩ ?_
    rintro ⟨s3, x2, x3, j⟩ wL ⟨rfl, hE2, h⟩
    cases j with
    | zero => rw [law22_many_l1] at h; exact (noneNe h).elim
    | succ j =>
    rw [law22_many_l1] at h
    have szs3 := hE2.size
    have hS : Step K0 s s3 := hS.trans0 hE2
    have hE1 : Step K0 s s3 := hE1.trans0 hE2
    replace hp0 := hp0.up2 hE2
    refine k_seq ?_
    refine k_seq ?_
    refine k_region ?_
    refine k_move rfl rfl ?_
    refine k_move rfl rfl ?_
    refine k_len Try.underlying22 rfl hp0.hasLen rfl ?_
    refine k_as (v := .int .i64 (a0.length : Int)) (by simp only [List.length_map]) ?_
    refine k_lss rfl rfl rfl ?_
    refine k_nil ?_
    refine k_keep [(0, _), (2, _), (3, _), (4, _), (8, _)] ⟨rfl, rfl, rfl, rfl, rfl, trivial⟩ ?_
    refine k_cond_dec rfl (fun c4 => ?_) (fun c4 => ?_)
    · -- T
      have h := itT h c4
      refine k_skip ?_
      refine k_seq ?_
      refine k_block ?_
      refine k_seq ?_
      refine k_region ?_
      refine k_move rfl rfl ?_
      refine k_move rfl rfl ?_
      refine k_move rfl rfl ?_
      obtain ⟨x4, hx4, h⟩ := ob h
      refine k_ixaddr Try.underlying22 size32 rfl rfl hp0 (geti_out hx4).1 (geti_map hx4) rfl ?_
      intro qx4 hqx4
      refine k_field_at (o := 0) rfl hqx4 (by rfl) fld32_4 rfl ?_
      intro q5 h5
      refine k_load_sl one23 rfl h5 rfl ?_
      intro v6 h6
      refine k_len Try.underlying23 rfl (SL.of_R h6).hasLen rfl ?_
      refine k_as (v := .int .i64 (x4.Bytes.length : Int)) (by simp only [List.length_map]) ?_
      refine k_quo rfl rfl (by decide) rfl ?_
      refine k_add rfl rfl rfl ?_
      refine k_add rfl rfl rfl ?_
      refine k_assign rfl rfl ?_
      refine k_nil ?_
      refine k_keep [(0, _), (2, _), (3, _), (4, _)] ⟨rfl, rfl, rfl, rfl, trivial⟩ ?_
      refine k_seq ?_
      refine k_region ?_
      refine k_move rfl rfl ?_
      refine k_gtr rfl rfl rfl ?_
      refine k_nil ?_
      refine k_keep [(0, _), (2, _), (3, _), (4, _), (22, _)] ⟨rfl, rfl, rfl, rfl, rfl, trivial⟩ ?_
      refine k_cond_dec rfl (fun c7 => ?_) (fun c7 => ?_)
      · -- T
        have h := itT h c7
        refine k_seq ?_
        refine k_region ?_
        refine k_assign rfl rfl ?_
        refine k_nil ?_
        refine k_keep [(0, _), (2, _), (3, _), (4, _)] ⟨rfl, rfl, rfl, rfl, trivial⟩ ?_
        refine k_ret ?_
        obtain rfl := Option.some.inj h
        refine ⟨_, rfl, Ret.mk hS ?_⟩
        exact rfl
      · -- F
        have h := itF h c7
        refine k_skip ?_
        refine k_blk ?_
        refine k_region ?_
        refine k_move rfl rfl ?_
        refine k_add rfl rfl rfl ?_
        refine k_assign rfl rfl ?_
        refine k_nil ?_
        exact k_stop ⟨(s3, i64 (x2 + (i64 (1 + (i64 ((x4.Bytes.length : Int).tdiv 200))))), i64 (x3 + 1), j), ⟨(by first | rfl | (simp <;> rfl)), (by first | rfl | (simp <;> rfl)), trivial⟩, ⟨rfl, rfl, trivial⟩, ⟨rfl, hE2, h⟩, (by simp)⟩
    · -- F
      have h := itF h c4
      refine k_exit rfl ?_
      exact k_stop ⟨s3, trivial, ⟨rfl, trivial⟩, ⟨rfl, hE1, h⟩⟩
  · -- behind
    rintro s8 wL ⟨rfl, hE1, h⟩
    rw [hK1] at h
    have szs8 := hE1.size
    have hS : Step K0 s s8 := hS.trans0 hE1
    refine k_seq ?_
    refine k_region ?_
    refine k_assign rfl rfl ?_
    refine k_nil ?_
    refine k_ret ?_
    obtain rfl := Option.some.inj h
    refine ⟨_, rfl, Ret.mk hS ?_⟩
    exact rfl

set_option maxHeartbeats 1000000 in
set_option maxRecDepth 100000 in
theorem net_Net_Copy_w {s : St} {k0 : Nat} {p0 : Value} {a0 : NetNet} {r : (Option NetNet)} (ho0 : ONetNet s k0 p0 a0) (h : net_Net_Copy a0 = some r) : Calls Try.prog 22 #[p0] s.w (Ret s K0 (fun s1 v => ∃ (ku0 : Nat), ∃ (u0 : Value), v = u0 ∧ s.n < ku0 ∧ OptONetNet s1 ku0 u0 r)) := by
  unfold net_Net_Copy at h
  have le0 := ho0.le
  have ne0 := ho0.ne
  obtain ⟨bo0, rfl⟩ := ho0.ptr
  obtain ⟨wo0_0, hb_o0, hwo0_0, hwo0_1⟩ := ho0.at_
  have hS : Step K0 s s := (Step.refl _).of0 (by first | exact fun _ h => h | (intro c h; simp [KC, KO, KU, KN] at h <;> omega))
  refine k_fn (rs := [2]) (args := [.pointer (some ⟨bo0, 0, none⟩)]) Try.func22 rfl rfl rfl rfl ?_
  refine k_seq ?_
  refine k_region ?_
  refine k_assign rfl rfl ?_
  refine k_nil ?_
  refine k_seq ?_
  refine k_seq ?_
  refine k_region ?_
  refine k_move rfl rfl ?_
  obtain ⟨x1, hx1, h⟩ := ob h
  refine k_call cal26 rfl (net_Net_none_w  (ONetNet.mk_ a0 (by omega) hwo0_0 hwo0_1 hb_o0) hx1) rfl ?_
  rintro s1 vr1 st1 rfl
  have szs1 := st1.size
  have hS : Step K0 s s1 := hS.trans0 st1
  replace hwo0_0 := hwo0_0.up2 st1
  replace hb_o0 := hb_o0.up2 st1
  refine k_nil ?_
  refine k_keep [(0, _), (2, _), (5, _)] ⟨rfl, rfl, rfl, trivial⟩ ?_
  refine k_cond rfl (fun c2 => ?_) (fun c2 => ?_)
  · -- T
    have h := ibT h c2
    refine k_seq ?_
    refine k_region ?_
    refine k_assign rfl rfl ?_
    refine k_nil ?_
    refine k_keep [(0, _), (2, _)] ⟨rfl, rfl, trivial⟩ ?_
    refine k_ret ?_
    obtain rfl := Option.some.inj h
    refine ⟨_, rfl, Ret.mk hS ?_⟩
    exact ⟨s1.n + 1, _, rfl, by omega, rfl⟩
  · -- F
    have h := ibF h c2
    refine k_skip ?_
    refine k_seq ?_
    refine k_region ?_
    refine k_move rfl rfl ?_
    refine k_nilCheck rfl rfl ?_
    refine k_load_blka (cs := (([.int .i64 a0.replicas, .int .u64 (a0.last.toNat : Int), wo0_0] : List Value) ++ a0.between.map cI)) (by simp only [List.length_append, List.length_map, hwo0_1]; exact agg64) rfl hb_o0 rfl ?_
    refine k_alloc zero64 rfl ?_
    intro s3 b3 st3 h3 ge3
    have szs3 := st3.size
    have hS : Step K0 s s3 := hS.trans0 st3
    replace hwo0_0 := hwo0_0.up2 st3
    replace hb_o0 := hb_o0.up2 st3
    have lt3 := h3.lt
    refine k_store_all (cs' := (([.int .i64 a0.replicas, .int .u64 (a0.last.toNat : Int), wo0_0] : List Value) ++ a0.between.map cI)) size64 rfl rfl h3 (by first | (simp; done) | omega | (dsimp only; omega)) (CellsOf.lit (vs := (([.int .i64 a0.replicas, .int .u64 (a0.last.toNat : Int), wo0_0] : List Value) ++ a0.between.map cI)) rfl (ones.arr a0.between (ones.cons rfl (ones.cons rfl (ones.cons (hwo0_0).one1.1 ones.nil))))) (by first | rfl | (simp only [List.length_append, List.length_map, List.length_replicate, List.length_replicate, hwo0_1]; rfl)) (by first | rfl | (simp only [List.length_append, List.length_map, List.length_replicate, List.length_replicate, hwo0_1]; rfl)) ?_
    intro s4 st4 h3
    have szs4 := st4.size
    have hS : Step K0 s s4 := hS.comp st4 (by intro l hl hk; (try simp only [KC, KO, KU, KN, K0] at hk ⊢) <;> omega)
    replace hwo0_0 := hwo0_0.up2 st4
    replace hb_o0 := hb_o0.up2 st4
    refine k_nil ?_
    refine k_keep [(0, _), (2, _), (3, _)] ⟨rfl, rfl, rfl, trivial⟩ ?_
    refine k_seq ?_
    refine k_region ?_
    refine k_move rfl rfl ?_
    refine k_nilCheck rfl rfl ?_
    refine k_field_addr fld64_2 rfl rfl ?_
    refine k_load_blk one60 rfl hb_o0 rfl rfl ?_
    obtain ⟨x2, hx2, h⟩ := ob h
    refine k_call cal35 rfl (cloneBag_w (by rw [← hx2]; exact hwo0_0)) rfl ?_
    rintro s5 v5 st5 ⟨b5, ge5, bl5, h5⟩
    have szs5 := st5.size
    have hS : Step K0 s s5 := hS.trans0 st5
    replace hwo0_0 := hwo0_0.up2 st5
    replace hb_o0 := hb_o0.up2 st5
    replace h3 := h3.up2 st5
    refine k_field_addr fld64_2 rfl rfl ?_
    refine k_store_c (cs' := (([.int .i64 a0.replicas, .int .u64 (a0.last.toNat : Int), v5] : List Value) ++ a0.between.map cI)) size60 rfl rfl h3 (by first | (simp; done) | omega | (dsimp only; omega)) (CellsOf.mp h5) rfl (by first | rfl | (simp; done) | (simp; omega)) rfl ?_
    intro s6 st6 h3
    have szs6 := st6.size
    have hS : Step K0 s s6 := hS.comp st6 (by intro l hl hk; (try simp only [KC, KO, KU, KN, K0] at hk ⊢) <;> omega)
    replace hwo0_0 := hwo0_0.up2 st6
    replace h5 := h5.up2 st6
    replace hb_o0 := hb_o0.up2 st6
    refine k_nil ?_
    refine k_keep [(2, _), (3, _)] ⟨rfl, rfl, trivial⟩ ?_
    refine k_seq ?_
    refine k_region ?_
    refine k_assign rfl rfl ?_
    refine k_nil ?_
    refine k_keep [(2, _)] ⟨rfl, trivial⟩ ?_
    refine k_ret ?_
    obtain ⟨s7, e7, st7, h7⟩ := MapO.relabel b3 1 h5 (by first | omega | (dsimp only; omega)) (by omega)
    rw [← e7]
    have szs7 := st7.size
    have hS : Step K0 s s7 := hS.comp st7 (by intro l hl hk; (try simp only [KC, KO, KU, KN, K0] at hk ⊢) <;> omega)
    replace hwo0_0 := hwo0_0.up2 st7
    replace hb_o0 := hb_o0.up2 st7
    replace h3 := h3.up2 st7
    obtain rfl := Option.some.inj h
    refine ⟨_, rfl, Ret.mk hS ?_⟩
    exact ⟨b3 + 1, _, rfl, by omega, (ONetNet.mk_ (⟨a0.replicas, a0.last, some x2, a0.between⟩ : NetNet) (by omega) h7 hwo0_1 h3)⟩

set_option maxHeartbeats 1000000 in
set_option maxRecDepth 100000 in
theorem net_New_w {s : St} {a0 : Int} {r : ((Option NetNet) × Int)}  (h : net_New a0 = some r) : Calls Try.prog 8 #[.int .i64 a0] s.w (Ret s K0 (fun s1 v => ∃ (ku0 : Nat), ∃ (u0 : Value), v = .tuple #[u0, .int .i64 r.2] ∧ s.n < ku0 ∧ OptONetNet s1 ku0 u0 r.1)) := by
  unfold net_New at h
  have hS : Step K0 s s := (Step.refl _).of0 (by first | exact fun _ h => h | (intro c h; simp [KC, KO, KU, KN] at h <;> omega))
  refine k_fn (rs := [2, 3]) (args := [.int .i64 a0]) Try.func8 rfl rfl rfl rfl ?_
  refine k_seq ?_
  refine k_region ?_
  refine k_assign rfl rfl ?_
  refine k_assign rfl rfl ?_
  refine k_nil ?_
  refine k_seq ?_
  refine k_seq ?_
  refine k_region ?_
  refine k_move rfl rfl ?_
  refine k_lss rfl rfl rfl ?_
  refine k_move rfl rfl ?_
  have hE1 : Step K0 s s := (Step.refl _).of0 (by first | exact fun _ h => h | (intro c h; simp [KC, KO, KU, KN] at h <;> omega))
  refine k_cutl (X := St) 3 [(0, .int .i64 a0), (2, .pointer none), (3, .int .i64 0), (4, .int .i64 a0), (5, .bool (decide (a0 < 1)))] (fun _ => [(9, .bool (decide ((a0 < 1) ∨ (4 < a0))))]) (fun sl wL => sl.w = wL ∧ Step K0 s sl) ?_ ?_
  · -- the ways
    refine k_again 6 rfl ?_
    refine k_split (fun c2 => ?_) (fun c2 => ?_)
    · -- t6 True
      refine k_no rfl rfl rfl rfl ?_
      refine k_no rfl rfl rfl rfl ?_
      refine k_pickT rfl rfl rfl rfl ?_
      exact k_met ⟨s, ⟨(congrArg (fun b => some (Value.bool b)) (by first | exact decide_eq_decide.2 ⟨Or.inr, fun h => h.resolve_left c2⟩ | exact (decide_eq_true (Or.inl c2)).symm | (simp [c2]; done) | (simp [c2, i64] <;> omega))), trivial⟩, ⟨rfl, rfl, rfl, rfl, rfl, trivial⟩, rfl, hE1⟩
    · -- t6 False
      refine k_yes rfl rfl ?_
      refine k_move rfl rfl ?_
      refine k_yes rfl rfl ?_
      refine k_gtr rfl rfl rfl ?_
      refine k_pickF rfl rfl rfl rfl ?_
      exact k_met ⟨s, ⟨(congrArg (fun b => some (Value.bool b)) (by first | exact decide_eq_decide.2 ⟨Or.inr, fun h => h.resolve_left c2⟩ | exact (decide_eq_true (Or.inl c2)).symm | (simp [c2]; done) | (simp [c2, i64] <;> omega))), trivial⟩, ⟨rfl, rfl, rfl, rfl, rfl, trivial⟩, rfl, hE1⟩
  · -- behind
    rintro s3 wL ⟨rfl, hE1⟩
    have szs3 := hE1.size
    have hS : Step K0 s s3 := hS.trans0 hE1
    refine k_nil ?_
    refine k_keep [(0, _), (2, _), (3, _), (9, _)] ⟨rfl, rfl, rfl, rfl, trivial⟩ ?_
    refine k_cond_dec rfl (fun c4 => ?_) (fun c4 => ?_)
    · -- T
      have h := itT h c4
      refine k_seq ?_
      refine k_region ?_
      refine k_assign rfl rfl ?_
      refine k_assign rfl rfl ?_
      refine k_nil ?_
      refine k_keep [(0, _), (2, _), (3, _)] ⟨rfl, rfl, rfl, trivial⟩ ?_
      refine k_ret ?_
      obtain rfl := Option.some.inj h
      refine ⟨_, rfl, Ret.mk hS ?_⟩
      exact ⟨s3.n + 1, _, rfl, by omega, rfl⟩
    · -- F
      have h := itF h c4
      refine k_skip ?_
      refine k_seq ?_
      refine k_region ?_
      refine k_move rfl rfl ?_
      refine k_makeMap (f := dApiMessage) rfl ?_
      intro s5 v5 b5 st5 ge5 bl5 h5
      have szs5 := st5.size
      have hS : Step K0 s s5 := hS.trans0 st5
      refine k_build plc64 zero64 rfl (Parts.cons (CellsOf.lit rfl rfl).1 (Parts.cons (CellsOf.mp h5).1 Parts.nil)) (by rfl) rfl ?_
      refine k_as (v := .agg (([.int .i64 a0, .int .u64 0, v5] : List Value) ++ (List.replicate 16 0).map cI).toArray) rfl ?_
      refine k_box rfl rfl ?_
      intro s6 b6 st6 h6 ge6
      have szs6 := st6.size
      have hS : Step K0 s s6 := hS.trans0 st6
      replace h5 := h5.up2 st6
      have lt6 := h6.lt
      refine k_assign rfl rfl ?_
      refine k_assign rfl rfl ?_
      refine k_nil ?_
      refine k_keep [(2, _), (3, _)] ⟨rfl, rfl, trivial⟩ ?_
      refine k_ret ?_
      obtain ⟨s7, e7, st7, h7⟩ := MapO.relabel b5 1 h5 (by first | omega | (dsimp only; omega)) (by omega)
      rw [← e7]
      have szs7 := st7.size
      have hS : Step K0 s s7 := hS.comp st7 (by intro l hl hk; (try simp only [KC, KO, KU, KN, K0] at hk ⊢) <;> omega)
      replace h6 := h6.up2 st7
      obtain ⟨s8, e8, st8, h8⟩ := Blk.relabel b5 0 h6 (by first | omega | (dsimp only; omega)) (by omega)
      rw [← e8]
      have szs8 := st8.size
      have hS : Step K0 s s8 := hS.comp st8 (by intro l hl hk; (try simp only [KC, KO, KU, KN, K0] at hk ⊢) <;> omega)
      replace h7 := h7.up2 st8
      obtain rfl := Option.some.inj h
      refine ⟨_, rfl, Ret.mk hS ?_⟩
      exact ⟨b5 + 1, _, rfl, by omega, (ONetNet.mk_ (⟨a0, (0 : UInt64), some [], (List.replicate 16 0)⟩ : NetNet) (by omega) h7 (List.length_replicate) h8)⟩

set_option maxHeartbeats 1000000 in
set_option maxRecDepth 100000 in
theorem net_Net_Replicas_w {s : St} {k0 : Nat} {p0 : Value} {a0 : NetNet} {r : Int} (ho0 : ONetNet s k0 p0 a0) (h : net_Net_Replicas a0 = some r) : Calls Try.prog 23 #[p0] s.w (Ret s K0 (fun s1 v => v = .int .i64 r)) := by
  unfold net_Net_Replicas at h
  have le0 := ho0.le
  have ne0 := ho0.ne
  obtain ⟨bo0, rfl⟩ := ho0.ptr
  obtain ⟨wo0_0, hb_o0, hwo0_0, hwo0_1⟩ := ho0.at_
  have hS : Step K0 s s := (Step.refl _).of0 (by first | exact fun _ h => h | (intro c h; simp [KC, KO, KU, KN] at h <;> omega))
  refine k_fn (rs := [2]) (args := [.pointer (some ⟨bo0, 0, none⟩)]) Try.func23 rfl rfl rfl rfl ?_
  refine k_seq ?_
  refine k_region ?_
  refine k_assign rfl rfl ?_
  refine k_nil ?_
  refine k_seq ?_
  refine k_seq ?_
  refine k_region ?_
  refine k_move rfl rfl ?_
  obtain ⟨x1, hx1, h⟩ := ob h
  refine k_call cal26 rfl (net_Net_none_w  (ONetNet.mk_ a0 (by omega) hwo0_0 hwo0_1 hb_o0) hx1) rfl ?_
  rintro s1 vr1 st1 rfl
  have szs1 := st1.size
  have hS : Step K0 s s1 := hS.trans0 st1
  replace hwo0_0 := hwo0_0.up2 st1
  replace hb_o0 := hb_o0.up2 st1
  refine k_nil ?_
  refine k_keep [(0, _), (2, _), (4, _)] ⟨rfl, rfl, rfl, trivial⟩ ?_
  refine k_cond rfl (fun c2 => ?_) (fun c2 => ?_)
  · -- T
    have h := ibT h c2
    refine k_seq ?_
    refine k_region ?_
    refine k_assign rfl rfl ?_
    refine k_nil ?_
    refine k_keep [(0, _), (2, _)] ⟨rfl, rfl, trivial⟩ ?_
    refine k_ret ?_
    obtain rfl := Option.some.inj h
    refine ⟨_, rfl, Ret.mk hS ?_⟩
    exact rfl
  · -- F
    have h := ibF h c2
    refine k_skip ?_
    refine k_seq ?_
    refine k_region ?_
    refine k_move rfl rfl ?_
    refine k_nilCheck rfl rfl ?_
    refine k_field_addr fld64_0 rfl rfl ?_
    refine k_load_blk one3 rfl hb_o0 rfl rfl ?_
    refine k_assign rfl rfl ?_
    refine k_nil ?_
    refine k_keep [(2, _)] ⟨rfl, trivial⟩ ?_
    refine k_ret ?_
    obtain rfl := Option.some.inj h
    refine ⟨_, rfl, Ret.mk hS ?_⟩
    exact rfl

set_option maxHeartbeats 1000000 in
set_option maxRecDepth 100000 in
theorem slices_Clone_byte_byte_w {s : St} {l0 : Lab} {v0 : Value} {a0 : (List UInt8)} {r : (List UInt8)} (hp0 : SL s l0 v0 1 (a0.map bD)) (h : slices_Clone_byte_byte a0 = some r) : Calls Try.prog 38 #[v0] s.w (Ret s K0 (fun s1 v => ∃ (u0 : Value), v = u0 ∧ R s1 u0 (.sl 1 (r.map bD)))) := by
  unfold slices_Clone_byte_byte at h
  obtain ⟨lf0, lf0le, lf0ne, hp0⟩ := hp0.fix
  have hS : Step K0 s s := (Step.refl _).of0 (by first | exact fun _ h => h | (intro c h; simp [KC, KO, KU, KN] at h <;> omega))
  refine k_fn (rs := [2]) (args := [v0]) Try.func38 rfl rfl rfl rfl ?_
  refine k_seq ?_
  refine k_region ?_
  refine k_assign rfl rfl ?_
  refine k_nil ?_
  refine k_seq ?_
  refine k_seq ?_
  refine k_region ?_
  refine k_move rfl rfl ?_
  refine k_eql_snilv Try.underlying23 rfl rfl hp0 rfl ?_
  refine k_nil ?_
  refine k_keep [(0, _), (2, _), (4, _)] ⟨rfl, rfl, rfl, trivial⟩ ?_
  refine k_cond rfl (fun c1 => ?_) (fun c1 => ?_)
  · -- nil
    have hz5 := SL.nilS_nil hp0 c1
    obtain rfl : a0 = [] := by simpa using hz5
    replace h : some ([]) = some r := by simpa [app] using h
    refine k_seq ?_
    refine k_region ?_
    refine k_assign rfl rfl ?_
    refine k_nil ?_
    refine k_keep [(0, _), (2, _)] ⟨rfl, rfl, trivial⟩ ?_
    refine k_ret ?_
    obtain rfl := Option.some.inj h
    refine ⟨_, rfl, Ret.mk hS ?_⟩
    exact ⟨_, rfl, (R.of_SL (.inl ⟨rfl, none, 0, rfl, fun _ => rfl⟩))⟩
  · -- F
    refine k_skip ?_
    refine k_seq ?_
    refine k_region ?_
    refine k_bslice2 (ds := ([] : List UInt8).map bD) slc23 rfl RVs.nil (by rfl) (by rfl) rfl rfl ?_
    intro s2 v2 b2 st2 ge2 bl2 h2
    have szs2 := st2.size
    have hS : Step K0 s s2 := hS.trans0 st2
    replace hp0 := hp0.up2 st2
    have lt2 := Own.le1 h2
    refine k_move rfl rfl ?_
    obtain ⟨x1, hx1, h⟩ := ob h
    refine k_append (es := a0.map bD) elem23 rfl rfl h2 hp0 (by have := (app_out hx1).1; simp only [List.length_map] at *; omega) (by have := (app_out hx1).1; simp only [List.length_map] at *; omega) rfl ?_
    intro s3 v3 st3 h3
    rw [← List.map_append, ← (app_out hx1).2] at h3
    have szs3 := st3.size
    have hS : Step K0 s s3 := hS.comp st3 (by intro l hl hk; (try simp only [KC, KO, KU, KN, K0] at hk ⊢) <;> omega)
    replace hp0 := hp0.up2 st3
    refine k_assign rfl rfl ?_
    refine k_nil ?_
    refine k_keep [(2, _)] ⟨rfl, trivial⟩ ?_
    refine k_ret ?_
    obtain ⟨s4, e4, st4, h4⟩ := h3.freeze
    rw [← e4]
    have szs4 := st4.size
    have hS : Step K0 s s4 := hS.comp st4 (by intro l hl hk; (try simp only [KC, KO, KU, KN, K0] at hk ⊢) <;> omega)
    obtain rfl := Option.some.inj h
    refine ⟨_, rfl, Ret.mk hS ?_⟩
    exact ⟨_, rfl, h4⟩

set_option maxHeartbeats 1000000 in
set_option maxRecDepth 100000 in
theorem net_own_w {s : St} {l0 : Lab} {v0 : Value} {a0 : ApiMessage} {r : ApiMessage} (hp0 : SL s l0 v0 1 (a0.Bytes.map bD)) (h : net_own a0 = some r) : Calls Try.prog 29 #[.agg #[.int .i64 a0.From, .int .i64 a0.To, v0]] s.w (Ret s K0 (fun s1 v => ∃ (u0 : List Value), v = .agg u0.toArray ∧ RC s1 u0 (dApiMessage r))) := by
  unfold net_own at h
  obtain ⟨lf0, lf0le, lf0ne, hp0⟩ := hp0.fix
  have hS : Step K0 s s := (Step.refl _).of0 (by first | exact fun _ h => h | (intro c h; simp [KC, KO, KU, KN] at h <;> omega))
  refine k_fn_c (rs := [.cell 2 36]) (args := [.agg #[.int .i64 a0.From, .int .i64 a0.To, v0]]) Try.func29 rfl rfl rfl rfl ?_
  refine k_seq ?_
  refine k_region ?_
  refine k_box rfl rfl ?_
  intro s1 b1 st1 h1 ge1
  have szs1 := st1.size
  have hS : Step K0 s s1 := hS.trans0 st1
  replace hp0 := hp0.up2 st1
  have lt1 := h1.lt
  refine k_alloc zero36 rfl ?_
  intro s2 b2 st2 h2 ge2
  have szs2 := st2.size
  have hS : Step K0 s s2 := hS.trans0 st2
  replace hp0 := hp0.up2 st2
  replace h1 := h1.up2 st2
  have lt2 := h2.lt
  refine k_nil ?_
  refine k_keep [(1, _), (2, _)] ⟨rfl, rfl, trivial⟩ ?_
  refine k_seq ?_
  refine k_region ?_
  refine k_field_addr fld36_2 rfl rfl ?_
  refine k_load_blk one23 rfl h1 rfl rfl ?_
  obtain ⟨x1, hx1, h⟩ := ob h
  refine k_call cal38 rfl (slices_Clone_byte_byte_w  hp0 hx1) rfl ?_
  rintro s3 v3_0 st3 ⟨_, rfl, h3_0⟩
  have szs3 := st3.size
  have hS : Step K0 s s3 := hS.trans0 st3
  replace hp0 := hp0.up2 st3
  replace h1 := h1.up2 st3
  replace h2 := h2.up2 st3
  refine k_field_addr fld36_2 rfl rfl ?_
  refine k_store_c (cs' := [.int .i64 a0.From, .int .i64 a0.To, v3_0]) size23 rfl rfl h1 (by first | (simp; done) | omega | (dsimp only; omega)) (CellsOf.sl (SL.of_R h3_0)) rfl (by first | rfl | (simp; done) | (simp; omega)) rfl ?_
  intro s4 st4 h1
  have szs4 := st4.size
  have hS : Step K0 s s4 := hS.comp st4 (by intro l hl hk; (try simp only [KC, KO, KU, KN, K0] at hk ⊢) <;> omega)
  replace hp0 := hp0.up2 st4
  replace h3_0 := h3_0.up2 st4
  replace h2 := h2.up2 st4
  refine k_nil ?_
  refine k_keep [(1, _), (2, _)] ⟨rfl, rfl, trivial⟩ ?_
  refine k_seq ?_
  refine k_region ?_
  refine k_load_blka (cs := [.int .i64 a0.From, .int .i64 a0.To, v3_0]) agg36 rfl h1 rfl ?_
  refine k_store_c (cs' := [.int .i64 a0.From, .int .i64 a0.To, v3_0]) size36 rfl rfl h2 (by first | (simp; done) | omega | (dsimp only; omega)) (CellsOf.lit (vs := [.int .i64 a0.From, .int .i64 a0.To, v3_0]) rfl (ones.cons rfl (ones.cons rfl (ones.cons ((SL.of_R h3_0)).one1 ones.nil)))) rfl (by first | rfl | (simp; done) | (simp; omega)) rfl ?_
  intro s5 st5 h2
  have szs5 := st5.size
  have hS : Step K0 s s5 := hS.comp st5 (by intro l hl hk; (try simp only [KC, KO, KU, KN, K0] at hk ⊢) <;> omega)
  replace h3_0 := h3_0.up2 st5
  replace h1 := h1.up2 st5
  refine k_nil ?_
  refine k_keep [(2, _)] ⟨rfl, trivial⟩ ?_
  refine k_ret ?_
  obtain rfl := Option.some.inj h
  refine ⟨[.agg [.int .i64 a0.From, .int .i64 a0.To, v3_0].toArray], ⟨res_blk (cs := [.int .i64 a0.From, .int .i64 a0.To, v3_0]) rfl agg36 h2, trivial⟩, Ret.mk hS ?_⟩
  exact ⟨_, rfl, (clsApiMessage (⟨a0.From, a0.To, x1⟩ : ApiMessage) h3_0)⟩

set_option maxHeartbeats 1000000 in
set_option maxRecDepth 100000 in
theorem net_Net_put_w {s : St} {k0 : Nat} {p0 : Value} {a0 : NetNet} {l1 : Lab} {v1 : Value} {a1 : ApiMessage} {r : (UInt64 × Int × NetNet)} (ho0 : ONetNet s k0 p0 a0) (hp1 : SL s l1 v1 1 (a1.Bytes.map bD)) (hl1_k0 : l1.o ≠ k0) (h : net_Net_put a0 a1 = some r) : Calls Try.prog 24 #[p0, .agg #[.int .i64 a1.From, .int .i64 a1.To, v1]] s.w (Ret s (KO k0) (fun s1 v => v = .tuple #[.int .u64 (r.1.toNat : Int), .int .i64 r.2.1] ∧ ONetNet s1 k0 p0 r.2.2)) := by
  unfold net_Net_put at h
  have le0 := ho0.le
  have ne0 := ho0.ne
  obtain ⟨bo0, rfl⟩ := ho0.ptr
  obtain ⟨wo0_0, hb_o0, hwo0_0, hwo0_1⟩ := ho0.at_
  obtain ⟨lf1, lf1le, lf1ne, hp1⟩ := hp1.fix
  have lfn1_k0 := lf1ne k0 hl1_k0 (by omega)
  have hS : Step (KO k0) s s := (Step.refl _).of0 (by first | exact fun _ h => h | (intro c h; simp [KC, KO, KU, KN] at h <;> omega))
  refine k_fn (rs := [4, 5]) (args := [.pointer (some ⟨bo0, 0, none⟩), .agg #[.int .i64 a1.From, .int .i64 a1.To, v1]]) Try.func24 rfl rfl rfl rfl ?_
  refine k_seq ?_
  refine k_region ?_
  refine k_box rfl rfl ?_
  intro s1 b1 st1 h1 ge1
  have szs1 := st1.size
  have hS : Step (KO k0) s s1 := hS.trans0 st1
  replace hp1 := hp1.up2 st1
  replace hwo0_0 := hwo0_0.up2 st1
  replace hb_o0 := hb_o0.up2 st1
  have lt1 := h1.lt
  refine k_assign rfl rfl ?_
  refine k_assign rfl rfl ?_
  refine k_nil ?_
  refine k_keep [(0, _), (3, _), (4, _), (5, _)] ⟨rfl, rfl, rfl, rfl, trivial⟩ ?_
  refine k_seq ?_
  refine k_seq ?_
  refine k_region ?_
  refine k_move rfl rfl ?_
  refine k_load_blka (cs := [.int .i64 a1.From, .int .i64 a1.To, v1]) agg36 rfl h1 rfl ?_
  obtain ⟨x1, hx1, h⟩ := ob h
  refine k_call cal25 rfl (net_room_w (b := bo0) (m := a1) hx1) rfl ?_
  rintro s2 _ st2 rfl
  have szs2 := st2.size
  have hS : Step (KO k0) s s2 := hS.trans0 st2
  replace hp1 := hp1.up2 st2
  replace hwo0_0 := hwo0_0.up2 st2
  replace hb_o0 := hb_o0.up2 st2
  replace h1 := h1.up2 st2
  refine k_nilCheck rfl rfl ?_
  obtain ⟨x2, hx2, h⟩ := ob h
  refine k_load_arr (pre := [.int .i64 a0.replicas, .int .u64 (a0.last.toNat : Int), wo0_0]) (xs := a0.between) 3 one3 rfl hb_o0 rfl hx2 rfl ?_
  refine k_geq rfl rfl rfl ?_
  refine k_nil ?_
  refine k_keep [(0, _), (3, _), (4, _), (5, _), (11, _)] ⟨rfl, rfl, rfl, rfl, rfl, trivial⟩ ?_
  refine k_cond_dec rfl (fun c3 => ?_) (fun c3 => ?_)
  · -- T
    have h := itT h c3
    refine k_seq ?_
    refine k_region ?_
    refine k_assign rfl rfl ?_
    refine k_assign rfl rfl ?_
    refine k_nil ?_
    refine k_keep [(0, _), (3, _), (4, _), (5, _)] ⟨rfl, rfl, rfl, rfl, trivial⟩ ?_
    refine k_ret ?_
    obtain rfl := Option.some.inj h
    refine ⟨_, rfl, Ret.mk hS ?_⟩
    exact ⟨rfl, (ONetNet.mk_ a0 (by omega) hwo0_0 hwo0_1 hb_o0)⟩
  · -- F
    have h := itF h c3
    refine k_skip ?_
    refine k_seq ?_
    refine k_region ?_
    refine k_move rfl rfl ?_
    refine k_load_blka (cs := [.int .i64 a1.From, .int .i64 a1.To, v1]) agg36 rfl h1 rfl ?_
    obtain ⟨x3, hx3, h⟩ := ob h
    refine k_call cal25 rfl (net_room_w (b := bo0) (m := a1) hx3) rfl ?_
    rintro s4 _ st4 rfl
    have szs4 := st4.size
    have hS : Step (KO k0) s s4 := hS.trans0 st4
    replace hp1 := hp1.up2 st4
    replace hwo0_0 := hwo0_0.up2 st4
    replace hb_o0 := hb_o0.up2 st4
    replace h1 := h1.up2 st4
    refine k_nilCheck rfl rfl ?_
    obtain ⟨x4, hx4, h⟩ := ob h
    refine k_load_arr (pre := [.int .i64 a0.replicas, .int .u64 (a0.last.toNat : Int), wo0_0]) (xs := a0.between) 3 one3 rfl hb_o0 rfl hx4 rfl ?_
    refine k_add rfl rfl rfl ?_
    refine k_nilCheck rfl rfl ?_
    obtain ⟨x5, hx5, h⟩ := ob h
    refine k_store_arr (pre := [.int .i64 a0.replicas, .int .u64 (a0.last.toNat : Int), wo0_0]) (xs := a0.between) 3 size3 rfl rfl hb_o0 (by first | (simp; done) | omega | (dsimp only; omega)) rfl hx5 ?_
    intro s5 st5 hb_o0
    have hl5 : (a0.between.set ((x3 : Int) - ((3 : Nat) : Int)).toNat (i64 (x4 + 1))).length = 16 := by rw [List.length_set]; exact hwo0_1
    have szs5 := st5.size
    have hS : Step (KO k0) s s5 := hS.comp st5 (by intro l hl hk; (try simp only [KC, KO, KU, KN, K0] at hk ⊢) <;> omega)
    replace hp1 := hp1.up2 st5
    replace hwo0_0 := hwo0_0.up2 st5
    replace h1 := h1.up2 st5
    refine k_nil ?_
    refine k_keep [(0, _), (3, _), (4, _), (5, _)] ⟨rfl, rfl, rfl, rfl, trivial⟩ ?_
    refine k_seq ?_
    refine k_region ?_
    refine k_move rfl rfl ?_
    refine k_nilCheck rfl rfl ?_
    refine k_field_addr fld64_1 rfl rfl ?_
    refine k_load_blk one30 rfl hb_o0 rfl rfl ?_
    refine k_add rfl rfl rfl ?_
    refine k_as (congrArg (Value.int .u64) (w64 _)) ?_
    refine k_nilCheck rfl rfl ?_
    refine k_field_addr fld64_1 rfl rfl ?_
    refine k_store_c (cs' := (([.int .i64 a0.replicas, .int .u64 ((ofI64 ((a0.last.toNat : Int) + 1)).toNat : Int), wo0_0] : List Value) ++ (a0.between.set ((x3 : Int) - ((3 : Nat) : Int)).toNat (i64 (x4 + 1))).map cI)) size30 rfl rfl hb_o0 (by first | (simp; done) | omega | (dsimp only; omega)) (CellsOf.lit rfl rfl) rfl (by first | rfl | (simp; done) | (simp; omega)) rfl ?_
    intro s6 st6 hb_o0
    have szs6 := st6.size
    have hS : Step (KO k0) s s6 := hS.comp st6 (by intro l hl hk; (try simp only [KC, KO, KU, KN, K0] at hk ⊢) <;> omega)
    replace hwo0_0 := hwo0_0.up2 st6
    replace hp1 := hp1.up2 st6
    replace h1 := h1.up2 st6
    refine k_nil ?_
    refine k_keep [(0, _), (3, _), (4, _), (5, _)] ⟨rfl, rfl, rfl, rfl, trivial⟩ ?_
    refine k_seq ?_
    refine k_drawT (KN s6.n) 10 (.read 0 (.read 1 (.read 2 (.read 3 (.read 4 (.read 5 (.read 6 (.read 7 (.read 8 (.alt 9 .fin .no)))))))))) mixed (by intro c h; (try simp only [KC, KO, KU, KN] at h) <;> omega) rfl rfl rfl ?_
    intro s7 st7
    have szs7 := st7.size
    have hS : Step (KO k0) s s7 := hS.trans0 st7
    replace hwo0_0 := hwo0_0.up2 st7
    replace hb_o0 := hb_o0.up2 st7
    replace hp1 := hp1.up2 st7
    replace h1 := h1.up2 st7
    refine rt_read (.pointer (some ⟨bo0, 0, none⟩)) rfl rfl (fun s8 st8 => ?_) ?_
    · try replace hwo0_0 := hwo0_0.up2 st8
      try replace hb_o0 := hb_o0.up2 st8
      try replace hp1 := hp1.up2 st8
      try replace h1 := h1.up2 st8
      refine k_move rfl rfl ?_
      exact fq_end
    refine rt_read (.pointer (some ⟨bo0, 0, none⟩)) rfl rfl (fun s9 st9 => ?_) ?_
    · try replace hwo0_0 := hwo0_0.up2 st9
      try replace hb_o0 := hb_o0.up2 st9
      try replace hp1 := hp1.up2 st9
      try replace h1 := h1.up2 st9
      refine k_nilCheck rfl rfl ?_
      exact fq_end
    refine rt_read (.pointer (some ⟨bo0, 2, none⟩)) rfl rfl (fun s10 st10 => ?_) ?_
    · try replace hwo0_0 := hwo0_0.up2 st10
      try replace hb_o0 := hb_o0.up2 st10
      try replace hp1 := hp1.up2 st10
      try replace h1 := h1.up2 st10
      refine k_field_addr fld64_2 rfl rfl ?_
      exact fq_end
    refine rt_read (wo0_0) rfl rfl (fun s11 st11 => ?_) ?_
    · try replace hwo0_0 := hwo0_0.up2 st11
      try replace hb_o0 := hb_o0.up2 st11
      try replace hp1 := hp1.up2 st11
      try replace h1 := h1.up2 st11
      refine k_load_blk one60 rfl hb_o0 rfl rfl ?_
      exact fq_end
    refine rt_read (.pointer (some ⟨bo0, 0, none⟩)) rfl rfl (fun s12 st12 => ?_) ?_
    · try replace hwo0_0 := hwo0_0.up2 st12
      try replace hb_o0 := hb_o0.up2 st12
      try replace hp1 := hp1.up2 st12
      try replace h1 := h1.up2 st12
      refine k_move rfl rfl ?_
      exact fq_end
    refine rt_read (.pointer (some ⟨bo0, 0, none⟩)) rfl rfl (fun s13 st13 => ?_) ?_
    · try replace hwo0_0 := hwo0_0.up2 st13
      try replace hb_o0 := hb_o0.up2 st13
      try replace hp1 := hp1.up2 st13
      try replace h1 := h1.up2 st13
      refine k_nilCheck rfl rfl ?_
      exact fq_end
    refine rt_read (.pointer (some ⟨bo0, 1, none⟩)) rfl rfl (fun s14 st14 => ?_) ?_
    · try replace hwo0_0 := hwo0_0.up2 st14
      try replace hb_o0 := hb_o0.up2 st14
      try replace hp1 := hp1.up2 st14
      try replace h1 := h1.up2 st14
      refine k_field_addr fld64_1 rfl rfl ?_
      exact fq_end
    refine rt_read (.int .u64 ((ofI64 ((a0.last.toNat : Int) + 1)).toNat : Int)) rfl rfl (fun s15 st15 => ?_) ?_
    · try replace hwo0_0 := hwo0_0.up2 st15
      try replace hb_o0 := hb_o0.up2 st15
      try replace hp1 := hp1.up2 st15
      try replace h1 := h1.up2 st15
      refine k_load_blk one30 rfl hb_o0 rfl rfl ?_
      exact fq_end
    refine rt_read (.agg #[.int .i64 a1.From, .int .i64 a1.To, v1]) rfl rfl (fun s16 st16 => ?_) ?_
    · try replace hwo0_0 := hwo0_0.up2 st16
      try replace hb_o0 := hb_o0.up2 st16
      try replace hp1 := hp1.up2 st16
      try replace h1 := h1.up2 st16
      refine k_load_blka (cs := [.int .i64 a1.From, .int .i64 a1.To, v1]) agg36 rfl h1 rfl ?_
      exact fq_end
    refine rt_act rfl rfl ?_
    have hA17 : Step (KN s6.n) s7 s7 := (Step.refl _).of0 (by first | exact fun _ h => h | (intro c h; simp [KC, KO, KU, KN] at h <;> omega))
    obtain ⟨x6, hx6, h⟩ := ob h
    refine k_call cal29 rfl (net_own_w (a0 := a1) hp1 hx6) rfl ?_
    rintro s18 vr18 st18 ⟨cs18_0, rfl, h18_0⟩
    have szs18 := st18.size
    have hS : Step (KO k0) s s18 := hS.trans0 st18
    have hA17 : Step (KN s6.n) s7 s18 := hA17.trans0 st18
    replace hwo0_0 := hwo0_0.up2 st18
    replace hp1 := hp1.up2 st18
    replace hb_o0 := hb_o0.up2 st18
    replace h1 := h1.up2 st18
    obtain ⟨q18_0_0, rfl, hq18_0_0⟩ := opnApiMessage h18_0
    refine rt_cont hA17 ?_
    refine rt_fin ?_
    obtain ⟨x7, hx7, h⟩ := ob h
    by_cases c19 : (mget (ofI64 ((a0.last.toNat : Int) + 1)) x7).isNone = true
    case neg => exact (noneNe (itF h c19)).elim
    replace h := itT h c19
    refine k_mapUpdate (f := dApiMessage) (y' := x6) mapT60 rfl rfl rfl (by rw [← hx7]; exact hwo0_0) (Option.isNone_iff_eq_none.1 c19) ⟨_, rfl, (clsApiMessage x6 hq18_0_0)⟩ ?_
    intro s20 st20 h20
    have szs20 := st20.size
    have hS : Step (KO k0) s s20 := hS.comp st20 (by intro l hl hk; (try simp only [KC, KO, KU, KN, K0] at hk ⊢) <;> omega)
    replace hp1 := hp1.up2 st20
    replace hq18_0_0 := hq18_0_0.up2 st20
    replace hb_o0 := hb_o0.up2 st20
    replace h1 := h1.up2 st20
    refine k_nil ?_
    refine k_keep [(0, _), (4, _), (5, _)] ⟨rfl, rfl, rfl, trivial⟩ ?_
    refine k_seq ?_
    refine k_region ?_
    refine k_move rfl rfl ?_
    refine k_nilCheck rfl rfl ?_
    refine k_field_addr fld64_1 rfl rfl ?_
    refine k_load_blk one30 rfl hb_o0 rfl rfl ?_
    refine k_assign rfl rfl ?_
    refine k_assign rfl rfl ?_
    refine k_nil ?_
    refine k_keep [(4, _), (5, _)] ⟨rfl, rfl, trivial⟩ ?_
    refine k_ret ?_
    obtain rfl := Option.some.inj h
    refine ⟨_, rfl, Ret.mk hS ?_⟩
    exact ⟨rfl, (ONetNet.mk_ (⟨a0.replicas, ofI64 ((a0.last.toNat : Int) + 1), some (x7 ++ [(ofI64 ((a0.last.toNat : Int) + 1), x6)]), (a0.between.set ((x3 : Int) - ((3 : Nat) : Int)).toNat (i64 (x4 + 1)))⟩ : NetNet) (by omega) h20 hl5 hb_o0)⟩

set_option maxHeartbeats 1000000 in
set_option maxRecDepth 100000 in
theorem net_Net_Send_w {s : St} {k0 : Nat} {p0 : Value} {a0 : NetNet} {a1 : Int} {a2 : Int} {l3 : Lab} {v3 : Value} {a3 : (List UInt8)} {r : (UInt64 × Int × NetNet)} (ho0 : ONetNet s k0 p0 a0) (hp3 : SL s l3 v3 1 (a3.map bD)) (hl3_k0 : l3.o ≠ k0) (h : net_Net_Send a0 a1 a2 a3 = some r) : Calls Try.prog 11 #[p0, .int .i64 a1, .int .i64 a2, v3] s.w (Ret s (KO k0) (fun s1 v => v = .tuple #[.int .u64 (r.1.toNat : Int), .int .i64 r.2.1] ∧ ONetNet s1 k0 p0 r.2.2)) := by
  unfold net_Net_Send at h
  have le0 := ho0.le
  have ne0 := ho0.ne
  obtain ⟨lf3, lf3le, lf3ne, hp3⟩ := hp3.fix
  have lfn3_k0 := lf3ne k0 hl3_k0 (by omega)
  have hS : Step (KO k0) s s := (Step.refl _).of0 (by first | exact fun _ h => h | (intro c h; simp [KC, KO, KU, KN] at h <;> omega))
  refine k_fn (rs := [8, 9]) (args := [p0, .int .i64 a1, .int .i64 a2, v3]) Try.func11 rfl rfl rfl rfl ?_
  refine k_seq ?_
  refine k_region ?_
  refine k_assign rfl rfl ?_
  refine k_assign rfl rfl ?_
  refine k_nil ?_
  refine k_seq ?_
  refine k_seq ?_
  refine k_region ?_
  refine k_move rfl rfl ?_
  refine k_move rfl rfl ?_
  refine k_min2 rfl rfl rfl ?_
  refine k_move rfl rfl ?_
  refine k_move rfl rfl ?_
  refine k_max2 rfl rfl rfl ?_
  refine k_assign rfl rfl ?_
  refine k_assign rfl rfl ?_
  refine k_nil ?_
  refine k_keep [(0, _), (1, _), (2, _), (3, _), (8, _), (9, _), (10, _), (11, _)] ⟨rfl, rfl, rfl, rfl, rfl, rfl, rfl, rfl, trivial⟩ ?_
  refine k_seq ?_
  refine k_region ?_
  refine k_move rfl rfl ?_
  refine k_lss rfl rfl rfl ?_
  refine k_move rfl rfl ?_
  obtain ⟨x1, hx1, h⟩ := ob h
  have hE1 : Step K0 s s := (Step.refl _).of0 (by first | exact fun _ h => h | (intro c h; simp [KC, KO, KU, KN] at h <;> omega))
  refine k_cutl (X := St) 5 [(0, p0), (1, .int .i64 a1), (2, .int .i64 a2), (3, v3), (8, .int .u64 0), (9, .int .i64 0), (10, .int .i64 (min a1 a2)), (11, .int .i64 (max a1 a2)), (18, .int .i64 (min a1 a2)), (19, .bool (decide (min a1 a2 < 1)))] (fun _ => [(25, .bool x1)]) (fun sl wL => sl.w = wL ∧ Step K0 s sl) ?_ ?_
  · -- the ways
    refine k_again 20 rfl ?_
    refine k_split (fun c2 => ?_) (fun c2 => ?_)
    · -- t20 True
      have hx1 := itT hx1 c2
      refine k_no rfl rfl rfl rfl ?_
      refine k_no rfl rfl rfl rfl ?_
      refine k_no rfl rfl rfl rfl ?_
      refine k_no rfl rfl rfl rfl ?_
      refine k_pickT rfl rfl rfl rfl ?_
      exact k_met ⟨s, ⟨(congrArg (fun b => some (Value.bool b)) (Option.some.inj hx1)), trivial⟩, ⟨rfl, rfl, rfl, rfl, rfl, rfl, rfl, rfl, rfl, rfl, trivial⟩, rfl, hE1⟩
    · -- t20 False
      have hx1 := itF hx1 c2
      refine k_yes rfl rfl ?_
      refine k_move rfl rfl ?_
      refine k_yes rfl rfl ?_
      refine k_move rfl rfl ?_
      refine k_yes rfl rfl ?_
      obtain ⟨x2, hx2, hx1⟩ := ob hx1
      refine k_call cal23 rfl (net_Net_Replicas_w  ho0 hx2) rfl ?_
      rintro s3 vr3 st3 rfl
      have szs3 := st3.size
      have hS : Step (KO k0) s s3 := hS.trans0 st3
      have hE1 : Step K0 s s3 := hE1.trans0 st3
      replace hp3 := hp3.up2 st3
      replace ho0 := ho0.up2 st3
      refine k_yes rfl rfl ?_
      refine k_gtr rfl rfl rfl ?_
      refine k_pickF rfl rfl rfl rfl ?_
      exact k_met ⟨s3, ⟨(congrArg (fun b => some (Value.bool b)) (Option.some.inj hx1)), trivial⟩, ⟨rfl, rfl, rfl, rfl, rfl, rfl, rfl, rfl, rfl, rfl, trivial⟩, rfl, hE1⟩
  · -- behind
    rintro s4 wL ⟨rfl, hE1⟩
    have szs4 := hE1.size
    have hS : Step (KO k0) s s4 := hS.trans0 hE1
    replace hp3 := hp3.up2 hE1
    replace ho0 := ho0.up2 hE1
    refine k_move rfl rfl ?_
    have hE5 : Step K0 s4 s4 := (Step.refl _).of0 (by first | exact fun _ h => h | (intro c h; simp [KC, KO, KU, KN] at h <;> omega))
    refine k_cutl (X := St) 4 [(0, p0), (1, .int .i64 a1), (2, .int .i64 a2), (3, v3), (8, .int .u64 0), (9, .int .i64 0), (10, .int .i64 (min a1 a2)), (11, .int .i64 (max a1 a2)), (18, .int .i64 (min a1 a2)), (19, .bool (decide (min a1 a2 < 1))), (25, .bool x1)] (fun _ => [(30, .bool (decide ((x1 = true) ∨ (a1 = a2))))]) (fun sl wL => sl.w = wL ∧ Step K0 s4 sl) ?_ ?_
    · -- the ways
      refine k_again 26 rfl ?_
      refine k_splitb (fun c6 => ?_) (fun c6 => ?_)
      · -- t26 True
        refine k_no rfl rfl rfl rfl ?_
        refine k_no rfl rfl rfl rfl ?_
        refine k_no rfl rfl rfl rfl ?_
        refine k_pickT rfl rfl rfl rfl ?_
        exact k_met ⟨s4, ⟨(congrArg (fun b => some (Value.bool b)) (by first | exact decide_eq_decide.2 ⟨Or.inr, fun h => h.resolve_left c6⟩ | exact (decide_eq_true (Or.inl c6)).symm | (simp [c6]; done) | (simp [c6, i64] <;> omega))), trivial⟩, ⟨rfl, rfl, rfl, rfl, rfl, rfl, rfl, rfl, rfl, rfl, rfl, trivial⟩, rfl, hE5⟩
      · -- t26 False
        refine k_yes rfl rfl ?_
        refine k_move rfl rfl ?_
        refine k_yes rfl rfl ?_
        refine k_move rfl rfl ?_
        refine k_yes rfl rfl ?_
        refine k_eql rfl rfl rfl ?_
        refine k_pickF rfl rfl rfl rfl ?_
        exact k_met ⟨s4, ⟨(congrArg (fun b => some (Value.bool b)) (by first | exact decide_eq_decide.2 ⟨Or.inr, fun h => h.resolve_left c6⟩ | exact (decide_eq_true (Or.inl c6)).symm | (simp [c6]; done) | (simp [c6, i64] <;> omega))), trivial⟩, ⟨rfl, rfl, rfl, rfl, rfl, rfl, rfl, rfl, rfl, rfl, rfl, trivial⟩, rfl, hE5⟩
    · -- behind
      rintro s7 wL ⟨rfl, hE5⟩
      have szs7 := hE5.size
      have hS : Step (KO k0) s s7 := hS.trans0 hE5
      replace hp3 := hp3.up2 hE5
      replace ho0 := ho0.up2 hE5
      refine k_nil ?_
      refine k_keep [(0, _), (1, _), (2, _), (3, _), (8, _), (9, _), (30, _)] ⟨rfl, rfl, rfl, rfl, rfl, rfl, rfl, trivial⟩ ?_
      refine k_cond_dec rfl (fun c8 => ?_) (fun c8 => ?_)
      · -- T
        have h := itT h c8
        refine k_seq ?_
        refine k_region ?_
        refine k_assign rfl rfl ?_
        refine k_assign rfl rfl ?_
        refine k_nil ?_
        refine k_keep [(0, _), (1, _), (2, _), (3, _), (8, _), (9, _)] ⟨rfl, rfl, rfl, rfl, rfl, rfl, trivial⟩ ?_
        refine k_ret ?_
        obtain rfl := Option.some.inj h
        refine ⟨_, rfl, Ret.mk hS ?_⟩
        exact ⟨rfl, ho0⟩
      · -- F
        have h := itF h c8
        refine k_skip ?_
        refine k_seq ?_
        refine k_seq ?_
        refine k_region ?_
        refine k_move rfl rfl ?_
        refine k_len Try.underlying23 rfl hp3.hasLen rfl ?_
        refine k_as (v := .int .i64 (a3.length : Int)) (by simp only [List.length_map]) ?_
        refine k_gtr rfl rfl rfl ?_
        refine k_nil ?_
        refine k_keep [(0, _), (1, _), (2, _), (3, _), (8, _), (9, _), (33, _)] ⟨rfl, rfl, rfl, rfl, rfl, rfl, rfl, trivial⟩ ?_
        refine k_cond_dec rfl (fun c9 => ?_) (fun c9 => ?_)
        · -- T
          have h := itT h c9
          refine k_seq ?_
          refine k_region ?_
          refine k_assign rfl rfl ?_
          refine k_assign rfl rfl ?_
          refine k_nil ?_
          refine k_keep [(0, _), (1, _), (2, _), (3, _), (8, _), (9, _)] ⟨rfl, rfl, rfl, rfl, rfl, rfl, trivial⟩ ?_
          refine k_ret ?_
          obtain rfl := Option.some.inj h
          refine ⟨_, rfl, Ret.mk hS ?_⟩
          exact ⟨rfl, ho0⟩
        · -- F
          have h := itF h c9
          refine k_skip ?_
          refine k_seq ?_
          refine k_region ?_
          refine k_move rfl rfl ?_
          refine k_move rfl rfl ?_
          refine k_move rfl rfl ?_
          refine k_move rfl rfl ?_
          refine k_build plc36 zero36 rfl (Parts.cons (CellsOf.lit rfl rfl).1 (Parts.cons (CellsOf.lit rfl rfl).1 (Parts.cons (CellsOf.sl hp3).1 Parts.nil))) (by rfl) rfl ?_
          refine k_as (v := .agg #[.int .i64 a1, .int .i64 a2, v3]) rfl ?_
          obtain ⟨x3, hx3, h⟩ := ob h
          refine k_call cal24 rfl (net_Net_put_w (a1 := (⟨a1, a2, a3⟩ : ApiMessage)) ho0 hp3 (by first | assumption | omega | (simp <;> omega)) hx3) rfl ?_
          rintro s10 vr10 st10 ⟨rfl, ho0⟩
          have szs10 := st10.size
          have hS : Step (KO k0) s s10 := hS.comp st10 (by intro l hl hk; (try simp only [KC, KO, KU, KN, K0] at hk ⊢) <;> omega)
          replace hp3 := hp3.up2 st10
          refine k_extract rfl rfl rfl ?_
          refine k_extract rfl rfl rfl ?_
          refine k_assign rfl rfl ?_
          refine k_assign rfl rfl ?_
          refine k_nil ?_
          refine k_keep [(8, _), (9, _)] ⟨rfl, rfl, trivial⟩ ?_
          refine k_ret ?_
          obtain rfl := Option.some.inj h
          refine ⟨_, rfl, Ret.mk hS ?_⟩
          exact ⟨rfl, ho0⟩

set_option maxHeartbeats 1000000 in
set_option maxRecDepth 100000 in
theorem net_Net_At_w {s : St} {k0 : Nat} {p0 : Value} {a0 : NetNet} {a1 : UInt64} {r : (ApiMessage × Int)} (ho0 : ONetNet s k0 p0 a0) (h : net_Net_At a0 a1 = some r) : Calls Try.prog 16 #[p0, .int .u64 (a1.toNat : Int)] s.w (Ret s K0 (fun s1 v => ∃ (u0 : List Value), v = .tuple #[.agg u0.toArray, .int .i64 r.2] ∧ RC s1 u0 (dApiMessage r.1))) := by
  unfold net_Net_At at h
  have le0 := ho0.le
  have ne0 := ho0.ne
  obtain ⟨bo0, rfl⟩ := ho0.ptr
  obtain ⟨wo0_0, hb_o0, hwo0_0, hwo0_1⟩ := ho0.at_
  have hS : Step K0 s s := (Step.refl _).of0 (by first | exact fun _ h => h | (intro c h; simp [KC, KO, KU, KN] at h <;> omega))
  refine k_fn_c (rs := [.cell 4 36, .tmp 5]) (args := [.pointer (some ⟨bo0, 0, none⟩), .int .u64 (a1.toNat : Int)]) Try.func16 rfl rfl rfl rfl ?_
  refine k_seq ?_
  refine k_region ?_
  refine k_alloc zero36 rfl ?_
  intro s1 b1 st1 h1 ge1
  have szs1 := st1.size
  have hS : Step K0 s s1 := hS.trans0 st1
  replace hwo0_0 := hwo0_0.up2 st1
  replace hb_o0 := hb_o0.up2 st1
  have lt1 := h1.lt
  refine k_assign rfl rfl ?_
  refine k_nil ?_
  refine k_seq ?_
  refine k_seq ?_
  refine k_region ?_
  refine k_move rfl rfl ?_
  obtain ⟨x1, hx1, h⟩ := ob h
  refine k_call cal26 rfl (net_Net_none_w  (ONetNet.mk_ a0 (by omega) hwo0_0 hwo0_1 hb_o0) hx1) rfl ?_
  rintro s2 vr2 st2 rfl
  have szs2 := st2.size
  have hS : Step K0 s s2 := hS.trans0 st2
  replace hwo0_0 := hwo0_0.up2 st2
  replace hb_o0 := hb_o0.up2 st2
  replace h1 := h1.up2 st2
  refine k_nil ?_
  refine k_keep [(0, _), (1, _), (4, _), (5, _), (9, _)] ⟨rfl, rfl, rfl, rfl, rfl, trivial⟩ ?_
  refine k_cond rfl (fun c3 => ?_) (fun c3 => ?_)
  · -- T
    have h := ibT h c3
    refine k_seq ?_
    refine k_region ?_
    refine k_build plc36 zero36 rfl Parts.nil (by rfl) rfl ?_
    refine k_as (v := .agg #[.int .i64 0, .int .i64 0, .slice none 0 0]) rfl ?_
    refine k_store_c (cs' := [.int .i64 0, .int .i64 0, .slice none 0 0]) size36 rfl rfl h1 (by first | (simp; done) | omega | (dsimp only; omega)) (CellsOf.lit rfl rfl) rfl (by first | rfl | (simp; done) | (simp; omega)) rfl ?_
    intro s4 st4 h1
    have szs4 := st4.size
    have hS : Step K0 s s4 := hS.comp st4 (by intro l hl hk; (try simp only [KC, KO, KU, KN, K0] at hk ⊢) <;> omega)
    replace hwo0_0 := hwo0_0.up2 st4
    replace hb_o0 := hb_o0.up2 st4
    refine k_assign rfl rfl ?_
    refine k_nil ?_
    refine k_keep [(0, _), (1, _), (4, _), (5, _)] ⟨rfl, rfl, rfl, rfl, trivial⟩ ?_
    refine k_ret ?_
    obtain rfl := Option.some.inj h
    refine ⟨[.agg [.int .i64 0, .int .i64 0, .slice none 0 0].toArray, .int .i64 4], ⟨res_blk (cs := [.int .i64 0, .int .i64 0, .slice none 0 0]) rfl agg36 h1, rfl, trivial⟩, Ret.mk hS ?_⟩
    exact ⟨_, rfl, (clsApiMessage (⟨0, 0, []⟩ : ApiMessage) (R.of_SL (.inl ⟨rfl, none, 0, rfl, fun _ => rfl⟩)))⟩
  · -- F
    have h := ibF h c3
    refine k_skip ?_
    refine k_seq ?_
    refine k_region ?_
    refine k_move rfl rfl ?_
    refine k_nilCheck rfl rfl ?_
    refine k_field_addr fld64_2 rfl rfl ?_
    refine k_load_blk one60 rfl hb_o0 rfl rfl ?_
    refine k_move rfl rfl ?_
    obtain ⟨x2, hx2, h⟩ := ob h
    refine k_lookup (f := dApiMessage) (df := (⟨0, 0, []⟩ : ApiMessage)) mapT60 zero36 ⟨_, rfl, (clsApiMessage (⟨0, 0, []⟩ : ApiMessage) (R.of_SL (.inl ⟨rfl, none, 0, rfl, fun _ => rfl⟩)))⟩ rfl rfl (by rw [← hx2]; exact hwo0_0) rfl ?_
    intro v5 h5
    obtain ⟨cs5, rfl, h5⟩ := h5
    have h5 : RC _ cs5.toList _ := h5
    obtain ⟨cs5⟩ := cs5
    dsimp only at h5
    obtain ⟨q5_0, rfl, hq5_0⟩ := opnApiMessage h5
    refine k_move rfl rfl ?_
    refine k_extract rfl rfl rfl ?_
    refine k_extract rfl rfl rfl ?_
    refine k_alloc zero36 rfl ?_
    intro s6 b6 st6 h6 ge6
    have szs6 := st6.size
    have hS : Step K0 s s6 := hS.trans0 st6
    replace hwo0_0 := hwo0_0.up2 st6
    replace hq5_0 := hq5_0.up2 st6
    replace hb_o0 := hb_o0.up2 st6
    replace h1 := h1.up2 st6
    have lt6 := h6.lt
    refine k_store_c (cs' := [.int .i64 (((mget a1 x2).getD (⟨0, 0, []⟩ : ApiMessage)).From), .int .i64 (((mget a1 x2).getD (⟨0, 0, []⟩ : ApiMessage)).To), q5_0]) size36 rfl rfl h6 (by first | (simp; done) | omega | (dsimp only; omega)) (CellsOf.lit (vs := [.int .i64 (((mget a1 x2).getD (⟨0, 0, []⟩ : ApiMessage)).From), .int .i64 (((mget a1 x2).getD (⟨0, 0, []⟩ : ApiMessage)).To), q5_0]) rfl (ones.cons rfl (ones.cons rfl (ones.cons ((SL.of_R hq5_0)).one1 ones.nil)))) rfl (by first | rfl | (simp; done) | (simp; omega)) rfl ?_
    intro s7 st7 h6
    have szs7 := st7.size
    have hS : Step K0 s s7 := hS.comp st7 (by intro l hl hk; (try simp only [KC, KO, KU, KN, K0] at hk ⊢) <;> omega)
    replace hwo0_0 := hwo0_0.up2 st7
    replace hq5_0 := hq5_0.up2 st7
    replace hb_o0 := hb_o0.up2 st7
    replace h1 := h1.up2 st7
    refine k_assign rfl rfl ?_
    refine k_nil ?_
    refine k_keep [(4, _), (5, _), (6, _), (7, _)] ⟨rfl, rfl, rfl, rfl, trivial⟩ ?_
    refine k_seq ?_
    refine k_seq ?_
    refine k_region ?_
    refine k_move rfl rfl ?_
    refine k_not rfl rfl ?_
    refine k_nil ?_
    refine k_keep [(4, _), (5, _), (6, _), (21, _)] ⟨rfl, rfl, rfl, rfl, trivial⟩ ?_
    refine k_cond rfl (fun c8 => ?_) (fun c8 => ?_)
    · -- T
      have h := ibT h c8
      refine k_seq ?_
      refine k_region ?_
      refine k_build plc36 zero36 rfl Parts.nil (by rfl) rfl ?_
      refine k_as (v := .agg #[.int .i64 0, .int .i64 0, .slice none 0 0]) rfl ?_
      refine k_store_c (cs' := [.int .i64 0, .int .i64 0, .slice none 0 0]) size36 rfl rfl h1 (by first | (simp; done) | omega | (dsimp only; omega)) (CellsOf.lit rfl rfl) rfl (by first | rfl | (simp; done) | (simp; omega)) rfl ?_
      intro s9 st9 h1
      have szs9 := st9.size
      have hS : Step K0 s s9 := hS.comp st9 (by intro l hl hk; (try simp only [KC, KO, KU, KN, K0] at hk ⊢) <;> omega)
      replace hwo0_0 := hwo0_0.up2 st9
      replace hb_o0 := hb_o0.up2 st9
      replace hq5_0 := hq5_0.up2 st9
      replace h6 := h6.up2 st9
      refine k_assign rfl rfl ?_
      refine k_nil ?_
      refine k_keep [(4, _), (5, _), (6, _)] ⟨rfl, rfl, rfl, trivial⟩ ?_
      refine k_ret ?_
      obtain rfl := Option.some.inj h
      refine ⟨[.agg [.int .i64 0, .int .i64 0, .slice none 0 0].toArray, .int .i64 4], ⟨res_blk (cs := [.int .i64 0, .int .i64 0, .slice none 0 0]) rfl agg36 h1, rfl, trivial⟩, Ret.mk hS ?_⟩
      exact ⟨_, rfl, (clsApiMessage (⟨0, 0, []⟩ : ApiMessage) (R.of_SL (.inl ⟨rfl, none, 0, rfl, fun _ => rfl⟩)))⟩
    · -- F
      have h := ibF h c8
      refine k_skip ?_
      refine k_seq ?_
      refine k_region ?_
      refine k_load_blka (cs := [.int .i64 (((mget a1 x2).getD (⟨0, 0, []⟩ : ApiMessage)).From), .int .i64 (((mget a1 x2).getD (⟨0, 0, []⟩ : ApiMessage)).To), q5_0]) agg36 rfl h6 rfl ?_
      obtain ⟨x3, hx3, h⟩ := ob h
      refine k_call cal29 rfl (net_own_w (a0 := ((mget a1 x2).getD (⟨0, 0, []⟩ : ApiMessage))) (SL.of_R hq5_0) hx3) rfl ?_
      rintro s10 vr10 st10 ⟨cs10_0, rfl, h10_0⟩
      have szs10 := st10.size
      have hS : Step K0 s s10 := hS.trans0 st10
      replace hq5_0 := hq5_0.up2 st10
      replace hwo0_0 := hwo0_0.up2 st10
      replace hb_o0 := hb_o0.up2 st10
      replace h1 := h1.up2 st10
      replace h6 := h6.up2 st10
      obtain ⟨q10_0_0, rfl, hq10_0_0⟩ := opnApiMessage h10_0
      refine k_store_c (cs' := [.int .i64 x3.From, .int .i64 x3.To, q10_0_0]) size36 rfl rfl h1 (by first | (simp; done) | omega | (dsimp only; omega)) (CellsOf.lit (vs := [.int .i64 x3.From, .int .i64 x3.To, q10_0_0]) rfl (ones.cons rfl (ones.cons rfl (ones.cons ((SL.of_R hq10_0_0)).one1 ones.nil)))) rfl (by first | rfl | (simp; done) | (simp; omega)) rfl ?_
      intro s11 st11 h1
      have szs11 := st11.size
      have hS : Step K0 s s11 := hS.comp st11 (by intro l hl hk; (try simp only [KC, KO, KU, KN, K0] at hk ⊢) <;> omega)
      replace hq5_0 := hq5_0.up2 st11
      replace hq10_0_0 := hq10_0_0.up2 st11
      replace hwo0_0 := hwo0_0.up2 st11
      replace hb_o0 := hb_o0.up2 st11
      replace h6 := h6.up2 st11
      refine k_assign rfl rfl ?_
      refine k_nil ?_
      refine k_keep [(4, _), (5, _)] ⟨rfl, rfl, trivial⟩ ?_
      refine k_ret ?_
      obtain rfl := Option.some.inj h
      refine ⟨[.agg [.int .i64 x3.From, .int .i64 x3.To, q10_0_0].toArray, .int .i64 0], ⟨res_blk (cs := [.int .i64 x3.From, .int .i64 x3.To, q10_0_0]) rfl agg36 h1, rfl, trivial⟩, Ret.mk hS ?_⟩
      exact ⟨_, rfl, (clsApiMessage x3 hq10_0_0)⟩

set_option maxHeartbeats 1000000 in
set_option maxRecDepth 100000 in
theorem net_Net_Double_w {s : St} {k0 : Nat} {p0 : Value} {a0 : NetNet} {a1 : UInt64} {r : (UInt64 × Int × NetNet)} (ho0 : ONetNet s k0 p0 a0) (h : net_Net_Double a0 a1 = some r) : Calls Try.prog 13 #[p0, .int .u64 (a1.toNat : Int)] s.w (Ret s (KO k0) (fun s1 v => v = .tuple #[.int .u64 (r.1.toNat : Int), .int .i64 r.2.1] ∧ ONetNet s1 k0 p0 r.2.2)) := by
  unfold net_Net_Double at h
  have le0 := ho0.le
  have ne0 := ho0.ne
  have hS : Step (KO k0) s s := (Step.refl _).of0 (by first | exact fun _ h => h | (intro c h; simp [KC, KO, KU, KN] at h <;> omega))
  refine k_fn (rs := [4, 5]) (args := [p0, .int .u64 (a1.toNat : Int)]) Try.func13 rfl rfl rfl rfl ?_
  refine k_seq ?_
  refine k_region ?_
  refine k_assign rfl rfl ?_
  refine k_assign rfl rfl ?_
  refine k_nil ?_
  refine k_seq ?_
  refine k_region ?_
  refine k_move rfl rfl ?_
  refine k_move rfl rfl ?_
  obtain ⟨x1, hx1, h⟩ := ob h
  refine k_call cal16 rfl (net_Net_At_w  ho0 hx1) rfl ?_
  rintro s1 vr1 st1 ⟨cs1_0, rfl, h1_0⟩
  have szs1 := st1.size
  have hS : Step (KO k0) s s1 := hS.trans0 st1
  replace ho0 := ho0.up2 st1
  obtain ⟨q1_0_0, rfl, hq1_0_0⟩ := opnApiMessage h1_0
  refine k_move rfl rfl ?_
  refine k_extract rfl rfl rfl ?_
  refine k_extract rfl rfl rfl ?_
  refine k_alloc zero36 rfl ?_
  intro s2 b2 st2 h2 ge2
  have szs2 := st2.size
  have hS : Step (KO k0) s s2 := hS.trans0 st2
  replace hq1_0_0 := hq1_0_0.up2 st2
  replace ho0 := ho0.up2 st2
  have lt2 := h2.lt
  refine k_store_c (cs' := [.int .i64 x1.1.From, .int .i64 x1.1.To, q1_0_0]) size36 rfl rfl h2 (by first | (simp; done) | omega | (dsimp only; omega)) (CellsOf.lit (vs := [.int .i64 x1.1.From, .int .i64 x1.1.To, q1_0_0]) rfl (ones.cons rfl (ones.cons rfl (ones.cons ((SL.of_R hq1_0_0)).one1 ones.nil)))) rfl (by first | rfl | (simp; done) | (simp; omega)) rfl ?_
  intro s3 st3 h2
  have szs3 := st3.size
  have hS : Step (KO k0) s s3 := hS.comp st3 (by intro l hl hk; (try simp only [KC, KO, KU, KN, K0] at hk ⊢) <;> omega)
  replace hq1_0_0 := hq1_0_0.up2 st3
  replace ho0 := ho0.up2 st3
  refine k_assign rfl rfl ?_
  refine k_nil ?_
  refine k_keep [(0, _), (4, _), (5, _), (6, _), (7, _)] ⟨rfl, rfl, rfl, rfl, rfl, trivial⟩ ?_
  refine k_seq ?_
  refine k_seq ?_
  refine k_region ?_
  refine k_move rfl rfl ?_
  refine k_neq rfl rfl rfl ?_
  refine k_nil ?_
  refine k_keep [(0, _), (4, _), (5, _), (6, _), (7, _), (15, _)] ⟨rfl, rfl, rfl, rfl, rfl, rfl, trivial⟩ ?_
  refine k_cond_dec rfl (fun c4 => ?_) (fun c4 => ?_)
  · -- T
    have h := itT h c4
    refine k_seq ?_
    refine k_region ?_
    refine k_move rfl rfl ?_
    refine k_assign rfl rfl ?_
    refine k_assign rfl rfl ?_
    refine k_nil ?_
    refine k_keep [(0, _), (4, _), (5, _), (6, _)] ⟨rfl, rfl, rfl, rfl, trivial⟩ ?_
    refine k_ret ?_
    obtain rfl := Option.some.inj h
    refine ⟨_, rfl, Ret.mk hS ?_⟩
    exact ⟨rfl, ho0⟩
  · -- F
    have h := itF h c4
    refine k_skip ?_
    refine k_seq ?_
    refine k_region ?_
    refine k_move rfl rfl ?_
    refine k_load_blka (cs := [.int .i64 x1.1.From, .int .i64 x1.1.To, q1_0_0]) agg36 rfl h2 rfl ?_
    obtain ⟨x2, hx2, h⟩ := ob h
    refine k_call cal24 rfl (net_Net_put_w (a1 := x1.1) ho0 (SL.of_R hq1_0_0) (by first | assumption | omega | (simp <;> omega)) hx2) rfl ?_
    rintro s5 vr5 st5 ⟨rfl, ho0⟩
    have szs5 := st5.size
    have hS : Step (KO k0) s s5 := hS.comp st5 (by intro l hl hk; (try simp only [KC, KO, KU, KN, K0] at hk ⊢) <;> omega)
    replace hq1_0_0 := hq1_0_0.up2 st5
    replace h2 := h2.up2 st5
    refine k_extract rfl rfl rfl ?_
    refine k_extract rfl rfl rfl ?_
    refine k_assign rfl rfl ?_
    refine k_assign rfl rfl ?_
    refine k_nil ?_
    refine k_keep [(4, _), (5, _)] ⟨rfl, rfl, trivial⟩ ?_
    refine k_ret ?_
    obtain rfl := Option.some.inj h
    refine ⟨_, rfl, Ret.mk hS ?_⟩
    exact ⟨rfl, ho0⟩

set_option maxHeartbeats 1000000 in
set_option maxRecDepth 100000 in
theorem net_Net_Deliver_w {s : St} {k0 : Nat} {p0 : Value} {a0 : NetNet} {a1 : UInt64} {r : (ApiMessage × Int × NetNet)} (ho0 : ONetNet s k0 p0 a0) (h : net_Net_Deliver a0 a1 = some r) : Calls Try.prog 12 #[p0, .int .u64 (a1.toNat : Int)] s.w (Ret s (KO k0) (fun s1 v => ∃ (u0 : List Value), v = .tuple #[.agg u0.toArray, .int .i64 r.2.1] ∧ RC s1 u0 (dApiMessage r.1) ∧ ONetNet s1 k0 p0 r.2.2)) := by
  unfold net_Net_Deliver at h
  have le0 := ho0.le
  have ne0 := ho0.ne
  obtain ⟨bo0, rfl⟩ := ho0.ptr
  obtain ⟨wo0_0, hb_o0, hwo0_0, hwo0_1⟩ := ho0.at_
  have hS : Step (KO k0) s s := (Step.refl _).of0 (by first | exact fun _ h => h | (intro c h; simp [KC, KO, KU, KN] at h <;> omega))
  refine k_fn_c (rs := [.cell 4 36, .tmp 5]) (args := [.pointer (some ⟨bo0, 0, none⟩), .int .u64 (a1.toNat : Int)]) Try.func12 rfl rfl rfl rfl ?_
  refine k_seq ?_
  refine k_region ?_
  refine k_alloc zero36 rfl ?_
  intro s1 b1 st1 h1 ge1
  have szs1 := st1.size
  have hS : Step (KO k0) s s1 := hS.trans0 st1
  replace hwo0_0 := hwo0_0.up2 st1
  replace hb_o0 := hb_o0.up2 st1
  have lt1 := h1.lt
  refine k_assign rfl rfl ?_
  refine k_nil ?_
  refine k_seq ?_
  refine k_region ?_
  refine k_move rfl rfl ?_
  refine k_move rfl rfl ?_
  obtain ⟨x1, hx1, h⟩ := ob h
  refine k_call cal16 rfl (net_Net_At_w  (ONetNet.mk_ a0 (by omega) hwo0_0 hwo0_1 hb_o0) hx1) rfl ?_
  rintro s2 vr2 st2 ⟨cs2_0, rfl, h2_0⟩
  have szs2 := st2.size
  have hS : Step (KO k0) s s2 := hS.trans0 st2
  replace hwo0_0 := hwo0_0.up2 st2
  replace hb_o0 := hb_o0.up2 st2
  replace h1 := h1.up2 st2
  obtain ⟨q2_0_0, rfl, hq2_0_0⟩ := opnApiMessage h2_0
  refine k_move rfl rfl ?_
  refine k_extract rfl rfl rfl ?_
  refine k_extract rfl rfl rfl ?_
  refine k_alloc zero36 rfl ?_
  intro s3 b3 st3 h3 ge3
  have szs3 := st3.size
  have hS : Step (KO k0) s s3 := hS.trans0 st3
  replace hq2_0_0 := hq2_0_0.up2 st3
  replace hwo0_0 := hwo0_0.up2 st3
  replace hb_o0 := hb_o0.up2 st3
  replace h1 := h1.up2 st3
  have lt3 := h3.lt
  refine k_store_c (cs' := [.int .i64 x1.1.From, .int .i64 x1.1.To, q2_0_0]) size36 rfl rfl h3 (by first | (simp; done) | omega | (dsimp only; omega)) (CellsOf.lit (vs := [.int .i64 x1.1.From, .int .i64 x1.1.To, q2_0_0]) rfl (ones.cons rfl (ones.cons rfl (ones.cons ((SL.of_R hq2_0_0)).one1 ones.nil)))) rfl (by first | rfl | (simp; done) | (simp; omega)) rfl ?_
  intro s4 st4 h3
  have szs4 := st4.size
  have hS : Step (KO k0) s s4 := hS.comp st4 (by intro l hl hk; (try simp only [KC, KO, KU, KN, K0] at hk ⊢) <;> omega)
  replace hq2_0_0 := hq2_0_0.up2 st4
  replace hwo0_0 := hwo0_0.up2 st4
  replace hb_o0 := hb_o0.up2 st4
  replace h1 := h1.up2 st4
  refine k_assign rfl rfl ?_
  refine k_nil ?_
  refine k_keep [(0, _), (1, _), (4, _), (5, _), (6, _), (7, _)] ⟨rfl, rfl, rfl, rfl, rfl, rfl, trivial⟩ ?_
  refine k_seq ?_
  refine k_seq ?_
  refine k_region ?_
  refine k_move rfl rfl ?_
  refine k_eql rfl rfl rfl ?_
  refine k_nil ?_
  refine k_keep [(0, _), (1, _), (4, _), (5, _), (6, _), (7, _), (15, _)] ⟨rfl, rfl, rfl, rfl, rfl, rfl, rfl, trivial⟩ ?_
  refine k_cond_dec rfl (fun c5 => ?_) (fun c5 => ?_)
  · -- T
    have h := itT h c5
    refine k_seq ?_
    refine k_region ?_
    refine k_move rfl rfl ?_
    refine k_load_blka (cs := [.int .i64 x1.1.From, .int .i64 x1.1.To, q2_0_0]) agg36 rfl h3 rfl ?_
    obtain ⟨x2, hx2, h⟩ := ob h
    refine k_call cal25 rfl (net_room_w (b := bo0) (m := x1.1) hx2) rfl ?_
    rintro s6 _ st6 rfl
    have szs6 := st6.size
    have hS : Step (KO k0) s s6 := hS.trans0 st6
    replace hq2_0_0 := hq2_0_0.up2 st6
    replace hwo0_0 := hwo0_0.up2 st6
    replace hb_o0 := hb_o0.up2 st6
    replace h1 := h1.up2 st6
    replace h3 := h3.up2 st6
    refine k_nilCheck rfl rfl ?_
    obtain ⟨x3, hx3, h⟩ := ob h
    refine k_load_arr (pre := [.int .i64 a0.replicas, .int .u64 (a0.last.toNat : Int), wo0_0]) (xs := a0.between) 3 one3 rfl hb_o0 rfl hx3 rfl ?_
    refine k_sub_ rfl rfl rfl ?_
    refine k_nilCheck rfl rfl ?_
    obtain ⟨x4, hx4, h⟩ := ob h
    refine k_store_arr (pre := [.int .i64 a0.replicas, .int .u64 (a0.last.toNat : Int), wo0_0]) (xs := a0.between) 3 size3 rfl rfl hb_o0 (by first | (simp; done) | omega | (dsimp only; omega)) rfl hx4 ?_
    intro s7 st7 hb_o0
    have hl7 : (a0.between.set ((x2 : Int) - ((3 : Nat) : Int)).toNat (i64 (x3 - 1))).length = 16 := by rw [List.length_set]; exact hwo0_1
    have szs7 := st7.size
    have hS : Step (KO k0) s s7 := hS.comp st7 (by intro l hl hk; (try simp only [KC, KO, KU, KN, K0] at hk ⊢) <;> omega)
    replace hq2_0_0 := hq2_0_0.up2 st7
    replace hwo0_0 := hwo0_0.up2 st7
    replace h1 := h1.up2 st7
    replace h3 := h3.up2 st7
    refine k_nil ?_
    refine k_keep [(0, _), (1, _), (4, _), (5, _), (6, _), (7, _)] ⟨rfl, rfl, rfl, rfl, rfl, rfl, trivial⟩ ?_
    refine k_region ?_
    refine k_move rfl rfl ?_
    refine k_nilCheck rfl rfl ?_
    refine k_field_addr fld64_2 rfl rfl ?_
    refine k_load_blk one60 rfl hb_o0 rfl rfl ?_
    refine k_move rfl rfl ?_
    obtain ⟨x5, hx5, h⟩ := ob h
    obtain ⟨x6, hx6, h⟩ := ob h
    refine k_delete mapT60 rfl rfl (by rw [← hx5]; exact hwo0_0) hx6 ?_
    intro s8 st8 h8
    have szs8 := st8.size
    have hS : Step (KO k0) s s8 := hS.comp st8 (by intro l hl hk; (try simp only [KC, KO, KU, KN, K0] at hk ⊢) <;> omega)
    replace hb_o0 := hb_o0.up2 st8
    replace h1 := h1.up2 st8
    replace hq2_0_0 := hq2_0_0.up2 st8
    replace h3 := h3.up2 st8
    refine k_nil ?_
    refine k_keep [(4, _), (5, _), (6, _), (7, _)] ⟨rfl, rfl, rfl, rfl, trivial⟩ ?_
    refine k_seq ?_
    refine k_region ?_
    refine k_load_blka (cs := [.int .i64 x1.1.From, .int .i64 x1.1.To, q2_0_0]) agg36 rfl h3 rfl ?_
    refine k_move rfl rfl ?_
    refine k_store_c (cs' := [.int .i64 x1.1.From, .int .i64 x1.1.To, q2_0_0]) size36 rfl rfl h1 (by first | (simp; done) | omega | (dsimp only; omega)) (CellsOf.lit (vs := [.int .i64 x1.1.From, .int .i64 x1.1.To, q2_0_0]) rfl (ones.cons rfl (ones.cons rfl (ones.cons ((SL.of_R hq2_0_0)).one1 ones.nil)))) rfl (by first | rfl | (simp; done) | (simp; omega)) rfl ?_
    intro s9 st9 h1
    have szs9 := st9.size
    have hS : Step (KO k0) s s9 := hS.comp st9 (by intro l hl hk; (try simp only [KC, KO, KU, KN, K0] at hk ⊢) <;> omega)
    replace hq2_0_0 := hq2_0_0.up2 st9
    replace h8 := h8.up2 st9
    replace hb_o0 := hb_o0.up2 st9
    replace h3 := h3.up2 st9
    refine k_assign rfl rfl ?_
    refine k_nil ?_
    refine k_keep [(4, _), (5, _)] ⟨rfl, rfl, trivial⟩ ?_
    refine k_ret ?_
    obtain rfl := Option.some.inj h
    refine ⟨[.agg [.int .i64 x1.1.From, .int .i64 x1.1.To, q2_0_0].toArray, .int .i64 x1.2], ⟨res_blk (cs := [.int .i64 x1.1.From, .int .i64 x1.1.To, q2_0_0]) rfl agg36 h1, rfl, trivial⟩, Ret.mk hS ?_⟩
    exact ⟨_, rfl, (clsApiMessage x1.1 hq2_0_0), (ONetNet.mk_ (⟨a0.replicas, a0.last, some (mdel a1 x5), (a0.between.set ((x2 : Int) - ((3 : Nat) : Int)).toNat (i64 (x3 - 1)))⟩ : NetNet) (by omega) h8 hl7 hb_o0)⟩
  · -- F
    have h := itF h c5
    refine k_skip ?_
    refine k_seq ?_
    refine k_region ?_
    refine k_load_blka (cs := [.int .i64 x1.1.From, .int .i64 x1.1.To, q2_0_0]) agg36 rfl h3 rfl ?_
    refine k_move rfl rfl ?_
    refine k_store_c (cs' := [.int .i64 x1.1.From, .int .i64 x1.1.To, q2_0_0]) size36 rfl rfl h1 (by first | (simp; done) | omega | (dsimp only; omega)) (CellsOf.lit (vs := [.int .i64 x1.1.From, .int .i64 x1.1.To, q2_0_0]) rfl (ones.cons rfl (ones.cons rfl (ones.cons ((SL.of_R hq2_0_0)).one1 ones.nil)))) rfl (by first | rfl | (simp; done) | (simp; omega)) rfl ?_
    intro s10 st10 h1
    have szs10 := st10.size
    have hS : Step (KO k0) s s10 := hS.comp st10 (by intro l hl hk; (try simp only [KC, KO, KU, KN, K0] at hk ⊢) <;> omega)
    replace hq2_0_0 := hq2_0_0.up2 st10
    replace hwo0_0 := hwo0_0.up2 st10
    replace hb_o0 := hb_o0.up2 st10
    replace h3 := h3.up2 st10
    refine k_assign rfl rfl ?_
    refine k_nil ?_
    refine k_keep [(4, _), (5, _)] ⟨rfl, rfl, trivial⟩ ?_
    refine k_ret ?_
    obtain rfl := Option.some.inj h
    refine ⟨[.agg [.int .i64 x1.1.From, .int .i64 x1.1.To, q2_0_0].toArray, .int .i64 x1.2], ⟨res_blk (cs := [.int .i64 x1.1.From, .int .i64 x1.1.To, q2_0_0]) rfl agg36 h1, rfl, trivial⟩, Ret.mk hS ?_⟩
    exact ⟨_, rfl, (clsApiMessage x1.1 hq2_0_0), (ONetNet.mk_ a0 (by omega) hwo0_0 hwo0_1 hb_o0)⟩

set_option maxHeartbeats 1000000 in
set_option maxRecDepth 100000 in
theorem law22_awake_w {s : St}  {r : Bool}  (h : law22_awake = some r) : Calls Try.prog 10 #[] s.w (Ret s K0 (fun s1 v => v = .bool r)) := by
  unfold law22_awake at h
  have hS : Step K0 s s := (Step.refl _).of0 (by first | exact fun _ h => h | (intro c h; simp [KC, KO, KU, KN] at h <;> omega))
  refine k_fn (rs := [0]) (args := []) Try.func10 rfl rfl rfl rfl ?_
  refine k_seq ?_
  refine k_region ?_
  refine k_assign rfl rfl ?_
  refine k_nil ?_
  refine k_seq ?_
  refine k_region ?_
  obtain ⟨x1, hx1, h⟩ := ob h
  refine k_call cal8 rfl (net_New_w   hx1) rfl ?_
  rintro s1 vr1 st1 ⟨ku1_0, v1_0, rfl, hk1_0, h1_0⟩
  have szs1 := st1.size
  have hS : Step K0 s s1 := hS.trans0 st1
  have ol1_0 := OptONetNet.le (k := ku1_0) h1_0
  refine k_move rfl rfl ?_
  refine k_extract rfl rfl rfl ?_
  refine k_extract rfl rfl rfl ?_
  refine k_assign rfl rfl ?_
  refine k_assign rfl rfl ?_
  refine k_nil ?_
  refine k_keep [(0, _), (1, _), (2, _)] ⟨rfl, rfl, rfl, trivial⟩ ?_
  refine k_seq ?_
  refine k_seq ?_
  refine k_region ?_
  refine k_move rfl rfl ?_
  refine k_neq rfl rfl rfl ?_
  refine k_move rfl rfl ?_
  rcases oc_out h with ⟨ho_2, h⟩ | ⟨x2, ho_2, h⟩
  · -- nil
    rw [ho_2] at h1_0
    obtain rfl : v1_0 = .pointer none := h1_0
    have hE3 : Step K0 s1 s1 := (Step.refl _).of0 (by first | exact fun _ h => h | (intro c h; simp [KC, KO, KU, KN] at h <;> omega))
    refine k_cutl (X := St) 3 [(0, .bool false), (1, .pointer none), (2, .int .i64 x1.2), (26, .int .i64 x1.2), (27, .bool (decide (x1.2 ≠ 0)))] (fun _ => [(31, .bool true)]) (fun sl wL => sl.w = wL ∧ Step K0 s1 sl) ?_ ?_
    · -- the ways
      refine k_again 28 rfl ?_
      refine k_split (fun c4 => ?_) (fun c4 => ?_)
      · -- t28 True
        refine k_no rfl rfl rfl rfl ?_
        refine k_no rfl rfl rfl rfl ?_
        refine k_pickT rfl rfl rfl rfl ?_
        exact k_met ⟨s1, ⟨rfl, trivial⟩, ⟨rfl, rfl, rfl, rfl, rfl, trivial⟩, rfl, hE3⟩
      · -- t28 False
        refine k_yes rfl rfl ?_
        refine k_move rfl rfl ?_
        refine k_yes rfl rfl ?_
        refine k_eql_pnil Try.underlying24 rfl rfl rfl ?_
        refine k_pickF rfl rfl rfl rfl ?_
        exact k_met ⟨s1, ⟨rfl, trivial⟩, ⟨rfl, rfl, rfl, rfl, rfl, trivial⟩, rfl, hE3⟩
    · -- behind
      rintro s5 wL ⟨rfl, hE3⟩
      have szs5 := hE3.size
      have hS : Step K0 s s5 := hS.trans0 hE3
      refine k_nil ?_
      refine k_keep [(0, _), (1, _), (31, _)] ⟨rfl, rfl, rfl, trivial⟩ ?_
      refine k_cond_true rfl ?_
      refine k_seq ?_
      refine k_region ?_
      refine k_assign rfl rfl ?_
      refine k_nil ?_
      refine k_keep [(0, _), (1, _)] ⟨rfl, rfl, trivial⟩ ?_
      refine k_ret ?_
      obtain rfl := Option.some.inj h
      refine ⟨_, rfl, Ret.mk hS ?_⟩
      exact rfl
  · -- some
    rw [ho_2] at h1_0
    replace h1_0 : ONetNet s1 ku1_0 v1_0 x2 := h1_0
    replace ol1_0 := ol1_0.resolve_left (fun e => by rw [e] at ho_2; cases ho_2)
    have le2 := h1_0.le
    have ne2 := h1_0.ne
    have hE6 : Step K0 s1 s1 := (Step.refl _).of0 (by first | exact fun _ h => h | (intro c h; simp [KC, KO, KU, KN] at h <;> omega))
    refine k_cutl (X := St) 3 [(0, .bool false), (1, v1_0), (2, .int .i64 x1.2), (26, .int .i64 x1.2), (27, .bool (decide (x1.2 ≠ 0)))] (fun _ => [(31, .bool (decide ((x1.2 ≠ 0) ∨ False)))]) (fun sl wL => sl.w = wL ∧ Step K0 s1 sl) ?_ ?_
    · -- the ways
      refine k_again 28 rfl ?_
      refine k_split (fun c7 => ?_) (fun c7 => ?_)
      · -- t28 True
        refine k_no rfl rfl rfl rfl ?_
        refine k_no rfl rfl rfl rfl ?_
        refine k_pickT rfl rfl rfl rfl ?_
        exact k_met ⟨s1, ⟨(congrArg (fun b => some (Value.bool b)) (by first | exact decide_eq_decide.2 ⟨Or.inr, fun h => h.resolve_left c7⟩ | exact (decide_eq_true (Or.inl c7)).symm | (simp [c7]; done) | (simp [c7, i64] <;> omega))), trivial⟩, ⟨rfl, rfl, rfl, rfl, rfl, trivial⟩, rfl, hE6⟩
      · -- t28 False
        refine k_yes rfl rfl ?_
        refine k_move rfl rfl ?_
        refine k_yes rfl rfl ?_
        obtain ⟨pb8, rfl⟩ := h1_0.ptr
        refine k_eql_pnil Try.underlying24 rfl rfl rfl ?_
        refine k_pickF rfl rfl rfl rfl ?_
        exact k_met ⟨s1, ⟨(congrArg (fun b => some (Value.bool b)) (by first | exact decide_eq_decide.2 ⟨Or.inr, fun h => h.resolve_left c7⟩ | exact (decide_eq_true (Or.inl c7)).symm | (simp [c7]; done) | (simp [c7, i64] <;> omega))), trivial⟩, ⟨rfl, rfl, rfl, rfl, rfl, trivial⟩, rfl, hE6⟩
    · -- behind
      rintro s9 wL ⟨rfl, hE6⟩
      have szs9 := hE6.size
      have hS : Step K0 s s9 := hS.trans0 hE6
      replace h1_0 := h1_0.up2 hE6
      refine k_nil ?_
      refine k_keep [(0, _), (1, _), (31, _)] ⟨rfl, rfl, rfl, trivial⟩ ?_
      refine k_cond_dec rfl (fun c10 => ?_) (fun c10 => ?_)
      · -- T
        have h := itT h c10
        refine k_seq ?_
        refine k_region ?_
        refine k_assign rfl rfl ?_
        refine k_nil ?_
        refine k_keep [(0, _), (1, _)] ⟨rfl, rfl, trivial⟩ ?_
        refine k_ret ?_
        obtain rfl := Option.some.inj h
        refine ⟨_, rfl, Ret.mk hS ?_⟩
        exact rfl
      · -- F
        have h := itF h c10
        refine k_skip ?_
        refine k_seq ?_
        refine k_region ?_
        refine k_move rfl rfl ?_
        refine k_bslice2 (ds := ([(97 : UInt8)] : List UInt8).map bD) slc23 rfl (RVs.cons (R.val rfl) RVs.nil) (by rfl) (by rfl) rfl rfl ?_
        intro s11 v11 b11 st11 ge11 bl11 h11
        have szs11 := st11.size
        have hS : Step K0 s s11 := hS.trans0 st11
        replace h1_0 := h1_0.up2 st11
        have lt11 := Own.le1 h11
        refine k_conv_sl Try.underlying23 Try.underlying5 rfl h11 (by simp) rfl ?_
        intro s12 st12 h12
        have szs12 := st12.size
        have hS : Step K0 s s12 := hS.comp st12 (by intro l hl hk; (try simp only [KC, KO, KU, KN, K0] at hk ⊢) <;> omega)
        replace h1_0 := h1_0.up2 st12
        obtain ⟨x3, hx3, h⟩ := ob h
        refine k_call cal11 rfl (net_Net_Send_w  h1_0 (SL.of_R h12) (by first | assumption | omega | (simp <;> omega)) hx3) rfl ?_
        rintro s13 vr13 st13 ⟨rfl, h1_0⟩
        have szs13 := st13.size
        have hS : Step K0 s s13 := hS.comp st13 (by intro l hl hk; (try simp only [KC, KO, KU, KN, K0] at hk ⊢) <;> omega)
        replace h12 := h12.up2 st13
        refine k_move rfl rfl ?_
        refine k_extract rfl rfl rfl ?_
        refine k_extract rfl rfl rfl ?_
        refine k_assign rfl rfl ?_
        refine k_assign rfl rfl ?_
        refine k_nil ?_
        refine k_keep [(0, _), (1, _), (3, _)] ⟨rfl, rfl, rfl, trivial⟩ ?_
        refine k_seq ?_
        refine k_region ?_
        refine k_move rfl rfl ?_
        refine k_bslice2 (ds := ([(98 : UInt8)] : List UInt8).map bD) slc23 rfl (RVs.cons (R.val rfl) RVs.nil) (by rfl) (by rfl) rfl rfl ?_
        intro s14 v14 b14 st14 ge14 bl14 h14
        have szs14 := st14.size
        have hS : Step K0 s s14 := hS.trans0 st14
        replace h1_0 := h1_0.up2 st14
        have lt14 := Own.le1 h14
        refine k_conv_sl Try.underlying23 Try.underlying5 rfl h14 (by simp) rfl ?_
        intro s15 st15 h15
        have szs15 := st15.size
        have hS : Step K0 s s15 := hS.comp st15 (by intro l hl hk; (try simp only [KC, KO, KU, KN, K0] at hk ⊢) <;> omega)
        replace h1_0 := h1_0.up2 st15
        obtain ⟨x4, hx4, h⟩ := ob h
        refine k_call cal11 rfl (net_Net_Send_w  h1_0 (SL.of_R h15) (by first | assumption | omega | (simp <;> omega)) hx4) rfl ?_
        rintro s16 vr16 st16 ⟨rfl, h1_0⟩
        have szs16 := st16.size
        have hS : Step K0 s s16 := hS.comp st16 (by intro l hl hk; (try simp only [KC, KO, KU, KN, K0] at hk ⊢) <;> omega)
        replace h15 := h15.up2 st16
        refine k_move rfl rfl ?_
        refine k_extract rfl rfl rfl ?_
        refine k_extract rfl rfl rfl ?_
        refine k_assign rfl rfl ?_
        refine k_assign rfl rfl ?_
        refine k_nil ?_
        refine k_keep [(0, _), (1, _), (3, _), (5, _)] ⟨rfl, rfl, rfl, rfl, trivial⟩ ?_
        refine k_seq ?_
        refine k_region ?_
        refine k_move rfl rfl ?_
        obtain ⟨x5, hx5, h⟩ := ob h
        refine k_call (vs := [v1_0, .int .u64 ((1 : UInt64).toNat : Int)]) cal13 rfl (net_Net_Double_w  h1_0 hx5) rfl ?_
        rintro s17 vr17 st17 ⟨rfl, h1_0⟩
        have szs17 := st17.size
        have hS : Step K0 s s17 := hS.comp st17 (by intro l hl hk; (try simp only [KC, KO, KU, KN, K0] at hk ⊢) <;> omega)
        refine k_move rfl rfl ?_
        refine k_extract rfl rfl rfl ?_
        refine k_extract rfl rfl rfl ?_
        refine k_assign rfl rfl ?_
        refine k_assign rfl rfl ?_
        refine k_nil ?_
        refine k_keep [(0, _), (1, _), (3, _), (5, _), (7, _)] ⟨rfl, rfl, rfl, rfl, rfl, trivial⟩ ?_
        refine k_seq ?_
        refine k_region ?_
        refine k_move rfl rfl ?_
        obtain ⟨x6, hx6, h⟩ := ob h
        refine k_call (vs := [v1_0, .int .u64 ((3 : UInt64).toNat : Int)]) cal12 rfl (net_Net_Deliver_w  h1_0 hx6) rfl ?_
        rintro s18 vr18 st18 ⟨cs18_0, rfl, h18_0, h1_0⟩
        have szs18 := st18.size
        have hS : Step K0 s s18 := hS.comp st18 (by intro l hl hk; (try simp only [KC, KO, KU, KN, K0] at hk ⊢) <;> omega)
        obtain ⟨q18_0_0, rfl, hq18_0_0⟩ := opnApiMessage h18_0
        refine k_move rfl rfl ?_
        refine k_extract rfl rfl rfl ?_
        refine k_extract rfl rfl rfl ?_
        refine k_alloc zero36 rfl ?_
        intro s19 b19 st19 h19 ge19
        have szs19 := st19.size
        have hS : Step K0 s s19 := hS.trans0 st19
        replace hq18_0_0 := hq18_0_0.up2 st19
        replace h1_0 := h1_0.up2 st19
        have lt19 := h19.lt
        refine k_store_c (cs' := [.int .i64 x6.1.From, .int .i64 x6.1.To, q18_0_0]) size36 rfl rfl h19 (by first | (simp; done) | omega | (dsimp only; omega)) (CellsOf.lit (vs := [.int .i64 x6.1.From, .int .i64 x6.1.To, q18_0_0]) rfl (ones.cons rfl (ones.cons rfl (ones.cons ((SL.of_R hq18_0_0)).one1 ones.nil)))) rfl (by first | rfl | (simp; done) | (simp; omega)) rfl ?_
        intro s20 st20 h19
        have szs20 := st20.size
        have hS : Step K0 s s20 := hS.comp st20 (by intro l hl hk; (try simp only [KC, KO, KU, KN, K0] at hk ⊢) <;> omega)
        replace hq18_0_0 := hq18_0_0.up2 st20
        replace h1_0 := h1_0.up2 st20
        refine k_assign rfl rfl ?_
        refine k_nil ?_
        refine k_keep [(0, _), (1, _), (3, _), (5, _), (7, _), (9, _), (10, _)] ⟨rfl, rfl, rfl, rfl, rfl, rfl, rfl, trivial⟩ ?_
        refine k_seq ?_
        refine k_region ?_
        refine k_move rfl rfl ?_
        obtain ⟨x7, hx7, h⟩ := ob h
        refine k_call (vs := [v1_0, .int .u64 ((1 : UInt64).toNat : Int)]) cal12 rfl (net_Net_Deliver_w  h1_0 hx7) rfl ?_
        rintro s21 vr21 st21 ⟨cs21_0, rfl, h21_0, h1_0⟩
        have szs21 := st21.size
        have hS : Step K0 s s21 := hS.comp st21 (by intro l hl hk; (try simp only [KC, KO, KU, KN, K0] at hk ⊢) <;> omega)
        replace hq18_0_0 := hq18_0_0.up2 st21
        replace h19 := h19.up2 st21
        obtain ⟨q21_0_0, rfl, hq21_0_0⟩ := opnApiMessage h21_0
        refine k_move rfl rfl ?_
        refine k_extract rfl rfl rfl ?_
        refine k_extract rfl rfl rfl ?_
        refine k_alloc zero36 rfl ?_
        intro s22 b22 st22 h22 ge22
        have szs22 := st22.size
        have hS : Step K0 s s22 := hS.trans0 st22
        replace hq21_0_0 := hq21_0_0.up2 st22
        replace h1_0 := h1_0.up2 st22
        replace hq18_0_0 := hq18_0_0.up2 st22
        replace h19 := h19.up2 st22
        have lt22 := h22.lt
        refine k_store_c (cs' := [.int .i64 x7.1.From, .int .i64 x7.1.To, q21_0_0]) size36 rfl rfl h22 (by first | (simp; done) | omega | (dsimp only; omega)) (CellsOf.lit (vs := [.int .i64 x7.1.From, .int .i64 x7.1.To, q21_0_0]) rfl (ones.cons rfl (ones.cons rfl (ones.cons ((SL.of_R hq21_0_0)).one1 ones.nil)))) rfl (by first | rfl | (simp; done) | (simp; omega)) rfl ?_
        intro s23 st23 h22
        have szs23 := st23.size
        have hS : Step K0 s s23 := hS.comp st23 (by intro l hl hk; (try simp only [KC, KO, KU, KN, K0] at hk ⊢) <;> omega)
        replace hq21_0_0 := hq21_0_0.up2 st23
        replace h1_0 := h1_0.up2 st23
        replace hq18_0_0 := hq18_0_0.up2 st23
        replace h19 := h19.up2 st23
        refine k_assign rfl rfl ?_
        refine k_nil ?_
        refine k_keep [(0, _), (1, _), (3, _), (5, _), (7, _), (9, _), (10, _), (11, _), (12, _)] ⟨rfl, rfl, rfl, rfl, rfl, rfl, rfl, rfl, rfl, trivial⟩ ?_
        refine k_seq ?_
        refine k_region ?_
        refine k_move rfl rfl ?_
        obtain ⟨x8, hx8, h⟩ := ob h
        refine k_call (vs := [v1_0, .int .u64 ((1 : UInt64).toNat : Int)]) cal12 rfl (net_Net_Deliver_w  h1_0 hx8) rfl ?_
        rintro s24 vr24 st24 ⟨cs24_0, rfl, h24_0, h1_0⟩
        have szs24 := st24.size
        have hS : Step K0 s s24 := hS.comp st24 (by intro l hl hk; (try simp only [KC, KO, KU, KN, K0] at hk ⊢) <;> omega)
        replace hq18_0_0 := hq18_0_0.up2 st24
        replace h19 := h19.up2 st24
        replace hq21_0_0 := hq21_0_0.up2 st24
        replace h22 := h22.up2 st24
        obtain ⟨q24_0_0, rfl, hq24_0_0⟩ := opnApiMessage h24_0
        refine k_move rfl rfl ?_
        refine k_extract rfl rfl rfl ?_
        refine k_extract rfl rfl rfl ?_
        refine k_alloc zero36 rfl ?_
        intro s25 b25 st25 h25 ge25
        have szs25 := st25.size
        have hS : Step K0 s s25 := hS.trans0 st25
        replace hq24_0_0 := hq24_0_0.up2 st25
        replace h1_0 := h1_0.up2 st25
        replace hq18_0_0 := hq18_0_0.up2 st25
        replace h19 := h19.up2 st25
        replace hq21_0_0 := hq21_0_0.up2 st25
        replace h22 := h22.up2 st25
        have lt25 := h25.lt
        refine k_store_c (cs' := [.int .i64 x8.1.From, .int .i64 x8.1.To, q24_0_0]) size36 rfl rfl h25 (by first | (simp; done) | omega | (dsimp only; omega)) (CellsOf.lit (vs := [.int .i64 x8.1.From, .int .i64 x8.1.To, q24_0_0]) rfl (ones.cons rfl (ones.cons rfl (ones.cons ((SL.of_R hq24_0_0)).one1 ones.nil)))) rfl (by first | rfl | (simp; done) | (simp; omega)) rfl ?_
        intro s26 st26 h25
        have szs26 := st26.size
        have hS : Step K0 s s26 := hS.comp st26 (by intro l hl hk; (try simp only [KC, KO, KU, KN, K0] at hk ⊢) <;> omega)
        replace hq24_0_0 := hq24_0_0.up2 st26
        replace h1_0 := h1_0.up2 st26
        replace hq18_0_0 := hq18_0_0.up2 st26
        replace h19 := h19.up2 st26
        replace hq21_0_0 := hq21_0_0.up2 st26
        replace h22 := h22.up2 st26
        refine k_assign rfl rfl ?_
        refine k_nil ?_
        refine k_keep [(0, _), (1, _), (3, _), (5, _), (7, _), (9, _), (10, _), (11, _), (12, _), (14, _)] ⟨rfl, rfl, rfl, rfl, rfl, rfl, rfl, rfl, rfl, rfl, trivial⟩ ?_
        refine k_seq ?_
        refine k_region ?_
        refine k_move rfl rfl ?_
        obtain ⟨x9, hx9, h⟩ := ob h
        refine k_call cal14 rfl (net_Net_Letters_w  h1_0 hx9) rfl ?_
        rintro s27 v27_0 st27 ⟨_, rfl, h27_0⟩
        have szs27 := st27.size
        have hS : Step K0 s s27 := hS.trans0 st27
        replace h1_0 := h1_0.up2 st27
        replace hq18_0_0 := hq18_0_0.up2 st27
        replace h19 := h19.up2 st27
        replace hq21_0_0 := hq21_0_0.up2 st27
        replace h22 := h22.up2 st27
        refine k_assign rfl rfl ?_
        refine k_nil ?_
        refine k_keep [(0, _), (1, _), (3, _), (5, _), (7, _), (9, _), (10, _), (11, _), (12, _), (14, _), (15, _)] ⟨rfl, rfl, rfl, rfl, rfl, rfl, rfl, rfl, rfl, rfl, rfl, trivial⟩ ?_
        refine k_seq ?_
        refine k_region ?_
        refine k_move rfl rfl ?_
        obtain ⟨x10, hx10, h⟩ := ob h
        refine k_call cal11 rfl (net_Net_Send_w  h1_0 (show SL s27 L0 _ 1 (([] : List UInt8).map bD) from SL.of_R (R.of_SL (.inl ⟨rfl, none, 0, rfl, fun _ => rfl⟩))) (by first | assumption | omega | (simp <;> omega)) hx10) rfl ?_
        rintro s28 vr28 st28 ⟨rfl, h1_0⟩
        have szs28 := st28.size
        have hS : Step K0 s s28 := hS.comp st28 (by intro l hl hk; (try simp only [KC, KO, KU, KN, K0] at hk ⊢) <;> omega)
        replace h27_0 := h27_0.up2 st28
        replace hq18_0_0 := hq18_0_0.up2 st28
        replace h19 := h19.up2 st28
        replace hq21_0_0 := hq21_0_0.up2 st28
        replace h22 := h22.up2 st28
        refine k_move rfl rfl ?_
        refine k_extract rfl rfl rfl ?_
        refine k_extract rfl rfl rfl ?_
        refine k_assign rfl rfl ?_
        refine k_assign rfl rfl ?_
        refine k_nil ?_
        refine k_keep [(0, _), (1, _), (3, _), (5, _), (7, _), (9, _), (10, _), (11, _), (12, _), (14, _), (15, _), (16, _), (17, _)] ⟨rfl, rfl, rfl, rfl, rfl, rfl, rfl, rfl, rfl, rfl, rfl, rfl, rfl, trivial⟩ ?_
        refine k_seq ?_
        refine k_region ?_
        refine k_move rfl rfl ?_
        obtain ⟨x11, hx11, h⟩ := ob h
        refine k_call cal11 rfl (net_Net_Send_w  h1_0 (show SL s28 L0 _ 1 (([] : List UInt8).map bD) from SL.of_R (R.of_SL (.inl ⟨rfl, none, 0, rfl, fun _ => rfl⟩))) (by first | assumption | omega | (simp <;> omega)) hx11) rfl ?_
        rintro s29 vr29 st29 ⟨rfl, h1_0⟩
        have szs29 := st29.size
        have hS : Step K0 s s29 := hS.comp st29 (by intro l hl hk; (try simp only [KC, KO, KU, KN, K0] at hk ⊢) <;> omega)
        replace h27_0 := h27_0.up2 st29
        replace hq18_0_0 := hq18_0_0.up2 st29
        replace h19 := h19.up2 st29
        replace hq21_0_0 := hq21_0_0.up2 st29
        replace h22 := h22.up2 st29
        refine k_move rfl rfl ?_
        refine k_extract rfl rfl rfl ?_
        refine k_extract rfl rfl rfl ?_
        refine k_assign rfl rfl ?_
        refine k_assign rfl rfl ?_
        refine k_nil ?_
        refine k_keep [(0, _), (1, _), (3, _), (5, _), (7, _), (9, _), (10, _), (11, _), (12, _), (14, _), (15, _), (16, _), (17, _), (19, _)] ⟨rfl, rfl, rfl, rfl, rfl, rfl, rfl, rfl, rfl, rfl, rfl, rfl, rfl, rfl, trivial⟩ ?_
        refine k_seq ?_
        refine k_region ?_
        refine k_move rfl rfl ?_
        obtain ⟨x12, hx12, h⟩ := ob h
        refine k_call cal11 rfl (net_Net_Send_w  h1_0 (show SL s29 L0 _ 1 (([] : List UInt8).map bD) from SL.of_R (R.of_SL (.inl ⟨rfl, none, 0, rfl, fun _ => rfl⟩))) (by first | assumption | omega | (simp <;> omega)) hx12) rfl ?_
        rintro s30 vr30 st30 ⟨rfl, h1_0⟩
        have szs30 := st30.size
        have hS : Step K0 s s30 := hS.comp st30 (by intro l hl hk; (try simp only [KC, KO, KU, KN, K0] at hk ⊢) <;> omega)
        replace h27_0 := h27_0.up2 st30
        replace hq18_0_0 := hq18_0_0.up2 st30
        replace h19 := h19.up2 st30
        replace hq21_0_0 := hq21_0_0.up2 st30
        replace h22 := h22.up2 st30
        refine k_move rfl rfl ?_
        refine k_extract rfl rfl rfl ?_
        refine k_extract rfl rfl rfl ?_
        refine k_assign rfl rfl ?_
        refine k_assign rfl rfl ?_
        refine k_nil ?_
        refine k_keep [(0, _), (3, _), (5, _), (7, _), (9, _), (10, _), (11, _), (12, _), (14, _), (15, _), (16, _), (17, _), (19, _), (21, _)] ⟨rfl, rfl, rfl, rfl, rfl, rfl, rfl, rfl, rfl, rfl, rfl, rfl, rfl, rfl, trivial⟩ ?_
        refine k_seq ?_
        refine k_region ?_
        refine k_move rfl rfl ?_
        refine k_eql rfl rfl rfl ?_
        refine k_move rfl rfl ?_
        have hE31 : Step K0 s30 s30 := (Step.refl _).of0 (by first | exact fun _ h => h | (intro c h; simp [KC, KO, KU, KN] at h <;> omega))
        refine k_cutl (X := St) 3 [(0, .bool false), (3, .int .u64 (x3.1.toNat : Int)), (5, .int .u64 (x4.1.toNat : Int)), (7, .int .u64 (x5.1.toNat : Int)), (9, .pointer (some ⟨b19, 0, none⟩)), (10, .int .i64 x6.2.1), (11, .pointer (some ⟨b22, 0, none⟩)), (12, .int .i64 x7.2.1), (14, .int .i64 x8.2.1), (15, v27_0), (16, .int .u64 (x10.1.toNat : Int)), (17, .int .i64 x10.2.1), (19, .int .i64 x11.2.1), (21, .int .i64 x12.2.1), (83, .int .u64 (x3.1.toNat : Int)), (84, .bool (decide ((x3.1.toNat : Int) = 1)))] (fun _ => [(88, .bool (decide (((x3.1.toNat : Int) = 1) ∧ ((x4.1.toNat : Int) = 2))))]) (fun sl wL => sl.w = wL ∧ Step K0 s30 sl) ?_ ?_
        · -- the ways
          refine k_again 85 rfl ?_
          refine k_split (fun c32 => ?_) (fun c32 => ?_)
          · -- t85 True
            refine k_yes rfl rfl ?_
            refine k_move rfl rfl ?_
            refine k_yes rfl rfl ?_
            refine k_eql rfl rfl rfl ?_
            refine k_pickT rfl rfl rfl rfl ?_
            exact k_met ⟨s30, ⟨(congrArg (fun b => some (Value.bool b)) (by first | exact decide_eq_decide.2 ⟨fun h => ⟨c32, h⟩, fun h => h.2⟩ | exact (decide_eq_false (fun h => c32 h.1)).symm | (simp [c32]; done) | (simp [c32, i64] <;> omega))), trivial⟩, ⟨rfl, rfl, rfl, rfl, rfl, rfl, rfl, rfl, rfl, rfl, rfl, rfl, rfl, rfl, rfl, rfl, trivial⟩, rfl, hE31⟩
          · -- t85 False
            refine k_no rfl rfl rfl rfl ?_
            refine k_no rfl rfl rfl rfl ?_
            refine k_pickF rfl rfl rfl rfl ?_
            exact k_met ⟨s30, ⟨(congrArg (fun b => some (Value.bool b)) (by first | exact decide_eq_decide.2 ⟨fun h => ⟨c32, h⟩, fun h => h.2⟩ | exact (decide_eq_false (fun h => c32 h.1)).symm | (simp [c32]; done) | (simp [c32, i64] <;> omega))), trivial⟩, ⟨rfl, rfl, rfl, rfl, rfl, rfl, rfl, rfl, rfl, rfl, rfl, rfl, rfl, rfl, rfl, rfl, trivial⟩, rfl, hE31⟩
        · -- behind
          rintro s33 wL ⟨rfl, hE31⟩
          have szs33 := hE31.size
          have hS : Step K0 s s33 := hS.trans0 hE31
          replace h27_0 := h27_0.up2 hE31
          replace hq18_0_0 := hq18_0_0.up2 hE31
          replace h19 := h19.up2 hE31
          replace hq21_0_0 := hq21_0_0.up2 hE31
          replace h22 := h22.up2 hE31
          refine k_move rfl rfl ?_
          have hE34 : Step K0 s33 s33 := (Step.refl _).of0 (by first | exact fun _ h => h | (intro c h; simp [KC, KO, KU, KN] at h <;> omega))
          refine k_cutl (X := St) 3 [(0, .bool false), (3, .int .u64 (x3.1.toNat : Int)), (5, .int .u64 (x4.1.toNat : Int)), (7, .int .u64 (x5.1.toNat : Int)), (9, .pointer (some ⟨b19, 0, none⟩)), (10, .int .i64 x6.2.1), (11, .pointer (some ⟨b22, 0, none⟩)), (12, .int .i64 x7.2.1), (14, .int .i64 x8.2.1), (15, v27_0), (16, .int .u64 (x10.1.toNat : Int)), (17, .int .i64 x10.2.1), (19, .int .i64 x11.2.1), (21, .int .i64 x12.2.1), (83, .int .u64 (x3.1.toNat : Int)), (84, .bool (decide ((x3.1.toNat : Int) = 1))), (88, .bool (decide (((x3.1.toNat : Int) = 1) ∧ ((x4.1.toNat : Int) = 2))))] (fun _ => [(92, .bool (decide ((((x3.1.toNat : Int) = 1) ∧ ((x4.1.toNat : Int) = 2)) ∧ ((x5.1.toNat : Int) = 3))))]) (fun sl wL => sl.w = wL ∧ Step K0 s33 sl) ?_ ?_
          · -- the ways
            refine k_again 89 rfl ?_
            refine k_split (fun c35 => ?_) (fun c35 => ?_)
            · -- t89 True
              refine k_yes rfl rfl ?_
              refine k_move rfl rfl ?_
              refine k_yes rfl rfl ?_
              refine k_eql rfl rfl rfl ?_
              refine k_pickT rfl rfl rfl rfl ?_
              exact k_met ⟨s33, ⟨(congrArg (fun b => some (Value.bool b)) (by first | exact decide_eq_decide.2 ⟨fun h => ⟨c35, h⟩, fun h => h.2⟩ | exact (decide_eq_false (fun h => c35 h.1)).symm | (simp [c35]; done) | (simp [c35, i64] <;> omega))), trivial⟩, ⟨rfl, rfl, rfl, rfl, rfl, rfl, rfl, rfl, rfl, rfl, rfl, rfl, rfl, rfl, rfl, rfl, rfl, trivial⟩, rfl, hE34⟩
            · -- t89 False
              refine k_no rfl rfl rfl rfl ?_
              refine k_no rfl rfl rfl rfl ?_
              refine k_pickF rfl rfl rfl rfl ?_
              exact k_met ⟨s33, ⟨(congrArg (fun b => some (Value.bool b)) (by first | exact decide_eq_decide.2 ⟨fun h => ⟨c35, h⟩, fun h => h.2⟩ | exact (decide_eq_false (fun h => c35 h.1)).symm | (simp [c35]; done) | (simp [c35, i64] <;> omega))), trivial⟩, ⟨rfl, rfl, rfl, rfl, rfl, rfl, rfl, rfl, rfl, rfl, rfl, rfl, rfl, rfl, rfl, rfl, rfl, trivial⟩, rfl, hE34⟩
          · -- behind
            rintro s36 wL ⟨rfl, hE34⟩
            have szs36 := hE34.size
            have hS : Step K0 s s36 := hS.trans0 hE34
            replace h27_0 := h27_0.up2 hE34
            replace hq18_0_0 := hq18_0_0.up2 hE34
            replace h19 := h19.up2 hE34
            replace hq21_0_0 := hq21_0_0.up2 hE34
            replace h22 := h22.up2 hE34
            refine k_move rfl rfl ?_
            have hE37 : Step K0 s36 s36 := (Step.refl _).of0 (by first | exact fun _ h => h | (intro c h; simp [KC, KO, KU, KN] at h <;> omega))
            refine k_cutl (X := St) 3 [(0, .bool false), (3, .int .u64 (x3.1.toNat : Int)), (5, .int .u64 (x4.1.toNat : Int)), (7, .int .u64 (x5.1.toNat : Int)), (9, .pointer (some ⟨b19, 0, none⟩)), (10, .int .i64 x6.2.1), (11, .pointer (some ⟨b22, 0, none⟩)), (12, .int .i64 x7.2.1), (14, .int .i64 x8.2.1), (15, v27_0), (16, .int .u64 (x10.1.toNat : Int)), (17, .int .i64 x10.2.1), (19, .int .i64 x11.2.1), (21, .int .i64 x12.2.1), (83, .int .u64 (x3.1.toNat : Int)), (84, .bool (decide ((x3.1.toNat : Int) = 1))), (88, .bool (decide (((x3.1.toNat : Int) = 1) ∧ ((x4.1.toNat : Int) = 2)))), (92, .bool (decide ((((x3.1.toNat : Int) = 1) ∧ ((x4.1.toNat : Int) = 2)) ∧ ((x5.1.toNat : Int) = 3))))] (fun _ => [(96, .bool (decide (((((x3.1.toNat : Int) = 1) ∧ ((x4.1.toNat : Int) = 2)) ∧ ((x5.1.toNat : Int) = 3)) ∧ (x6.2.1 = 0))))]) (fun sl wL => sl.w = wL ∧ Step K0 s36 sl) ?_ ?_
            · -- the ways
              refine k_again 93 rfl ?_
              refine k_split (fun c38 => ?_) (fun c38 => ?_)
              · -- t93 True
                refine k_yes rfl rfl ?_
                refine k_move rfl rfl ?_
                refine k_yes rfl rfl ?_
                refine k_eql rfl rfl rfl ?_
                refine k_pickT rfl rfl rfl rfl ?_
                exact k_met ⟨s36, ⟨(congrArg (fun b => some (Value.bool b)) (by first | exact decide_eq_decide.2 ⟨fun h => ⟨c38, h⟩, fun h => h.2⟩ | exact (decide_eq_false (fun h => c38 h.1)).symm | (simp [c38]; done) | (simp [c38, i64] <;> omega))), trivial⟩, ⟨rfl, rfl, rfl, rfl, rfl, rfl, rfl, rfl, rfl, rfl, rfl, rfl, rfl, rfl, rfl, rfl, rfl, rfl, trivial⟩, rfl, hE37⟩
              · -- t93 False
                refine k_no rfl rfl rfl rfl ?_
                refine k_no rfl rfl rfl rfl ?_
                refine k_pickF rfl rfl rfl rfl ?_
                exact k_met ⟨s36, ⟨(congrArg (fun b => some (Value.bool b)) (by first | exact decide_eq_decide.2 ⟨fun h => ⟨c38, h⟩, fun h => h.2⟩ | exact (decide_eq_false (fun h => c38 h.1)).symm | (simp [c38]; done) | (simp [c38, i64] <;> omega))), trivial⟩, ⟨rfl, rfl, rfl, rfl, rfl, rfl, rfl, rfl, rfl, rfl, rfl, rfl, rfl, rfl, rfl, rfl, rfl, rfl, trivial⟩, rfl, hE37⟩
            · -- behind
              rintro s39 wL ⟨rfl, hE37⟩
              have szs39 := hE37.size
              have hS : Step K0 s s39 := hS.trans0 hE37
              replace h27_0 := h27_0.up2 hE37
              replace hq18_0_0 := hq18_0_0.up2 hE37
              replace h19 := h19.up2 hE37
              replace hq21_0_0 := hq21_0_0.up2 hE37
              replace h22 := h22.up2 hE37
              refine k_move rfl rfl ?_
              have hE40 : Step K0 s39 s39 := (Step.refl _).of0 (by first | exact fun _ h => h | (intro c h; simp [KC, KO, KU, KN] at h <;> omega))
              refine k_cutl (X := St) 4 [(0, .bool false), (3, .int .u64 (x3.1.toNat : Int)), (5, .int .u64 (x4.1.toNat : Int)), (7, .int .u64 (x5.1.toNat : Int)), (9, .pointer (some ⟨b19, 0, none⟩)), (10, .int .i64 x6.2.1), (11, .pointer (some ⟨b22, 0, none⟩)), (12, .int .i64 x7.2.1), (14, .int .i64 x8.2.1), (15, v27_0), (16, .int .u64 (x10.1.toNat : Int)), (17, .int .i64 x10.2.1), (19, .int .i64 x11.2.1), (21, .int .i64 x12.2.1), (83, .int .u64 (x3.1.toNat : Int)), (84, .bool (decide ((x3.1.toNat : Int) = 1))), (88, .bool (decide (((x3.1.toNat : Int) = 1) ∧ ((x4.1.toNat : Int) = 2)))), (92, .bool (decide ((((x3.1.toNat : Int) = 1) ∧ ((x4.1.toNat : Int) = 2)) ∧ ((x5.1.toNat : Int) = 3)))), (96, .bool (decide (((((x3.1.toNat : Int) = 1) ∧ ((x4.1.toNat : Int) = 2)) ∧ ((x5.1.toNat : Int) = 3)) ∧ (x6.2.1 = 0))))] (fun _ => [(101, .bool (decide ((((((x3.1.toNat : Int) = 1) ∧ ((x4.1.toNat : Int) = 2)) ∧ ((x5.1.toNat : Int) = 3)) ∧ (x6.2.1 = 0)) ∧ (x6.1.From = 1))))]) (fun sl wL => sl.w = wL ∧ Step K0 s39 sl) ?_ ?_
              · -- the ways
                refine k_again 97 rfl ?_
                refine k_split (fun c41 => ?_) (fun c41 => ?_)
                · -- t97 True
                  refine k_yes rfl rfl ?_
                  refine k_field_addr fld36_0 rfl rfl ?_
                  refine k_yes rfl rfl ?_
                  refine k_load_blk one3 rfl h19 rfl rfl ?_
                  refine k_yes rfl rfl ?_
                  refine k_eql rfl rfl rfl ?_
                  refine k_pickT rfl rfl rfl rfl ?_
                  exact k_met ⟨s39, ⟨(congrArg (fun b => some (Value.bool b)) (by first | exact decide_eq_decide.2 ⟨fun h => ⟨c41, h⟩, fun h => h.2⟩ | exact (decide_eq_false (fun h => c41 h.1)).symm | (simp [c41]; done) | (simp [c41, i64] <;> omega))), trivial⟩, ⟨rfl, rfl, rfl, rfl, rfl, rfl, rfl, rfl, rfl, rfl, rfl, rfl, rfl, rfl, rfl, rfl, rfl, rfl, rfl, trivial⟩, rfl, hE40⟩
                · -- t97 False
                  refine k_no rfl rfl rfl rfl ?_
                  refine k_no rfl rfl rfl rfl ?_
                  refine k_no rfl rfl rfl rfl ?_
                  refine k_pickF rfl rfl rfl rfl ?_
                  exact k_met ⟨s39, ⟨(congrArg (fun b => some (Value.bool b)) (by first | exact decide_eq_decide.2 ⟨fun h => ⟨c41, h⟩, fun h => h.2⟩ | exact (decide_eq_false (fun h => c41 h.1)).symm | (simp [c41]; done) | (simp [c41, i64] <;> omega))), trivial⟩, ⟨rfl, rfl, rfl, rfl, rfl, rfl, rfl, rfl, rfl, rfl, rfl, rfl, rfl, rfl, rfl, rfl, rfl, rfl, rfl, trivial⟩, rfl, hE40⟩
              · -- behind
                rintro s42 wL ⟨rfl, hE40⟩
                have szs42 := hE40.size
                have hS : Step K0 s s42 := hS.trans0 hE40
                replace h27_0 := h27_0.up2 hE40
                replace hq18_0_0 := hq18_0_0.up2 hE40
                replace h19 := h19.up2 hE40
                replace hq21_0_0 := hq21_0_0.up2 hE40
                replace h22 := h22.up2 hE40
                refine k_move rfl rfl ?_
                have hE43 : Step K0 s42 s42 := (Step.refl _).of0 (by first | exact fun _ h => h | (intro c h; simp [KC, KO, KU, KN] at h <;> omega))
                refine k_cutl (X := St) 4 [(0, .bool false), (3, .int .u64 (x3.1.toNat : Int)), (5, .int .u64 (x4.1.toNat : Int)), (7, .int .u64 (x5.1.toNat : Int)), (9, .pointer (some ⟨b19, 0, none⟩)), (10, .int .i64 x6.2.1), (11, .pointer (some ⟨b22, 0, none⟩)), (12, .int .i64 x7.2.1), (14, .int .i64 x8.2.1), (15, v27_0), (16, .int .u64 (x10.1.toNat : Int)), (17, .int .i64 x10.2.1), (19, .int .i64 x11.2.1), (21, .int .i64 x12.2.1), (83, .int .u64 (x3.1.toNat : Int)), (84, .bool (decide ((x3.1.toNat : Int) = 1))), (88, .bool (decide (((x3.1.toNat : Int) = 1) ∧ ((x4.1.toNat : Int) = 2)))), (92, .bool (decide ((((x3.1.toNat : Int) = 1) ∧ ((x4.1.toNat : Int) = 2)) ∧ ((x5.1.toNat : Int) = 3)))), (96, .bool (decide (((((x3.1.toNat : Int) = 1) ∧ ((x4.1.toNat : Int) = 2)) ∧ ((x5.1.toNat : Int) = 3)) ∧ (x6.2.1 = 0)))), (101, .bool (decide ((((((x3.1.toNat : Int) = 1) ∧ ((x4.1.toNat : Int) = 2)) ∧ ((x5.1.toNat : Int) = 3)) ∧ (x6.2.1 = 0)) ∧ (x6.1.From = 1))))] (fun _ => [(106, .bool (decide (((((((x3.1.toNat : Int) = 1) ∧ ((x4.1.toNat : Int) = 2)) ∧ ((x5.1.toNat : Int) = 3)) ∧ (x6.2.1 = 0)) ∧ (x6.1.From = 1)) ∧ (x6.1.To = 2))))]) (fun sl wL => sl.w = wL ∧ Step K0 s42 sl) ?_ ?_
                · -- the ways
                  refine k_again 102 rfl ?_
                  refine k_split (fun c44 => ?_) (fun c44 => ?_)
                  · -- t102 True
                    refine k_yes rfl rfl ?_
                    refine k_field_addr fld36_1 rfl rfl ?_
                    refine k_yes rfl rfl ?_
                    refine k_load_blk one3 rfl h19 rfl rfl ?_
                    refine k_yes rfl rfl ?_
                    refine k_eql rfl rfl rfl ?_
                    refine k_pickT rfl rfl rfl rfl ?_
                    exact k_met ⟨s42, ⟨(congrArg (fun b => some (Value.bool b)) (by first | exact decide_eq_decide.2 ⟨fun h => ⟨c44, h⟩, fun h => h.2⟩ | exact (decide_eq_false (fun h => c44 h.1)).symm | (simp [c44]; done) | (simp [c44, i64] <;> omega))), trivial⟩, ⟨rfl, rfl, rfl, rfl, rfl, rfl, rfl, rfl, rfl, rfl, rfl, rfl, rfl, rfl, rfl, rfl, rfl, rfl, rfl, rfl, trivial⟩, rfl, hE43⟩
                  · -- t102 False
                    refine k_no rfl rfl rfl rfl ?_
                    refine k_no rfl rfl rfl rfl ?_
                    refine k_no rfl rfl rfl rfl ?_
                    refine k_pickF rfl rfl rfl rfl ?_
                    exact k_met ⟨s42, ⟨(congrArg (fun b => some (Value.bool b)) (by first | exact decide_eq_decide.2 ⟨fun h => ⟨c44, h⟩, fun h => h.2⟩ | exact (decide_eq_false (fun h => c44 h.1)).symm | (simp [c44]; done) | (simp [c44, i64] <;> omega))), trivial⟩, ⟨rfl, rfl, rfl, rfl, rfl, rfl, rfl, rfl, rfl, rfl, rfl, rfl, rfl, rfl, rfl, rfl, rfl, rfl, rfl, rfl, trivial⟩, rfl, hE43⟩
                · -- behind
                  rintro s45 wL ⟨rfl, hE43⟩
                  have szs45 := hE43.size
                  have hS : Step K0 s s45 := hS.trans0 hE43
                  replace h27_0 := h27_0.up2 hE43
                  replace hq18_0_0 := hq18_0_0.up2 hE43
                  replace h19 := h19.up2 hE43
                  replace hq21_0_0 := hq21_0_0.up2 hE43
                  replace h22 := h22.up2 hE43
                  refine k_move rfl rfl ?_
                  have hE46 : Step K0 s45 s45 := (Step.refl _).of0 (by first | exact fun _ h => h | (intro c h; simp [KC, KO, KU, KN] at h <;> omega))
                  refine k_cutl (X := St) 5 [(0, .bool false), (3, .int .u64 (x3.1.toNat : Int)), (5, .int .u64 (x4.1.toNat : Int)), (7, .int .u64 (x5.1.toNat : Int)), (9, .pointer (some ⟨b19, 0, none⟩)), (10, .int .i64 x6.2.1), (11, .pointer (some ⟨b22, 0, none⟩)), (12, .int .i64 x7.2.1), (14, .int .i64 x8.2.1), (15, v27_0), (16, .int .u64 (x10.1.toNat : Int)), (17, .int .i64 x10.2.1), (19, .int .i64 x11.2.1), (21, .int .i64 x12.2.1), (83, .int .u64 (x3.1.toNat : Int)), (84, .bool (decide ((x3.1.toNat : Int) = 1))), (88, .bool (decide (((x3.1.toNat : Int) = 1) ∧ ((x4.1.toNat : Int) = 2)))), (92, .bool (decide ((((x3.1.toNat : Int) = 1) ∧ ((x4.1.toNat : Int) = 2)) ∧ ((x5.1.toNat : Int) = 3)))), (96, .bool (decide (((((x3.1.toNat : Int) = 1) ∧ ((x4.1.toNat : Int) = 2)) ∧ ((x5.1.toNat : Int) = 3)) ∧ (x6.2.1 = 0)))), (101, .bool (decide ((((((x3.1.toNat : Int) = 1) ∧ ((x4.1.toNat : Int) = 2)) ∧ ((x5.1.toNat : Int) = 3)) ∧ (x6.2.1 = 0)) ∧ (x6.1.From = 1)))), (106, .bool (decide (((((((x3.1.toNat : Int) = 1) ∧ ((x4.1.toNat : Int) = 2)) ∧ ((x5.1.toNat : Int) = 3)) ∧ (x6.2.1 = 0)) ∧ (x6.1.From = 1)) ∧ (x6.1.To = 2))))] (fun _ => [(112, .bool (decide ((((((((x3.1.toNat : Int) = 1) ∧ ((x4.1.toNat : Int) = 2)) ∧ ((x5.1.toNat : Int) = 3)) ∧ (x6.2.1 = 0)) ∧ (x6.1.From = 1)) ∧ (x6.1.To = 2)) ∧ (x6.1.Bytes = ([97] : List UInt8)))))]) (fun sl wL => sl.w = wL ∧ Step K0 s45 sl) ?_ ?_
                  · -- the ways
                    refine k_again 107 rfl ?_
                    refine k_split (fun c47 => ?_) (fun c47 => ?_)
                    · -- t107 True
                      refine k_yes rfl rfl ?_
                      refine k_field_addr fld36_2 rfl rfl ?_
                      refine k_yes rfl rfl ?_
                      refine k_load_blk one23 rfl h19 rfl rfl ?_
                      refine k_yes rfl rfl ?_
                      refine k_bts (m := x6.1.Bytes) Try.underlying23 Try.underlying5 Try.underlying9 rfl (SL.of_R hq18_0_0) rfl ?_
                      refine k_yes rfl rfl ?_
                      refine k_eql_str rfl rfl rfl ?_
                      refine k_pickT rfl rfl rfl rfl ?_
                      exact k_met ⟨s45, ⟨(congrArg (fun b => some (Value.bool b)) (by first | exact decide_eq_decide.2 ⟨fun h => ⟨c47, h⟩, fun h => h.2⟩ | exact (decide_eq_false (fun h => c47 h.1)).symm | (simp [c47]; done) | (simp [c47, i64] <;> omega))), trivial⟩, ⟨rfl, rfl, rfl, rfl, rfl, rfl, rfl, rfl, rfl, rfl, rfl, rfl, rfl, rfl, rfl, rfl, rfl, rfl, rfl, rfl, rfl, trivial⟩, rfl, hE46⟩
                    · -- t107 False
                      refine k_no rfl rfl rfl rfl ?_
                      refine k_no rfl rfl rfl rfl ?_
                      refine k_no rfl rfl rfl rfl ?_
                      refine k_no rfl rfl rfl rfl ?_
                      refine k_pickF rfl rfl rfl rfl ?_
                      exact k_met ⟨s45, ⟨(congrArg (fun b => some (Value.bool b)) (by first | exact decide_eq_decide.2 ⟨fun h => ⟨c47, h⟩, fun h => h.2⟩ | exact (decide_eq_false (fun h => c47 h.1)).symm | (simp [c47]; done) | (simp [c47, i64] <;> omega))), trivial⟩, ⟨rfl, rfl, rfl, rfl, rfl, rfl, rfl, rfl, rfl, rfl, rfl, rfl, rfl, rfl, rfl, rfl, rfl, rfl, rfl, rfl, rfl, trivial⟩, rfl, hE46⟩
                  · -- behind
                    rintro s48 wL ⟨rfl, hE46⟩
                    have szs48 := hE46.size
                    have hS : Step K0 s s48 := hS.trans0 hE46
                    replace h27_0 := h27_0.up2 hE46
                    replace hq18_0_0 := hq18_0_0.up2 hE46
                    replace h19 := h19.up2 hE46
                    replace hq21_0_0 := hq21_0_0.up2 hE46
                    replace h22 := h22.up2 hE46
                    refine k_move rfl rfl ?_
                    have hE49 : Step K0 s48 s48 := (Step.refl _).of0 (by first | exact fun _ h => h | (intro c h; simp [KC, KO, KU, KN] at h <;> omega))
                    refine k_cutl (X := St) 3 [(0, .bool false), (3, .int .u64 (x3.1.toNat : Int)), (5, .int .u64 (x4.1.toNat : Int)), (7, .int .u64 (x5.1.toNat : Int)), (9, .pointer (some ⟨b19, 0, none⟩)), (10, .int .i64 x6.2.1), (11, .pointer (some ⟨b22, 0, none⟩)), (12, .int .i64 x7.2.1), (14, .int .i64 x8.2.1), (15, v27_0), (16, .int .u64 (x10.1.toNat : Int)), (17, .int .i64 x10.2.1), (19, .int .i64 x11.2.1), (21, .int .i64 x12.2.1), (83, .int .u64 (x3.1.toNat : Int)), (84, .bool (decide ((x3.1.toNat : Int) = 1))), (88, .bool (decide (((x3.1.toNat : Int) = 1) ∧ ((x4.1.toNat : Int) = 2)))), (92, .bool (decide ((((x3.1.toNat : Int) = 1) ∧ ((x4.1.toNat : Int) = 2)) ∧ ((x5.1.toNat : Int) = 3)))), (96, .bool (decide (((((x3.1.toNat : Int) = 1) ∧ ((x4.1.toNat : Int) = 2)) ∧ ((x5.1.toNat : Int) = 3)) ∧ (x6.2.1 = 0)))), (101, .bool (decide ((((((x3.1.toNat : Int) = 1) ∧ ((x4.1.toNat : Int) = 2)) ∧ ((x5.1.toNat : Int) = 3)) ∧ (x6.2.1 = 0)) ∧ (x6.1.From = 1)))), (106, .bool (decide (((((((x3.1.toNat : Int) = 1) ∧ ((x4.1.toNat : Int) = 2)) ∧ ((x5.1.toNat : Int) = 3)) ∧ (x6.2.1 = 0)) ∧ (x6.1.From = 1)) ∧ (x6.1.To = 2)))), (112, .bool (decide ((((((((x3.1.toNat : Int) = 1) ∧ ((x4.1.toNat : Int) = 2)) ∧ ((x5.1.toNat : Int) = 3)) ∧ (x6.2.1 = 0)) ∧ (x6.1.From = 1)) ∧ (x6.1.To = 2)) ∧ (x6.1.Bytes = ([97] : List UInt8)))))] (fun _ => [(116, .bool (decide (((((((((x3.1.toNat : Int) = 1) ∧ ((x4.1.toNat : Int) = 2)) ∧ ((x5.1.toNat : Int) = 3)) ∧ (x6.2.1 = 0)) ∧ (x6.1.From = 1)) ∧ (x6.1.To = 2)) ∧ (x6.1.Bytes = ([97] : List UInt8))) ∧ (x7.2.1 = 0))))]) (fun sl wL => sl.w = wL ∧ Step K0 s48 sl) ?_ ?_
                    · -- the ways
                      refine k_again 113 rfl ?_
                      refine k_split (fun c50 => ?_) (fun c50 => ?_)
                      · -- t113 True
                        refine k_yes rfl rfl ?_
                        refine k_move rfl rfl ?_
                        refine k_yes rfl rfl ?_
                        refine k_eql rfl rfl rfl ?_
                        refine k_pickT rfl rfl rfl rfl ?_
                        exact k_met ⟨s48, ⟨(congrArg (fun b => some (Value.bool b)) (by first | exact decide_eq_decide.2 ⟨fun h => ⟨c50, h⟩, fun h => h.2⟩ | exact (decide_eq_false (fun h => c50 h.1)).symm | (simp [c50]; done) | (simp [c50, i64] <;> omega))), trivial⟩, ⟨rfl, rfl, rfl, rfl, rfl, rfl, rfl, rfl, rfl, rfl, rfl, rfl, rfl, rfl, rfl, rfl, rfl, rfl, rfl, rfl, rfl, rfl, trivial⟩, rfl, hE49⟩
                      · -- t113 False
                        refine k_no rfl rfl rfl rfl ?_
                        refine k_no rfl rfl rfl rfl ?_
                        refine k_pickF rfl rfl rfl rfl ?_
                        exact k_met ⟨s48, ⟨(congrArg (fun b => some (Value.bool b)) (by first | exact decide_eq_decide.2 ⟨fun h => ⟨c50, h⟩, fun h => h.2⟩ | exact (decide_eq_false (fun h => c50 h.1)).symm | (simp [c50]; done) | (simp [c50, i64] <;> omega))), trivial⟩, ⟨rfl, rfl, rfl, rfl, rfl, rfl, rfl, rfl, rfl, rfl, rfl, rfl, rfl, rfl, rfl, rfl, rfl, rfl, rfl, rfl, rfl, rfl, trivial⟩, rfl, hE49⟩
                    · -- behind
                      rintro s51 wL ⟨rfl, hE49⟩
                      have szs51 := hE49.size
                      have hS : Step K0 s s51 := hS.trans0 hE49
                      replace h27_0 := h27_0.up2 hE49
                      replace hq18_0_0 := hq18_0_0.up2 hE49
                      replace h19 := h19.up2 hE49
                      replace hq21_0_0 := hq21_0_0.up2 hE49
                      replace h22 := h22.up2 hE49
                      refine k_move rfl rfl ?_
                      have hE52 : Step K0 s51 s51 := (Step.refl _).of0 (by first | exact fun _ h => h | (intro c h; simp [KC, KO, KU, KN] at h <;> omega))
                      refine k_cutl (X := St) 5 [(0, .bool false), (3, .int .u64 (x3.1.toNat : Int)), (5, .int .u64 (x4.1.toNat : Int)), (7, .int .u64 (x5.1.toNat : Int)), (9, .pointer (some ⟨b19, 0, none⟩)), (10, .int .i64 x6.2.1), (11, .pointer (some ⟨b22, 0, none⟩)), (12, .int .i64 x7.2.1), (14, .int .i64 x8.2.1), (15, v27_0), (16, .int .u64 (x10.1.toNat : Int)), (17, .int .i64 x10.2.1), (19, .int .i64 x11.2.1), (21, .int .i64 x12.2.1), (83, .int .u64 (x3.1.toNat : Int)), (84, .bool (decide ((x3.1.toNat : Int) = 1))), (88, .bool (decide (((x3.1.toNat : Int) = 1) ∧ ((x4.1.toNat : Int) = 2)))), (92, .bool (decide ((((x3.1.toNat : Int) = 1) ∧ ((x4.1.toNat : Int) = 2)) ∧ ((x5.1.toNat : Int) = 3)))), (96, .bool (decide (((((x3.1.toNat : Int) = 1) ∧ ((x4.1.toNat : Int) = 2)) ∧ ((x5.1.toNat : Int) = 3)) ∧ (x6.2.1 = 0)))), (101, .bool (decide ((((((x3.1.toNat : Int) = 1) ∧ ((x4.1.toNat : Int) = 2)) ∧ ((x5.1.toNat : Int) = 3)) ∧ (x6.2.1 = 0)) ∧ (x6.1.From = 1)))), (106, .bool (decide (((((((x3.1.toNat : Int) = 1) ∧ ((x4.1.toNat : Int) = 2)) ∧ ((x5.1.toNat : Int) = 3)) ∧ (x6.2.1 = 0)) ∧ (x6.1.From = 1)) ∧ (x6.1.To = 2)))), (112, .bool (decide ((((((((x3.1.toNat : Int) = 1) ∧ ((x4.1.toNat : Int) = 2)) ∧ ((x5.1.toNat : Int) = 3)) ∧ (x6.2.1 = 0)) ∧ (x6.1.From = 1)) ∧ (x6.1.To = 2)) ∧ (x6.1.Bytes = ([97] : List UInt8))))), (116, .bool (decide (((((((((x3.1.toNat : Int) = 1) ∧ ((x4.1.toNat : Int) = 2)) ∧ ((x5.1.toNat : Int) = 3)) ∧ (x6.2.1 = 0)) ∧ (x6.1.From = 1)) ∧ (x6.1.To = 2)) ∧ (x6.1.Bytes = ([97] : List UInt8))) ∧ (x7.2.1 = 0))))] (fun _ => [(122, .bool (decide ((((((((((x3.1.toNat : Int) = 1) ∧ ((x4.1.toNat : Int) = 2)) ∧ ((x5.1.toNat : Int) = 3)) ∧ (x6.2.1 = 0)) ∧ (x6.1.From = 1)) ∧ (x6.1.To = 2)) ∧ (x6.1.Bytes = ([97] : List UInt8))) ∧ (x7.2.1 = 0)) ∧ (x7.1.Bytes = ([97] : List UInt8)))))]) (fun sl wL => sl.w = wL ∧ Step K0 s51 sl) ?_ ?_
                      · -- the ways
                        refine k_again 117 rfl ?_
                        refine k_split (fun c53 => ?_) (fun c53 => ?_)
                        · -- t117 True
                          refine k_yes rfl rfl ?_
                          refine k_field_addr fld36_2 rfl rfl ?_
                          refine k_yes rfl rfl ?_
                          refine k_load_blk one23 rfl h22 rfl rfl ?_
                          refine k_yes rfl rfl ?_
                          refine k_bts (m := x7.1.Bytes) Try.underlying23 Try.underlying5 Try.underlying9 rfl (SL.of_R hq21_0_0) rfl ?_
                          refine k_yes rfl rfl ?_
                          refine k_eql_str rfl rfl rfl ?_
                          refine k_pickT rfl rfl rfl rfl ?_
                          exact k_met ⟨s51, ⟨(congrArg (fun b => some (Value.bool b)) (by first | exact decide_eq_decide.2 ⟨fun h => ⟨c53, h⟩, fun h => h.2⟩ | exact (decide_eq_false (fun h => c53 h.1)).symm | (simp [c53]; done) | (simp [c53, i64] <;> omega))), trivial⟩, ⟨rfl, rfl, rfl, rfl, rfl, rfl, rfl, rfl, rfl, rfl, rfl, rfl, rfl, rfl, rfl, rfl, rfl, rfl, rfl, rfl, rfl, rfl, rfl, trivial⟩, rfl, hE52⟩
                        · -- t117 False
                          refine k_no rfl rfl rfl rfl ?_
                          refine k_no rfl rfl rfl rfl ?_
                          refine k_no rfl rfl rfl rfl ?_
                          refine k_no rfl rfl rfl rfl ?_
                          refine k_pickF rfl rfl rfl rfl ?_
                          exact k_met ⟨s51, ⟨(congrArg (fun b => some (Value.bool b)) (by first | exact decide_eq_decide.2 ⟨fun h => ⟨c53, h⟩, fun h => h.2⟩ | exact (decide_eq_false (fun h => c53 h.1)).symm | (simp [c53]; done) | (simp [c53, i64] <;> omega))), trivial⟩, ⟨rfl, rfl, rfl, rfl, rfl, rfl, rfl, rfl, rfl, rfl, rfl, rfl, rfl, rfl, rfl, rfl, rfl, rfl, rfl, rfl, rfl, rfl, rfl, trivial⟩, rfl, hE52⟩
                      · -- behind
                        rintro s54 wL ⟨rfl, hE52⟩
                        have szs54 := hE52.size
                        have hS : Step K0 s s54 := hS.trans0 hE52
                        replace h27_0 := h27_0.up2 hE52
                        replace hq18_0_0 := hq18_0_0.up2 hE52
                        replace h19 := h19.up2 hE52
                        replace hq21_0_0 := hq21_0_0.up2 hE52
                        replace h22 := h22.up2 hE52
                        refine k_move rfl rfl ?_
                        have hE55 : Step K0 s54 s54 := (Step.refl _).of0 (by first | exact fun _ h => h | (intro c h; simp [KC, KO, KU, KN] at h <;> omega))
                        refine k_cutl (X := St) 3 [(0, .bool false), (3, .int .u64 (x3.1.toNat : Int)), (5, .int .u64 (x4.1.toNat : Int)), (7, .int .u64 (x5.1.toNat : Int)), (9, .pointer (some ⟨b19, 0, none⟩)), (10, .int .i64 x6.2.1), (11, .pointer (some ⟨b22, 0, none⟩)), (12, .int .i64 x7.2.1), (14, .int .i64 x8.2.1), (15, v27_0), (16, .int .u64 (x10.1.toNat : Int)), (17, .int .i64 x10.2.1), (19, .int .i64 x11.2.1), (21, .int .i64 x12.2.1), (83, .int .u64 (x3.1.toNat : Int)), (84, .bool (decide ((x3.1.toNat : Int) = 1))), (88, .bool (decide (((x3.1.toNat : Int) = 1) ∧ ((x4.1.toNat : Int) = 2)))), (92, .bool (decide ((((x3.1.toNat : Int) = 1) ∧ ((x4.1.toNat : Int) = 2)) ∧ ((x5.1.toNat : Int) = 3)))), (96, .bool (decide (((((x3.1.toNat : Int) = 1) ∧ ((x4.1.toNat : Int) = 2)) ∧ ((x5.1.toNat : Int) = 3)) ∧ (x6.2.1 = 0)))), (101, .bool (decide ((((((x3.1.toNat : Int) = 1) ∧ ((x4.1.toNat : Int) = 2)) ∧ ((x5.1.toNat : Int) = 3)) ∧ (x6.2.1 = 0)) ∧ (x6.1.From = 1)))), (106, .bool (decide (((((((x3.1.toNat : Int) = 1) ∧ ((x4.1.toNat : Int) = 2)) ∧ ((x5.1.toNat : Int) = 3)) ∧ (x6.2.1 = 0)) ∧ (x6.1.From = 1)) ∧ (x6.1.To = 2)))), (112, .bool (decide ((((((((x3.1.toNat : Int) = 1) ∧ ((x4.1.toNat : Int) = 2)) ∧ ((x5.1.toNat : Int) = 3)) ∧ (x6.2.1 = 0)) ∧ (x6.1.From = 1)) ∧ (x6.1.To = 2)) ∧ (x6.1.Bytes = ([97] : List UInt8))))), (116, .bool (decide (((((((((x3.1.toNat : Int) = 1) ∧ ((x4.1.toNat : Int) = 2)) ∧ ((x5.1.toNat : Int) = 3)) ∧ (x6.2.1 = 0)) ∧ (x6.1.From = 1)) ∧ (x6.1.To = 2)) ∧ (x6.1.Bytes = ([97] : List UInt8))) ∧ (x7.2.1 = 0)))), (122, .bool (decide ((((((((((x3.1.toNat : Int) = 1) ∧ ((x4.1.toNat : Int) = 2)) ∧ ((x5.1.toNat : Int) = 3)) ∧ (x6.2.1 = 0)) ∧ (x6.1.From = 1)) ∧ (x6.1.To = 2)) ∧ (x6.1.Bytes = ([97] : List UInt8))) ∧ (x7.2.1 = 0)) ∧ (x7.1.Bytes = ([97] : List UInt8)))))] (fun _ => [(126, .bool (decide (((((((((((x3.1.toNat : Int) = 1) ∧ ((x4.1.toNat : Int) = 2)) ∧ ((x5.1.toNat : Int) = 3)) ∧ (x6.2.1 = 0)) ∧ (x6.1.From = 1)) ∧ (x6.1.To = 2)) ∧ (x6.1.Bytes = ([97] : List UInt8))) ∧ (x7.2.1 = 0)) ∧ (x7.1.Bytes = ([97] : List UInt8))) ∧ (x8.2.1 = 4))))]) (fun sl wL => sl.w = wL ∧ Step K0 s54 sl) ?_ ?_
                        · -- the ways
                          refine k_again 123 rfl ?_
                          refine k_split (fun c56 => ?_) (fun c56 => ?_)
                          · -- t123 True
                            refine k_yes rfl rfl ?_
                            refine k_move rfl rfl ?_
                            refine k_yes rfl rfl ?_
                            refine k_eql rfl rfl rfl ?_
                            refine k_pickT rfl rfl rfl rfl ?_
                            exact k_met ⟨s54, ⟨(congrArg (fun b => some (Value.bool b)) (by first | exact decide_eq_decide.2 ⟨fun h => ⟨c56, h⟩, fun h => h.2⟩ | exact (decide_eq_false (fun h => c56 h.1)).symm | (simp [c56]; done) | (simp [c56, i64] <;> omega))), trivial⟩, ⟨rfl, rfl, rfl, rfl, rfl, rfl, rfl, rfl, rfl, rfl, rfl, rfl, rfl, rfl, rfl, rfl, rfl, rfl, rfl, rfl, rfl, rfl, rfl, rfl, trivial⟩, rfl, hE55⟩
                          · -- t123 False
                            refine k_no rfl rfl rfl rfl ?_
                            refine k_no rfl rfl rfl rfl ?_
                            refine k_pickF rfl rfl rfl rfl ?_
                            exact k_met ⟨s54, ⟨(congrArg (fun b => some (Value.bool b)) (by first | exact decide_eq_decide.2 ⟨fun h => ⟨c56, h⟩, fun h => h.2⟩ | exact (decide_eq_false (fun h => c56 h.1)).symm | (simp [c56]; done) | (simp [c56, i64] <;> omega))), trivial⟩, ⟨rfl, rfl, rfl, rfl, rfl, rfl, rfl, rfl, rfl, rfl, rfl, rfl, rfl, rfl, rfl, rfl, rfl, rfl, rfl, rfl, rfl, rfl, rfl, rfl, trivial⟩, rfl, hE55⟩
                        · -- behind
                          rintro s57 wL ⟨rfl, hE55⟩
                          have szs57 := hE55.size
                          have hS : Step K0 s s57 := hS.trans0 hE55
                          replace h27_0 := h27_0.up2 hE55
                          replace hq18_0_0 := hq18_0_0.up2 hE55
                          replace h19 := h19.up2 hE55
                          replace hq21_0_0 := hq21_0_0.up2 hE55
                          replace h22 := h22.up2 hE55
                          refine k_move rfl rfl ?_
                          have hE58 : Step K0 s57 s57 := (Step.refl _).of0 (by first | exact fun _ h => h | (intro c h; simp [KC, KO, KU, KN] at h <;> omega))
                          refine k_cutl (X := St) 4 [(0, .bool false), (3, .int .u64 (x3.1.toNat : Int)), (5, .int .u64 (x4.1.toNat : Int)), (7, .int .u64 (x5.1.toNat : Int)), (9, .pointer (some ⟨b19, 0, none⟩)), (10, .int .i64 x6.2.1), (11, .pointer (some ⟨b22, 0, none⟩)), (12, .int .i64 x7.2.1), (14, .int .i64 x8.2.1), (15, v27_0), (16, .int .u64 (x10.1.toNat : Int)), (17, .int .i64 x10.2.1), (19, .int .i64 x11.2.1), (21, .int .i64 x12.2.1), (83, .int .u64 (x3.1.toNat : Int)), (84, .bool (decide ((x3.1.toNat : Int) = 1))), (88, .bool (decide (((x3.1.toNat : Int) = 1) ∧ ((x4.1.toNat : Int) = 2)))), (92, .bool (decide ((((x3.1.toNat : Int) = 1) ∧ ((x4.1.toNat : Int) = 2)) ∧ ((x5.1.toNat : Int) = 3)))), (96, .bool (decide (((((x3.1.toNat : Int) = 1) ∧ ((x4.1.toNat : Int) = 2)) ∧ ((x5.1.toNat : Int) = 3)) ∧ (x6.2.1 = 0)))), (101, .bool (decide ((((((x3.1.toNat : Int) = 1) ∧ ((x4.1.toNat : Int) = 2)) ∧ ((x5.1.toNat : Int) = 3)) ∧ (x6.2.1 = 0)) ∧ (x6.1.From = 1)))), (106, .bool (decide (((((((x3.1.toNat : Int) = 1) ∧ ((x4.1.toNat : Int) = 2)) ∧ ((x5.1.toNat : Int) = 3)) ∧ (x6.2.1 = 0)) ∧ (x6.1.From = 1)) ∧ (x6.1.To = 2)))), (112, .bool (decide ((((((((x3.1.toNat : Int) = 1) ∧ ((x4.1.toNat : Int) = 2)) ∧ ((x5.1.toNat : Int) = 3)) ∧ (x6.2.1 = 0)) ∧ (x6.1.From = 1)) ∧ (x6.1.To = 2)) ∧ (x6.1.Bytes = ([97] : List UInt8))))), (116, .bool (decide (((((((((x3.1.toNat : Int) = 1) ∧ ((x4.1.toNat : Int) = 2)) ∧ ((x5.1.toNat : Int) = 3)) ∧ (x6.2.1 = 0)) ∧ (x6.1.From = 1)) ∧ (x6.1.To = 2)) ∧ (x6.1.Bytes = ([97] : List UInt8))) ∧ (x7.2.1 = 0)))), (122, .bool (decide ((((((((((x3.1.toNat : Int) = 1) ∧ ((x4.1.toNat : Int) = 2)) ∧ ((x5.1.toNat : Int) = 3)) ∧ (x6.2.1 = 0)) ∧ (x6.1.From = 1)) ∧ (x6.1.To = 2)) ∧ (x6.1.Bytes = ([97] : List UInt8))) ∧ (x7.2.1 = 0)) ∧ (x7.1.Bytes = ([97] : List UInt8))))), (126, .bool (decide (((((((((((x3.1.toNat : Int) = 1) ∧ ((x4.1.toNat : Int) = 2)) ∧ ((x5.1.toNat : Int) = 3)) ∧ (x6.2.1 = 0)) ∧ (x6.1.From = 1)) ∧ (x6.1.To = 2)) ∧ (x6.1.Bytes = ([97] : List UInt8))) ∧ (x7.2.1 = 0)) ∧ (x7.1.Bytes = ([97] : List UInt8))) ∧ (x8.2.1 = 4))))] (fun _ => [(131, .bool (decide ((((((((((((x3.1.toNat : Int) = 1) ∧ ((x4.1.toNat : Int) = 2)) ∧ ((x5.1.toNat : Int) = 3)) ∧ (x6.2.1 = 0)) ∧ (x6.1.From = 1)) ∧ (x6.1.To = 2)) ∧ (x6.1.Bytes = ([97] : List UInt8))) ∧ (x7.2.1 = 0)) ∧ (x7.1.Bytes = ([97] : List UInt8))) ∧ (x8.2.1 = 4)) ∧ ((x9.length : Int) = 1))))]) (fun sl wL => sl.w = wL ∧ Step K0 s57 sl) ?_ ?_
                          · -- the ways
                            refine k_again 127 rfl ?_
                            refine k_split (fun c59 => ?_) (fun c59 => ?_)
                            · -- t127 True
                              refine k_yes rfl rfl ?_
                              refine k_move rfl rfl ?_
                              refine k_yes rfl rfl ?_
                              refine k_len Try.underlying40 rfl (SL.of_R h27_0).hasLen rfl ?_
                              refine k_as (v := .int .i64 (x9.length : Int)) (by simp only [List.length_map]) ?_
                              refine k_yes rfl rfl ?_
                              refine k_eql rfl rfl rfl ?_
                              refine k_pickT rfl rfl rfl rfl ?_
                              exact k_met ⟨s57, ⟨(congrArg (fun b => some (Value.bool b)) (by first | exact decide_eq_decide.2 ⟨fun h => ⟨c59, h⟩, fun h => h.2⟩ | exact (decide_eq_false (fun h => c59 h.1)).symm | (simp [c59]; done) | (simp [c59, i64] <;> omega))), trivial⟩, ⟨rfl, rfl, rfl, rfl, rfl, rfl, rfl, rfl, rfl, rfl, rfl, rfl, rfl, rfl, rfl, rfl, rfl, rfl, rfl, rfl, rfl, rfl, rfl, rfl, rfl, trivial⟩, rfl, hE58⟩
                            · -- t127 False
                              refine k_no rfl rfl rfl rfl ?_
                              refine k_no rfl rfl rfl rfl ?_
                              refine k_no rfl rfl rfl rfl ?_
                              refine k_pickF rfl rfl rfl rfl ?_
                              exact k_met ⟨s57, ⟨(congrArg (fun b => some (Value.bool b)) (by first | exact decide_eq_decide.2 ⟨fun h => ⟨c59, h⟩, fun h => h.2⟩ | exact (decide_eq_false (fun h => c59 h.1)).symm | (simp [c59]; done) | (simp [c59, i64] <;> omega))), trivial⟩, ⟨rfl, rfl, rfl, rfl, rfl, rfl, rfl, rfl, rfl, rfl, rfl, rfl, rfl, rfl, rfl, rfl, rfl, rfl, rfl, rfl, rfl, rfl, rfl, rfl, rfl, trivial⟩, rfl, hE58⟩
                          · -- behind
                            rintro s60 wL ⟨rfl, hE58⟩
                            have szs60 := hE58.size
                            have hS : Step K0 s s60 := hS.trans0 hE58
                            replace h27_0 := h27_0.up2 hE58
                            replace hq18_0_0 := hq18_0_0.up2 hE58
                            replace h19 := h19.up2 hE58
                            replace hq21_0_0 := hq21_0_0.up2 hE58
                            replace h22 := h22.up2 hE58
                            refine k_move rfl rfl ?_
                            obtain ⟨x13, hx13, h⟩ := ob h
                            have hE61 : Step K0 s60 s60 := (Step.refl _).of0 (by first | exact fun _ h => h | (intro c h; simp [KC, KO, KU, KN] at h <;> omega))
                            refine k_cutl (X := St) 6 [(0, .bool false), (3, .int .u64 (x3.1.toNat : Int)), (5, .int .u64 (x4.1.toNat : Int)), (7, .int .u64 (x5.1.toNat : Int)), (9, .pointer (some ⟨b19, 0, none⟩)), (10, .int .i64 x6.2.1), (11, .pointer (some ⟨b22, 0, none⟩)), (12, .int .i64 x7.2.1), (14, .int .i64 x8.2.1), (15, v27_0), (16, .int .u64 (x10.1.toNat : Int)), (17, .int .i64 x10.2.1), (19, .int .i64 x11.2.1), (21, .int .i64 x12.2.1), (83, .int .u64 (x3.1.toNat : Int)), (84, .bool (decide ((x3.1.toNat : Int) = 1))), (88, .bool (decide (((x3.1.toNat : Int) = 1) ∧ ((x4.1.toNat : Int) = 2)))), (92, .bool (decide ((((x3.1.toNat : Int) = 1) ∧ ((x4.1.toNat : Int) = 2)) ∧ ((x5.1.toNat : Int) = 3)))), (96, .bool (decide (((((x3.1.toNat : Int) = 1) ∧ ((x4.1.toNat : Int) = 2)) ∧ ((x5.1.toNat : Int) = 3)) ∧ (x6.2.1 = 0)))), (101, .bool (decide ((((((x3.1.toNat : Int) = 1) ∧ ((x4.1.toNat : Int) = 2)) ∧ ((x5.1.toNat : Int) = 3)) ∧ (x6.2.1 = 0)) ∧ (x6.1.From = 1)))), (106, .bool (decide (((((((x3.1.toNat : Int) = 1) ∧ ((x4.1.toNat : Int) = 2)) ∧ ((x5.1.toNat : Int) = 3)) ∧ (x6.2.1 = 0)) ∧ (x6.1.From = 1)) ∧ (x6.1.To = 2)))), (112, .bool (decide ((((((((x3.1.toNat : Int) = 1) ∧ ((x4.1.toNat : Int) = 2)) ∧ ((x5.1.toNat : Int) = 3)) ∧ (x6.2.1 = 0)) ∧ (x6.1.From = 1)) ∧ (x6.1.To = 2)) ∧ (x6.1.Bytes = ([97] : List UInt8))))), (116, .bool (decide (((((((((x3.1.toNat : Int) = 1) ∧ ((x4.1.toNat : Int) = 2)) ∧ ((x5.1.toNat : Int) = 3)) ∧ (x6.2.1 = 0)) ∧ (x6.1.From = 1)) ∧ (x6.1.To = 2)) ∧ (x6.1.Bytes = ([97] : List UInt8))) ∧ (x7.2.1 = 0)))), (122, .bool (decide ((((((((((x3.1.toNat : Int) = 1) ∧ ((x4.1.toNat : Int) = 2)) ∧ ((x5.1.toNat : Int) = 3)) ∧ (x6.2.1 = 0)) ∧ (x6.1.From = 1)) ∧ (x6.1.To = 2)) ∧ (x6.1.Bytes = ([97] : List UInt8))) ∧ (x7.2.1 = 0)) ∧ (x7.1.Bytes = ([97] : List UInt8))))), (126, .bool (decide (((((((((((x3.1.toNat : Int) = 1) ∧ ((x4.1.toNat : Int) = 2)) ∧ ((x5.1.toNat : Int) = 3)) ∧ (x6.2.1 = 0)) ∧ (x6.1.From = 1)) ∧ (x6.1.To = 2)) ∧ (x6.1.Bytes = ([97] : List UInt8))) ∧ (x7.2.1 = 0)) ∧ (x7.1.Bytes = ([97] : List UInt8))) ∧ (x8.2.1 = 4)))), (131, .bool (decide ((((((((((((x3.1.toNat : Int) = 1) ∧ ((x4.1.toNat : Int) = 2)) ∧ ((x5.1.toNat : Int) = 3)) ∧ (x6.2.1 = 0)) ∧ (x6.1.From = 1)) ∧ (x6.1.To = 2)) ∧ (x6.1.Bytes = ([97] : List UInt8))) ∧ (x7.2.1 = 0)) ∧ (x7.1.Bytes = ([97] : List UInt8))) ∧ (x8.2.1 = 4)) ∧ ((x9.length : Int) = 1))))] (fun _ => [(138, .bool x13)]) (fun sl wL => sl.w = wL ∧ Step K0 s60 sl) ?_ ?_
                            · -- the ways
                              refine k_again 132 rfl ?_
                              refine k_split (fun c62 => ?_) (fun c62 => ?_)
                              · -- t132 True
                                have hx13 := itT hx13 c62
                                refine k_yes rfl rfl ?_
                                refine k_move rfl rfl ?_
                                refine k_yes rfl rfl ?_
                                obtain ⟨x14, hx14, hx13⟩ := ob hx13
                                refine k_ixaddr Try.underlying40 size43 rfl rfl (SL.of_R h27_0) (geti_out hx14).1 (geti_map hx14) rfl ?_
                                intro qx14 hqx14
                                refine k_yes rfl rfl ?_
                                refine k_field_at (o := 0) rfl hqx14 (by rfl) fld43_0 rfl ?_
                                intro q63 h63
                                refine k_yes rfl rfl ?_
                                refine k_load_val one30 rfl h63 rfl ?_
                                refine k_yes rfl rfl ?_
                                refine k_eql rfl rfl rfl ?_
                                refine k_pickT rfl rfl rfl rfl ?_
                                exact k_met ⟨s60, ⟨(congrArg (fun b => some (Value.bool b)) (Option.some.inj hx13)), trivial⟩, ⟨rfl, rfl, rfl, rfl, rfl, rfl, rfl, rfl, rfl, rfl, rfl, rfl, rfl, rfl, rfl, rfl, rfl, rfl, rfl, rfl, rfl, rfl, rfl, rfl, rfl, rfl, trivial⟩, rfl, hE61⟩
                              · -- t132 False
                                have hx13 := itF hx13 c62
                                refine k_no rfl rfl rfl rfl ?_
                                refine k_no rfl rfl rfl rfl ?_
                                refine k_no rfl rfl rfl rfl ?_
                                refine k_no rfl rfl rfl rfl ?_
                                refine k_no rfl rfl rfl rfl ?_
                                refine k_pickF rfl rfl rfl rfl ?_
                                exact k_met ⟨s60, ⟨(congrArg (fun b => some (Value.bool b)) (Option.some.inj hx13)), trivial⟩, ⟨rfl, rfl, rfl, rfl, rfl, rfl, rfl, rfl, rfl, rfl, rfl, rfl, rfl, rfl, rfl, rfl, rfl, rfl, rfl, rfl, rfl, rfl, rfl, rfl, rfl, rfl, trivial⟩, rfl, hE61⟩
                            · -- behind
                              rintro s64 wL ⟨rfl, hE61⟩
                              have szs64 := hE61.size
                              have hS : Step K0 s s64 := hS.trans0 hE61
                              replace h27_0 := h27_0.up2 hE61
                              replace hq18_0_0 := hq18_0_0.up2 hE61
                              replace h19 := h19.up2 hE61
                              replace hq21_0_0 := hq21_0_0.up2 hE61
                              replace h22 := h22.up2 hE61
                              refine k_move rfl rfl ?_
                              have hE65 : Step K0 s64 s64 := (Step.refl _).of0 (by first | exact fun _ h => h | (intro c h; simp [KC, KO, KU, KN] at h <;> omega))
                              refine k_cutl (X := St) 3 [(0, .bool false), (3, .int .u64 (x3.1.toNat : Int)), (5, .int .u64 (x4.1.toNat : Int)), (7, .int .u64 (x5.1.toNat : Int)), (9, .pointer (some ⟨b19, 0, none⟩)), (10, .int .i64 x6.2.1), (11, .pointer (some ⟨b22, 0, none⟩)), (12, .int .i64 x7.2.1), (14, .int .i64 x8.2.1), (15, v27_0), (16, .int .u64 (x10.1.toNat : Int)), (17, .int .i64 x10.2.1), (19, .int .i64 x11.2.1), (21, .int .i64 x12.2.1), (83, .int .u64 (x3.1.toNat : Int)), (84, .bool (decide ((x3.1.toNat : Int) = 1))), (88, .bool (decide (((x3.1.toNat : Int) = 1) ∧ ((x4.1.toNat : Int) = 2)))), (92, .bool (decide ((((x3.1.toNat : Int) = 1) ∧ ((x4.1.toNat : Int) = 2)) ∧ ((x5.1.toNat : Int) = 3)))), (96, .bool (decide (((((x3.1.toNat : Int) = 1) ∧ ((x4.1.toNat : Int) = 2)) ∧ ((x5.1.toNat : Int) = 3)) ∧ (x6.2.1 = 0)))), (101, .bool (decide ((((((x3.1.toNat : Int) = 1) ∧ ((x4.1.toNat : Int) = 2)) ∧ ((x5.1.toNat : Int) = 3)) ∧ (x6.2.1 = 0)) ∧ (x6.1.From = 1)))), (106, .bool (decide (((((((x3.1.toNat : Int) = 1) ∧ ((x4.1.toNat : Int) = 2)) ∧ ((x5.1.toNat : Int) = 3)) ∧ (x6.2.1 = 0)) ∧ (x6.1.From = 1)) ∧ (x6.1.To = 2)))), (112, .bool (decide ((((((((x3.1.toNat : Int) = 1) ∧ ((x4.1.toNat : Int) = 2)) ∧ ((x5.1.toNat : Int) = 3)) ∧ (x6.2.1 = 0)) ∧ (x6.1.From = 1)) ∧ (x6.1.To = 2)) ∧ (x6.1.Bytes = ([97] : List UInt8))))), (116, .bool (decide (((((((((x3.1.toNat : Int) = 1) ∧ ((x4.1.toNat : Int) = 2)) ∧ ((x5.1.toNat : Int) = 3)) ∧ (x6.2.1 = 0)) ∧ (x6.1.From = 1)) ∧ (x6.1.To = 2)) ∧ (x6.1.Bytes = ([97] : List UInt8))) ∧ (x7.2.1 = 0)))), (122, .bool (decide ((((((((((x3.1.toNat : Int) = 1) ∧ ((x4.1.toNat : Int) = 2)) ∧ ((x5.1.toNat : Int) = 3)) ∧ (x6.2.1 = 0)) ∧ (x6.1.From = 1)) ∧ (x6.1.To = 2)) ∧ (x6.1.Bytes = ([97] : List UInt8))) ∧ (x7.2.1 = 0)) ∧ (x7.1.Bytes = ([97] : List UInt8))))), (126, .bool (decide (((((((((((x3.1.toNat : Int) = 1) ∧ ((x4.1.toNat : Int) = 2)) ∧ ((x5.1.toNat : Int) = 3)) ∧ (x6.2.1 = 0)) ∧ (x6.1.From = 1)) ∧ (x6.1.To = 2)) ∧ (x6.1.Bytes = ([97] : List UInt8))) ∧ (x7.2.1 = 0)) ∧ (x7.1.Bytes = ([97] : List UInt8))) ∧ (x8.2.1 = 4)))), (131, .bool (decide ((((((((((((x3.1.toNat : Int) = 1) ∧ ((x4.1.toNat : Int) = 2)) ∧ ((x5.1.toNat : Int) = 3)) ∧ (x6.2.1 = 0)) ∧ (x6.1.From = 1)) ∧ (x6.1.To = 2)) ∧ (x6.1.Bytes = ([97] : List UInt8))) ∧ (x7.2.1 = 0)) ∧ (x7.1.Bytes = ([97] : List UInt8))) ∧ (x8.2.1 = 4)) ∧ ((x9.length : Int) = 1)))), (138, .bool x13)] (fun _ => [(142, .bool (decide ((x13 = true) ∧ ((x10.1.toNat : Int) = 4))))]) (fun sl wL => sl.w = wL ∧ Step K0 s64 sl) ?_ ?_
                              · -- the ways
                                refine k_again 139 rfl ?_
                                refine k_splitb (fun c66 => ?_) (fun c66 => ?_)
                                · -- t139 True
                                  refine k_yes rfl rfl ?_
                                  refine k_move rfl rfl ?_
                                  refine k_yes rfl rfl ?_
                                  refine k_eql rfl rfl rfl ?_
                                  refine k_pickT rfl rfl rfl rfl ?_
                                  exact k_met ⟨s64, ⟨(congrArg (fun b => some (Value.bool b)) (by first | exact decide_eq_decide.2 ⟨fun h => ⟨c66, h⟩, fun h => h.2⟩ | exact (decide_eq_false (fun h => c66 h.1)).symm | (simp [c66]; done) | (simp [c66, i64] <;> omega))), trivial⟩, ⟨rfl, rfl, rfl, rfl, rfl, rfl, rfl, rfl, rfl, rfl, rfl, rfl, rfl, rfl, rfl, rfl, rfl, rfl, rfl, rfl, rfl, rfl, rfl, rfl, rfl, rfl, rfl, trivial⟩, rfl, hE65⟩
                                · -- t139 False
                                  refine k_no rfl rfl rfl rfl ?_
                                  refine k_no rfl rfl rfl rfl ?_
                                  refine k_pickF rfl rfl rfl rfl ?_
                                  exact k_met ⟨s64, ⟨(congrArg (fun b => some (Value.bool b)) (by first | exact decide_eq_decide.2 ⟨fun h => ⟨c66, h⟩, fun h => h.2⟩ | exact (decide_eq_false (fun h => c66 h.1)).symm | (simp [c66]; done) | (simp [c66, i64] <;> omega))), trivial⟩, ⟨rfl, rfl, rfl, rfl, rfl, rfl, rfl, rfl, rfl, rfl, rfl, rfl, rfl, rfl, rfl, rfl, rfl, rfl, rfl, rfl, rfl, rfl, rfl, rfl, rfl, rfl, rfl, trivial⟩, rfl, hE65⟩
                              · -- behind
                                rintro s67 wL ⟨rfl, hE65⟩
                                have szs67 := hE65.size
                                have hS : Step K0 s s67 := hS.trans0 hE65
                                replace h27_0 := h27_0.up2 hE65
                                replace hq18_0_0 := hq18_0_0.up2 hE65
                                replace h19 := h19.up2 hE65
                                replace hq21_0_0 := hq21_0_0.up2 hE65
                                replace h22 := h22.up2 hE65
                                refine k_move rfl rfl ?_
                                have hE68 : Step K0 s67 s67 := (Step.refl _).of0 (by first | exact fun _ h => h | (intro c h; simp [KC, KO, KU, KN] at h <;> omega))
                                refine k_cutl (X := St) 3 [(0, .bool false), (3, .int .u64 (x3.1.toNat : Int)), (5, .int .u64 (x4.1.toNat : Int)), (7, .int .u64 (x5.1.toNat : Int)), (9, .pointer (some ⟨b19, 0, none⟩)), (10, .int .i64 x6.2.1), (11, .pointer (some ⟨b22, 0, none⟩)), (12, .int .i64 x7.2.1), (14, .int .i64 x8.2.1), (15, v27_0), (16, .int .u64 (x10.1.toNat : Int)), (17, .int .i64 x10.2.1), (19, .int .i64 x11.2.1), (21, .int .i64 x12.2.1), (83, .int .u64 (x3.1.toNat : Int)), (84, .bool (decide ((x3.1.toNat : Int) = 1))), (88, .bool (decide (((x3.1.toNat : Int) = 1) ∧ ((x4.1.toNat : Int) = 2)))), (92, .bool (decide ((((x3.1.toNat : Int) = 1) ∧ ((x4.1.toNat : Int) = 2)) ∧ ((x5.1.toNat : Int) = 3)))), (96, .bool (decide (((((x3.1.toNat : Int) = 1) ∧ ((x4.1.toNat : Int) = 2)) ∧ ((x5.1.toNat : Int) = 3)) ∧ (x6.2.1 = 0)))), (101, .bool (decide ((((((x3.1.toNat : Int) = 1) ∧ ((x4.1.toNat : Int) = 2)) ∧ ((x5.1.toNat : Int) = 3)) ∧ (x6.2.1 = 0)) ∧ (x6.1.From = 1)))), (106, .bool (decide (((((((x3.1.toNat : Int) = 1) ∧ ((x4.1.toNat : Int) = 2)) ∧ ((x5.1.toNat : Int) = 3)) ∧ (x6.2.1 = 0)) ∧ (x6.1.From = 1)) ∧ (x6.1.To = 2)))), (112, .bool (decide ((((((((x3.1.toNat : Int) = 1) ∧ ((x4.1.toNat : Int) = 2)) ∧ ((x5.1.toNat : Int) = 3)) ∧ (x6.2.1 = 0)) ∧ (x6.1.From = 1)) ∧ (x6.1.To = 2)) ∧ (x6.1.Bytes = ([97] : List UInt8))))), (116, .bool (decide (((((((((x3.1.toNat : Int) = 1) ∧ ((x4.1.toNat : Int) = 2)) ∧ ((x5.1.toNat : Int) = 3)) ∧ (x6.2.1 = 0)) ∧ (x6.1.From = 1)) ∧ (x6.1.To = 2)) ∧ (x6.1.Bytes = ([97] : List UInt8))) ∧ (x7.2.1 = 0)))), (122, .bool (decide ((((((((((x3.1.toNat : Int) = 1) ∧ ((x4.1.toNat : Int) = 2)) ∧ ((x5.1.toNat : Int) = 3)) ∧ (x6.2.1 = 0)) ∧ (x6.1.From = 1)) ∧ (x6.1.To = 2)) ∧ (x6.1.Bytes = ([97] : List UInt8))) ∧ (x7.2.1 = 0)) ∧ (x7.1.Bytes = ([97] : List UInt8))))), (126, .bool (decide (((((((((((x3.1.toNat : Int) = 1) ∧ ((x4.1.toNat : Int) = 2)) ∧ ((x5.1.toNat : Int) = 3)) ∧ (x6.2.1 = 0)) ∧ (x6.1.From = 1)) ∧ (x6.1.To = 2)) ∧ (x6.1.Bytes = ([97] : List UInt8))) ∧ (x7.2.1 = 0)) ∧ (x7.1.Bytes = ([97] : List UInt8))) ∧ (x8.2.1 = 4)))), (131, .bool (decide ((((((((((((x3.1.toNat : Int) = 1) ∧ ((x4.1.toNat : Int) = 2)) ∧ ((x5.1.toNat : Int) = 3)) ∧ (x6.2.1 = 0)) ∧ (x6.1.From = 1)) ∧ (x6.1.To = 2)) ∧ (x6.1.Bytes = ([97] : List UInt8))) ∧ (x7.2.1 = 0)) ∧ (x7.1.Bytes = ([97] : List UInt8))) ∧ (x8.2.1 = 4)) ∧ ((x9.length : Int) = 1)))), (138, .bool x13), (142, .bool (decide ((x13 = true) ∧ ((x10.1.toNat : Int) = 4))))] (fun _ => [(146, .bool (decide (((x13 = true) ∧ ((x10.1.toNat : Int) = 4)) ∧ (x10.2.1 = 0))))]) (fun sl wL => sl.w = wL ∧ Step K0 s67 sl) ?_ ?_
                                · -- the ways
                                  refine k_again 143 rfl ?_
                                  refine k_split (fun c69 => ?_) (fun c69 => ?_)
                                  · -- t143 True
                                    refine k_yes rfl rfl ?_
                                    refine k_move rfl rfl ?_
                                    refine k_yes rfl rfl ?_
                                    refine k_eql rfl rfl rfl ?_
                                    refine k_pickT rfl rfl rfl rfl ?_
                                    exact k_met ⟨s67, ⟨(congrArg (fun b => some (Value.bool b)) (by first | exact decide_eq_decide.2 ⟨fun h => ⟨c69, h⟩, fun h => h.2⟩ | exact (decide_eq_false (fun h => c69 h.1)).symm | (simp [c69]; done) | (simp [c69, i64] <;> omega))), trivial⟩, ⟨rfl, rfl, rfl, rfl, rfl, rfl, rfl, rfl, rfl, rfl, rfl, rfl, rfl, rfl, rfl, rfl, rfl, rfl, rfl, rfl, rfl, rfl, rfl, rfl, rfl, rfl, rfl, rfl, trivial⟩, rfl, hE68⟩
                                  · -- t143 False
                                    refine k_no rfl rfl rfl rfl ?_
                                    refine k_no rfl rfl rfl rfl ?_
                                    refine k_pickF rfl rfl rfl rfl ?_
                                    exact k_met ⟨s67, ⟨(congrArg (fun b => some (Value.bool b)) (by first | exact decide_eq_decide.2 ⟨fun h => ⟨c69, h⟩, fun h => h.2⟩ | exact (decide_eq_false (fun h => c69 h.1)).symm | (simp [c69]; done) | (simp [c69, i64] <;> omega))), trivial⟩, ⟨rfl, rfl, rfl, rfl, rfl, rfl, rfl, rfl, rfl, rfl, rfl, rfl, rfl, rfl, rfl, rfl, rfl, rfl, rfl, rfl, rfl, rfl, rfl, rfl, rfl, rfl, rfl, rfl, trivial⟩, rfl, hE68⟩
                                · -- behind
                                  rintro s70 wL ⟨rfl, hE68⟩
                                  have szs70 := hE68.size
                                  have hS : Step K0 s s70 := hS.trans0 hE68
                                  replace h27_0 := h27_0.up2 hE68
                                  replace hq18_0_0 := hq18_0_0.up2 hE68
                                  replace h19 := h19.up2 hE68
                                  replace hq21_0_0 := hq21_0_0.up2 hE68
                                  replace h22 := h22.up2 hE68
                                  refine k_move rfl rfl ?_
                                  have hE71 : Step K0 s70 s70 := (Step.refl _).of0 (by first | exact fun _ h => h | (intro c h; simp [KC, KO, KU, KN] at h <;> omega))
                                  refine k_cutl (X := St) 3 [(0, .bool false), (3, .int .u64 (x3.1.toNat : Int)), (5, .int .u64 (x4.1.toNat : Int)), (7, .int .u64 (x5.1.toNat : Int)), (9, .pointer (some ⟨b19, 0, none⟩)), (10, .int .i64 x6.2.1), (11, .pointer (some ⟨b22, 0, none⟩)), (12, .int .i64 x7.2.1), (14, .int .i64 x8.2.1), (15, v27_0), (16, .int .u64 (x10.1.toNat : Int)), (17, .int .i64 x10.2.1), (19, .int .i64 x11.2.1), (21, .int .i64 x12.2.1), (83, .int .u64 (x3.1.toNat : Int)), (84, .bool (decide ((x3.1.toNat : Int) = 1))), (88, .bool (decide (((x3.1.toNat : Int) = 1) ∧ ((x4.1.toNat : Int) = 2)))), (92, .bool (decide ((((x3.1.toNat : Int) = 1) ∧ ((x4.1.toNat : Int) = 2)) ∧ ((x5.1.toNat : Int) = 3)))), (96, .bool (decide (((((x3.1.toNat : Int) = 1) ∧ ((x4.1.toNat : Int) = 2)) ∧ ((x5.1.toNat : Int) = 3)) ∧ (x6.2.1 = 0)))), (101, .bool (decide ((((((x3.1.toNat : Int) = 1) ∧ ((x4.1.toNat : Int) = 2)) ∧ ((x5.1.toNat : Int) = 3)) ∧ (x6.2.1 = 0)) ∧ (x6.1.From = 1)))), (106, .bool (decide (((((((x3.1.toNat : Int) = 1) ∧ ((x4.1.toNat : Int) = 2)) ∧ ((x5.1.toNat : Int) = 3)) ∧ (x6.2.1 = 0)) ∧ (x6.1.From = 1)) ∧ (x6.1.To = 2)))), (112, .bool (decide ((((((((x3.1.toNat : Int) = 1) ∧ ((x4.1.toNat : Int) = 2)) ∧ ((x5.1.toNat : Int) = 3)) ∧ (x6.2.1 = 0)) ∧ (x6.1.From = 1)) ∧ (x6.1.To = 2)) ∧ (x6.1.Bytes = ([97] : List UInt8))))), (116, .bool (decide (((((((((x3.1.toNat : Int) = 1) ∧ ((x4.1.toNat : Int) = 2)) ∧ ((x5.1.toNat : Int) = 3)) ∧ (x6.2.1 = 0)) ∧ (x6.1.From = 1)) ∧ (x6.1.To = 2)) ∧ (x6.1.Bytes = ([97] : List UInt8))) ∧ (x7.2.1 = 0)))), (122, .bool (decide ((((((((((x3.1.toNat : Int) = 1) ∧ ((x4.1.toNat : Int) = 2)) ∧ ((x5.1.toNat : Int) = 3)) ∧ (x6.2.1 = 0)) ∧ (x6.1.From = 1)) ∧ (x6.1.To = 2)) ∧ (x6.1.Bytes = ([97] : List UInt8))) ∧ (x7.2.1 = 0)) ∧ (x7.1.Bytes = ([97] : List UInt8))))), (126, .bool (decide (((((((((((x3.1.toNat : Int) = 1) ∧ ((x4.1.toNat : Int) = 2)) ∧ ((x5.1.toNat : Int) = 3)) ∧ (x6.2.1 = 0)) ∧ (x6.1.From = 1)) ∧ (x6.1.To = 2)) ∧ (x6.1.Bytes = ([97] : List UInt8))) ∧ (x7.2.1 = 0)) ∧ (x7.1.Bytes = ([97] : List UInt8))) ∧ (x8.2.1 = 4)))), (131, .bool (decide ((((((((((((x3.1.toNat : Int) = 1) ∧ ((x4.1.toNat : Int) = 2)) ∧ ((x5.1.toNat : Int) = 3)) ∧ (x6.2.1 = 0)) ∧ (x6.1.From = 1)) ∧ (x6.1.To = 2)) ∧ (x6.1.Bytes = ([97] : List UInt8))) ∧ (x7.2.1 = 0)) ∧ (x7.1.Bytes = ([97] : List UInt8))) ∧ (x8.2.1 = 4)) ∧ ((x9.length : Int) = 1)))), (138, .bool x13), (142, .bool (decide ((x13 = true) ∧ ((x10.1.toNat : Int) = 4)))), (146, .bool (decide (((x13 = true) ∧ ((x10.1.toNat : Int) = 4)) ∧ (x10.2.1 = 0))))] (fun _ => [(150, .bool (decide ((((x13 = true) ∧ ((x10.1.toNat : Int) = 4)) ∧ (x10.2.1 = 0)) ∧ (x11.2.1 = 1))))]) (fun sl wL => sl.w = wL ∧ Step K0 s70 sl) ?_ ?_
                                  · -- the ways
                                    refine k_again 147 rfl ?_
                                    refine k_split (fun c72 => ?_) (fun c72 => ?_)
                                    · -- t147 True
                                      refine k_yes rfl rfl ?_
                                      refine k_move rfl rfl ?_
                                      refine k_yes rfl rfl ?_
                                      refine k_eql rfl rfl rfl ?_
                                      refine k_pickT rfl rfl rfl rfl ?_
                                      exact k_met ⟨s70, ⟨(congrArg (fun b => some (Value.bool b)) (by first | exact decide_eq_decide.2 ⟨fun h => ⟨c72, h⟩, fun h => h.2⟩ | exact (decide_eq_false (fun h => c72 h.1)).symm | (simp [c72]; done) | (simp [c72, i64] <;> omega))), trivial⟩, ⟨rfl, rfl, rfl, rfl, rfl, rfl, rfl, rfl, rfl, rfl, rfl, rfl, rfl, rfl, rfl, rfl, rfl, rfl, rfl, rfl, rfl, rfl, rfl, rfl, rfl, rfl, rfl, rfl, rfl, trivial⟩, rfl, hE71⟩
                                    · -- t147 False
                                      refine k_no rfl rfl rfl rfl ?_
                                      refine k_no rfl rfl rfl rfl ?_
                                      refine k_pickF rfl rfl rfl rfl ?_
                                      exact k_met ⟨s70, ⟨(congrArg (fun b => some (Value.bool b)) (by first | exact decide_eq_decide.2 ⟨fun h => ⟨c72, h⟩, fun h => h.2⟩ | exact (decide_eq_false (fun h => c72 h.1)).symm | (simp [c72]; done) | (simp [c72, i64] <;> omega))), trivial⟩, ⟨rfl, rfl, rfl, rfl, rfl, rfl, rfl, rfl, rfl, rfl, rfl, rfl, rfl, rfl, rfl, rfl, rfl, rfl, rfl, rfl, rfl, rfl, rfl, rfl, rfl, rfl, rfl, rfl, rfl, trivial⟩, rfl, hE71⟩
                                  · -- behind
                                    rintro s73 wL ⟨rfl, hE71⟩
                                    have szs73 := hE71.size
                                    have hS : Step K0 s s73 := hS.trans0 hE71
                                    replace h27_0 := h27_0.up2 hE71
                                    replace hq18_0_0 := hq18_0_0.up2 hE71
                                    replace h19 := h19.up2 hE71
                                    replace hq21_0_0 := hq21_0_0.up2 hE71
                                    replace h22 := h22.up2 hE71
                                    refine k_move rfl rfl ?_
                                    have hE74 : Step K0 s73 s73 := (Step.refl _).of0 (by first | exact fun _ h => h | (intro c h; simp [KC, KO, KU, KN] at h <;> omega))
                                    refine k_cutl (X := St) 3 [(0, .bool false), (3, .int .u64 (x3.1.toNat : Int)), (5, .int .u64 (x4.1.toNat : Int)), (7, .int .u64 (x5.1.toNat : Int)), (9, .pointer (some ⟨b19, 0, none⟩)), (10, .int .i64 x6.2.1), (11, .pointer (some ⟨b22, 0, none⟩)), (12, .int .i64 x7.2.1), (14, .int .i64 x8.2.1), (15, v27_0), (16, .int .u64 (x10.1.toNat : Int)), (17, .int .i64 x10.2.1), (19, .int .i64 x11.2.1), (21, .int .i64 x12.2.1), (83, .int .u64 (x3.1.toNat : Int)), (84, .bool (decide ((x3.1.toNat : Int) = 1))), (88, .bool (decide (((x3.1.toNat : Int) = 1) ∧ ((x4.1.toNat : Int) = 2)))), (92, .bool (decide ((((x3.1.toNat : Int) = 1) ∧ ((x4.1.toNat : Int) = 2)) ∧ ((x5.1.toNat : Int) = 3)))), (96, .bool (decide (((((x3.1.toNat : Int) = 1) ∧ ((x4.1.toNat : Int) = 2)) ∧ ((x5.1.toNat : Int) = 3)) ∧ (x6.2.1 = 0)))), (101, .bool (decide ((((((x3.1.toNat : Int) = 1) ∧ ((x4.1.toNat : Int) = 2)) ∧ ((x5.1.toNat : Int) = 3)) ∧ (x6.2.1 = 0)) ∧ (x6.1.From = 1)))), (106, .bool (decide (((((((x3.1.toNat : Int) = 1) ∧ ((x4.1.toNat : Int) = 2)) ∧ ((x5.1.toNat : Int) = 3)) ∧ (x6.2.1 = 0)) ∧ (x6.1.From = 1)) ∧ (x6.1.To = 2)))), (112, .bool (decide ((((((((x3.1.toNat : Int) = 1) ∧ ((x4.1.toNat : Int) = 2)) ∧ ((x5.1.toNat : Int) = 3)) ∧ (x6.2.1 = 0)) ∧ (x6.1.From = 1)) ∧ (x6.1.To = 2)) ∧ (x6.1.Bytes = ([97] : List UInt8))))), (116, .bool (decide (((((((((x3.1.toNat : Int) = 1) ∧ ((x4.1.toNat : Int) = 2)) ∧ ((x5.1.toNat : Int) = 3)) ∧ (x6.2.1 = 0)) ∧ (x6.1.From = 1)) ∧ (x6.1.To = 2)) ∧ (x6.1.Bytes = ([97] : List UInt8))) ∧ (x7.2.1 = 0)))), (122, .bool (decide ((((((((((x3.1.toNat : Int) = 1) ∧ ((x4.1.toNat : Int) = 2)) ∧ ((x5.1.toNat : Int) = 3)) ∧ (x6.2.1 = 0)) ∧ (x6.1.From = 1)) ∧ (x6.1.To = 2)) ∧ (x6.1.Bytes = ([97] : List UInt8))) ∧ (x7.2.1 = 0)) ∧ (x7.1.Bytes = ([97] : List UInt8))))), (126, .bool (decide (((((((((((x3.1.toNat : Int) = 1) ∧ ((x4.1.toNat : Int) = 2)) ∧ ((x5.1.toNat : Int) = 3)) ∧ (x6.2.1 = 0)) ∧ (x6.1.From = 1)) ∧ (x6.1.To = 2)) ∧ (x6.1.Bytes = ([97] : List UInt8))) ∧ (x7.2.1 = 0)) ∧ (x7.1.Bytes = ([97] : List UInt8))) ∧ (x8.2.1 = 4)))), (131, .bool (decide ((((((((((((x3.1.toNat : Int) = 1) ∧ ((x4.1.toNat : Int) = 2)) ∧ ((x5.1.toNat : Int) = 3)) ∧ (x6.2.1 = 0)) ∧ (x6.1.From = 1)) ∧ (x6.1.To = 2)) ∧ (x6.1.Bytes = ([97] : List UInt8))) ∧ (x7.2.1 = 0)) ∧ (x7.1.Bytes = ([97] : List UInt8))) ∧ (x8.2.1 = 4)) ∧ ((x9.length : Int) = 1)))), (138, .bool x13), (142, .bool (decide ((x13 = true) ∧ ((x10.1.toNat : Int) = 4)))), (146, .bool (decide (((x13 = true) ∧ ((x10.1.toNat : Int) = 4)) ∧ (x10.2.1 = 0)))), (150, .bool (decide ((((x13 = true) ∧ ((x10.1.toNat : Int) = 4)) ∧ (x10.2.1 = 0)) ∧ (x11.2.1 = 1))))] (fun _ => [(154, .bool (decide (((((x13 = true) ∧ ((x10.1.toNat : Int) = 4)) ∧ (x10.2.1 = 0)) ∧ (x11.2.1 = 1)) ∧ (x12.2.1 = 1))))]) (fun sl wL => sl.w = wL ∧ Step K0 s73 sl) ?_ ?_
                                    · -- the ways
                                      refine k_again 151 rfl ?_
                                      refine k_split (fun c75 => ?_) (fun c75 => ?_)
                                      · -- t151 True
                                        refine k_yes rfl rfl ?_
                                        refine k_move rfl rfl ?_
                                        refine k_yes rfl rfl ?_
                                        refine k_eql rfl rfl rfl ?_
                                        refine k_pickT rfl rfl rfl rfl ?_
                                        exact k_met ⟨s73, ⟨(congrArg (fun b => some (Value.bool b)) (by first | exact decide_eq_decide.2 ⟨fun h => ⟨c75, h⟩, fun h => h.2⟩ | exact (decide_eq_false (fun h => c75 h.1)).symm | (simp [c75]; done) | (simp [c75, i64] <;> omega))), trivial⟩, ⟨rfl, rfl, rfl, rfl, rfl, rfl, rfl, rfl, rfl, rfl, rfl, rfl, rfl, rfl, rfl, rfl, rfl, rfl, rfl, rfl, rfl, rfl, rfl, rfl, rfl, rfl, rfl, rfl, rfl, rfl, trivial⟩, rfl, hE74⟩
                                      · -- t151 False
                                        refine k_no rfl rfl rfl rfl ?_
                                        refine k_no rfl rfl rfl rfl ?_
                                        refine k_pickF rfl rfl rfl rfl ?_
                                        exact k_met ⟨s73, ⟨(congrArg (fun b => some (Value.bool b)) (by first | exact decide_eq_decide.2 ⟨fun h => ⟨c75, h⟩, fun h => h.2⟩ | exact (decide_eq_false (fun h => c75 h.1)).symm | (simp [c75]; done) | (simp [c75, i64] <;> omega))), trivial⟩, ⟨rfl, rfl, rfl, rfl, rfl, rfl, rfl, rfl, rfl, rfl, rfl, rfl, rfl, rfl, rfl, rfl, rfl, rfl, rfl, rfl, rfl, rfl, rfl, rfl, rfl, rfl, rfl, rfl, rfl, rfl, trivial⟩, rfl, hE74⟩
                                    · -- behind
                                      rintro s76 wL ⟨rfl, hE74⟩
                                      have szs76 := hE74.size
                                      have hS : Step K0 s s76 := hS.trans0 hE74
                                      replace h27_0 := h27_0.up2 hE74
                                      replace hq18_0_0 := hq18_0_0.up2 hE74
                                      replace h19 := h19.up2 hE74
                                      replace hq21_0_0 := hq21_0_0.up2 hE74
                                      replace h22 := h22.up2 hE74
                                      refine k_assign rfl rfl ?_
                                      refine k_nil ?_
                                      refine k_keep [(0, _)] ⟨rfl, trivial⟩ ?_
                                      refine k_ret ?_
                                      obtain rfl := Option.some.inj h
                                      refine ⟨_, rfl, Ret.mk hS ?_⟩
                                      exact rfl

set_option maxHeartbeats 1000000 in
set_option maxRecDepth 100000 in
theorem net_Net_Drop_w {s : St} {k0 : Nat} {p0 : Value} {a0 : NetNet} {a1 : UInt64} {r : (Int × NetNet)} (ho0 : ONetNet s k0 p0 a0) (h : net_Net_Drop a0 a1 = some r) : Calls Try.prog 15 #[p0, .int .u64 (a1.toNat : Int)] s.w (Ret s (KO k0) (fun s1 v => v = .int .i64 r.1 ∧ ONetNet s1 k0 p0 r.2)) := by
  unfold net_Net_Drop at h
  have le0 := ho0.le
  have ne0 := ho0.ne
  have hS : Step (KO k0) s s := (Step.refl _).of0 (by first | exact fun _ h => h | (intro c h; simp [KC, KO, KU, KN] at h <;> omega))
  refine k_fn (rs := [4]) (args := [p0, .int .u64 (a1.toNat : Int)]) Try.func15 rfl rfl rfl rfl ?_
  refine k_seq ?_
  refine k_region ?_
  refine k_assign rfl rfl ?_
  refine k_nil ?_
  refine k_seq ?_
  refine k_region ?_
  refine k_move rfl rfl ?_
  refine k_move rfl rfl ?_
  obtain ⟨x1, hx1, h⟩ := ob h
  refine k_call cal12 rfl (net_Net_Deliver_w  ho0 hx1) rfl ?_
  rintro s1 vr1 st1 ⟨cs1_0, rfl, h1_0, ho0⟩
  have szs1 := st1.size
  have hS : Step (KO k0) s s1 := hS.comp st1 (by intro l hl hk; (try simp only [KC, KO, KU, KN, K0] at hk ⊢) <;> omega)
  obtain ⟨q1_0_0, rfl, hq1_0_0⟩ := opnApiMessage h1_0
  refine k_move rfl rfl ?_
  refine k_extract rfl rfl rfl ?_
  refine k_extract rfl rfl rfl ?_
  refine k_alloc zero36 rfl ?_
  intro s2 b2 st2 h2 ge2
  have szs2 := st2.size
  have hS : Step (KO k0) s s2 := hS.trans0 st2
  replace hq1_0_0 := hq1_0_0.up2 st2
  replace ho0 := ho0.up2 st2
  have lt2 := h2.lt
  refine k_store_c (cs' := [.int .i64 x1.1.From, .int .i64 x1.1.To, q1_0_0]) size36 rfl rfl h2 (by first | (simp; done) | omega | (dsimp only; omega)) (CellsOf.lit (vs := [.int .i64 x1.1.From, .int .i64 x1.1.To, q1_0_0]) rfl (ones.cons rfl (ones.cons rfl (ones.cons ((SL.of_R hq1_0_0)).one1 ones.nil)))) rfl (by first | rfl | (simp; done) | (simp; omega)) rfl ?_
  intro s3 st3 h2
  have szs3 := st3.size
  have hS : Step (KO k0) s s3 := hS.comp st3 (by intro l hl hk; (try simp only [KC, KO, KU, KN, K0] at hk ⊢) <;> omega)
  replace hq1_0_0 := hq1_0_0.up2 st3
  replace ho0 := ho0.up2 st3
  refine k_assign rfl rfl ?_
  refine k_nil ?_
  refine k_keep [(4, _), (6, _)] ⟨rfl, rfl, trivial⟩ ?_
  refine k_seq ?_
  refine k_region ?_
  refine k_move rfl rfl ?_
  refine k_assign rfl rfl ?_
  refine k_nil ?_
  refine k_keep [(4, _)] ⟨rfl, trivial⟩ ?_
  refine k_ret ?_
  obtain rfl := Option.some.inj h
  refine ⟨_, rfl, Ret.mk hS ?_⟩
  exact ⟨rfl, ho0⟩

set_option maxHeartbeats 1000000 in
set_option maxRecDepth 100000 in
theorem ref22_Same_w {s : St} {l0 : Lab} {v0 : Value} {a0 : ApiMessage} {l1 : Lab} {v1 : Value} {a1 : ApiMessage} {r : Bool} (hp0 : SL s l0 v0 1 (a0.Bytes.map bD)) (hp1 : SL s l1 v1 1 (a1.Bytes.map bD)) (h : ref22_Same a0 a1 = some r) : Calls Try.prog 17 #[.agg #[.int .i64 a0.From, .int .i64 a0.To, v0], .agg #[.int .i64 a1.From, .int .i64 a1.To, v1]] s.w (Ret s K0 (fun s1 v => v = .bool r)) := by
  unfold ref22_Same at h
  obtain ⟨lf0, lf0le, lf0ne, hp0⟩ := hp0.fix
  obtain ⟨lf1, lf1le, lf1ne, hp1⟩ := hp1.fix
  have hS : Step K0 s s := (Step.refl _).of0 (by first | exact fun _ h => h | (intro c h; simp [KC, KO, KU, KN] at h <;> omega))
  refine k_fn (rs := [4]) (args := [.agg #[.int .i64 a0.From, .int .i64 a0.To, v0], .agg #[.int .i64 a1.From, .int .i64 a1.To, v1]]) Try.func17 rfl rfl rfl rfl ?_
  refine k_seq ?_
  refine k_region ?_
  refine k_box rfl rfl ?_
  intro s1 b1 st1 h1 ge1
  have szs1 := st1.size
  have hS : Step K0 s s1 := hS.trans0 st1
  replace hp0 := hp0.up2 st1
  replace hp1 := hp1.up2 st1
  have lt1 := h1.lt
  refine k_box rfl rfl ?_
  intro s2 b2 st2 h2 ge2
  have szs2 := st2.size
  have hS : Step K0 s s2 := hS.trans0 st2
  replace hp0 := hp0.up2 st2
  replace hp1 := hp1.up2 st2
  replace h1 := h1.up2 st2
  have lt2 := h2.lt
  refine k_assign rfl rfl ?_
  refine k_nil ?_
  refine k_keep [(2, _), (3, _), (4, _)] ⟨rfl, rfl, rfl, trivial⟩ ?_
  refine k_seq ?_
  refine k_region ?_
  refine k_field_addr fld36_0 rfl rfl ?_
  refine k_load_blk one3 rfl h1 rfl rfl ?_
  refine k_field_addr fld36_0 rfl rfl ?_
  refine k_load_blk one3 rfl h2 rfl rfl ?_
  refine k_eql rfl rfl rfl ?_
  refine k_move rfl rfl ?_
  have hE3 : Step K0 s2 s2 := (Step.refl _).of0 (by first | exact fun _ h => h | (intro c h; simp [KC, KO, KU, KN] at h <;> omega))
  refine k_cutl (X := St) 6 [(2, .pointer (some ⟨b1, 0, none⟩)), (3, .pointer (some ⟨b2, 0, none⟩)), (4, .bool false), (5, .pointer (some ⟨b1, 0, none⟩)), (6, .int .i64 a0.From), (7, .pointer (some ⟨b2, 0, none⟩)), (8, .int .i64 a1.From), (9, .bool (decide (a0.From = a1.From)))] (fun _ => [(16, .bool (decide ((a0.From = a1.From) ∧ (a0.To = a1.To))))]) (fun sl wL => sl.w = wL ∧ Step K0 s2 sl) ?_ ?_
  · -- the ways
    refine k_again 10 rfl ?_
    refine k_split (fun c4 => ?_) (fun c4 => ?_)
    · -- t10 True
      refine k_yes rfl rfl ?_
      refine k_field_addr fld36_1 rfl rfl ?_
      refine k_yes rfl rfl ?_
      refine k_load_blk one3 rfl h1 rfl rfl ?_
      refine k_yes rfl rfl ?_
      refine k_field_addr fld36_1 rfl rfl ?_
      refine k_yes rfl rfl ?_
      refine k_load_blk one3 rfl h2 rfl rfl ?_
      refine k_yes rfl rfl ?_
      refine k_eql rfl rfl rfl ?_
      refine k_pickT rfl rfl rfl rfl ?_
      exact k_met ⟨s2, ⟨(congrArg (fun b => some (Value.bool b)) (by first | exact decide_eq_decide.2 ⟨fun h => ⟨c4, h⟩, fun h => h.2⟩ | exact (decide_eq_false (fun h => c4 h.1)).symm | (simp [c4]; done) | (simp [c4, i64] <;> omega))), trivial⟩, ⟨rfl, rfl, rfl, rfl, rfl, rfl, rfl, rfl, trivial⟩, rfl, hE3⟩
    · -- t10 False
      refine k_no rfl rfl rfl rfl ?_
      refine k_no rfl rfl rfl rfl ?_
      refine k_no rfl rfl rfl rfl ?_
      refine k_no rfl rfl rfl rfl ?_
      refine k_no rfl rfl rfl rfl ?_
      refine k_pickF rfl rfl rfl rfl ?_
      exact k_met ⟨s2, ⟨(congrArg (fun b => some (Value.bool b)) (by first | exact decide_eq_decide.2 ⟨fun h => ⟨c4, h⟩, fun h => h.2⟩ | exact (decide_eq_false (fun h => c4 h.1)).symm | (simp [c4]; done) | (simp [c4, i64] <;> omega))), trivial⟩, ⟨rfl, rfl, rfl, rfl, rfl, rfl, rfl, rfl, trivial⟩, rfl, hE3⟩
  · -- behind
    rintro s5 wL ⟨rfl, hE3⟩
    have szs5 := hE3.size
    have hS : Step K0 s s5 := hS.trans0 hE3
    replace hp0 := hp0.up2 hE3
    replace h1 := h1.up2 hE3
    replace hp1 := hp1.up2 hE3
    replace h2 := h2.up2 hE3
    refine k_move rfl rfl ?_
    have hE6 : Step K0 s5 s5 := (Step.refl _).of0 (by first | exact fun _ h => h | (intro c h; simp [KC, KO, KU, KN] at h <;> omega))
    refine k_cutl (X := St) 8 [(2, .pointer (some ⟨b1, 0, none⟩)), (3, .pointer (some ⟨b2, 0, none⟩)), (4, .bool false), (5, .pointer (some ⟨b1, 0, none⟩)), (6, .int .i64 a0.From), (7, .pointer (some ⟨b2, 0, none⟩)), (8, .int .i64 a1.From), (9, .bool (decide (a0.From = a1.From))), (16, .bool (decide ((a0.From = a1.From) ∧ (a0.To = a1.To))))] (fun _ => [(25, .bool (decide (((a0.From = a1.From) ∧ (a0.To = a1.To)) ∧ (a0.Bytes = a1.Bytes))))]) (fun sl wL => sl.w = wL ∧ Step K0 s5 sl) ?_ ?_
    · -- the ways
      refine k_again 17 rfl ?_
      refine k_split (fun c7 => ?_) (fun c7 => ?_)
      · -- t17 True
        refine k_yes rfl rfl ?_
        refine k_field_addr fld36_2 rfl rfl ?_
        refine k_yes rfl rfl ?_
        refine k_load_blk one23 rfl h1 rfl rfl ?_
        refine k_yes rfl rfl ?_
        refine k_bts (m := a0.Bytes) Try.underlying23 Try.underlying5 Try.underlying9 rfl hp0 rfl ?_
        refine k_yes rfl rfl ?_
        refine k_field_addr fld36_2 rfl rfl ?_
        refine k_yes rfl rfl ?_
        refine k_load_blk one23 rfl h2 rfl rfl ?_
        refine k_yes rfl rfl ?_
        refine k_bts (m := a1.Bytes) Try.underlying23 Try.underlying5 Try.underlying9 rfl hp1 rfl ?_
        refine k_yes rfl rfl ?_
        refine k_eql_str rfl rfl rfl ?_
        refine k_pickT rfl rfl rfl rfl ?_
        exact k_met ⟨s5, ⟨(congrArg (fun b => some (Value.bool b)) (by first | exact decide_eq_decide.2 ⟨fun h => ⟨c7, h⟩, fun h => h.2⟩ | exact (decide_eq_false (fun h => c7 h.1)).symm | (simp [c7]; done) | (simp [c7, i64] <;> omega))), trivial⟩, ⟨rfl, rfl, rfl, rfl, rfl, rfl, rfl, rfl, rfl, trivial⟩, rfl, hE6⟩
      · -- t17 False
        refine k_no rfl rfl rfl rfl ?_
        refine k_no rfl rfl rfl rfl ?_
        refine k_no rfl rfl rfl rfl ?_
        refine k_no rfl rfl rfl rfl ?_
        refine k_no rfl rfl rfl rfl ?_
        refine k_no rfl rfl rfl rfl ?_
        refine k_no rfl rfl rfl rfl ?_
        refine k_pickF rfl rfl rfl rfl ?_
        exact k_met ⟨s5, ⟨(congrArg (fun b => some (Value.bool b)) (by first | exact decide_eq_decide.2 ⟨fun h => ⟨c7, h⟩, fun h => h.2⟩ | exact (decide_eq_false (fun h => c7 h.1)).symm | (simp [c7]; done) | (simp [c7, i64] <;> omega))), trivial⟩, ⟨rfl, rfl, rfl, rfl, rfl, rfl, rfl, rfl, rfl, trivial⟩, rfl, hE6⟩
    · -- behind
      rintro s8 wL ⟨rfl, hE6⟩
      have szs8 := hE6.size
      have hS : Step K0 s s8 := hS.trans0 hE6
      replace hp0 := hp0.up2 hE6
      replace h1 := h1.up2 hE6
      replace hp1 := hp1.up2 hE6
      replace h2 := h2.up2 hE6
      refine k_assign rfl rfl ?_
      refine k_nil ?_
      refine k_keep [(4, _)] ⟨rfl, trivial⟩ ?_
      refine k_ret ?_
      obtain rfl := Option.some.inj h
      refine ⟨_, rfl, Ret.mk hS ?_⟩
      exact rfl

set_option maxHeartbeats 1000000 in
set_option maxRecDepth 100000 in
theorem net_Net_Count_w {s : St} {k0 : Nat} {p0 : Value} {a0 : NetNet} {r : Int} (ho0 : ONetNet s k0 p0 a0) (h : net_Net_Count a0 = some r) : Calls Try.prog 18 #[p0] s.w (Ret s K0 (fun s1 v => v = .int .i64 r)) := by
  unfold net_Net_Count at h
  have le0 := ho0.le
  have ne0 := ho0.ne
  obtain ⟨bo0, rfl⟩ := ho0.ptr
  obtain ⟨wo0_0, hb_o0, hwo0_0, hwo0_1⟩ := ho0.at_
  have hS : Step K0 s s := (Step.refl _).of0 (by first | exact fun _ h => h | (intro c h; simp [KC, KO, KU, KN] at h <;> omega))
  refine k_fn (rs := [2]) (args := [.pointer (some ⟨bo0, 0, none⟩)]) Try.func18 rfl rfl rfl rfl ?_
  refine k_seq ?_
  refine k_region ?_
  refine k_assign rfl rfl ?_
  refine k_nil ?_
  refine k_seq ?_
  refine k_seq ?_
  refine k_region ?_
  refine k_move rfl rfl ?_
  obtain ⟨x1, hx1, h⟩ := ob h
  refine k_call cal26 rfl (net_Net_none_w  (ONetNet.mk_ a0 (by omega) hwo0_0 hwo0_1 hb_o0) hx1) rfl ?_
  rintro s1 vr1 st1 rfl
  have szs1 := st1.size
  have hS : Step K0 s s1 := hS.trans0 st1
  replace hwo0_0 := hwo0_0.up2 st1
  replace hb_o0 := hb_o0.up2 st1
  refine k_nil ?_
  refine k_keep [(0, _), (2, _), (4, _)] ⟨rfl, rfl, rfl, trivial⟩ ?_
  refine k_cond rfl (fun c2 => ?_) (fun c2 => ?_)
  · -- T
    have h := ibT h c2
    refine k_seq ?_
    refine k_region ?_
    refine k_assign rfl rfl ?_
    refine k_nil ?_
    refine k_keep [(0, _), (2, _)] ⟨rfl, rfl, trivial⟩ ?_
    refine k_ret ?_
    obtain rfl := Option.some.inj h
    refine ⟨_, rfl, Ret.mk hS ?_⟩
    exact rfl
  · -- F
    have h := ibF h c2
    refine k_skip ?_
    refine k_seq ?_
    refine k_region ?_
    refine k_move rfl rfl ?_
    refine k_nilCheck rfl rfl ?_
    refine k_field_addr fld64_2 rfl rfl ?_
    refine k_load_blk one60 rfl hb_o0 rfl rfl ?_
    obtain ⟨x2, hx2, h⟩ := ob h
    refine k_len_map mapT60 rfl (by rw [← hx2]; exact hwo0_0) rfl ?_
    refine k_assign rfl rfl ?_
    refine k_nil ?_
    refine k_keep [(2, _)] ⟨rfl, trivial⟩ ?_
    refine k_ret ?_
    obtain rfl := Option.some.inj h
    refine ⟨_, rfl, Ret.mk hS ?_⟩
    exact rfl

set_option maxHeartbeats 1000000 in
set_option maxRecDepth 100000 in
theorem ref22_Net_Between_w {s : St} {k0 : Nat} {p0 : Value} {a0 : Ref22Net} {a1 : Int} {a2 : Int} {r : Int} (ho0 : ORef22Net s k0 p0 a0) (h : ref22_Net_Between a0 a1 a2 = some r) : Calls Try.prog 51 #[p0, .int .i64 a1, .int .i64 a2] s.w (Ret s K0 (fun s1 v => v = .int .i64 r)) := by
  unfold ref22_Net_Between at h
  have le0 := ho0.le
  have ne0 := ho0.ne
  obtain ⟨bo0, rfl⟩ := ho0.ptr
  obtain ⟨wo0_0, hb_o0, hwo0_0⟩ := ho0.at_
  have hS : Step K0 s s := (Step.refl _).of0 (by first | exact fun _ h => h | (intro c h; simp [KC, KO, KU, KN] at h <;> omega))
  refine k_fn (rs := [6]) (args := [.pointer (some ⟨bo0, 0, none⟩), .int .i64 a1, .int .i64 a2]) Try.func51 rfl rfl rfl rfl ?_
  refine k_seq ?_
  refine k_region ?_
  refine k_assign rfl rfl ?_
  refine k_nil ?_
  refine k_seq ?_
  refine k_region ?_
  refine k_assign rfl rfl ?_
  refine k_nil ?_
  refine k_seq ?_
  obtain ⟨kj1, hK1, h⟩ := jn_out h
  have hE1 : Step K0 s s := (Step.refl _).of0 (by first | exact fun _ h => h | (intro c h; simp [KC, KO, KU, KN] at h <;> omega))
  refine k_cutc (X := St × Int) [(6, .int .i64 0)] (fun (xL : St × Int) => match xL with | (sl, x2) => [(7, .int .i64 x2)]) (fun (xL : St × Int) (wL : World) => match xL with | (sl, x2) => sl.w = wL ∧ Step K0 s sl ∧ kj1 x2 = some r) ?_ ?_
  · -- the ways
    refine k_seq ?_
    refine k_region ?_
    refine k_assign rfl rfl ?_
    refine k_nil ?_
    refine k_block ?_
    refine k_loopc (X := St × Int × Int × Nat) [(0, _), (1, _), (2, _), (6, _)] (fun (xL : St × Int × Int × Nat) => match xL with | (sl, x3, x4, j) => [(7, .int .i64 x3), (8, .int .i64 x4)]) (fun (xL : St × Int × Int × Nat) (wL : World) => match xL with | (sl, x3, x4, j) => sl.w = wL ∧ Step K0 s sl ∧ ref22_Net_Between_l1 a0 a1 a2 kj1 j x3 x4 = some r) (fun (xL : St × Int × Int × Nat) => match xL with | (sl, x3, x4, j) => j) (s, 0, 0, FU) ⟨rfl, rfl, rfl, rfl, trivial⟩ ⟨(by first | rfl | (simp <;> rfl)), (by first | rfl | (simp <;> rfl)), trivial⟩ ⟨rfl, (Step.refl _).of0 (by first | exact fun _ h => h | (intro c h; simp [KC, KO, KU, KN] at h <;> omega)), h⟩ ?_
    rintro ⟨s3, x3, x4, j⟩ wL ⟨rfl, hE2, h⟩
    cases j with
    | zero => rw [ref22_Net_Between_l1] at h; exact (noneNe h).elim
    | succ j =>
    rw [ref22_Net_Between_l1] at h
    have szs3 := hE2.size
    have hS : Step K0 s s3 := hS.trans0 hE2
    have hE1 : Step K0 s s3 := hE1.trans0 hE2
    replace hwo0_0 := hwo0_0.up2 hE2
    replace hb_o0 := hb_o0.up2 hE2
    refine k_seq ?_
    refine k_seq ?_
    refine k_region ?_
    refine k_move rfl rfl ?_
    refine k_move rfl rfl ?_
    refine k_nilCheck rfl rfl ?_
    refine k_field_addr fld58_1 rfl rfl ?_
    refine k_load_blk one56 rfl hb_o0 rfl rfl ?_
    refine k_len Try.underlying56 rfl (SL.of_R hwo0_0).hasLen rfl ?_
    refine k_as (v := .int .i64 (a0.All.length : Int)) (by simp only [List.length_map]) ?_
    refine k_lss rfl rfl rfl ?_
    refine k_nil ?_
    refine k_keep [(0, _), (1, _), (2, _), (6, _), (7, _), (8, _), (15, _)] ⟨rfl, rfl, rfl, rfl, rfl, rfl, rfl, trivial⟩ ?_
    refine k_cond_dec rfl (fun c4 => ?_) (fun c4 => ?_)
    · -- T
      have h := itT h c4
      refine k_skip ?_
      refine k_seq ?_
      refine k_block ?_
      refine k_seq ?_
      refine k_region ?_
      refine k_move rfl rfl ?_
      refine k_nilCheck rfl rfl ?_
      refine k_field_addr fld58_1 rfl rfl ?_
      refine k_load_blk one56 rfl hb_o0 rfl rfl ?_
      refine k_move rfl rfl ?_
      obtain ⟨x5, hx5, h⟩ := ob h
      refine k_ixaddr Try.underlying56 size81 rfl rfl (SL.of_R hwo0_0) (geti_out hx5).1 (geti_map hx5) rfl ?_
      intro qx5 hqx5
      refine k_field_at (o := 0) rfl hqx5 (by rfl) fld81_1 rfl ?_
      intro q5 h5
      refine k_load_val one4 rfl h5 rfl ?_
      refine k_not rfl rfl ?_
      refine k_move rfl rfl ?_
      obtain ⟨x6, hx6, h⟩ := ob h
      have hE6 : Step K0 s3 s3 := (Step.refl _).of0 (by first | exact fun _ h => h | (intro c h; simp [KC, KO, KU, KN] at h <;> omega))
      refine k_cutl (X := St) 12 [(0, .pointer (some ⟨bo0, 0, none⟩)), (1, .int .i64 a1), (2, .int .i64 a2), (6, .int .i64 0), (7, .int .i64 x3), (8, .int .i64 x4), (15, .bool (decide (x4 < (a0.All.length : Int)))), (18, .pointer (some ⟨bo0, 0, none⟩)), (19, .pointer (some ⟨bo0, 0, none⟩)), (20, .pointer (some ⟨bo0, 1, none⟩)), (21, wo0_0), (22, .int .i64 x4), (23, qx5), (24, q5), (25, .bool x5.Out), (26, .bool (!x5.Out))] (fun _ => [(39, .bool x6)]) (fun sl wL => sl.w = wL ∧ Step K0 s3 sl) ?_ ?_
      · -- the ways
        refine k_again 27 rfl ?_
        refine k_splitb (fun c7 => ?_) (fun c7 => ?_)
        · -- t27 True
          have hx6 := ibT hx6 c7
          refine k_yes rfl rfl ?_
          refine k_move rfl rfl ?_
          refine k_yes rfl rfl ?_
          refine k_nilCheck rfl rfl ?_
          refine k_yes rfl rfl ?_
          refine k_field_addr fld58_1 rfl rfl ?_
          refine k_yes rfl rfl ?_
          refine k_load_blk one56 rfl hb_o0 rfl rfl ?_
          refine k_yes rfl rfl ?_
          refine k_move rfl rfl ?_
          refine k_yes rfl rfl ?_
          obtain ⟨x7, hx7, hx6⟩ := ob hx6
          refine k_ixaddr Try.underlying56 size81 rfl rfl (SL.of_R hwo0_0) (geti_out hx7).1 (geti_map hx7) rfl ?_
          intro qx7 hqx7
          refine k_yes rfl rfl ?_
          refine k_field_at (o := 0) rfl hqx7 (by rfl) fld81_0 rfl ?_
          intro q8 h8
          refine k_yes rfl rfl ?_
          refine k_field_at (o := 0) rfl h8 (by rfl) fld36_0 rfl ?_
          intro q9 h9
          refine k_yes rfl rfl ?_
          refine k_load_val one3 rfl h9 rfl ?_
          refine k_yes rfl rfl ?_
          refine k_move rfl rfl ?_
          refine k_yes rfl rfl ?_
          refine k_eql rfl rfl rfl ?_
          refine k_pickT rfl rfl rfl rfl ?_
          exact k_met ⟨s3, ⟨(congrArg (fun b => some (Value.bool b)) (Option.some.inj hx6)), trivial⟩, ⟨rfl, rfl, rfl, rfl, rfl, rfl, rfl, rfl, rfl, rfl, rfl, rfl, rfl, rfl, rfl, rfl, trivial⟩, rfl, hE6⟩
        · -- t27 False
          have hx6 := ibF hx6 c7
          refine k_no rfl rfl rfl rfl ?_
          refine k_no rfl rfl rfl rfl ?_
          refine k_no rfl rfl rfl rfl ?_
          refine k_no rfl rfl rfl rfl ?_
          refine k_no rfl rfl rfl rfl ?_
          refine k_no rfl rfl rfl rfl ?_
          refine k_no rfl rfl rfl rfl ?_
          refine k_no rfl rfl rfl rfl ?_
          refine k_no rfl rfl rfl rfl ?_
          refine k_no rfl rfl rfl rfl ?_
          refine k_no rfl rfl rfl rfl ?_
          refine k_pickF rfl rfl rfl rfl ?_
          exact k_met ⟨s3, ⟨(congrArg (fun b => some (Value.bool b)) (Option.some.inj hx6)), trivial⟩, ⟨rfl, rfl, rfl, rfl, rfl, rfl, rfl, rfl, rfl, rfl, rfl, rfl, rfl, rfl, rfl, rfl, trivial⟩, rfl, hE6⟩
      · -- behind
        rintro s10 wL ⟨rfl, hE6⟩
        have szs10 := hE6.size
        have hS : Step K0 s s10 := hS.trans0 hE6
        have hE1 : Step K0 s s10 := hE1.trans0 hE6
        have hE2 : Step K0 s s10 := hE2.trans0 hE6
        replace hwo0_0 := hwo0_0.up2 hE6
        replace hqx5 := hqx5.up2 hE6
        replace h5 := h5.up2 hE6
        replace hb_o0 := hb_o0.up2 hE6
        refine k_move rfl rfl ?_
        obtain ⟨x8, hx8, h⟩ := ob h
        have hE11 : Step K0 s10 s10 := (Step.refl _).of0 (by first | exact fun _ h => h | (intro c h; simp [KC, KO, KU, KN] at h <;> omega))
        refine k_cutl (X := St) 12 [(0, .pointer (some ⟨bo0, 0, none⟩)), (1, .int .i64 a1), (2, .int .i64 a2), (6, .int .i64 0), (7, .int .i64 x3), (8, .int .i64 x4), (15, .bool (decide (x4 < (a0.All.length : Int)))), (18, .pointer (some ⟨bo0, 0, none⟩)), (19, .pointer (some ⟨bo0, 0, none⟩)), (20, .pointer (some ⟨bo0, 1, none⟩)), (21, wo0_0), (22, .int .i64 x4), (23, qx5), (24, q5), (25, .bool x5.Out), (26, .bool (!x5.Out)), (39, .bool x6)] (fun _ => [(52, .bool x8)]) (fun sl wL => sl.w = wL ∧ Step K0 s10 sl) ?_ ?_
        · -- the ways
          refine k_again 40 rfl ?_
          refine k_splitb (fun c12 => ?_) (fun c12 => ?_)
          · -- t40 True
            have hx8 := ibT hx8 c12
            refine k_yes rfl rfl ?_
            refine k_move rfl rfl ?_
            refine k_yes rfl rfl ?_
            refine k_nilCheck rfl rfl ?_
            refine k_yes rfl rfl ?_
            refine k_field_addr fld58_1 rfl rfl ?_
            refine k_yes rfl rfl ?_
            refine k_load_blk one56 rfl hb_o0 rfl rfl ?_
            refine k_yes rfl rfl ?_
            refine k_move rfl rfl ?_
            refine k_yes rfl rfl ?_
            obtain ⟨x9, hx9, hx8⟩ := ob hx8
            refine k_ixaddr Try.underlying56 size81 rfl rfl (SL.of_R hwo0_0) (geti_out hx9).1 (geti_map hx9) rfl ?_
            intro qx9 hqx9
            refine k_yes rfl rfl ?_
            refine k_field_at (o := 0) rfl hqx9 (by rfl) fld81_0 rfl ?_
            intro q13 h13
            refine k_yes rfl rfl ?_
            refine k_field_at (o := 0) rfl h13 (by rfl) fld36_1 rfl ?_
            intro q14 h14
            refine k_yes rfl rfl ?_
            refine k_load_val one3 rfl h14 rfl ?_
            refine k_yes rfl rfl ?_
            refine k_move rfl rfl ?_
            refine k_yes rfl rfl ?_
            refine k_eql rfl rfl rfl ?_
            refine k_pickT rfl rfl rfl rfl ?_
            exact k_met ⟨s10, ⟨(congrArg (fun b => some (Value.bool b)) (Option.some.inj hx8)), trivial⟩, ⟨rfl, rfl, rfl, rfl, rfl, rfl, rfl, rfl, rfl, rfl, rfl, rfl, rfl, rfl, rfl, rfl, rfl, trivial⟩, rfl, hE11⟩
          · -- t40 False
            have hx8 := ibF hx8 c12
            refine k_no rfl rfl rfl rfl ?_
            refine k_no rfl rfl rfl rfl ?_
            refine k_no rfl rfl rfl rfl ?_
            refine k_no rfl rfl rfl rfl ?_
            refine k_no rfl rfl rfl rfl ?_
            refine k_no rfl rfl rfl rfl ?_
            refine k_no rfl rfl rfl rfl ?_
            refine k_no rfl rfl rfl rfl ?_
            refine k_no rfl rfl rfl rfl ?_
            refine k_no rfl rfl rfl rfl ?_
            refine k_no rfl rfl rfl rfl ?_
            refine k_pickF rfl rfl rfl rfl ?_
            exact k_met ⟨s10, ⟨(congrArg (fun b => some (Value.bool b)) (Option.some.inj hx8)), trivial⟩, ⟨rfl, rfl, rfl, rfl, rfl, rfl, rfl, rfl, rfl, rfl, rfl, rfl, rfl, rfl, rfl, rfl, rfl, trivial⟩, rfl, hE11⟩
        · -- behind
          rintro s15 wL ⟨rfl, hE11⟩
          have szs15 := hE11.size
          have hS : Step K0 s s15 := hS.trans0 hE11
          have hE1 : Step K0 s s15 := hE1.trans0 hE11
          have hE2 : Step K0 s s15 := hE2.trans0 hE11
          replace hwo0_0 := hwo0_0.up2 hE11
          replace hqx5 := hqx5.up2 hE11
          replace h5 := h5.up2 hE11
          replace hb_o0 := hb_o0.up2 hE11
          refine k_nil ?_
          refine k_keep [(0, _), (1, _), (2, _), (6, _), (7, _), (8, _), (52, _)] ⟨rfl, rfl, rfl, rfl, rfl, rfl, rfl, trivial⟩ ?_
          refine k_cond rfl (fun c16 => ?_) (fun c16 => ?_)
          · -- T
            have h := ibT h c16
            refine k_region ?_
            refine k_move rfl rfl ?_
            refine k_add rfl rfl rfl ?_
            refine k_assign rfl rfl ?_
            refine k_nil ?_
            refine k_blk ?_
            refine k_region ?_
            refine k_move rfl rfl ?_
            refine k_add rfl rfl rfl ?_
            refine k_assign rfl rfl ?_
            refine k_nil ?_
            exact k_stop ⟨(s15, i64 (x3 + 1), i64 (x4 + 1), j), ⟨(by first | rfl | (simp <;> rfl)), (by first | rfl | (simp <;> rfl)), trivial⟩, ⟨rfl, rfl, rfl, rfl, trivial⟩, ⟨rfl, hE2, h⟩, (by simp)⟩
          · -- F
            have h := ibF h c16
            refine k_skip ?_
            refine k_blk ?_
            refine k_region ?_
            refine k_move rfl rfl ?_
            refine k_add rfl rfl rfl ?_
            refine k_assign rfl rfl ?_
            refine k_nil ?_
            exact k_stop ⟨(s15, x3, i64 (x4 + 1), j), ⟨(by first | rfl | (simp <;> rfl)), (by first | rfl | (simp <;> rfl)), trivial⟩, ⟨rfl, rfl, rfl, rfl, trivial⟩, ⟨rfl, hE2, h⟩, (by simp)⟩
    · -- F
      have h := itF h c4
      refine k_exit rfl ?_
      exact k_stop ⟨(s3, x3), ⟨(by first | rfl | (simp <;> rfl)), trivial⟩, ⟨rfl, trivial⟩, ⟨rfl, hE1, h⟩⟩
  · -- behind
    rintro ⟨s17, x2⟩ wL ⟨rfl, hE1, h⟩
    rw [hK1] at h
    have szs17 := hE1.size
    have hS : Step K0 s s17 := hS.trans0 hE1
    replace hwo0_0 := hwo0_0.up2 hE1
    replace hb_o0 := hb_o0.up2 hE1
    refine k_seq ?_
    refine k_region ?_
    refine k_move rfl rfl ?_
    refine k_assign rfl rfl ?_
    refine k_nil ?_
    refine k_keep [(6, _)] ⟨rfl, trivial⟩ ?_
    refine k_ret ?_
    obtain rfl := Option.some.inj h
    refine ⟨_, rfl, Ret.mk hS ?_⟩
    exact rfl

set_option maxHeartbeats 1000000 in
set_option maxRecDepth 100000 in
theorem ref22_Net_put_w {s : St} {k0 : Nat} {p0 : Value} {a0 : Ref22Net} {l1 : Lab} {v1 : Value} {a1 : ApiMessage} {r : (UInt64 × Int × Ref22Net)} (ho0 : ORef22Net s k0 p0 a0) (hp1 : SL s l1 v1 1 (a1.Bytes.map bD)) (hl1_k0 : l1.o ≠ k0) (h : ref22_Net_put a0 a1 = some r) : Calls Try.prog 39 #[p0, .agg #[.int .i64 a1.From, .int .i64 a1.To, v1]] s.w (Ret s (KO k0) (fun s1 v => v = .tuple #[.int .u64 (r.1.toNat : Int), .int .i64 r.2.1] ∧ ORef22Net s1 k0 p0 r.2.2)) := by
  unfold ref22_Net_put at h
  have le0 := ho0.le
  have ne0 := ho0.ne
  obtain ⟨bo0, rfl⟩ := ho0.ptr
  obtain ⟨wo0_0, hb_o0, hwo0_0⟩ := ho0.at_
  obtain ⟨lf1, lf1le, lf1ne, hp1⟩ := hp1.fix
  have lfn1_k0 := lf1ne k0 hl1_k0 (by omega)
  have hS : Step (KO k0) s s := (Step.refl _).of0 (by first | exact fun _ h => h | (intro c h; simp [KC, KO, KU, KN] at h <;> omega))
  refine k_fn (rs := [4, 5]) (args := [.pointer (some ⟨bo0, 0, none⟩), .agg #[.int .i64 a1.From, .int .i64 a1.To, v1]]) Try.func39 rfl rfl rfl rfl ?_
  refine k_seq ?_
  refine k_region ?_
  refine k_box rfl rfl ?_
  intro s1 b1 st1 h1 ge1
  have szs1 := st1.size
  have hS : Step (KO k0) s s1 := hS.trans0 st1
  replace hp1 := hp1.up2 st1
  replace hwo0_0 := hwo0_0.up2 st1
  replace hb_o0 := hb_o0.up2 st1
  have lt1 := h1.lt
  refine k_assign rfl rfl ?_
  refine k_assign rfl rfl ?_
  refine k_nil ?_
  refine k_keep [(0, _), (3, _), (4, _), (5, _)] ⟨rfl, rfl, rfl, rfl, trivial⟩ ?_
  refine k_seq ?_
  refine k_seq ?_
  refine k_region ?_
  refine k_move rfl rfl ?_
  refine k_field_addr fld36_0 rfl rfl ?_
  refine k_load_blk one3 rfl h1 rfl rfl ?_
  refine k_field_addr fld36_1 rfl rfl ?_
  refine k_load_blk one3 rfl h1 rfl rfl ?_
  obtain ⟨x1, hx1, h⟩ := ob h
  refine k_call cal51 rfl (ref22_Net_Between_w  (ORef22Net.mk_ a0 (by omega) hwo0_0 hb_o0) hx1) rfl ?_
  rintro s2 vr2 st2 rfl
  have szs2 := st2.size
  have hS : Step (KO k0) s s2 := hS.trans0 st2
  replace hwo0_0 := hwo0_0.up2 st2
  replace hb_o0 := hb_o0.up2 st2
  replace hp1 := hp1.up2 st2
  replace h1 := h1.up2 st2
  refine k_geq rfl rfl rfl ?_
  refine k_nil ?_
  refine k_keep [(0, _), (3, _), (4, _), (5, _), (12, _)] ⟨rfl, rfl, rfl, rfl, rfl, trivial⟩ ?_
  refine k_cond_dec rfl (fun c3 => ?_) (fun c3 => ?_)
  · -- T
    have h := itT h c3
    refine k_seq ?_
    refine k_region ?_
    refine k_assign rfl rfl ?_
    refine k_assign rfl rfl ?_
    refine k_nil ?_
    refine k_keep [(0, _), (3, _), (4, _), (5, _)] ⟨rfl, rfl, rfl, rfl, trivial⟩ ?_
    refine k_ret ?_
    obtain rfl := Option.some.inj h
    refine ⟨_, rfl, Ret.mk hS ?_⟩
    exact ⟨rfl, (ORef22Net.mk_ a0 (by omega) hwo0_0 hb_o0)⟩
  · -- F
    have h := itF h c3
    refine k_skip ?_
    refine k_seq ?_
    refine k_region ?_
    refine k_bslice2 (ds := ([] : List UInt8).map bD) slc23 rfl RVs.nil (by rfl) (by rfl) rfl rfl ?_
    intro s4 v4 b4 st4 ge4 bl4 h4
    have szs4 := st4.size
    have hS : Step (KO k0) s s4 := hS.trans0 st4
    replace hwo0_0 := hwo0_0.up2 st4
    replace hb_o0 := hb_o0.up2 st4
    replace hp1 := hp1.up2 st4
    replace h1 := h1.up2 st4
    have lt4 := Own.le1 h4
    refine k_field_addr fld36_2 rfl rfl ?_
    refine k_load_blk one23 rfl h1 rfl rfl ?_
    obtain ⟨x2, hx2, h⟩ := ob h
    refine k_append (es := a1.Bytes.map bD) elem23 rfl rfl h4 hp1 (by have := (app_out hx2).1; simp only [List.length_map] at *; omega) (by have := (app_out hx2).1; simp only [List.length_map] at *; omega) rfl ?_
    intro s5 v5 st5 h5
    rw [← List.map_append, ← (app_out hx2).2] at h5
    have szs5 := st5.size
    have hS : Step (KO k0) s s5 := hS.comp st5 (by intro l hl hk; (try simp only [KC, KO, KU, KN, K0] at hk ⊢) <;> omega)
    replace hp1 := hp1.up2 st5
    replace hwo0_0 := hwo0_0.up2 st5
    replace hb_o0 := hb_o0.up2 st5
    replace h1 := h1.up2 st5
    refine k_field_addr fld36_2 rfl rfl ?_
    refine k_store_c (cs' := [.int .i64 a1.From, .int .i64 a1.To, v5]) size23 rfl rfl h1 (by first | (simp; done) | omega | (dsimp only; omega)) (CellsOf.sl (h5.sl)) rfl (by first | rfl | (simp; done) | (simp; omega)) rfl ?_
    intro s6 st6 h1
    have szs6 := st6.size
    have hS : Step (KO k0) s s6 := hS.comp st6 (by intro l hl hk; (try simp only [KC, KO, KU, KN, K0] at hk ⊢) <;> omega)
    replace hp1 := hp1.up2 st6
    replace hwo0_0 := hwo0_0.up2 st6
    replace hb_o0 := hb_o0.up2 st6
    replace h5 := h5.up2 st6
    refine k_nil ?_
    refine k_keep [(0, _), (3, _), (4, _), (5, _)] ⟨rfl, rfl, rfl, rfl, trivial⟩ ?_
    refine k_seq ?_
    obtain ⟨kj3, hK7, h⟩ := jn_out h
    have hE7 : Step (KU (KC (b4 + 1) 0) (KC k0 0)) s6 s6 := (Step.refl _).of0 (by first | exact fun _ h => h | (intro c h; simp [KC, KO, KU, KN] at h <;> omega))
    refine k_cutc (X := St × (List Ref22Letter) × Value × (List UInt8) × Value) [(0, .pointer (some ⟨bo0, 0, none⟩)), (4, .int .u64 0), (5, .int .i64 0)] (fun (xL : St × (List Ref22Letter) × Value × (List UInt8) × Value) => match xL with | (sl, x4, v8, x5, v9) => []) (fun (xL : St × (List Ref22Letter) × Value × (List UInt8) × Value) (wL : World) => match xL with | (sl, x4, v8, x5, v9) => sl.w = wL ∧ Step (KU (KC (b4 + 1) 0) (KC k0 0)) s6 sl ∧ (R sl v8 (.sl 4 (x4.map dRef22Letter))) ∧ (Blk sl bo0 ⟨k0, 0⟩ [.int .i64 a0.Replicas, v8] 58) ∧ (R sl v9 (.sl 1 (x5.map bD))) ∧ (Blk sl b1 ⟨b1 + 1, 0⟩ [.int .i64 a1.From, .int .i64 a1.To, v9] 36) ∧ kj3 x4 x5 = some r) ?_ ?_
    · -- the ways
      obtain ⟨x6, hx6, h⟩ := ob h
      obtain ⟨x7, hx7, h⟩ := ob h
      refine k_drawT (KU (KN s6.n) (KC (b4 + 1) 0)) 11 (.read 0 (.read 2 (.read 3 (.read 4 (.read 5 (.read 7 (.read 8 (.alt 1 (.alt 6 (.alt 9 (.alt 10 .fin .no) .no) (.alt 9 (.alt 6 (.alt 10 .fin .no) .no) .no)) (.alt 9 (.alt 1 (.alt 6 (.alt 10 .fin .no) .no) .no) .no))))))))) mixed (by intro c h; (try simp only [KC, KO, KU, KN] at h) <;> omega) rfl rfl rfl ?_
      intro s10 st10
      have szs10 := st10.size
      have hS : Step (KO k0) s s10 := hS.trans0 st10
      have hE7 : Step (KU (KC (b4 + 1) 0) (KC k0 0)) s6 s10 := hE7.trans0 st10
      replace hwo0_0 := hwo0_0.up2 st10
      replace hb_o0 := hb_o0.up2 st10
      replace h1 := h1.up2 st10
      replace h5 := h5.up2 st10
      refine rt_read (.pointer (some ⟨bo0, 0, none⟩)) rfl rfl (fun s11 st11 => ?_) ?_
      · try replace hwo0_0 := hwo0_0.up2 st11
        try replace hb_o0 := hb_o0.up2 st11
        try replace h1 := h1.up2 st11
        try replace h5 := h5.up2 st11
        refine k_move rfl rfl ?_
        exact fq_end
      refine rt_read (.pointer (some ⟨bo0, 0, none⟩)) rfl rfl (fun s12 st12 => ?_) ?_
      · try replace hwo0_0 := hwo0_0.up2 st12
        try replace hb_o0 := hb_o0.up2 st12
        try replace h1 := h1.up2 st12
        try replace h5 := h5.up2 st12
        refine k_move rfl rfl ?_
        exact fq_end
      refine rt_read (.pointer (some ⟨bo0, 0, none⟩)) rfl rfl (fun s13 st13 => ?_) ?_
      · try replace hwo0_0 := hwo0_0.up2 st13
        try replace hb_o0 := hb_o0.up2 st13
        try replace h1 := h1.up2 st13
        try replace h5 := h5.up2 st13
        refine k_nilCheck rfl rfl ?_
        exact fq_end
      refine rt_read (.pointer (some ⟨bo0, 1, none⟩)) rfl rfl (fun s14 st14 => ?_) ?_
      · try replace hwo0_0 := hwo0_0.up2 st14
        try replace hb_o0 := hb_o0.up2 st14
        try replace h1 := h1.up2 st14
        try replace h5 := h5.up2 st14
        refine k_field_addr fld58_1 rfl rfl ?_
        exact fq_end
      refine rt_read (wo0_0) rfl rfl (fun s15 st15 => ?_) ?_
      · try replace hwo0_0 := hwo0_0.up2 st15
        try replace hb_o0 := hb_o0.up2 st15
        try replace h1 := h1.up2 st15
        try replace h5 := h5.up2 st15
        refine k_load_blk one56 rfl hb_o0 rfl rfl ?_
        exact fq_end
      refine rt_read (.agg #[.int .i64 a1.From, .int .i64 a1.To, v5]) rfl rfl (fun s16 st16 => ?_) ?_
      · try replace hwo0_0 := hwo0_0.up2 st16
        try replace hb_o0 := hb_o0.up2 st16
        try replace h1 := h1.up2 st16
        try replace h5 := h5.up2 st16
        refine k_load_blka (cs := [.int .i64 a1.From, .int .i64 a1.To, v5]) agg36 rfl h1 rfl ?_
        exact fq_end
      refine rt_read (.agg #[.int .i64 a1.From, .int .i64 a1.To, v5, .bool false]) rfl rfl (fun s17 st17 => ?_) ?_
      · try replace hwo0_0 := hwo0_0.up2 st17
        try replace hb_o0 := hb_o0.up2 st17
        try replace h1 := h1.up2 st17
        try replace h5 := h5.up2 st17
        refine k_build plc81 zero81 rfl (Parts.cons (CellsOf.lit (vs := [.int .i64 a1.From, .int .i64 a1.To, v5]) rfl (ones.cons rfl (ones.cons rfl (ones.cons ((h5.sl)).one1 ones.nil)))).1 Parts.nil) (by rfl) rfl ?_
        refine k_as (v := .agg #[.int .i64 a1.From, .int .i64 a1.To, v5, .bool false]) rfl ?_
        exact fq_end
      refine rt_alt rfl rfl ?_ ?_
      · -- order: 1
        have hA18 : Step (KU (KN s6.n) (KC (b4 + 1) 0)) s10 s10 := (Step.refl _).of0 (by first | exact fun _ h => h | (intro c h; simp [KC, KO, KU, KN] at h <;> omega))
        refine k_bslice2 (ds := ([] : List Ref22Letter).map dRef22Letter) slc56 rfl RVs.nil (by rfl) (by rfl) rfl rfl ?_
        intro s19 v19 b19 st19 ge19 bl19 h19
        have szs19 := st19.size
        have hS : Step (KO k0) s s19 := hS.trans0 st19
        have hE7 : Step (KU (KC (b4 + 1) 0) (KC k0 0)) s6 s19 := hE7.trans0 st19
        have hA18 : Step (KU (KN s6.n) (KC (b4 + 1) 0)) s10 s19 := hA18.trans0 st19
        replace hwo0_0 := hwo0_0.up2 st19
        replace hb_o0 := hb_o0.up2 st19
        replace h1 := h1.up2 st19
        replace h5 := h5.up2 st19
        have lt19 := Own.le1 h19
        refine rt_cont hA18 ?_
        refine rt_alt rfl rfl ?_ ?_
        · -- order: 6
          have hA20 : Step (KU (KN s6.n) (KC (b4 + 1) 0)) s19 s19 := (Step.refl _).of0 (by first | exact fun _ h => h | (intro c h; simp [KC, KO, KU, KN] at h <;> omega))
          refine k_append (es := a0.All.map dRef22Letter) elem56 rfl rfl h19 (SL.of_R hwo0_0) (by have := (app_out hx6).1; simp only [List.length_map] at *; omega) (by have := (app_out hx6).1; simp only [List.length_map] at *; omega) rfl ?_
          intro s21 v21 st21 h21
          rw [← List.map_append, ← (app_out hx6).2] at h21
          have szs21 := st21.size
          have hS : Step (KO k0) s s21 := hS.comp st21 (by intro l hl hk; (try simp only [KC, KO, KU, KN, K0] at hk ⊢) <;> omega)
          have hE7 : Step (KU (KC (b4 + 1) 0) (KC k0 0)) s6 s21 := hE7.comp st21 (by intro l hl hk; (try simp only [KC, KO, KU, KN, K0] at hk ⊢) <;> omega)
          have hA20 : Step (KU (KN s6.n) (KC (b4 + 1) 0)) s19 s21 := hA20.comp st21 (by intro l hl hk; (try simp only [KC, KO, KU, KN, K0] at hk ⊢) <;> omega)
          replace hwo0_0 := hwo0_0.up2 st21
          replace hb_o0 := hb_o0.up2 st21
          replace h1 := h1.up2 st21
          replace h5 := h5.up2 st21
          refine rt_cont hA20 ?_
          refine rt_act rfl rfl ?_
          have hA22 : Step (KU (KN s6.n) (KC (b4 + 1) 0)) s21 s21 := (Step.refl _).of0 (by first | exact fun _ h => h | (intro c h; simp [KC, KO, KU, KN] at h <;> omega))
          obtain ⟨s23, e23, st23, h23⟩ := h5.freeze
          rw [← e23]
          have szs23 := st23.size
          have hS : Step (KO k0) s s23 := hS.comp st23 (by intro l hl hk; (try simp only [KC, KO, KU, KN, K0] at hk ⊢) <;> omega)
          have hE7 : Step (KU (KC (b4 + 1) 0) (KC k0 0)) s6 s23 := hE7.comp st23 (by intro l hl hk; (try simp only [KC, KO, KU, KN, K0] at hk ⊢) <;> omega)
          have hA22 : Step (KU (KN s6.n) (KC (b4 + 1) 0)) s21 s23 := hA22.comp st23 (by intro l hl hk; (try simp only [KC, KO, KU, KN, K0] at hk ⊢) <;> omega)
          replace hwo0_0 := hwo0_0.up2 st23
          replace hb_o0 := hb_o0.up2 st23
          replace h1 := h1.up2 st23
          replace h21 := h21.up2 st23
          refine k_bslice2 (ds := ([(⟨(⟨a1.From, a1.To, x2⟩ : ApiMessage), false⟩ : Ref22Letter)] : List Ref22Letter).map dRef22Letter) slc56 rfl (RVs.cons ⟨_, rfl, (clsRef22Letter (⟨(⟨a1.From, a1.To, x2⟩ : ApiMessage), false⟩ : Ref22Letter) h23)⟩ RVs.nil) (by rfl) (by rfl) rfl rfl ?_
          intro s24 v24 b24 st24 ge24 bl24 h24
          have szs24 := st24.size
          have hS : Step (KO k0) s s24 := hS.trans0 st24
          have hE7 : Step (KU (KC (b4 + 1) 0) (KC k0 0)) s6 s24 := hE7.trans0 st24
          have hA22 : Step (KU (KN s6.n) (KC (b4 + 1) 0)) s21 s24 := hA22.trans0 st24
          replace hwo0_0 := hwo0_0.up2 st24
          replace h23 := h23.up2 st24
          replace hb_o0 := hb_o0.up2 st24
          replace h1 := h1.up2 st24
          replace h21 := h21.up2 st24
          have lt24 := Own.le1 h24
          refine rt_cont hA22 ?_
          refine rt_act rfl rfl ?_
          have hA25 : Step (KU (KN s6.n) (KC (b4 + 1) 0)) s24 s24 := (Step.refl _).of0 (by first | exact fun _ h => h | (intro c h; simp [KC, KO, KU, KN] at h <;> omega))
          refine k_append (es := ([(⟨(⟨a1.From, a1.To, x2⟩ : ApiMessage), false⟩ : Ref22Letter)] : List Ref22Letter).map dRef22Letter) elem56 rfl rfl h21 (h24.sl) (by have := (app_out hx7).1; simp only [List.length_map] at *; omega) (by have := (app_out hx7).1; simp only [List.length_map] at *; omega) rfl ?_
          intro s26 v26 st26 h26
          rw [← List.map_append, ← (app_out hx7).2] at h26
          have szs26 := st26.size
          have hS : Step (KO k0) s s26 := hS.comp st26 (by intro l hl hk; (try simp only [KC, KO, KU, KN, K0] at hk ⊢) <;> omega)
          have hE7 : Step (KU (KC (b4 + 1) 0) (KC k0 0)) s6 s26 := hE7.comp st26 (by intro l hl hk; (try simp only [KC, KO, KU, KN, K0] at hk ⊢) <;> omega)
          have hA25 : Step (KU (KN s6.n) (KC (b4 + 1) 0)) s24 s26 := hA25.comp st26 (by intro l hl hk; (try simp only [KC, KO, KU, KN, K0] at hk ⊢) <;> omega)
          replace hwo0_0 := hwo0_0.up2 st26
          replace h23 := h23.up2 st26
          replace hb_o0 := hb_o0.up2 st26
          replace h1 := h1.up2 st26
          replace h24 := h24.up2 st26
          refine rt_cont hA25 ?_
          refine rt_fin ?_
          refine k_nilCheck rfl rfl ?_
          refine k_field_addr fld58_1 rfl rfl ?_
          refine k_store_c (cs' := [.int .i64 a0.Replicas, v26]) size56 rfl rfl hb_o0 (by first | (simp; done) | omega | (dsimp only; omega)) (CellsOf.sl (h26.sl)) rfl (by first | rfl | (simp; done) | (simp; omega)) rfl ?_
          intro s27 st27 hb_o0
          have szs27 := st27.size
          have hS : Step (KO k0) s s27 := hS.comp st27 (by intro l hl hk; (try simp only [KC, KO, KU, KN, K0] at hk ⊢) <;> omega)
          have hE7 : Step (KU (KC (b4 + 1) 0) (KC k0 0)) s6 s27 := hE7.comp st27 (by intro l hl hk; (try simp only [KC, KO, KU, KN, K0] at hk ⊢) <;> omega)
          replace hwo0_0 := hwo0_0.up2 st27
          replace h23 := h23.up2 st27
          replace h1 := h1.up2 st27
          replace h24 := h24.up2 st27
          replace h26 := h26.up2 st27
          refine k_nil ?_
          obtain ⟨s28, e28, st28, h28⟩ := h26.freeze
          rw [← e28]
          have szs28 := st28.size
          have hS : Step (KO k0) s s28 := hS.comp st28 (by intro l hl hk; (try simp only [KC, KO, KU, KN, K0] at hk ⊢) <;> omega)
          have hE7 : Step (KU (KC (b4 + 1) 0) (KC k0 0)) s6 s28 := hE7.comp st28 (by intro l hl hk; (try simp only [KC, KO, KU, KN, K0] at hk ⊢) <;> omega)
          replace hwo0_0 := hwo0_0.up2 st28
          replace h23 := h23.up2 st28
          replace hb_o0 := hb_o0.up2 st28
          replace h1 := h1.up2 st28
          replace h24 := h24.up2 st28
          exact k_stop ⟨(s28, x7, v26, x2, v5), trivial, ⟨rfl, rfl, rfl, trivial⟩, ⟨rfl, hE7, h28, hb_o0, h23, h1, h⟩⟩
        · -- other orders
          refine rt_act rfl rfl ?_
          have hA29 : Step (KU (KN s6.n) (KC (b4 + 1) 0)) s19 s19 := (Step.refl _).of0 (by first | exact fun _ h => h | (intro c h; simp [KC, KO, KU, KN] at h <;> omega))
          obtain ⟨s30, e30, st30, h30⟩ := h5.freeze
          rw [← e30]
          have szs30 := st30.size
          have hS : Step (KO k0) s s30 := hS.comp st30 (by intro l hl hk; (try simp only [KC, KO, KU, KN, K0] at hk ⊢) <;> omega)
          have hE7 : Step (KU (KC (b4 + 1) 0) (KC k0 0)) s6 s30 := hE7.comp st30 (by intro l hl hk; (try simp only [KC, KO, KU, KN, K0] at hk ⊢) <;> omega)
          have hA29 : Step (KU (KN s6.n) (KC (b4 + 1) 0)) s19 s30 := hA29.comp st30 (by intro l hl hk; (try simp only [KC, KO, KU, KN, K0] at hk ⊢) <;> omega)
          replace hwo0_0 := hwo0_0.up2 st30
          replace hb_o0 := hb_o0.up2 st30
          replace h1 := h1.up2 st30
          replace h19 := h19.up2 st30
          refine k_bslice2 (ds := ([(⟨(⟨a1.From, a1.To, x2⟩ : ApiMessage), false⟩ : Ref22Letter)] : List Ref22Letter).map dRef22Letter) slc56 rfl (RVs.cons ⟨_, rfl, (clsRef22Letter (⟨(⟨a1.From, a1.To, x2⟩ : ApiMessage), false⟩ : Ref22Letter) h30)⟩ RVs.nil) (by rfl) (by rfl) rfl rfl ?_
          intro s31 v31 b31 st31 ge31 bl31 h31
          have szs31 := st31.size
          have hS : Step (KO k0) s s31 := hS.trans0 st31
          have hE7 : Step (KU (KC (b4 + 1) 0) (KC k0 0)) s6 s31 := hE7.trans0 st31
          have hA29 : Step (KU (KN s6.n) (KC (b4 + 1) 0)) s19 s31 := hA29.trans0 st31
          replace hwo0_0 := hwo0_0.up2 st31
          replace h30 := h30.up2 st31
          replace hb_o0 := hb_o0.up2 st31
          replace h1 := h1.up2 st31
          replace h19 := h19.up2 st31
          have lt31 := Own.le1 h31
          refine rt_cont hA29 ?_
          refine rt_act rfl rfl ?_
          have hA32 : Step (KU (KN s6.n) (KC (b4 + 1) 0)) s31 s31 := (Step.refl _).of0 (by first | exact fun _ h => h | (intro c h; simp [KC, KO, KU, KN] at h <;> omega))
          refine k_append (es := a0.All.map dRef22Letter) elem56 rfl rfl h19 (SL.of_R hwo0_0) (by have := (app_out hx6).1; simp only [List.length_map] at *; omega) (by have := (app_out hx6).1; simp only [List.length_map] at *; omega) rfl ?_
          intro s33 v33 st33 h33
          rw [← List.map_append, ← (app_out hx6).2] at h33
          have szs33 := st33.size
          have hS : Step (KO k0) s s33 := hS.comp st33 (by intro l hl hk; (try simp only [KC, KO, KU, KN, K0] at hk ⊢) <;> omega)
          have hE7 : Step (KU (KC (b4 + 1) 0) (KC k0 0)) s6 s33 := hE7.comp st33 (by intro l hl hk; (try simp only [KC, KO, KU, KN, K0] at hk ⊢) <;> omega)
          have hA32 : Step (KU (KN s6.n) (KC (b4 + 1) 0)) s31 s33 := hA32.comp st33 (by intro l hl hk; (try simp only [KC, KO, KU, KN, K0] at hk ⊢) <;> omega)
          replace hwo0_0 := hwo0_0.up2 st33
          replace h30 := h30.up2 st33
          replace hb_o0 := hb_o0.up2 st33
          replace h1 := h1.up2 st33
          replace h31 := h31.up2 st33
          refine rt_cont hA32 ?_
          refine rt_act rfl rfl ?_
          have hA34 : Step (KU (KN s6.n) (KC (b4 + 1) 0)) s33 s33 := (Step.refl _).of0 (by first | exact fun _ h => h | (intro c h; simp [KC, KO, KU, KN] at h <;> omega))
          refine k_append (es := ([(⟨(⟨a1.From, a1.To, x2⟩ : ApiMessage), false⟩ : Ref22Letter)] : List Ref22Letter).map dRef22Letter) elem56 rfl rfl h33 (h31.sl) (by have := (app_out hx7).1; simp only [List.length_map] at *; omega) (by have := (app_out hx7).1; simp only [List.length_map] at *; omega) rfl ?_
          intro s35 v35 st35 h35
          rw [← List.map_append, ← (app_out hx7).2] at h35
          have szs35 := st35.size
          have hS : Step (KO k0) s s35 := hS.comp st35 (by intro l hl hk; (try simp only [KC, KO, KU, KN, K0] at hk ⊢) <;> omega)
          have hE7 : Step (KU (KC (b4 + 1) 0) (KC k0 0)) s6 s35 := hE7.comp st35 (by intro l hl hk; (try simp only [KC, KO, KU, KN, K0] at hk ⊢) <;> omega)
          have hA34 : Step (KU (KN s6.n) (KC (b4 + 1) 0)) s33 s35 := hA34.comp st35 (by intro l hl hk; (try simp only [KC, KO, KU, KN, K0] at hk ⊢) <;> omega)
          replace hwo0_0 := hwo0_0.up2 st35
          replace h30 := h30.up2 st35
          replace hb_o0 := hb_o0.up2 st35
          replace h1 := h1.up2 st35
          replace h31 := h31.up2 st35
          refine rt_cont hA34 ?_
          refine rt_fin ?_
          refine k_nilCheck rfl rfl ?_
          refine k_field_addr fld58_1 rfl rfl ?_
          refine k_store_c (cs' := [.int .i64 a0.Replicas, v35]) size56 rfl rfl hb_o0 (by first | (simp; done) | omega | (dsimp only; omega)) (CellsOf.sl (h35.sl)) rfl (by first | rfl | (simp; done) | (simp; omega)) rfl ?_
          intro s36 st36 hb_o0
          have szs36 := st36.size
          have hS : Step (KO k0) s s36 := hS.comp st36 (by intro l hl hk; (try simp only [KC, KO, KU, KN, K0] at hk ⊢) <;> omega)
          have hE7 : Step (KU (KC (b4 + 1) 0) (KC k0 0)) s6 s36 := hE7.comp st36 (by intro l hl hk; (try simp only [KC, KO, KU, KN, K0] at hk ⊢) <;> omega)
          replace hwo0_0 := hwo0_0.up2 st36
          replace h30 := h30.up2 st36
          replace h1 := h1.up2 st36
          replace h31 := h31.up2 st36
          replace h35 := h35.up2 st36
          refine k_nil ?_
          obtain ⟨s37, e37, st37, h37⟩ := h35.freeze
          rw [← e37]
          have szs37 := st37.size
          have hS : Step (KO k0) s s37 := hS.comp st37 (by intro l hl hk; (try simp only [KC, KO, KU, KN, K0] at hk ⊢) <;> omega)
          have hE7 : Step (KU (KC (b4 + 1) 0) (KC k0 0)) s6 s37 := hE7.comp st37 (by intro l hl hk; (try simp only [KC, KO, KU, KN, K0] at hk ⊢) <;> omega)
          replace hwo0_0 := hwo0_0.up2 st37
          replace h30 := h30.up2 st37
          replace hb_o0 := hb_o0.up2 st37
          replace h1 := h1.up2 st37
          replace h31 := h31.up2 st37
          exact k_stop ⟨(s37, x7, v35, x2, v5), trivial, ⟨rfl, rfl, rfl, trivial⟩, ⟨rfl, hE7, h37, hb_o0, h30, h1, h⟩⟩
      · -- other orders
        refine rt_act rfl rfl ?_
        have hA38 : Step (KU (KN s6.n) (KC (b4 + 1) 0)) s10 s10 := (Step.refl _).of0 (by first | exact fun _ h => h | (intro c h; simp [KC, KO, KU, KN] at h <;> omega))
        obtain ⟨s39, e39, st39, h39⟩ := h5.freeze
        rw [← e39]
        have szs39 := st39.size
        have hS : Step (KO k0) s s39 := hS.comp st39 (by intro l hl hk; (try simp only [KC, KO, KU, KN, K0] at hk ⊢) <;> omega)
        have hE7 : Step (KU (KC (b4 + 1) 0) (KC k0 0)) s6 s39 := hE7.comp st39 (by intro l hl hk; (try simp only [KC, KO, KU, KN, K0] at hk ⊢) <;> omega)
        have hA38 : Step (KU (KN s6.n) (KC (b4 + 1) 0)) s10 s39 := hA38.comp st39 (by intro l hl hk; (try simp only [KC, KO, KU, KN, K0] at hk ⊢) <;> omega)
        replace hwo0_0 := hwo0_0.up2 st39
        replace hb_o0 := hb_o0.up2 st39
        replace h1 := h1.up2 st39
        refine k_bslice2 (ds := ([(⟨(⟨a1.From, a1.To, x2⟩ : ApiMessage), false⟩ : Ref22Letter)] : List Ref22Letter).map dRef22Letter) slc56 rfl (RVs.cons ⟨_, rfl, (clsRef22Letter (⟨(⟨a1.From, a1.To, x2⟩ : ApiMessage), false⟩ : Ref22Letter) h39)⟩ RVs.nil) (by rfl) (by rfl) rfl rfl ?_
        intro s40 v40 b40 st40 ge40 bl40 h40
        have szs40 := st40.size
        have hS : Step (KO k0) s s40 := hS.trans0 st40
        have hE7 : Step (KU (KC (b4 + 1) 0) (KC k0 0)) s6 s40 := hE7.trans0 st40
        have hA38 : Step (KU (KN s6.n) (KC (b4 + 1) 0)) s10 s40 := hA38.trans0 st40
        replace hwo0_0 := hwo0_0.up2 st40
        replace h39 := h39.up2 st40
        replace hb_o0 := hb_o0.up2 st40
        replace h1 := h1.up2 st40
        have lt40 := Own.le1 h40
        refine rt_cont hA38 ?_
        refine rt_act rfl rfl ?_
        have hA41 : Step (KU (KN s6.n) (KC (b4 + 1) 0)) s40 s40 := (Step.refl _).of0 (by first | exact fun _ h => h | (intro c h; simp [KC, KO, KU, KN] at h <;> omega))
        refine k_bslice2 (ds := ([] : List Ref22Letter).map dRef22Letter) slc56 rfl RVs.nil (by rfl) (by rfl) rfl rfl ?_
        intro s42 v42 b42 st42 ge42 bl42 h42
        have szs42 := st42.size
        have hS : Step (KO k0) s s42 := hS.trans0 st42
        have hE7 : Step (KU (KC (b4 + 1) 0) (KC k0 0)) s6 s42 := hE7.trans0 st42
        have hA41 : Step (KU (KN s6.n) (KC (b4 + 1) 0)) s40 s42 := hA41.trans0 st42
        replace hwo0_0 := hwo0_0.up2 st42
        replace h39 := h39.up2 st42
        replace hb_o0 := hb_o0.up2 st42
        replace h1 := h1.up2 st42
        replace h40 := h40.up2 st42
        have lt42 := Own.le1 h42
        refine rt_cont hA41 ?_
        refine rt_act rfl rfl ?_
        have hA43 : Step (KU (KN s6.n) (KC (b4 + 1) 0)) s42 s42 := (Step.refl _).of0 (by first | exact fun _ h => h | (intro c h; simp [KC, KO, KU, KN] at h <;> omega))
        refine k_append (es := a0.All.map dRef22Letter) elem56 rfl rfl h42 (SL.of_R hwo0_0) (by have := (app_out hx6).1; simp only [List.length_map] at *; omega) (by have := (app_out hx6).1; simp only [List.length_map] at *; omega) rfl ?_
        intro s44 v44 st44 h44
        rw [← List.map_append, ← (app_out hx6).2] at h44
        have szs44 := st44.size
        have hS : Step (KO k0) s s44 := hS.comp st44 (by intro l hl hk; (try simp only [KC, KO, KU, KN, K0] at hk ⊢) <;> omega)
        have hE7 : Step (KU (KC (b4 + 1) 0) (KC k0 0)) s6 s44 := hE7.comp st44 (by intro l hl hk; (try simp only [KC, KO, KU, KN, K0] at hk ⊢) <;> omega)
        have hA43 : Step (KU (KN s6.n) (KC (b4 + 1) 0)) s42 s44 := hA43.comp st44 (by intro l hl hk; (try simp only [KC, KO, KU, KN, K0] at hk ⊢) <;> omega)
        replace hwo0_0 := hwo0_0.up2 st44
        replace h39 := h39.up2 st44
        replace hb_o0 := hb_o0.up2 st44
        replace h1 := h1.up2 st44
        replace h40 := h40.up2 st44
        refine rt_cont hA43 ?_
        refine rt_act rfl rfl ?_
        have hA45 : Step (KU (KN s6.n) (KC (b4 + 1) 0)) s44 s44 := (Step.refl _).of0 (by first | exact fun _ h => h | (intro c h; simp [KC, KO, KU, KN] at h <;> omega))
        refine k_append (es := ([(⟨(⟨a1.From, a1.To, x2⟩ : ApiMessage), false⟩ : Ref22Letter)] : List Ref22Letter).map dRef22Letter) elem56 rfl rfl h44 (h40.sl) (by have := (app_out hx7).1; simp only [List.length_map] at *; omega) (by have := (app_out hx7).1; simp only [List.length_map] at *; omega) rfl ?_
        intro s46 v46 st46 h46
        rw [← List.map_append, ← (app_out hx7).2] at h46
        have szs46 := st46.size
        have hS : Step (KO k0) s s46 := hS.comp st46 (by intro l hl hk; (try simp only [KC, KO, KU, KN, K0] at hk ⊢) <;> omega)
        have hE7 : Step (KU (KC (b4 + 1) 0) (KC k0 0)) s6 s46 := hE7.comp st46 (by intro l hl hk; (try simp only [KC, KO, KU, KN, K0] at hk ⊢) <;> omega)
        have hA45 : Step (KU (KN s6.n) (KC (b4 + 1) 0)) s44 s46 := hA45.comp st46 (by intro l hl hk; (try simp only [KC, KO, KU, KN, K0] at hk ⊢) <;> omega)
        replace hwo0_0 := hwo0_0.up2 st46
        replace h39 := h39.up2 st46
        replace hb_o0 := hb_o0.up2 st46
        replace h1 := h1.up2 st46
        replace h40 := h40.up2 st46
        refine rt_cont hA45 ?_
        refine rt_fin ?_
        refine k_nilCheck rfl rfl ?_
        refine k_field_addr fld58_1 rfl rfl ?_
        refine k_store_c (cs' := [.int .i64 a0.Replicas, v46]) size56 rfl rfl hb_o0 (by first | (simp; done) | omega | (dsimp only; omega)) (CellsOf.sl (h46.sl)) rfl (by first | rfl | (simp; done) | (simp; omega)) rfl ?_
        intro s47 st47 hb_o0
        have szs47 := st47.size
        have hS : Step (KO k0) s s47 := hS.comp st47 (by intro l hl hk; (try simp only [KC, KO, KU, KN, K0] at hk ⊢) <;> omega)
        have hE7 : Step (KU (KC (b4 + 1) 0) (KC k0 0)) s6 s47 := hE7.comp st47 (by intro l hl hk; (try simp only [KC, KO, KU, KN, K0] at hk ⊢) <;> omega)
        replace hwo0_0 := hwo0_0.up2 st47
        replace h39 := h39.up2 st47
        replace h1 := h1.up2 st47
        replace h40 := h40.up2 st47
        replace h46 := h46.up2 st47
        refine k_nil ?_
        obtain ⟨s48, e48, st48, h48⟩ := h46.freeze
        rw [← e48]
        have szs48 := st48.size
        have hS : Step (KO k0) s s48 := hS.comp st48 (by intro l hl hk; (try simp only [KC, KO, KU, KN, K0] at hk ⊢) <;> omega)
        have hE7 : Step (KU (KC (b4 + 1) 0) (KC k0 0)) s6 s48 := hE7.comp st48 (by intro l hl hk; (try simp only [KC, KO, KU, KN, K0] at hk ⊢) <;> omega)
        replace hwo0_0 := hwo0_0.up2 st48
        replace h39 := h39.up2 st48
        replace hb_o0 := hb_o0.up2 st48
        replace h1 := h1.up2 st48
        replace h40 := h40.up2 st48
        exact k_stop ⟨(s48, x7, v46, x2, v5), trivial, ⟨rfl, rfl, rfl, trivial⟩, ⟨rfl, hE7, h48, hb_o0, h39, h1, h⟩⟩
    · -- behind
      rintro ⟨s49, x4, v8, x5, v9⟩ wL ⟨rfl, hE7, h8, hb_o0, h9, h1, h⟩
      rw [hK7] at h
      have szs49 := hE7.size
      have hS : Step (KO k0) s s49 := hS.comp hE7 (by intro l hl hk; (try simp only [KC, KO, KU, KN, K0] at hk ⊢) <;> omega)
      refine k_seq ?_
      refine k_region ?_
      refine k_move rfl rfl ?_
      refine k_nilCheck rfl rfl ?_
      refine k_field_addr fld58_1 rfl rfl ?_
      refine k_load_blk one56 rfl hb_o0 rfl rfl ?_
      refine k_len Try.underlying56 rfl (SL.of_R h8).hasLen rfl ?_
      refine k_as (v := .int .i64 (x4.length : Int)) (by simp only [List.length_map]) ?_
      refine k_conv (p := (x4.length : Int)) Try.underlying3 Try.underlying30 rfl rfl ?_
      refine k_as (congrArg (Value.int .u64) (w64 _)) ?_
      refine k_assign rfl rfl ?_
      refine k_assign rfl rfl ?_
      refine k_nil ?_
      refine k_keep [(4, _), (5, _)] ⟨rfl, rfl, trivial⟩ ?_
      refine k_ret ?_
      obtain rfl := Option.some.inj h
      refine ⟨_, rfl, Ret.mk hS ?_⟩
      exact ⟨rfl, (ORef22Net.mk_ (⟨a0.Replicas, x4⟩ : Ref22Net) (by omega) h8 hb_o0)⟩

set_option maxHeartbeats 1000000 in
set_option maxRecDepth 100000 in
theorem ref22_Net_Send_w {s : St} {k0 : Nat} {p0 : Value} {a0 : Ref22Net} {a1 : Int} {a2 : Int} {l3 : Lab} {v3 : Value} {a3 : (List UInt8)} {r : (UInt64 × Int × Ref22Net)} (ho0 : ORef22Net s k0 p0 a0) (hp3 : SL s l3 v3 1 (a3.map bD)) (hl3_k0 : l3.o ≠ k0) (h : ref22_Net_Send a0 a1 a2 a3 = some r) : Calls Try.prog 30 #[p0, .int .i64 a1, .int .i64 a2, v3] s.w (Ret s (KO k0) (fun s1 v => v = .tuple #[.int .u64 (r.1.toNat : Int), .int .i64 r.2.1] ∧ ORef22Net s1 k0 p0 r.2.2)) := by
  unfold ref22_Net_Send at h
  have le0 := ho0.le
  have ne0 := ho0.ne
  obtain ⟨bo0, rfl⟩ := ho0.ptr
  obtain ⟨wo0_0, hb_o0, hwo0_0⟩ := ho0.at_
  obtain ⟨lf3, lf3le, lf3ne, hp3⟩ := hp3.fix
  have lfn3_k0 := lf3ne k0 hl3_k0 (by omega)
  have hS : Step (KO k0) s s := (Step.refl _).of0 (by first | exact fun _ h => h | (intro c h; simp [KC, KO, KU, KN] at h <;> omega))
  refine k_fn (rs := [8, 9]) (args := [.pointer (some ⟨bo0, 0, none⟩), .int .i64 a1, .int .i64 a2, v3]) Try.func30 rfl rfl rfl rfl ?_
  refine k_seq ?_
  refine k_region ?_
  refine k_assign rfl rfl ?_
  refine k_assign rfl rfl ?_
  refine k_nil ?_
  refine k_seq ?_
  refine k_seq ?_
  refine k_region ?_
  refine k_move rfl rfl ?_
  refine k_lss rfl rfl rfl ?_
  refine k_move rfl rfl ?_
  have hE1 : Step K0 s s := (Step.refl _).of0 (by first | exact fun _ h => h | (intro c h; simp [KC, KO, KU, KN] at h <;> omega))
  refine k_cutl (X := St) 3 [(0, .pointer (some ⟨bo0, 0, none⟩)), (1, .int .i64 a1), (2, .int .i64 a2), (3, v3), (8, .int .u64 0), (9, .int .i64 0), (10, .int .i64 a1), (11, .bool (decide (a1 < 1)))] (fun _ => [(15, .bool (decide ((a1 < 1) ∨ (a2 < 1))))]) (fun sl wL => sl.w = wL ∧ Step K0 s sl) ?_ ?_
  · -- the ways
    refine k_again 12 rfl ?_
    refine k_split (fun c2 => ?_) (fun c2 => ?_)
    · -- t12 True
      refine k_no rfl rfl rfl rfl ?_
      refine k_no rfl rfl rfl rfl ?_
      refine k_pickT rfl rfl rfl rfl ?_
      exact k_met ⟨s, ⟨(congrArg (fun b => some (Value.bool b)) (by first | exact decide_eq_decide.2 ⟨Or.inr, fun h => h.resolve_left c2⟩ | exact (decide_eq_true (Or.inl c2)).symm | (simp [c2]; done) | (simp [c2, i64] <;> omega))), trivial⟩, ⟨rfl, rfl, rfl, rfl, rfl, rfl, rfl, rfl, trivial⟩, rfl, hE1⟩
    · -- t12 False
      refine k_yes rfl rfl ?_
      refine k_move rfl rfl ?_
      refine k_yes rfl rfl ?_
      refine k_lss rfl rfl rfl ?_
      refine k_pickF rfl rfl rfl rfl ?_
      exact k_met ⟨s, ⟨(congrArg (fun b => some (Value.bool b)) (by first | exact decide_eq_decide.2 ⟨Or.inr, fun h => h.resolve_left c2⟩ | exact (decide_eq_true (Or.inl c2)).symm | (simp [c2]; done) | (simp [c2, i64] <;> omega))), trivial⟩, ⟨rfl, rfl, rfl, rfl, rfl, rfl, rfl, rfl, trivial⟩, rfl, hE1⟩
  · -- behind
    rintro s3 wL ⟨rfl, hE1⟩
    have szs3 := hE1.size
    have hS : Step (KO k0) s s3 := hS.trans0 hE1
    replace hp3 := hp3.up2 hE1
    replace hwo0_0 := hwo0_0.up2 hE1
    replace hb_o0 := hb_o0.up2 hE1
    refine k_move rfl rfl ?_
    have hE4 : Step K0 s3 s3 := (Step.refl _).of0 (by first | exact fun _ h => h | (intro c h; simp [KC, KO, KU, KN] at h <;> omega))
    refine k_cutl (X := St) 7 [(0, .pointer (some ⟨bo0, 0, none⟩)), (1, .int .i64 a1), (2, .int .i64 a2), (3, v3), (8, .int .u64 0), (9, .int .i64 0), (10, .int .i64 a1), (11, .bool (decide (a1 < 1))), (15, .bool (decide ((a1 < 1) ∨ (a2 < 1))))] (fun _ => [(23, .bool (decide (((a1 < 1) ∨ (a2 < 1)) ∨ (a0.Replicas < a1))))]) (fun sl wL => sl.w = wL ∧ Step K0 s3 sl) ?_ ?_
    · -- the ways
      refine k_again 16 rfl ?_
      refine k_split (fun c5 => ?_) (fun c5 => ?_)
      · -- t16 True
        refine k_no rfl rfl rfl rfl ?_
        refine k_no rfl rfl rfl rfl ?_
        refine k_no rfl rfl rfl rfl ?_
        refine k_no rfl rfl rfl rfl ?_
        refine k_no rfl rfl rfl rfl ?_
        refine k_no rfl rfl rfl rfl ?_
        refine k_pickT rfl rfl rfl rfl ?_
        exact k_met ⟨s3, ⟨(congrArg (fun b => some (Value.bool b)) (by first | exact decide_eq_decide.2 ⟨Or.inr, fun h => h.resolve_left c5⟩ | exact (decide_eq_true (Or.inl c5)).symm | (simp [c5]; done) | (simp [c5, i64] <;> omega))), trivial⟩, ⟨rfl, rfl, rfl, rfl, rfl, rfl, rfl, rfl, rfl, trivial⟩, rfl, hE4⟩
      · -- t16 False
        refine k_yes rfl rfl ?_
        refine k_move rfl rfl ?_
        refine k_yes rfl rfl ?_
        refine k_move rfl rfl ?_
        refine k_yes rfl rfl ?_
        refine k_nilCheck rfl rfl ?_
        refine k_yes rfl rfl ?_
        refine k_field_addr fld58_0 rfl rfl ?_
        refine k_yes rfl rfl ?_
        refine k_load_blk one3 rfl hb_o0 rfl rfl ?_
        refine k_yes rfl rfl ?_
        refine k_gtr rfl rfl rfl ?_
        refine k_pickF rfl rfl rfl rfl ?_
        exact k_met ⟨s3, ⟨(congrArg (fun b => some (Value.bool b)) (by first | exact decide_eq_decide.2 ⟨Or.inr, fun h => h.resolve_left c5⟩ | exact (decide_eq_true (Or.inl c5)).symm | (simp [c5]; done) | (simp [c5, i64] <;> omega))), trivial⟩, ⟨rfl, rfl, rfl, rfl, rfl, rfl, rfl, rfl, rfl, trivial⟩, rfl, hE4⟩
    · -- behind
      rintro s6 wL ⟨rfl, hE4⟩
      have szs6 := hE4.size
      have hS : Step (KO k0) s s6 := hS.trans0 hE4
      replace hp3 := hp3.up2 hE4
      replace hwo0_0 := hwo0_0.up2 hE4
      replace hb_o0 := hb_o0.up2 hE4
      refine k_move rfl rfl ?_
      have hE7 : Step K0 s6 s6 := (Step.refl _).of0 (by first | exact fun _ h => h | (intro c h; simp [KC, KO, KU, KN] at h <;> omega))
      refine k_cutl (X := St) 7 [(0, .pointer (some ⟨bo0, 0, none⟩)), (1, .int .i64 a1), (2, .int .i64 a2), (3, v3), (8, .int .u64 0), (9, .int .i64 0), (10, .int .i64 a1), (11, .bool (decide (a1 < 1))), (15, .bool (decide ((a1 < 1) ∨ (a2 < 1)))), (23, .bool (decide (((a1 < 1) ∨ (a2 < 1)) ∨ (a0.Replicas < a1))))] (fun _ => [(31, .bool (decide ((((a1 < 1) ∨ (a2 < 1)) ∨ (a0.Replicas < a1)) ∨ (a0.Replicas < a2))))]) (fun sl wL => sl.w = wL ∧ Step K0 s6 sl) ?_ ?_
      · -- the ways
        refine k_again 24 rfl ?_
        refine k_split (fun c8 => ?_) (fun c8 => ?_)
        · -- t24 True
          refine k_no rfl rfl rfl rfl ?_
          refine k_no rfl rfl rfl rfl ?_
          refine k_no rfl rfl rfl rfl ?_
          refine k_no rfl rfl rfl rfl ?_
          refine k_no rfl rfl rfl rfl ?_
          refine k_no rfl rfl rfl rfl ?_
          refine k_pickT rfl rfl rfl rfl ?_
          exact k_met ⟨s6, ⟨(congrArg (fun b => some (Value.bool b)) (by first | exact decide_eq_decide.2 ⟨Or.inr, fun h => h.resolve_left c8⟩ | exact (decide_eq_true (Or.inl c8)).symm | (simp [c8]; done) | (simp [c8, i64] <;> omega))), trivial⟩, ⟨rfl, rfl, rfl, rfl, rfl, rfl, rfl, rfl, rfl, rfl, trivial⟩, rfl, hE7⟩
        · -- t24 False
          refine k_yes rfl rfl ?_
          refine k_move rfl rfl ?_
          refine k_yes rfl rfl ?_
          refine k_move rfl rfl ?_
          refine k_yes rfl rfl ?_
          refine k_nilCheck rfl rfl ?_
          refine k_yes rfl rfl ?_
          refine k_field_addr fld58_0 rfl rfl ?_
          refine k_yes rfl rfl ?_
          refine k_load_blk one3 rfl hb_o0 rfl rfl ?_
          refine k_yes rfl rfl ?_
          refine k_gtr rfl rfl rfl ?_
          refine k_pickF rfl rfl rfl rfl ?_
          exact k_met ⟨s6, ⟨(congrArg (fun b => some (Value.bool b)) (by first | exact decide_eq_decide.2 ⟨Or.inr, fun h => h.resolve_left c8⟩ | exact (decide_eq_true (Or.inl c8)).symm | (simp [c8]; done) | (simp [c8, i64] <;> omega))), trivial⟩, ⟨rfl, rfl, rfl, rfl, rfl, rfl, rfl, rfl, rfl, rfl, trivial⟩, rfl, hE7⟩
      · -- behind
        rintro s9 wL ⟨rfl, hE7⟩
        have szs9 := hE7.size
        have hS : Step (KO k0) s s9 := hS.trans0 hE7
        replace hp3 := hp3.up2 hE7
        replace hwo0_0 := hwo0_0.up2 hE7
        replace hb_o0 := hb_o0.up2 hE7
        refine k_move rfl rfl ?_
        have hE10 : Step K0 s9 s9 := (Step.refl _).of0 (by first | exact fun _ h => h | (intro c h; simp [KC, KO, KU, KN] at h <;> omega))
        refine k_cutl (X := St) 4 [(0, .pointer (some ⟨bo0, 0, none⟩)), (1, .int .i64 a1), (2, .int .i64 a2), (3, v3), (8, .int .u64 0), (9, .int .i64 0), (10, .int .i64 a1), (11, .bool (decide (a1 < 1))), (15, .bool (decide ((a1 < 1) ∨ (a2 < 1)))), (23, .bool (decide (((a1 < 1) ∨ (a2 < 1)) ∨ (a0.Replicas < a1)))), (31, .bool (decide ((((a1 < 1) ∨ (a2 < 1)) ∨ (a0.Replicas < a1)) ∨ (a0.Replicas < a2))))] (fun _ => [(36, .bool (decide (((((a1 < 1) ∨ (a2 < 1)) ∨ (a0.Replicas < a1)) ∨ (a0.Replicas < a2)) ∨ (a1 = a2))))]) (fun sl wL => sl.w = wL ∧ Step K0 s9 sl) ?_ ?_
        · -- the ways
          refine k_again 32 rfl ?_
          refine k_split (fun c11 => ?_) (fun c11 => ?_)
          · -- t32 True
            refine k_no rfl rfl rfl rfl ?_
            refine k_no rfl rfl rfl rfl ?_
            refine k_no rfl rfl rfl rfl ?_
            refine k_pickT rfl rfl rfl rfl ?_
            exact k_met ⟨s9, ⟨(congrArg (fun b => some (Value.bool b)) (by first | exact decide_eq_decide.2 ⟨Or.inr, fun h => h.resolve_left c11⟩ | exact (decide_eq_true (Or.inl c11)).symm | (simp [c11]; done) | (simp [c11, i64] <;> omega))), trivial⟩, ⟨rfl, rfl, rfl, rfl, rfl, rfl, rfl, rfl, rfl, rfl, rfl, trivial⟩, rfl, hE10⟩
          · -- t32 False
            refine k_yes rfl rfl ?_
            refine k_move rfl rfl ?_
            refine k_yes rfl rfl ?_
            refine k_move rfl rfl ?_
            refine k_yes rfl rfl ?_
            refine k_eql rfl rfl rfl ?_
            refine k_pickF rfl rfl rfl rfl ?_
            exact k_met ⟨s9, ⟨(congrArg (fun b => some (Value.bool b)) (by first | exact decide_eq_decide.2 ⟨Or.inr, fun h => h.resolve_left c11⟩ | exact (decide_eq_true (Or.inl c11)).symm | (simp [c11]; done) | (simp [c11, i64] <;> omega))), trivial⟩, ⟨rfl, rfl, rfl, rfl, rfl, rfl, rfl, rfl, rfl, rfl, rfl, trivial⟩, rfl, hE10⟩
        · -- behind
          rintro s12 wL ⟨rfl, hE10⟩
          have szs12 := hE10.size
          have hS : Step (KO k0) s s12 := hS.trans0 hE10
          replace hp3 := hp3.up2 hE10
          replace hwo0_0 := hwo0_0.up2 hE10
          replace hb_o0 := hb_o0.up2 hE10
          refine k_nil ?_
          refine k_keep [(0, _), (1, _), (2, _), (3, _), (8, _), (9, _), (36, _)] ⟨rfl, rfl, rfl, rfl, rfl, rfl, rfl, trivial⟩ ?_
          refine k_cond_dec rfl (fun c13 => ?_) (fun c13 => ?_)
          · -- T
            have h := itT h c13
            refine k_seq ?_
            refine k_region ?_
            refine k_assign rfl rfl ?_
            refine k_assign rfl rfl ?_
            refine k_nil ?_
            refine k_keep [(0, _), (1, _), (2, _), (3, _), (8, _), (9, _)] ⟨rfl, rfl, rfl, rfl, rfl, rfl, trivial⟩ ?_
            refine k_ret ?_
            obtain rfl := Option.some.inj h
            refine ⟨_, rfl, Ret.mk hS ?_⟩
            exact ⟨rfl, (ORef22Net.mk_ a0 (by omega) hwo0_0 hb_o0)⟩
          · -- F
            have h := itF h c13
            refine k_skip ?_
            refine k_seq ?_
            refine k_seq ?_
            refine k_region ?_
            refine k_move rfl rfl ?_
            refine k_len Try.underlying23 rfl hp3.hasLen rfl ?_
            refine k_as (v := .int .i64 (a3.length : Int)) (by simp only [List.length_map]) ?_
            refine k_gtr rfl rfl rfl ?_
            refine k_nil ?_
            refine k_keep [(0, _), (1, _), (2, _), (3, _), (8, _), (9, _), (39, _)] ⟨rfl, rfl, rfl, rfl, rfl, rfl, rfl, trivial⟩ ?_
            refine k_cond_dec rfl (fun c14 => ?_) (fun c14 => ?_)
            · -- T
              have h := itT h c14
              refine k_seq ?_
              refine k_region ?_
              refine k_assign rfl rfl ?_
              refine k_assign rfl rfl ?_
              refine k_nil ?_
              refine k_keep [(0, _), (1, _), (2, _), (3, _), (8, _), (9, _)] ⟨rfl, rfl, rfl, rfl, rfl, rfl, trivial⟩ ?_
              refine k_ret ?_
              obtain rfl := Option.some.inj h
              refine ⟨_, rfl, Ret.mk hS ?_⟩
              exact ⟨rfl, (ORef22Net.mk_ a0 (by omega) hwo0_0 hb_o0)⟩
            · -- F
              have h := itF h c14
              refine k_skip ?_
              refine k_seq ?_
              refine k_region ?_
              refine k_move rfl rfl ?_
              refine k_move rfl rfl ?_
              refine k_move rfl rfl ?_
              refine k_move rfl rfl ?_
              refine k_build plc36 zero36 rfl (Parts.cons (CellsOf.lit rfl rfl).1 (Parts.cons (CellsOf.lit rfl rfl).1 (Parts.cons (CellsOf.sl hp3).1 Parts.nil))) (by rfl) rfl ?_
              refine k_as (v := .agg #[.int .i64 a1, .int .i64 a2, v3]) rfl ?_
              obtain ⟨x1, hx1, h⟩ := ob h
              refine k_call cal39 rfl (ref22_Net_put_w (a1 := (⟨a1, a2, a3⟩ : ApiMessage)) (ORef22Net.mk_ a0 (by omega) hwo0_0 hb_o0) hp3 (by first | assumption | omega | (simp <;> omega)) hx1) rfl ?_
              rintro s15 vr15 st15 ⟨rfl, hm15_0⟩
              obtain ⟨w15_0_0, hb_15_0, hw15_0_0⟩ := hm15_0.at_
              have szs15 := st15.size
              have hS : Step (KO k0) s s15 := hS.comp st15 (by intro l hl hk; (try simp only [KC, KO, KU, KN, K0] at hk ⊢) <;> omega)
              replace hp3 := hp3.up2 st15
              refine k_extract rfl rfl rfl ?_
              refine k_extract rfl rfl rfl ?_
              refine k_assign rfl rfl ?_
              refine k_assign rfl rfl ?_
              refine k_nil ?_
              refine k_keep [(8, _), (9, _)] ⟨rfl, rfl, trivial⟩ ?_
              refine k_ret ?_
              obtain rfl := Option.some.inj h
              refine ⟨_, rfl, Ret.mk hS ?_⟩
              exact ⟨rfl, (ORef22Net.mk_ x1.2.2 (by omega) hw15_0_0 hb_15_0)⟩

set_option maxHeartbeats 1000000 in
set_option maxRecDepth 100000 in
theorem ref22_Net_At_w {s : St} {k0 : Nat} {p0 : Value} {a0 : Ref22Net} {a1 : UInt64} {r : (ApiMessage × Int)} (ho0 : ORef22Net s k0 p0 a0) (h : ref22_Net_At a0 a1 = some r) : Calls Try.prog 33 #[p0, .int .u64 (a1.toNat : Int)] s.w (Ret s K0 (fun s1 v => ∃ (u0 : List Value), v = .tuple #[.agg u0.toArray, .int .i64 r.2] ∧ RC s1 u0 (dApiMessage r.1))) := by
  unfold ref22_Net_At at h
  have le0 := ho0.le
  have ne0 := ho0.ne
  obtain ⟨bo0, rfl⟩ := ho0.ptr
  obtain ⟨wo0_0, hb_o0, hwo0_0⟩ := ho0.at_
  have hS : Step K0 s s := (Step.refl _).of0 (by first | exact fun _ h => h | (intro c h; simp [KC, KO, KU, KN] at h <;> omega))
  refine k_fn_c (rs := [.cell 4 36, .tmp 5]) (args := [.pointer (some ⟨bo0, 0, none⟩), .int .u64 (a1.toNat : Int)]) Try.func33 rfl rfl rfl rfl ?_
  refine k_seq ?_
  refine k_region ?_
  refine k_alloc zero36 rfl ?_
  intro s1 b1 st1 h1 ge1
  have szs1 := st1.size
  have hS : Step K0 s s1 := hS.trans0 st1
  replace hwo0_0 := hwo0_0.up2 st1
  replace hb_o0 := hb_o0.up2 st1
  have lt1 := h1.lt
  refine k_assign rfl rfl ?_
  refine k_nil ?_
  refine k_seq ?_
  refine k_seq ?_
  refine k_region ?_
  refine k_move rfl rfl ?_
  refine k_lss rfl rfl rfl ?_
  refine k_move rfl rfl ?_
  have hE2 : Step K0 s1 s1 := (Step.refl _).of0 (by first | exact fun _ h => h | (intro c h; simp [KC, KO, KU, KN] at h <;> omega))
  refine k_cutl (X := St) 9 [(0, .pointer (some ⟨bo0, 0, none⟩)), (1, .int .u64 (a1.toNat : Int)), (4, .pointer (some ⟨b1, 0, none⟩)), (5, .int .i64 0), (6, .int .u64 (a1.toNat : Int)), (7, .bool (decide ((a1.toNat : Int) < 1)))] (fun _ => [(17, .bool (decide (((a1.toNat : Int) < 1) ∨ (((ofI64 (a0.All.length : Int)).toNat : Int) < (a1.toNat : Int)))))]) (fun sl wL => sl.w = wL ∧ Step K0 s1 sl) ?_ ?_
  · -- the ways
    refine k_again 8 rfl ?_
    refine k_split (fun c3 => ?_) (fun c3 => ?_)
    · -- t8 True
      refine k_no rfl rfl rfl rfl ?_
      refine k_no rfl rfl rfl rfl ?_
      refine k_no rfl rfl rfl rfl ?_
      refine k_no rfl rfl rfl rfl ?_
      refine k_no rfl rfl rfl rfl ?_
      refine k_no rfl rfl rfl rfl ?_
      refine k_no rfl rfl rfl rfl ?_
      refine k_no rfl rfl rfl rfl ?_
      refine k_pickT rfl rfl rfl rfl ?_
      exact k_met ⟨s1, ⟨(congrArg (fun b => some (Value.bool b)) (by first | exact decide_eq_decide.2 ⟨Or.inr, fun h => h.resolve_left c3⟩ | exact (decide_eq_true (Or.inl c3)).symm | (simp [c3]; done) | (simp [c3, i64] <;> omega))), trivial⟩, ⟨rfl, rfl, rfl, rfl, rfl, rfl, trivial⟩, rfl, hE2⟩
    · -- t8 False
      refine k_yes rfl rfl ?_
      refine k_move rfl rfl ?_
      refine k_yes rfl rfl ?_
      refine k_move rfl rfl ?_
      refine k_yes rfl rfl ?_
      refine k_nilCheck rfl rfl ?_
      refine k_yes rfl rfl ?_
      refine k_field_addr fld58_1 rfl rfl ?_
      refine k_yes rfl rfl ?_
      refine k_load_blk one56 rfl hb_o0 rfl rfl ?_
      refine k_yes rfl rfl ?_
      refine k_len Try.underlying56 rfl (SL.of_R hwo0_0).hasLen rfl ?_
      refine k_as (v := .int .i64 (a0.All.length : Int)) (by simp only [List.length_map]) ?_
      refine k_yes rfl rfl ?_
      refine k_conv (p := (a0.All.length : Int)) Try.underlying3 Try.underlying30 rfl rfl ?_
      refine k_as (congrArg (Value.int .u64) (w64 _)) ?_
      refine k_yes rfl rfl ?_
      refine k_gtr rfl rfl rfl ?_
      refine k_pickF rfl rfl rfl rfl ?_
      exact k_met ⟨s1, ⟨(congrArg (fun b => some (Value.bool b)) (by first | exact decide_eq_decide.2 ⟨Or.inr, fun h => h.resolve_left c3⟩ | exact (decide_eq_true (Or.inl c3)).symm | (simp [c3]; done) | (simp [c3, i64] <;> omega))), trivial⟩, ⟨rfl, rfl, rfl, rfl, rfl, rfl, trivial⟩, rfl, hE2⟩
  · -- behind
    rintro s4 wL ⟨rfl, hE2⟩
    have szs4 := hE2.size
    have hS : Step K0 s s4 := hS.trans0 hE2
    replace hwo0_0 := hwo0_0.up2 hE2
    replace hb_o0 := hb_o0.up2 hE2
    replace h1 := h1.up2 hE2
    refine k_move rfl rfl ?_
    obtain ⟨x1, hx1, h⟩ := ob h
    have hE5 : Step K0 s4 s4 := (Step.refl _).of0 (by first | exact fun _ h => h | (intro c h; simp [KC, KO, KU, KN] at h <;> omega))
    refine k_cutl (X := St) 10 [(0, .pointer (some ⟨bo0, 0, none⟩)), (1, .int .u64 (a1.toNat : Int)), (4, .pointer (some ⟨b1, 0, none⟩)), (5, .int .i64 0), (6, .int .u64 (a1.toNat : Int)), (7, .bool (decide ((a1.toNat : Int) < 1))), (17, .bool (decide (((a1.toNat : Int) < 1) ∨ (((ofI64 (a0.All.length : Int)).toNat : Int) < (a1.toNat : Int)))))] (fun _ => [(28, .bool x1)]) (fun sl wL => sl.w = wL ∧ Step K0 s4 sl) ?_ ?_
    · -- the ways
      refine k_again 18 rfl ?_
      refine k_split (fun c6 => ?_) (fun c6 => ?_)
      · -- t18 True
        have hx1 := itT hx1 c6
        refine k_no rfl rfl rfl rfl ?_
        refine k_no rfl rfl rfl rfl ?_
        refine k_no rfl rfl rfl rfl ?_
        refine k_no rfl rfl rfl rfl ?_
        refine k_no rfl rfl rfl rfl ?_
        refine k_no rfl rfl rfl rfl ?_
        refine k_no rfl rfl rfl rfl ?_
        refine k_no rfl rfl rfl rfl ?_
        refine k_no rfl rfl rfl rfl ?_
        refine k_pickT rfl rfl rfl rfl ?_
        exact k_met ⟨s4, ⟨(congrArg (fun b => some (Value.bool b)) (Option.some.inj hx1)), trivial⟩, ⟨rfl, rfl, rfl, rfl, rfl, rfl, rfl, trivial⟩, rfl, hE5⟩
      · -- t18 False
        have hx1 := itF hx1 c6
        refine k_yes rfl rfl ?_
        refine k_move rfl rfl ?_
        refine k_yes rfl rfl ?_
        refine k_nilCheck rfl rfl ?_
        refine k_yes rfl rfl ?_
        refine k_field_addr fld58_1 rfl rfl ?_
        refine k_yes rfl rfl ?_
        refine k_load_blk one56 rfl hb_o0 rfl rfl ?_
        refine k_yes rfl rfl ?_
        refine k_move rfl rfl ?_
        refine k_yes rfl rfl ?_
        refine k_sub_ rfl rfl rfl ?_
        refine k_as (congrArg (Value.int .u64) (w64 _)) ?_
        refine k_yes rfl rfl ?_
        obtain ⟨x2, hx2, hx1⟩ := ob hx1
        refine k_ixaddr Try.underlying56 size81 rfl rfl (SL.of_R hwo0_0) (geti_out hx2).1 (geti_map hx2) rfl ?_
        intro qx2 hqx2
        refine k_yes rfl rfl ?_
        refine k_field_at (o := 0) rfl hqx2 (by rfl) fld81_1 rfl ?_
        intro q7 h7
        refine k_yes rfl rfl ?_
        refine k_load_val one4 rfl h7 rfl ?_
        refine k_pickF rfl rfl rfl rfl ?_
        exact k_met ⟨s4, ⟨(congrArg (fun b => some (Value.bool b)) (Option.some.inj hx1)), trivial⟩, ⟨rfl, rfl, rfl, rfl, rfl, rfl, rfl, trivial⟩, rfl, hE5⟩
    · -- behind
      rintro s8 wL ⟨rfl, hE5⟩
      have szs8 := hE5.size
      have hS : Step K0 s s8 := hS.trans0 hE5
      replace hwo0_0 := hwo0_0.up2 hE5
      replace hb_o0 := hb_o0.up2 hE5
      replace h1 := h1.up2 hE5
      refine k_nil ?_
      refine k_keep [(0, _), (1, _), (4, _), (5, _), (28, _)] ⟨rfl, rfl, rfl, rfl, rfl, trivial⟩ ?_
      refine k_cond rfl (fun c9 => ?_) (fun c9 => ?_)
      · -- T
        have h := ibT h c9
        refine k_seq ?_
        refine k_region ?_
        refine k_build plc36 zero36 rfl Parts.nil (by rfl) rfl ?_
        refine k_as (v := .agg #[.int .i64 0, .int .i64 0, .slice none 0 0]) rfl ?_
        refine k_store_c (cs' := [.int .i64 0, .int .i64 0, .slice none 0 0]) size36 rfl rfl h1 (by first | (simp; done) | omega | (dsimp only; omega)) (CellsOf.lit rfl rfl) rfl (by first | rfl | (simp; done) | (simp; omega)) rfl ?_
        intro s10 st10 h1
        have szs10 := st10.size
        have hS : Step K0 s s10 := hS.comp st10 (by intro l hl hk; (try simp only [KC, KO, KU, KN, K0] at hk ⊢) <;> omega)
        replace hwo0_0 := hwo0_0.up2 st10
        replace hb_o0 := hb_o0.up2 st10
        refine k_assign rfl rfl ?_
        refine k_nil ?_
        refine k_keep [(0, _), (1, _), (4, _), (5, _)] ⟨rfl, rfl, rfl, rfl, trivial⟩ ?_
        refine k_ret ?_
        obtain rfl := Option.some.inj h
        refine ⟨[.agg [.int .i64 0, .int .i64 0, .slice none 0 0].toArray, .int .i64 4], ⟨res_blk (cs := [.int .i64 0, .int .i64 0, .slice none 0 0]) rfl agg36 h1, rfl, trivial⟩, Ret.mk hS ?_⟩
        exact ⟨_, rfl, (clsApiMessage (⟨0, 0, []⟩ : ApiMessage) (R.of_SL (.inl ⟨rfl, none, 0, rfl, fun _ => rfl⟩)))⟩
      · -- F
        have h := ibF h c9
        refine k_skip ?_
        refine k_seq ?_
        refine k_region ?_
        refine k_move rfl rfl ?_
        refine k_nilCheck rfl rfl ?_
        refine k_field_addr fld58_1 rfl rfl ?_
        refine k_load_blk one56 rfl hb_o0 rfl rfl ?_
        refine k_move rfl rfl ?_
        refine k_sub_ rfl rfl rfl ?_
        refine k_as (congrArg (Value.int .u64) (w64 _)) ?_
        obtain ⟨x3, hx3, h⟩ := ob h
        refine k_ixaddr Try.underlying56 size81 rfl rfl (SL.of_R hwo0_0) (geti_out hx3).1 (geti_map hx3) rfl ?_
        intro qx3 hqx3
        refine k_field_at (o := 0) rfl hqx3 (by rfl) fld81_0 rfl ?_
        intro q11 h11
        refine k_load_agg (by exact agg36) rfl h11 rfl ?_
        intro cs12 h12
        obtain ⟨q12_0, rfl, hq12_0⟩ := opnApiMessage h12
        refine k_store_c (cs' := [.int .i64 x3.M.From, .int .i64 x3.M.To, q12_0]) size36 rfl rfl h1 (by first | (simp; done) | omega | (dsimp only; omega)) (CellsOf.lit (vs := [.int .i64 x3.M.From, .int .i64 x3.M.To, q12_0]) rfl (ones.cons rfl (ones.cons rfl (ones.cons ((SL.of_R hq12_0)).one1 ones.nil)))) rfl (by first | rfl | (simp; done) | (simp; omega)) rfl ?_
        intro s13 st13 h1
        have szs13 := st13.size
        have hS : Step K0 s s13 := hS.comp st13 (by intro l hl hk; (try simp only [KC, KO, KU, KN, K0] at hk ⊢) <;> omega)
        replace hwo0_0 := hwo0_0.up2 st13
        replace hqx3 := hqx3.up2 st13
        replace h11 := h11.up2 st13
        replace hq12_0 := hq12_0.up2 st13
        replace hb_o0 := hb_o0.up2 st13
        refine k_assign rfl rfl ?_
        refine k_nil ?_
        refine k_keep [(4, _), (5, _)] ⟨rfl, rfl, trivial⟩ ?_
        refine k_ret ?_
        obtain rfl := Option.some.inj h
        refine ⟨[.agg [.int .i64 x3.M.From, .int .i64 x3.M.To, q12_0].toArray, .int .i64 0], ⟨res_blk (cs := [.int .i64 x3.M.From, .int .i64 x3.M.To, q12_0]) rfl agg36 h1, rfl, trivial⟩, Ret.mk hS ?_⟩
        exact ⟨_, rfl, (clsApiMessage x3.M hq12_0)⟩

set_option maxHeartbeats 1000000 in
set_option maxRecDepth 100000 in
theorem ref22_Net_Deliver_w {s : St} {k0 : Nat} {p0 : Value} {a0 : Ref22Net} {a1 : UInt64} {r : (ApiMessage × Int × Ref22Net)} (ho0 : ORef22Net s k0 p0 a0) (h : ref22_Net_Deliver a0 a1 = some r) : Calls Try.prog 31 #[p0, .int .u64 (a1.toNat : Int)] s.w (Ret s (KO k0) (fun s1 v => ∃ (u0 : List Value), v = .tuple #[.agg u0.toArray, .int .i64 r.2.1] ∧ RC s1 u0 (dApiMessage r.1) ∧ ORef22Net s1 k0 p0 r.2.2)) := by
  unfold ref22_Net_Deliver at h
  have le0 := ho0.le
  have ne0 := ho0.ne
  obtain ⟨bo0, rfl⟩ := ho0.ptr
  obtain ⟨wo0_0, hb_o0, hwo0_0⟩ := ho0.at_
  have hS : Step (KO k0) s s := (Step.refl _).of0 (by first | exact fun _ h => h | (intro c h; simp [KC, KO, KU, KN] at h <;> omega))
  refine k_fn_c (rs := [.cell 4 36, .tmp 5]) (args := [.pointer (some ⟨bo0, 0, none⟩), .int .u64 (a1.toNat : Int)]) Try.func31 rfl rfl rfl rfl ?_
  refine k_seq ?_
  refine k_region ?_
  refine k_alloc zero36 rfl ?_
  intro s1 b1 st1 h1 ge1
  have szs1 := st1.size
  have hS : Step (KO k0) s s1 := hS.trans0 st1
  replace hwo0_0 := hwo0_0.up2 st1
  replace hb_o0 := hb_o0.up2 st1
  have lt1 := h1.lt
  refine k_assign rfl rfl ?_
  refine k_nil ?_
  refine k_seq ?_
  refine k_region ?_
  refine k_move rfl rfl ?_
  refine k_move rfl rfl ?_
  obtain ⟨x1, hx1, h⟩ := ob h
  refine k_call cal33 rfl (ref22_Net_At_w  (ORef22Net.mk_ a0 (by omega) hwo0_0 hb_o0) hx1) rfl ?_
  rintro s2 vr2 st2 ⟨cs2_0, rfl, h2_0⟩
  have szs2 := st2.size
  have hS : Step (KO k0) s s2 := hS.trans0 st2
  replace hwo0_0 := hwo0_0.up2 st2
  replace hb_o0 := hb_o0.up2 st2
  replace h1 := h1.up2 st2
  obtain ⟨q2_0_0, rfl, hq2_0_0⟩ := opnApiMessage h2_0
  refine k_move rfl rfl ?_
  refine k_extract rfl rfl rfl ?_
  refine k_extract rfl rfl rfl ?_
  refine k_alloc zero36 rfl ?_
  intro s3 b3 st3 h3 ge3
  have szs3 := st3.size
  have hS : Step (KO k0) s s3 := hS.trans0 st3
  replace hq2_0_0 := hq2_0_0.up2 st3
  replace hwo0_0 := hwo0_0.up2 st3
  replace hb_o0 := hb_o0.up2 st3
  replace h1 := h1.up2 st3
  have lt3 := h3.lt
  refine k_store_c (cs' := [.int .i64 x1.1.From, .int .i64 x1.1.To, q2_0_0]) size36 rfl rfl h3 (by first | (simp; done) | omega | (dsimp only; omega)) (CellsOf.lit (vs := [.int .i64 x1.1.From, .int .i64 x1.1.To, q2_0_0]) rfl (ones.cons rfl (ones.cons rfl (ones.cons ((SL.of_R hq2_0_0)).one1 ones.nil)))) rfl (by first | rfl | (simp; done) | (simp; omega)) rfl ?_
  intro s4 st4 h3
  have szs4 := st4.size
  have hS : Step (KO k0) s s4 := hS.comp st4 (by intro l hl hk; (try simp only [KC, KO, KU, KN, K0] at hk ⊢) <;> omega)
  replace hq2_0_0 := hq2_0_0.up2 st4
  replace hwo0_0 := hwo0_0.up2 st4
  replace hb_o0 := hb_o0.up2 st4
  replace h1 := h1.up2 st4
  refine k_assign rfl rfl ?_
  refine k_nil ?_
  refine k_keep [(0, _), (1, _), (4, _), (5, _), (6, _), (7, _)] ⟨rfl, rfl, rfl, rfl, rfl, rfl, trivial⟩ ?_
  refine k_seq ?_
  refine k_seq ?_
  refine k_region ?_
  refine k_move rfl rfl ?_
  refine k_eql rfl rfl rfl ?_
  refine k_nil ?_
  refine k_keep [(0, _), (1, _), (4, _), (5, _), (6, _), (7, _), (15, _)] ⟨rfl, rfl, rfl, rfl, rfl, rfl, rfl, trivial⟩ ?_
  refine k_cond_dec rfl (fun c5 => ?_) (fun c5 => ?_)
  · -- T
    have h := itT h c5
    refine k_seq ?_
    refine k_region ?_
    refine k_move rfl rfl ?_
    refine k_bslice2 (ds := ([] : List Ref22Letter).map dRef22Letter) slc56 rfl RVs.nil (by rfl) (by rfl) rfl rfl ?_
    intro s6 v6 b6 st6 ge6 bl6 h6
    have szs6 := st6.size
    have hS : Step (KO k0) s s6 := hS.trans0 st6
    replace hwo0_0 := hwo0_0.up2 st6
    replace hb_o0 := hb_o0.up2 st6
    replace h1 := h1.up2 st6
    replace hq2_0_0 := hq2_0_0.up2 st6
    replace h3 := h3.up2 st6
    have lt6 := Own.le1 h6
    refine k_move rfl rfl ?_
    refine k_nilCheck rfl rfl ?_
    refine k_field_addr fld58_1 rfl rfl ?_
    refine k_load_blk one56 rfl hb_o0 rfl rfl ?_
    obtain ⟨x2, hx2, h⟩ := ob h
    refine k_append (es := a0.All.map dRef22Letter) elem56 rfl rfl h6 (SL.of_R hwo0_0) (by have := (app_out hx2).1; simp only [List.length_map] at *; omega) (by have := (app_out hx2).1; simp only [List.length_map] at *; omega) rfl ?_
    intro s7 v7 st7 h7
    rw [← List.map_append, ← (app_out hx2).2] at h7
    have szs7 := st7.size
    have hS : Step (KO k0) s s7 := hS.comp st7 (by intro l hl hk; (try simp only [KC, KO, KU, KN, K0] at hk ⊢) <;> omega)
    replace hwo0_0 := hwo0_0.up2 st7
    replace hb_o0 := hb_o0.up2 st7
    replace h1 := h1.up2 st7
    replace hq2_0_0 := hq2_0_0.up2 st7
    replace h3 := h3.up2 st7
    refine k_nilCheck rfl rfl ?_
    refine k_field_addr fld58_1 rfl rfl ?_
    refine k_store_c (cs' := [.int .i64 a0.Replicas, v7]) size56 rfl rfl hb_o0 (by first | (simp; done) | omega | (dsimp only; omega)) (CellsOf.sl (h7.sl)) rfl (by first | rfl | (simp; done) | (simp; omega)) rfl ?_
    intro s8 st8 hb_o0
    have szs8 := st8.size
    have hS : Step (KO k0) s s8 := hS.comp st8 (by intro l hl hk; (try simp only [KC, KO, KU, KN, K0] at hk ⊢) <;> omega)
    replace hwo0_0 := hwo0_0.up2 st8
    replace h1 := h1.up2 st8
    replace hq2_0_0 := hq2_0_0.up2 st8
    replace h3 := h3.up2 st8
    replace h7 := h7.up2 st8
    refine k_nil ?_
    refine k_keep [(0, _), (1, _), (4, _), (5, _), (6, _), (7, _)] ⟨rfl, rfl, rfl, rfl, rfl, rfl, trivial⟩ ?_
    refine k_region ?_
    refine k_move rfl rfl ?_
    refine k_nilCheck rfl rfl ?_
    refine k_field_addr fld58_1 rfl rfl ?_
    refine k_load_blk one56 rfl hb_o0 rfl rfl ?_
    refine k_move rfl rfl ?_
    refine k_sub_ rfl rfl rfl ?_
    refine k_as (congrArg (Value.int .u64) (w64 _)) ?_
    obtain ⟨x3, hx3, h⟩ := ob h
    refine k_ixaddr_own Try.underlying56 size81 rfl rfl h7 (geti_out hx3).1 (geti_map hx3) rfl ?_
    intro qx3 hqx3 heqx3
    refine k_field_own rfl (Elt.toO heqx3) hqx3 (by rfl) (by rfl) fld81_1 rfl ?_
    intro q9 h9 he9
    refine k_store_part (dd := dRef22Letter ({ x3 with Out := true } : Ref22Letter)) size4 rfl rfl h7 he9 (by rw [List.length_map]; exact (List.getElem?_eq_some_iff.1 (geti_out hx3).2.2).1) (CellsOf.lit rfl rfl) rfl rfl (fun cs _ hcs => by rw [List.getElem_map, getElem_geti hx3] at hcs; obtain ⟨_, rfl, hz2⟩ := opnRef22Letter hcs; exact clsRef22Letter ({ x3 with Out := true } : Ref22Letter) hz2) ?_
    intro s10 st10 h7
    rw [← List.map_set] at h7
    have szs10 := st10.size
    have hS : Step (KO k0) s s10 := hS.comp st10 (by intro l hl hk; (try simp only [KC, KO, KU, KN, K0] at hk ⊢) <;> omega)
    replace hb_o0 := hb_o0.up2 st10
    replace h1 := h1.up2 st10
    replace hq2_0_0 := hq2_0_0.up2 st10
    replace h3 := h3.up2 st10
    refine k_nil ?_
    refine k_keep [(4, _), (5, _), (6, _), (7, _)] ⟨rfl, rfl, rfl, rfl, trivial⟩ ?_
    refine k_seq ?_
    refine k_region ?_
    refine k_load_blka (cs := [.int .i64 x1.1.From, .int .i64 x1.1.To, q2_0_0]) agg36 rfl h3 rfl ?_
    refine k_move rfl rfl ?_
    refine k_store_c (cs' := [.int .i64 x1.1.From, .int .i64 x1.1.To, q2_0_0]) size36 rfl rfl h1 (by first | (simp; done) | omega | (dsimp only; omega)) (CellsOf.lit (vs := [.int .i64 x1.1.From, .int .i64 x1.1.To, q2_0_0]) rfl (ones.cons rfl (ones.cons rfl (ones.cons ((SL.of_R hq2_0_0)).one1 ones.nil)))) rfl (by first | rfl | (simp; done) | (simp; omega)) rfl ?_
    intro s11 st11 h1
    have szs11 := st11.size
    have hS : Step (KO k0) s s11 := hS.comp st11 (by intro l hl hk; (try simp only [KC, KO, KU, KN, K0] at hk ⊢) <;> omega)
    replace hq2_0_0 := hq2_0_0.up2 st11
    replace hb_o0 := hb_o0.up2 st11
    replace h3 := h3.up2 st11
    replace h7 := h7.up2 st11
    refine k_assign rfl rfl ?_
    refine k_nil ?_
    refine k_keep [(4, _), (5, _)] ⟨rfl, rfl, trivial⟩ ?_
    refine k_ret ?_
    obtain ⟨s12, e12, st12, h12⟩ := h7.freeze
    rw [← e12]
    have szs12 := st12.size
    have hS : Step (KO k0) s s12 := hS.comp st12 (by intro l hl hk; (try simp only [KC, KO, KU, KN, K0] at hk ⊢) <;> omega)
    replace hb_o0 := hb_o0.up2 st12
    replace hq2_0_0 := hq2_0_0.up2 st12
    replace h1 := h1.up2 st12
    obtain rfl := Option.some.inj h
    refine ⟨[.agg [.int .i64 x1.1.From, .int .i64 x1.1.To, q2_0_0].toArray, .int .i64 x1.2], ⟨res_blk (cs := [.int .i64 x1.1.From, .int .i64 x1.1.To, q2_0_0]) rfl agg36 h1, rfl, trivial⟩, Ret.mk hS ?_⟩
    exact ⟨_, rfl, (clsApiMessage x1.1 hq2_0_0), (ORef22Net.mk_ (⟨a0.Replicas, x2.set (((ofI64 ((a1.toNat : Int) - 1)).toNat : Int)).toNat ({ x3 with Out := true } : Ref22Letter)⟩ : Ref22Net) (by omega) h12 hb_o0)⟩
  · -- F
    have h := itF h c5
    refine k_skip ?_
    refine k_seq ?_
    refine k_region ?_
    refine k_load_blka (cs := [.int .i64 x1.1.From, .int .i64 x1.1.To, q2_0_0]) agg36 rfl h3 rfl ?_
    refine k_move rfl rfl ?_
    refine k_store_c (cs' := [.int .i64 x1.1.From, .int .i64 x1.1.To, q2_0_0]) size36 rfl rfl h1 (by first | (simp; done) | omega | (dsimp only; omega)) (CellsOf.lit (vs := [.int .i64 x1.1.From, .int .i64 x1.1.To, q2_0_0]) rfl (ones.cons rfl (ones.cons rfl (ones.cons ((SL.of_R hq2_0_0)).one1 ones.nil)))) rfl (by first | rfl | (simp; done) | (simp; omega)) rfl ?_
    intro s13 st13 h1
    have szs13 := st13.size
    have hS : Step (KO k0) s s13 := hS.comp st13 (by intro l hl hk; (try simp only [KC, KO, KU, KN, K0] at hk ⊢) <;> omega)
    replace hq2_0_0 := hq2_0_0.up2 st13
    replace hwo0_0 := hwo0_0.up2 st13
    replace hb_o0 := hb_o0.up2 st13
    replace h3 := h3.up2 st13
    refine k_assign rfl rfl ?_
    refine k_nil ?_
    refine k_keep [(4, _), (5, _)] ⟨rfl, rfl, trivial⟩ ?_
    refine k_ret ?_
    obtain rfl := Option.some.inj h
    refine ⟨[.agg [.int .i64 x1.1.From, .int .i64 x1.1.To, q2_0_0].toArray, .int .i64 x1.2], ⟨res_blk (cs := [.int .i64 x1.1.From, .int .i64 x1.1.To, q2_0_0]) rfl agg36 h1, rfl, trivial⟩, Ret.mk hS ?_⟩
    exact ⟨_, rfl, (clsApiMessage x1.1 hq2_0_0), (ORef22Net.mk_ a0 (by omega) hwo0_0 hb_o0)⟩

set_option maxHeartbeats 1000000 in
set_option maxRecDepth 100000 in
theorem ref22_Net_Double_w {s : St} {k0 : Nat} {p0 : Value} {a0 : Ref22Net} {a1 : UInt64} {r : (UInt64 × Int × Ref22Net)} (ho0 : ORef22Net s k0 p0 a0) (h : ref22_Net_Double a0 a1 = some r) : Calls Try.prog 32 #[p0, .int .u64 (a1.toNat : Int)] s.w (Ret s (KO k0) (fun s1 v => v = .tuple #[.int .u64 (r.1.toNat : Int), .int .i64 r.2.1] ∧ ORef22Net s1 k0 p0 r.2.2)) := by
  unfold ref22_Net_Double at h
  have le0 := ho0.le
  have ne0 := ho0.ne
  have hS : Step (KO k0) s s := (Step.refl _).of0 (by first | exact fun _ h => h | (intro c h; simp [KC, KO, KU, KN] at h <;> omega))
  refine k_fn (rs := [4, 5]) (args := [p0, .int .u64 (a1.toNat : Int)]) Try.func32 rfl rfl rfl rfl ?_
  refine k_seq ?_
  refine k_region ?_
  refine k_assign rfl rfl ?_
  refine k_assign rfl rfl ?_
  refine k_nil ?_
  refine k_seq ?_
  refine k_region ?_
  refine k_move rfl rfl ?_
  refine k_move rfl rfl ?_
  obtain ⟨x1, hx1, h⟩ := ob h
  refine k_call cal33 rfl (ref22_Net_At_w  ho0 hx1) rfl ?_
  rintro s1 vr1 st1 ⟨cs1_0, rfl, h1_0⟩
  have szs1 := st1.size
  have hS : Step (KO k0) s s1 := hS.trans0 st1
  replace ho0 := ho0.up2 st1
  obtain ⟨q1_0_0, rfl, hq1_0_0⟩ := opnApiMessage h1_0
  refine k_move rfl rfl ?_
  refine k_extract rfl rfl rfl ?_
  refine k_extract rfl rfl rfl ?_
  refine k_alloc zero36 rfl ?_
  intro s2 b2 st2 h2 ge2
  have szs2 := st2.size
  have hS : Step (KO k0) s s2 := hS.trans0 st2
  replace hq1_0_0 := hq1_0_0.up2 st2
  replace ho0 := ho0.up2 st2
  have lt2 := h2.lt
  refine k_store_c (cs' := [.int .i64 x1.1.From, .int .i64 x1.1.To, q1_0_0]) size36 rfl rfl h2 (by first | (simp; done) | omega | (dsimp only; omega)) (CellsOf.lit (vs := [.int .i64 x1.1.From, .int .i64 x1.1.To, q1_0_0]) rfl (ones.cons rfl (ones.cons rfl (ones.cons ((SL.of_R hq1_0_0)).one1 ones.nil)))) rfl (by first | rfl | (simp; done) | (simp; omega)) rfl ?_
  intro s3 st3 h2
  have szs3 := st3.size
  have hS : Step (KO k0) s s3 := hS.comp st3 (by intro l hl hk; (try simp only [KC, KO, KU, KN, K0] at hk ⊢) <;> omega)
  replace hq1_0_0 := hq1_0_0.up2 st3
  replace ho0 := ho0.up2 st3
  refine k_assign rfl rfl ?_
  refine k_nil ?_
  refine k_keep [(0, _), (4, _), (5, _), (6, _), (7, _)] ⟨rfl, rfl, rfl, rfl, rfl, trivial⟩ ?_
  refine k_seq ?_
  refine k_seq ?_
  refine k_region ?_
  refine k_move rfl rfl ?_
  refine k_neq rfl rfl rfl ?_
  refine k_nil ?_
  refine k_keep [(0, _), (4, _), (5, _), (6, _), (7, _), (15, _)] ⟨rfl, rfl, rfl, rfl, rfl, rfl, trivial⟩ ?_
  refine k_cond_dec rfl (fun c4 => ?_) (fun c4 => ?_)
  · -- T
    have h := itT h c4
    refine k_seq ?_
    refine k_region ?_
    refine k_move rfl rfl ?_
    refine k_assign rfl rfl ?_
    refine k_assign rfl rfl ?_
    refine k_nil ?_
    refine k_keep [(0, _), (4, _), (5, _), (6, _)] ⟨rfl, rfl, rfl, rfl, trivial⟩ ?_
    refine k_ret ?_
    obtain rfl := Option.some.inj h
    refine ⟨_, rfl, Ret.mk hS ?_⟩
    exact ⟨rfl, ho0⟩
  · -- F
    have h := itF h c4
    refine k_skip ?_
    refine k_seq ?_
    refine k_region ?_
    refine k_move rfl rfl ?_
    refine k_load_blka (cs := [.int .i64 x1.1.From, .int .i64 x1.1.To, q1_0_0]) agg36 rfl h2 rfl ?_
    obtain ⟨x2, hx2, h⟩ := ob h
    refine k_call cal39 rfl (ref22_Net_put_w (a1 := x1.1) ho0 (SL.of_R hq1_0_0) (by first | assumption | omega | (simp <;> omega)) hx2) rfl ?_
    rintro s5 vr5 st5 ⟨rfl, ho0⟩
    have szs5 := st5.size
    have hS : Step (KO k0) s s5 := hS.comp st5 (by intro l hl hk; (try simp only [KC, KO, KU, KN, K0] at hk ⊢) <;> omega)
    replace hq1_0_0 := hq1_0_0.up2 st5
    replace h2 := h2.up2 st5
    refine k_extract rfl rfl rfl ?_
    refine k_extract rfl rfl rfl ?_
    refine k_assign rfl rfl ?_
    refine k_assign rfl rfl ?_
    refine k_nil ?_
    refine k_keep [(4, _), (5, _)] ⟨rfl, rfl, trivial⟩ ?_
    refine k_ret ?_
    obtain rfl := Option.some.inj h
    refine ⟨_, rfl, Ret.mk hS ?_⟩
    exact ⟨rfl, ho0⟩
end Go.Proofs
