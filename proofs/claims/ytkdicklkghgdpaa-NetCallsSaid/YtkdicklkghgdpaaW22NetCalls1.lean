import Derived.Test.YtkdicklkghgdpaaW22NetCalls0
set_option linter.unusedSimpArgs false
set_option linter.unusedVariables false
namespace Go.Proofs
open Go.Fw
set_option maxHeartbeats 1000000 in
set_option maxRecDepth 100000 in
theorem slices_Clone_byte_byte_own_w {s : St} {l0 : Lab} {v0 : Value} {a0 : (List UInt8)} {r : (List UInt8)} (hp0 : SL s l0 v0 1 (a0.map bD)) (h : slices_Clone_byte_byte a0 = some r) : Calls Try.prog 38 #[v0] s.w (Ret s K0 (fun s1 v => ∃ (u0 : Value), ∃ (lu0 : Lab), v = u0 ∧ (s.n < lu0.o ∧ lu0.c = 0) ∧ Own s1 lu0 5 1 u0 (r.map bD))) := by
  unfold slices_Clone_byte_byte at h
  obtain ⟨lf0, lf0le, lf0ne, hp0⟩ := hp0.fix
  have hS : Step K0 s s := (Step.refl _).of0 (by first | exact fun _ h => h | (intro c h; simp [KC, KO, KU, KN] at h <;> omega))
  refine k_fn (rs := [2]) (args := [v0]) Try.func38 rfl rfl rfl rfl ?_
  refine k_seq ?_
  refine k_region ?_
  refine k_assign rfl rfl ?_
  refine k_nil ?_
  refine k_seq ?_
  refine k_seq ?_
  refine k_region ?_
  refine k_move rfl rfl ?_
  refine k_eql_snilv Try.underlying23 rfl rfl hp0 rfl ?_
  refine k_nil ?_
  refine k_keep [(0, _), (2, _), (4, _)] ⟨rfl, rfl, rfl, trivial⟩ ?_
  refine k_cond rfl (fun c1 => ?_) (fun c1 => ?_)
  · -- nil
    have hz4 := SL.nilS_nil hp0 c1
    obtain rfl : a0 = [] := by simpa using hz4
    replace h : some ([]) = some r := by simpa [app] using h
    refine k_seq ?_
    refine k_region ?_
    refine k_assign rfl rfl ?_
    refine k_nil ?_
    refine k_keep [(0, _), (2, _)] ⟨rfl, rfl, trivial⟩ ?_
    refine k_ret ?_
    obtain rfl := Option.some.inj h
    refine ⟨_, rfl, Ret.mk hS ?_⟩
    exact ⟨_, ⟨s.n + 1, 0⟩, rfl, ⟨by show s.n < s.n + 1; omega, rfl⟩, Own.nil (by simp) (Nat.le_refl _)⟩
  · -- F
    refine k_skip ?_
    refine k_seq ?_
    refine k_region ?_
    refine k_bslice2 (ds := ([] : List UInt8).map bD) slc23 rfl RVs.nil (by rfl) (by rfl) rfl rfl ?_
    intro s2 v2 b2 st2 ge2 bl2 h2
    have szs2 := st2.size
    have hS : Step K0 s s2 := hS.trans0 st2
    replace hp0 := hp0.up2 st2
    have lt2 := Own.le1 h2
    refine k_move rfl rfl ?_
    obtain ⟨x1, hx1, h⟩ := ob h
    refine k_append (es := a0.map bD) elem23 rfl rfl h2 hp0 (by have := (app_out hx1).1; simp only [List.length_map] at *; omega) (by have := (app_out hx1).1; simp only [List.length_map] at *; omega) rfl ?_
    intro s3 v3 st3 h3
    rw [← List.map_append, ← (app_out hx1).2] at h3
    have szs3 := st3.size
    have hS : Step K0 s s3 := hS.comp st3 (by intro l hl hk; (try simp only [KC, KO, KU, KN, K0] at hk ⊢) <;> omega)
    replace hp0 := hp0.up2 st3
    refine k_assign rfl rfl ?_
    refine k_nil ?_
    refine k_keep [(2, _)] ⟨rfl, trivial⟩ ?_
    refine k_ret ?_
    obtain rfl := Option.some.inj h
    refine ⟨_, rfl, Ret.mk hS ?_⟩
    exact ⟨_, ⟨b2 + 1, 0⟩, rfl, ⟨by (try dsimp only); omega, rfl⟩, h3⟩

set_option maxHeartbeats 1000000 in
set_option maxRecDepth 100000 in
theorem net_own_own_w {s : St} {l0 : Lab} {v0 : Value} {a0 : ApiMessage} {r : ApiMessage} (hp0 : SL s l0 v0 1 (a0.Bytes.map bD)) (h : net_own a0 = some r) : Calls Try.prog 29 #[.agg #[.int .i64 a0.From, .int .i64 a0.To, v0]] s.w (Ret s K0 (fun s1 v => ∃ (u0 : Value), ∃ (lu0 : Lab), v = .agg #[.int .i64 r.From, .int .i64 r.To, u0] ∧ (s.n < lu0.o ∧ lu0.c = 0) ∧ Own s1 lu0 5 1 u0 (r.Bytes.map bD))) := by
  unfold net_own at h
  obtain ⟨lf0, lf0le, lf0ne, hp0⟩ := hp0.fix
  have hS : Step K0 s s := (Step.refl _).of0 (by first | exact fun _ h => h | (intro c h; simp [KC, KO, KU, KN] at h <;> omega))
  refine k_fn_c (rs := [.cell 2 36]) (args := [.agg #[.int .i64 a0.From, .int .i64 a0.To, v0]]) Try.func29 rfl rfl rfl rfl ?_
  refine k_seq ?_
  refine k_region ?_
  refine k_box rfl rfl ?_
  intro s1 b1 st1 h1 ge1
  have szs1 := st1.size
  have hS : Step K0 s s1 := hS.trans0 st1
  replace hp0 := hp0.up2 st1
  have lt1 := h1.lt
  refine k_alloc zero36 rfl ?_
  intro s2 b2 st2 h2 ge2
  have szs2 := st2.size
  have hS : Step K0 s s2 := hS.trans0 st2
  replace hp0 := hp0.up2 st2
  replace h1 := h1.up2 st2
  have lt2 := h2.lt
  refine k_nil ?_
  refine k_keep [(1, _), (2, _)] ⟨rfl, rfl, trivial⟩ ?_
  refine k_seq ?_
  refine k_region ?_
  refine k_field_addr fld36_2 rfl rfl ?_
  refine k_load_blk one23 rfl h1 rfl rfl ?_
  obtain ⟨x1, hx1, h⟩ := ob h
  refine k_call cal38 rfl (slices_Clone_byte_byte_own_w  hp0 hx1) rfl ?_
  rintro s3 v3_0 st3 ⟨_, l3_0, rfl, hl3_0, h3_0⟩
  have szs3 := st3.size
  have hS : Step K0 s s3 := hS.trans0 st3
  replace hp0 := hp0.up2 st3
  replace h1 := h1.up2 st3
  replace h2 := h2.up2 st3
  obtain ⟨l3_0, hl3_0, h3_0⟩ := Own.anew 2030 h3_0 hl3_0 szs3
  have lt3_0 := Own.le1 h3_0
  refine k_field_addr fld36_2 rfl rfl ?_
  refine k_store_c (cs' := [.int .i64 a0.From, .int .i64 a0.To, v3_0]) size23 rfl rfl h1 (by first | (simp; done) | omega | (dsimp only; omega)) (CellsOf.sl (h3_0.sl)) rfl (by first | rfl | (simp; done) | (simp; omega)) rfl ?_
  intro s4 st4 h1
  have szs4 := st4.size
  have hS : Step K0 s s4 := hS.comp st4 (by intro l hl hk; (try simp only [KC, KO, KU, KN, K0] at hk ⊢) <;> omega)
  replace hp0 := hp0.up2 st4
  replace h2 := h2.up2 st4
  replace h3_0 := h3_0.up2 st4
  refine k_nil ?_
  refine k_keep [(1, _), (2, _)] ⟨rfl, rfl, trivial⟩ ?_
  refine k_seq ?_
  refine k_region ?_
  refine k_load_blka (cs := [.int .i64 a0.From, .int .i64 a0.To, v3_0]) agg36 rfl h1 rfl ?_
  refine k_store_c (cs' := [.int .i64 a0.From, .int .i64 a0.To, v3_0]) size36 rfl rfl h2 (by first | (simp; done) | omega | (dsimp only; omega)) (CellsOf.lit (vs := [.int .i64 a0.From, .int .i64 a0.To, v3_0]) rfl (ones.cons rfl (ones.cons rfl (ones.cons ((h3_0.sl)).one1 ones.nil)))) rfl (by first | rfl | (simp; done) | (simp; omega)) rfl ?_
  intro s5 st5 h2
  have szs5 := st5.size
  have hS : Step K0 s s5 := hS.comp st5 (by intro l hl hk; (try simp only [KC, KO, KU, KN, K0] at hk ⊢) <;> omega)
  replace h1 := h1.up2 st5
  replace h3_0 := h3_0.up2 st5
  refine k_nil ?_
  refine k_keep [(2, _)] ⟨rfl, trivial⟩ ?_
  refine k_ret ?_
  obtain ⟨s6, e6, st6, h3_0⟩ := h3_0.zero
  rw [← e6]
  have szs6 := st6.size
  have hS : Step K0 s s6 := hS.comp st6 (by intro l hl hk; (try simp only [KC, KO, KU, KN, K0] at hk ⊢) <;> omega)
  replace h2 := h2.up2 st6
  obtain rfl := Option.some.inj h
  refine ⟨[.agg [.int .i64 a0.From, .int .i64 a0.To, v3_0].toArray], ⟨res_blk (cs := [.int .i64 a0.From, .int .i64 a0.To, v3_0]) rfl agg36 h2, trivial⟩, Ret.mk hS ?_⟩
  exact ⟨_, ⟨l3_0.o, 0⟩, rfl, ⟨by (try dsimp only); omega, rfl⟩, h3_0⟩

set_option maxHeartbeats 1000000 in
set_option maxRecDepth 100000 in
theorem net_Net_At_own_w {s : St} {k0 : Nat} {p0 : Value} {a0 : NetNet} {a1 : UInt64} {r : (ApiMessage × Int)} (ho0 : ONetNet s k0 p0 a0) (h : net_Net_At a0 a1 = some r) : Calls Try.prog 16 #[p0, .int .u64 (a1.toNat : Int)] s.w (Ret s K0 (fun s1 v => ∃ (u0 : Value), ∃ (lu0 : Lab), v = .tuple #[.agg #[.int .i64 r.1.From, .int .i64 r.1.To, u0], .int .i64 r.2] ∧ (s.n < lu0.o ∧ lu0.c = 0) ∧ Own s1 lu0 5 1 u0 (r.1.Bytes.map bD))) := by
  unfold net_Net_At at h
  have le0 := ho0.le
  have ne0 := ho0.ne
  obtain ⟨bo0, rfl⟩ := ho0.ptr
  obtain ⟨wo0_0, hb_o0, hwo0_0, hwo0_1⟩ := ho0.at_
  have hS : Step K0 s s := (Step.refl _).of0 (by first | exact fun _ h => h | (intro c h; simp [KC, KO, KU, KN] at h <;> omega))
  refine k_fn_c (rs := [.cell 4 36, .tmp 5]) (args := [.pointer (some ⟨bo0, 0, none⟩), .int .u64 (a1.toNat : Int)]) Try.func16 rfl rfl rfl rfl ?_
  refine k_seq ?_
  refine k_region ?_
  refine k_alloc zero36 rfl ?_
  intro s1 b1 st1 h1 ge1
  have szs1 := st1.size
  have hS : Step K0 s s1 := hS.trans0 st1
  replace hwo0_0 := hwo0_0.up2 st1
  replace hb_o0 := hb_o0.up2 st1
  have lt1 := h1.lt
  refine k_assign rfl rfl ?_
  refine k_nil ?_
  refine k_seq ?_
  refine k_seq ?_
  refine k_region ?_
  refine k_move rfl rfl ?_
  obtain ⟨x1, hx1, h⟩ := ob h
  refine k_call cal26 rfl (net_Net_none_w  (ONetNet.mk_ a0 (by omega) hwo0_0 hwo0_1 hb_o0) hx1) rfl ?_
  rintro s2 vr2 st2 rfl
  have szs2 := st2.size
  have hS : Step K0 s s2 := hS.trans0 st2
  replace hwo0_0 := hwo0_0.up2 st2
  replace hb_o0 := hb_o0.up2 st2
  replace h1 := h1.up2 st2
  refine k_nil ?_
  refine k_keep [(0, _), (1, _), (4, _), (5, _), (9, _)] ⟨rfl, rfl, rfl, rfl, rfl, trivial⟩ ?_
  refine k_cond rfl (fun c3 => ?_) (fun c3 => ?_)
  · -- T
    have h := ibT h c3
    refine k_seq ?_
    refine k_region ?_
    refine k_build plc36 zero36 rfl Parts.nil (by rfl) rfl ?_
    refine k_as (v := .agg #[.int .i64 0, .int .i64 0, .slice none 0 0]) rfl ?_
    refine k_store_c (cs' := [.int .i64 0, .int .i64 0, .slice none 0 0]) size36 rfl rfl h1 (by first | (simp; done) | omega | (dsimp only; omega)) (CellsOf.lit rfl rfl) rfl (by first | rfl | (simp; done) | (simp; omega)) rfl ?_
    intro s4 st4 h1
    have szs4 := st4.size
    have hS : Step K0 s s4 := hS.comp st4 (by intro l hl hk; (try simp only [KC, KO, KU, KN, K0] at hk ⊢) <;> omega)
    replace hwo0_0 := hwo0_0.up2 st4
    replace hb_o0 := hb_o0.up2 st4
    refine k_assign rfl rfl ?_
    refine k_nil ?_
    refine k_keep [(0, _), (1, _), (4, _), (5, _)] ⟨rfl, rfl, rfl, rfl, trivial⟩ ?_
    refine k_ret ?_
    obtain rfl := Option.some.inj h
    refine ⟨[.agg [.int .i64 0, .int .i64 0, .slice none 0 0].toArray, .int .i64 4], ⟨res_blk (cs := [.int .i64 0, .int .i64 0, .slice none 0 0]) rfl agg36 h1, rfl, trivial⟩, Ret.mk hS ?_⟩
    exact ⟨_, ⟨s4.n + 1, 0⟩, rfl, ⟨by show s.n < s4.n + 1; omega, rfl⟩, Own.nil (by simp) (Nat.le_refl _)⟩
  · -- F
    have h := ibF h c3
    refine k_skip ?_
    refine k_seq ?_
    refine k_region ?_
    refine k_move rfl rfl ?_
    refine k_nilCheck rfl rfl ?_
    refine k_field_addr fld64_2 rfl rfl ?_
    refine k_load_blk one60 rfl hb_o0 rfl rfl ?_
    refine k_move rfl rfl ?_
    obtain ⟨x2, hx2, h⟩ := ob h
    refine k_lookup (f := dApiMessage) (df := (⟨0, 0, []⟩ : ApiMessage)) mapT60 zero36 ⟨_, rfl, (clsApiMessage (⟨0, 0, []⟩ : ApiMessage) (R.of_SL (.inl ⟨rfl, none, 0, rfl, fun _ => rfl⟩)))⟩ rfl rfl (by rw [← hx2]; exact hwo0_0) rfl ?_
    intro v5 h5
    obtain ⟨cs5, rfl, h5⟩ := h5
    have h5 : RC _ cs5.toList _ := h5
    obtain ⟨cs5⟩ := cs5
    dsimp only at h5
    obtain ⟨q5_0, rfl, hq5_0⟩ := opnApiMessage h5
    refine k_move rfl rfl ?_
    refine k_extract rfl rfl rfl ?_
    refine k_extract rfl rfl rfl ?_
    refine k_alloc zero36 rfl ?_
    intro s6 b6 st6 h6 ge6
    have szs6 := st6.size
    have hS : Step K0 s s6 := hS.trans0 st6
    replace hwo0_0 := hwo0_0.up2 st6
    replace hq5_0 := hq5_0.up2 st6
    replace hb_o0 := hb_o0.up2 st6
    replace h1 := h1.up2 st6
    have lt6 := h6.lt
    refine k_store_c (cs' := [.int .i64 (((mget a1 x2).getD (⟨0, 0, []⟩ : ApiMessage)).From), .int .i64 (((mget a1 x2).getD (⟨0, 0, []⟩ : ApiMessage)).To), q5_0]) size36 rfl rfl h6 (by first | (simp; done) | omega | (dsimp only; omega)) (CellsOf.lit (vs := [.int .i64 (((mget a1 x2).getD (⟨0, 0, []⟩ : ApiMessage)).From), .int .i64 (((mget a1 x2).getD (⟨0, 0, []⟩ : ApiMessage)).To), q5_0]) rfl (ones.cons rfl (ones.cons rfl (ones.cons ((SL.of_R hq5_0)).one1 ones.nil)))) rfl (by first | rfl | (simp; done) | (simp; omega)) rfl ?_
    intro s7 st7 h6
    have szs7 := st7.size
    have hS : Step K0 s s7 := hS.comp st7 (by intro l hl hk; (try simp only [KC, KO, KU, KN, K0] at hk ⊢) <;> omega)
    replace hwo0_0 := hwo0_0.up2 st7
    replace hq5_0 := hq5_0.up2 st7
    replace hb_o0 := hb_o0.up2 st7
    replace h1 := h1.up2 st7
    refine k_assign rfl rfl ?_
    refine k_nil ?_
    refine k_keep [(4, _), (5, _), (6, _), (7, _)] ⟨rfl, rfl, rfl, rfl, trivial⟩ ?_
    refine k_seq ?_
    refine k_seq ?_
    refine k_region ?_
    refine k_move rfl rfl ?_
    refine k_not rfl rfl ?_
    refine k_nil ?_
    refine k_keep [(4, _), (5, _), (6, _), (21, _)] ⟨rfl, rfl, rfl, rfl, trivial⟩ ?_
    refine k_cond rfl (fun c8 => ?_) (fun c8 => ?_)
    · -- T
      have h := ibT h c8
      refine k_seq ?_
      refine k_region ?_
      refine k_build plc36 zero36 rfl Parts.nil (by rfl) rfl ?_
      refine k_as (v := .agg #[.int .i64 0, .int .i64 0, .slice none 0 0]) rfl ?_
      refine k_store_c (cs' := [.int .i64 0, .int .i64 0, .slice none 0 0]) size36 rfl rfl h1 (by first | (simp; done) | omega | (dsimp only; omega)) (CellsOf.lit rfl rfl) rfl (by first | rfl | (simp; done) | (simp; omega)) rfl ?_
      intro s9 st9 h1
      have szs9 := st9.size
      have hS : Step K0 s s9 := hS.comp st9 (by intro l hl hk; (try simp only [KC, KO, KU, KN, K0] at hk ⊢) <;> omega)
      replace hwo0_0 := hwo0_0.up2 st9
      replace hb_o0 := hb_o0.up2 st9
      replace hq5_0 := hq5_0.up2 st9
      replace h6 := h6.up2 st9
      refine k_assign rfl rfl ?_
      refine k_nil ?_
      refine k_keep [(4, _), (5, _), (6, _)] ⟨rfl, rfl, rfl, trivial⟩ ?_
      refine k_ret ?_
      obtain rfl := Option.some.inj h
      refine ⟨[.agg [.int .i64 0, .int .i64 0, .slice none 0 0].toArray, .int .i64 4], ⟨res_blk (cs := [.int .i64 0, .int .i64 0, .slice none 0 0]) rfl agg36 h1, rfl, trivial⟩, Ret.mk hS ?_⟩
      exact ⟨_, ⟨s9.n + 1, 0⟩, rfl, ⟨by show s.n < s9.n + 1; omega, rfl⟩, Own.nil (by simp) (Nat.le_refl _)⟩
    · -- F
      have h := ibF h c8
      refine k_skip ?_
      refine k_seq ?_
      refine k_region ?_
      refine k_load_blka (cs := [.int .i64 (((mget a1 x2).getD (⟨0, 0, []⟩ : ApiMessage)).From), .int .i64 (((mget a1 x2).getD (⟨0, 0, []⟩ : ApiMessage)).To), q5_0]) agg36 rfl h6 rfl ?_
      obtain ⟨x3, hx3, h⟩ := ob h
      refine k_call cal29 rfl (net_own_own_w (a0 := ((mget a1 x2).getD (⟨0, 0, []⟩ : ApiMessage))) (SL.of_R hq5_0) hx3) rfl ?_
      rintro s10 vr10 st10 ⟨v10_0, l10_0, rfl, hl10_0, h10_0⟩
      have szs10 := st10.size
      have hS : Step K0 s s10 := hS.trans0 st10
      replace hq5_0 := hq5_0.up2 st10
      replace hwo0_0 := hwo0_0.up2 st10
      replace hb_o0 := hb_o0.up2 st10
      replace h1 := h1.up2 st10
      replace h6 := h6.up2 st10
      obtain ⟨l10_0, hl10_0, h10_0⟩ := Own.anew 2100 h10_0 hl10_0 szs10
      have lt10_0 := Own.le1 h10_0
      refine k_store_c (cs' := [.int .i64 x3.From, .int .i64 x3.To, v10_0]) size36 rfl rfl h1 (by first | (simp; done) | omega | (dsimp only; omega)) (CellsOf.lit (vs := [.int .i64 x3.From, .int .i64 x3.To, v10_0]) rfl (ones.cons rfl (ones.cons rfl (ones.cons ((h10_0.sl)).one1 ones.nil)))) rfl (by first | rfl | (simp; done) | (simp; omega)) rfl ?_
      intro s11 st11 h1
      have szs11 := st11.size
      have hS : Step K0 s s11 := hS.comp st11 (by intro l hl hk; (try simp only [KC, KO, KU, KN, K0] at hk ⊢) <;> omega)
      replace hq5_0 := hq5_0.up2 st11
      replace hwo0_0 := hwo0_0.up2 st11
      replace hb_o0 := hb_o0.up2 st11
      replace h6 := h6.up2 st11
      replace h10_0 := h10_0.up2 st11
      refine k_assign rfl rfl ?_
      refine k_nil ?_
      refine k_keep [(4, _), (5, _)] ⟨rfl, rfl, trivial⟩ ?_
      refine k_ret ?_
      obtain ⟨s12, e12, st12, h10_0⟩ := h10_0.zero
      rw [← e12]
      have szs12 := st12.size
      have hS : Step K0 s s12 := hS.comp st12 (by intro l hl hk; (try simp only [KC, KO, KU, KN, K0] at hk ⊢) <;> omega)
      replace hwo0_0 := hwo0_0.up2 st12
      replace hb_o0 := hb_o0.up2 st12
      replace h1 := h1.up2 st12
      obtain rfl := Option.some.inj h
      refine ⟨[.agg [.int .i64 x3.From, .int .i64 x3.To, v10_0].toArray, .int .i64 0], ⟨res_blk (cs := [.int .i64 x3.From, .int .i64 x3.To, v10_0]) rfl agg36 h1, rfl, trivial⟩, Ret.mk hS ?_⟩
      exact ⟨_, ⟨l10_0.o, 0⟩, rfl, ⟨by (try dsimp only); omega, rfl⟩, h10_0⟩

set_option maxHeartbeats 1000000 in
set_option maxRecDepth 100000 in
theorem law22_call_w {s : St} {k0 : Nat} {p0 : Value} {a0 : NetNet} {k1 : Nat} {p1 : Value} {a1 : Ref22Net} {l2 : Lab} {v2 : Value} {a2 : Law22Call} {r : (Bool × NetNet × Ref22Net)} (ho0 : ONetNet s k0 p0 a0) (ho1 : ORef22Net s k1 p1 a1) (hp2 : SL s l2 v2 1 (a2.Bytes.map bD)) (hl2_k0 : l2.o ≠ k0) (hl2_k1 : l2.o ≠ k1) (hk0_1 : k0 ≠ k1) (h : law22_call a0 a1 a2 = some r) : Calls Try.prog 20 #[p0, p1, .agg #[.int .i64 a2.Do, .int .i64 a2.A, .int .i64 a2.B, .int .u64 (a2.Id.toNat : Int), v2]] s.w (Ret s (KU (KO k0) (KO k1)) (fun s1 v => v = .bool r.1 ∧ ONetNet s1 k0 p0 r.2.1 ∧ ORef22Net s1 k1 p1 r.2.2)) := by
  unfold law22_call at h
  have le0 := ho0.le
  have ne0 := ho0.ne
  have le1 := ho1.le
  have ne1 := ho1.ne
  obtain ⟨lf2, lf2le, lf2ne, hp2⟩ := hp2.fix
  have lfn2_k0 := lf2ne k0 hl2_k0 (by omega)
  have lfn2_k1 := lf2ne k1 hl2_k1 (by omega)
  have hS : Step (KU (KO k0) (KO k1)) s s := (Step.refl _).of0 (by first | exact fun _ h => h | (intro c h; simp [KC, KO, KU, KN] at h <;> omega))
  refine k_fn (rs := [6]) (args := [p0, p1, .agg #[.int .i64 a2.Do, .int .i64 a2.A, .int .i64 a2.B, .int .u64 (a2.Id.toNat : Int), v2]]) Try.func20 rfl rfl rfl rfl ?_
  refine k_seq ?_
  refine k_region ?_
  refine k_box rfl rfl ?_
  intro s1 b1 st1 h1 ge1
  have szs1 := st1.size
  have hS : Step (KU (KO k0) (KO k1)) s s1 := hS.trans0 st1
  replace hp2 := hp2.up2 st1
  replace ho0 := ho0.up2 st1
  replace ho1 := ho1.up2 st1
  have lt1 := h1.lt
  refine k_assign rfl rfl ?_
  refine k_nil ?_
  refine k_keep [(0, _), (1, _), (5, _), (6, _)] ⟨rfl, rfl, rfl, rfl, trivial⟩ ?_
  refine k_seq ?_
  obtain ⟨kj1, hK2, h⟩ := jn_out h
  have hE2 : Step K0 s1 s1 := (Step.refl _).of0 (by first | exact fun _ h => h | (intro c h; simp [KC, KO, KU, KN] at h <;> omega))
  refine k_cutc (X := St) [(0, p0), (1, p1), (5, .pointer (some ⟨b1, 0, none⟩)), (6, .bool false)] (fun (xL : St) => match xL with | sl => []) (fun (xL : St) (wL : World) => match xL with | sl => sl.w = wL ∧ Step K0 s1 sl ∧ kj1 () = some r) ?_ ?_
  · -- the ways
    refine k_seq ?_
    refine k_region ?_
    refine k_field_addr fld32_0 rfl rfl ?_
    refine k_load_blk one3 rfl h1 rfl rfl ?_
    refine k_nil ?_
    refine k_keep [(0, _), (1, _), (5, _), (6, _), (30, _)] ⟨rfl, rfl, rfl, rfl, rfl, trivial⟩ ?_
    refine k_block ?_
    refine k_seq ?_
    refine k_region ?_
    refine k_eql rfl rfl rfl ?_
    refine k_assign rfl rfl ?_
    refine k_nil ?_
    refine k_keep [(0, _), (1, _), (5, _), (6, _), (30, _), (31, _)] ⟨rfl, rfl, rfl, rfl, rfl, rfl, trivial⟩ ?_
    refine k_cond_dec rfl (fun c3 => ?_) (fun c3 => ?_)
    · -- T
      have h := itT h c3
      refine k_seq ?_
      refine k_region ?_
      refine k_bslice2 (ds := ([] : List UInt8).map bD) slc23 rfl RVs.nil (by rfl) (by rfl) rfl rfl ?_
      intro s4 v4 b4 st4 ge4 bl4 h4
      have szs4 := st4.size
      have hS : Step (KU (KO k0) (KO k1)) s s4 := hS.trans0 st4
      have hE2 : Step K0 s1 s4 := hE2.trans0 st4
      replace ho0 := ho0.up2 st4
      replace ho1 := ho1.up2 st4
      replace hp2 := hp2.up2 st4
      replace h1 := h1.up2 st4
      have lt4 := Own.le1 h4
      refine k_field_addr fld32_4 rfl rfl ?_
      refine k_load_blk one23 rfl h1 rfl rfl ?_
      obtain ⟨x2, hx2, h⟩ := ob h
      refine k_append (es := a2.Bytes.map bD) elem23 rfl rfl h4 hp2 (by have := (app_out hx2).1; simp only [List.length_map] at *; omega) (by have := (app_out hx2).1; simp only [List.length_map] at *; omega) rfl ?_
      intro s5 v5 st5 h5
      rw [← List.map_append, ← (app_out hx2).2] at h5
      have szs5 := st5.size
      have hS : Step (KU (KO k0) (KO k1)) s s5 := hS.comp st5 (by intro l hl hk; (try simp only [KC, KO, KU, KN, K0] at hk ⊢) <;> omega)
      have hE2 : Step K0 s1 s5 := hE2.comp st5 (by intro l hl hk; (try simp only [KC, KO, KU, KN, K0] at hk ⊢) <;> omega)
      replace hp2 := hp2.up2 st5
      replace ho0 := ho0.up2 st5
      replace ho1 := ho1.up2 st5
      replace h1 := h1.up2 st5
      refine k_assign rfl rfl ?_
      refine k_nil ?_
      refine k_keep [(0, _), (1, _), (5, _), (6, _), (7, _)] ⟨rfl, rfl, rfl, rfl, rfl, trivial⟩ ?_
      refine k_seq ?_
      refine k_region ?_
      refine k_move rfl rfl ?_
      refine k_field_addr fld32_1 rfl rfl ?_
      refine k_load_blk one3 rfl h1 rfl rfl ?_
      refine k_field_addr fld32_2 rfl rfl ?_
      refine k_load_blk one3 rfl h1 rfl rfl ?_
      refine k_move rfl rfl ?_
      obtain ⟨x3, hx3, h⟩ := ob h
      refine k_call cal11 rfl (net_Net_Send_w  ho0 (h5.sl) (by first | assumption | omega | (simp <;> omega)) hx3) rfl ?_
      rintro s6 vr6 st6 ⟨rfl, ho0⟩
      have szs6 := st6.size
      have hS : Step (KU (KO k0) (KO k1)) s s6 := hS.comp st6 (by intro l hl hk; (try simp only [KC, KO, KU, KN, K0] at hk ⊢) <;> omega)
      replace ho1 := ho1.up2 st6
      replace hp2 := hp2.up2 st6
      replace h1 := h1.up2 st6
      replace h5 := h5.up2 st6
      refine k_move rfl rfl ?_
      refine k_extract rfl rfl rfl ?_
      refine k_extract rfl rfl rfl ?_
      refine k_assign rfl rfl ?_
      refine k_assign rfl rfl ?_
      refine k_nil ?_
      refine k_keep [(0, _), (1, _), (5, _), (6, _), (7, _), (8, _), (9, _)] ⟨rfl, rfl, rfl, rfl, rfl, rfl, rfl, trivial⟩ ?_
      refine k_seq ?_
      obtain ⟨kj4, hK7, h⟩ := jn_out h
      have hE7 : Step (KC (b4 + 1) 0) s6 s6 := (Step.refl _).of0 (by first | exact fun _ h => h | (intro c h; simp [KC, KO, KU, KN] at h <;> omega))
      refine k_cutc (X := St × (List UInt8)) [(0, p0), (1, p1), (5, .pointer (some ⟨b1, 0, none⟩)), (6, .bool false), (8, .int .u64 (x3.1.toNat : Int)), (9, .int .i64 x3.2.1)] (fun (xL : St × (List UInt8)) => match xL with | (sl, x5) => []) (fun (xL : St × (List UInt8)) (wL : World) => match xL with | (sl, x5) => sl.w = wL ∧ Step (KC (b4 + 1) 0) s6 sl ∧ (Own sl ⟨b4 + 1, 0⟩ 5 1 v5 (x5.map bD)) ∧ kj4 x5 = some r) ?_ ?_
      · -- the ways
        refine k_seq ?_
        refine k_region ?_
        refine k_assign rfl rfl ?_
        refine k_nil ?_
        refine k_block ?_
        refine k_loopc (X := St × Int × (List UInt8) × Nat) [(0, _), (1, _), (5, _), (6, _), (7, _), (8, _), (9, _)] (fun (xL : St × Int × (List UInt8) × Nat) => match xL with | (sl, x6, x7, j) => [(10, .int .i64 x6)]) (fun (xL : St × Int × (List UInt8) × Nat) (wL : World) => match xL with | (sl, x6, x7, j) => sl.w = wL ∧ Step (KC (b4 + 1) 0) s6 sl ∧ (Own sl ⟨b4 + 1, 0⟩ 5 1 v5 (x7.map bD)) ∧ law22_call_l1 kj4 j x6 x7 = some r) (fun (xL : St × Int × (List UInt8) × Nat) => match xL with | (sl, x6, x7, j) => j) (s6, 0, x2, FU) ⟨rfl, rfl, rfl, rfl, rfl, rfl, rfl, trivial⟩ ⟨(by first | rfl | (simp <;> rfl)), trivial⟩ ⟨rfl, (Step.refl _).of0 (by first | exact fun _ h => h | (intro c h; simp [KC, KO, KU, KN] at h <;> omega)), h5, h⟩ ?_
        rintro ⟨s9, x6, x7, j⟩ wL ⟨rfl, hE8, h5, h⟩
        cases j with
        | zero => rw [law22_call_l1] at h; exact (noneNe h).elim
        | succ j =>
        rw [law22_call_l1] at h
        have szs9 := hE8.size
        have hS : Step (KU (KO k0) (KO k1)) s s9 := hS.comp hE8 (by intro l hl hk; (try simp only [KC, KO, KU, KN, K0] at hk ⊢) <;> omega)
        have hE7 : Step (KC (b4 + 1) 0) s6 s9 := hE7.comp hE8 (by intro l hl hk; (try simp only [KC, KO, KU, KN, K0] at hk ⊢) <;> omega)
        replace ho0 := ho0.up2 hE8
        replace ho1 := ho1.up2 hE8
        replace hp2 := hp2.up2 hE8
        replace h1 := h1.up2 hE8
        refine k_seq ?_
        refine k_seq ?_
        refine k_region ?_
        refine k_move rfl rfl ?_
        refine k_move rfl rfl ?_
        refine k_len Try.underlying23 rfl (h5.sl).hasLen rfl ?_
        refine k_as (v := .int .i64 (x7.length : Int)) (by simp only [List.length_map]) ?_
        refine k_lss rfl rfl rfl ?_
        refine k_nil ?_
        refine k_keep [(0, _), (1, _), (5, _), (6, _), (7, _), (8, _), (9, _), (10, _), (50, _)] ⟨rfl, rfl, rfl, rfl, rfl, rfl, rfl, rfl, rfl, trivial⟩ ?_
        refine k_cond_dec rfl (fun c10 => ?_) (fun c10 => ?_)
        · -- T
          have h := itT h c10
          refine k_skip ?_
          refine k_seq ?_
          refine k_block ?_
          refine k_region ?_
          refine k_move rfl rfl ?_
          refine k_move rfl rfl ?_
          obtain ⟨x8, hx8, h⟩ := ob h
          refine k_ixaddr_own Try.underlying23 size5 rfl rfl h5 (geti_out hx8).1 (geti_map hx8) rfl ?_
          intro qx8 hqx8 heqx8
          refine k_load_val one5 rfl hqx8 rfl ?_
          refine k_add rfl rfl rfl ?_
          refine k_as (congrArg (Value.int .u8) (w8 _)) ?_
          obtain ⟨x9, hx9, h⟩ := ob h
          refine k_ixaddr_own Try.underlying23 size5 rfl rfl h5 (geti_out hx9).1 (geti_map hx9) rfl ?_
          intro qx9 hqx9 heqx9
          refine k_store_elt (dd := bD (ofI8 ((x8.toNat : Int) + 1))) size5 rfl rfl h5 heqx9 (by rw [List.length_map]; exact (List.getElem?_eq_some_iff.1 (geti_out hx9).2.2).1) (R.val rfl) rfl ?_
          intro s11 st11 h5
          rw [← List.map_set] at h5
          have szs11 := st11.size
          have hS : Step (KU (KO k0) (KO k1)) s s11 := hS.comp st11 (by intro l hl hk; (try simp only [KC, KO, KU, KN, K0] at hk ⊢) <;> omega)
          have hE7 : Step (KC (b4 + 1) 0) s6 s11 := hE7.comp st11 (by intro l hl hk; (try simp only [KC, KO, KU, KN, K0] at hk ⊢) <;> omega)
          have hE8 : Step (KC (b4 + 1) 0) s6 s11 := hE8.comp st11 (by intro l hl hk; (try simp only [KC, KO, KU, KN, K0] at hk ⊢) <;> omega)
          replace ho0 := ho0.up2 st11
          replace ho1 := ho1.up2 st11
          replace hp2 := hp2.up2 st11
          replace h1 := h1.up2 st11
          refine k_nil ?_
          refine k_blk ?_
          refine k_region ?_
          refine k_move rfl rfl ?_
          refine k_add rfl rfl rfl ?_
          refine k_assign rfl rfl ?_
          refine k_nil ?_
          exact k_stop ⟨(s11, i64 (x6 + 1), x7.set (x6).toNat (ofI8 ((x8.toNat : Int) + 1)), j), ⟨(by first | rfl | (simp <;> rfl)), trivial⟩, ⟨rfl, rfl, rfl, rfl, rfl, rfl, rfl, trivial⟩, ⟨rfl, hE8, h5, h⟩, (by simp)⟩
        · -- F
          have h := itF h c10
          refine k_exit rfl ?_
          exact k_stop ⟨(s9, x7), trivial, ⟨rfl, rfl, rfl, rfl, rfl, rfl, trivial⟩, ⟨rfl, hE7, h5, h⟩⟩
      · -- behind
        rintro ⟨s12, x5⟩ wL ⟨rfl, hE7, h5, h⟩
        rw [hK7] at h
        have szs12 := hE7.size
        have hS : Step (KU (KO k0) (KO k1)) s s12 := hS.comp hE7 (by intro l hl hk; (try simp only [KC, KO, KU, KN, K0] at hk ⊢) <;> omega)
        replace ho0 := ho0.up2 hE7
        replace ho1 := ho1.up2 hE7
        replace hp2 := hp2.up2 hE7
        replace h1 := h1.up2 hE7
        refine k_seq ?_
        refine k_region ?_
        refine k_move rfl rfl ?_
        refine k_field_addr fld32_1 rfl rfl ?_
        refine k_load_blk one3 rfl h1 rfl rfl ?_
        refine k_field_addr fld32_2 rfl rfl ?_
        refine k_load_blk one3 rfl h1 rfl rfl ?_
        refine k_field_addr fld32_4 rfl rfl ?_
        refine k_load_blk one23 rfl h1 rfl rfl ?_
        obtain ⟨x10, hx10, h⟩ := ob h
        refine k_call cal30 rfl (ref22_Net_Send_w  ho1 hp2 (by first | assumption | omega | (simp <;> omega)) hx10) rfl ?_
        rintro s13 vr13 st13 ⟨rfl, ho1⟩
        have szs13 := st13.size
        have hS : Step (KU (KO k0) (KO k1)) s s13 := hS.comp st13 (by intro l hl hk; (try simp only [KC, KO, KU, KN, K0] at hk ⊢) <;> omega)
        replace hp2 := hp2.up2 st13
        replace ho0 := ho0.up2 st13
        replace h1 := h1.up2 st13
        refine k_move rfl rfl ?_
        refine k_extract rfl rfl rfl ?_
        refine k_extract rfl rfl rfl ?_
        refine k_assign rfl rfl ?_
        refine k_assign rfl rfl ?_
        refine k_nil ?_
        refine k_keep [(0, _), (1, _), (5, _), (6, _), (8, _), (9, _), (11, _), (12, _)] ⟨rfl, rfl, rfl, rfl, rfl, rfl, rfl, rfl, trivial⟩ ?_
        refine k_seq ?_
        refine k_region ?_
        refine k_move rfl rfl ?_
        refine k_move rfl rfl ?_
        refine k_eql rfl rfl rfl ?_
        refine k_move rfl rfl ?_
        have hE14 : Step K0 s13 s13 := (Step.refl _).of0 (by first | exact fun _ h => h | (intro c h; simp [KC, KO, KU, KN] at h <;> omega))
        refine k_cutl (X := St) 4 [(0, p0), (1, p1), (5, .pointer (some ⟨b1, 0, none⟩)), (6, .bool false), (8, .int .u64 (x3.1.toNat : Int)), (9, .int .i64 x3.2.1), (11, .int .u64 (x10.1.toNat : Int)), (12, .int .i64 x10.2.1), (70, .int .u64 (x3.1.toNat : Int)), (71, .int .u64 (x10.1.toNat : Int)), (72, .bool (decide ((x3.1.toNat : Int) = (x10.1.toNat : Int))))] (fun _ => [(77, .bool (decide (((x3.1.toNat : Int) = (x10.1.toNat : Int)) ∧ (x3.2.1 = x10.2.1))))]) (fun sl wL => sl.w = wL ∧ Step K0 s13 sl) ?_ ?_
        · -- the ways
          refine k_again 73 rfl ?_
          refine k_split (fun c15 => ?_) (fun c15 => ?_)
          · -- t73 True
            refine k_yes rfl rfl ?_
            refine k_move rfl rfl ?_
            refine k_yes rfl rfl ?_
            refine k_move rfl rfl ?_
            refine k_yes rfl rfl ?_
            refine k_eql rfl rfl rfl ?_
            refine k_pickT rfl rfl rfl rfl ?_
            exact k_met ⟨s13, ⟨(congrArg (fun b => some (Value.bool b)) (by first | exact decide_eq_decide.2 ⟨fun h => ⟨c15, h⟩, fun h => h.2⟩ | exact (decide_eq_false (fun h => c15 h.1)).symm | (simp [c15]; done) | (simp [c15, i64] <;> omega))), trivial⟩, ⟨rfl, rfl, rfl, rfl, rfl, rfl, rfl, rfl, rfl, rfl, rfl, trivial⟩, rfl, hE14⟩
          · -- t73 False
            refine k_no rfl rfl rfl rfl ?_
            refine k_no rfl rfl rfl rfl ?_
            refine k_no rfl rfl rfl rfl ?_
            refine k_pickF rfl rfl rfl rfl ?_
            exact k_met ⟨s13, ⟨(congrArg (fun b => some (Value.bool b)) (by first | exact decide_eq_decide.2 ⟨fun h => ⟨c15, h⟩, fun h => h.2⟩ | exact (decide_eq_false (fun h => c15 h.1)).symm | (simp [c15]; done) | (simp [c15, i64] <;> omega))), trivial⟩, ⟨rfl, rfl, rfl, rfl, rfl, rfl, rfl, rfl, rfl, rfl, rfl, trivial⟩, rfl, hE14⟩
        · -- behind
          rintro s16 wL ⟨rfl, hE14⟩
          have szs16 := hE14.size
          have hS : Step (KU (KO k0) (KO k1)) s s16 := hS.trans0 hE14
          replace ho0 := ho0.up2 hE14
          replace ho1 := ho1.up2 hE14
          replace hp2 := hp2.up2 hE14
          replace h1 := h1.up2 hE14
          refine k_assign rfl rfl ?_
          refine k_nil ?_
          refine k_keep [(0, _), (1, _), (5, _), (6, _)] ⟨rfl, rfl, rfl, rfl, trivial⟩ ?_
          refine k_ret ?_
          obtain rfl := Option.some.inj h
          refine ⟨_, rfl, Ret.mk hS ?_⟩
          exact ⟨rfl, ho0, ho1⟩
    · -- F
      have h := itF h c3
      refine k_seq ?_
      refine k_region ?_
      refine k_eql rfl rfl rfl ?_
      refine k_assign rfl rfl ?_
      refine k_nil ?_
      refine k_keep [(0, _), (1, _), (5, _), (6, _), (30, _), (78, _)] ⟨rfl, rfl, rfl, rfl, rfl, rfl, trivial⟩ ?_
      refine k_cond_dec rfl (fun c17 => ?_) (fun c17 => ?_)
      · -- T
        have h := itT h c17
        refine k_seq ?_
        refine k_region ?_
        refine k_move rfl rfl ?_
        refine k_field_addr fld32_3 rfl rfl ?_
        refine k_load_blk one30 rfl h1 rfl rfl ?_
        obtain ⟨x11, hx11, h⟩ := ob h
        refine k_call cal12 rfl (net_Net_Deliver_w  ho0 hx11) rfl ?_
        rintro s18 vr18 st18 ⟨cs18_0, rfl, h18_0, ho0⟩
        have szs18 := st18.size
        have hS : Step (KU (KO k0) (KO k1)) s s18 := hS.comp st18 (by intro l hl hk; (try simp only [KC, KO, KU, KN, K0] at hk ⊢) <;> omega)
        replace ho1 := ho1.up2 st18
        replace hp2 := hp2.up2 st18
        replace h1 := h1.up2 st18
        obtain ⟨q18_0_0, rfl, hq18_0_0⟩ := opnApiMessage h18_0
        refine k_move rfl rfl ?_
        refine k_extract rfl rfl rfl ?_
        refine k_extract rfl rfl rfl ?_
        refine k_alloc zero36 rfl ?_
        intro s19 b19 st19 h19 ge19
        have szs19 := st19.size
        have hS : Step (KU (KO k0) (KO k1)) s s19 := hS.trans0 st19
        replace hq18_0_0 := hq18_0_0.up2 st19
        replace ho0 := ho0.up2 st19
        replace ho1 := ho1.up2 st19
        replace hp2 := hp2.up2 st19
        replace h1 := h1.up2 st19
        have lt19 := h19.lt
        refine k_store_c (cs' := [.int .i64 x11.1.From, .int .i64 x11.1.To, q18_0_0]) size36 rfl rfl h19 (by first | (simp; done) | omega | (dsimp only; omega)) (CellsOf.lit (vs := [.int .i64 x11.1.From, .int .i64 x11.1.To, q18_0_0]) rfl (ones.cons rfl (ones.cons rfl (ones.cons ((SL.of_R hq18_0_0)).one1 ones.nil)))) rfl (by first | rfl | (simp; done) | (simp; omega)) rfl ?_
        intro s20 st20 h19
        have szs20 := st20.size
        have hS : Step (KU (KO k0) (KO k1)) s s20 := hS.comp st20 (by intro l hl hk; (try simp only [KC, KO, KU, KN, K0] at hk ⊢) <;> omega)
        replace hq18_0_0 := hq18_0_0.up2 st20
        replace ho0 := ho0.up2 st20
        replace ho1 := ho1.up2 st20
        replace hp2 := hp2.up2 st20
        replace h1 := h1.up2 st20
        refine k_assign rfl rfl ?_
        refine k_nil ?_
        refine k_keep [(0, _), (1, _), (5, _), (6, _), (13, _), (14, _)] ⟨rfl, rfl, rfl, rfl, rfl, rfl, trivial⟩ ?_
        refine k_seq ?_
        refine k_region ?_
        refine k_move rfl rfl ?_
        refine k_field_addr fld32_3 rfl rfl ?_
        refine k_load_blk one30 rfl h1 rfl rfl ?_
        obtain ⟨x12, hx12, h⟩ := ob h
        refine k_call cal31 rfl (ref22_Net_Deliver_w  ho1 hx12) rfl ?_
        rintro s21 vr21 st21 ⟨cs21_0, rfl, h21_0, ho1⟩
        have szs21 := st21.size
        have hS : Step (KU (KO k0) (KO k1)) s s21 := hS.comp st21 (by intro l hl hk; (try simp only [KC, KO, KU, KN, K0] at hk ⊢) <;> omega)
        replace ho0 := ho0.up2 st21
        replace hp2 := hp2.up2 st21
        replace h1 := h1.up2 st21
        replace hq18_0_0 := hq18_0_0.up2 st21
        replace h19 := h19.up2 st21
        obtain ⟨q21_0_0, rfl, hq21_0_0⟩ := opnApiMessage h21_0
        refine k_move rfl rfl ?_
        refine k_extract rfl rfl rfl ?_
        refine k_extract rfl rfl rfl ?_
        refine k_alloc zero36 rfl ?_
        intro s22 b22 st22 h22 ge22
        have szs22 := st22.size
        have hS : Step (KU (KO k0) (KO k1)) s s22 := hS.trans0 st22
        replace hq21_0_0 := hq21_0_0.up2 st22
        replace ho0 := ho0.up2 st22
        replace ho1 := ho1.up2 st22
        replace hp2 := hp2.up2 st22
        replace h1 := h1.up2 st22
        replace hq18_0_0 := hq18_0_0.up2 st22
        replace h19 := h19.up2 st22
        have lt22 := h22.lt
        refine k_store_c (cs' := [.int .i64 x12.1.From, .int .i64 x12.1.To, q21_0_0]) size36 rfl rfl h22 (by first | (simp; done) | omega | (dsimp only; omega)) (CellsOf.lit (vs := [.int .i64 x12.1.From, .int .i64 x12.1.To, q21_0_0]) rfl (ones.cons rfl (ones.cons rfl (ones.cons ((SL.of_R hq21_0_0)).one1 ones.nil)))) rfl (by first | rfl | (simp; done) | (simp; omega)) rfl ?_
        intro s23 st23 h22
        have szs23 := st23.size
        have hS : Step (KU (KO k0) (KO k1)) s s23 := hS.comp st23 (by intro l hl hk; (try simp only [KC, KO, KU, KN, K0] at hk ⊢) <;> omega)
        replace hq21_0_0 := hq21_0_0.up2 st23
        replace ho0 := ho0.up2 st23
        replace ho1 := ho1.up2 st23
        replace hp2 := hp2.up2 st23
        replace h1 := h1.up2 st23
        replace hq18_0_0 := hq18_0_0.up2 st23
        replace h19 := h19.up2 st23
        refine k_assign rfl rfl ?_
        refine k_nil ?_
        refine k_keep [(0, _), (1, _), (5, _), (6, _), (13, _), (14, _), (15, _), (16, _)] ⟨rfl, rfl, rfl, rfl, rfl, rfl, rfl, rfl, trivial⟩ ?_
        refine k_seq ?_
        refine k_region ?_
        refine k_move rfl rfl ?_
        refine k_move rfl rfl ?_
        refine k_eql rfl rfl rfl ?_
        refine k_move rfl rfl ?_
        obtain ⟨x13, hx13, h⟩ := ob h
        have hE24 : Step K0 s23 s23 := (Step.refl _).of0 (by first | exact fun _ h => h | (intro c h; simp [KC, KO, KU, KN] at h <;> omega))
        refine k_cutl (X := St) 4 [(0, p0), (1, p1), (5, .pointer (some ⟨b1, 0, none⟩)), (6, .bool false), (13, .pointer (some ⟨b19, 0, none⟩)), (14, .int .i64 x11.2.1), (15, .pointer (some ⟨b22, 0, none⟩)), (16, .int .i64 x12.2.1), (94, .int .i64 x11.2.1), (95, .int .i64 x12.2.1), (96, .bool (decide (x11.2.1 = x12.2.1)))] (fun _ => [(101, .bool x13)]) (fun sl wL => sl.w = wL ∧ Step K0 s23 sl) ?_ ?_
        · -- the ways
          refine k_again 97 rfl ?_
          refine k_split (fun c25 => ?_) (fun c25 => ?_)
          · -- t97 True
            have hx13 := itT hx13 c25
            refine k_yes rfl rfl ?_
            refine k_load_blka (cs := [.int .i64 x11.1.From, .int .i64 x11.1.To, q18_0_0]) agg36 rfl h19 rfl ?_
            refine k_yes rfl rfl ?_
            refine k_load_blka (cs := [.int .i64 x12.1.From, .int .i64 x12.1.To, q21_0_0]) agg36 rfl h22 rfl ?_
            refine k_yes rfl rfl ?_
            obtain ⟨x14, hx14, hx13⟩ := ob hx13
            refine k_call cal17 rfl (ref22_Same_w (a0 := x11.1) (a1 := x12.1) (SL.of_R hq18_0_0) (SL.of_R hq21_0_0) hx14) rfl ?_
            rintro s26 vr26 st26 rfl
            have szs26 := st26.size
            have hS : Step (KU (KO k0) (KO k1)) s s26 := hS.trans0 st26
            have hE24 : Step K0 s23 s26 := hE24.trans0 st26
            replace hq18_0_0 := hq18_0_0.up2 st26
            replace hq21_0_0 := hq21_0_0.up2 st26
            replace ho0 := ho0.up2 st26
            replace ho1 := ho1.up2 st26
            replace hp2 := hp2.up2 st26
            replace h1 := h1.up2 st26
            replace h19 := h19.up2 st26
            replace h22 := h22.up2 st26
            refine k_pickT rfl rfl rfl rfl ?_
            exact k_met ⟨s26, ⟨(congrArg (fun b => some (Value.bool b)) (Option.some.inj hx13)), trivial⟩, ⟨rfl, rfl, rfl, rfl, rfl, rfl, rfl, rfl, rfl, rfl, rfl, trivial⟩, rfl, hE24⟩
          · -- t97 False
            have hx13 := itF hx13 c25
            refine k_no rfl rfl rfl rfl ?_
            refine k_no rfl rfl rfl rfl ?_
            refine k_no rfl rfl rfl rfl ?_
            refine k_pickF rfl rfl rfl rfl ?_
            exact k_met ⟨s23, ⟨(congrArg (fun b => some (Value.bool b)) (Option.some.inj hx13)), trivial⟩, ⟨rfl, rfl, rfl, rfl, rfl, rfl, rfl, rfl, rfl, rfl, rfl, trivial⟩, rfl, hE24⟩
        · -- behind
          rintro s27 wL ⟨rfl, hE24⟩
          have szs27 := hE24.size
          have hS : Step (KU (KO k0) (KO k1)) s s27 := hS.trans0 hE24
          replace ho0 := ho0.up2 hE24
          replace ho1 := ho1.up2 hE24
          replace hp2 := hp2.up2 hE24
          replace h1 := h1.up2 hE24
          replace hq18_0_0 := hq18_0_0.up2 hE24
          replace h19 := h19.up2 hE24
          replace hq21_0_0 := hq21_0_0.up2 hE24
          replace h22 := h22.up2 hE24
          refine k_assign rfl rfl ?_
          refine k_nil ?_
          refine k_keep [(0, _), (1, _), (5, _), (6, _)] ⟨rfl, rfl, rfl, rfl, trivial⟩ ?_
          refine k_ret ?_
          obtain rfl := Option.some.inj h
          refine ⟨_, rfl, Ret.mk hS ?_⟩
          exact ⟨rfl, ho0, ho1⟩
      · -- F
        have h := itF h c17
        refine k_seq ?_
        refine k_region ?_
        refine k_eql rfl rfl rfl ?_
        refine k_assign rfl rfl ?_
        refine k_nil ?_
        refine k_keep [(0, _), (1, _), (5, _), (6, _), (30, _), (102, _)] ⟨rfl, rfl, rfl, rfl, rfl, rfl, trivial⟩ ?_
        refine k_cond_dec rfl (fun c28 => ?_) (fun c28 => ?_)
        · -- T
          have h := itT h c28
          refine k_seq ?_
          refine k_region ?_
          refine k_move rfl rfl ?_
          refine k_field_addr fld32_3 rfl rfl ?_
          refine k_load_blk one30 rfl h1 rfl rfl ?_
          obtain ⟨x15, hx15, h⟩ := ob h
          refine k_call cal31 rfl (ref22_Net_Deliver_w  ho1 hx15) rfl ?_
          rintro s29 vr29 st29 ⟨cs29_0, rfl, h29_0, ho1⟩
          have szs29 := st29.size
          have hS : Step (KU (KO k0) (KO k1)) s s29 := hS.comp st29 (by intro l hl hk; (try simp only [KC, KO, KU, KN, K0] at hk ⊢) <;> omega)
          replace ho0 := ho0.up2 st29
          replace hp2 := hp2.up2 st29
          replace h1 := h1.up2 st29
          obtain ⟨q29_0_0, rfl, hq29_0_0⟩ := opnApiMessage h29_0
          refine k_move rfl rfl ?_
          refine k_extract rfl rfl rfl ?_
          refine k_extract rfl rfl rfl ?_
          refine k_alloc zero36 rfl ?_
          intro s30 b30 st30 h30 ge30
          have szs30 := st30.size
          have hS : Step (KU (KO k0) (KO k1)) s s30 := hS.trans0 st30
          replace hq29_0_0 := hq29_0_0.up2 st30
          replace ho0 := ho0.up2 st30
          replace ho1 := ho1.up2 st30
          replace hp2 := hp2.up2 st30
          replace h1 := h1.up2 st30
          have lt30 := h30.lt
          refine k_store_c (cs' := [.int .i64 x15.1.From, .int .i64 x15.1.To, q29_0_0]) size36 rfl rfl h30 (by first | (simp; done) | omega | (dsimp only; omega)) (CellsOf.lit (vs := [.int .i64 x15.1.From, .int .i64 x15.1.To, q29_0_0]) rfl (ones.cons rfl (ones.cons rfl (ones.cons ((SL.of_R hq29_0_0)).one1 ones.nil)))) rfl (by first | rfl | (simp; done) | (simp; omega)) rfl ?_
          intro s31 st31 h30
          have szs31 := st31.size
          have hS : Step (KU (KO k0) (KO k1)) s s31 := hS.comp st31 (by intro l hl hk; (try simp only [KC, KO, KU, KN, K0] at hk ⊢) <;> omega)
          replace hq29_0_0 := hq29_0_0.up2 st31
          replace ho0 := ho0.up2 st31
          replace ho1 := ho1.up2 st31
          replace hp2 := hp2.up2 st31
          replace h1 := h1.up2 st31
          refine k_assign rfl rfl ?_
          refine k_nil ?_
          refine k_keep [(0, _), (1, _), (5, _), (6, _), (18, _)] ⟨rfl, rfl, rfl, rfl, rfl, trivial⟩ ?_
          refine k_seq ?_
          refine k_region ?_
          refine k_move rfl rfl ?_
          refine k_field_addr fld32_3 rfl rfl ?_
          refine k_load_blk one30 rfl h1 rfl rfl ?_
          obtain ⟨x16, hx16, h⟩ := ob h
          refine k_call cal15 rfl (net_Net_Drop_w  ho0 hx16) rfl ?_
          rintro s32 vr32 st32 ⟨rfl, ho0⟩
          have szs32 := st32.size
          have hS : Step (KU (KO k0) (KO k1)) s s32 := hS.comp st32 (by intro l hl hk; (try simp only [KC, KO, KU, KN, K0] at hk ⊢) <;> omega)
          replace ho1 := ho1.up2 st32
          replace hp2 := hp2.up2 st32
          replace h1 := h1.up2 st32
          refine k_move rfl rfl ?_
          refine k_eql rfl rfl rfl ?_
          refine k_assign rfl rfl ?_
          refine k_nil ?_
          refine k_keep [(0, _), (1, _), (5, _), (6, _)] ⟨rfl, rfl, rfl, rfl, trivial⟩ ?_
          refine k_ret ?_
          obtain rfl := Option.some.inj h
          refine ⟨_, rfl, Ret.mk hS ?_⟩
          exact ⟨rfl, ho0, ho1⟩
        · -- F
          have h := itF h c28
          refine k_seq ?_
          refine k_region ?_
          refine k_eql rfl rfl rfl ?_
          refine k_assign rfl rfl ?_
          refine k_nil ?_
          refine k_keep [(0, _), (1, _), (5, _), (6, _), (117, _)] ⟨rfl, rfl, rfl, rfl, rfl, trivial⟩ ?_
          refine k_cond_dec rfl (fun c33 => ?_) (fun c33 => ?_)
          · -- T
            have h := itT h c33
            refine k_seq ?_
            refine k_region ?_
            refine k_move rfl rfl ?_
            refine k_field_addr fld32_3 rfl rfl ?_
            refine k_load_blk one30 rfl h1 rfl rfl ?_
            obtain ⟨x17, hx17, h⟩ := ob h
            refine k_call cal13 rfl (net_Net_Double_w  ho0 hx17) rfl ?_
            rintro s34 vr34 st34 ⟨rfl, ho0⟩
            have szs34 := st34.size
            have hS : Step (KU (KO k0) (KO k1)) s s34 := hS.comp st34 (by intro l hl hk; (try simp only [KC, KO, KU, KN, K0] at hk ⊢) <;> omega)
            replace ho1 := ho1.up2 st34
            replace hp2 := hp2.up2 st34
            replace h1 := h1.up2 st34
            refine k_move rfl rfl ?_
            refine k_extract rfl rfl rfl ?_
            refine k_extract rfl rfl rfl ?_
            refine k_assign rfl rfl ?_
            refine k_assign rfl rfl ?_
            refine k_nil ?_
            refine k_keep [(0, _), (1, _), (5, _), (6, _), (19, _), (20, _)] ⟨rfl, rfl, rfl, rfl, rfl, rfl, trivial⟩ ?_
            refine k_seq ?_
            refine k_region ?_
            refine k_move rfl rfl ?_
            refine k_field_addr fld32_3 rfl rfl ?_
            refine k_load_blk one30 rfl h1 rfl rfl ?_
            obtain ⟨x18, hx18, h⟩ := ob h
            refine k_call cal32 rfl (ref22_Net_Double_w  ho1 hx18) rfl ?_
            rintro s35 vr35 st35 ⟨rfl, ho1⟩
            have szs35 := st35.size
            have hS : Step (KU (KO k0) (KO k1)) s s35 := hS.comp st35 (by intro l hl hk; (try simp only [KC, KO, KU, KN, K0] at hk ⊢) <;> omega)
            replace ho0 := ho0.up2 st35
            replace hp2 := hp2.up2 st35
            replace h1 := h1.up2 st35
            refine k_move rfl rfl ?_
            refine k_extract rfl rfl rfl ?_
            refine k_extract rfl rfl rfl ?_
            refine k_assign rfl rfl ?_
            refine k_assign rfl rfl ?_
            refine k_nil ?_
            refine k_keep [(0, _), (1, _), (5, _), (6, _), (19, _), (20, _), (21, _), (22, _)] ⟨rfl, rfl, rfl, rfl, rfl, rfl, rfl, rfl, trivial⟩ ?_
            refine k_seq ?_
            refine k_region ?_
            refine k_move rfl rfl ?_
            refine k_move rfl rfl ?_
            refine k_eql rfl rfl rfl ?_
            refine k_move rfl rfl ?_
            have hE36 : Step K0 s35 s35 := (Step.refl _).of0 (by first | exact fun _ h => h | (intro c h; simp [KC, KO, KU, KN] at h <;> omega))
            refine k_cutl (X := St) 4 [(0, p0), (1, p1), (5, .pointer (some ⟨b1, 0, none⟩)), (6, .bool false), (19, .int .u64 (x17.1.toNat : Int)), (20, .int .i64 x17.2.1), (21, .int .u64 (x18.1.toNat : Int)), (22, .int .i64 x18.2.1), (133, .int .u64 (x17.1.toNat : Int)), (134, .int .u64 (x18.1.toNat : Int)), (135, .bool (decide ((x17.1.toNat : Int) = (x18.1.toNat : Int))))] (fun _ => [(140, .bool (decide (((x17.1.toNat : Int) = (x18.1.toNat : Int)) ∧ (x17.2.1 = x18.2.1))))]) (fun sl wL => sl.w = wL ∧ Step K0 s35 sl) ?_ ?_
            · -- the ways
              refine k_again 136 rfl ?_
              refine k_split (fun c37 => ?_) (fun c37 => ?_)
              · -- t136 True
                refine k_yes rfl rfl ?_
                refine k_move rfl rfl ?_
                refine k_yes rfl rfl ?_
                refine k_move rfl rfl ?_
                refine k_yes rfl rfl ?_
                refine k_eql rfl rfl rfl ?_
                refine k_pickT rfl rfl rfl rfl ?_
                exact k_met ⟨s35, ⟨(congrArg (fun b => some (Value.bool b)) (by first | exact decide_eq_decide.2 ⟨fun h => ⟨c37, h⟩, fun h => h.2⟩ | exact (decide_eq_false (fun h => c37 h.1)).symm | (simp [c37]; done) | (simp [c37, i64] <;> omega))), trivial⟩, ⟨rfl, rfl, rfl, rfl, rfl, rfl, rfl, rfl, rfl, rfl, rfl, trivial⟩, rfl, hE36⟩
              · -- t136 False
                refine k_no rfl rfl rfl rfl ?_
                refine k_no rfl rfl rfl rfl ?_
                refine k_no rfl rfl rfl rfl ?_
                refine k_pickF rfl rfl rfl rfl ?_
                exact k_met ⟨s35, ⟨(congrArg (fun b => some (Value.bool b)) (by first | exact decide_eq_decide.2 ⟨fun h => ⟨c37, h⟩, fun h => h.2⟩ | exact (decide_eq_false (fun h => c37 h.1)).symm | (simp [c37]; done) | (simp [c37, i64] <;> omega))), trivial⟩, ⟨rfl, rfl, rfl, rfl, rfl, rfl, rfl, rfl, rfl, rfl, rfl, trivial⟩, rfl, hE36⟩
            · -- behind
              rintro s38 wL ⟨rfl, hE36⟩
              have szs38 := hE36.size
              have hS : Step (KU (KO k0) (KO k1)) s s38 := hS.trans0 hE36
              replace ho0 := ho0.up2 hE36
              replace ho1 := ho1.up2 hE36
              replace hp2 := hp2.up2 hE36
              replace h1 := h1.up2 hE36
              refine k_assign rfl rfl ?_
              refine k_nil ?_
              refine k_keep [(0, _), (1, _), (5, _), (6, _)] ⟨rfl, rfl, rfl, rfl, trivial⟩ ?_
              refine k_ret ?_
              obtain rfl := Option.some.inj h
              refine ⟨_, rfl, Ret.mk hS ?_⟩
              exact ⟨rfl, ho0, ho1⟩
          · -- F
            have h := itF h c33
            refine k_skip ?_
            refine k_blk ?_
            exact k_stop ⟨s1, trivial, ⟨rfl, rfl, rfl, rfl, trivial⟩, ⟨rfl, hE2, h⟩⟩
  · -- behind
    rintro s39 wL ⟨rfl, hE2, h⟩
    rw [hK2] at h
    have szs39 := hE2.size
    have hS : Step (KU (KO k0) (KO k1)) s s39 := hS.trans0 hE2
    replace ho0 := ho0.up2 hE2
    replace ho1 := ho1.up2 hE2
    replace hp2 := hp2.up2 hE2
    replace h1 := h1.up2 hE2
    refine k_seq ?_
    refine k_region ?_
    refine k_move rfl rfl ?_
    refine k_field_addr fld32_3 rfl rfl ?_
    refine k_load_blk one30 rfl h1 rfl rfl ?_
    obtain ⟨x19, hx19, h⟩ := ob h
    refine k_call cal16 rfl (net_Net_At_own_w  ho0 hx19) rfl ?_
    rintro s40 vr40 st40 ⟨v40_0, l40_0, rfl, hl40_0, h40_0⟩
    have szs40 := st40.size
    have hS : Step (KU (KO k0) (KO k1)) s s40 := hS.trans0 st40
    replace ho0 := ho0.up2 st40
    replace ho1 := ho1.up2 st40
    replace hp2 := hp2.up2 st40
    replace h1 := h1.up2 st40
    obtain ⟨l40_0, hl40_0, h40_0⟩ := Own.anew 2400 h40_0 hl40_0 szs40
    have lt40_0 := Own.le1 h40_0
    refine k_move rfl rfl ?_
    refine k_extract rfl rfl rfl ?_
    refine k_extract rfl rfl rfl ?_
    refine k_alloc zero36 rfl ?_
    intro s41 b41 st41 h41 ge41
    have szs41 := st41.size
    have hS : Step (KU (KO k0) (KO k1)) s s41 := hS.trans0 st41
    replace ho0 := ho0.up2 st41
    replace ho1 := ho1.up2 st41
    replace hp2 := hp2.up2 st41
    replace h1 := h1.up2 st41
    replace h40_0 := h40_0.up2 st41
    have lt41 := h41.lt
    refine k_store_c (cs' := [.int .i64 x19.1.From, .int .i64 x19.1.To, v40_0]) size36 rfl rfl h41 (by first | (simp; done) | omega | (dsimp only; omega)) (CellsOf.lit (vs := [.int .i64 x19.1.From, .int .i64 x19.1.To, v40_0]) rfl (ones.cons rfl (ones.cons rfl (ones.cons ((h40_0.sl)).one1 ones.nil)))) rfl (by first | rfl | (simp; done) | (simp; omega)) rfl ?_
    intro s42 st42 h41
    have szs42 := st42.size
    have hS : Step (KU (KO k0) (KO k1)) s s42 := hS.comp st42 (by intro l hl hk; (try simp only [KC, KO, KU, KN, K0] at hk ⊢) <;> omega)
    replace ho0 := ho0.up2 st42
    replace ho1 := ho1.up2 st42
    replace hp2 := hp2.up2 st42
    replace h1 := h1.up2 st42
    replace h40_0 := h40_0.up2 st42
    refine k_assign rfl rfl ?_
    refine k_nil ?_
    refine k_keep [(1, _), (5, _), (6, _), (23, _), (24, _)] ⟨rfl, rfl, rfl, rfl, rfl, trivial⟩ ?_
    refine k_seq ?_
    refine k_region ?_
    refine k_move rfl rfl ?_
    refine k_field_addr fld32_3 rfl rfl ?_
    refine k_load_blk one30 rfl h1 rfl rfl ?_
    obtain ⟨x20, hx20, h⟩ := ob h
    refine k_call cal33 rfl (ref22_Net_At_w  ho1 hx20) rfl ?_
    rintro s43 vr43 st43 ⟨cs43_0, rfl, h43_0⟩
    have szs43 := st43.size
    have hS : Step (KU (KO k0) (KO k1)) s s43 := hS.trans0 st43
    replace ho0 := ho0.up2 st43
    replace ho1 := ho1.up2 st43
    replace hp2 := hp2.up2 st43
    replace h1 := h1.up2 st43
    replace h40_0 := h40_0.up2 st43
    replace h41 := h41.up2 st43
    obtain ⟨q43_0_0, rfl, hq43_0_0⟩ := opnApiMessage h43_0
    refine k_move rfl rfl ?_
    refine k_extract rfl rfl rfl ?_
    refine k_extract rfl rfl rfl ?_
    refine k_alloc zero36 rfl ?_
    intro s44 b44 st44 h44 ge44
    have szs44 := st44.size
    have hS : Step (KU (KO k0) (KO k1)) s s44 := hS.trans0 st44
    replace hq43_0_0 := hq43_0_0.up2 st44
    replace ho0 := ho0.up2 st44
    replace ho1 := ho1.up2 st44
    replace hp2 := hp2.up2 st44
    replace h1 := h1.up2 st44
    replace h40_0 := h40_0.up2 st44
    replace h41 := h41.up2 st44
    have lt44 := h44.lt
    refine k_store_c (cs' := [.int .i64 x20.1.From, .int .i64 x20.1.To, q43_0_0]) size36 rfl rfl h44 (by first | (simp; done) | omega | (dsimp only; omega)) (CellsOf.lit (vs := [.int .i64 x20.1.From, .int .i64 x20.1.To, q43_0_0]) rfl (ones.cons rfl (ones.cons rfl (ones.cons ((SL.of_R hq43_0_0)).one1 ones.nil)))) rfl (by first | rfl | (simp; done) | (simp; omega)) rfl ?_
    intro s45 st45 h44
    have szs45 := st45.size
    have hS : Step (KU (KO k0) (KO k1)) s s45 := hS.comp st45 (by intro l hl hk; (try simp only [KC, KO, KU, KN, K0] at hk ⊢) <;> omega)
    replace hq43_0_0 := hq43_0_0.up2 st45
    replace ho0 := ho0.up2 st45
    replace ho1 := ho1.up2 st45
    replace hp2 := hp2.up2 st45
    replace h1 := h1.up2 st45
    replace h40_0 := h40_0.up2 st45
    replace h41 := h41.up2 st45
    refine k_assign rfl rfl ?_
    refine k_nil ?_
    refine k_keep [(6, _), (23, _), (24, _), (25, _), (26, _)] ⟨rfl, rfl, rfl, rfl, rfl, trivial⟩ ?_
    refine k_seq ?_
    refine k_region ?_
    refine k_move rfl rfl ?_
    refine k_move rfl rfl ?_
    refine k_eql rfl rfl rfl ?_
    refine k_move rfl rfl ?_
    obtain ⟨x21, hx21, h⟩ := ob h
    have hE46 : Step K0 s45 s45 := (Step.refl _).of0 (by first | exact fun _ h => h | (intro c h; simp [KC, KO, KU, KN] at h <;> omega))
    refine k_cutl (X := St) 4 [(6, .bool false), (23, .pointer (some ⟨b41, 0, none⟩)), (24, .int .i64 x19.2), (25, .pointer (some ⟨b44, 0, none⟩)), (26, .int .i64 x20.2), (155, .int .i64 x19.2), (156, .int .i64 x20.2), (157, .bool (decide (x19.2 = x20.2)))] (fun _ => [(162, .bool x21)]) (fun sl wL => sl.w = wL ∧ Step K0 s45 sl) ?_ ?_
    · -- the ways
      refine k_again 158 rfl ?_
      refine k_split (fun c47 => ?_) (fun c47 => ?_)
      · -- t158 True
        have hx21 := itT hx21 c47
        refine k_yes rfl rfl ?_
        refine k_load_blka (cs := [.int .i64 x19.1.From, .int .i64 x19.1.To, v40_0]) agg36 rfl h41 rfl ?_
        refine k_yes rfl rfl ?_
        refine k_load_blka (cs := [.int .i64 x20.1.From, .int .i64 x20.1.To, q43_0_0]) agg36 rfl h44 rfl ?_
        refine k_yes rfl rfl ?_
        obtain ⟨x22, hx22, hx21⟩ := ob hx21
        refine k_call cal17 rfl (ref22_Same_w (a0 := x19.1) (a1 := x20.1) (h40_0.sl) (SL.of_R hq43_0_0) hx22) rfl ?_
        rintro s48 vr48 st48 rfl
        have szs48 := st48.size
        have hS : Step (KU (KO k0) (KO k1)) s s48 := hS.trans0 st48
        have hE46 : Step K0 s45 s48 := hE46.trans0 st48
        replace hq43_0_0 := hq43_0_0.up2 st48
        replace ho0 := ho0.up2 st48
        replace ho1 := ho1.up2 st48
        replace h40_0 := h40_0.up2 st48
        replace h41 := h41.up2 st48
        replace h44 := h44.up2 st48
        refine k_pickT rfl rfl rfl rfl ?_
        exact k_met ⟨s48, ⟨(congrArg (fun b => some (Value.bool b)) (Option.some.inj hx21)), trivial⟩, ⟨rfl, rfl, rfl, rfl, rfl, rfl, rfl, rfl, trivial⟩, rfl, hE46⟩
      · -- t158 False
        have hx21 := itF hx21 c47
        refine k_no rfl rfl rfl rfl ?_
        refine k_no rfl rfl rfl rfl ?_
        refine k_no rfl rfl rfl rfl ?_
        refine k_pickF rfl rfl rfl rfl ?_
        exact k_met ⟨s45, ⟨(congrArg (fun b => some (Value.bool b)) (Option.some.inj hx21)), trivial⟩, ⟨rfl, rfl, rfl, rfl, rfl, rfl, rfl, rfl, trivial⟩, rfl, hE46⟩
    · -- behind
      rintro s49 wL ⟨rfl, hE46⟩
      have szs49 := hE46.size
      have hS : Step (KU (KO k0) (KO k1)) s s49 := hS.trans0 hE46
      replace ho0 := ho0.up2 hE46
      replace ho1 := ho1.up2 hE46
      replace h40_0 := h40_0.up2 hE46
      replace h41 := h41.up2 hE46
      replace hq43_0_0 := hq43_0_0.up2 hE46
      replace h44 := h44.up2 hE46
      refine k_assign rfl rfl ?_
      refine k_nil ?_
      refine k_keep [(6, _), (23, _), (27, _)] ⟨rfl, rfl, rfl, trivial⟩ ?_
      refine k_seq ?_
      obtain ⟨kj23, hK50, h⟩ := jn_out h
      have hE50 : Step (KC l40_0.o l40_0.c) s49 s49 := (Step.refl _).of0 (by first | exact fun _ h => h | (intro c h; simp [KC, KO, KU, KN] at h <;> omega))
      refine k_cutc (X := St × (List UInt8)) [(6, .bool false), (27, .bool x21)] (fun (xL : St × (List UInt8)) => match xL with | (sl, x24) => []) (fun (xL : St × (List UInt8)) (wL : World) => match xL with | (sl, x24) => sl.w = wL ∧ Step (KC l40_0.o l40_0.c) s49 sl ∧ (Own sl ⟨l40_0.o, l40_0.c⟩ 5 1 v40_0 (x24.map bD)) ∧ kj23 x24 = some r) ?_ ?_
      · -- the ways
        refine k_seq ?_
        refine k_region ?_
        refine k_assign rfl rfl ?_
        refine k_nil ?_
        refine k_block ?_
        refine k_loopc (X := St × Int × (List UInt8) × Nat) [(6, _), (23, _), (27, _)] (fun (xL : St × Int × (List UInt8) × Nat) => match xL with | (sl, x25, x26, j) => [(28, .int .i64 x25)]) (fun (xL : St × Int × (List UInt8) × Nat) (wL : World) => match xL with | (sl, x25, x26, j) => sl.w = wL ∧ Step (KC l40_0.o l40_0.c) s49 sl ∧ (Own sl ⟨l40_0.o, l40_0.c⟩ 5 1 v40_0 (x26.map bD)) ∧ law22_call_l2 kj23 j x25 x26 = some r) (fun (xL : St × Int × (List UInt8) × Nat) => match xL with | (sl, x25, x26, j) => j) (s49, 0, x19.1.Bytes, FU) ⟨rfl, rfl, rfl, trivial⟩ ⟨(by first | rfl | (simp <;> rfl)), trivial⟩ ⟨rfl, (Step.refl _).of0 (by first | exact fun _ h => h | (intro c h; simp [KC, KO, KU, KN] at h <;> omega)), h40_0, h⟩ ?_
        rintro ⟨s52, x25, x26, j⟩ wL ⟨rfl, hE51, h40_0, h⟩
        cases j with
        | zero => rw [law22_call_l2] at h; exact (noneNe h).elim
        | succ j =>
        rw [law22_call_l2] at h
        have szs52 := hE51.size
        have hS : Step (KU (KO k0) (KO k1)) s s52 := hS.comp hE51 (by intro l hl hk; (try simp only [KC, KO, KU, KN, K0] at hk ⊢) <;> omega)
        have hE50 : Step (KC l40_0.o l40_0.c) s49 s52 := hE50.comp hE51 (by intro l hl hk; (try simp only [KC, KO, KU, KN, K0] at hk ⊢) <;> omega)
        replace ho0 := ho0.up2 hE51
        replace ho1 := ho1.up2 hE51
        replace h41 := h41.up2 hE51
        refine k_seq ?_
        refine k_seq ?_
        refine k_region ?_
        refine k_move rfl rfl ?_
        refine k_field_addr fld36_2 rfl rfl ?_
        refine k_load_blk one23 rfl h41 rfl rfl ?_
        refine k_len Try.underlying23 rfl (h40_0.sl).hasLen rfl ?_
        refine k_as (v := .int .i64 (x26.length : Int)) (by simp only [List.length_map]) ?_
        refine k_lss rfl rfl rfl ?_
        refine k_nil ?_
        refine k_keep [(6, _), (23, _), (27, _), (28, _), (167, _)] ⟨rfl, rfl, rfl, rfl, rfl, trivial⟩ ?_
        refine k_cond_dec rfl (fun c53 => ?_) (fun c53 => ?_)
        · -- T
          have h := itT h c53
          refine k_skip ?_
          refine k_seq ?_
          refine k_block ?_
          refine k_region ?_
          refine k_field_addr fld36_2 rfl rfl ?_
          refine k_load_blk one23 rfl h41 rfl rfl ?_
          refine k_move rfl rfl ?_
          obtain ⟨x27, hx27, h⟩ := ob h
          refine k_ixaddr_own Try.underlying23 size5 rfl rfl h40_0 (geti_out hx27).1 (geti_map hx27) rfl ?_
          intro qx27 hqx27 heqx27
          refine k_load_val one5 rfl hqx27 rfl ?_
          refine k_add rfl rfl rfl ?_
          refine k_as (congrArg (Value.int .u8) (w8 _)) ?_
          obtain ⟨x28, hx28, h⟩ := ob h
          refine k_ixaddr_own Try.underlying23 size5 rfl rfl h40_0 (geti_out hx28).1 (geti_map hx28) rfl ?_
          intro qx28 hqx28 heqx28
          refine k_store_elt (dd := bD (ofI8 ((x27.toNat : Int) + 1))) size5 rfl rfl h40_0 heqx28 (by rw [List.length_map]; exact (List.getElem?_eq_some_iff.1 (geti_out hx28).2.2).1) (R.val rfl) rfl ?_
          intro s54 st54 h40_0
          rw [← List.map_set] at h40_0
          have szs54 := st54.size
          have hS : Step (KU (KO k0) (KO k1)) s s54 := hS.comp st54 (by intro l hl hk; (try simp only [KC, KO, KU, KN, K0] at hk ⊢) <;> omega)
          have hE50 : Step (KC l40_0.o l40_0.c) s49 s54 := hE50.comp st54 (by intro l hl hk; (try simp only [KC, KO, KU, KN, K0] at hk ⊢) <;> omega)
          have hE51 : Step (KC l40_0.o l40_0.c) s49 s54 := hE51.comp st54 (by intro l hl hk; (try simp only [KC, KO, KU, KN, K0] at hk ⊢) <;> omega)
          replace ho0 := ho0.up2 st54
          replace ho1 := ho1.up2 st54
          replace h41 := h41.up2 st54
          refine k_nil ?_
          refine k_blk ?_
          refine k_region ?_
          refine k_move rfl rfl ?_
          refine k_add rfl rfl rfl ?_
          refine k_assign rfl rfl ?_
          refine k_nil ?_
          exact k_stop ⟨(s54, i64 (x25 + 1), x26.set (x25).toNat (ofI8 ((x27.toNat : Int) + 1)), j), ⟨(by first | rfl | (simp <;> rfl)), trivial⟩, ⟨rfl, rfl, rfl, trivial⟩, ⟨rfl, hE51, h40_0, h⟩, (by simp)⟩
        · -- F
          have h := itF h c53
          refine k_exit rfl ?_
          exact k_stop ⟨(s52, x26), trivial, ⟨rfl, rfl, trivial⟩, ⟨rfl, hE50, h40_0, h⟩⟩
      · -- behind
        rintro ⟨s55, x24⟩ wL ⟨rfl, hE50, h40_0, h⟩
        rw [hK50] at h
        have szs55 := hE50.size
        have hS : Step (KU (KO k0) (KO k1)) s s55 := hS.comp hE50 (by intro l hl hk; (try simp only [KC, KO, KU, KN, K0] at hk ⊢) <;> omega)
        replace ho0 := ho0.up2 hE50
        replace ho1 := ho1.up2 hE50
        refine k_seq ?_
        refine k_region ?_
        refine k_move rfl rfl ?_
        refine k_assign rfl rfl ?_
        refine k_nil ?_
        refine k_keep [(6, _)] ⟨rfl, trivial⟩ ?_
        refine k_ret ?_
        obtain rfl := Option.some.inj h
        refine ⟨_, rfl, Ret.mk hS ?_⟩
        exact ⟨rfl, ho0, ho1⟩

set_option maxHeartbeats 1000000 in
set_option maxRecDepth 100000 in
theorem ref22_Net_Letters_w {s : St} {k0 : Nat} {p0 : Value} {a0 : Ref22Net} {r : (List ApiLetter)} (ho0 : ORef22Net s k0 p0 a0) (h : ref22_Net_Letters a0 = some r) : Calls Try.prog 34 #[p0] s.w (Ret s K0 (fun s1 v => ∃ (u0 : Value), v = u0 ∧ R s1 u0 (.sl 4 (r.map dApiLetter)))) := by
  unfold ref22_Net_Letters at h
  have le0 := ho0.le
  have ne0 := ho0.ne
  obtain ⟨bo0, rfl⟩ := ho0.ptr
  obtain ⟨wo0_0, hb_o0, hwo0_0⟩ := ho0.at_
  have hS : Step K0 s s := (Step.refl _).of0 (by first | exact fun _ h => h | (intro c h; simp [KC, KO, KU, KN] at h <;> omega))
  refine k_fn (rs := [2]) (args := [.pointer (some ⟨bo0, 0, none⟩)]) Try.func34 rfl rfl rfl rfl ?_
  refine k_seq ?_
  refine k_region ?_
  refine k_assign rfl rfl ?_
  refine k_nil ?_
  refine k_seq ?_
  refine k_region ?_
  refine k_assign rfl rfl ?_
  refine k_nil ?_
  refine k_seq ?_
  obtain ⟨kj1, hK1, h⟩ := jn_out h
  have hE1 : Step K0 s s := (Step.refl _).of0 (by first | exact fun _ h => h | (intro c h; simp [KC, KO, KU, KN] at h <;> omega))
  refine k_cutc (X := St × (List ApiLetter) × Value) [(2, .slice none 0 0)] (fun (xL : St × (List ApiLetter) × Value) => match xL with | (sl, x2, v2) => [(3, v2)]) (fun (xL : St × (List ApiLetter) × Value) (wL : World) => match xL with | (sl, x2, v2) => sl.w = wL ∧ Step K0 s sl ∧ (Own sl ⟨s.n + 1, 3003⟩ 43 4 v2 (x2.map dApiLetter)) ∧ kj1 x2 = some r) ?_ ?_
  · -- the ways
    refine k_seq ?_
    refine k_region ?_
    refine k_assign rfl rfl ?_
    refine k_nil ?_
    refine k_block ?_
    have h3 : Own s ⟨s.n + 1, 3003⟩ 43 4 (.slice none 0 0) (([] : List ApiLetter).map dApiLetter) := Own.nil (by simp) (by simp)
    refine k_loopc (X := St × (List ApiLetter) × Value × Int × Nat) [(0, _), (2, _)] (fun (xL : St × (List ApiLetter) × Value × Int × Nat) => match xL with | (sl, x3, v5, x4, j) => [(3, v5), (4, .int .i64 x4)]) (fun (xL : St × (List ApiLetter) × Value × Int × Nat) (wL : World) => match xL with | (sl, x3, v5, x4, j) => sl.w = wL ∧ Step (KC (s.n + 1) 3003) s sl ∧ (Own sl ⟨s.n + 1, 3003⟩ 43 4 v5 (x3.map dApiLetter)) ∧ ref22_Net_Letters_l1 a0 kj1 j x3 x4 = some r) (fun (xL : St × (List ApiLetter) × Value × Int × Nat) => match xL with | (sl, x3, v5, x4, j) => j) (s, [], (.slice none 0 0), 0, FU) ⟨rfl, rfl, trivial⟩ ⟨(by first | rfl | (simp <;> rfl)), (by first | rfl | (simp <;> rfl)), trivial⟩ ⟨rfl, (Step.refl _).of0 (by first | exact fun _ h => h | (intro c h; simp [KC, KO, KU, KN] at h <;> omega)), h3, h⟩ ?_
    rintro ⟨s6, x3, v5, x4, j⟩ wL ⟨rfl, hE4, h5, h⟩
    cases j with
    | zero => rw [ref22_Net_Letters_l1] at h; exact (noneNe h).elim
    | succ j =>
    rw [ref22_Net_Letters_l1] at h
    have szs6 := hE4.size
    have hS : Step K0 s s6 := hS.comp hE4 (by intro l hl hk; (try simp only [KC, KO, KU, KN, K0] at hk ⊢) <;> omega)
    have hE1 : Step K0 s s6 := hE1.comp hE4 (by intro l hl hk; (try simp only [KC, KO, KU, KN, K0] at hk ⊢) <;> omega)
    replace hwo0_0 := hwo0_0.up2 hE4
    replace hb_o0 := hb_o0.up2 hE4
    refine k_seq ?_
    refine k_seq ?_
    refine k_region ?_
    refine k_move rfl rfl ?_
    refine k_move rfl rfl ?_
    refine k_nilCheck rfl rfl ?_
    refine k_field_addr fld58_1 rfl rfl ?_
    refine k_load_blk one56 rfl hb_o0 rfl rfl ?_
    refine k_len Try.underlying56 rfl (SL.of_R hwo0_0).hasLen rfl ?_
    refine k_as (v := .int .i64 (a0.All.length : Int)) (by simp only [List.length_map]) ?_
    refine k_lss rfl rfl rfl ?_
    refine k_nil ?_
    refine k_keep [(0, _), (2, _), (3, _), (4, _), (11, _)] ⟨rfl, rfl, rfl, rfl, rfl, trivial⟩ ?_
    refine k_cond_dec rfl (fun c7 => ?_) (fun c7 => ?_)
    · -- T
      have h := itT h c7
      refine k_skip ?_
      refine k_seq ?_
      refine k_block ?_
      refine k_seq ?_
      refine k_region ?_
      refine k_move rfl rfl ?_
      refine k_nilCheck rfl rfl ?_
      refine k_field_addr fld58_1 rfl rfl ?_
      refine k_load_blk one56 rfl hb_o0 rfl rfl ?_
      refine k_move rfl rfl ?_
      obtain ⟨x5, hx5, h⟩ := ob h
      refine k_ixaddr Try.underlying56 size81 rfl rfl (SL.of_R hwo0_0) (geti_out hx5).1 (geti_map hx5) rfl ?_
      intro qx5 hqx5
      refine k_field_at (o := 0) rfl hqx5 (by rfl) fld81_1 rfl ?_
      intro q8 h8
      refine k_load_val one4 rfl h8 rfl ?_
      refine k_not rfl rfl ?_
      refine k_nil ?_
      refine k_keep [(0, _), (2, _), (3, _), (4, _), (22, _)] ⟨rfl, rfl, rfl, rfl, rfl, trivial⟩ ?_
      refine k_cond rfl (fun c9 => ?_) (fun c9 => ?_)
      · -- T
        have h := ibT h c9
        refine k_keep [(0, _), (2, _), (3, _), (4, _)] ⟨rfl, rfl, rfl, rfl, trivial⟩ ?_
        refine k_drawT (KU (KN s6.n) (KC (s.n + 1) 3003)) 35 (.read 0 (.read 1 (.read 2 (.read 3 (.read 4 (.read 5 (.read 6 (.read 7 (.read 8 (.read 9 (.read 10 (.read 11 (.read 12 (.read 13 (.read 14 (.read 15 (.read 16 (.read 17 (.read 18 (.read 19 (.read 20 (.read 21 (.read 22 (.read 23 (.read 24 (.read 25 (.read 26 (.read 27 (.read 28 (.read 29 (.read 30 (.read 31 (.read 32 (.alt 33 (.alt 34 .fin .no) .no)))))))))))))))))))))))))))))))))) mixed (by intro c h; (try simp only [KC, KO, KU, KN] at h) <;> omega) rfl rfl rfl ?_
        intro s10 st10
        have szs10 := st10.size
        have hS : Step K0 s s10 := hS.trans0 st10
        have hE1 : Step K0 s s10 := hE1.trans0 st10
        have hE4 : Step (KC (s.n + 1) 3003) s s10 := hE4.trans0 st10
        replace hwo0_0 := hwo0_0.up2 st10
        replace hb_o0 := hb_o0.up2 st10
        replace h5 := h5.up2 st10
        refine rt_read (v5) rfl rfl (fun s11 st11 => ?_) ?_
        · try replace hwo0_0 := hwo0_0.up2 st11
          try replace hb_o0 := hb_o0.up2 st11
          try replace h5 := h5.up2 st11
          refine k_move rfl rfl ?_
          exact fq_end
        refine rt_read (.int .i64 x4) rfl rfl (fun s12 st12 => ?_) ?_
        · try replace hwo0_0 := hwo0_0.up2 st12
          try replace hb_o0 := hb_o0.up2 st12
          try replace h5 := h5.up2 st12
          refine k_move rfl rfl ?_
          exact fq_end
        refine rt_read (.int .i64 (i64 (x4 + 1))) rfl rfl (fun s13 st13 => ?_) ?_
        · try replace hwo0_0 := hwo0_0.up2 st13
          try replace hb_o0 := hb_o0.up2 st13
          try replace h5 := h5.up2 st13
          refine k_add rfl rfl rfl ?_
          exact fq_end
        refine rt_read (.int .u64 ((ofI64 (i64 (x4 + 1))).toNat : Int)) rfl rfl (fun s14 st14 => ?_) ?_
        · try replace hwo0_0 := hwo0_0.up2 st14
          try replace hb_o0 := hb_o0.up2 st14
          try replace h5 := h5.up2 st14
          refine k_conv (p := i64 (x4 + 1)) Try.underlying3 Try.underlying30 rfl rfl ?_
          refine k_as (congrArg (Value.int .u64) (w64 _)) ?_
          exact fq_end
        refine rt_read (.pointer (some ⟨bo0, 0, none⟩)) rfl rfl (fun s15 st15 => ?_) ?_
        · try replace hwo0_0 := hwo0_0.up2 st15
          try replace hb_o0 := hb_o0.up2 st15
          try replace h5 := h5.up2 st15
          refine k_move rfl rfl ?_
          exact fq_end
        refine rt_read (.pointer (some ⟨bo0, 0, none⟩)) rfl rfl (fun s16 st16 => ?_) ?_
        · try replace hwo0_0 := hwo0_0.up2 st16
          try replace hb_o0 := hb_o0.up2 st16
          try replace h5 := h5.up2 st16
          refine k_nilCheck rfl rfl ?_
          exact fq_end
        refine rt_read (.pointer (some ⟨bo0, 1, none⟩)) rfl rfl (fun s17 st17 => ?_) ?_
        · try replace hwo0_0 := hwo0_0.up2 st17
          try replace hb_o0 := hb_o0.up2 st17
          try replace h5 := h5.up2 st17
          refine k_field_addr fld58_1 rfl rfl ?_
          exact fq_end
        refine rt_read (wo0_0) rfl rfl (fun s18 st18 => ?_) ?_
        · try replace hwo0_0 := hwo0_0.up2 st18
          try replace hb_o0 := hb_o0.up2 st18
          try replace h5 := h5.up2 st18
          refine k_load_blk one56 rfl hb_o0 rfl rfl ?_
          exact fq_end
        refine rt_read (.int .i64 x4) rfl rfl (fun s19 st19 => ?_) ?_
        · try replace hwo0_0 := hwo0_0.up2 st19
          try replace hb_o0 := hb_o0.up2 st19
          try replace h5 := h5.up2 st19
          refine k_move rfl rfl ?_
          exact fq_end
        obtain ⟨x6, hx6, h⟩ := ob h
        refine rt_ix rfl (wanted_none rfl) Try.underlying56 size81 rfl rfl (SL.of_R hwo0_0) (geti_out hx6).1 (geti_map hx6) rfl ?_
        intro q20 hq20
        refine rt_fa rfl (wanted_none rfl) rfl hq20 (by rfl) fld81_0 rfl ?_
        intro q21 h21
        refine rt_fa rfl (wanted_none rfl) rfl h21 (by rfl) fld36_0 rfl ?_
        intro q22 h22
        refine rt_read (.int .i64 x6.M.From) rfl rfl (fun s23 st23 => ?_) ?_
        · try replace hwo0_0 := hwo0_0.up2 st23
          try replace hq20 := hq20.up2 st23
          try replace h21 := h21.up2 st23
          try replace h22 := h22.up2 st23
          try replace hb_o0 := hb_o0.up2 st23
          try replace h5 := h5.up2 st23
          refine k_load_val one3 rfl h22 rfl ?_
          exact fq_end
        refine rt_read (.pointer (some ⟨bo0, 0, none⟩)) rfl rfl (fun s24 st24 => ?_) ?_
        · try replace hwo0_0 := hwo0_0.up2 st24
          try replace hq20 := hq20.up2 st24
          try replace h21 := h21.up2 st24
          try replace h22 := h22.up2 st24
          try replace hb_o0 := hb_o0.up2 st24
          try replace h5 := h5.up2 st24
          refine k_move rfl rfl ?_
          exact fq_end
        refine rt_read (.pointer (some ⟨bo0, 0, none⟩)) rfl rfl (fun s25 st25 => ?_) ?_
        · try replace hwo0_0 := hwo0_0.up2 st25
          try replace hq20 := hq20.up2 st25
          try replace h21 := h21.up2 st25
          try replace h22 := h22.up2 st25
          try replace hb_o0 := hb_o0.up2 st25
          try replace h5 := h5.up2 st25
          refine k_nilCheck rfl rfl ?_
          exact fq_end
        refine rt_read (.pointer (some ⟨bo0, 1, none⟩)) rfl rfl (fun s26 st26 => ?_) ?_
        · try replace hwo0_0 := hwo0_0.up2 st26
          try replace hq20 := hq20.up2 st26
          try replace h21 := h21.up2 st26
          try replace h22 := h22.up2 st26
          try replace hb_o0 := hb_o0.up2 st26
          try replace h5 := h5.up2 st26
          refine k_field_addr fld58_1 rfl rfl ?_
          exact fq_end
        refine rt_read (wo0_0) rfl rfl (fun s27 st27 => ?_) ?_
        · try replace hwo0_0 := hwo0_0.up2 st27
          try replace hq20 := hq20.up2 st27
          try replace h21 := h21.up2 st27
          try replace h22 := h22.up2 st27
          try replace hb_o0 := hb_o0.up2 st27
          try replace h5 := h5.up2 st27
          refine k_load_blk one56 rfl hb_o0 rfl rfl ?_
          exact fq_end
        refine rt_read (.int .i64 x4) rfl rfl (fun s28 st28 => ?_) ?_
        · try replace hwo0_0 := hwo0_0.up2 st28
          try replace hq20 := hq20.up2 st28
          try replace h21 := h21.up2 st28
          try replace h22 := h22.up2 st28
          try replace hb_o0 := hb_o0.up2 st28
          try replace h5 := h5.up2 st28
          refine k_move rfl rfl ?_
          exact fq_end
        obtain ⟨x7, hx7, h⟩ := ob h
        refine rt_ix rfl (wanted_none rfl) Try.underlying56 size81 rfl rfl (SL.of_R hwo0_0) (geti_out hx7).1 (geti_map hx7) rfl ?_
        intro q29 hq29
        refine rt_fa rfl (wanted_none rfl) rfl hq29 (by rfl) fld81_0 rfl ?_
        intro q30 h30
        refine rt_fa rfl (wanted_none rfl) rfl h30 (by rfl) fld36_1 rfl ?_
        intro q31 h31
        refine rt_read (.int .i64 x7.M.To) rfl rfl (fun s32 st32 => ?_) ?_
        · try replace hwo0_0 := hwo0_0.up2 st32
          try replace hq20 := hq20.up2 st32
          try replace h21 := h21.up2 st32
          try replace h22 := h22.up2 st32
          try replace hq29 := hq29.up2 st32
          try replace h30 := h30.up2 st32
          try replace h31 := h31.up2 st32
          try replace hb_o0 := hb_o0.up2 st32
          try replace h5 := h5.up2 st32
          refine k_load_val one3 rfl h31 rfl ?_
          exact fq_end
        refine rt_read (.pointer (some ⟨bo0, 0, none⟩)) rfl rfl (fun s33 st33 => ?_) ?_
        · try replace hwo0_0 := hwo0_0.up2 st33
          try replace hq20 := hq20.up2 st33
          try replace h21 := h21.up2 st33
          try replace h22 := h22.up2 st33
          try replace hq29 := hq29.up2 st33
          try replace h30 := h30.up2 st33
          try replace h31 := h31.up2 st33
          try replace hb_o0 := hb_o0.up2 st33
          try replace h5 := h5.up2 st33
          refine k_move rfl rfl ?_
          exact fq_end
        refine rt_read (.pointer (some ⟨bo0, 0, none⟩)) rfl rfl (fun s34 st34 => ?_) ?_
        · try replace hwo0_0 := hwo0_0.up2 st34
          try replace hq20 := hq20.up2 st34
          try replace h21 := h21.up2 st34
          try replace h22 := h22.up2 st34
          try replace hq29 := hq29.up2 st34
          try replace h30 := h30.up2 st34
          try replace h31 := h31.up2 st34
          try replace hb_o0 := hb_o0.up2 st34
          try replace h5 := h5.up2 st34
          refine k_nilCheck rfl rfl ?_
          exact fq_end
        refine rt_read (.pointer (some ⟨bo0, 1, none⟩)) rfl rfl (fun s35 st35 => ?_) ?_
        · try replace hwo0_0 := hwo0_0.up2 st35
          try replace hq20 := hq20.up2 st35
          try replace h21 := h21.up2 st35
          try replace h22 := h22.up2 st35
          try replace hq29 := hq29.up2 st35
          try replace h30 := h30.up2 st35
          try replace h31 := h31.up2 st35
          try replace hb_o0 := hb_o0.up2 st35
          try replace h5 := h5.up2 st35
          refine k_field_addr fld58_1 rfl rfl ?_
          exact fq_end
        refine rt_read (wo0_0) rfl rfl (fun s36 st36 => ?_) ?_
        · try replace hwo0_0 := hwo0_0.up2 st36
          try replace hq20 := hq20.up2 st36
          try replace h21 := h21.up2 st36
          try replace h22 := h22.up2 st36
          try replace hq29 := hq29.up2 st36
          try replace h30 := h30.up2 st36
          try replace h31 := h31.up2 st36
          try replace hb_o0 := hb_o0.up2 st36
          try replace h5 := h5.up2 st36
          refine k_load_blk one56 rfl hb_o0 rfl rfl ?_
          exact fq_end
        refine rt_read (.int .i64 x4) rfl rfl (fun s37 st37 => ?_) ?_
        · try replace hwo0_0 := hwo0_0.up2 st37
          try replace hq20 := hq20.up2 st37
          try replace h21 := h21.up2 st37
          try replace h22 := h22.up2 st37
          try replace hq29 := hq29.up2 st37
          try replace h30 := h30.up2 st37
          try replace h31 := h31.up2 st37
          try replace hb_o0 := hb_o0.up2 st37
          try replace h5 := h5.up2 st37
          refine k_move rfl rfl ?_
          exact fq_end
        obtain ⟨x8, hx8, h⟩ := ob h
        refine rt_ix rfl (wanted_none rfl) Try.underlying56 size81 rfl rfl (SL.of_R hwo0_0) (geti_out hx8).1 (geti_map hx8) rfl ?_
        intro q38 hq38
        refine rt_fa rfl (wanted_none rfl) rfl hq38 (by rfl) fld81_0 rfl ?_
        intro q39 h39
        refine rt_fa rfl (wanted_none rfl) rfl h39 (by rfl) fld36_2 rfl ?_
        intro q40 h40
        refine rt_ldsl rfl (wanted_none rfl) one23 rfl h40 (by first | exact id | (simp only [KC, KO, KU, KN] <;> omega)) rfl ?_
        intro v41 h41
        refine rt_read (.int .i64 (x8.M.Bytes.length : Int)) rfl rfl (fun s42 st42 => ?_) ?_
        · try replace hwo0_0 := hwo0_0.up2 st42
          try replace hq20 := hq20.up2 st42
          try replace h21 := h21.up2 st42
          try replace h22 := h22.up2 st42
          try replace hq29 := hq29.up2 st42
          try replace h30 := h30.up2 st42
          try replace h31 := h31.up2 st42
          try replace hq38 := hq38.up2 st42
          try replace h39 := h39.up2 st42
          try replace h40 := h40.up2 st42
          try replace h41 := h41.up2 st42
          try replace hb_o0 := hb_o0.up2 st42
          try replace h5 := h5.up2 st42
          refine k_len Try.underlying23 rfl (SL.of_R h41).hasLen rfl ?_
          refine k_as (v := .int .i64 (x8.M.Bytes.length : Int)) (by simp only [List.length_map]) ?_
          exact fq_end
        refine rt_read (.agg #[.int .u64 ((ofI64 (i64 (x4 + 1))).toNat : Int), .int .i64 x6.M.From, .int .i64 x7.M.To, .int .i64 (x8.M.Bytes.length : Int)]) rfl rfl (fun s43 st43 => ?_) ?_
        · try replace hwo0_0 := hwo0_0.up2 st43
          try replace hq20 := hq20.up2 st43
          try replace h21 := h21.up2 st43
          try replace h22 := h22.up2 st43
          try replace hq29 := hq29.up2 st43
          try replace h30 := h30.up2 st43
          try replace h31 := h31.up2 st43
          try replace hq38 := hq38.up2 st43
          try replace h39 := h39.up2 st43
          try replace h40 := h40.up2 st43
          try replace h41 := h41.up2 st43
          try replace hb_o0 := hb_o0.up2 st43
          try replace h5 := h5.up2 st43
          refine k_build plc43 zero43 rfl (Parts.cons (CellsOf.lit rfl rfl).1 (Parts.cons (CellsOf.lit rfl rfl).1 (Parts.cons (CellsOf.lit rfl rfl).1 (Parts.cons (CellsOf.lit rfl rfl).1 Parts.nil)))) (by rfl) rfl ?_
          refine k_as (v := .agg #[.int .u64 ((ofI64 (i64 (x4 + 1))).toNat : Int), .int .i64 x6.M.From, .int .i64 x7.M.To, .int .i64 (x8.M.Bytes.length : Int)]) rfl ?_
          exact fq_end
        refine rt_act rfl rfl ?_
        have hA44 : Step (KU (KN s6.n) (KC (s.n + 1) 3003)) s10 s10 := (Step.refl _).of0 (by first | exact fun _ h => h | (intro c h; simp [KC, KO, KU, KN] at h <;> omega))
        refine k_bslice2 (ds := ([(⟨ofI64 (i64 (x4 + 1)), x6.M.From, x7.M.To, (x8.M.Bytes.length : Int)⟩ : ApiLetter)] : List ApiLetter).map dApiLetter) slc40 rfl (RVs.cons ⟨_, rfl, (clsApiLetter (⟨ofI64 (i64 (x4 + 1)), x6.M.From, x7.M.To, (x8.M.Bytes.length : Int)⟩ : ApiLetter))⟩ RVs.nil) (by rfl) (by rfl) rfl rfl ?_
        intro s45 v45 b45 st45 ge45 bl45 h45
        have szs45 := st45.size
        have hS : Step K0 s s45 := hS.trans0 st45
        have hE1 : Step K0 s s45 := hE1.trans0 st45
        have hE4 : Step (KC (s.n + 1) 3003) s s45 := hE4.trans0 st45
        have hA44 : Step (KU (KN s6.n) (KC (s.n + 1) 3003)) s10 s45 := hA44.trans0 st45
        replace hwo0_0 := hwo0_0.up2 st45
        replace hq20 := hq20.up2 st45
        replace h21 := h21.up2 st45
        replace h22 := h22.up2 st45
        replace hq29 := hq29.up2 st45
        replace h30 := h30.up2 st45
        replace h31 := h31.up2 st45
        replace hq38 := hq38.up2 st45
        replace h39 := h39.up2 st45
        replace h40 := h40.up2 st45
        replace h41 := h41.up2 st45
        replace hb_o0 := hb_o0.up2 st45
        replace h5 := h5.up2 st45
        have lt45 := Own.le1 h45
        refine rt_cont hA44 ?_
        refine rt_act rfl rfl ?_
        have hA46 : Step (KU (KN s6.n) (KC (s.n + 1) 3003)) s45 s45 := (Step.refl _).of0 (by first | exact fun _ h => h | (intro c h; simp [KC, KO, KU, KN] at h <;> omega))
        obtain ⟨x9, hx9, h⟩ := ob h
        refine k_append (es := ([(⟨ofI64 (i64 (x4 + 1)), x6.M.From, x7.M.To, (x8.M.Bytes.length : Int)⟩ : ApiLetter)] : List ApiLetter).map dApiLetter) elem40 rfl rfl h5 (h45.sl) (by have := (app_out hx9).1; simp only [List.length_map] at *; omega) (by have := (app_out hx9).1; simp only [List.length_map] at *; omega) rfl ?_
        intro s47 v47 st47 h47
        rw [← List.map_append, ← (app_out hx9).2] at h47
        have szs47 := st47.size
        have hS : Step K0 s s47 := hS.comp st47 (by intro l hl hk; (try simp only [KC, KO, KU, KN, K0] at hk ⊢) <;> omega)
        have hE1 : Step K0 s s47 := hE1.comp st47 (by intro l hl hk; (try simp only [KC, KO, KU, KN, K0] at hk ⊢) <;> omega)
        have hE4 : Step (KC (s.n + 1) 3003) s s47 := hE4.comp st47 (by intro l hl hk; (try simp only [KC, KO, KU, KN, K0] at hk ⊢) <;> omega)
        have hA46 : Step (KU (KN s6.n) (KC (s.n + 1) 3003)) s45 s47 := hA46.comp st47 (by intro l hl hk; (try simp only [KC, KO, KU, KN, K0] at hk ⊢) <;> omega)
        replace hwo0_0 := hwo0_0.up2 st47
        replace hq20 := hq20.up2 st47
        replace h21 := h21.up2 st47
        replace h22 := h22.up2 st47
        replace hq29 := hq29.up2 st47
        replace h30 := h30.up2 st47
        replace h31 := h31.up2 st47
        replace hq38 := hq38.up2 st47
        replace h39 := h39.up2 st47
        replace h40 := h40.up2 st47
        replace h41 := h41.up2 st47
        replace hb_o0 := hb_o0.up2 st47
        replace h45 := h45.up2 st47
        refine rt_cont hA46 ?_
        refine rt_fin ?_
        refine k_assign rfl rfl ?_
        refine k_nil ?_
        refine k_blk ?_
        refine k_region ?_
        refine k_move rfl rfl ?_
        refine k_add rfl rfl rfl ?_
        refine k_assign rfl rfl ?_
        refine k_nil ?_
        exact k_stop ⟨(s47, x9, v47, i64 (x4 + 1), j), ⟨(by first | rfl | (simp <;> rfl)), (by first | rfl | (simp <;> rfl)), trivial⟩, ⟨rfl, rfl, trivial⟩, ⟨rfl, hE4, h47, h⟩, (by simp)⟩
      · -- F
        have h := ibF h c9
        refine k_skip ?_
        refine k_blk ?_
        refine k_region ?_
        refine k_move rfl rfl ?_
        refine k_add rfl rfl rfl ?_
        refine k_assign rfl rfl ?_
        refine k_nil ?_
        exact k_stop ⟨(s6, x3, v5, i64 (x4 + 1), j), ⟨(by first | rfl | (simp <;> rfl)), (by first | rfl | (simp <;> rfl)), trivial⟩, ⟨rfl, rfl, trivial⟩, ⟨rfl, hE4, h5, h⟩, (by simp)⟩
    · -- F
      have h := itF h c7
      refine k_exit rfl ?_
      exact k_stop ⟨(s6, x3, v5), ⟨(by first | rfl | (simp <;> rfl)), trivial⟩, ⟨rfl, trivial⟩, ⟨rfl, hE1, h5, h⟩⟩
  · -- behind
    rintro ⟨s48, x2, v2⟩ wL ⟨rfl, hE1, h2, h⟩
    rw [hK1] at h
    have szs48 := hE1.size
    have hS : Step K0 s s48 := hS.trans0 hE1
    replace hwo0_0 := hwo0_0.up2 hE1
    replace hb_o0 := hb_o0.up2 hE1
    refine k_seq ?_
    refine k_region ?_
    refine k_move rfl rfl ?_
    refine k_assign rfl rfl ?_
    refine k_nil ?_
    refine k_keep [(2, _)] ⟨rfl, trivial⟩ ?_
    refine k_ret ?_
    obtain ⟨s49, e49, st49, h49⟩ := h2.freeze
    rw [← e49]
    have szs49 := st49.size
    have hS : Step K0 s s49 := hS.comp st49 (by intro l hl hk; (try simp only [KC, KO, KU, KN, K0] at hk ⊢) <;> omega)
    replace hwo0_0 := hwo0_0.up2 st49
    replace hb_o0 := hb_o0.up2 st49
    obtain rfl := Option.some.inj h
    refine ⟨_, rfl, Ret.mk hS ?_⟩
    exact ⟨_, rfl, h49⟩

set_option maxHeartbeats 1000000 in
set_option maxRecDepth 100000 in
theorem law22_shows_w {s : St} {k0 : Nat} {p0 : Value} {a0 : NetNet} {k1 : Nat} {p1 : Value} {a1 : Ref22Net} {r : Bool} (ho0 : ONetNet s k0 p0 a0) (ho1 : ORef22Net s k1 p1 a1) (h : law22_shows a0 a1 = some r) : Calls Try.prog 21 #[p0, p1] s.w (Ret s K0 (fun s1 v => v = .bool r)) := by
  unfold law22_shows at h
  have le0 := ho0.le
  have ne0 := ho0.ne
  have le1 := ho1.le
  have ne1 := ho1.ne
  obtain ⟨bo1, rfl⟩ := ho1.ptr
  obtain ⟨wo1_0, hb_o1, hwo1_0⟩ := ho1.at_
  have hS : Step K0 s s := (Step.refl _).of0 (by first | exact fun _ h => h | (intro c h; simp [KC, KO, KU, KN] at h <;> omega))
  refine k_fn (rs := [4]) (args := [p0, .pointer (some ⟨bo1, 0, none⟩)]) Try.func21 rfl rfl rfl rfl ?_
  refine k_seq ?_
  refine k_region ?_
  refine k_assign rfl rfl ?_
  refine k_nil ?_
  refine k_seq ?_
  refine k_region ?_
  refine k_move rfl rfl ?_
  obtain ⟨x1, hx1, h⟩ := ob h
  refine k_call cal14 rfl (net_Net_Letters_w  ho0 hx1) rfl ?_
  rintro s1 v1_0 st1 ⟨_, rfl, h1_0⟩
  have szs1 := st1.size
  have hS : Step K0 s s1 := hS.trans0 st1
  replace ho0 := ho0.up2 st1
  replace hwo1_0 := hwo1_0.up2 st1
  replace hb_o1 := hb_o1.up2 st1
  refine k_move rfl rfl ?_
  obtain ⟨x2, hx2, h⟩ := ob h
  refine k_call cal34 rfl (ref22_Net_Letters_w  (ORef22Net.mk_ a1 (by omega) hwo1_0 hb_o1) hx2) rfl ?_
  rintro s2 v2_0 st2 ⟨_, rfl, h2_0⟩
  have szs2 := st2.size
  have hS : Step K0 s s2 := hS.trans0 st2
  replace h1_0 := h1_0.up2 st2
  replace ho0 := ho0.up2 st2
  replace hwo1_0 := hwo1_0.up2 st2
  replace hb_o1 := hb_o1.up2 st2
  refine k_assign rfl rfl ?_
  refine k_assign rfl rfl ?_
  refine k_nil ?_
  refine k_keep [(0, _), (1, _), (4, _), (5, _), (6, _)] ⟨rfl, rfl, rfl, rfl, rfl, trivial⟩ ?_
  refine k_seq ?_
  refine k_seq ?_
  refine k_drawT (KN s2.n) 21 (.read 0 (.read 1 (.read 2 (.read 3 (.read 4 (.read 5 (.read 6 (.read 8 (.read 9 (.alt 7 (.read 10 (.read 11 (.read 12 (.read 13 (.read 15 (.read 16 (.read 17 (.read 18 (.alt 14 (.read 19 (.read 20 .fin)) .no))))))))) .no)))))))))) mixed (by intro c h; (try simp only [KC, KO, KU, KN] at h) <;> omega) rfl rfl rfl ?_
  intro s3 st3
  have szs3 := st3.size
  have hS : Step K0 s s3 := hS.trans0 st3
  replace h1_0 := h1_0.up2 st3
  replace h2_0 := h2_0.up2 st3
  replace ho0 := ho0.up2 st3
  replace hwo1_0 := hwo1_0.up2 st3
  replace hb_o1 := hb_o1.up2 st3
  refine rt_read (v1_0) rfl rfl (fun s4 st4 => ?_) ?_
  · try replace h1_0 := h1_0.up2 st4
    try replace h2_0 := h2_0.up2 st4
    try replace ho0 := ho0.up2 st4
    try replace hwo1_0 := hwo1_0.up2 st4
    try replace hb_o1 := hb_o1.up2 st4
    refine k_move rfl rfl ?_
    exact fq_end
  refine rt_read (.int .i64 (x1.length : Int)) rfl rfl (fun s5 st5 => ?_) ?_
  · try replace h1_0 := h1_0.up2 st5
    try replace h2_0 := h2_0.up2 st5
    try replace ho0 := ho0.up2 st5
    try replace hwo1_0 := hwo1_0.up2 st5
    try replace hb_o1 := hb_o1.up2 st5
    refine k_len Try.underlying40 rfl (SL.of_R h1_0).hasLen rfl ?_
    refine k_as (v := .int .i64 (x1.length : Int)) (by simp only [List.length_map]) ?_
    exact fq_end
  refine rt_read (v2_0) rfl rfl (fun s6 st6 => ?_) ?_
  · try replace h1_0 := h1_0.up2 st6
    try replace h2_0 := h2_0.up2 st6
    try replace ho0 := ho0.up2 st6
    try replace hwo1_0 := hwo1_0.up2 st6
    try replace hb_o1 := hb_o1.up2 st6
    refine k_move rfl rfl ?_
    exact fq_end
  refine rt_read (.int .i64 (x2.length : Int)) rfl rfl (fun s7 st7 => ?_) ?_
  · try replace h1_0 := h1_0.up2 st7
    try replace h2_0 := h2_0.up2 st7
    try replace ho0 := ho0.up2 st7
    try replace hwo1_0 := hwo1_0.up2 st7
    try replace hb_o1 := hb_o1.up2 st7
    refine k_len Try.underlying40 rfl (SL.of_R h2_0).hasLen rfl ?_
    refine k_as (v := .int .i64 (x2.length : Int)) (by simp only [List.length_map]) ?_
    exact fq_end
  refine rt_read (.bool (decide ((x1.length : Int) ≠ (x2.length : Int)))) rfl rfl (fun s8 st8 => ?_) ?_
  · try replace h1_0 := h1_0.up2 st8
    try replace h2_0 := h2_0.up2 st8
    try replace ho0 := ho0.up2 st8
    try replace hwo1_0 := hwo1_0.up2 st8
    try replace hb_o1 := hb_o1.up2 st8
    refine k_neq rfl rfl rfl ?_
    exact fq_end
  refine rt_read (.bool (decide ((x1.length : Int) ≠ (x2.length : Int)))) rfl rfl (fun s9 st9 => ?_) ?_
  · try replace h1_0 := h1_0.up2 st9
    try replace h2_0 := h2_0.up2 st9
    try replace ho0 := ho0.up2 st9
    try replace hwo1_0 := hwo1_0.up2 st9
    try replace hb_o1 := hb_o1.up2 st9
    refine k_move rfl rfl ?_
    exact fq_end
  refine rt_split (fun c10 => ?_) (fun c10 => ?_)
  · -- t21 True
    have h := itT h c10
    refine rt_read undef rfl rfl (fun s11 st11 => ?_) ?_
    · refine k_no rfl rfl rfl rfl ?_
      exact fq_end
    refine rt_read undef rfl rfl (fun s12 st12 => ?_) ?_
    · refine k_no rfl rfl rfl rfl ?_
      exact fq_end
    refine rt_read undef rfl rfl (fun s13 st13 => ?_) ?_
    · refine k_no rfl rfl rfl rfl ?_
      exact fq_end
    refine rt_act rfl rfl ?_
    refine k_no rfl rfl rfl rfl ?_
    refine rt_cont ((Step.refl _).of0 (by first | exact fun _ h => h | (intro c h; simp [KC, KO, KU, KN] at h <;> omega))) ?_
    refine rt_read undef rfl rfl (fun s14 st14 => ?_) ?_
    · refine k_no rfl rfl rfl rfl ?_
      exact fq_end
    refine rt_read (.bool true) rfl rfl (fun s15 st15 => ?_) ?_
    · try replace h1_0 := h1_0.up2 st15
      try replace h2_0 := h2_0.up2 st15
      try replace ho0 := ho0.up2 st15
      try replace hwo1_0 := hwo1_0.up2 st15
      try replace hb_o1 := hb_o1.up2 st15
      refine k_pickT rfl rfl rfl rfl ?_
      exact fq_end
    refine rt_read (.bool true) rfl rfl (fun s16 st16 => ?_) ?_
    · try replace h1_0 := h1_0.up2 st16
      try replace h2_0 := h2_0.up2 st16
      try replace ho0 := ho0.up2 st16
      try replace hwo1_0 := hwo1_0.up2 st16
      try replace hb_o1 := hb_o1.up2 st16
      refine k_move rfl rfl ?_
      exact fq_end
    refine rt_read undef rfl rfl (fun s17 st17 => ?_) ?_
    · refine k_no rfl rfl rfl rfl ?_
      exact fq_end
    refine rt_read undef rfl rfl (fun s18 st18 => ?_) ?_
    · refine k_no rfl rfl rfl rfl ?_
      exact fq_end
    refine rt_read undef rfl rfl (fun s19 st19 => ?_) ?_
    · refine k_no rfl rfl rfl rfl ?_
      exact fq_end
    refine rt_read undef rfl rfl (fun s20 st20 => ?_) ?_
    · refine k_no rfl rfl rfl rfl ?_
      exact fq_end
    refine rt_read undef rfl rfl (fun s21 st21 => ?_) ?_
    · refine k_no rfl rfl rfl rfl ?_
      exact fq_end
    refine rt_act rfl rfl ?_
    refine k_no rfl rfl rfl rfl ?_
    refine rt_cont ((Step.refl _).of0 (by first | exact fun _ h => h | (intro c h; simp [KC, KO, KU, KN] at h <;> omega))) ?_
    refine rt_read undef rfl rfl (fun s22 st22 => ?_) ?_
    · refine k_no rfl rfl rfl rfl ?_
      exact fq_end
    refine rt_read (.bool true) rfl rfl (fun s23 st23 => ?_) ?_
    · try replace h1_0 := h1_0.up2 st23
      try replace h2_0 := h2_0.up2 st23
      try replace ho0 := ho0.up2 st23
      try replace hwo1_0 := hwo1_0.up2 st23
      try replace hb_o1 := hb_o1.up2 st23
      refine k_pickT rfl rfl rfl rfl ?_
      exact fq_end
    refine rt_fin ?_
    refine k_nil ?_
    refine k_keep [(0, _), (1, _), (4, _), (5, _), (6, _), (36, _)] ⟨rfl, rfl, rfl, rfl, rfl, rfl, trivial⟩ ?_
    refine k_cond_true rfl ?_
    refine k_seq ?_
    refine k_region ?_
    refine k_assign rfl rfl ?_
    refine k_nil ?_
    refine k_keep [(0, _), (1, _), (4, _), (5, _), (6, _)] ⟨rfl, rfl, rfl, rfl, rfl, trivial⟩ ?_
    refine k_ret ?_
    obtain rfl := Option.some.inj h
    refine ⟨_, rfl, Ret.mk hS ?_⟩
    exact rfl
  · -- t21 False
    have h := itF h c10
    refine rt_read (p0) rfl rfl (fun s24 st24 => ?_) ?_
    · try replace h1_0 := h1_0.up2 st24
      try replace h2_0 := h2_0.up2 st24
      try replace ho0 := ho0.up2 st24
      try replace hwo1_0 := hwo1_0.up2 st24
      try replace hb_o1 := hb_o1.up2 st24
      refine k_yes rfl rfl ?_
      refine k_move rfl rfl ?_
      exact fq_end
    refine rt_read (v2_0) rfl rfl (fun s25 st25 => ?_) ?_
    · try replace h1_0 := h1_0.up2 st25
      try replace h2_0 := h2_0.up2 st25
      try replace ho0 := ho0.up2 st25
      try replace hwo1_0 := hwo1_0.up2 st25
      try replace hb_o1 := hb_o1.up2 st25
      refine k_yes rfl rfl ?_
      refine k_move rfl rfl ?_
      exact fq_end
    refine rt_read (.int .i64 (x2.length : Int)) rfl rfl (fun s26 st26 => ?_) ?_
    · try replace h1_0 := h1_0.up2 st26
      try replace h2_0 := h2_0.up2 st26
      try replace ho0 := ho0.up2 st26
      try replace hwo1_0 := hwo1_0.up2 st26
      try replace hb_o1 := hb_o1.up2 st26
      refine k_yes rfl rfl ?_
      refine k_len Try.underlying40 rfl (SL.of_R h2_0).hasLen rfl ?_
      refine k_as (v := .int .i64 (x2.length : Int)) (by simp only [List.length_map]) ?_
      exact fq_end
    refine rt_act rfl rfl ?_
    refine k_yes rfl rfl ?_
    have hA27 : Step (KN s2.n) s3 s3 := (Step.refl _).of0 (by first | exact fun _ h => h | (intro c h; simp [KC, KO, KU, KN] at h <;> omega))
    obtain ⟨x3, hx3, h⟩ := ob h
    refine k_call cal18 rfl (net_Net_Count_w  ho0 hx3) rfl ?_
    rintro s28 vr28 st28 rfl
    have szs28 := st28.size
    have hS : Step K0 s s28 := hS.trans0 st28
    have hA27 : Step (KN s2.n) s3 s28 := hA27.trans0 st28
    replace h1_0 := h1_0.up2 st28
    replace h2_0 := h2_0.up2 st28
    replace ho0 := ho0.up2 st28
    replace hwo1_0 := hwo1_0.up2 st28
    replace hb_o1 := hb_o1.up2 st28
    refine rt_cont hA27 ?_
    refine rt_read (.bool (decide (x3 ≠ (x2.length : Int)))) rfl rfl (fun s29 st29 => ?_) ?_
    · try replace h1_0 := h1_0.up2 st29
      try replace h2_0 := h2_0.up2 st29
      try replace ho0 := ho0.up2 st29
      try replace hwo1_0 := hwo1_0.up2 st29
      try replace hb_o1 := hb_o1.up2 st29
      refine k_yes rfl rfl ?_
      refine k_neq rfl rfl rfl ?_
      exact fq_end
    refine rt_read (.bool (decide (x3 ≠ (x2.length : Int)))) rfl rfl (fun s30 st30 => ?_) ?_
    · try replace h1_0 := h1_0.up2 st30
      try replace h2_0 := h2_0.up2 st30
      try replace ho0 := ho0.up2 st30
      try replace hwo1_0 := hwo1_0.up2 st30
      try replace hb_o1 := hb_o1.up2 st30
      refine k_pickF rfl rfl rfl rfl ?_
      exact fq_end
    refine rt_read (.bool (decide (x3 ≠ (x2.length : Int)))) rfl rfl (fun s31 st31 => ?_) ?_
    · try replace h1_0 := h1_0.up2 st31
      try replace h2_0 := h2_0.up2 st31
      try replace ho0 := ho0.up2 st31
      try replace hwo1_0 := hwo1_0.up2 st31
      try replace hb_o1 := hb_o1.up2 st31
      refine k_move rfl rfl ?_
      exact fq_end
    refine rt_split (fun c32 => ?_) (fun c32 => ?_)
    · -- t28 True
      have h := itT h c32
      refine rt_read undef rfl rfl (fun s33 st33 => ?_) ?_
      · refine k_no rfl rfl rfl rfl ?_
        exact fq_end
      refine rt_read undef rfl rfl (fun s34 st34 => ?_) ?_
      · refine k_no rfl rfl rfl rfl ?_
        exact fq_end
      refine rt_read undef rfl rfl (fun s35 st35 => ?_) ?_
      · refine k_no rfl rfl rfl rfl ?_
        exact fq_end
      refine rt_read undef rfl rfl (fun s36 st36 => ?_) ?_
      · refine k_no rfl rfl rfl rfl ?_
        exact fq_end
      refine rt_read undef rfl rfl (fun s37 st37 => ?_) ?_
      · refine k_no rfl rfl rfl rfl ?_
        exact fq_end
      refine rt_act rfl rfl ?_
      refine k_no rfl rfl rfl rfl ?_
      refine rt_cont ((Step.refl _).of0 (by first | exact fun _ h => h | (intro c h; simp [KC, KO, KU, KN] at h <;> omega))) ?_
      refine rt_read undef rfl rfl (fun s38 st38 => ?_) ?_
      · refine k_no rfl rfl rfl rfl ?_
        exact fq_end
      refine rt_read (.bool true) rfl rfl (fun s39 st39 => ?_) ?_
      · try replace h1_0 := h1_0.up2 st39
        try replace h2_0 := h2_0.up2 st39
        try replace ho0 := ho0.up2 st39
        try replace hwo1_0 := hwo1_0.up2 st39
        try replace hb_o1 := hb_o1.up2 st39
        refine k_pickT rfl rfl rfl rfl ?_
        exact fq_end
      refine rt_fin ?_
      refine k_nil ?_
      refine k_keep [(0, _), (1, _), (4, _), (5, _), (6, _), (36, _)] ⟨rfl, rfl, rfl, rfl, rfl, rfl, trivial⟩ ?_
      refine k_cond_true rfl ?_
      refine k_seq ?_
      refine k_region ?_
      refine k_assign rfl rfl ?_
      refine k_nil ?_
      refine k_keep [(0, _), (1, _), (4, _), (5, _), (6, _)] ⟨rfl, rfl, rfl, rfl, rfl, trivial⟩ ?_
      refine k_ret ?_
      obtain rfl := Option.some.inj h
      refine ⟨_, rfl, Ret.mk hS ?_⟩
      exact rfl
    · -- t28 False
      have h := itF h c32
      refine rt_read (p0) rfl rfl (fun s40 st40 => ?_) ?_
      · try replace h1_0 := h1_0.up2 st40
        try replace h2_0 := h2_0.up2 st40
        try replace ho0 := ho0.up2 st40
        try replace hwo1_0 := hwo1_0.up2 st40
        try replace hb_o1 := hb_o1.up2 st40
        refine k_yes rfl rfl ?_
        refine k_move rfl rfl ?_
        exact fq_end
      refine rt_read (.pointer (some ⟨bo1, 0, none⟩)) rfl rfl (fun s41 st41 => ?_) ?_
      · try replace h1_0 := h1_0.up2 st41
        try replace h2_0 := h2_0.up2 st41
        try replace ho0 := ho0.up2 st41
        try replace hwo1_0 := hwo1_0.up2 st41
        try replace hb_o1 := hb_o1.up2 st41
        refine k_yes rfl rfl ?_
        refine k_move rfl rfl ?_
        exact fq_end
      refine rt_read (.pointer (some ⟨bo1, 0, none⟩)) rfl rfl (fun s42 st42 => ?_) ?_
      · try replace h1_0 := h1_0.up2 st42
        try replace h2_0 := h2_0.up2 st42
        try replace ho0 := ho0.up2 st42
        try replace hwo1_0 := hwo1_0.up2 st42
        try replace hb_o1 := hb_o1.up2 st42
        refine k_yes rfl rfl ?_
        refine k_nilCheck rfl rfl ?_
        exact fq_end
      refine rt_read (.pointer (some ⟨bo1, 0, none⟩)) rfl rfl (fun s43 st43 => ?_) ?_
      · try replace h1_0 := h1_0.up2 st43
        try replace h2_0 := h2_0.up2 st43
        try replace ho0 := ho0.up2 st43
        try replace hwo1_0 := hwo1_0.up2 st43
        try replace hb_o1 := hb_o1.up2 st43
        refine k_yes rfl rfl ?_
        refine k_field_addr fld58_0 rfl rfl ?_
        exact fq_end
      refine rt_read (.int .i64 a1.Replicas) rfl rfl (fun s44 st44 => ?_) ?_
      · try replace h1_0 := h1_0.up2 st44
        try replace h2_0 := h2_0.up2 st44
        try replace ho0 := ho0.up2 st44
        try replace hwo1_0 := hwo1_0.up2 st44
        try replace hb_o1 := hb_o1.up2 st44
        refine k_yes rfl rfl ?_
        refine k_load_blk one3 rfl hb_o1 rfl rfl ?_
        exact fq_end
      refine rt_act rfl rfl ?_
      refine k_yes rfl rfl ?_
      have hA45 : Step (KN s2.n) s28 s28 := (Step.refl _).of0 (by first | exact fun _ h => h | (intro c h; simp [KC, KO, KU, KN] at h <;> omega))
      obtain ⟨x4, hx4, h⟩ := ob h
      refine k_call cal23 rfl (net_Net_Replicas_w  ho0 hx4) rfl ?_
      rintro s46 vr46 st46 rfl
      have szs46 := st46.size
      have hS : Step K0 s s46 := hS.trans0 st46
      have hA45 : Step (KN s2.n) s28 s46 := hA45.trans0 st46
      replace h1_0 := h1_0.up2 st46
      replace h2_0 := h2_0.up2 st46
      replace ho0 := ho0.up2 st46
      replace hwo1_0 := hwo1_0.up2 st46
      replace hb_o1 := hb_o1.up2 st46
      refine rt_cont hA45 ?_
      refine rt_read (.bool (decide (x4 ≠ a1.Replicas))) rfl rfl (fun s47 st47 => ?_) ?_
      · try replace h1_0 := h1_0.up2 st47
        try replace h2_0 := h2_0.up2 st47
        try replace ho0 := ho0.up2 st47
        try replace hwo1_0 := hwo1_0.up2 st47
        try replace hb_o1 := hb_o1.up2 st47
        refine k_yes rfl rfl ?_
        refine k_neq rfl rfl rfl ?_
        exact fq_end
      refine rt_read (.bool (decide (x4 ≠ a1.Replicas))) rfl rfl (fun s48 st48 => ?_) ?_
      · try replace h1_0 := h1_0.up2 st48
        try replace h2_0 := h2_0.up2 st48
        try replace ho0 := ho0.up2 st48
        try replace hwo1_0 := hwo1_0.up2 st48
        try replace hb_o1 := hb_o1.up2 st48
        refine k_pickF rfl rfl rfl rfl ?_
        exact fq_end
      refine rt_fin ?_
      refine k_nil ?_
      refine k_keep [(0, _), (1, _), (4, _), (5, _), (6, _), (36, _)] ⟨rfl, rfl, rfl, rfl, rfl, rfl, trivial⟩ ?_
      refine k_cond_dec rfl (fun c49 => ?_) (fun c49 => ?_)
      · -- T
        have h := itT h c49
        refine k_seq ?_
        refine k_region ?_
        refine k_assign rfl rfl ?_
        refine k_nil ?_
        refine k_keep [(0, _), (1, _), (4, _), (5, _), (6, _)] ⟨rfl, rfl, rfl, rfl, rfl, trivial⟩ ?_
        refine k_ret ?_
        obtain rfl := Option.some.inj h
        refine ⟨_, rfl, Ret.mk hS ?_⟩
        exact rfl
      · -- F
        have h := itF h c49
        refine k_skip ?_
        refine k_seq ?_
        refine k_keep [(0, _), (1, _), (4, _), (5, _), (6, _)] ⟨rfl, rfl, rfl, rfl, rfl, trivial⟩ ?_
        obtain ⟨kj5, hK50, h⟩ := jn_out h
        have hE50 : Step K0 s46 s46 := (Step.refl _).of0 (by first | exact fun _ h => h | (intro c h; simp [KC, KO, KU, KN] at h <;> omega))
        refine k_cutc (X := St) [(4, .bool false)] (fun (xL : St) => match xL with | sl => []) (fun (xL : St) (wL : World) => match xL with | sl => sl.w = wL ∧ Step K0 s46 sl ∧ kj5 () = some r) ?_ ?_
        · -- the ways
          refine k_seq ?_
          refine k_region ?_
          refine k_assign rfl rfl ?_
          refine k_nil ?_
          refine k_block ?_
          refine k_loopc (X := St × Int × Nat) [(0, _), (1, _), (4, _), (5, _), (6, _)] (fun (xL : St × Int × Nat) => match xL with | (sl, x6, j) => [(7, .int .i64 x6)]) (fun (xL : St × Int × Nat) (wL : World) => match xL with | (sl, x6, j) => sl.w = wL ∧ Step K0 s46 sl ∧ law22_shows_l1 x1 a0 x2 a1 kj5 j x6 = some r) (fun (xL : St × Int × Nat) => match xL with | (sl, x6, j) => j) (s46, 0, FU) ⟨rfl, rfl, rfl, rfl, rfl, trivial⟩ ⟨(by first | rfl | (simp <;> rfl)), trivial⟩ ⟨rfl, (Step.refl _).of0 (by first | exact fun _ h => h | (intro c h; simp [KC, KO, KU, KN] at h <;> omega)), h⟩ ?_
          rintro ⟨s52, x6, j⟩ wL ⟨rfl, hE51, h⟩
          cases j with
          | zero => rw [law22_shows_l1] at h; exact (noneNe h).elim
          | succ j =>
          rw [law22_shows_l1] at h
          have szs52 := hE51.size
          have hS : Step K0 s s52 := hS.trans0 hE51
          have hE50 : Step K0 s46 s52 := hE50.trans0 hE51
          replace h1_0 := h1_0.up2 hE51
          replace h2_0 := h2_0.up2 hE51
          replace ho0 := ho0.up2 hE51
          replace hwo1_0 := hwo1_0.up2 hE51
          replace hb_o1 := hb_o1.up2 hE51
          refine k_seq ?_
          refine k_seq ?_
          refine k_region ?_
          refine k_move rfl rfl ?_
          refine k_move rfl rfl ?_
          refine k_len Try.underlying40 rfl (SL.of_R h1_0).hasLen rfl ?_
          refine k_as (v := .int .i64 (x1.length : Int)) (by simp only [List.length_map]) ?_
          refine k_lss rfl rfl rfl ?_
          refine k_nil ?_
          refine k_keep [(0, _), (1, _), (4, _), (5, _), (6, _), (7, _), (40, _)] ⟨rfl, rfl, rfl, rfl, rfl, rfl, rfl, trivial⟩ ?_
          refine k_cond_dec rfl (fun c53 => ?_) (fun c53 => ?_)
          · -- T
            have h := itT h c53
            refine k_skip ?_
            refine k_seq ?_
            refine k_block ?_
            refine k_seq ?_
            refine k_region ?_
            refine k_move rfl rfl ?_
            refine k_move rfl rfl ?_
            refine k_move rfl rfl ?_
            obtain ⟨x7, hx7, h⟩ := ob h
            refine k_ixaddr Try.underlying40 size43 rfl rfl (SL.of_R h1_0) (geti_out hx7).1 (geti_map hx7) rfl ?_
            intro qx7 hqx7
            refine k_field_at (o := 0) rfl hqx7 (by rfl) fld43_0 rfl ?_
            intro q54 h54
            refine k_load_val one30 rfl h54 rfl ?_
            obtain ⟨x8, hx8, h⟩ := ob h
            refine k_call cal16 rfl (net_Net_At_w  ho0 hx8) rfl ?_
            rintro s55 vr55 st55 ⟨cs55_0, rfl, h55_0⟩
            have szs55 := st55.size
            have hS : Step K0 s s55 := hS.trans0 st55
            have hE50 : Step K0 s46 s55 := hE50.trans0 st55
            have hE51 : Step K0 s46 s55 := hE51.trans0 st55
            replace h1_0 := h1_0.up2 st55
            replace h2_0 := h2_0.up2 st55
            replace hqx7 := hqx7.up2 st55
            replace h54 := h54.up2 st55
            replace ho0 := ho0.up2 st55
            replace hwo1_0 := hwo1_0.up2 st55
            replace hb_o1 := hb_o1.up2 st55
            obtain ⟨q55_0_0, rfl, hq55_0_0⟩ := opnApiMessage h55_0
            refine k_move rfl rfl ?_
            refine k_extract rfl rfl rfl ?_
            refine k_extract rfl rfl rfl ?_
            refine k_alloc zero36 rfl ?_
            intro s56 b56 st56 h56 ge56
            have szs56 := st56.size
            have hS : Step K0 s s56 := hS.trans0 st56
            have hE50 : Step K0 s46 s56 := hE50.trans0 st56
            have hE51 : Step K0 s46 s56 := hE51.trans0 st56
            replace h1_0 := h1_0.up2 st56
            replace h2_0 := h2_0.up2 st56
            replace hqx7 := hqx7.up2 st56
            replace h54 := h54.up2 st56
            replace hq55_0_0 := hq55_0_0.up2 st56
            replace ho0 := ho0.up2 st56
            replace hwo1_0 := hwo1_0.up2 st56
            replace hb_o1 := hb_o1.up2 st56
            have lt56 := h56.lt
            refine k_store_c (cs' := [.int .i64 x8.1.From, .int .i64 x8.1.To, q55_0_0]) size36 rfl rfl h56 (by first | (simp; done) | omega | (dsimp only; omega)) (CellsOf.lit (vs := [.int .i64 x8.1.From, .int .i64 x8.1.To, q55_0_0]) rfl (ones.cons rfl (ones.cons rfl (ones.cons ((SL.of_R hq55_0_0)).one1 ones.nil)))) rfl (by first | rfl | (simp; done) | (simp; omega)) rfl ?_
            intro s57 st57 h56
            have szs57 := st57.size
            have hS : Step K0 s s57 := hS.comp st57 (by intro l hl hk; (try simp only [KC, KO, KU, KN, K0] at hk ⊢) <;> omega)
            have hE50 : Step K0 s46 s57 := hE50.comp st57 (by intro l hl hk; (try simp only [KC, KO, KU, KN, K0] at hk ⊢) <;> omega)
            have hE51 : Step K0 s46 s57 := hE51.comp st57 (by intro l hl hk; (try simp only [KC, KO, KU, KN, K0] at hk ⊢) <;> omega)
            replace h1_0 := h1_0.up2 st57
            replace h2_0 := h2_0.up2 st57
            replace hqx7 := hqx7.up2 st57
            replace h54 := h54.up2 st57
            replace hq55_0_0 := hq55_0_0.up2 st57
            replace ho0 := ho0.up2 st57
            replace hwo1_0 := hwo1_0.up2 st57
            replace hb_o1 := hb_o1.up2 st57
            refine k_assign rfl rfl ?_
            refine k_nil ?_
            refine k_keep [(0, _), (1, _), (4, _), (5, _), (6, _), (7, _), (8, _), (9, _)] ⟨rfl, rfl, rfl, rfl, rfl, rfl, rfl, rfl, trivial⟩ ?_
            refine k_seq ?_
            refine k_region ?_
            refine k_move rfl rfl ?_
            refine k_move rfl rfl ?_
            refine k_move rfl rfl ?_
            obtain ⟨x9, hx9, h⟩ := ob h
            refine k_ixaddr Try.underlying40 size43 rfl rfl (SL.of_R h2_0) (geti_out hx9).1 (geti_map hx9) rfl ?_
            intro qx9 hqx9
            refine k_field_at (o := 0) rfl hqx9 (by rfl) fld43_0 rfl ?_
            intro q58 h58
            refine k_load_val one30 rfl h58 rfl ?_
            obtain ⟨x10, hx10, h⟩ := ob h
            refine k_call cal33 rfl (ref22_Net_At_w  (ORef22Net.mk_ a1 (by omega) hwo1_0 hb_o1) hx10) rfl ?_
            rintro s59 vr59 st59 ⟨cs59_0, rfl, h59_0⟩
            have szs59 := st59.size
            have hS : Step K0 s s59 := hS.trans0 st59
            have hE50 : Step K0 s46 s59 := hE50.trans0 st59
            have hE51 : Step K0 s46 s59 := hE51.trans0 st59
            replace h1_0 := h1_0.up2 st59
            replace h2_0 := h2_0.up2 st59
            replace hqx9 := hqx9.up2 st59
            replace h58 := h58.up2 st59
            replace ho0 := ho0.up2 st59
            replace hwo1_0 := hwo1_0.up2 st59
            replace hb_o1 := hb_o1.up2 st59
            replace hq55_0_0 := hq55_0_0.up2 st59
            replace h56 := h56.up2 st59
            obtain ⟨q59_0_0, rfl, hq59_0_0⟩ := opnApiMessage h59_0
            refine k_move rfl rfl ?_
            refine k_extract rfl rfl rfl ?_
            refine k_extract rfl rfl rfl ?_
            refine k_alloc zero36 rfl ?_
            intro s60 b60 st60 h60 ge60
            have szs60 := st60.size
            have hS : Step K0 s s60 := hS.trans0 st60
            have hE50 : Step K0 s46 s60 := hE50.trans0 st60
            have hE51 : Step K0 s46 s60 := hE51.trans0 st60
            replace h1_0 := h1_0.up2 st60
            replace h2_0 := h2_0.up2 st60
            replace hqx9 := hqx9.up2 st60
            replace h58 := h58.up2 st60
            replace hq59_0_0 := hq59_0_0.up2 st60
            replace ho0 := ho0.up2 st60
            replace hwo1_0 := hwo1_0.up2 st60
            replace hb_o1 := hb_o1.up2 st60
            replace hq55_0_0 := hq55_0_0.up2 st60
            replace h56 := h56.up2 st60
            have lt60 := h60.lt
            refine k_store_c (cs' := [.int .i64 x10.1.From, .int .i64 x10.1.To, q59_0_0]) size36 rfl rfl h60 (by first | (simp; done) | omega | (dsimp only; omega)) (CellsOf.lit (vs := [.int .i64 x10.1.From, .int .i64 x10.1.To, q59_0_0]) rfl (ones.cons rfl (ones.cons rfl (ones.cons ((SL.of_R hq59_0_0)).one1 ones.nil)))) rfl (by first | rfl | (simp; done) | (simp; omega)) rfl ?_
            intro s61 st61 h60
            have szs61 := st61.size
            have hS : Step K0 s s61 := hS.comp st61 (by intro l hl hk; (try simp only [KC, KO, KU, KN, K0] at hk ⊢) <;> omega)
            have hE50 : Step K0 s46 s61 := hE50.comp st61 (by intro l hl hk; (try simp only [KC, KO, KU, KN, K0] at hk ⊢) <;> omega)
            have hE51 : Step K0 s46 s61 := hE51.comp st61 (by intro l hl hk; (try simp only [KC, KO, KU, KN, K0] at hk ⊢) <;> omega)
            replace h1_0 := h1_0.up2 st61
            replace h2_0 := h2_0.up2 st61
            replace hqx9 := hqx9.up2 st61
            replace h58 := h58.up2 st61
            replace hq59_0_0 := hq59_0_0.up2 st61
            replace ho0 := ho0.up2 st61
            replace hwo1_0 := hwo1_0.up2 st61
            replace hb_o1 := hb_o1.up2 st61
            replace hq55_0_0 := hq55_0_0.up2 st61
            replace h56 := h56.up2 st61
            refine k_assign rfl rfl ?_
            refine k_nil ?_
            refine k_keep [(0, _), (1, _), (4, _), (5, _), (6, _), (7, _), (8, _), (9, _), (10, _)] ⟨rfl, rfl, rfl, rfl, rfl, rfl, rfl, rfl, rfl, trivial⟩ ?_
            refine k_seq ?_
            refine k_drawT (KN s61.n) 19 (.read 0 (.read 1 (.read 2 (.read 3 (.read 4 (.read 5 (.read 6 (.read 7 (.read 8 (.read 9 (.read 10 (.read 11 (.read 12 (.read 13 (.read 14 (.read 15 (.alt 16 (.read 17 (.read 18 .fin)) .no))))))))))))))))) mixed (by intro c h; (try simp only [KC, KO, KU, KN] at h) <;> omega) rfl rfl rfl ?_
            intro s62 st62
            have szs62 := st62.size
            have hS : Step K0 s s62 := hS.trans0 st62
            have hE50 : Step K0 s46 s62 := hE50.trans0 st62
            have hE51 : Step K0 s46 s62 := hE51.trans0 st62
            replace h1_0 := h1_0.up2 st62
            replace h2_0 := h2_0.up2 st62
            replace ho0 := ho0.up2 st62
            replace hwo1_0 := hwo1_0.up2 st62
            replace hb_o1 := hb_o1.up2 st62
            replace hq55_0_0 := hq55_0_0.up2 st62
            replace h56 := h56.up2 st62
            replace hq59_0_0 := hq59_0_0.up2 st62
            replace h60 := h60.up2 st62
            refine rt_read (v1_0) rfl rfl (fun s63 st63 => ?_) ?_
            · try replace h1_0 := h1_0.up2 st63
              try replace h2_0 := h2_0.up2 st63
              try replace ho0 := ho0.up2 st63
              try replace hwo1_0 := hwo1_0.up2 st63
              try replace hb_o1 := hb_o1.up2 st63
              try replace hq55_0_0 := hq55_0_0.up2 st63
              try replace h56 := h56.up2 st63
              try replace hq59_0_0 := hq59_0_0.up2 st63
              try replace h60 := h60.up2 st63
              refine k_move rfl rfl ?_
              exact fq_end
            refine rt_read (.int .i64 x6) rfl rfl (fun s64 st64 => ?_) ?_
            · try replace h1_0 := h1_0.up2 st64
              try replace h2_0 := h2_0.up2 st64
              try replace ho0 := ho0.up2 st64
              try replace hwo1_0 := hwo1_0.up2 st64
              try replace hb_o1 := hb_o1.up2 st64
              try replace hq55_0_0 := hq55_0_0.up2 st64
              try replace h56 := h56.up2 st64
              try replace hq59_0_0 := hq59_0_0.up2 st64
              try replace h60 := h60.up2 st64
              refine k_move rfl rfl ?_
              exact fq_end
            obtain ⟨x11, hx11, h⟩ := ob h
            refine rt_ix rfl (wanted_none rfl) Try.underlying40 size43 rfl rfl (SL.of_R h1_0) (geti_out hx11).1 (geti_map hx11) rfl ?_
            intro q65 hq65
            refine rt_read (.agg #[.int .u64 (x11.Id.toNat : Int), .int .i64 x11.From, .int .i64 x11.To, .int .i64 x11.Size]) rfl rfl (fun s66 st66 => ?_) ?_
            · try replace h1_0 := h1_0.up2 st66
              try replace h2_0 := h2_0.up2 st66
              try replace hq65 := hq65.up2 st66
              try replace ho0 := ho0.up2 st66
              try replace hwo1_0 := hwo1_0.up2 st66
              try replace hb_o1 := hb_o1.up2 st66
              try replace hq55_0_0 := hq55_0_0.up2 st66
              try replace h56 := h56.up2 st66
              try replace hq59_0_0 := hq59_0_0.up2 st66
              try replace h60 := h60.up2 st66
              refine k_load_agg (by exact agg43) rfl hq65 rfl ?_
              intro cs67 h67
              obtain rfl := opnApiLetter h67
              exact fq_end
            refine rt_read (v2_0) rfl rfl (fun s68 st68 => ?_) ?_
            · try replace h1_0 := h1_0.up2 st68
              try replace h2_0 := h2_0.up2 st68
              try replace hq65 := hq65.up2 st68
              try replace ho0 := ho0.up2 st68
              try replace hwo1_0 := hwo1_0.up2 st68
              try replace hb_o1 := hb_o1.up2 st68
              try replace hq55_0_0 := hq55_0_0.up2 st68
              try replace h56 := h56.up2 st68
              try replace hq59_0_0 := hq59_0_0.up2 st68
              try replace h60 := h60.up2 st68
              refine k_move rfl rfl ?_
              exact fq_end
            refine rt_read (.int .i64 x6) rfl rfl (fun s69 st69 => ?_) ?_
            · try replace h1_0 := h1_0.up2 st69
              try replace h2_0 := h2_0.up2 st69
              try replace hq65 := hq65.up2 st69
              try replace ho0 := ho0.up2 st69
              try replace hwo1_0 := hwo1_0.up2 st69
              try replace hb_o1 := hb_o1.up2 st69
              try replace hq55_0_0 := hq55_0_0.up2 st69
              try replace h56 := h56.up2 st69
              try replace hq59_0_0 := hq59_0_0.up2 st69
              try replace h60 := h60.up2 st69
              refine k_move rfl rfl ?_
              exact fq_end
            obtain ⟨x12, hx12, h⟩ := ob h
            refine rt_ix rfl (wanted_none rfl) Try.underlying40 size43 rfl rfl (SL.of_R h2_0) (geti_out hx12).1 (geti_map hx12) rfl ?_
            intro q70 hq70
            refine rt_read (.agg #[.int .u64 (x12.Id.toNat : Int), .int .i64 x12.From, .int .i64 x12.To, .int .i64 x12.Size]) rfl rfl (fun s71 st71 => ?_) ?_
            · try replace h1_0 := h1_0.up2 st71
              try replace h2_0 := h2_0.up2 st71
              try replace hq65 := hq65.up2 st71
              try replace hq70 := hq70.up2 st71
              try replace ho0 := ho0.up2 st71
              try replace hwo1_0 := hwo1_0.up2 st71
              try replace hb_o1 := hb_o1.up2 st71
              try replace hq55_0_0 := hq55_0_0.up2 st71
              try replace h56 := h56.up2 st71
              try replace hq59_0_0 := hq59_0_0.up2 st71
              try replace h60 := h60.up2 st71
              refine k_load_agg (by exact agg43) rfl hq70 rfl ?_
              intro cs72 h72
              obtain rfl := opnApiLetter h72
              exact fq_end
            refine rt_read (.bool (decide (¬ (((x11.Id.toNat : Int) = (x12.Id.toNat : Int)) ∧ (x11.From = x12.From) ∧ (x11.To = x12.To) ∧ (x11.Size = x12.Size))))) rfl rfl (fun s73 st73 => ?_) ?_
            · try replace h1_0 := h1_0.up2 st73
              try replace h2_0 := h2_0.up2 st73
              try replace hq65 := hq65.up2 st73
              try replace hq70 := hq70.up2 st73
              try replace ho0 := ho0.up2 st73
              try replace hwo1_0 := hwo1_0.up2 st73
              try replace hb_o1 := hb_o1.up2 st73
              try replace hq55_0_0 := hq55_0_0.up2 st73
              try replace h56 := h56.up2 st73
              try replace hq59_0_0 := hq59_0_0.up2 st73
              try replace h60 := h60.up2 st73
              refine k_neq_flat (vs := [.int .u64 (x11.Id.toNat : Int), .int .i64 x11.From, .int .i64 x11.To, .int .i64 x11.Size]) (us := [.int .u64 (x12.Id.toNat : Int), .int .i64 x12.From, .int .i64 x12.To, .int .i64 x12.Size]) (p := ((x11.Id.toNat : Int) = (x12.Id.toNat : Int)) ∧ (x11.From = x12.From) ∧ (x11.To = x12.To) ∧ (x11.Size = x12.Size)) (flat43 _ _ _ _ _ _ _ _) rfl rfl (by simp [eqvs, eqv]) rfl ?_
              exact fq_end
            refine rt_read (.bool (decide (¬ (((x11.Id.toNat : Int) = (x12.Id.toNat : Int)) ∧ (x11.From = x12.From) ∧ (x11.To = x12.To) ∧ (x11.Size = x12.Size))))) rfl rfl (fun s74 st74 => ?_) ?_
            · try replace h1_0 := h1_0.up2 st74
              try replace h2_0 := h2_0.up2 st74
              try replace hq65 := hq65.up2 st74
              try replace hq70 := hq70.up2 st74
              try replace ho0 := ho0.up2 st74
              try replace hwo1_0 := hwo1_0.up2 st74
              try replace hb_o1 := hb_o1.up2 st74
              try replace hq55_0_0 := hq55_0_0.up2 st74
              try replace h56 := h56.up2 st74
              try replace hq59_0_0 := hq59_0_0.up2 st74
              try replace h60 := h60.up2 st74
              refine k_move rfl rfl ?_
              exact fq_end
            refine rt_split (fun c75 => ?_) (fun c75 => ?_)
            · -- t72 True
              have h := itT h c75
              refine rt_read undef rfl rfl (fun s76 st76 => ?_) ?_
              · refine k_no rfl rfl rfl rfl ?_
                exact fq_end
              refine rt_read undef rfl rfl (fun s77 st77 => ?_) ?_
              · refine k_no rfl rfl rfl rfl ?_
                exact fq_end
              refine rt_read (.bool true) rfl rfl (fun s78 st78 => ?_) ?_
              · try replace h1_0 := h1_0.up2 st78
                try replace h2_0 := h2_0.up2 st78
                try replace hq65 := hq65.up2 st78
                try replace hq70 := hq70.up2 st78
                try replace ho0 := ho0.up2 st78
                try replace hwo1_0 := hwo1_0.up2 st78
                try replace hb_o1 := hb_o1.up2 st78
                try replace hq55_0_0 := hq55_0_0.up2 st78
                try replace h56 := h56.up2 st78
                try replace hq59_0_0 := hq59_0_0.up2 st78
                try replace h60 := h60.up2 st78
                refine k_pickT rfl rfl rfl rfl ?_
                exact fq_end
              refine rt_read (.bool true) rfl rfl (fun s79 st79 => ?_) ?_
              · try replace h1_0 := h1_0.up2 st79
                try replace h2_0 := h2_0.up2 st79
                try replace hq65 := hq65.up2 st79
                try replace hq70 := hq70.up2 st79
                try replace ho0 := ho0.up2 st79
                try replace hwo1_0 := hwo1_0.up2 st79
                try replace hb_o1 := hb_o1.up2 st79
                try replace hq55_0_0 := hq55_0_0.up2 st79
                try replace h56 := h56.up2 st79
                try replace hq59_0_0 := hq59_0_0.up2 st79
                try replace h60 := h60.up2 st79
                refine k_move rfl rfl ?_
                exact fq_end
              refine rt_read undef rfl rfl (fun s80 st80 => ?_) ?_
              · refine k_no rfl rfl rfl rfl ?_
                exact fq_end
              refine rt_read undef rfl rfl (fun s81 st81 => ?_) ?_
              · refine k_no rfl rfl rfl rfl ?_
                exact fq_end
              refine rt_act rfl rfl ?_
              refine k_no rfl rfl rfl rfl ?_
              refine rt_cont ((Step.refl _).of0 (by first | exact fun _ h => h | (intro c h; simp [KC, KO, KU, KN] at h <;> omega))) ?_
              refine rt_read undef rfl rfl (fun s82 st82 => ?_) ?_
              · refine k_no rfl rfl rfl rfl ?_
                exact fq_end
              refine rt_read (.bool true) rfl rfl (fun s83 st83 => ?_) ?_
              · try replace h1_0 := h1_0.up2 st83
                try replace h2_0 := h2_0.up2 st83
                try replace hq65 := hq65.up2 st83
                try replace hq70 := hq70.up2 st83
                try replace ho0 := ho0.up2 st83
                try replace hwo1_0 := hwo1_0.up2 st83
                try replace hb_o1 := hb_o1.up2 st83
                try replace hq55_0_0 := hq55_0_0.up2 st83
                try replace h56 := h56.up2 st83
                try replace hq59_0_0 := hq59_0_0.up2 st83
                try replace h60 := h60.up2 st83
                refine k_pickT rfl rfl rfl rfl ?_
                exact fq_end
              refine rt_fin ?_
              refine k_nil ?_
              refine k_keep [(0, _), (1, _), (4, _), (5, _), (6, _), (7, _), (81, _)] ⟨rfl, rfl, rfl, rfl, rfl, rfl, rfl, trivial⟩ ?_
              refine k_cond_true rfl ?_
              refine k_seq ?_
              refine k_region ?_
              refine k_assign rfl rfl ?_
              refine k_nil ?_
              refine k_keep [(0, _), (1, _), (4, _), (5, _), (6, _), (7, _)] ⟨rfl, rfl, rfl, rfl, rfl, rfl, trivial⟩ ?_
              refine k_ret ?_
              obtain rfl := Option.some.inj h
              refine ⟨_, rfl, Ret.mk hS ?_⟩
              exact rfl
            · -- t72 False
              have h := itF h c75
              refine rt_read (.int .i64 x8.2) rfl rfl (fun s84 st84 => ?_) ?_
              · try replace h1_0 := h1_0.up2 st84
                try replace h2_0 := h2_0.up2 st84
                try replace hq65 := hq65.up2 st84
                try replace hq70 := hq70.up2 st84
                try replace ho0 := ho0.up2 st84
                try replace hwo1_0 := hwo1_0.up2 st84
                try replace hb_o1 := hb_o1.up2 st84
                try replace hq55_0_0 := hq55_0_0.up2 st84
                try replace h56 := h56.up2 st84
                try replace hq59_0_0 := hq59_0_0.up2 st84
                try replace h60 := h60.up2 st84
                refine k_yes rfl rfl ?_
                refine k_move rfl rfl ?_
                exact fq_end
              refine rt_read (.bool (decide (x8.2 ≠ 0))) rfl rfl (fun s85 st85 => ?_) ?_
              · try replace h1_0 := h1_0.up2 st85
                try replace h2_0 := h2_0.up2 st85
                try replace hq65 := hq65.up2 st85
                try replace hq70 := hq70.up2 st85
                try replace ho0 := ho0.up2 st85
                try replace hwo1_0 := hwo1_0.up2 st85
                try replace hb_o1 := hb_o1.up2 st85
                try replace hq55_0_0 := hq55_0_0.up2 st85
                try replace h56 := h56.up2 st85
                try replace hq59_0_0 := hq59_0_0.up2 st85
                try replace h60 := h60.up2 st85
                refine k_yes rfl rfl ?_
                refine k_neq rfl rfl rfl ?_
                exact fq_end
              refine rt_read (.bool (decide (x8.2 ≠ 0))) rfl rfl (fun s86 st86 => ?_) ?_
              · try replace h1_0 := h1_0.up2 st86
                try replace h2_0 := h2_0.up2 st86
                try replace hq65 := hq65.up2 st86
                try replace hq70 := hq70.up2 st86
                try replace ho0 := ho0.up2 st86
                try replace hwo1_0 := hwo1_0.up2 st86
                try replace hb_o1 := hb_o1.up2 st86
                try replace hq55_0_0 := hq55_0_0.up2 st86
                try replace h56 := h56.up2 st86
                try replace hq59_0_0 := hq59_0_0.up2 st86
                try replace h60 := h60.up2 st86
                refine k_pickF rfl rfl rfl rfl ?_
                exact fq_end
              refine rt_read (.bool (decide (x8.2 ≠ 0))) rfl rfl (fun s87 st87 => ?_) ?_
              · try replace h1_0 := h1_0.up2 st87
                try replace h2_0 := h2_0.up2 st87
                try replace hq65 := hq65.up2 st87
                try replace hq70 := hq70.up2 st87
                try replace ho0 := ho0.up2 st87
                try replace hwo1_0 := hwo1_0.up2 st87
                try replace hb_o1 := hb_o1.up2 st87
                try replace hq55_0_0 := hq55_0_0.up2 st87
                try replace h56 := h56.up2 st87
                try replace hq59_0_0 := hq59_0_0.up2 st87
                try replace h60 := h60.up2 st87
                refine k_move rfl rfl ?_
                exact fq_end
              refine rt_split (fun c88 => ?_) (fun c88 => ?_)
              · -- t76 True
                have h := itT h c88
                refine rt_read undef rfl rfl (fun s89 st89 => ?_) ?_
                · refine k_no rfl rfl rfl rfl ?_
                  exact fq_end
                refine rt_read undef rfl rfl (fun s90 st90 => ?_) ?_
                · refine k_no rfl rfl rfl rfl ?_
                  exact fq_end
                refine rt_act rfl rfl ?_
                refine k_no rfl rfl rfl rfl ?_
                refine rt_cont ((Step.refl _).of0 (by first | exact fun _ h => h | (intro c h; simp [KC, KO, KU, KN] at h <;> omega))) ?_
                refine rt_read undef rfl rfl (fun s91 st91 => ?_) ?_
                · refine k_no rfl rfl rfl rfl ?_
                  exact fq_end
                refine rt_read (.bool true) rfl rfl (fun s92 st92 => ?_) ?_
                · try replace h1_0 := h1_0.up2 st92
                  try replace h2_0 := h2_0.up2 st92
                  try replace hq65 := hq65.up2 st92
                  try replace hq70 := hq70.up2 st92
                  try replace ho0 := ho0.up2 st92
                  try replace hwo1_0 := hwo1_0.up2 st92
                  try replace hb_o1 := hb_o1.up2 st92
                  try replace hq55_0_0 := hq55_0_0.up2 st92
                  try replace h56 := h56.up2 st92
                  try replace hq59_0_0 := hq59_0_0.up2 st92
                  try replace h60 := h60.up2 st92
                  refine k_pickT rfl rfl rfl rfl ?_
                  exact fq_end
                refine rt_fin ?_
                refine k_nil ?_
                refine k_keep [(0, _), (1, _), (4, _), (5, _), (6, _), (7, _), (81, _)] ⟨rfl, rfl, rfl, rfl, rfl, rfl, rfl, trivial⟩ ?_
                refine k_cond_true rfl ?_
                refine k_seq ?_
                refine k_region ?_
                refine k_assign rfl rfl ?_
                refine k_nil ?_
                refine k_keep [(0, _), (1, _), (4, _), (5, _), (6, _), (7, _)] ⟨rfl, rfl, rfl, rfl, rfl, rfl, trivial⟩ ?_
                refine k_ret ?_
                obtain rfl := Option.some.inj h
                refine ⟨_, rfl, Ret.mk hS ?_⟩
                exact rfl
              · -- t76 False
                have h := itF h c88
                refine rt_read (.agg #[.int .i64 x8.1.From, .int .i64 x8.1.To, q55_0_0]) rfl rfl (fun s93 st93 => ?_) ?_
                · try replace h1_0 := h1_0.up2 st93
                  try replace h2_0 := h2_0.up2 st93
                  try replace hq65 := hq65.up2 st93
                  try replace hq70 := hq70.up2 st93
                  try replace ho0 := ho0.up2 st93
                  try replace hwo1_0 := hwo1_0.up2 st93
                  try replace hb_o1 := hb_o1.up2 st93
                  try replace hq55_0_0 := hq55_0_0.up2 st93
                  try replace h56 := h56.up2 st93
                  try replace hq59_0_0 := hq59_0_0.up2 st93
                  try replace h60 := h60.up2 st93
                  refine k_yes rfl rfl ?_
                  refine k_load_blka (cs := [.int .i64 x8.1.From, .int .i64 x8.1.To, q55_0_0]) agg36 rfl h56 rfl ?_
                  exact fq_end
                refine rt_read (.agg #[.int .i64 x10.1.From, .int .i64 x10.1.To, q59_0_0]) rfl rfl (fun s94 st94 => ?_) ?_
                · try replace h1_0 := h1_0.up2 st94
                  try replace h2_0 := h2_0.up2 st94
                  try replace hq65 := hq65.up2 st94
                  try replace hq70 := hq70.up2 st94
                  try replace hq55_0_0 := hq55_0_0.up2 st94
                  try replace ho0 := ho0.up2 st94
                  try replace hwo1_0 := hwo1_0.up2 st94
                  try replace hb_o1 := hb_o1.up2 st94
                  try replace h56 := h56.up2 st94
                  try replace hq59_0_0 := hq59_0_0.up2 st94
                  try replace h60 := h60.up2 st94
                  refine k_yes rfl rfl ?_
                  refine k_load_blka (cs := [.int .i64 x10.1.From, .int .i64 x10.1.To, q59_0_0]) agg36 rfl h60 rfl ?_
                  exact fq_end
                refine rt_act rfl rfl ?_
                refine k_yes rfl rfl ?_
                have hA95 : Step (KN s61.n) s62 s62 := (Step.refl _).of0 (by first | exact fun _ h => h | (intro c h; simp [KC, KO, KU, KN] at h <;> omega))
                obtain ⟨x13, hx13, h⟩ := ob h
                refine k_call cal17 rfl (ref22_Same_w (a0 := x8.1) (a1 := x10.1) (SL.of_R hq55_0_0) (SL.of_R hq59_0_0) hx13) rfl ?_
                rintro s96 vr96 st96 rfl
                have szs96 := st96.size
                have hS : Step K0 s s96 := hS.trans0 st96
                have hE50 : Step K0 s46 s96 := hE50.trans0 st96
                have hE51 : Step K0 s46 s96 := hE51.trans0 st96
                have hA95 : Step (KN s61.n) s62 s96 := hA95.trans0 st96
                replace h1_0 := h1_0.up2 st96
                replace h2_0 := h2_0.up2 st96
                replace hq65 := hq65.up2 st96
                replace hq70 := hq70.up2 st96
                replace hq55_0_0 := hq55_0_0.up2 st96
                replace hq59_0_0 := hq59_0_0.up2 st96
                replace ho0 := ho0.up2 st96
                replace hwo1_0 := hwo1_0.up2 st96
                replace hb_o1 := hb_o1.up2 st96
                replace h56 := h56.up2 st96
                replace h60 := h60.up2 st96
                refine rt_cont hA95 ?_
                refine rt_read (.bool (!x13)) rfl rfl (fun s97 st97 => ?_) ?_
                · try replace h1_0 := h1_0.up2 st97
                  try replace h2_0 := h2_0.up2 st97
                  try replace hq65 := hq65.up2 st97
                  try replace hq70 := hq70.up2 st97
                  try replace hq55_0_0 := hq55_0_0.up2 st97
                  try replace hq59_0_0 := hq59_0_0.up2 st97
                  try replace ho0 := ho0.up2 st97
                  try replace hwo1_0 := hwo1_0.up2 st97
                  try replace hb_o1 := hb_o1.up2 st97
                  try replace h56 := h56.up2 st97
                  try replace h60 := h60.up2 st97
                  refine k_yes rfl rfl ?_
                  refine k_not rfl rfl ?_
                  exact fq_end
                refine rt_read (.bool (!x13)) rfl rfl (fun s98 st98 => ?_) ?_
                · try replace h1_0 := h1_0.up2 st98
                  try replace h2_0 := h2_0.up2 st98
                  try replace hq65 := hq65.up2 st98
                  try replace hq70 := hq70.up2 st98
                  try replace hq55_0_0 := hq55_0_0.up2 st98
                  try replace hq59_0_0 := hq59_0_0.up2 st98
                  try replace ho0 := ho0.up2 st98
                  try replace hwo1_0 := hwo1_0.up2 st98
                  try replace hb_o1 := hb_o1.up2 st98
                  try replace h56 := h56.up2 st98
                  try replace h60 := h60.up2 st98
                  refine k_pickF rfl rfl rfl rfl ?_
                  exact fq_end
                refine rt_fin ?_
                refine k_nil ?_
                refine k_keep [(0, _), (1, _), (4, _), (5, _), (6, _), (7, _), (81, _)] ⟨rfl, rfl, rfl, rfl, rfl, rfl, rfl, trivial⟩ ?_
                refine k_cond rfl (fun c99 => ?_) (fun c99 => ?_)
                · -- T
                  have h := ibT h c99
                  refine k_seq ?_
                  refine k_region ?_
                  refine k_assign rfl rfl ?_
                  refine k_nil ?_
                  refine k_keep [(0, _), (1, _), (4, _), (5, _), (6, _), (7, _)] ⟨rfl, rfl, rfl, rfl, rfl, rfl, trivial⟩ ?_
                  refine k_ret ?_
                  obtain rfl := Option.some.inj h
                  refine ⟨_, rfl, Ret.mk hS ?_⟩
                  exact rfl
                · -- F
                  have h := ibF h c99
                  refine k_skip ?_
                  refine k_blk ?_
                  refine k_region ?_
                  refine k_move rfl rfl ?_
                  refine k_add rfl rfl rfl ?_
                  refine k_assign rfl rfl ?_
                  refine k_nil ?_
                  exact k_stop ⟨(s96, i64 (x6 + 1), j), ⟨(by first | rfl | (simp <;> rfl)), trivial⟩, ⟨rfl, rfl, rfl, rfl, rfl, trivial⟩, ⟨rfl, hE51, h⟩, (by simp)⟩
          · -- F
            have h := itF h c53
            refine k_exit rfl ?_
            exact k_stop ⟨s52, trivial, ⟨rfl, trivial⟩, ⟨rfl, hE50, h⟩⟩
        · -- behind
          rintro s100 wL ⟨rfl, hE50, h⟩
          rw [hK50] at h
          have szs100 := hE50.size
          have hS : Step K0 s s100 := hS.trans0 hE50
          replace ho0 := ho0.up2 hE50
          replace hwo1_0 := hwo1_0.up2 hE50
          replace hb_o1 := hb_o1.up2 hE50
          refine k_seq ?_
          refine k_region ?_
          refine k_assign rfl rfl ?_
          refine k_nil ?_
          refine k_ret ?_
          obtain rfl := Option.some.inj h
          refine ⟨_, rfl, Ret.mk hS ?_⟩
          exact rfl

set_option maxHeartbeats 1000000 in
set_option maxRecDepth 100000 in
theorem ref22_New_w {s : St} {a0 : Int} {r : (Option Ref22Net)}  (h : ref22_New a0 = some r) : Calls Try.prog 19 #[.int .i64 a0] s.w (Ret s K0 (fun s1 v => ∃ (ku0 : Nat), ∃ (u0 : Value), v = u0 ∧ s.n < ku0 ∧ OptORef22Net s1 ku0 u0 r)) := by
  unfold ref22_New at h
  have hS : Step K0 s s := (Step.refl _).of0 (by first | exact fun _ h => h | (intro c h; simp [KC, KO, KU, KN] at h <;> omega))
  refine k_fn (rs := [2]) (args := [.int .i64 a0]) Try.func19 rfl rfl rfl rfl ?_
  refine k_seq ?_
  refine k_region ?_
  refine k_assign rfl rfl ?_
  refine k_nil ?_
  refine k_seq ?_
  refine k_seq ?_
  refine k_region ?_
  refine k_move rfl rfl ?_
  refine k_lss rfl rfl rfl ?_
  refine k_move rfl rfl ?_
  have hE1 : Step K0 s s := (Step.refl _).of0 (by first | exact fun _ h => h | (intro c h; simp [KC, KO, KU, KN] at h <;> omega))
  refine k_cutl (X := St) 3 [(0, .int .i64 a0), (2, .pointer none), (3, .int .i64 a0), (4, .bool (decide (a0 < 1)))] (fun _ => [(8, .bool (decide ((a0 < 1) ∨ (4 < a0))))]) (fun sl wL => sl.w = wL ∧ Step K0 s sl) ?_ ?_
  · -- the ways
    refine k_again 5 rfl ?_
    refine k_split (fun c2 => ?_) (fun c2 => ?_)
    · -- t5 True
      refine k_no rfl rfl rfl rfl ?_
      refine k_no rfl rfl rfl rfl ?_
      refine k_pickT rfl rfl rfl rfl ?_
      exact k_met ⟨s, ⟨(congrArg (fun b => some (Value.bool b)) (by first | exact decide_eq_decide.2 ⟨Or.inr, fun h => h.resolve_left c2⟩ | exact (decide_eq_true (Or.inl c2)).symm | (simp [c2]; done) | (simp [c2, i64] <;> omega))), trivial⟩, ⟨rfl, rfl, rfl, rfl, trivial⟩, rfl, hE1⟩
    · -- t5 False
      refine k_yes rfl rfl ?_
      refine k_move rfl rfl ?_
      refine k_yes rfl rfl ?_
      refine k_gtr rfl rfl rfl ?_
      refine k_pickF rfl rfl rfl rfl ?_
      exact k_met ⟨s, ⟨(congrArg (fun b => some (Value.bool b)) (by first | exact decide_eq_decide.2 ⟨Or.inr, fun h => h.resolve_left c2⟩ | exact (decide_eq_true (Or.inl c2)).symm | (simp [c2]; done) | (simp [c2, i64] <;> omega))), trivial⟩, ⟨rfl, rfl, rfl, rfl, trivial⟩, rfl, hE1⟩
  · -- behind
    rintro s3 wL ⟨rfl, hE1⟩
    have szs3 := hE1.size
    have hS : Step K0 s s3 := hS.trans0 hE1
    refine k_nil ?_
    refine k_keep [(0, _), (2, _), (8, _)] ⟨rfl, rfl, rfl, trivial⟩ ?_
    refine k_cond_dec rfl (fun c4 => ?_) (fun c4 => ?_)
    · -- T
      have h := itT h c4
      refine k_seq ?_
      refine k_region ?_
      refine k_assign rfl rfl ?_
      refine k_nil ?_
      refine k_keep [(0, _), (2, _)] ⟨rfl, rfl, trivial⟩ ?_
      refine k_ret ?_
      obtain rfl := Option.some.inj h
      refine ⟨_, rfl, Ret.mk hS ?_⟩
      exact ⟨s3.n + 1, _, rfl, by omega, rfl⟩
    · -- F
      have h := itF h c4
      refine k_skip ?_
      refine k_seq ?_
      refine k_region ?_
      refine k_move rfl rfl ?_
      refine k_build plc58 zero58 rfl (Parts.cons (CellsOf.lit rfl rfl).1 Parts.nil) (by rfl) rfl ?_
      refine k_as (v := .agg #[.int .i64 a0, .slice none 0 0]) rfl ?_
      refine k_box rfl rfl ?_
      intro s5 b5 st5 h5 ge5
      have szs5 := st5.size
      have hS : Step K0 s s5 := hS.trans0 st5
      have lt5 := h5.lt
      refine k_assign rfl rfl ?_
      refine k_nil ?_
      refine k_keep [(2, _)] ⟨rfl, trivial⟩ ?_
      refine k_ret ?_
      obtain rfl := Option.some.inj h
      refine ⟨_, rfl, Ret.mk hS ?_⟩
      exact ⟨b5 + 1, _, rfl, by omega, (ORef22Net.mk_ (⟨a0, []⟩ : Ref22Net) (by omega) (R.of_SL (.inl ⟨rfl, none, 0, rfl, fun _ => rfl⟩)) h5)⟩

set_option maxHeartbeats 1000000 in
set_option maxRecDepth 100000 in
theorem law22_NetCalls_w {s : St} {a0 : Int} {l1 : Lab} {v1 : Value} {a1 : (List Law22Call)} {l2 : Lab} {v2 : Value} {a2 : (List Law22Call)} {r : Bool} (hp1 : SL s l1 v1 5 (a1.map dLaw22Call)) (hp2 : SL s l2 v2 5 (a2.map dLaw22Call)) (h : law22_NetCalls a0 a1 a2 = some r) : Calls Try.prog 5 #[.int .i64 a0, v1, v2] s.w (Ret s K0 (fun s1 v => v = .bool r)) := by
  unfold law22_NetCalls at h
  obtain ⟨lf1, lf1le, lf1ne, hp1⟩ := hp1.fix
  obtain ⟨lf2, lf2le, lf2ne, hp2⟩ := hp2.fix
  have hS : Step K0 s s := (Step.refl _).of0 (by first | exact fun _ h => h | (intro c h; simp [KC, KO, KU, KN] at h <;> omega))
  refine k_fn (rs := [6]) (args := [.int .i64 a0, v1, v2]) Try.func5 rfl rfl rfl rfl ?_
  refine k_seq ?_
  refine k_region ?_
  refine k_assign rfl rfl ?_
  refine k_nil ?_
  refine k_seq ?_
  refine k_region ?_
  refine k_move rfl rfl ?_
  obtain ⟨x1, hx1, h⟩ := ob h
  refine k_call cal8 rfl (net_New_w   hx1) rfl ?_
  rintro s1 vr1 st1 ⟨ku1_0, v1_0, rfl, hk1_0, h1_0⟩
  have szs1 := st1.size
  have hS : Step K0 s s1 := hS.trans0 st1
  replace hp1 := hp1.up2 st1
  replace hp2 := hp2.up2 st1
  have ol1_0 := OptONetNet.le (k := ku1_0) h1_0
  refine k_move rfl rfl ?_
  refine k_extract rfl rfl rfl ?_
  refine k_extract rfl rfl rfl ?_
  refine k_assign rfl rfl ?_
  refine k_assign rfl rfl ?_
  refine k_nil ?_
  refine k_keep [(0, _), (1, _), (2, _), (6, _), (7, _), (8, _)] ⟨rfl, rfl, rfl, rfl, rfl, rfl, trivial⟩ ?_
  refine k_seq ?_
  refine k_region ?_
  refine k_move rfl rfl ?_
  obtain ⟨x2, hx2, h⟩ := ob h
  refine k_call cal19 rfl (ref22_New_w   hx2) rfl ?_
  rintro s2 v2_0 st2 ⟨ku2_0, _, rfl, hk2_0, h2_0⟩
  have szs2 := st2.size
  have hS : Step K0 s s2 := hS.trans0 st2
  replace hp1 := hp1.up2 st2
  replace hp2 := hp2.up2 st2
  replace h1_0 : OptONetNet s2 ku1_0 v1_0 x1.1 := OptONetNet.up3 h1_0 ol1_0 st2
  have ol2_0 := OptORef22Net.le (k := ku2_0) h2_0
  refine k_assign rfl rfl ?_
  refine k_nil ?_
  refine k_keep [(1, _), (2, _), (6, _), (7, _), (8, _), (9, _)] ⟨rfl, rfl, rfl, rfl, rfl, rfl, trivial⟩ ?_
  refine k_seq ?_
  refine k_seq ?_
  refine k_region ?_
  refine k_move rfl rfl ?_
  rcases oc_out h with ⟨ho_3, h⟩ | ⟨x3, ho_3, h⟩
  · -- nil
    rw [ho_3] at h2_0
    obtain rfl : v2_0 = .pointer none := h2_0
    refine k_eql_pnil Try.underlying51 rfl rfl rfl ?_
    refine k_move rfl rfl ?_
    refine k_no rfl rfl rfl rfl ?_
    refine k_no rfl rfl rfl rfl ?_
    refine k_pickT rfl rfl rfl rfl ?_
    refine k_move rfl rfl ?_
    refine k_no rfl rfl rfl rfl ?_
    refine k_no rfl rfl rfl rfl ?_
    refine k_pickT rfl rfl rfl rfl ?_
    refine k_nil ?_
    refine k_keep [(1, _), (2, _), (6, _), (7, _), (8, _), (9, _), (30, _)] ⟨rfl, rfl, rfl, rfl, rfl, rfl, rfl, trivial⟩ ?_
    refine k_cond_true rfl ?_
    refine k_seq ?_
    refine k_region ?_
    refine k_move rfl rfl ?_
    refine k_neq_pnil Try.underlying51 rfl rfl rfl ?_
    refine k_move rfl rfl ?_
    refine k_yes rfl rfl ?_
    refine k_move rfl rfl ?_
    rcases oc_out h with ⟨ho_4, h⟩ | ⟨x4, ho_4, h⟩
    · -- nil
      rw [ho_4] at h1_0
      obtain rfl : v1_0 = .pointer none := h1_0
      refine k_yes rfl rfl ?_
      refine k_eql_pnil Try.underlying24 rfl rfl rfl ?_
      refine k_yes rfl rfl ?_
      refine k_move rfl rfl ?_
      refine k_yes rfl rfl ?_
      refine k_move rfl rfl ?_
      refine k_yes rfl rfl ?_
      refine k_eql rfl rfl rfl ?_
      refine k_yes rfl rfl ?_
      refine k_pickT rfl rfl rfl rfl ?_
      refine k_pickF rfl rfl rfl rfl ?_
      refine k_move rfl rfl ?_
      obtain ⟨x5, hx5, h⟩ := ob h
      have hE5 : Step K0 s2 s2 := (Step.refl _).of0 (by first | exact fun _ h => h | (intro c h; simp [KC, KO, KU, KN] at h <;> omega))
      refine k_cutl (X := St) 2 [(1, v1), (2, v2), (6, .bool false), (7, .pointer none), (8, .int .i64 x1.2), (9, .pointer none), (30, .bool true), (31, .pointer none), (32, .bool false), (33, .bool false), (34, .pointer none), (35, .bool true), (36, .bool true), (37, .int .i64 x1.2), (38, .bool (decide (x1.2 = 1))), (39, .bool (decide (x1.2 = 1))), (40, .bool (decide (x1.2 = 1)))] (fun _ => [(43, .bool x5)]) (fun sl wL => sl.w = wL ∧ Step K0 s2 sl) ?_ ?_
      · -- the ways
        refine k_again 41 rfl ?_
        refine k_split (fun c6 => ?_) (fun c6 => ?_)
        · -- t41 True
          have hx5 := itT hx5 c6
          refine k_yes rfl rfl ?_
          obtain ⟨x6, hx6, hx5⟩ := ob hx5
          refine k_call cal10 rfl (law22_awake_w   hx6) rfl ?_
          rintro s7 vr7 st7 rfl
          have szs7 := st7.size
          have hS : Step K0 s s7 := hS.trans0 st7
          have hE5 : Step K0 s2 s7 := hE5.trans0 st7
          replace hp1 := hp1.up2 st7
          replace hp2 := hp2.up2 st7
          refine k_pickT rfl rfl rfl rfl ?_
          exact k_met ⟨s7, ⟨(congrArg (fun b => some (Value.bool b)) (Option.some.inj hx5)), trivial⟩, ⟨rfl, rfl, rfl, rfl, rfl, rfl, rfl, rfl, rfl, rfl, rfl, rfl, rfl, rfl, rfl, rfl, rfl, trivial⟩, rfl, hE5⟩
        · -- t41 False
          have hx5 := itF hx5 c6
          refine k_no rfl rfl rfl rfl ?_
          refine k_pickF rfl rfl rfl rfl ?_
          exact k_met ⟨s2, ⟨(congrArg (fun b => some (Value.bool b)) (Option.some.inj hx5)), trivial⟩, ⟨rfl, rfl, rfl, rfl, rfl, rfl, rfl, rfl, rfl, rfl, rfl, rfl, rfl, rfl, rfl, rfl, rfl, trivial⟩, rfl, hE5⟩
      · -- behind
        rintro s8 wL ⟨rfl, hE5⟩
        have szs8 := hE5.size
        have hS : Step K0 s s8 := hS.trans0 hE5
        replace hp1 := hp1.up2 hE5
        replace hp2 := hp2.up2 hE5
        refine k_assign rfl rfl ?_
        refine k_nil ?_
        refine k_keep [(1, _), (2, _), (6, _), (7, _), (8, _), (9, _)] ⟨rfl, rfl, rfl, rfl, rfl, rfl, trivial⟩ ?_
        refine k_ret ?_
        obtain rfl := Option.some.inj h
        refine ⟨_, rfl, Ret.mk hS ?_⟩
        exact rfl
    · -- some
      rw [ho_4] at h1_0
      replace h1_0 : ONetNet s2 ku1_0 v1_0 x4 := h1_0
      replace ol1_0 := ol1_0.resolve_left (fun e => by rw [e] at ho_4; cases ho_4)
      have le4 := h1_0.le
      have ne4 := h1_0.ne
      refine k_yes rfl rfl ?_
      obtain ⟨pb9, rfl⟩ := h1_0.ptr
      refine k_eql_pnil Try.underlying24 rfl rfl rfl ?_
      refine k_yes rfl rfl ?_
      refine k_move rfl rfl ?_
      refine k_no rfl rfl rfl rfl ?_
      refine k_no rfl rfl rfl rfl ?_
      refine k_yes rfl rfl ?_
      refine k_pickF rfl rfl rfl rfl ?_
      refine k_pickF rfl rfl rfl rfl ?_
      refine k_move rfl rfl ?_
      refine k_no rfl rfl rfl rfl ?_
      refine k_pickF rfl rfl rfl rfl ?_
      refine k_assign rfl rfl ?_
      refine k_nil ?_
      refine k_keep [(1, _), (2, _), (6, _), (7, _), (8, _), (9, _)] ⟨rfl, rfl, rfl, rfl, rfl, rfl, trivial⟩ ?_
      refine k_ret ?_
      obtain rfl := Option.some.inj h
      refine ⟨_, rfl, Ret.mk hS ?_⟩
      exact rfl
  · -- some
    rw [ho_3] at h2_0
    replace h2_0 : ORef22Net s2 ku2_0 v2_0 x3 := h2_0
    replace ol2_0 := ol2_0.resolve_left (fun e => by rw [e] at ho_3; cases ho_3)
    have le3 := h2_0.le
    have ne3 := h2_0.ne
    obtain ⟨pb10, rfl⟩ := h2_0.ptr
    refine k_eql_pnil Try.underlying51 rfl rfl rfl ?_
    refine k_move rfl rfl ?_
    refine k_yes rfl rfl ?_
    refine k_move rfl rfl ?_
    refine k_yes rfl rfl ?_
    obtain ⟨x7, hx7, h⟩ := ob h
    refine k_call cal9 rfl (law22_many_w  hp1 hx7) rfl ?_
    rintro s11 vr11 st11 rfl
    have szs11 := st11.size
    have hS : Step K0 s s11 := hS.trans0 st11
    replace hp1 := hp1.up2 st11
    replace hp2 := hp2.up2 st11
    replace h1_0 : OptONetNet s11 ku1_0 v1_0 x1.1 := OptONetNet.up3 h1_0 ol1_0 st11
    replace h2_0 := h2_0.up2 st11
    refine k_pickF rfl rfl rfl rfl ?_
    refine k_move rfl rfl ?_
    obtain ⟨x8, hx8, h⟩ := ob h
    have hE12 : Step K0 s11 s11 := (Step.refl _).of0 (by first | exact fun _ h => h | (intro c h; simp [KC, KO, KU, KN] at h <;> omega))
    refine k_cutl (X := St) 3 [(1, v1), (2, v2), (6, .bool false), (7, v1_0), (8, .int .i64 x1.2), (9, (.pointer (some ⟨pb10, 0, none⟩))), (21, (.pointer (some ⟨pb10, 0, none⟩))), (22, .bool false), (23, .bool false), (24, v1), (25, .bool x7), (26, .bool x7)] (fun _ => [(30, .bool x8)]) (fun sl wL => sl.w = wL ∧ Step K0 s11 sl) ?_ ?_
    · -- the ways
      refine k_again 27 rfl ?_
      refine k_splitb (fun c13 => ?_) (fun c13 => ?_)
      · -- t27 True
        have hx8 := ibT hx8 c13
        refine k_no rfl rfl rfl rfl ?_
        refine k_no rfl rfl rfl rfl ?_
        refine k_pickT rfl rfl rfl rfl ?_
        exact k_met ⟨s11, ⟨(congrArg (fun b => some (Value.bool b)) (Option.some.inj hx8)), trivial⟩, ⟨rfl, rfl, rfl, rfl, rfl, rfl, rfl, rfl, rfl, rfl, rfl, rfl, trivial⟩, rfl, hE12⟩
      · -- t27 False
        have hx8 := ibF hx8 c13
        refine k_yes rfl rfl ?_
        refine k_move rfl rfl ?_
        refine k_yes rfl rfl ?_
        obtain ⟨x9, hx9, hx8⟩ := ob hx8
        refine k_call cal9 rfl (law22_many_w  hp2 hx9) rfl ?_
        rintro s14 vr14 st14 rfl
        have szs14 := st14.size
        have hS : Step K0 s s14 := hS.trans0 st14
        have hE12 : Step K0 s11 s14 := hE12.trans0 st14
        replace hp1 := hp1.up2 st14
        replace hp2 := hp2.up2 st14
        replace h1_0 : OptONetNet s14 ku1_0 v1_0 x1.1 := OptONetNet.up3 h1_0 ol1_0 st14
        replace h2_0 := h2_0.up2 st14
        refine k_pickF rfl rfl rfl rfl ?_
        exact k_met ⟨s14, ⟨(congrArg (fun b => some (Value.bool b)) (Option.some.inj hx8)), trivial⟩, ⟨rfl, rfl, rfl, rfl, rfl, rfl, rfl, rfl, rfl, rfl, rfl, rfl, trivial⟩, rfl, hE12⟩
    · -- behind
      rintro s15 wL ⟨rfl, hE12⟩
      have szs15 := hE12.size
      have hS : Step K0 s s15 := hS.trans0 hE12
      replace hp1 := hp1.up2 hE12
      replace hp2 := hp2.up2 hE12
      replace h1_0 : OptONetNet s15 ku1_0 v1_0 x1.1 := OptONetNet.up3 h1_0 ol1_0 hE12
      replace h2_0 := h2_0.up2 hE12
      refine k_nil ?_
      refine k_keep [(1, _), (2, _), (6, _), (7, _), (8, _), (9, _), (30, _)] ⟨rfl, rfl, rfl, rfl, rfl, rfl, rfl, trivial⟩ ?_
      refine k_cond rfl (fun c16 => ?_) (fun c16 => ?_)
      · -- T
        have h := ibT h c16
        refine k_seq ?_
        refine k_region ?_
        refine k_move rfl rfl ?_
        refine k_neq_pnil Try.underlying51 rfl rfl rfl ?_
        refine k_move rfl rfl ?_
        refine k_no rfl rfl rfl rfl ?_
        refine k_no rfl rfl rfl rfl ?_
        refine k_no rfl rfl rfl rfl ?_
        refine k_nou rfl rfl rfl rfl ?_
        refine k_nou rfl rfl rfl rfl ?_
        refine k_no rfl rfl rfl rfl ?_
        refine k_pickT rfl rfl rfl rfl ?_
        refine k_move rfl rfl ?_
        refine k_yes rfl rfl ?_
        obtain ⟨x10, hx10, h⟩ := ob h
        refine k_call cal10 rfl (law22_awake_w   hx10) rfl ?_
        rintro s18 vr18 st18 rfl
        have szs18 := st18.size
        have hS : Step K0 s s18 := hS.trans0 st18
        replace hp1 := hp1.up2 st18
        replace hp2 := hp2.up2 st18
        replace h1_0 : OptONetNet s18 ku1_0 v1_0 x1.1 := OptONetNet.up3 h1_0 ol1_0 st18
        replace h2_0 := h2_0.up2 st18
        refine k_pickT rfl rfl rfl rfl ?_
        refine k_assign rfl rfl ?_
        refine k_nil ?_
        refine k_keep [(1, _), (2, _), (6, _), (7, _), (8, _), (9, _)] ⟨rfl, rfl, rfl, rfl, rfl, rfl, trivial⟩ ?_
        refine k_ret ?_
        obtain rfl := Option.some.inj h
        refine ⟨_, rfl, Ret.mk hS ?_⟩
        exact rfl
      · -- F
        have h := ibF h c16
        refine k_skip ?_
        refine k_seq ?_
        refine k_seq ?_
        refine k_region ?_
        refine k_move rfl rfl ?_
        refine k_neq rfl rfl rfl ?_
        refine k_move rfl rfl ?_
        rcases oc_out h with ⟨ho_19, h⟩ | ⟨x11, ho_19, h⟩
        · -- nil
          rw [ho_19] at h1_0
          obtain rfl : v1_0 = .pointer none := h1_0
          have hE20 : Step K0 s15 s15 := (Step.refl _).of0 (by first | exact fun _ h => h | (intro c h; simp [KC, KO, KU, KN] at h <;> omega))
          refine k_cutl (X := St) 3 [(1, v1), (2, v2), (6, .bool false), (7, .pointer none), (8, .int .i64 x1.2), (9, (.pointer (some ⟨pb10, 0, none⟩))), (30, .bool x8), (44, .int .i64 x1.2), (45, .bool (decide (x1.2 ≠ 0)))] (fun _ => [(49, .bool true)]) (fun sl wL => sl.w = wL ∧ Step K0 s15 sl) ?_ ?_
          · -- the ways
            refine k_again 46 rfl ?_
            refine k_split (fun c21 => ?_) (fun c21 => ?_)
            · -- t46 True
              refine k_no rfl rfl rfl rfl ?_
              refine k_no rfl rfl rfl rfl ?_
              refine k_pickT rfl rfl rfl rfl ?_
              exact k_met ⟨s15, ⟨rfl, trivial⟩, ⟨rfl, rfl, rfl, rfl, rfl, rfl, rfl, rfl, rfl, trivial⟩, rfl, hE20⟩
            · -- t46 False
              refine k_yes rfl rfl ?_
              refine k_move rfl rfl ?_
              refine k_yes rfl rfl ?_
              refine k_eql_pnil Try.underlying24 rfl rfl rfl ?_
              refine k_pickF rfl rfl rfl rfl ?_
              exact k_met ⟨s15, ⟨rfl, trivial⟩, ⟨rfl, rfl, rfl, rfl, rfl, rfl, rfl, rfl, rfl, trivial⟩, rfl, hE20⟩
          · -- behind
            rintro s22 wL ⟨rfl, hE20⟩
            have szs22 := hE20.size
            have hS : Step K0 s s22 := hS.trans0 hE20
            replace hp1 := hp1.up2 hE20
            replace hp2 := hp2.up2 hE20
            replace h2_0 := h2_0.up2 hE20
            refine k_nil ?_
            refine k_keep [(1, _), (2, _), (6, _), (7, _), (9, _), (49, _)] ⟨rfl, rfl, rfl, rfl, rfl, rfl, trivial⟩ ?_
            refine k_cond_true rfl ?_
            refine k_seq ?_
            refine k_region ?_
            refine k_assign rfl rfl ?_
            refine k_nil ?_
            refine k_keep [(1, _), (2, _), (6, _), (7, _), (9, _)] ⟨rfl, rfl, rfl, rfl, rfl, trivial⟩ ?_
            refine k_ret ?_
            obtain rfl := Option.some.inj h
            refine ⟨_, rfl, Ret.mk hS ?_⟩
            exact rfl
        · -- some
          rw [ho_19] at h1_0
          replace h1_0 : ONetNet s15 ku1_0 v1_0 x11 := h1_0
          replace ol1_0 := ol1_0.resolve_left (fun e => by rw [e] at ho_19; cases ho_19)
          have le19 := h1_0.le
          have ne19 := h1_0.ne
          have hE23 : Step K0 s15 s15 := (Step.refl _).of0 (by first | exact fun _ h => h | (intro c h; simp [KC, KO, KU, KN] at h <;> omega))
          refine k_cutl (X := St) 3 [(1, v1), (2, v2), (6, .bool false), (7, v1_0), (8, .int .i64 x1.2), (9, (.pointer (some ⟨pb10, 0, none⟩))), (30, .bool x8), (44, .int .i64 x1.2), (45, .bool (decide (x1.2 ≠ 0)))] (fun _ => [(49, .bool (decide ((x1.2 ≠ 0) ∨ False)))]) (fun sl wL => sl.w = wL ∧ Step K0 s15 sl) ?_ ?_
          · -- the ways
            refine k_again 46 rfl ?_
            refine k_split (fun c24 => ?_) (fun c24 => ?_)
            · -- t46 True
              refine k_no rfl rfl rfl rfl ?_
              refine k_no rfl rfl rfl rfl ?_
              refine k_pickT rfl rfl rfl rfl ?_
              exact k_met ⟨s15, ⟨(congrArg (fun b => some (Value.bool b)) (by first | exact decide_eq_decide.2 ⟨Or.inr, fun h => h.resolve_left c24⟩ | exact (decide_eq_true (Or.inl c24)).symm | (simp [c24]; done) | (simp [c24, i64] <;> omega))), trivial⟩, ⟨rfl, rfl, rfl, rfl, rfl, rfl, rfl, rfl, rfl, trivial⟩, rfl, hE23⟩
            · -- t46 False
              refine k_yes rfl rfl ?_
              refine k_move rfl rfl ?_
              refine k_yes rfl rfl ?_
              obtain ⟨pb25, rfl⟩ := h1_0.ptr
              refine k_eql_pnil Try.underlying24 rfl rfl rfl ?_
              refine k_pickF rfl rfl rfl rfl ?_
              exact k_met ⟨s15, ⟨(congrArg (fun b => some (Value.bool b)) (by first | exact decide_eq_decide.2 ⟨Or.inr, fun h => h.resolve_left c24⟩ | exact (decide_eq_true (Or.inl c24)).symm | (simp [c24]; done) | (simp [c24, i64] <;> omega))), trivial⟩, ⟨rfl, rfl, rfl, rfl, rfl, rfl, rfl, rfl, rfl, trivial⟩, rfl, hE23⟩
          · -- behind
            rintro s26 wL ⟨rfl, hE23⟩
            have szs26 := hE23.size
            have hS : Step K0 s s26 := hS.trans0 hE23
            replace hp1 := hp1.up2 hE23
            replace hp2 := hp2.up2 hE23
            replace h1_0 := h1_0.up2 hE23
            replace h2_0 := h2_0.up2 hE23
            refine k_nil ?_
            refine k_keep [(1, _), (2, _), (6, _), (7, _), (9, _), (49, _)] ⟨rfl, rfl, rfl, rfl, rfl, rfl, trivial⟩ ?_
            refine k_cond_dec rfl (fun c27 => ?_) (fun c27 => ?_)
            · -- T
              have h := itT h c27
              refine k_seq ?_
              refine k_region ?_
              refine k_assign rfl rfl ?_
              refine k_nil ?_
              refine k_keep [(1, _), (2, _), (6, _), (7, _), (9, _)] ⟨rfl, rfl, rfl, rfl, rfl, trivial⟩ ?_
              refine k_ret ?_
              obtain rfl := Option.some.inj h
              refine ⟨_, rfl, Ret.mk hS ?_⟩
              exact rfl
            · -- F
              have h := itF h c27
              refine k_skip ?_
              refine k_seq ?_
              refine k_keep [(1, _), (2, _), (6, _), (7, _), (9, _)] ⟨rfl, rfl, rfl, rfl, rfl, trivial⟩ ?_
              obtain ⟨kj12, hK28, h⟩ := jn_out h
              have hE28 : Step (KU (KO ku1_0) (KO ku2_0)) s26 s26 := (Step.refl _).of0 (by first | exact fun _ h => h | (intro c h; simp [KC, KO, KU, KN] at h <;> omega))
              refine k_cutc (X := St × NetNet × Ref22Net) [(2, v2), (6, .bool false), (7, v1_0), (9, (.pointer (some ⟨pb10, 0, none⟩)))] (fun (xL : St × NetNet × Ref22Net) => match xL with | (sl, x13, x14) => []) (fun (xL : St × NetNet × Ref22Net) (wL : World) => match xL with | (sl, x13, x14) => sl.w = wL ∧ Step (KU (KO ku1_0) (KO ku2_0)) s26 sl ∧ (ONetNet sl ku1_0 v1_0 x13) ∧ (ORef22Net sl ku2_0 (.pointer (some ⟨pb10, 0, none⟩)) x14) ∧ kj12 x13 x14 = some r) ?_ ?_
              · -- the ways
                refine k_seq ?_
                refine k_region ?_
                refine k_assign rfl rfl ?_
                refine k_nil ?_
                refine k_block ?_
                refine k_loopc (X := St × Int × NetNet × Ref22Net × Nat) [(1, _), (2, _), (6, _), (7, _), (9, _)] (fun (xL : St × Int × NetNet × Ref22Net × Nat) => match xL with | (sl, x15, x16, x17, j) => [(10, .int .i64 x15)]) (fun (xL : St × Int × NetNet × Ref22Net × Nat) (wL : World) => match xL with | (sl, x15, x16, x17, j) => sl.w = wL ∧ Step (KU (KO ku1_0) (KO ku2_0)) s26 sl ∧ (ONetNet sl ku1_0 v1_0 x16) ∧ (ORef22Net sl ku2_0 (.pointer (some ⟨pb10, 0, none⟩)) x17) ∧ law22_NetCalls_l1 a1 kj12 j x15 x16 x17 = some r) (fun (xL : St × Int × NetNet × Ref22Net × Nat) => match xL with | (sl, x15, x16, x17, j) => j) (s26, 0, x11, x3, FU) ⟨rfl, rfl, rfl, rfl, rfl, trivial⟩ ⟨(by first | rfl | (simp <;> rfl)), trivial⟩ ⟨rfl, (Step.refl _).of0 (by first | exact fun _ h => h | (intro c h; simp [KC, KO, KU, KN] at h <;> omega)), h1_0, h2_0, h⟩ ?_
                rintro ⟨s30, x15, x16, x17, j⟩ wL ⟨rfl, hE29, h1_0, h2_0, h⟩
                cases j with
                | zero => rw [law22_NetCalls_l1] at h; exact (noneNe h).elim
                | succ j =>
                rw [law22_NetCalls_l1] at h
                have szs30 := hE29.size
                have hS : Step K0 s s30 := hS.comp hE29 (by intro l hl hk; (try simp only [KC, KO, KU, KN, K0] at hk ⊢) <;> omega)
                have hE28 : Step (KU (KO ku1_0) (KO ku2_0)) s26 s30 := hE28.comp hE29 (by intro l hl hk; (try simp only [KC, KO, KU, KN, K0] at hk ⊢) <;> omega)
                replace hp1 := hp1.up2 hE29
                replace hp2 := hp2.up2 hE29
                refine k_seq ?_
                refine k_seq ?_
                refine k_region ?_
                refine k_move rfl rfl ?_
                refine k_move rfl rfl ?_
                refine k_len Try.underlying22 rfl hp1.hasLen rfl ?_
                refine k_as (v := .int .i64 (a1.length : Int)) (by simp only [List.length_map]) ?_
                refine k_lss rfl rfl rfl ?_
                refine k_nil ?_
                refine k_keep [(1, _), (2, _), (6, _), (7, _), (9, _), (10, _), (53, _)] ⟨rfl, rfl, rfl, rfl, rfl, rfl, rfl, trivial⟩ ?_
                refine k_cond_dec rfl (fun c31 => ?_) (fun c31 => ?_)
                · -- T
                  have h := itT h c31
                  refine k_skip ?_
                  refine k_seq ?_
                  refine k_block ?_
                  refine k_seq ?_
                  refine k_region ?_
                  refine k_move rfl rfl ?_
                  refine k_move rfl rfl ?_
                  refine k_move rfl rfl ?_
                  refine k_move rfl rfl ?_
                  obtain ⟨x18, hx18, h⟩ := ob h
                  refine k_ixaddr Try.underlying22 size32 rfl rfl hp1 (geti_out hx18).1 (geti_map hx18) rfl ?_
                  intro qx18 hqx18
                  refine k_load_agg (by exact agg32) rfl hqx18 rfl ?_
                  intro cs32 h32
                  obtain ⟨q32_0, rfl, hq32_0⟩ := opnLaw22Call h32
                  obtain ⟨x19, hx19, h⟩ := ob h
                  refine k_call cal20 rfl (law22_call_w (a2 := x18) h1_0 h2_0 (SL.of_R hq32_0) (by first | assumption | omega | (simp <;> omega)) (by first | assumption | omega | (simp <;> omega)) (by first | assumption | omega | (simp <;> omega)) hx19) rfl ?_
                  rintro s33 vr33 st33 ⟨rfl, h1_0, h2_0⟩
                  have szs33 := st33.size
                  have hS : Step K0 s s33 := hS.comp st33 (by intro l hl hk; (try simp only [KC, KO, KU, KN, K0] at hk ⊢) <;> omega)
                  have hE28 : Step (KU (KO ku1_0) (KO ku2_0)) s26 s33 := hE28.comp st33 (by intro l hl hk; (try simp only [KC, KO, KU, KN, K0] at hk ⊢) <;> omega)
                  have hE29 : Step (KU (KO ku1_0) (KO ku2_0)) s26 s33 := hE29.comp st33 (by intro l hl hk; (try simp only [KC, KO, KU, KN, K0] at hk ⊢) <;> omega)
                  replace hp1 := hp1.up2 st33
                  replace hp2 := hp2.up2 st33
                  replace hqx18 := hqx18.up2 st33
                  replace hq32_0 := hq32_0.up2 st33
                  refine k_not rfl rfl ?_
                  refine k_move rfl rfl ?_
                  obtain ⟨x20, hx20, h⟩ := ob h
                  have hE34 : Step K0 s33 s33 := (Step.refl _).of0 (by first | exact fun _ h => h | (intro c h; simp [KC, KO, KU, KN] at h <;> omega))
                  refine k_cutl (X := St) 10 [(1, v1), (2, v2), (6, .bool false), (7, v1_0), (9, (.pointer (some ⟨pb10, 0, none⟩))), (10, .int .i64 x15), (53, .bool (decide (x15 < (a1.length : Int)))), (56, v1_0), (57, (.pointer (some ⟨pb10, 0, none⟩))), (58, v1), (59, .int .i64 x15), (60, qx18), (61, .agg #[.int .i64 x18.Do, .int .i64 x18.A, .int .i64 x18.B, .int .u64 (x18.Id.toNat : Int), q32_0]), (62, .bool x19.1), (63, .bool (!x19.1))] (fun _ => [(74, .bool x20)]) (fun sl wL => sl.w = wL ∧ Step K0 s33 sl) ?_ ?_
                  · -- the ways
                    refine k_again 64 rfl ?_
                    refine k_splitb (fun c35 => ?_) (fun c35 => ?_)
                    · -- t64 True
                      have hx20 := ibT hx20 c35
                      refine k_no rfl rfl rfl rfl ?_
                      refine k_no rfl rfl rfl rfl ?_
                      refine k_no rfl rfl rfl rfl ?_
                      refine k_no rfl rfl rfl rfl ?_
                      refine k_nou rfl rfl rfl rfl ?_
                      refine k_nou rfl rfl rfl rfl ?_
                      refine k_nou rfl rfl rfl rfl ?_
                      refine k_nou rfl rfl rfl rfl ?_
                      refine k_no rfl rfl rfl rfl ?_
                      refine k_pickT rfl rfl rfl rfl ?_
                      exact k_met ⟨s33, ⟨(congrArg (fun b => some (Value.bool b)) (Option.some.inj hx20)), trivial⟩, ⟨rfl, rfl, rfl, rfl, rfl, rfl, rfl, rfl, rfl, rfl, rfl, rfl, rfl, rfl, rfl, trivial⟩, rfl, hE34⟩
                    · -- t64 False
                      have hx20 := ibF hx20 c35
                      refine k_yes rfl rfl ?_
                      refine k_move rfl rfl ?_
                      refine k_yes rfl rfl ?_
                      refine k_rem rfl rfl (by decide) rfl ?_
                      refine k_yes rfl rfl ?_
                      refine k_eql rfl rfl rfl ?_
                      refine k_yes rfl rfl ?_
                      refine k_move rfl rfl ?_
                      obtain ⟨x21, hx21, hx20⟩ := ob hx20
                      have hE36 : Step K0 s33 s33 := (Step.refl _).of0 (by first | exact fun _ h => h | (intro c h; simp [KC, KO, KU, KN] at h <;> omega))
                      refine k_cutl (X := St) 5 [(1, v1), (2, v2), (6, .bool false), (7, v1_0), (9, (.pointer (some ⟨pb10, 0, none⟩))), (10, .int .i64 x15), (53, .bool (decide (x15 < (a1.length : Int)))), (56, v1_0), (57, (.pointer (some ⟨pb10, 0, none⟩))), (58, v1), (59, .int .i64 x15), (60, qx18), (61, .agg #[.int .i64 x18.Do, .int .i64 x18.A, .int .i64 x18.B, .int .u64 (x18.Id.toNat : Int), q32_0]), (62, .bool x19.1), (63, .bool (!x19.1)), (64, .bool false), (65, .int .i64 x15), (66, .int .i64 (x15.tmod 8)), (67, .bool (decide (x15.tmod 8 = 0)))] (fun _ => [(73, .bool x21)]) (fun sl wL => sl.w = wL ∧ Step K0 s33 sl) ?_ ?_
                      · -- the ways
                        refine k_again 68 rfl ?_
                        refine k_split (fun c37 => ?_) (fun c37 => ?_)
                        · -- t68 True
                          have hx21 := itT hx21 c37
                          refine k_yes rfl rfl ?_
                          refine k_move rfl rfl ?_
                          refine k_yes rfl rfl ?_
                          refine k_move rfl rfl ?_
                          refine k_yes rfl rfl ?_
                          obtain ⟨x22, hx22, hx21⟩ := ob hx21
                          refine k_call cal21 rfl (law22_shows_w  h1_0 h2_0 hx22) rfl ?_
                          rintro s38 vr38 st38 rfl
                          have szs38 := st38.size
                          have hS : Step K0 s s38 := hS.trans0 st38
                          have hE28 : Step (KU (KO ku1_0) (KO ku2_0)) s26 s38 := hE28.trans0 st38
                          have hE29 : Step (KU (KO ku1_0) (KO ku2_0)) s26 s38 := hE29.trans0 st38
                          have hE34 : Step K0 s33 s38 := hE34.trans0 st38
                          have hE36 : Step K0 s33 s38 := hE36.trans0 st38
                          replace hp1 := hp1.up2 st38
                          replace hp2 := hp2.up2 st38
                          replace hqx18 := hqx18.up2 st38
                          replace hq32_0 := hq32_0.up2 st38
                          replace h1_0 := h1_0.up2 st38
                          replace h2_0 := h2_0.up2 st38
                          refine k_yes rfl rfl ?_
                          refine k_not rfl rfl ?_
                          refine k_yes rfl rfl ?_
                          refine k_pickT rfl rfl rfl rfl ?_
                          exact k_met ⟨s38, ⟨(congrArg (fun b => some (Value.bool b)) (Option.some.inj hx21)), trivial⟩, ⟨rfl, rfl, rfl, rfl, rfl, rfl, rfl, rfl, rfl, rfl, rfl, rfl, rfl, rfl, rfl, rfl, rfl, rfl, rfl, trivial⟩, rfl, hE36⟩
                        · -- t68 False
                          have hx21 := itF hx21 c37
                          refine k_no rfl rfl rfl rfl ?_
                          refine k_no rfl rfl rfl rfl ?_
                          refine k_no rfl rfl rfl rfl ?_
                          refine k_no rfl rfl rfl rfl ?_
                          refine k_yes rfl rfl ?_
                          refine k_pickF rfl rfl rfl rfl ?_
                          exact k_met ⟨s33, ⟨(congrArg (fun b => some (Value.bool b)) (Option.some.inj hx21)), trivial⟩, ⟨rfl, rfl, rfl, rfl, rfl, rfl, rfl, rfl, rfl, rfl, rfl, rfl, rfl, rfl, rfl, rfl, rfl, rfl, rfl, trivial⟩, rfl, hE36⟩
                      · -- behind
                        rintro s39 wL ⟨rfl, hE36⟩
                        have szs39 := hE36.size
                        have hS : Step K0 s s39 := hS.trans0 hE36
                        have hE28 : Step (KU (KO ku1_0) (KO ku2_0)) s26 s39 := hE28.trans0 hE36
                        have hE29 : Step (KU (KO ku1_0) (KO ku2_0)) s26 s39 := hE29.trans0 hE36
                        have hE34 : Step K0 s33 s39 := hE34.trans0 hE36
                        replace hp1 := hp1.up2 hE36
                        replace hp2 := hp2.up2 hE36
                        replace hqx18 := hqx18.up2 hE36
                        replace hq32_0 := hq32_0.up2 hE36
                        replace h1_0 := h1_0.up2 hE36
                        replace h2_0 := h2_0.up2 hE36
                        refine k_pickF rfl rfl rfl rfl ?_
                        exact k_met ⟨s39, ⟨(congrArg (fun b => some (Value.bool b)) (Option.some.inj hx20)), trivial⟩, ⟨rfl, rfl, rfl, rfl, rfl, rfl, rfl, rfl, rfl, rfl, rfl, rfl, rfl, rfl, rfl, trivial⟩, rfl, hE34⟩
                  · -- behind
                    rintro s40 wL ⟨rfl, hE34⟩
                    have szs40 := hE34.size
                    have hS : Step K0 s s40 := hS.trans0 hE34
                    have hE28 : Step (KU (KO ku1_0) (KO ku2_0)) s26 s40 := hE28.trans0 hE34
                    have hE29 : Step (KU (KO ku1_0) (KO ku2_0)) s26 s40 := hE29.trans0 hE34
                    replace hp1 := hp1.up2 hE34
                    replace hp2 := hp2.up2 hE34
                    replace hqx18 := hqx18.up2 hE34
                    replace hq32_0 := hq32_0.up2 hE34
                    replace h1_0 := h1_0.up2 hE34
                    replace h2_0 := h2_0.up2 hE34
                    refine k_nil ?_
                    refine k_keep [(1, _), (2, _), (6, _), (7, _), (9, _), (10, _), (74, _)] ⟨rfl, rfl, rfl, rfl, rfl, rfl, rfl, trivial⟩ ?_
                    refine k_cond rfl (fun c41 => ?_) (fun c41 => ?_)
                    · -- T
                      have h := ibT h c41
                      refine k_seq ?_
                      refine k_region ?_
                      refine k_assign rfl rfl ?_
                      refine k_nil ?_
                      refine k_keep [(1, _), (2, _), (6, _), (7, _), (9, _), (10, _)] ⟨rfl, rfl, rfl, rfl, rfl, rfl, trivial⟩ ?_
                      refine k_ret ?_
                      obtain rfl := Option.some.inj h
                      refine ⟨_, rfl, Ret.mk hS ?_⟩
                      exact rfl
                    · -- F
                      have h := ibF h c41
                      refine k_skip ?_
                      refine k_blk ?_
                      refine k_region ?_
                      refine k_move rfl rfl ?_
                      refine k_add rfl rfl rfl ?_
                      refine k_assign rfl rfl ?_
                      refine k_nil ?_
                      exact k_stop ⟨(s40, i64 (x15 + 1), x19.2.1, x19.2.2, j), ⟨(by first | rfl | (simp <;> rfl)), trivial⟩, ⟨rfl, rfl, rfl, rfl, rfl, trivial⟩, ⟨rfl, hE29, h1_0, h2_0, h⟩, (by simp)⟩
                · -- F
                  have h := itF h c31
                  refine k_exit rfl ?_
                  exact k_stop ⟨(s30, x16, x17), trivial, ⟨rfl, rfl, rfl, rfl, trivial⟩, ⟨rfl, hE28, h1_0, h2_0, h⟩⟩
              · -- behind
                rintro ⟨s42, x13, x14⟩ wL ⟨rfl, hE28, h1_0, h2_0, h⟩
                rw [hK28] at h
                have szs42 := hE28.size
                have hS : Step K0 s s42 := hS.comp hE28 (by intro l hl hk; (try simp only [KC, KO, KU, KN, K0] at hk ⊢) <;> omega)
                replace hp2 := hp2.up2 hE28
                refine k_seq ?_
                refine k_region ?_
                refine k_move rfl rfl ?_
                obtain ⟨x23, hx23, h⟩ := ob h
                refine k_call cal22 rfl (net_Net_Copy_w  h1_0 hx23) rfl ?_
                rintro s43 v43_0 st43 ⟨ku43_0, _, rfl, hk43_0, h43_0⟩
                have szs43 := st43.size
                have hS : Step K0 s s43 := hS.trans0 st43
                replace hp2 := hp2.up2 st43
                replace h1_0 := h1_0.up2 st43
                replace h2_0 := h2_0.up2 st43
                have ol43_0 := OptONetNet.le (k := ku43_0) h43_0
                refine k_assign rfl rfl ?_
                refine k_nil ?_
                refine k_keep [(2, _), (6, _), (7, _), (9, _), (11, _)] ⟨rfl, rfl, rfl, rfl, rfl, trivial⟩ ?_
                refine k_seq ?_
                refine k_region ?_
                refine k_move rfl rfl ?_
                obtain ⟨wt44_0, hb_t44, hwt44_0⟩ := h2_0.at_
                refine k_nilCheck rfl rfl ?_
                refine k_load_blka (cs := [.int .i64 x14.Replicas, wt44_0]) agg58 rfl hb_t44 rfl ?_
                refine k_alloc zero58 rfl ?_
                intro s45 b45 st45 h45 ge45
                have szs45 := st45.size
                have hS : Step K0 s s45 := hS.trans0 st45
                replace hp2 := hp2.up2 st45
                replace hwt44_0 := hwt44_0.up2 st45
                replace h1_0 := h1_0.up2 st45
                replace hb_t44 := hb_t44.up2 st45
                replace h43_0 : OptONetNet s45 ku43_0 v43_0 x23 := OptONetNet.up3 h43_0 ol43_0 st45
                have lt45 := h45.lt
                refine k_store_c (cs' := [.int .i64 x14.Replicas, wt44_0]) size58 rfl rfl h45 (by first | (simp; done) | omega | (dsimp only; omega)) (CellsOf.lit (vs := [.int .i64 x14.Replicas, wt44_0]) rfl (ones.cons rfl (ones.cons ((SL.of_R hwt44_0)).one1 ones.nil))) rfl (by first | rfl | (simp; done) | (simp; omega)) rfl ?_
                intro s46 st46 h45
                have szs46 := st46.size
                have hS : Step K0 s s46 := hS.comp st46 (by intro l hl hk; (try simp only [KC, KO, KU, KN, K0] at hk ⊢) <;> omega)
                replace hp2 := hp2.up2 st46
                replace hwt44_0 := hwt44_0.up2 st46
                replace h1_0 := h1_0.up2 st46
                replace hb_t44 := hb_t44.up2 st46
                replace h43_0 : OptONetNet s46 ku43_0 v43_0 x23 := OptONetNet.up3 h43_0 ol43_0 st46
                refine k_nil ?_
                refine k_keep [(2, _), (6, _), (7, _), (9, _), (11, _), (12, _)] ⟨rfl, rfl, rfl, rfl, rfl, rfl, trivial⟩ ?_
                refine k_seq ?_
                obtain ⟨x24, hx24, h⟩ := ob h
                replace ol43_0 := ol43_0.resolve_left (fun e => by rw [e] at hx24; cases hx24)
                rw [hx24] at h43_0
                replace h43_0 : ONetNet s46 ku43_0 v43_0 x24 := h43_0
                have le47 := h43_0.le
                have ne47 := h43_0.ne
                obtain ⟨kj25, hK48, h⟩ := jn_out h
                have hE48 : Step (KU (KO ku43_0) (KO (b45 + 1))) s46 s46 := (Step.refl _).of0 (by first | exact fun _ h => h | (intro c h; simp [KC, KO, KU, KN] at h <;> omega))
                refine k_cutc (X := St × NetNet × Int × (List Ref22Letter) × Value) [(6, .bool false), (7, v1_0), (9, .pointer (some ⟨pb10, 0, none⟩)), (11, v43_0), (12, .pointer (some ⟨b45, 0, none⟩))] (fun (xL : St × NetNet × Int × (List Ref22Letter) × Value) => match xL with | (sl, x26, x27, x28, v49) => []) (fun (xL : St × NetNet × Int × (List Ref22Letter) × Value) (wL : World) => match xL with | (sl, x26, x27, x28, v49) => sl.w = wL ∧ Step (KU (KO ku43_0) (KO (b45 + 1))) s46 sl ∧ (ONetNet sl ku43_0 v43_0 x26) ∧ (R sl v49 (.sl 4 (x28.map dRef22Letter))) ∧ (Blk sl b45 ⟨b45 + 1, 0⟩ [.int .i64 x27, v49] 58) ∧ kj25 x26 x27 x28 = some r) ?_ ?_
                · -- the ways
                  refine k_seq ?_
                  refine k_region ?_
                  refine k_assign rfl rfl ?_
                  refine k_nil ?_
                  refine k_block ?_
                  refine k_loopc (X := St × Int × NetNet × Int × (List Ref22Letter) × Value × Nat) [(2, _), (6, _), (7, _), (9, _), (11, _), (12, _)] (fun (xL : St × Int × NetNet × Int × (List Ref22Letter) × Value × Nat) => match xL with | (sl, x29, x30, x31, x32, v51, j) => [(13, .int .i64 x29)]) (fun (xL : St × Int × NetNet × Int × (List Ref22Letter) × Value × Nat) (wL : World) => match xL with | (sl, x29, x30, x31, x32, v51, j) => sl.w = wL ∧ Step (KU (KO ku43_0) (KO (b45 + 1))) s46 sl ∧ (ONetNet sl ku43_0 v43_0 x30) ∧ (R sl v51 (.sl 4 (x32.map dRef22Letter))) ∧ (Blk sl b45 ⟨b45 + 1, 0⟩ [.int .i64 x31, v51] 58) ∧ law22_NetCalls_l2 a2 kj25 j x29 x30 x31 x32 = some r) (fun (xL : St × Int × NetNet × Int × (List Ref22Letter) × Value × Nat) => match xL with | (sl, x29, x30, x31, x32, v51, j) => j) (s46, 0, x24, x14.Replicas, x14.All, wt44_0, FU) ⟨rfl, rfl, rfl, rfl, rfl, rfl, trivial⟩ ⟨(by first | rfl | (simp <;> rfl)), trivial⟩ ⟨rfl, (Step.refl _).of0 (by first | exact fun _ h => h | (intro c h; simp [KC, KO, KU, KN] at h <;> omega)), h43_0, hwt44_0, h45, h⟩ ?_
                  rintro ⟨s52, x29, x30, x31, x32, v51, j⟩ wL ⟨rfl, hE50, h43_0, h51, h45, h⟩
                  cases j with
                  | zero => rw [law22_NetCalls_l2] at h; exact (noneNe h).elim
                  | succ j =>
                  rw [law22_NetCalls_l2] at h
                  have szs52 := hE50.size
                  have hS : Step K0 s s52 := hS.comp hE50 (by intro l hl hk; (try simp only [KC, KO, KU, KN, K0] at hk ⊢) <;> omega)
                  have hE48 : Step (KU (KO ku43_0) (KO (b45 + 1))) s46 s52 := hE48.comp hE50 (by intro l hl hk; (try simp only [KC, KO, KU, KN, K0] at hk ⊢) <;> omega)
                  replace hp2 := hp2.up2 hE50
                  replace h1_0 := h1_0.up2 hE50
                  replace hwt44_0 := hwt44_0.up2 hE50
                  replace hb_t44 := hb_t44.up2 hE50
                  refine k_seq ?_
                  refine k_seq ?_
                  refine k_region ?_
                  refine k_move rfl rfl ?_
                  refine k_move rfl rfl ?_
                  refine k_len Try.underlying22 rfl hp2.hasLen rfl ?_
                  refine k_as (v := .int .i64 (a2.length : Int)) (by simp only [List.length_map]) ?_
                  refine k_lss rfl rfl rfl ?_
                  refine k_nil ?_
                  refine k_keep [(2, _), (6, _), (7, _), (9, _), (11, _), (12, _), (13, _), (83, _)] ⟨rfl, rfl, rfl, rfl, rfl, rfl, rfl, rfl, trivial⟩ ?_
                  refine k_cond_dec rfl (fun c53 => ?_) (fun c53 => ?_)
                  · -- T
                    have h := itT h c53
                    refine k_skip ?_
                    refine k_seq ?_
                    refine k_block ?_
                    refine k_seq ?_
                    refine k_region ?_
                    refine k_move rfl rfl ?_
                    refine k_move rfl rfl ?_
                    refine k_move rfl rfl ?_
                    obtain ⟨x33, hx33, h⟩ := ob h
                    refine k_ixaddr Try.underlying22 size32 rfl rfl hp2 (geti_out hx33).1 (geti_map hx33) rfl ?_
                    intro qx33 hqx33
                    refine k_load_agg (by exact agg32) rfl hqx33 rfl ?_
                    intro cs54 h54
                    obtain ⟨q54_0, rfl, hq54_0⟩ := opnLaw22Call h54
                    obtain ⟨x34, hx34, h⟩ := ob h
                    refine k_call cal20 rfl (law22_call_w (a2 := x33) h43_0 (ORef22Net.mk_ (⟨x31, x32⟩ : Ref22Net) (by omega) h51 h45) (SL.of_R hq54_0) (by first | assumption | omega | (simp <;> omega)) (by first | assumption | omega | (simp <;> omega)) (by first | assumption | omega | (simp <;> omega)) hx34) rfl ?_
                    rintro s55 vr55 st55 ⟨rfl, h43_0, hm55_1⟩
                    obtain ⟨w55_1_0, hb_55_1, hw55_1_0⟩ := hm55_1.at_
                    have szs55 := st55.size
                    have hS : Step K0 s s55 := hS.comp st55 (by intro l hl hk; (try simp only [KC, KO, KU, KN, K0] at hk ⊢) <;> omega)
                    have hE48 : Step (KU (KO ku43_0) (KO (b45 + 1))) s46 s55 := hE48.comp st55 (by intro l hl hk; (try simp only [KC, KO, KU, KN, K0] at hk ⊢) <;> omega)
                    have hE50 : Step (KU (KO ku43_0) (KO (b45 + 1))) s46 s55 := hE50.comp st55 (by intro l hl hk; (try simp only [KC, KO, KU, KN, K0] at hk ⊢) <;> omega)
                    replace hp2 := hp2.up2 st55
                    replace hqx33 := hqx33.up2 st55
                    replace hq54_0 := hq54_0.up2 st55
                    replace h1_0 := h1_0.up2 st55
                    replace hwt44_0 := hwt44_0.up2 st55
                    replace hb_t44 := hb_t44.up2 st55
                    refine k_not rfl rfl ?_
                    refine k_nil ?_
                    refine k_keep [(2, _), (6, _), (7, _), (9, _), (11, _), (12, _), (13, _), (92, _)] ⟨rfl, rfl, rfl, rfl, rfl, rfl, rfl, rfl, trivial⟩ ?_
                    refine k_cond rfl (fun c56 => ?_) (fun c56 => ?_)
                    · -- T
                      have h := ibT h c56
                      refine k_seq ?_
                      refine k_region ?_
                      refine k_assign rfl rfl ?_
                      refine k_nil ?_
                      refine k_keep [(2, _), (6, _), (7, _), (9, _), (11, _), (12, _), (13, _)] ⟨rfl, rfl, rfl, rfl, rfl, rfl, rfl, trivial⟩ ?_
                      refine k_ret ?_
                      obtain rfl := Option.some.inj h
                      refine ⟨_, rfl, Ret.mk hS ?_⟩
                      exact rfl
                    · -- F
                      have h := ibF h c56
                      refine k_skip ?_
                      refine k_blk ?_
                      refine k_region ?_
                      refine k_move rfl rfl ?_
                      refine k_add rfl rfl rfl ?_
                      refine k_assign rfl rfl ?_
                      refine k_nil ?_
                      exact k_stop ⟨(s55, i64 (x29 + 1), x34.2.1, x34.2.2.Replicas, x34.2.2.All, w55_1_0, j), ⟨(by first | rfl | (simp <;> rfl)), trivial⟩, ⟨rfl, rfl, rfl, rfl, rfl, rfl, trivial⟩, ⟨rfl, hE50, h43_0, hw55_1_0, hb_55_1, h⟩, (by simp)⟩
                  · -- F
                    have h := itF h c53
                    refine k_exit rfl ?_
                    exact k_stop ⟨(s52, x30, x31, x32, v51), trivial, ⟨rfl, rfl, rfl, rfl, rfl, trivial⟩, ⟨rfl, hE48, h43_0, h51, h45, h⟩⟩
                · -- behind
                  rintro ⟨s57, x26, x27, x28, v49⟩ wL ⟨rfl, hE48, h43_0, h49, h45, h⟩
                  rw [hK48] at h
                  have szs57 := hE48.size
                  have hS : Step K0 s s57 := hS.comp hE48 (by intro l hl hk; (try simp only [KC, KO, KU, KN, K0] at hk ⊢) <;> omega)
                  replace h1_0 := h1_0.up2 hE48
                  replace hwt44_0 := hwt44_0.up2 hE48
                  replace hb_t44 := hb_t44.up2 hE48
                  refine k_seq ?_
                  refine k_region ?_
                  refine k_move rfl rfl ?_
                  refine k_move rfl rfl ?_
                  obtain ⟨x35, hx35, h⟩ := ob h
                  refine k_call cal21 rfl (law22_shows_w  h1_0 (ORef22Net.mk_ x14 (by omega) hwt44_0 hb_t44) hx35) rfl ?_
                  rintro s58 vr58 st58 rfl
                  have szs58 := st58.size
                  have hS : Step K0 s s58 := hS.trans0 st58
                  replace h1_0 := h1_0.up2 st58
                  replace hwt44_0 := hwt44_0.up2 st58
                  replace hb_t44 := hb_t44.up2 st58
                  replace h43_0 := h43_0.up2 st58
                  replace h49 := h49.up2 st58
                  replace h45 := h45.up2 st58
                  refine k_move rfl rfl ?_
                  obtain ⟨x36, hx36, h⟩ := ob h
                  have hE59 : Step K0 s58 s58 := (Step.refl _).of0 (by first | exact fun _ h => h | (intro c h; simp [KC, KO, KU, KN] at h <;> omega))
                  refine k_cutl (X := St) 3 [(6, .bool false), (7, v1_0), (9, .pointer (some ⟨pb10, 0, none⟩)), (11, v43_0), (12, .pointer (some ⟨b45, 0, none⟩)), (93, v1_0), (94, .pointer (some ⟨pb10, 0, none⟩)), (95, .bool x35)] (fun _ => [(99, .bool x36)]) (fun sl wL => sl.w = wL ∧ Step K0 s58 sl) ?_ ?_
                  · -- the ways
                    refine k_again 96 rfl ?_
                    refine k_splitb (fun c60 => ?_) (fun c60 => ?_)
                    · -- t96 True
                      have hx36 := ibT hx36 c60
                      refine k_yes rfl rfl ?_
                      refine k_move rfl rfl ?_
                      refine k_yes rfl rfl ?_
                      obtain ⟨x37, hx37, hx36⟩ := ob hx36
                      refine k_call cal21 rfl (law22_shows_w  h43_0 (ORef22Net.mk_ (⟨x27, x28⟩ : Ref22Net) (by omega) h49 h45) hx37) rfl ?_
                      rintro s61 vr61 st61 rfl
                      have szs61 := st61.size
                      have hS : Step K0 s s61 := hS.trans0 st61
                      have hE59 : Step K0 s58 s61 := hE59.trans0 st61
                      replace h1_0 := h1_0.up2 st61
                      replace hwt44_0 := hwt44_0.up2 st61
                      replace hb_t44 := hb_t44.up2 st61
                      replace h43_0 := h43_0.up2 st61
                      replace h49 := h49.up2 st61
                      replace h45 := h45.up2 st61
                      refine k_pickT rfl rfl rfl rfl ?_
                      exact k_met ⟨s61, ⟨(congrArg (fun b => some (Value.bool b)) (Option.some.inj hx36)), trivial⟩, ⟨rfl, rfl, rfl, rfl, rfl, rfl, rfl, rfl, trivial⟩, rfl, hE59⟩
                    · -- t96 False
                      have hx36 := ibF hx36 c60
                      refine k_no rfl rfl rfl rfl ?_
                      refine k_no rfl rfl rfl rfl ?_
                      refine k_pickF rfl rfl rfl rfl ?_
                      exact k_met ⟨s58, ⟨(congrArg (fun b => some (Value.bool b)) (Option.some.inj hx36)), trivial⟩, ⟨rfl, rfl, rfl, rfl, rfl, rfl, rfl, rfl, trivial⟩, rfl, hE59⟩
                  · -- behind
                    rintro s62 wL ⟨rfl, hE59⟩
                    have szs62 := hE59.size
                    have hS : Step K0 s s62 := hS.trans0 hE59
                    replace h1_0 := h1_0.up2 hE59
                    replace hwt44_0 := hwt44_0.up2 hE59
                    replace hb_t44 := hb_t44.up2 hE59
                    replace h43_0 := h43_0.up2 hE59
                    replace h49 := h49.up2 hE59
                    replace h45 := h45.up2 hE59
                    refine k_move rfl rfl ?_
                    obtain ⟨x38, hx38, h⟩ := ob h
                    have hE63 : Step K0 s62 s62 := (Step.refl _).of0 (by first | exact fun _ h => h | (intro c h; simp [KC, KO, KU, KN] at h <;> omega))
                    refine k_cutl (X := St) 2 [(6, .bool false), (7, v1_0), (9, .pointer (some ⟨pb10, 0, none⟩)), (11, v43_0), (12, .pointer (some ⟨b45, 0, none⟩)), (93, v1_0), (94, .pointer (some ⟨pb10, 0, none⟩)), (95, .bool x35), (99, .bool x36)] (fun _ => [(102, .bool x38)]) (fun sl wL => sl.w = wL ∧ Step K0 s62 sl) ?_ ?_
                    · -- the ways
                      refine k_again 100 rfl ?_
                      refine k_splitb (fun c64 => ?_) (fun c64 => ?_)
                      · -- t100 True
                        have hx38 := ibT hx38 c64
                        refine k_yes rfl rfl ?_
                        obtain ⟨x39, hx39, hx38⟩ := ob hx38
                        refine k_call cal10 rfl (law22_awake_w   hx39) rfl ?_
                        rintro s65 vr65 st65 rfl
                        have szs65 := st65.size
                        have hS : Step K0 s s65 := hS.trans0 st65
                        have hE63 : Step K0 s62 s65 := hE63.trans0 st65
                        replace h1_0 := h1_0.up2 st65
                        replace hwt44_0 := hwt44_0.up2 st65
                        replace hb_t44 := hb_t44.up2 st65
                        replace h43_0 := h43_0.up2 st65
                        replace h49 := h49.up2 st65
                        replace h45 := h45.up2 st65
                        refine k_pickT rfl rfl rfl rfl ?_
                        exact k_met ⟨s65, ⟨(congrArg (fun b => some (Value.bool b)) (Option.some.inj hx38)), trivial⟩, ⟨rfl, rfl, rfl, rfl, rfl, rfl, rfl, rfl, rfl, trivial⟩, rfl, hE63⟩
                      · -- t100 False
                        have hx38 := ibF hx38 c64
                        refine k_no rfl rfl rfl rfl ?_
                        refine k_pickF rfl rfl rfl rfl ?_
                        exact k_met ⟨s62, ⟨(congrArg (fun b => some (Value.bool b)) (Option.some.inj hx38)), trivial⟩, ⟨rfl, rfl, rfl, rfl, rfl, rfl, rfl, rfl, rfl, trivial⟩, rfl, hE63⟩
                    · -- behind
                      rintro s66 wL ⟨rfl, hE63⟩
                      have szs66 := hE63.size
                      have hS : Step K0 s s66 := hS.trans0 hE63
                      replace h1_0 := h1_0.up2 hE63
                      replace hwt44_0 := hwt44_0.up2 hE63
                      replace hb_t44 := hb_t44.up2 hE63
                      replace h43_0 := h43_0.up2 hE63
                      replace h49 := h49.up2 hE63
                      replace h45 := h45.up2 hE63
                      refine k_assign rfl rfl ?_
                      refine k_nil ?_
                      refine k_keep [(6, _)] ⟨rfl, trivial⟩ ?_
                      refine k_ret ?_
                      obtain rfl := Option.some.inj h
                      refine ⟨_, rfl, Ret.mk hS ?_⟩
                      exact rfl
end Go.Proofs
