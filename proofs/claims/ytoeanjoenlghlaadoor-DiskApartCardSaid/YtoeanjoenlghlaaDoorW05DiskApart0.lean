import Derived.Test.YtoeanjoenlghlaaDoorF05
set_option linter.unusedSimpArgs false
set_option linter.unusedVariables false
namespace Go.Proofs
open Go.Fw
set_option maxHeartbeats 1000000 in
set_option maxRecDepth 100000 in
theorem law05_many_w {s : St} {l0 : Lab} {v0 : Value} {a0 : (List Law05Call)} {r : Bool} (hp0 : SL s l0 v0 7 (a0.map dLaw05Call)) (h : law05_many a0 = some r) : Calls Tryd.prog 12 #[v0] s.w (Ret s K0 (fun s1 v => v = .bool r)) := by
 unfold law05_many at h
 obtain ⟨lf0, lf0le, lf0ne, hp0⟩ := hp0.fix
 have hS := Step.r0 K0 s
 refine k_fn (rs := [2]) (args := [v0]) Tryd.func12 rfl rfl rfl rfl ?_
 refine k_seq ?_
 refine k_region ?_
 refine k_assign rfl rfl ?_
 refine k_nil ?_
 refine k_seq ?_
 refine k_region ?_
 refine k_assign rfl rfl ?_
 refine k_nil ?_
 refine k_seq ?_
 obtain ⟨kj1, hK1, h⟩ := jn_out h
 have hE1 := Step.r0 K0 s
 refine k_cutc (X := St) [(2, .bool false)] (fun (xL : St) => match xL with | sl => []) (fun (xL : St) (wL : World) => match xL with | sl => sl.w = wL ∧ Step K0 s sl ∧ kj1 () = some r) ?_ ?_
 ·
  refine k_seq ?_
  refine k_region ?_
  refine k_assign rfl rfl ?_
  refine k_nil ?_
  refine k_block ?_
  refine k_loopc (X := St × Int × Int × Nat) [(0, _), (2, _)] (fun (xL : St × Int × Int × Nat) => match xL with | (sl, x2, x3, j) => [(3, .int .i64 x2), (4, .int .i64 x3)]) (fun (xL : St × Int × Int × Nat) (wL : World) => match xL with | (sl, x2, x3, j) => sl.w = wL ∧ Step K0 s sl ∧ law05_many_l1 a0 kj1 j x2 x3 = some r) (fun (xL : St × Int × Int × Nat) => match xL with | (sl, x2, x3, j) => j) (s, 0, 0, FU) ⟨rfl, rfl, trivial⟩ ⟨(by first | rfl | (simp <;> rfl)), (by first | rfl | (simp <;> rfl)), trivial⟩ ⟨rfl, (Step.refl _).of0 (by first | exact fun _ h => h | (intro c h; simp [KC, KO, KU, KN, KB] at h <;> omega)), h⟩ ?_
  rintro ⟨s3, x2, x3, j⟩ wL ⟨rfl, hE2, h⟩
  cases j with
  | zero => rw [law05_many_l1] at h; exact (noneNe h).elim
  | succ j =>
  rw [law05_many_l1] at h
  have szs3 := hE2.size
  have hS := hS.trans0 hE2
  have hE1 := hE1.trans0 hE2
  replace hp0 := hp0.up2 hE2
  refine k_seq ?_
  refine k_seq ?_
  refine k_region ?_
  refine k_move rfl rfl ?_
  refine k_move rfl rfl ?_
  refine k_len Tryd.underlying22 rfl hp0.hasLen rfl ?_
  refine k_as (v := .int .i64 (a0.length : Int)) (by simp only [List.length_map]) ?_
  refine k_lss rfl rfl rfl ?_
  refine k_nil ?_
  refine k_keep [(0, _), (2, _), (3, _), (4, _), (8, _)] ⟨rfl, rfl, rfl, rfl, rfl, trivial⟩ ?_
  refine k_cond_dec rfl (fun c4 => ?_) (fun c4 => ?_)
  ·
   have h := itT h c4
   refine k_skip ?_
   refine k_seq ?_
   refine k_block ?_
   refine k_seq ?_
   refine k_keep [(0, _), (2, _), (3, _), (4, _)] ⟨rfl, rfl, rfl, rfl, trivial⟩ ?_
   refine k_drawT (KN s3.n) 25 (.read 0 (.read 1 (.read 2 (.read 3 (.read 4 (.read 5 (.read 6 (.read 7 (.read 8 (.read 9 (.read 10 (.read 11 (.read 12 (.read 13 (.read 14 (.read 15 (.read 16 (.read 17 (.read 18 (.read 19 (.read 20 (.read 21 (.read 22 (.read 23 (.read 24 .fin))))))))))))))))))))))))) mixed (by intro c h; (try simp only [KC, KO, KU, KN, KB] at h) <;> omega) rfl rfl rfl ?_
   intro s5 st5
   have szs5 := st5.size
   have hS := hS.trans0 st5
   have hE1 := hE1.trans0 st5
   have hE2 := hE2.trans0 st5
   replace hp0 := hp0.up2 st5
   refine rt_read (.int .i64 x2) rfl rfl (fun s6 st6 => ?_) ?_
   ·refine k_move rfl rfl ?_
    exact fq_end
   refine rt_read (v0) rfl rfl (fun s7 st7 => ?_) ?_
   ·refine k_move rfl rfl ?_
    exact fq_end
   refine rt_read (.int .i64 x3) rfl rfl (fun s8 st8 => ?_) ?_
   ·refine k_move rfl rfl ?_
    exact fq_end
   obtain ⟨x4, hx4, h⟩ := ob h
   refine rt_ix rfl (wanted_none rfl) Tryd.underlying22 size31 rfl rfl hp0 (geti_out hx4).1 (geti_map hx4) rfl ?_
   intro q9 hq9
   refine rt_fa rfl (wanted_none rfl) rfl hq9 (by rfl) fld31_3 rfl ?_
   intro q10 h10
   refine rt_ldsl rfl (wanted_none rfl) one29 rfl h10 (by first | exact id | (simp only [KC, KO, KU, KN, KB] <;> omega)) rfl ?_
   intro v11 h11
   refine rt_read (.int .i64 (x4.Bytes.length : Int)) rfl rfl (fun s12 st12 => ?_) ?_
   ·try replace h11 := h11.up2 st12
    refine k_len Tryd.underlying29 rfl (SL.of_R h11).hasLen rfl ?_
    refine k_as (v := .int .i64 (x4.Bytes.length : Int)) (by simp only [List.length_map]) ?_
    exact fq_end
   refine rt_read (.int .i64 (i64 ((x4.Bytes.length : Int).tdiv 100))) rfl rfl (fun s13 st13 => ?_) ?_
   ·refine k_quo rfl rfl (by decide) rfl ?_
    exact fq_end
   refine rt_read (.int .i64 (i64 (1 + (i64 ((x4.Bytes.length : Int).tdiv 100))))) rfl rfl (fun s14 st14 => ?_) ?_
   ·refine k_add rfl rfl rfl ?_
    exact fq_end
   refine rt_read (v0) rfl rfl (fun s15 st15 => ?_) ?_
   ·refine k_move rfl rfl ?_
    exact fq_end
   refine rt_read (.int .i64 x3) rfl rfl (fun s16 st16 => ?_) ?_
   ·refine k_move rfl rfl ?_
    exact fq_end
   obtain ⟨x5, hx5, h⟩ := ob h
   refine rt_ix rfl (wanted_none rfl) Tryd.underlying22 size31 rfl rfl hp0 (geti_out hx5).1 (geti_map hx5) rfl ?_
   intro q17 hq17
   refine rt_fa rfl (wanted_none rfl) rfl hq17 (by rfl) fld31_1 rfl ?_
   intro q18 h18
   refine rt_read (S x5.A) rfl rfl (fun s19 st19 => ?_) ?_
   ·try replace h18 := h18.up2 st19
    refine k_load_val one9 rfl h18 rfl ?_
    exact fq_end
   refine rt_read (.int .i64 (x5.A.length : Int)) rfl rfl (fun s20 st20 => ?_) ?_
   ·refine k_len_str Tryd.underlying9 rfl rfl ?_
    exact fq_end
   refine rt_read (v0) rfl rfl (fun s21 st21 => ?_) ?_
   ·refine k_move rfl rfl ?_
    exact fq_end
   refine rt_read (.int .i64 x3) rfl rfl (fun s22 st22 => ?_) ?_
   ·refine k_move rfl rfl ?_
    exact fq_end
   obtain ⟨x6, hx6, h⟩ := ob h
   refine rt_ix rfl (wanted_none rfl) Tryd.underlying22 size31 rfl rfl hp0 (geti_out hx6).1 (geti_map hx6) rfl ?_
   intro q23 hq23
   refine rt_fa rfl (wanted_none rfl) rfl hq23 (by rfl) fld31_2 rfl ?_
   intro q24 h24
   refine rt_read (S x6.B) rfl rfl (fun s25 st25 => ?_) ?_
   ·try replace h24 := h24.up2 st25
    refine k_load_val one9 rfl h24 rfl ?_
    exact fq_end
   refine rt_read (.int .i64 (x6.B.length : Int)) rfl rfl (fun s26 st26 => ?_) ?_
   ·refine k_len_str Tryd.underlying9 rfl rfl ?_
    exact fq_end
   refine rt_read (.int .i64 (i64 ((x5.A.length : Int) + (x6.B.length : Int)))) rfl rfl (fun s27 st27 => ?_) ?_
   ·refine k_add rfl rfl rfl ?_
    exact fq_end
   refine rt_read (.int .i64 (i64 ((i64 ((x5.A.length : Int) + (x6.B.length : Int))).tdiv 100))) rfl rfl (fun s28 st28 => ?_) ?_
   ·refine k_quo rfl rfl (by decide) rfl ?_
    exact fq_end
   refine rt_read (.int .i64 (i64 ((i64 (1 + (i64 ((x4.Bytes.length : Int).tdiv 100)))) + (i64 ((i64 ((x5.A.length : Int) + (x6.B.length : Int))).tdiv 100))))) rfl rfl (fun s29 st29 => ?_) ?_
   ·refine k_add rfl rfl rfl ?_
    exact fq_end
   refine rt_read (.int .i64 (i64 (x2 + (i64 ((i64 (1 + (i64 ((x4.Bytes.length : Int).tdiv 100)))) + (i64 ((i64 ((x5.A.length : Int) + (x6.B.length : Int))).tdiv 100))))))) rfl rfl (fun s30 st30 => ?_) ?_
   ·refine k_add rfl rfl rfl ?_
    exact fq_end
   refine rt_fin ?_
   refine k_assign rfl rfl ?_
   refine k_nil ?_
   refine k_keep [(0, _), (2, _), (3, _), (4, _)] ⟨rfl, rfl, rfl, rfl, trivial⟩ ?_
   refine k_seq ?_
   refine k_region ?_
   refine k_move rfl rfl ?_
   refine k_gtr rfl rfl rfl ?_
   refine k_nil ?_
   refine k_keep [(0, _), (2, _), (3, _), (4, _), (37, _)] ⟨rfl, rfl, rfl, rfl, rfl, trivial⟩ ?_
   refine k_cond_dec rfl (fun c31 => ?_) (fun c31 => ?_)
   ·
    have h := itT h c31
    refine k_seq ?_
    refine k_region ?_
    refine k_assign rfl rfl ?_
    refine k_nil ?_
    refine k_keep [(0, _), (2, _), (3, _), (4, _)] ⟨rfl, rfl, rfl, rfl, trivial⟩ ?_
    refine k_ret ?_
    obtain rfl := Option.some.inj h
    refine ⟨_, rfl, Ret.mk hS ?_⟩
    exact rfl
   ·
    have h := itF h c31
    refine k_skip ?_
    refine k_blk ?_
    refine k_region ?_
    refine k_move rfl rfl ?_
    refine k_add rfl rfl rfl ?_
    refine k_assign rfl rfl ?_
    refine k_nil ?_
    exact k_stop ⟨(s5, i64 (x2 + (i64 ((i64 (1 + (i64 ((x4.Bytes.length : Int).tdiv 100)))) + (i64 ((i64 ((x5.A.length : Int) + (x6.B.length : Int))).tdiv 100))))), i64 (x3 + 1), j), ⟨(by first | rfl | (simp <;> rfl)), (by first | rfl | (simp <;> rfl)), trivial⟩, ⟨rfl, rfl, trivial⟩, ⟨rfl, hE2, h⟩, (by simp)⟩
  ·
   have h := itF h c4
   refine k_exit rfl ?_
   exact k_stop ⟨s3, trivial, ⟨rfl, trivial⟩, ⟨rfl, hE1, h⟩⟩
 ·
  rintro s32 wL ⟨rfl, hE1, h⟩
  rw [hK1] at h
  have szs32 := hE1.size
  have hS := hS.trans0 hE1
  refine k_seq ?_
  refine k_region ?_
  refine k_assign rfl rfl ?_
  refine k_nil ?_
  refine k_ret ?_
  obtain rfl := Option.some.inj h
  refine ⟨_, rfl, Ret.mk hS ?_⟩
  exact rfl

set_option maxHeartbeats 1000000 in
set_option maxRecDepth 100000 in
theorem ref05_New_w {s : St} {a0 : Int} {r : (Option Ref05Disk)}  (h : ref05_New a0 = some r) : Calls Tryd.prog 21 #[.int .i64 a0] s.w (Ret s K0 (fun s1 v => ∃ (ku0 : Nat), ∃ (u0 : Value), v = u0 ∧ s.n < ku0 ∧ OptORef05Disk s1 ku0 u0 r)) := by
 unfold ref05_New at h
 have hS := Step.r0 K0 s
 refine k_fn (rs := [2]) (args := [.int .i64 a0]) Tryd.func21 rfl rfl rfl rfl ?_
 refine k_seq ?_
 refine k_region ?_
 refine k_assign rfl rfl ?_
 refine k_nil ?_
 refine k_seq ?_
 refine k_seq ?_
 refine k_region ?_
 refine k_move rfl rfl ?_
 refine k_lss rfl rfl rfl ?_
 refine k_move rfl rfl ?_
 have hE1 := Step.r0 K0 s
 refine k_cutl (X := St) 3 [(0, .int .i64 a0), (2, .pointer none), (3, .int .i64 a0), (4, .bool (decide (a0 < 0)))] (fun _ => [(8, .bool (decide ((a0 < 0) ∨ (65536 < a0))))]) (fun sl wL => sl.w = wL ∧ Step K0 s sl) ?_ ?_
 ·
  refine k_again 5 rfl ?_
  refine k_split (fun c2 => ?_) (fun c2 => ?_)
  ·
   refine k_no rfl rfl rfl rfl ?_
   refine k_no rfl rfl rfl rfl ?_
   refine k_pickT rfl rfl rfl rfl ?_
   exact k_met ⟨s, ⟨(congrArg (fun b => some (Value.bool b)) (by first | exact decide_eq_decide.2 ⟨Or.inr, fun h => h.resolve_left c2⟩ | exact (decide_eq_true (Or.inl c2)).symm | (simp [c2]; done) | (simp [c2, i64] <;> omega))), trivial⟩, ⟨rfl, rfl, rfl, rfl, trivial⟩, rfl, hE1⟩
  ·
   refine k_yes rfl rfl ?_
   refine k_move rfl rfl ?_
   refine k_yes rfl rfl ?_
   refine k_gtr rfl rfl rfl ?_
   refine k_pickF rfl rfl rfl rfl ?_
   exact k_met ⟨s, ⟨(congrArg (fun b => some (Value.bool b)) (by first | exact decide_eq_decide.2 ⟨Or.inr, fun h => h.resolve_left c2⟩ | exact (decide_eq_true (Or.inl c2)).symm | (simp [c2]; done) | (simp [c2, i64] <;> omega))), trivial⟩, ⟨rfl, rfl, rfl, rfl, trivial⟩, rfl, hE1⟩
 ·
  rintro s3 wL ⟨rfl, hE1⟩
  have szs3 := hE1.size
  have hS := hS.trans0 hE1
  refine k_nil ?_
  refine k_keep [(0, _), (2, _), (8, _)] ⟨rfl, rfl, rfl, trivial⟩ ?_
  refine k_cond_dec rfl (fun c4 => ?_) (fun c4 => ?_)
  ·
   have h := itT h c4
   refine k_seq ?_
   refine k_region ?_
   refine k_assign rfl rfl ?_
   refine k_nil ?_
   refine k_keep [(0, _), (2, _)] ⟨rfl, rfl, trivial⟩ ?_
   refine k_ret ?_
   obtain rfl := Option.some.inj h
   refine ⟨_, rfl, Ret.mk hS ?_⟩
   exact ⟨s3.n + 1, _, rfl, by omega, rfl⟩
  ·
   have h := itF h c4
   refine k_skip ?_
   refine k_seq ?_
   refine k_region ?_
   refine k_move rfl rfl ?_
   refine k_bslice2 (ds := ([] : List Ref05File).map dRef05File) slc65 rfl RVs.nil (by rfl) (by rfl) rfl rfl ?_
   intro s5 v5 b5 st5 ge5 bl5 h5
   have szs5 := st5.size
   have hS := hS.trans0 st5
   have lt5 := Own.le1 h5
   obtain ⟨s6, e6, st6, h6⟩ := h5.freeze
   rw [← e6]
   have szs6 := st6.size
   have hS := hS.c0 st6
   refine k_bslice2 (ds := ([([] : List Ref05File)] : List (List Ref05File)).map (dL 2 dRef05File)) slc64 rfl (RVs.cons h6 RVs.nil) (by rfl) (by rfl) rfl rfl ?_
   intro s7 v7 b7 st7 ge7 bl7 h7
   have szs7 := st7.size
   have hS := hS.trans0 st7
   have lt7 := Own.le1 h7
   refine k_build plc68 zero68 rfl (Parts.cons (CellsOf.lit rfl rfl).1 (Parts.cons (CellsOf.sl (h7.sl)).1 Parts.nil)) (by rfl) rfl ?_
   refine k_as (v := .agg #[.int .i64 a0, .bool false, v7, .slice none 0 0, .int .i64 0, .int .i64 0, .int .i64 0]) rfl ?_
   refine k_box rfl rfl ?_
   intro s8 b8 st8 h8 ge8
   have szs8 := st8.size
   have hS := hS.trans0 st8
   replace h7 := h7.up2 st8
   have lt8 := h8.lt
   refine k_assign rfl rfl ?_
   refine k_nil ?_
   refine k_keep [(2, _)] ⟨rfl, trivial⟩ ?_
   refine k_ret ?_
   obtain ⟨s9, e9, st9, h9⟩ := h7.freeze
   rw [← e9]
   have szs9 := st9.size
   have hS := hS.c0 st9
   replace h8 := h8.up2 st9
   obtain rfl := Option.some.inj h
   refine ⟨_, rfl, Ret.mk hS ?_⟩
   exact ⟨b8 + 1, _, rfl, by omega, (ORef05Disk.mk_ (⟨a0, false, ([([] : List Ref05File)] : List (List Ref05File)), [], (⟨0, 0, 0⟩ : St66)⟩ : Ref05Disk) (by omega) h9 (R.of_SL (.inl ⟨rfl, none, 0, rfl, fun _ => rfl⟩)) h8)⟩

set_option maxHeartbeats 1000000 in
set_option maxRecDepth 100000 in
theorem ref05_Size_w {s : St} {l0 : Lab} {v0 : Value} {a0 : (List Ref05File)} {r : Int} (hp0 : SL s l0 v0 2 (a0.map dRef05File)) (h : ref05_Size a0 = some r) : Calls Tryd.prog 50 #[v0] s.w (Ret s K0 (fun s1 v => v = .int .i64 r)) := by
 unfold ref05_Size at h
 obtain ⟨lf0, lf0le, lf0ne, hp0⟩ := hp0.fix
 have hS := Step.r0 K0 s
 refine k_fn (rs := [2]) (args := [v0]) Tryd.func50 rfl rfl rfl rfl ?_
 refine k_seq ?_
 refine k_region ?_
 refine k_assign rfl rfl ?_
 refine k_nil ?_
 refine k_seq ?_
 refine k_region ?_
 refine k_assign rfl rfl ?_
 refine k_nil ?_
 refine k_seq ?_
 obtain ⟨kj1, hK1, h⟩ := jn_out h
 have hE1 := Step.r0 K0 s
 refine k_cutc (X := St × Int) [(2, .int .i64 0)] (fun (xL : St × Int) => match xL with | (sl, x2) => [(3, .int .i64 x2)]) (fun (xL : St × Int) (wL : World) => match xL with | (sl, x2) => sl.w = wL ∧ Step K0 s sl ∧ kj1 x2 = some r) ?_ ?_
 ·
  refine k_seq ?_
  refine k_region ?_
  refine k_assign rfl rfl ?_
  refine k_nil ?_
  refine k_block ?_
  refine k_loopc (X := St × Int × Int × Nat) [(0, _), (2, _)] (fun (xL : St × Int × Int × Nat) => match xL with | (sl, x3, x4, j) => [(3, .int .i64 x3), (4, .int .i64 x4)]) (fun (xL : St × Int × Int × Nat) (wL : World) => match xL with | (sl, x3, x4, j) => sl.w = wL ∧ Step K0 s sl ∧ ref05_Size_l1 a0 kj1 j x3 x4 = some r) (fun (xL : St × Int × Int × Nat) => match xL with | (sl, x3, x4, j) => j) (s, 0, 0, FU) ⟨rfl, rfl, trivial⟩ ⟨(by first | rfl | (simp <;> rfl)), (by first | rfl | (simp <;> rfl)), trivial⟩ ⟨rfl, (Step.refl _).of0 (by first | exact fun _ h => h | (intro c h; simp [KC, KO, KU, KN, KB] at h <;> omega)), h⟩ ?_
  rintro ⟨s3, x3, x4, j⟩ wL ⟨rfl, hE2, h⟩
  cases j with
  | zero => rw [ref05_Size_l1] at h; exact (noneNe h).elim
  | succ j =>
  rw [ref05_Size_l1] at h
  have szs3 := hE2.size
  have hS := hS.trans0 hE2
  have hE1 := hE1.trans0 hE2
  replace hp0 := hp0.up2 hE2
  refine k_seq ?_
  refine k_seq ?_
  refine k_region ?_
  refine k_move rfl rfl ?_
  refine k_move rfl rfl ?_
  refine k_len Tryd.underlying65 rfl hp0.hasLen rfl ?_
  refine k_as (v := .int .i64 (a0.length : Int)) (by simp only [List.length_map]) ?_
  refine k_lss rfl rfl rfl ?_
  refine k_nil ?_
  refine k_keep [(0, _), (2, _), (3, _), (4, _), (8, _)] ⟨rfl, rfl, rfl, rfl, rfl, trivial⟩ ?_
  refine k_cond_dec rfl (fun c4 => ?_) (fun c4 => ?_)
  ·
   have h := itT h c4
   refine k_skip ?_
   refine k_seq ?_
   refine k_block ?_
   refine k_region ?_
   refine k_move rfl rfl ?_
   refine k_move rfl rfl ?_
   refine k_move rfl rfl ?_
   obtain ⟨x5, hx5, h⟩ := ob h
   refine k_ixaddr Tryd.underlying65 size87 rfl rfl hp0 (geti_out hx5).1 (geti_map hx5) rfl ?_
   intro qx5 hqx5
   refine k_field_at (o := 0) rfl hqx5 (by rfl) fld87_1 rfl ?_
   intro q5 h5
   refine k_load_sl one29 rfl h5 rfl ?_
   intro v6 h6
   refine k_len Tryd.underlying29 rfl (SL.of_R h6).hasLen rfl ?_
   refine k_as (v := .int .i64 (x5.Bytes.length : Int)) (by simp only [List.length_map]) ?_
   refine k_add rfl rfl rfl ?_
   refine k_assign rfl rfl ?_
   refine k_nil ?_
   refine k_blk ?_
   refine k_region ?_
   refine k_move rfl rfl ?_
   refine k_add rfl rfl rfl ?_
   refine k_assign rfl rfl ?_
   refine k_nil ?_
   exact k_stop ⟨(s3, i64 (x3 + (x5.Bytes.length : Int)), i64 (x4 + 1), j), ⟨(by first | rfl | (simp <;> rfl)), (by first | rfl | (simp <;> rfl)), trivial⟩, ⟨rfl, rfl, trivial⟩, ⟨rfl, hE2, h⟩, (by simp)⟩
  ·
   have h := itF h c4
   refine k_exit rfl ?_
   exact k_stop ⟨(s3, x3), ⟨(by first | rfl | (simp <;> rfl)), trivial⟩, ⟨rfl, trivial⟩, ⟨rfl, hE1, h⟩⟩
 ·
  rintro ⟨s7, x2⟩ wL ⟨rfl, hE1, h⟩
  rw [hK1] at h
  have szs7 := hE1.size
  have hS := hS.trans0 hE1
  refine k_seq ?_
  refine k_region ?_
  refine k_move rfl rfl ?_
  refine k_assign rfl rfl ?_
  refine k_nil ?_
  refine k_keep [(2, _)] ⟨rfl, trivial⟩ ?_
  refine k_ret ?_
  obtain rfl := Option.some.inj h
  refine ⟨_, rfl, Ret.mk hS ?_⟩
  exact rfl

set_option maxHeartbeats 1000000 in
set_option maxRecDepth 100000 in
theorem disk_picture_sizes_w {s : St} {v0 : Value} {a0 : (List DiskFile)} {r : (List DiskFile)} (hp0 : R s v0 (.sl 2 (a0.map dDiskFile))) (h : disk_picture_sizes a0 = some r) : Calls Tryd.prog 53 #[v0] s.w (Ret s K0 (fun s1 v => ∃ (ub0 : Nat), v = .func (.func 67) #[] #[.pointer (some ⟨ub0, 0, none⟩)] ∧ s.n ≤ ub0 ∧ BoxR s1 ub0 73 ((dL 2 dDiskFile) r))) := by
 unfold disk_picture_sizes at h
 have hS := Step.r0 K0 s
 refine k_fn (rs := [2]) (args := [v0]) Tryd.func53 rfl rfl rfl rfl ?_
 refine k_seq ?_
 refine k_region ?_
 refine k_box rfl rfl ?_
 intro s1 b1 st1 h1 ge1
 have szs1 := st1.size
 have hS := hS.trans0 st1
 replace hp0 := hp0.up2 st1
 rw [cells1 ((SL.of_R hp0)).one1] at h1
 have lt1 := h1.lt
 refine k_assign rfl rfl ?_
 refine k_nil ?_
 refine k_keep [(1, _), (2, _)] ⟨rfl, rfl, trivial⟩ ?_
 refine k_seq ?_
 refine k_region ?_
 refine k_makeFunc rfl rfl rfl ?_
 refine k_assign rfl rfl ?_
 refine k_nil ?_
 refine k_keep [(2, _)] ⟨rfl, trivial⟩ ?_
 refine k_ret ?_
 obtain rfl := Option.some.inj h
 refine ⟨_, rfl, Ret.mk hS ?_⟩
 exact ⟨_, rfl, (by omega), ⟨_, h1, hp0⟩⟩

set_option maxHeartbeats 1000000 in
set_option maxRecDepth 100000 in
theorem disk_picture_sizes_1_w {s : St} {l : Nat} {XT : Type} {a0 : XT → ((List UInt8) × Int) → Option (Bool × XT)} {I : XT → St → Prop} {Ky : Lab → Prop} {a50 : XT} {ub1 : Nat} {a1 : (List DiskFile)} {r : XT} (hY : Yielder Tryd.prog s.n l (fun (sl : St) (y : (List UInt8) × Int) (vs : List Value) => vs = [S y.1, .int .i64 y.2]) a0 I Ky) (hI : I a50 s) (hp1 : BoxR s ub1 73 ((dL 2 dDiskFile) a1)) (hky1 : ¬ Ky ⟨ub1 + 1, 0⟩) (h : disk_picture_sizes_1 a0 a50 a1 = some r) : Calls Tryd.prog 67 #[.func (.yield l) #[] #[], .pointer (some ⟨ub1, 0, none⟩)] s.w (Ret s (KB s.n Ky) (fun s1 v => v = .tuple #[] ∧ I r s1)) := by
 unfold disk_picture_sizes_1 at h
 replace hI := Cons.of hY hI (Nat.le_refl _)
 obtain ⟨cs1, hb_b1, hp1⟩ := hp1
 obtain ⟨w1, rfl, hp1⟩ := hp1.sl_inv
 replace hp1 : R s w1 ((dL 2 dDiskFile) a1) := hp1
 have lt1 := hb_b1.lt
 have hS := Step.r0 (KB s.n Ky) s
 refine k_fn (rs := []) (args := [.func (.yield l) #[] #[], .pointer (some ⟨ub1, 0, none⟩)]) Tryd.func67 rfl rfl rfl rfl ?_
 refine k_seq ?_
 refine k_region ?_
 refine k_load_blk one73 rfl hb_b1 rfl rfl ?_
 refine k_len Tryd.underlying73 rfl (SL.of_R hp1).hasLen rfl ?_
 refine k_as (v := .int .i64 (a1.length : Int)) (by simp only [List.length_map]) ?_
 refine k_move rfl rfl ?_
 refine k_nil ?_
 refine k_keep [(0, _), (5, _), (6, _), (7, _)] ⟨rfl, rfl, rfl, rfl, trivial⟩ ?_
 refine k_block ?_
 refine k_loopc (X := St × Int × XT × Nat) [(0, _), (5, _), (6, _)] (fun (xL : St × Int × XT × Nat) => match xL with | (sl, x1, x2, j) => [(7, .int .i64 x1)]) (fun (xL : St × Int × XT × Nat) (wL : World) => match xL with | (sl, x1, x2, j) => sl.w = wL ∧ Step (KB s.n Ky) s sl ∧ (Cons I s.n sl x2) ∧ disk_picture_sizes_1_l1 a1 a0 j x1 x2 = some r) (fun (xL : St × Int × XT × Nat) => match xL with | (sl, x1, x2, j) => j) (s, 0, a50, FU) ⟨rfl, rfl, rfl, trivial⟩ ⟨(by first | rfl | (simp <;> rfl)), trivial⟩ ⟨rfl, (Step.refl _).of0 (by first | exact fun _ h => h | (intro c h; simp [KC, KO, KU, KN, KB] at h <;> omega)), hI, h⟩ ?_
 rintro ⟨s3, x1, x2, j⟩ wL ⟨rfl, hE2, hI, h⟩
 cases j with
 | zero => rw [disk_picture_sizes_1_l1] at h; exact (noneNe h).elim
 | succ j =>
 rw [disk_picture_sizes_1_l1] at h
 have szs3 := hE2.size
 have hS := hS.c0 hE2
 replace hp1 := hp1.up2 hE2
 refine k_seq ?_
 refine k_region ?_
 refine k_lss rfl rfl rfl ?_
 refine k_nil ?_
 refine k_seq ?_
 refine k_cond_dec rfl (fun c4 => ?_) (fun c4 => ?_)
 ·
  have h := itT h c4
  refine k_skip ?_
  refine k_seq ?_
  refine k_block ?_
  refine k_seq ?_
  refine k_region ?_
  obtain ⟨x3, hx3, h⟩ := ob h
  refine k_ixaddr Tryd.underlying73 size76 rfl rfl (SL.of_R hp1) (geti_out hx3).1 (geti_map hx3) rfl ?_
  intro qx3 hqx3
  refine k_load_agg (by exact agg76) rfl hqx3 rfl ?_
  intro cs5 h5
  obtain ⟨q5_0, rfl, hq5_0⟩ := opnDiskFile h5
  refine k_alloc zero76 rfl ?_
  intro s6 b6 st6 h6 ge6
  have szs6 := st6.size
  have hS := hS.trans0 st6
  have hE2 := hE2.trans0 st6
  replace hq5_0 := hq5_0.up2 st6
  replace hI := hI.up2 st6
  have lt6 := h6.lt
  refine k_store_c (cs' := [S x3.name, q5_0]) size76 rfl rfl h6 (by first | (simp; done) | omega | (dsimp only; omega)) (CellsOf.lit (vs := [S x3.name, q5_0]) rfl (ones.cons rfl (ones.cons ((SL.of_R hq5_0)).one1 ones.nil))) rfl (by first | rfl | (simp; done) | (simp; omega)) rfl ?_
  intro s7 st7 h6
  have szs7 := st7.size
  have hS := hS.c0 st7
  have hE2 := hE2.c0 st7
  replace hq5_0 := hq5_0.up2 st7
  replace hI := hI.up2 st7
  refine k_nil ?_
  refine k_keep [(0, _), (4, _), (5, _), (6, _), (7, _)] ⟨rfl, rfl, rfl, rfl, rfl, trivial⟩ ?_
  refine k_seq ?_
  refine k_region ?_
  refine k_move rfl rfl ?_
  refine k_field_addr fld76_0 rfl rfl ?_
  refine k_load_blk one9 rfl h6 rfl rfl ?_
  refine k_field_addr fld76_1 rfl rfl ?_
  refine k_load_blk one29 rfl h6 rfl rfl ?_
  refine k_len Tryd.underlying29 rfl (SL.of_R hq5_0).hasLen rfl ?_
  refine k_as (v := .int .i64 (x3.b.length : Int)) (by simp only [List.length_map]) ?_
  obtain ⟨x4, hx4, h⟩ := ob h
  refine k_yield rfl rfl (hY.yield _ _ _ _ _ hI.2.1 hI.1 rfl hx4) rfl ?_
  rintro s8 _ st8 ⟨rfl, hI⟩
  replace hI := Cons.of hY hI (Nat.le_trans (by omega) st8.size)
  have szs8 := st8.size
  have hS := hS.c0 st8
  have hE2 := hE2.c0 st8
  refine k_not rfl rfl ?_
  refine k_nil ?_
  refine k_keep [(0, _), (5, _), (6, _), (7, _), (18, _)] ⟨rfl, rfl, rfl, rfl, rfl, trivial⟩ ?_
  refine k_cond rfl (fun c9 => ?_) (fun c9 => ?_)
  ·
   have h := ibT h c9
   refine k_ret ?_
   obtain rfl := Option.some.inj h
   refine ⟨_, rfl, Ret.mk hS ?_⟩
   exact ⟨rfl, hI.1⟩
  ·
   have h := ibF h c9
   refine k_skip ?_
   refine k_blk ?_
   refine k_region ?_
   refine k_add rfl rfl rfl ?_
   refine k_move rfl rfl ?_
   refine k_nil ?_
   exact k_stop ⟨(s8, i64 (x1 + 1), x4.2, j), ⟨(by first | rfl | (simp <;> rfl)), trivial⟩, ⟨rfl, rfl, rfl, trivial⟩, ⟨rfl, hE2, hI, h⟩, (by simp)⟩
 ·
  have h := itF h c4
  refine k_exit rfl ?_
  refine k_end ?_
  obtain rfl := Option.some.inj h
  refine ⟨_, rfl, Ret.mk hS ?_⟩
  exact ⟨rfl, hI.1⟩

set_option maxHeartbeats 1000000 in
set_option maxRecDepth 100000 in
theorem disk_picture_size_w {s : St} {v0 : Value} {a0 : (List DiskFile)} {r : Int} (hp0 : R s v0 (.sl 2 (a0.map dDiskFile))) (h : disk_picture_size a0 = some r) : Calls Tryd.prog 57 #[v0] s.w (Ret s K0 (fun s1 v => v = .int .i64 r)) := by
 unfold disk_picture_size at h
 have hS := Step.r0 K0 s
 refine k_fn_m (args := [v0]) Tryd.func57 rfl rfl ?_
 refine rk_seq ?_
 refine rk_run ?_
 refine k_region ?_
 refine k_assign rfl rfl ?_
 refine k_nil ?_
 refine k_stop ?_
 refine rk_seq ?_
 refine rk_run ?_
 refine k_region ?_
 refine k_alloc zero3 rfl ?_
 intro s1 b1 st1 h1 ge1
 have szs1 := st1.size
 have hS := hS.trans0 st1
 replace hp0 := hp0.up2 st1
 have lt1 := h1.lt
 refine k_store_c (cs' := [.int .i64 0]) size3 rfl rfl h1 (by first | (simp; done) | omega | (dsimp only; omega)) (CellsOf.lit rfl rfl) rfl (by first | rfl | (simp; done) | (simp; omega)) rfl ?_
 intro s2 st2 h1
 have szs2 := st2.size
 have hS := hS.c0 st2
 replace hp0 := hp0.up2 st2
 refine k_nil ?_
 refine k_stop ?_
 refine rk_seq ?_
 refine rk_seq ?_
 refine rk_run ?_
 refine k_region ?_
 refine k_move rfl rfl ?_
 obtain ⟨x1, hx1, h⟩ := ob h
 refine k_call cal53 rfl (disk_picture_sizes_w  (show R s2 v0 (.sl 2 (a0.map dDiskFile)) from hp0) hx1) rfl ?_
 rintro s3 vr3 st3 ⟨ub3_0, rfl, hg3_0, h3_0⟩
 have szs3 := st3.size
 have hS := hS.trans0 st3
 replace h1 := h1.up2 st3
 refine k_nil ?_
 refine k_stop ?_
 obtain ⟨x5, hx5, h⟩ := ob h
 refine rk_range (A := ((List UInt8) × Int)) (X := Int) (ps := [8, 9]) (fun (sl : St) (y : (List UInt8) × Int) (vs : List Value) => vs = [S y.1, .int .i64 y.2]) (fun (x2 : Int) (x3 : ((List UInt8) × Int)) => some (true, i64 (x2 + x3.2))) (fun (xL : Int) (sl : St) => (Blk sl b1 ⟨b1 + 1, 0⟩ [.int .i64 xL] 3)) (KC (b1 + 1) 0) rfl cal67 (fun _ _ _ h => by obtain rfl := h; rfl) (by decide) (by intro lab h; (try simp only [KC, KO, KU, KN, K0, KB] at h); first | exact h.elim | omega) 0 x5 h1 (by rintro x t1 t2 K z0 st hK; exact z0.up st (fun hk => by have hq := hK _ hk; (try dsimp only at hq); omega)) ?_ ?_ ?_
 ·
  intro l rec sR4 x2 x3 vsR rR4 hl1 hl2 hrec
  rintro h1 hL henc hc4
  obtain rfl := henc
  try dsimp only at hc4
  have hRS4 := Step.r0 (KU (KC (l + 1) 0) (KC (b1 + 1) 0)) sR4
  refine k_region ?_
  refine k_assign rfl rfl ?_
  refine k_nil ?_
  refine k_stop ?_
  refine k_begin hL hrec ?_
  intro s5 st5 hL
  have szs5 := st5.size
  have hRS4 := hRS4.c0 st5
  replace h1 := h1.up2 st5
  refine k_keep [(3, _), (5, _)] ⟨rfl, rfl, trivial⟩ ?_
  refine k_block ?_
  refine k_region ?_
  refine k_load_blk one3 rfl h1 rfl rfl ?_
  refine k_move rfl rfl ?_
  refine k_add rfl rfl rfl ?_
  refine k_store_c (cs' := [.int .i64 (i64 (x2 + x3.2))]) size3 rfl rfl h1 (by first | (simp; done) | omega | (dsimp only; omega)) (CellsOf.lit rfl rfl) rfl (by first | rfl | (simp; done) | (simp; omega)) rfl ?_
  intro s6 st6 h1
  have szs6 := st6.size
  have hRS4 := hRS4.c0 st6
  replace hL := hL.up2 st6
  refine k_nil ?_
  refine k_blk ?_
  refine k_end ?_
  obtain rfl := Option.some.inj hc4
  exact ⟨rfl, s6, rfl, hRS4, hL, h1⟩
 ·
  intro l t1 I' Ky st hl1 hl2 hK1 hK2 hY hI'
  have ltb_ub3_0 := h3_0.lt
  exact disk_picture_sizes_1_w hY hI' (h3_0.up2 st) (fun h => by rcases hK2 _ h with h | h <;> (simp only [KU, KN, KC, KO, K0, KB, Lab.mk.injEq] at h) <;> omega) hx5
 ·
  intro D4 s7 stn4
  rintro h1 hM4 hD4
  have szs7 := stn4.size
  have hS := hS.c0 stn4
  refine rk_last ?_
  refine k_seq ?_
  refine k_region ?_
  refine k_load_blk one3 rfl h1 rfl rfl ?_
  refine k_assign rfl rfl ?_
  refine k_nil ?_
  refine k_keep [(2, _)] ⟨rfl, trivial⟩ ?_
  refine k_ret ?_
  refine re_ret ?_
  refine re_cons hM4 (fun s8 st8 => ?_)
  have szs8 := st8.size
  have hS := hS.c0 st8
  obtain rfl := Option.some.inj h
  refine re_nil (rs := [2]) rfl rfl ?_
  refine ⟨_, rfl, Ret.mk hS ?_⟩
  exact rfl

set_option maxHeartbeats 1000000 in
set_option maxRecDepth 100000 in
theorem disk_picture_find_1_w {s : St} {l0 : Lab} {v0 : Value} {a0 : DiskFile} {a1 : (List UInt8)} {r : Int} (hp0 : SL s l0 v0 1 (a0.b.map bD)) (h : disk_picture_find_1 a0 a1 = some r) : Calls Tryd.prog 72 #[.agg #[S a0.name, v0], S a1] s.w (Ret s K0 (fun s1 v => v = .int .i64 r)) := by
 unfold disk_picture_find_1 at h
 obtain ⟨lf0, lf0le, lf0ne, hp0⟩ := hp0.fix
 have hS := Step.r0 K0 s
 refine k_fn (rs := [4]) (args := [.agg #[S a0.name, v0], S a1]) Tryd.func72 rfl rfl rfl rfl ?_
 refine k_seq ?_
 refine k_region ?_
 refine k_box rfl rfl ?_
 intro s1 b1 st1 h1 ge1
 have szs1 := st1.size
 have hS := hS.trans0 st1
 have lt1 := h1.lt
 refine k_assign rfl rfl ?_
 refine k_nil ?_
 refine k_keep [(1, _), (2, _), (4, _)] ⟨rfl, rfl, rfl, trivial⟩ ?_
 refine k_seq ?_
 refine k_region ?_
 refine k_field_addr fld76_0 rfl rfl ?_
 refine k_load_blk one9 rfl h1 rfl rfl ?_
 refine k_move rfl rfl ?_
 refine k_call cal73 rfl (compare_w (a := a0.name) (b := a1)) rfl ?_
 rintro s2 _ st2 rfl
 have szs2 := st2.size
 have hS := hS.trans0 st2
 refine k_assign rfl rfl ?_
 refine k_nil ?_
 refine k_keep [(4, _)] ⟨rfl, trivial⟩ ?_
 refine k_ret ?_
 obtain rfl := Option.some.inj h
 refine ⟨_, rfl, Ret.mk hS ?_⟩
 exact rfl

set_option maxHeartbeats 1000000 in
set_option maxRecDepth 100000 in
theorem slices_BinarySearchFunc_disk_picture_disk_file_string_f72_w {s : St} {l0 : Lab} {v0 : Value} {a0 : (List DiskFile)} {a1 : (List UInt8)} {r : (Int × Bool)} (hp0 : SL s l0 v0 2 (a0.map dDiskFile)) (h : slices_BinarySearchFunc_disk_picture_disk_file_string_f72 a0 a1 = some r) : Calls Tryd.prog 71 #[v0, S a1, .func (.func 72) #[] #[]] s.w (Ret s K0 (fun s1 v => v = .tuple #[.int .i64 r.1, .bool r.2])) := by
 unfold slices_BinarySearchFunc_disk_picture_disk_file_string_f72 at h
 obtain ⟨lf0, lf0le, lf0ne, hp0⟩ := hp0.fix
 have hS := Step.r0 K0 s
 refine k_fn (rs := [6, 7]) (args := [v0, S a1, .func (.func 72) #[] #[]]) Tryd.func71 rfl rfl rfl rfl ?_
 refine k_seq ?_
 refine k_region ?_
 refine k_assign rfl rfl ?_
 refine k_assign rfl rfl ?_
 refine k_nil ?_
 refine k_seq ?_
 refine k_region ?_
 refine k_move rfl rfl ?_
 refine k_len Tryd.underlying73 rfl hp0.hasLen rfl ?_
 refine k_as (v := .int .i64 (a0.length : Int)) (by simp only [List.length_map]) ?_
 refine k_assign rfl rfl ?_
 refine k_nil ?_
 refine k_keep [(0, _), (1, _), (2, _), (6, _), (7, _), (8, _)] ⟨rfl, rfl, rfl, rfl, rfl, rfl, trivial⟩ ?_
 refine k_seq ?_
 refine k_region ?_
 refine k_move rfl rfl ?_
 refine k_assign rfl rfl ?_
 refine k_assign rfl rfl ?_
 refine k_nil ?_
 refine k_keep [(0, _), (1, _), (2, _), (6, _), (7, _), (8, _), (9, _), (10, _)] ⟨rfl, rfl, rfl, rfl, rfl, rfl, rfl, rfl, trivial⟩ ?_
 refine k_seq ?_
 obtain ⟨kj1, hK1, h⟩ := jn_out h
 have hE1 := Step.r0 K0 s
 refine k_cutc (X := St × Int) [(0, v0), (1, S a1), (2, .func (.func 72) #[] #[]), (6, .int .i64 0), (7, .bool false), (8, .int .i64 (a0.length : Int))] (fun (xL : St × Int) => match xL with | (sl, x2) => [(9, .int .i64 x2)]) (fun (xL : St × Int) (wL : World) => match xL with | (sl, x2) => sl.w = wL ∧ Step K0 s sl ∧ kj1 x2 = some r) ?_ ?_
 ·
  refine k_block ?_
  refine k_loopc (X := St × Int × Int × Nat) [(0, _), (1, _), (2, _), (6, _), (7, _), (8, _)] (fun (xL : St × Int × Int × Nat) => match xL with | (sl, x3, x4, j) => [(9, .int .i64 x3), (10, .int .i64 x4)]) (fun (xL : St × Int × Int × Nat) (wL : World) => match xL with | (sl, x3, x4, j) => sl.w = wL ∧ Step K0 s sl ∧ slices_BinarySearchFunc_disk_picture_disk_file_string_f72_l1 a0 a1 kj1 j x3 x4 = some r) (fun (xL : St × Int × Int × Nat) => match xL with | (sl, x3, x4, j) => j) (s, 0, (a0.length : Int), FU) ⟨rfl, rfl, rfl, rfl, rfl, rfl, trivial⟩ ⟨(by first | rfl | (simp <;> rfl)), (by first | rfl | (simp <;> rfl)), trivial⟩ ⟨rfl, (Step.refl _).of0 (by first | exact fun _ h => h | (intro c h; simp [KC, KO, KU, KN, KB] at h <;> omega)), h⟩ ?_
  rintro ⟨s3, x3, x4, j⟩ wL ⟨rfl, hE2, h⟩
  cases j with
  | zero => rw [slices_BinarySearchFunc_disk_picture_disk_file_string_f72_l1] at h; exact (noneNe h).elim
  | succ j =>
  rw [slices_BinarySearchFunc_disk_picture_disk_file_string_f72_l1] at h
  have szs3 := hE2.size
  have hS := hS.trans0 hE2
  have hE1 := hE1.trans0 hE2
  replace hp0 := hp0.up2 hE2
  refine k_seq ?_
  refine k_seq ?_
  refine k_region ?_
  refine k_move rfl rfl ?_
  refine k_move rfl rfl ?_
  refine k_lss rfl rfl rfl ?_
  refine k_nil ?_
  refine k_keep [(0, _), (1, _), (2, _), (6, _), (7, _), (8, _), (9, _), (10, _), (17, _)] ⟨rfl, rfl, rfl, rfl, rfl, rfl, rfl, rfl, rfl, trivial⟩ ?_
  refine k_cond_dec rfl (fun c4 => ?_) (fun c4 => ?_)
  ·
   have h := itT h c4
   refine k_skip ?_
   refine k_block ?_
   refine k_seq ?_
   refine k_region ?_
   refine k_move rfl rfl ?_
   refine k_move rfl rfl ?_
   refine k_add rfl rfl rfl ?_
   refine k_conv (p := i64 (x3 + x4)) Tryd.underlying3 Tryd.underlying115 rfl rfl ?_
   refine k_as (congrArg (Value.int .u64) (w64 _)) ?_
   refine k_shr (p := ((ofI64 (i64 (x3 + x4))).toNat : Int)) rfl rfl (by decide) rfl ?_
   refine k_as (congrArg (Value.int .u64) (shr64_eq _ _)) ?_
   refine k_conv (p := ((shr64 (ofI64 (i64 (x3 + x4))) 1).toNat : Int)) Tryd.underlying115 Tryd.underlying3 rfl rfl ?_
   refine k_assign rfl rfl ?_
   refine k_nil ?_
   refine k_keep [(0, _), (1, _), (2, _), (6, _), (7, _), (8, _), (9, _), (10, _), (11, _)] ⟨rfl, rfl, rfl, rfl, rfl, rfl, rfl, rfl, rfl, trivial⟩ ?_
   refine k_seq ?_
   refine k_region ?_
   refine k_move rfl rfl ?_
   refine k_move rfl rfl ?_
   refine k_move rfl rfl ?_
   obtain ⟨x5, hx5, h⟩ := ob h
   refine k_ixaddr Tryd.underlying73 size76 rfl rfl hp0 (geti_out hx5).1 (geti_map hx5) rfl ?_
   intro qx5 hqx5
   refine k_load_agg (by exact agg76) rfl hqx5 rfl ?_
   intro cs5 h5
   obtain ⟨q5_0, rfl, hq5_0⟩ := opnDiskFile h5
   refine k_move rfl rfl ?_
   obtain ⟨x6, hx6, h⟩ := ob h
   refine k_callv cal72 rfl rfl (disk_picture_find_1_w (a0 := x5) (SL.of_R hq5_0) hx6) rfl ?_
   rintro s6 vr6 st6 rfl
   have szs6 := st6.size
   have hS := hS.trans0 st6
   have hE1 := hE1.trans0 st6
   have hE2 := hE2.trans0 st6
   refine k_lss rfl rfl rfl ?_
   refine k_nil ?_
   refine k_keep [(0, _), (1, _), (2, _), (6, _), (7, _), (8, _), (9, _), (10, _), (11, _), (31, _)] ⟨rfl, rfl, rfl, rfl, rfl, rfl, rfl, rfl, rfl, rfl, trivial⟩ ?_
   refine k_cond_dec rfl (fun c7 => ?_) (fun c7 => ?_)
   ·
    have h := itT h c7
    refine k_region ?_
    refine k_move rfl rfl ?_
    refine k_add rfl rfl rfl ?_
    refine k_assign rfl rfl ?_
    refine k_nil ?_
    refine k_blk ?_
    exact k_stop ⟨(s6, i64 ((i64 ((shr64 (ofI64 (i64 (x3 + x4))) 1).toNat : Int)) + 1), x4, j), ⟨(by first | rfl | (simp <;> rfl)), (by first | rfl | (simp <;> rfl)), trivial⟩, ⟨rfl, rfl, rfl, rfl, rfl, rfl, trivial⟩, ⟨rfl, hE2, h⟩, (by simp)⟩
   ·
    have h := itF h c7
    refine k_region ?_
    refine k_move rfl rfl ?_
    refine k_assign rfl rfl ?_
    refine k_nil ?_
    refine k_blk ?_
    exact k_stop ⟨(s6, x3, i64 ((shr64 (ofI64 (i64 (x3 + x4))) 1).toNat : Int), j), ⟨(by first | rfl | (simp <;> rfl)), (by first | rfl | (simp <;> rfl)), trivial⟩, ⟨rfl, rfl, rfl, rfl, rfl, rfl, trivial⟩, ⟨rfl, hE2, h⟩, (by simp)⟩
  ·
   have h := itF h c4
   refine k_exit rfl ?_
   exact k_stop ⟨(s3, x3), ⟨(by first | rfl | (simp <;> rfl)), trivial⟩, ⟨rfl, rfl, rfl, rfl, rfl, rfl, trivial⟩, ⟨rfl, hE1, h⟩⟩
 ·
  rintro ⟨s8, x2⟩ wL ⟨rfl, hE1, h⟩
  rw [hK1] at h
  have szs8 := hE1.size
  have hS := hS.trans0 hE1
  replace hp0 := hp0.up2 hE1
  refine k_seq ?_
  refine k_region ?_
  refine k_move rfl rfl ?_
  refine k_move rfl rfl ?_
  refine k_move rfl rfl ?_
  refine k_lss rfl rfl rfl ?_
  refine k_move rfl rfl ?_
  obtain ⟨x7, hx7, h⟩ := ob h
  have hE9 := Step.r0 K0 s8
  refine k_cutl (X := St) 9 [(0, v0), (1, S a1), (2, .func (.func 72) #[] #[]), (6, .int .i64 0), (7, .bool false), (8, .int .i64 (a0.length : Int)), (9, .int .i64 x2), (35, .int .i64 x2), (36, .int .i64 x2), (37, .int .i64 (a0.length : Int)), (38, .bool (decide (x2 < (a0.length : Int))))] (fun _ => [(48, .bool x7)]) (fun sl wL => sl.w = wL ∧ Step K0 s8 sl) ?_ ?_
  ·
   refine k_again 39 rfl ?_
   refine k_split (fun c10 => ?_) (fun c10 => ?_)
   ·
    have hx7 := itT hx7 c10
    refine k_yes rfl rfl ?_
    refine k_move rfl rfl ?_
    refine k_yes rfl rfl ?_
    refine k_move rfl rfl ?_
    refine k_yes rfl rfl ?_
    refine k_move rfl rfl ?_
    refine k_yes rfl rfl ?_
    obtain ⟨x8, hx8, hx7⟩ := ob hx7
    refine k_ixaddr Tryd.underlying73 size76 rfl rfl hp0 (geti_out hx8).1 (geti_map hx8) rfl ?_
    intro qx8 hqx8
    refine k_yes rfl rfl ?_
    refine k_load_agg (by exact agg76) rfl hqx8 rfl ?_
    intro cs11 h11
    obtain ⟨q11_0, rfl, hq11_0⟩ := opnDiskFile h11
    refine k_yes rfl rfl ?_
    refine k_move rfl rfl ?_
    refine k_yes rfl rfl ?_
    obtain ⟨x9, hx9, hx7⟩ := ob hx7
    refine k_callv cal72 rfl rfl (disk_picture_find_1_w (a0 := x8) (SL.of_R hq11_0) hx9) rfl ?_
    rintro s12 vr12 st12 rfl
    have szs12 := st12.size
    have hS := hS.trans0 st12
    have hE9 := hE9.trans0 st12
    refine k_yes rfl rfl ?_
    refine k_eql rfl rfl rfl ?_
    refine k_pickT rfl rfl rfl rfl ?_
    exact k_met ⟨s12, ⟨(congrArg (fun b => some (Value.bool b)) (Option.some.inj hx7)), trivial⟩, ⟨rfl, rfl, rfl, rfl, rfl, rfl, rfl, rfl, rfl, rfl, rfl, trivial⟩, rfl, hE9⟩
   ·
    have hx7 := itF hx7 c10
    refine k_no rfl rfl rfl rfl ?_
    refine k_no rfl rfl rfl rfl ?_
    refine k_no rfl rfl rfl rfl ?_
    refine k_no rfl rfl rfl rfl ?_
    refine k_no rfl rfl rfl rfl ?_
    refine k_no rfl rfl rfl rfl ?_
    refine k_no rfl rfl rfl rfl ?_
    refine k_no rfl rfl rfl rfl ?_
    refine k_pickF rfl rfl rfl rfl ?_
    exact k_met ⟨s8, ⟨(congrArg (fun b => some (Value.bool b)) (Option.some.inj hx7)), trivial⟩, ⟨rfl, rfl, rfl, rfl, rfl, rfl, rfl, rfl, rfl, rfl, rfl, trivial⟩, rfl, hE9⟩
  ·
   rintro s13 wL ⟨rfl, hE9⟩
   have szs13 := hE9.size
   have hS := hS.trans0 hE9
   refine k_assign rfl rfl ?_
   refine k_assign rfl rfl ?_
   refine k_nil ?_
   refine k_keep [(6, _), (7, _)] ⟨rfl, rfl, trivial⟩ ?_
   refine k_ret ?_
   obtain rfl := Option.some.inj h
   refine ⟨_, rfl, Ret.mk hS ?_⟩
   exact rfl

set_option maxHeartbeats 1000000 in
set_option maxRecDepth 100000 in
theorem disk_picture_find_w {s : St} {l0 : Lab} {v0 : Value} {a0 : (List DiskFile)} {a1 : (List UInt8)} {r : (Int × Bool)} (hp0 : SL s l0 v0 2 (a0.map dDiskFile)) (h : disk_picture_find a0 a1 = some r) : Calls Tryd.prog 68 #[v0, S a1] s.w (Ret s K0 (fun s1 v => v = .tuple #[.int .i64 r.1, .bool r.2])) := by
 unfold disk_picture_find at h
 obtain ⟨lf0, lf0le, lf0ne, hp0⟩ := hp0.fix
 have hS := Step.r0 K0 s
 refine k_fn (rs := [4, 5]) (args := [v0, S a1]) Tryd.func68 rfl rfl rfl rfl ?_
 refine k_seq ?_
 refine k_region ?_
 refine k_assign rfl rfl ?_
 refine k_assign rfl rfl ?_
 refine k_nil ?_
 refine k_seq ?_
 refine k_region ?_
 refine k_move rfl rfl ?_
 refine k_move rfl rfl ?_
 obtain ⟨x1, hx1, h⟩ := ob h
 refine k_call cal71 rfl (slices_BinarySearchFunc_disk_picture_disk_file_string_f72_w  hp0 hx1) rfl ?_
 rintro s1 vr1 st1 rfl
 have szs1 := st1.size
 have hS := hS.trans0 st1
 refine k_extract rfl rfl rfl ?_
 refine k_extract rfl rfl rfl ?_
 refine k_assign rfl rfl ?_
 refine k_assign rfl rfl ?_
 refine k_nil ?_
 refine k_keep [(4, _), (5, _)] ⟨rfl, rfl, trivial⟩ ?_
 refine k_ret ?_
 obtain rfl := Option.some.inj h
 refine ⟨_, rfl, Ret.mk hS ?_⟩
 exact rfl

set_option maxHeartbeats 1000000 in
set_option maxRecDepth 100000 in
theorem disk_picture_bytes_w {s : St} {l0 : Lab} {v0 : Value} {a0 : (List DiskFile)} {a1 : (List UInt8)} {r : (List UInt8)} (hp0 : SL s l0 v0 2 (a0.map dDiskFile)) (h : disk_picture_bytes a0 a1 = some r) : Calls Tryd.prog 56 #[v0, S a1] s.w (Ret s K0 (fun s1 v => ∃ (u0 : Value), v = u0 ∧ R s1 u0 (.sl 1 (r.map bD)))) := by
 unfold disk_picture_bytes at h
 obtain ⟨lf0, lf0le, lf0ne, hp0⟩ := hp0.fix
 have hS := Step.r0 K0 s
 refine k_fn (rs := [4]) (args := [v0, S a1]) Tryd.func56 rfl rfl rfl rfl ?_
 refine k_seq ?_
 refine k_region ?_
 refine k_assign rfl rfl ?_
 refine k_nil ?_
 refine k_seq ?_
 refine k_seq ?_
 refine k_region ?_
 refine k_move rfl rfl ?_
 refine k_move rfl rfl ?_
 obtain ⟨x1, hx1, h⟩ := ob h
 refine k_call cal68 rfl (disk_picture_find_w  hp0 hx1) rfl ?_
 rintro s1 vr1 st1 rfl
 have szs1 := st1.size
 have hS := hS.trans0 st1
 replace hp0 := hp0.up2 st1
 refine k_move rfl rfl ?_
 refine k_extract rfl rfl rfl ?_
 refine k_extract rfl rfl rfl ?_
 refine k_assign rfl rfl ?_
 refine k_assign rfl rfl ?_
 refine k_nil ?_
 refine k_keep [(0, _), (4, _), (5, _), (6, _)] ⟨rfl, rfl, rfl, rfl, trivial⟩ ?_
 refine k_seq ?_
 refine k_region ?_
 refine k_move rfl rfl ?_
 refine k_nil ?_
 refine k_keep [(0, _), (4, _), (5, _), (13, _)] ⟨rfl, rfl, rfl, rfl, trivial⟩ ?_
 refine k_cond rfl (fun c2 => ?_) (fun c2 => ?_)
 ·
  have h := ibT h c2
  refine k_seq ?_
  refine k_region ?_
  refine k_move rfl rfl ?_
  refine k_move rfl rfl ?_
  obtain ⟨x2, hx2, h⟩ := ob h
  refine k_ixaddr Tryd.underlying73 size76 rfl rfl hp0 (geti_out hx2).1 (geti_map hx2) rfl ?_
  intro qx2 hqx2
  refine k_field_at (o := 0) rfl hqx2 (by rfl) fld76_1 rfl ?_
  intro q3 h3
  refine k_load_sl one29 rfl h3 rfl ?_
  intro v4 h4
  refine k_assign rfl rfl ?_
  refine k_nil ?_
  refine k_keep [(4, _)] ⟨rfl, trivial⟩ ?_
  refine k_ret ?_
  obtain rfl := Option.some.inj h
  refine ⟨_, rfl, Ret.mk hS ?_⟩
  exact ⟨_, rfl, h4⟩
 ·
  have h := ibF h c2
  refine k_skip ?_
  refine k_seq ?_
  refine k_region ?_
  refine k_assign rfl rfl ?_
  refine k_nil ?_
  refine k_keep [(4, _)] ⟨rfl, trivial⟩ ?_
  refine k_ret ?_
  obtain rfl := Option.some.inj h
  refine ⟨_, rfl, Ret.mk hS ?_⟩
  exact ⟨_, rfl, (R.of_SL (.inl ⟨rfl, none, 0, rfl, fun _ => rfl⟩))⟩

set_option maxHeartbeats 1000000 in
set_option maxRecDepth 100000 in
theorem slices_Grow_disk_picture_disk_file_nl_own_w {s : St} {a1 : Int} {r : (List DiskFile)}  (h : slices_Grow_disk_picture_disk_file_nl a1 = some r) : Calls Tryd.prog 118 #[.slice none 0 0, .int .i64 a1] s.w (Ret s K0 (fun s1 v => ∃ (u0 : Value), ∃ (lu0 : Lab), v = u0 ∧ (s.n < lu0.o ∧ lu0.c = 0) ∧ Own s1 lu0 76 2 u0 (r.map dDiskFile))) := by
 unfold slices_Grow_disk_picture_disk_file_nl at h
 have hS := Step.r0 K0 s
 refine k_fn (rs := [4]) (args := [.slice none 0 0, .int .i64 a1]) Tryd.func118 rfl rfl rfl rfl ?_
 refine k_seq ?_
 refine k_region ?_
 refine k_assign rfl rfl ?_
 refine k_nil ?_
 refine k_seq ?_
 refine k_seq ?_
 refine k_region ?_
 refine k_move rfl rfl ?_
 refine k_lss rfl rfl rfl ?_
 refine k_nil ?_
 refine k_keep [(0, _), (1, _), (4, _), (6, _)] ⟨rfl, rfl, rfl, rfl, trivial⟩ ?_
 refine k_cond_dec rfl (fun c1 => ?_) (fun c1 => ?_)
 ·
  have h := itT h c1
  refine k_region ?_
  exact (noneNe h).elim
 ·
  have h := itF h c1
  refine k_skip ?_
  refine k_seq ?_
  refine k_seq ?_
  refine k_region ?_
  refine k_move rfl rfl ?_
  refine k_move rfl rfl ?_
  refine k_cap_nil Tryd.underlying73 rfl rfl ?_
  refine k_move rfl rfl ?_
  refine k_len Tryd.underlying73 rfl ⟨_, _, rfl⟩ rfl ?_
  refine k_sub_ rfl rfl rfl ?_
  refine k_as (v := .int .i64 0) (by first | rfl | decide) ?_
  refine k_sub_ rfl rfl rfl ?_
  refine k_assign rfl rfl ?_
  refine k_nil ?_
  refine k_keep [(0, _), (1, _), (4, _)] ⟨rfl, rfl, rfl, trivial⟩ ?_
  refine k_seq ?_
  refine k_region ?_
  refine k_move rfl rfl ?_
  refine k_gtr rfl rfl rfl ?_
  refine k_nil ?_
  refine k_keep [(0, _), (1, _), (4, _), (16, _)] ⟨rfl, rfl, rfl, rfl, trivial⟩ ?_
  refine k_cond_dec rfl (fun c2 => ?_) (fun c2 => ?_)
  ·
   have h := itT h c2
   refine k_region ?_
   refine k_move rfl rfl ?_
   refine k_move rfl rfl ?_
   refine k_cap_nil Tryd.underlying73 rfl rfl ?_
   refine k_cut_nil Tryd.underlying73 size76 rfl rfl rfl ?_
   refine k_move rfl rfl ?_
   by_cases c3 : 0 < i64 (a1 - 0)
   case neg => exact (noneNe (itF h c3)).elim
   replace h := itT h c3
   by_cases c4 : i64 (a1 - 0) ≤ 3518437208883
   case neg => exact (noneNe (itF h c4)).elim
   replace h := itT h c4
   obtain ⟨m5, em5⟩ : ∃ m : Nat, i64 (a1 - 0) = (m : Int) := ⟨(i64 (a1 - 0)).toNat, by omega⟩
   refine k_append_zeros (m := m5) elem73 Tryd.underlying3 rfl (congrArg (fun z => some (Value.int .i64 z)) em5) (by omega) (by omega) (by omega) rfl ?_
   intro s5 v5 st5 h5
   have szs5 := st5.size
   have hS := hS.trans0 st5
   refine k_move rfl rfl ?_
   refine k_len Tryd.underlying73 rfl ⟨_, _, rfl⟩ rfl ?_
   refine k_cut_row0 Tryd.underlying73 size76 rfl h5 rfl rfl ?_
   intro v6 h6
   replace h6 : Own s5 ⟨s.n + 1, 0⟩ 76 2 v6 (([] : List DiskFile).map dDiskFile) := h6
   have lt6 := Own.le1 h6
   refine k_assign rfl rfl ?_
   refine k_nil ?_
   refine k_keep [(0, _), (4, _)] ⟨rfl, rfl, trivial⟩ ?_
   refine k_seq ?_
   refine k_region ?_
   refine k_move rfl rfl ?_
   refine k_assign rfl rfl ?_
   refine k_nil ?_
   refine k_keep [(4, _)] ⟨rfl, trivial⟩ ?_
   refine k_ret ?_
   obtain rfl := Option.some.inj h
   refine ⟨_, rfl, Ret.mk hS ?_⟩
   exact ⟨_, ⟨s.n + 1, 0⟩, rfl, ⟨by (try dsimp only); omega, rfl⟩, h6⟩
  ·
   have h := itF h c2
   refine k_skip ?_
   refine k_seq ?_
   refine k_region ?_
   refine k_move rfl rfl ?_
   refine k_assign rfl rfl ?_
   refine k_nil ?_
   refine k_keep [(4, _)] ⟨rfl, trivial⟩ ?_
   refine k_ret ?_
   obtain rfl := Option.some.inj h
   refine ⟨_, rfl, Ret.mk hS ?_⟩
   exact ⟨_, ⟨s.n + 1, 0⟩, rfl, ⟨by show s.n < s.n + 1; omega, rfl⟩, Own.nil (by simp) (Nat.le_refl _)⟩

set_option maxHeartbeats 1000000 in
set_option maxRecDepth 100000 in
theorem slices_Concat_disk_picture_disk_file_w {s : St} {l0 : Lab} {v0 : Value} {a0 : (List (List DiskFile))} {r : (List DiskFile)} (hp0 : SL s l0 v0 1 (a0.map (dL 2 dDiskFile))) (h : slices_Concat_disk_picture_disk_file a0 = some r) : Calls Tryd.prog 116 #[v0] s.w (Ret s K0 (fun s1 v => ∃ (u0 : Value), v = u0 ∧ R s1 u0 (.sl 2 (r.map dDiskFile)))) := by
 unfold slices_Concat_disk_picture_disk_file at h
 obtain ⟨lf0, lf0le, lf0ne, hp0⟩ := hp0.fix
 have hS := Step.r0 K0 s
 refine k_fn (rs := [2]) (args := [v0]) Tryd.func116 rfl rfl rfl rfl ?_
 refine k_seq ?_
 refine k_region ?_
 refine k_assign rfl rfl ?_
 refine k_nil ?_
 refine k_seq ?_
 refine k_region ?_
 refine k_assign rfl rfl ?_
 refine k_nil ?_
 refine k_seq ?_
 obtain ⟨kj1, hK1, h⟩ := jn_out h
 have hE1 := Step.r0 K0 s
 refine k_cutc (X := St × Int) [(0, v0), (2, .slice none 0 0)] (fun (xL : St × Int) => match xL with | (sl, x2) => [(3, .int .i64 x2)]) (fun (xL : St × Int) (wL : World) => match xL with | (sl, x2) => sl.w = wL ∧ Step K0 s sl ∧ kj1 x2 = some r) ?_ ?_
 ·
  refine k_seq ?_
  refine k_region ?_
  refine k_move rfl rfl ?_
  refine k_len Tryd.underlying56 rfl hp0.hasLen rfl ?_
  refine k_as (v := .int .i64 (a0.length : Int)) (by simp only [List.length_map]) ?_
  refine k_move rfl rfl ?_
  refine k_nil ?_
  refine k_block ?_
  refine k_loopc (X := St × Int × Int × Nat) [(0, _), (2, _), (9, _), (10, _)] (fun (xL : St × Int × Int × Nat) => match xL with | (sl, x3, x4, j) => [(3, .int .i64 x3), (11, .int .i64 x4)]) (fun (xL : St × Int × Int × Nat) (wL : World) => match xL with | (sl, x3, x4, j) => sl.w = wL ∧ Step K0 s sl ∧ slices_Concat_disk_picture_disk_file_l1 a0 kj1 j x3 x4 = some r) (fun (xL : St × Int × Int × Nat) => match xL with | (sl, x3, x4, j) => j) (s, 0, 0, FU) ⟨rfl, rfl, rfl, rfl, trivial⟩ ⟨(by first | rfl | (simp <;> rfl)), (by first | rfl | (simp <;> rfl)), trivial⟩ ⟨rfl, (Step.refl _).of0 (by first | exact fun _ h => h | (intro c h; simp [KC, KO, KU, KN, KB] at h <;> omega)), h⟩ ?_
  rintro ⟨s3, x3, x4, j⟩ wL ⟨rfl, hE2, h⟩
  cases j with
  | zero => rw [slices_Concat_disk_picture_disk_file_l1] at h; exact (noneNe h).elim
  | succ j =>
  rw [slices_Concat_disk_picture_disk_file_l1] at h
  have szs3 := hE2.size
  have hS := hS.trans0 hE2
  have hE1 := hE1.trans0 hE2
  replace hp0 := hp0.up2 hE2
  refine k_seq ?_
  refine k_region ?_
  refine k_lss rfl rfl rfl ?_
  refine k_nil ?_
  refine k_seq ?_
  refine k_cond_dec rfl (fun c4 => ?_) (fun c4 => ?_)
  ·
   have h := itT h c4
   refine k_skip ?_
   refine k_seq ?_
   refine k_block ?_
   refine k_seq ?_
   refine k_region ?_
   obtain ⟨x5, hx5, h⟩ := ob h
   refine k_ixaddr Tryd.underlying56 size73 rfl rfl hp0 (geti_out hx5).1 (geti_map hx5) rfl ?_
   intro qx5 hqx5
   refine k_load_sl one73 rfl hqx5 rfl ?_
   intro v5 h5
   refine k_assign rfl rfl ?_
   refine k_nil ?_
   refine k_keep [(0, _), (2, _), (3, _), (5, _), (9, _), (10, _), (11, _)] ⟨rfl, rfl, rfl, rfl, rfl, rfl, rfl, trivial⟩ ?_
   refine k_seq ?_
   refine k_region ?_
   refine k_move rfl rfl ?_
   refine k_move rfl rfl ?_
   refine k_len Tryd.underlying73 rfl (SL.of_R h5).hasLen rfl ?_
   refine k_as (v := .int .i64 (x5.length : Int)) (by simp only [List.length_map]) ?_
   refine k_add rfl rfl rfl ?_
   refine k_assign rfl rfl ?_
   refine k_nil ?_
   refine k_keep [(0, _), (2, _), (3, _), (9, _), (10, _), (11, _)] ⟨rfl, rfl, rfl, rfl, rfl, rfl, trivial⟩ ?_
   refine k_seq ?_
   refine k_region ?_
   refine k_move rfl rfl ?_
   refine k_lss rfl rfl rfl ?_
   refine k_nil ?_
   refine k_keep [(0, _), (2, _), (3, _), (9, _), (10, _), (11, _), (20, _)] ⟨rfl, rfl, rfl, rfl, rfl, rfl, rfl, trivial⟩ ?_
   refine k_cond_dec rfl (fun c6 => ?_) (fun c6 => ?_)
   ·
    have h := itT h c6
    refine k_region ?_
    exact (noneNe h).elim
   ·
    have h := itF h c6
    refine k_skip ?_
    refine k_blk ?_
    refine k_region ?_
    refine k_add rfl rfl rfl ?_
    refine k_move rfl rfl ?_
    refine k_nil ?_
    exact k_stop ⟨(s3, i64 (x3 + (x5.length : Int)), i64 (x4 + 1), j), ⟨(by first | rfl | (simp <;> rfl)), (by first | rfl | (simp <;> rfl)), trivial⟩, ⟨rfl, rfl, rfl, rfl, trivial⟩, ⟨rfl, hE2, h⟩, (by simp)⟩
  ·
   have h := itF h c4
   refine k_exit rfl ?_
   exact k_stop ⟨(s3, x3), ⟨(by first | rfl | (simp <;> rfl)), trivial⟩, ⟨rfl, rfl, trivial⟩, ⟨rfl, hE1, h⟩⟩
 ·
  rintro ⟨s7, x2⟩ wL ⟨rfl, hE1, h⟩
  rw [hK1] at h
  have szs7 := hE1.size
  have hS := hS.trans0 hE1
  replace hp0 := hp0.up2 hE1
  refine k_seq ?_
  refine k_region ?_
  refine k_move rfl rfl ?_
  obtain ⟨x6, hx6, h⟩ := ob h
  refine k_call cal118 rfl (slices_Grow_disk_picture_disk_file_nl_own_w   hx6) rfl ?_
  rintro s8 v8_0 st8 ⟨_, l8_0, rfl, hl8_0, h8_0⟩
  have szs8 := st8.size
  have hS := hS.trans0 st8
  replace hp0 := hp0.up2 st8
  obtain ⟨l8_0, hl8_0, h8_0⟩ := Own.anew 2080 h8_0 hl8_0 szs8
  have lt8_0 := Own.le1 h8_0
  refine k_assign rfl rfl ?_
  refine k_nil ?_
  refine k_keep [(0, _), (2, _), (6, _)] ⟨rfl, rfl, rfl, trivial⟩ ?_
  refine k_seq ?_
  obtain ⟨kj7, hK9, h⟩ := jn_out h
  have hE9 := Step.r0 (KC l8_0.o l8_0.c) s8
  refine k_cutc (X := St × (List DiskFile) × Value) [(2, .slice none 0 0)] (fun (xL : St × (List DiskFile) × Value) => match xL with | (sl, x8, v10) => [(6, v10)]) (fun (xL : St × (List DiskFile) × Value) (wL : World) => match xL with | (sl, x8, v10) => sl.w = wL ∧ Step (KC l8_0.o l8_0.c) s8 sl ∧ (Own sl ⟨l8_0.o, l8_0.c⟩ 76 2 v10 (x8.map dDiskFile)) ∧ kj7 x8 = some r) ?_ ?_
  ·
   refine k_seq ?_
   refine k_region ?_
   refine k_move rfl rfl ?_
   refine k_len Tryd.underlying56 rfl hp0.hasLen rfl ?_
   refine k_as (v := .int .i64 (a0.length : Int)) (by simp only [List.length_map]) ?_
   refine k_move rfl rfl ?_
   refine k_nil ?_
   refine k_keep [(2, _), (6, _), (25, _), (26, _), (27, _)] ⟨rfl, rfl, rfl, rfl, rfl, trivial⟩ ?_
   refine k_block ?_
   refine k_loopc (X := St × (List DiskFile) × Value × Int × Nat) [(2, _), (25, _), (26, _)] (fun (xL : St × (List DiskFile) × Value × Int × Nat) => match xL with | (sl, x9, v12, x10, j) => [(6, v12), (27, .int .i64 x10)]) (fun (xL : St × (List DiskFile) × Value × Int × Nat) (wL : World) => match xL with | (sl, x9, v12, x10, j) => sl.w = wL ∧ Step (KC l8_0.o l8_0.c) s8 sl ∧ (Own sl ⟨l8_0.o, l8_0.c⟩ 76 2 v12 (x9.map dDiskFile)) ∧ slices_Concat_disk_picture_disk_file_l2 a0 kj7 j x9 x10 = some r) (fun (xL : St × (List DiskFile) × Value × Int × Nat) => match xL with | (sl, x9, v12, x10, j) => j) (s8, x6, v8_0, 0, FU) ⟨rfl, rfl, rfl, trivial⟩ ⟨(by first | rfl | (simp <;> rfl)), (by first | rfl | (simp <;> rfl)), trivial⟩ ⟨rfl, (Step.refl _).of0 (by first | exact fun _ h => h | (intro c h; simp [KC, KO, KU, KN, KB] at h <;> omega)), h8_0, h⟩ ?_
   rintro ⟨s13, x9, v12, x10, j⟩ wL ⟨rfl, hE11, h12, h⟩
   cases j with
   | zero => rw [slices_Concat_disk_picture_disk_file_l2] at h; exact (noneNe h).elim
   | succ j =>
   rw [slices_Concat_disk_picture_disk_file_l2] at h
   have szs13 := hE11.size
   have hS := hS.c0 hE11
   have hE9 := hE9.c0 hE11
   replace hp0 := hp0.up2 hE11
   refine k_seq ?_
   refine k_region ?_
   refine k_lss rfl rfl rfl ?_
   refine k_nil ?_
   refine k_seq ?_
   refine k_cond_dec rfl (fun c14 => ?_) (fun c14 => ?_)
   ·
    have h := itT h c14
    refine k_skip ?_
    refine k_seq ?_
    refine k_block ?_
    refine k_seq ?_
    refine k_region ?_
    obtain ⟨x11, hx11, h⟩ := ob h
    refine k_ixaddr Tryd.underlying56 size73 rfl rfl hp0 (geti_out hx11).1 (geti_map hx11) rfl ?_
    intro qx11 hqx11
    refine k_load_sl one73 rfl hqx11 rfl ?_
    intro v15 h15
    refine k_assign rfl rfl ?_
    refine k_nil ?_
    refine k_keep [(2, _), (6, _), (8, _), (25, _), (26, _), (27, _)] ⟨rfl, rfl, rfl, rfl, rfl, rfl, trivial⟩ ?_
    refine k_region ?_
    refine k_move rfl rfl ?_
    refine k_move rfl rfl ?_
    obtain ⟨x12, hx12, h⟩ := ob h
    refine k_append (es := x11.map dDiskFile) elem73 rfl rfl h12 (SL.of_R h15) (by have := (app_out hx12).1; simp only [List.length_map] at *; omega) (by have := (app_out hx12).1; simp only [List.length_map] at *; omega) rfl ?_
    intro s16 v16 st16 h16
    rw [← List.map_append, ← (app_out hx12).2] at h16
    have szs16 := st16.size
    have hS := hS.c0 st16
    have hE9 := hE9.c0 st16
    have hE11 := hE11.c0 st16
    refine k_assign rfl rfl ?_
    refine k_nil ?_
    refine k_blk ?_
    refine k_region ?_
    refine k_add rfl rfl rfl ?_
    refine k_move rfl rfl ?_
    refine k_nil ?_
    exact k_stop ⟨(s16, x12, v16, i64 (x10 + 1), j), ⟨(by first | rfl | (simp <;> rfl)), (by first | rfl | (simp <;> rfl)), trivial⟩, ⟨rfl, rfl, rfl, trivial⟩, ⟨rfl, hE11, h16, h⟩, (by simp)⟩
   ·
    have h := itF h c14
    refine k_exit rfl ?_
    exact k_stop ⟨(s13, x9, v12), ⟨(by first | rfl | (simp <;> rfl)), trivial⟩, ⟨rfl, trivial⟩, ⟨rfl, hE9, h12, h⟩⟩
  ·
   rintro ⟨s17, x8, v10⟩ wL ⟨rfl, hE9, h10, h⟩
   rw [hK9] at h
   have szs17 := hE9.size
   have hS := hS.c0 hE9
   refine k_seq ?_
   refine k_region ?_
   refine k_move rfl rfl ?_
   refine k_assign rfl rfl ?_
   refine k_nil ?_
   refine k_keep [(2, _)] ⟨rfl, trivial⟩ ?_
   refine k_ret ?_
   obtain ⟨s18, e18, st18, h18⟩ := h10.freeze
   rw [← e18]
   have szs18 := st18.size
   have hS := hS.c0 st18
   obtain rfl := Option.some.inj h
   refine ⟨_, rfl, Ret.mk hS ?_⟩
   exact ⟨_, rfl, h18⟩

set_option maxHeartbeats 1000000 in
set_option maxRecDepth 100000 in
theorem disk_picture_without_w {s : St} {v0 : Value} {a0 : (List DiskFile)} {a1 : (List UInt8)} {r : (List DiskFile)} (hp0 : R s v0 (.sl 2 (a0.map dDiskFile))) (h : disk_picture_without a0 a1 = some r) : Calls Tryd.prog 115 #[v0, S a1] s.w (Ret s K0 (fun s1 v => ∃ (u0 : Value), v = u0 ∧ R s1 u0 (.sl 2 (r.map dDiskFile)))) := by
 unfold disk_picture_without at h
 have hS := Step.r0 K0 s
 refine k_fn (rs := [4]) (args := [v0, S a1]) Tryd.func115 rfl rfl rfl rfl ?_
 refine k_seq ?_
 refine k_region ?_
 refine k_assign rfl rfl ?_
 refine k_nil ?_
 refine k_seq ?_
 refine k_region ?_
 refine k_move rfl rfl ?_
 refine k_move rfl rfl ?_
 obtain ⟨x1, hx1, h⟩ := ob h
 refine k_call cal68 rfl (disk_picture_find_w  (SL.of_R hp0) hx1) rfl ?_
 rintro s1 vr1 st1 rfl
 have szs1 := st1.size
 have hS := hS.trans0 st1
 replace hp0 := hp0.up2 st1
 refine k_move rfl rfl ?_
 refine k_extract rfl rfl rfl ?_
 refine k_extract rfl rfl rfl ?_
 refine k_assign rfl rfl ?_
 refine k_assign rfl rfl ?_
 refine k_nil ?_
 refine k_keep [(0, _), (4, _), (5, _), (6, _)] ⟨rfl, rfl, rfl, rfl, trivial⟩ ?_
 refine k_seq ?_
 refine k_seq ?_
 refine k_region ?_
 refine k_move rfl rfl ?_
 refine k_not rfl rfl ?_
 refine k_nil ?_
 refine k_keep [(0, _), (4, _), (5, _), (14, _)] ⟨rfl, rfl, rfl, rfl, trivial⟩ ?_
 refine k_cond rfl (fun c2 => ?_) (fun c2 => ?_)
 ·
  have h := ibT h c2
  refine k_seq ?_
  refine k_region ?_
  refine k_move rfl rfl ?_
  refine k_assign rfl rfl ?_
  refine k_nil ?_
  refine k_keep [(0, _), (4, _), (5, _)] ⟨rfl, rfl, rfl, trivial⟩ ?_
  refine k_ret ?_
  obtain rfl := Option.some.inj h
  refine ⟨_, rfl, Ret.mk hS ?_⟩
  exact ⟨_, rfl, hp0⟩
 ·
  have h := ibF h c2
  refine k_skip ?_
  refine k_seq ?_
  refine k_keep [(0, _), (4, _), (5, _)] ⟨rfl, rfl, rfl, trivial⟩ ?_
  obtain ⟨x2, hx2, h⟩ := ob h
  obtain ⟨x3, hx3, h⟩ := ob h
  refine k_drawT (KN s1.n) 7 (.read 0 (.read 1 (.read 3 (.read 4 (.read 5 (.alt 2 (.alt 6 .fin .no) (.alt 6 (.alt 2 .fin .no) .no))))))) mixed (by intro c h; (try simp only [KC, KO, KU, KN, KB] at h) <;> omega) rfl rfl rfl ?_
  intro s3 st3
  have szs3 := st3.size
  have hS := hS.trans0 st3
  replace hp0 := hp0.up2 st3
  refine rt_read (v0) rfl rfl (fun s4 st4 => ?_) ?_
  ·refine k_move rfl rfl ?_
   exact fq_end
  refine rt_read (.int .i64 x1.1) rfl rfl (fun s5 st5 => ?_) ?_
  ·refine k_move rfl rfl ?_
   exact fq_end
  refine rt_read (v0) rfl rfl (fun s6 st6 => ?_) ?_
  ·refine k_move rfl rfl ?_
   exact fq_end
  refine rt_read (.int .i64 x1.1) rfl rfl (fun s7 st7 => ?_) ?_
  ·refine k_move rfl rfl ?_
   exact fq_end
  refine rt_read (.int .i64 (i64 (x1.1 + 1))) rfl rfl (fun s8 st8 => ?_) ?_
  ·refine k_add rfl rfl rfl ?_
   exact fq_end
  refine rt_alt rfl rfl ?_ ?_
  ·
   have hA9 := Step.r0 (KN s1.n) s3
   refine k_cut_sl (i := (0 : Int).toNat) (j := (x1.1 : Int).toNat) Tryd.underlying73 size76 rfl (SL.of_R hp0) CutAt.none (CutAt.int rfl (Int.le_trans (subl_out hx2).1 (subl_out hx2).2.1)) (subl_ij hx2) (by rw [List.length_map]; exact subl_j hx2) rfl ?_
   intro vx2 hcx2
   rw [← List.map_drop, ← List.map_take, ← (subl_out hx2).2.2.2] at hcx2
   have hcx2 := R.of_SL hcx2
   refine rt_cont hA9 ?_
   refine rt_act rfl rfl ?_
   have hA10 := Step.r0 (KN s1.n) s3
   refine k_cut_sl (i := (i64 (x1.1 + 1) : Int).toNat) (j := ((a0.length : Int) : Int).toNat) Tryd.underlying73 size76 rfl (SL.of_R hp0) (CutAt.int rfl (subl_out hx3).1) (CutAt.len (by rw [List.length_map]; rfl)) (subl_ij hx3) (by rw [List.length_map]; exact subl_j hx3) rfl ?_
   intro vx3 hcx3
   rw [← List.map_drop, ← List.map_take, ← (subl_out hx3).2.2.2] at hcx3
   have hcx3 := R.of_SL hcx3
   refine rt_cont hA10 ?_
   refine rt_fin ?_
   refine k_bslice2 (ds := ([x2, x3] : List (List DiskFile)).map (dL 2 dDiskFile)) slc56 rfl (RVs.cons hcx2 (RVs.cons hcx3 RVs.nil)) (by rfl) (by rfl) rfl rfl ?_
   intro s11 v11 b11 st11 ge11 bl11 h11
   have szs11 := st11.size
   have hS := hS.trans0 st11
   have lt11 := Own.le1 h11
   obtain ⟨x4, hx4, h⟩ := ob h
   refine k_call cal116 rfl (slices_Concat_disk_picture_disk_file_w  (h11.sl) hx4) rfl ?_
   rintro s12 v12_0 st12 ⟨_, rfl, h12_0⟩
   have szs12 := st12.size
   have hS := hS.trans0 st12
   refine k_assign rfl rfl ?_
   refine k_nil ?_
   refine k_keep [(4, _)] ⟨rfl, trivial⟩ ?_
   refine k_ret ?_
   obtain rfl := Option.some.inj h
   refine ⟨_, rfl, Ret.mk hS ?_⟩
   exact ⟨_, rfl, h12_0⟩
  ·
   refine rt_act rfl rfl ?_
   have hA13 := Step.r0 (KN s1.n) s3
   refine k_cut_sl (i := (i64 (x1.1 + 1) : Int).toNat) (j := ((a0.length : Int) : Int).toNat) Tryd.underlying73 size76 rfl (SL.of_R hp0) (CutAt.int rfl (subl_out hx3).1) (CutAt.len (by rw [List.length_map]; rfl)) (subl_ij hx3) (by rw [List.length_map]; exact subl_j hx3) rfl ?_
   intro vx3 hcx3
   rw [← List.map_drop, ← List.map_take, ← (subl_out hx3).2.2.2] at hcx3
   have hcx3 := R.of_SL hcx3
   refine rt_cont hA13 ?_
   refine rt_act rfl rfl ?_
   have hA14 := Step.r0 (KN s1.n) s3
   refine k_cut_sl (i := (0 : Int).toNat) (j := (x1.1 : Int).toNat) Tryd.underlying73 size76 rfl (SL.of_R hp0) CutAt.none (CutAt.int rfl (Int.le_trans (subl_out hx2).1 (subl_out hx2).2.1)) (subl_ij hx2) (by rw [List.length_map]; exact subl_j hx2) rfl ?_
   intro vx2 hcx2
   rw [← List.map_drop, ← List.map_take, ← (subl_out hx2).2.2.2] at hcx2
   have hcx2 := R.of_SL hcx2
   refine rt_cont hA14 ?_
   refine rt_fin ?_
   refine k_bslice2 (ds := ([x2, x3] : List (List DiskFile)).map (dL 2 dDiskFile)) slc56 rfl (RVs.cons hcx2 (RVs.cons hcx3 RVs.nil)) (by rfl) (by rfl) rfl rfl ?_
   intro s15 v15 b15 st15 ge15 bl15 h15
   have szs15 := st15.size
   have hS := hS.trans0 st15
   have lt15 := Own.le1 h15
   obtain ⟨x5, hx5, h⟩ := ob h
   refine k_call cal116 rfl (slices_Concat_disk_picture_disk_file_w  (h15.sl) hx5) rfl ?_
   rintro s16 v16_0 st16 ⟨_, rfl, h16_0⟩
   have szs16 := st16.size
   have hS := hS.trans0 st16
   refine k_assign rfl rfl ?_
   refine k_nil ?_
   refine k_keep [(4, _)] ⟨rfl, trivial⟩ ?_
   refine k_ret ?_
   obtain rfl := Option.some.inj h
   refine ⟨_, rfl, Ret.mk hS ?_⟩
   exact ⟨_, rfl, h16_0⟩

set_option maxHeartbeats 1000000 in
set_option maxRecDepth 100000 in
theorem disk_picture_with_w {s : St} {v0 : Value} {a0 : (List DiskFile)} {a1 : (List UInt8)} {v2 : Value} {a2 : (List UInt8)} {r : (List DiskFile)} (hp0 : R s v0 (.sl 2 (a0.map dDiskFile))) (hp2 : R s v2 (.sl 1 (a2.map bD))) (h : disk_picture_with a0 a1 a2 = some r) : Calls Tryd.prog 113 #[v0, S a1, v2] s.w (Ret s K0 (fun s1 v => ∃ (u0 : Value), v = u0 ∧ R s1 u0 (.sl 2 (r.map dDiskFile)))) := by
 unfold disk_picture_with at h
 have hS := Step.r0 K0 s
 refine k_fn (rs := [6]) (args := [v0, S a1, v2]) Tryd.func113 rfl rfl rfl rfl ?_
 refine k_seq ?_
 refine k_region ?_
 refine k_assign rfl rfl ?_
 refine k_nil ?_
 refine k_seq ?_
 refine k_region ?_
 refine k_move rfl rfl ?_
 refine k_move rfl rfl ?_
 obtain ⟨x1, hx1, h⟩ := ob h
 refine k_call cal115 rfl (disk_picture_without_w  (show R s v0 (.sl 2 (a0.map dDiskFile)) from hp0) hx1) rfl ?_
 rintro s1 v1_0 st1 ⟨_, rfl, h1_0⟩
 have szs1 := st1.size
 have hS := hS.trans0 st1
 replace hp2 := hp2.up2 st1
 refine k_assign rfl rfl ?_
 refine k_nil ?_
 refine k_keep [(0, _), (1, _), (2, _), (6, _)] ⟨rfl, rfl, rfl, rfl, trivial⟩ ?_
 refine k_seq ?_
 refine k_region ?_
 refine k_move rfl rfl ?_
 refine k_move rfl rfl ?_
 obtain ⟨x2, hx2, h⟩ := ob h
 refine k_call cal68 rfl (disk_picture_find_w  (SL.of_R h1_0) hx2) rfl ?_
 rintro s2 vr2 st2 rfl
 have szs2 := st2.size
 have hS := hS.trans0 st2
 replace h1_0 := h1_0.up2 st2
 replace hp2 := hp2.up2 st2
 refine k_move rfl rfl ?_
 refine k_extract rfl rfl rfl ?_
 refine k_extract rfl rfl rfl ?_
 refine k_assign rfl rfl ?_
 refine k_assign rfl rfl ?_
 refine k_nil ?_
 refine k_keep [(0, _), (1, _), (2, _), (6, _), (7, _)] ⟨rfl, rfl, rfl, rfl, rfl, trivial⟩ ?_
 refine k_seq ?_
 obtain ⟨x3, hx3, h⟩ := ob h
 obtain ⟨x4, hx4, h⟩ := ob h
 refine k_drawT (KN s2.n) 10 (.read 0 (.read 1 (.read 3 (.read 4 (.read 5 (.read 7 (.read 8 (.alt 2 (.alt 6 (.alt 9 .fin .no) (.alt 9 (.alt 6 .fin .no) .no)) (.alt 6 (.alt 2 (.alt 9 .fin .no) (.alt 9 (.alt 2 .fin .no) .no)) (.alt 9 (.alt 2 (.alt 6 .fin .no) (.alt 6 (.alt 2 .fin .no) .no)) .no)))))))))) mixed (by intro c h; (try simp only [KC, KO, KU, KN, KB] at h) <;> omega) rfl rfl rfl ?_
 intro s3 st3
 have szs3 := st3.size
 have hS := hS.trans0 st3
 replace h1_0 := h1_0.up2 st3
 replace hp2 := hp2.up2 st3
 refine rt_read (v1_0) rfl rfl (fun s4 st4 => ?_) ?_
 ·refine k_move rfl rfl ?_
  exact fq_end
 refine rt_read (.int .i64 x2.1) rfl rfl (fun s5 st5 => ?_) ?_
 ·refine k_move rfl rfl ?_
  exact fq_end
 refine rt_read (S a1) rfl rfl (fun s6 st6 => ?_) ?_
 ·refine k_move rfl rfl ?_
  exact fq_end
 refine rt_read (v2) rfl rfl (fun s7 st7 => ?_) ?_
 ·refine k_move rfl rfl ?_
  exact fq_end
 refine rt_read (.agg #[S a1, v2]) rfl rfl (fun s8 st8 => ?_) ?_
 ·try replace hp2 := hp2.up2 st8
  refine k_build plc76 zero76 rfl (Parts.cons (CellsOf.lit rfl rfl).1 (Parts.cons (CellsOf.sl (SL.of_R hp2)).1 Parts.nil)) (by rfl) rfl ?_
  refine k_as (v := .agg #[S a1, v2]) rfl ?_
  exact fq_end
 refine rt_read (v1_0) rfl rfl (fun s9 st9 => ?_) ?_
 ·refine k_move rfl rfl ?_
  exact fq_end
 refine rt_read (.int .i64 x2.1) rfl rfl (fun s10 st10 => ?_) ?_
 ·refine k_move rfl rfl ?_
  exact fq_end
 refine rt_alt rfl rfl ?_ ?_
 ·
  have hA11 := Step.r0 (KN s2.n) s3
  refine k_cut_sl (i := (0 : Int).toNat) (j := (x2.1 : Int).toNat) Tryd.underlying73 size76 rfl (SL.of_R h1_0) CutAt.none (CutAt.int rfl (Int.le_trans (subl_out hx3).1 (subl_out hx3).2.1)) (subl_ij hx3) (by rw [List.length_map]; exact subl_j hx3) rfl ?_
  intro vx3 hcx3
  rw [← List.map_drop, ← List.map_take, ← (subl_out hx3).2.2.2] at hcx3
  have hcx3 := R.of_SL hcx3
  refine rt_cont hA11 ?_
  refine rt_alt rfl rfl ?_ ?_
  ·
   have hA12 := Step.r0 (KN s2.n) s3
   refine k_bslice2 (ds := ([(⟨a1, a2⟩ : DiskFile)] : List DiskFile).map dDiskFile) slc73 rfl (RVs.cons ⟨_, rfl, (clsDiskFile (⟨a1, a2⟩ : DiskFile) hp2)⟩ RVs.nil) (by rfl) (by rfl) rfl rfl ?_
   intro s13 v13 b13 st13 ge13 bl13 h13
   have szs13 := st13.size
   have hS := hS.trans0 st13
   have hA12 := hA12.trans0 st13
   replace h1_0 := h1_0.up2 st13
   replace hcx3 := hcx3.up2 st13
   have lt13 := Own.le1 h13
   refine rt_cont hA12 ?_
   refine rt_act rfl rfl ?_
   have hA14 := Step.r0 (KN s2.n) s13
   refine k_cut_sl (i := (x2.1 : Int).toNat) (j := ((x1.length : Int) : Int).toNat) Tryd.underlying73 size76 rfl (SL.of_R h1_0) (CutAt.int rfl (subl_out hx4).1) (CutAt.len (by rw [List.length_map]; rfl)) (subl_ij hx4) (by rw [List.length_map]; exact subl_j hx4) rfl ?_
   intro vx4 hcx4
   rw [← List.map_drop, ← List.map_take, ← (subl_out hx4).2.2.2] at hcx4
   have hcx4 := R.of_SL hcx4
   refine rt_cont hA14 ?_
   refine rt_fin ?_
   obtain ⟨s15, e15, st15, h15⟩ := h13.freeze
   rw [← e15]
   have szs15 := st15.size
   have hS := hS.c0 st15
   replace hcx3 := hcx3.up2 st15
   replace hcx4 := hcx4.up2 st15
   refine k_bslice2 (ds := ([x3, ([(⟨a1, a2⟩ : DiskFile)] : List DiskFile), x4] : List (List DiskFile)).map (dL 2 dDiskFile)) slc56 rfl (RVs.cons hcx3 (RVs.cons h15 (RVs.cons hcx4 RVs.nil))) (by rfl) (by rfl) rfl rfl ?_
   intro s16 v16 b16 st16 ge16 bl16 h16
   have szs16 := st16.size
   have hS := hS.trans0 st16
   have lt16 := Own.le1 h16
   obtain ⟨x5, hx5, h⟩ := ob h
   refine k_call cal116 rfl (slices_Concat_disk_picture_disk_file_w  (h16.sl) hx5) rfl ?_
   rintro s17 v17_0 st17 ⟨_, rfl, h17_0⟩
   have szs17 := st17.size
   have hS := hS.trans0 st17
   refine k_assign rfl rfl ?_
   refine k_nil ?_
   refine k_keep [(6, _)] ⟨rfl, trivial⟩ ?_
   refine k_ret ?_
   obtain rfl := Option.some.inj h
   refine ⟨_, rfl, Ret.mk hS ?_⟩
   exact ⟨_, rfl, h17_0⟩
  ·
   refine rt_act rfl rfl ?_
   have hA18 := Step.r0 (KN s2.n) s3
   refine k_cut_sl (i := (x2.1 : Int).toNat) (j := ((x1.length : Int) : Int).toNat) Tryd.underlying73 size76 rfl (SL.of_R h1_0) (CutAt.int rfl (subl_out hx4).1) (CutAt.len (by rw [List.length_map]; rfl)) (subl_ij hx4) (by rw [List.length_map]; exact subl_j hx4) rfl ?_
   intro vx4 hcx4
   rw [← List.map_drop, ← List.map_take, ← (subl_out hx4).2.2.2] at hcx4
   have hcx4 := R.of_SL hcx4
   refine rt_cont hA18 ?_
   refine rt_act rfl rfl ?_
   have hA19 := Step.r0 (KN s2.n) s3
   refine k_bslice2 (ds := ([(⟨a1, a2⟩ : DiskFile)] : List DiskFile).map dDiskFile) slc73 rfl (RVs.cons ⟨_, rfl, (clsDiskFile (⟨a1, a2⟩ : DiskFile) hp2)⟩ RVs.nil) (by rfl) (by rfl) rfl rfl ?_
   intro s20 v20 b20 st20 ge20 bl20 h20
   have szs20 := st20.size
   have hS := hS.trans0 st20
   have hA19 := hA19.trans0 st20
   replace hcx3 := hcx3.up2 st20
   replace hcx4 := hcx4.up2 st20
   have lt20 := Own.le1 h20
   refine rt_cont hA19 ?_
   refine rt_fin ?_
   obtain ⟨s21, e21, st21, h21⟩ := h20.freeze
   rw [← e21]
   have szs21 := st21.size
   have hS := hS.c0 st21
   replace hcx3 := hcx3.up2 st21
   replace hcx4 := hcx4.up2 st21
   refine k_bslice2 (ds := ([x3, ([(⟨a1, a2⟩ : DiskFile)] : List DiskFile), x4] : List (List DiskFile)).map (dL 2 dDiskFile)) slc56 rfl (RVs.cons hcx3 (RVs.cons h21 (RVs.cons hcx4 RVs.nil))) (by rfl) (by rfl) rfl rfl ?_
   intro s22 v22 b22 st22 ge22 bl22 h22
   have szs22 := st22.size
   have hS := hS.trans0 st22
   have lt22 := Own.le1 h22
   obtain ⟨x6, hx6, h⟩ := ob h
   refine k_call cal116 rfl (slices_Concat_disk_picture_disk_file_w  (h22.sl) hx6) rfl ?_
   rintro s23 v23_0 st23 ⟨_, rfl, h23_0⟩
   have szs23 := st23.size
   have hS := hS.trans0 st23
   refine k_assign rfl rfl ?_
   refine k_nil ?_
   refine k_keep [(6, _)] ⟨rfl, trivial⟩ ?_
   refine k_ret ?_
   obtain rfl := Option.some.inj h
   refine ⟨_, rfl, Ret.mk hS ?_⟩
   exact ⟨_, rfl, h23_0⟩
 ·
  refine rt_alt rfl rfl ?_ ?_
  ·
   have hA24 := Step.r0 (KN s2.n) s3
   refine k_bslice2 (ds := ([(⟨a1, a2⟩ : DiskFile)] : List DiskFile).map dDiskFile) slc73 rfl (RVs.cons ⟨_, rfl, (clsDiskFile (⟨a1, a2⟩ : DiskFile) hp2)⟩ RVs.nil) (by rfl) (by rfl) rfl rfl ?_
   intro s25 v25 b25 st25 ge25 bl25 h25
   have szs25 := st25.size
   have hS := hS.trans0 st25
   have hA24 := hA24.trans0 st25
   replace h1_0 := h1_0.up2 st25
   have lt25 := Own.le1 h25
   refine rt_cont hA24 ?_
   refine rt_alt rfl rfl ?_ ?_
   ·
    have hA26 := Step.r0 (KN s2.n) s25
    refine k_cut_sl (i := (0 : Int).toNat) (j := (x2.1 : Int).toNat) Tryd.underlying73 size76 rfl (SL.of_R h1_0) CutAt.none (CutAt.int rfl (Int.le_trans (subl_out hx3).1 (subl_out hx3).2.1)) (subl_ij hx3) (by rw [List.length_map]; exact subl_j hx3) rfl ?_
    intro vx3 hcx3
    rw [← List.map_drop, ← List.map_take, ← (subl_out hx3).2.2.2] at hcx3
    have hcx3 := R.of_SL hcx3
    refine rt_cont hA26 ?_
    refine rt_act rfl rfl ?_
    have hA27 := Step.r0 (KN s2.n) s25
    refine k_cut_sl (i := (x2.1 : Int).toNat) (j := ((x1.length : Int) : Int).toNat) Tryd.underlying73 size76 rfl (SL.of_R h1_0) (CutAt.int rfl (subl_out hx4).1) (CutAt.len (by rw [List.length_map]; rfl)) (subl_ij hx4) (by rw [List.length_map]; exact subl_j hx4) rfl ?_
    intro vx4 hcx4
    rw [← List.map_drop, ← List.map_take, ← (subl_out hx4).2.2.2] at hcx4
    have hcx4 := R.of_SL hcx4
    refine rt_cont hA27 ?_
    refine rt_fin ?_
    obtain ⟨s28, e28, st28, h28⟩ := h25.freeze
    rw [← e28]
    have szs28 := st28.size
    have hS := hS.c0 st28
    replace hcx3 := hcx3.up2 st28
    replace hcx4 := hcx4.up2 st28
    refine k_bslice2 (ds := ([x3, ([(⟨a1, a2⟩ : DiskFile)] : List DiskFile), x4] : List (List DiskFile)).map (dL 2 dDiskFile)) slc56 rfl (RVs.cons hcx3 (RVs.cons h28 (RVs.cons hcx4 RVs.nil))) (by rfl) (by rfl) rfl rfl ?_
    intro s29 v29 b29 st29 ge29 bl29 h29
    have szs29 := st29.size
    have hS := hS.trans0 st29
    have lt29 := Own.le1 h29
    obtain ⟨x7, hx7, h⟩ := ob h
    refine k_call cal116 rfl (slices_Concat_disk_picture_disk_file_w  (h29.sl) hx7) rfl ?_
    rintro s30 v30_0 st30 ⟨_, rfl, h30_0⟩
    have szs30 := st30.size
    have hS := hS.trans0 st30
    refine k_assign rfl rfl ?_
    refine k_nil ?_
    refine k_keep [(6, _)] ⟨rfl, trivial⟩ ?_
    refine k_ret ?_
    obtain rfl := Option.some.inj h
    refine ⟨_, rfl, Ret.mk hS ?_⟩
    exact ⟨_, rfl, h30_0⟩
   ·
    refine rt_act rfl rfl ?_
    have hA31 := Step.r0 (KN s2.n) s25
    refine k_cut_sl (i := (x2.1 : Int).toNat) (j := ((x1.length : Int) : Int).toNat) Tryd.underlying73 size76 rfl (SL.of_R h1_0) (CutAt.int rfl (subl_out hx4).1) (CutAt.len (by rw [List.length_map]; rfl)) (subl_ij hx4) (by rw [List.length_map]; exact subl_j hx4) rfl ?_
    intro vx4 hcx4
    rw [← List.map_drop, ← List.map_take, ← (subl_out hx4).2.2.2] at hcx4
    have hcx4 := R.of_SL hcx4
    refine rt_cont hA31 ?_
    refine rt_act rfl rfl ?_
    have hA32 := Step.r0 (KN s2.n) s25
    refine k_cut_sl (i := (0 : Int).toNat) (j := (x2.1 : Int).toNat) Tryd.underlying73 size76 rfl (SL.of_R h1_0) CutAt.none (CutAt.int rfl (Int.le_trans (subl_out hx3).1 (subl_out hx3).2.1)) (subl_ij hx3) (by rw [List.length_map]; exact subl_j hx3) rfl ?_
    intro vx3 hcx3
    rw [← List.map_drop, ← List.map_take, ← (subl_out hx3).2.2.2] at hcx3
    have hcx3 := R.of_SL hcx3
    refine rt_cont hA32 ?_
    refine rt_fin ?_
    obtain ⟨s33, e33, st33, h33⟩ := h25.freeze
    rw [← e33]
    have szs33 := st33.size
    have hS := hS.c0 st33
    replace hcx4 := hcx4.up2 st33
    replace hcx3 := hcx3.up2 st33
    refine k_bslice2 (ds := ([x3, ([(⟨a1, a2⟩ : DiskFile)] : List DiskFile), x4] : List (List DiskFile)).map (dL 2 dDiskFile)) slc56 rfl (RVs.cons hcx3 (RVs.cons h33 (RVs.cons hcx4 RVs.nil))) (by rfl) (by rfl) rfl rfl ?_
    intro s34 v34 b34 st34 ge34 bl34 h34
    have szs34 := st34.size
    have hS := hS.trans0 st34
    have lt34 := Own.le1 h34
    obtain ⟨x8, hx8, h⟩ := ob h
    refine k_call cal116 rfl (slices_Concat_disk_picture_disk_file_w  (h34.sl) hx8) rfl ?_
    rintro s35 v35_0 st35 ⟨_, rfl, h35_0⟩
    have szs35 := st35.size
    have hS := hS.trans0 st35
    refine k_assign rfl rfl ?_
    refine k_nil ?_
    refine k_keep [(6, _)] ⟨rfl, trivial⟩ ?_
    refine k_ret ?_
    obtain rfl := Option.some.inj h
    refine ⟨_, rfl, Ret.mk hS ?_⟩
    exact ⟨_, rfl, h35_0⟩
  ·
   refine rt_act rfl rfl ?_
   have hA36 := Step.r0 (KN s2.n) s3
   refine k_cut_sl (i := (x2.1 : Int).toNat) (j := ((x1.length : Int) : Int).toNat) Tryd.underlying73 size76 rfl (SL.of_R h1_0) (CutAt.int rfl (subl_out hx4).1) (CutAt.len (by rw [List.length_map]; rfl)) (subl_ij hx4) (by rw [List.length_map]; exact subl_j hx4) rfl ?_
   intro vx4 hcx4
   rw [← List.map_drop, ← List.map_take, ← (subl_out hx4).2.2.2] at hcx4
   have hcx4 := R.of_SL hcx4
   refine rt_cont hA36 ?_
   refine rt_alt rfl rfl ?_ ?_
   ·
    have hA37 := Step.r0 (KN s2.n) s3
    refine k_cut_sl (i := (0 : Int).toNat) (j := (x2.1 : Int).toNat) Tryd.underlying73 size76 rfl (SL.of_R h1_0) CutAt.none (CutAt.int rfl (Int.le_trans (subl_out hx3).1 (subl_out hx3).2.1)) (subl_ij hx3) (by rw [List.length_map]; exact subl_j hx3) rfl ?_
    intro vx3 hcx3
    rw [← List.map_drop, ← List.map_take, ← (subl_out hx3).2.2.2] at hcx3
    have hcx3 := R.of_SL hcx3
    refine rt_cont hA37 ?_
    refine rt_act rfl rfl ?_
    have hA38 := Step.r0 (KN s2.n) s3
    refine k_bslice2 (ds := ([(⟨a1, a2⟩ : DiskFile)] : List DiskFile).map dDiskFile) slc73 rfl (RVs.cons ⟨_, rfl, (clsDiskFile (⟨a1, a2⟩ : DiskFile) hp2)⟩ RVs.nil) (by rfl) (by rfl) rfl rfl ?_
    intro s39 v39 b39 st39 ge39 bl39 h39
    have szs39 := st39.size
    have hS := hS.trans0 st39
    have hA38 := hA38.trans0 st39
    replace hcx4 := hcx4.up2 st39
    replace hcx3 := hcx3.up2 st39
    have lt39 := Own.le1 h39
    refine rt_cont hA38 ?_
    refine rt_fin ?_
    obtain ⟨s40, e40, st40, h40⟩ := h39.freeze
    rw [← e40]
    have szs40 := st40.size
    have hS := hS.c0 st40
    replace hcx4 := hcx4.up2 st40
    replace hcx3 := hcx3.up2 st40
    refine k_bslice2 (ds := ([x3, ([(⟨a1, a2⟩ : DiskFile)] : List DiskFile), x4] : List (List DiskFile)).map (dL 2 dDiskFile)) slc56 rfl (RVs.cons hcx3 (RVs.cons h40 (RVs.cons hcx4 RVs.nil))) (by rfl) (by rfl) rfl rfl ?_
    intro s41 v41 b41 st41 ge41 bl41 h41
    have szs41 := st41.size
    have hS := hS.trans0 st41
    have lt41 := Own.le1 h41
    obtain ⟨x9, hx9, h⟩ := ob h
    refine k_call cal116 rfl (slices_Concat_disk_picture_disk_file_w  (h41.sl) hx9) rfl ?_
    rintro s42 v42_0 st42 ⟨_, rfl, h42_0⟩
    have szs42 := st42.size
    have hS := hS.trans0 st42
    refine k_assign rfl rfl ?_
    refine k_nil ?_
    refine k_keep [(6, _)] ⟨rfl, trivial⟩ ?_
    refine k_ret ?_
    obtain rfl := Option.some.inj h
    refine ⟨_, rfl, Ret.mk hS ?_⟩
    exact ⟨_, rfl, h42_0⟩
   ·
    refine rt_act rfl rfl ?_
    have hA43 := Step.r0 (KN s2.n) s3
    refine k_bslice2 (ds := ([(⟨a1, a2⟩ : DiskFile)] : List DiskFile).map dDiskFile) slc73 rfl (RVs.cons ⟨_, rfl, (clsDiskFile (⟨a1, a2⟩ : DiskFile) hp2)⟩ RVs.nil) (by rfl) (by rfl) rfl rfl ?_
    intro s44 v44 b44 st44 ge44 bl44 h44
    have szs44 := st44.size
    have hS := hS.trans0 st44
    have hA43 := hA43.trans0 st44
    replace h1_0 := h1_0.up2 st44
    replace hcx4 := hcx4.up2 st44
    have lt44 := Own.le1 h44
    refine rt_cont hA43 ?_
    refine rt_act rfl rfl ?_
    have hA45 := Step.r0 (KN s2.n) s44
    refine k_cut_sl (i := (0 : Int).toNat) (j := (x2.1 : Int).toNat) Tryd.underlying73 size76 rfl (SL.of_R h1_0) CutAt.none (CutAt.int rfl (Int.le_trans (subl_out hx3).1 (subl_out hx3).2.1)) (subl_ij hx3) (by rw [List.length_map]; exact subl_j hx3) rfl ?_
    intro vx3 hcx3
    rw [← List.map_drop, ← List.map_take, ← (subl_out hx3).2.2.2] at hcx3
    have hcx3 := R.of_SL hcx3
    refine rt_cont hA45 ?_
    refine rt_fin ?_
    obtain ⟨s46, e46, st46, h46⟩ := h44.freeze
    rw [← e46]
    have szs46 := st46.size
    have hS := hS.c0 st46
    replace hcx4 := hcx4.up2 st46
    replace hcx3 := hcx3.up2 st46
    refine k_bslice2 (ds := ([x3, ([(⟨a1, a2⟩ : DiskFile)] : List DiskFile), x4] : List (List DiskFile)).map (dL 2 dDiskFile)) slc56 rfl (RVs.cons hcx3 (RVs.cons h46 (RVs.cons hcx4 RVs.nil))) (by rfl) (by rfl) rfl rfl ?_
    intro s47 v47 b47 st47 ge47 bl47 h47
    have szs47 := st47.size
    have hS := hS.trans0 st47
    have lt47 := Own.le1 h47
    obtain ⟨x10, hx10, h⟩ := ob h
    refine k_call cal116 rfl (slices_Concat_disk_picture_disk_file_w  (h47.sl) hx10) rfl ?_
    rintro s48 v48_0 st48 ⟨_, rfl, h48_0⟩
    have szs48 := st48.size
    have hS := hS.trans0 st48
    refine k_assign rfl rfl ?_
    refine k_nil ?_
    refine k_keep [(6, _)] ⟨rfl, trivial⟩ ?_
    refine k_ret ?_
    obtain rfl := Option.some.inj h
    refine ⟨_, rfl, Ret.mk hS ?_⟩
    exact ⟨_, rfl, h48_0⟩

set_option maxHeartbeats 1000000 in
set_option maxRecDepth 100000 in
theorem disk_name_w {s : St} {a0 : (List UInt8)} {r : Bool}  (h : disk_name a0 = some r) : Calls Tryd.prog 69 #[S a0] s.w (Ret s K0 (fun s1 v => v = .bool r)) := by
 unfold disk_name at h
 have hS := Step.r0 K0 s
 refine k_fn (rs := [2]) (args := [S a0]) Tryd.func69 rfl rfl rfl rfl ?_
 refine k_seq ?_
 refine k_region ?_
 refine k_assign rfl rfl ?_
 refine k_nil ?_
 refine k_seq ?_
 refine k_region ?_
 refine k_move rfl rfl ?_
 refine k_neq_str rfl rfl rfl ?_
 refine k_move rfl rfl ?_
 have hE1 := Step.r0 K0 s
 refine k_cutl (X := St) 4 [(0, S a0), (2, .bool false), (3, S a0), (4, .bool (decide (a0 ≠ ([] : List UInt8))))] (fun _ => [(9, .bool (decide ((a0 ≠ ([] : List UInt8)) ∧ ((a0.length : Int) ≤ 16))))]) (fun sl wL => sl.w = wL ∧ Step K0 s sl) ?_ ?_
 ·
  refine k_again 5 rfl ?_
  refine k_split (fun c2 => ?_) (fun c2 => ?_)
  ·
   refine k_yes rfl rfl ?_
   refine k_move rfl rfl ?_
   refine k_yes rfl rfl ?_
   refine k_len_str Tryd.underlying9 rfl rfl ?_
   refine k_yes rfl rfl ?_
   refine k_leq rfl rfl rfl ?_
   refine k_pickT rfl rfl rfl rfl ?_
   exact k_met ⟨s, ⟨(congrArg (fun b => some (Value.bool b)) (by first | exact decide_eq_decide.2 ⟨fun h => ⟨c2, h⟩, fun h => h.2⟩ | exact (decide_eq_false (fun h => c2 h.1)).symm | (simp [c2]; done) | (simp [c2, i64] <;> omega))), trivial⟩, ⟨rfl, rfl, rfl, rfl, trivial⟩, rfl, hE1⟩
  ·
   refine k_no rfl rfl rfl rfl ?_
   refine k_no rfl rfl rfl rfl ?_
   refine k_no rfl rfl rfl rfl ?_
   refine k_pickF rfl rfl rfl rfl ?_
   exact k_met ⟨s, ⟨(congrArg (fun b => some (Value.bool b)) (by first | exact decide_eq_decide.2 ⟨fun h => ⟨c2, h⟩, fun h => h.2⟩ | exact (decide_eq_false (fun h => c2 h.1)).symm | (simp [c2]; done) | (simp [c2, i64] <;> omega))), trivial⟩, ⟨rfl, rfl, rfl, rfl, trivial⟩, rfl, hE1⟩
 ·
  rintro s3 wL ⟨rfl, hE1⟩
  have szs3 := hE1.size
  have hS := hS.trans0 hE1
  refine k_move rfl rfl ?_
  obtain ⟨x1, hx1, h⟩ := ob h
  have hE4 := Step.r0 K0 s3
  refine k_cutl (X := St) 4 [(0, S a0), (2, .bool false), (3, S a0), (4, .bool (decide (a0 ≠ ([] : List UInt8)))), (9, .bool (decide ((a0 ≠ ([] : List UInt8)) ∧ ((a0.length : Int) ≤ 16))))] (fun _ => [(14, .bool x1)]) (fun sl wL => sl.w = wL ∧ Step K0 s3 sl) ?_ ?_
  ·
   refine k_again 10 rfl ?_
   refine k_split (fun c5 => ?_) (fun c5 => ?_)
   ·
    have hx1 := itT hx1 c5
    refine k_yes rfl rfl ?_
    refine k_move rfl rfl ?_
    refine k_yes rfl rfl ?_
    by_cases c6 : a0.length ≤ 9223372036854775807
    case neg => exact (noneNe (itF hx1 c6)).elim
    replace hx1 := itT hx1 c6
    refine k_call cal74 rfl (trim_w (a := a0) c6) rfl ?_
    rintro s7 _ st7 rfl
    have szs7 := st7.size
    have hS := hS.trans0 st7
    have hE4 := hE4.trans0 st7
    refine k_yes rfl rfl ?_
    refine k_eql_str rfl rfl rfl ?_
    refine k_pickT rfl rfl rfl rfl ?_
    exact k_met ⟨s7, ⟨(congrArg (fun b => some (Value.bool b)) (Option.some.inj hx1)), trivial⟩, ⟨rfl, rfl, rfl, rfl, rfl, trivial⟩, rfl, hE4⟩
   ·
    have hx1 := itF hx1 c5
    refine k_no rfl rfl rfl rfl ?_
    refine k_no rfl rfl rfl rfl ?_
    refine k_no rfl rfl rfl rfl ?_
    refine k_pickF rfl rfl rfl rfl ?_
    exact k_met ⟨s3, ⟨(congrArg (fun b => some (Value.bool b)) (Option.some.inj hx1)), trivial⟩, ⟨rfl, rfl, rfl, rfl, rfl, trivial⟩, rfl, hE4⟩
  ·
   rintro s8 wL ⟨rfl, hE4⟩
   have szs8 := hE4.size
   have hS := hS.trans0 hE4
   refine k_assign rfl rfl ?_
   refine k_nil ?_
   refine k_keep [(2, _)] ⟨rfl, trivial⟩ ?_
   refine k_ret ?_
   obtain rfl := Option.some.inj h
   refine ⟨_, rfl, Ret.mk hS ?_⟩
   exact rfl

set_option maxHeartbeats 1000000 in
set_option maxRecDepth 100000 in
theorem slices_Grow_byte_byte_nl_own_w {s : St} {a1 : Int} {r : (List UInt8)}  (h : slices_Grow_byte_byte_nl a1 = some r) : Calls Tryd.prog 117 #[.slice none 0 0, .int .i64 a1] s.w (Ret s K0 (fun s1 v => ∃ (u0 : Value), ∃ (lu0 : Lab), v = u0 ∧ (s.n < lu0.o ∧ lu0.c = 0) ∧ Own s1 lu0 5 1 u0 (r.map bD))) := by
 unfold slices_Grow_byte_byte_nl at h
 have hS := Step.r0 K0 s
 refine k_fn (rs := [4]) (args := [.slice none 0 0, .int .i64 a1]) Tryd.func117 rfl rfl rfl rfl ?_
 refine k_seq ?_
 refine k_region ?_
 refine k_assign rfl rfl ?_
 refine k_nil ?_
 refine k_seq ?_
 refine k_seq ?_
 refine k_region ?_
 refine k_move rfl rfl ?_
 refine k_lss rfl rfl rfl ?_
 refine k_nil ?_
 refine k_keep [(0, _), (1, _), (4, _), (6, _)] ⟨rfl, rfl, rfl, rfl, trivial⟩ ?_
 refine k_cond_dec rfl (fun c1 => ?_) (fun c1 => ?_)
 ·
  have h := itT h c1
  refine k_region ?_
  exact (noneNe h).elim
 ·
  have h := itF h c1
  refine k_skip ?_
  refine k_seq ?_
  refine k_seq ?_
  refine k_region ?_
  refine k_move rfl rfl ?_
  refine k_move rfl rfl ?_
  refine k_cap_nil Tryd.underlying29 rfl rfl ?_
  refine k_move rfl rfl ?_
  refine k_len Tryd.underlying29 rfl ⟨_, _, rfl⟩ rfl ?_
  refine k_sub_ rfl rfl rfl ?_
  refine k_as (v := .int .i64 0) (by first | rfl | decide) ?_
  refine k_sub_ rfl rfl rfl ?_
  refine k_assign rfl rfl ?_
  refine k_nil ?_
  refine k_keep [(0, _), (1, _), (4, _)] ⟨rfl, rfl, rfl, trivial⟩ ?_
  refine k_seq ?_
  refine k_region ?_
  refine k_move rfl rfl ?_
  refine k_gtr rfl rfl rfl ?_
  refine k_nil ?_
  refine k_keep [(0, _), (1, _), (4, _), (16, _)] ⟨rfl, rfl, rfl, rfl, trivial⟩ ?_
  refine k_cond_dec rfl (fun c2 => ?_) (fun c2 => ?_)
  ·
   have h := itT h c2
   refine k_region ?_
   refine k_move rfl rfl ?_
   refine k_move rfl rfl ?_
   refine k_cap_nil Tryd.underlying29 rfl rfl ?_
   refine k_cut_nil Tryd.underlying29 size5 rfl rfl rfl ?_
   refine k_move rfl rfl ?_
   by_cases c3 : 0 < i64 (a1 - 0)
   case neg => exact (noneNe (itF h c3)).elim
   replace h := itT h c3
   by_cases c4 : i64 (a1 - 0) ≤ 140737488355328
   case neg => exact (noneNe (itF h c4)).elim
   replace h := itT h c4
   obtain ⟨m5, em5⟩ : ∃ m : Nat, i64 (a1 - 0) = (m : Int) := ⟨(i64 (a1 - 0)).toNat, by omega⟩
   refine k_append_zeros (m := m5) elem29 Tryd.underlying3 rfl (congrArg (fun z => some (Value.int .i64 z)) em5) (by omega) (by omega) (by omega) rfl ?_
   intro s5 v5 st5 h5
   have szs5 := st5.size
   have hS := hS.trans0 st5
   refine k_move rfl rfl ?_
   refine k_len Tryd.underlying29 rfl ⟨_, _, rfl⟩ rfl ?_
   refine k_cut_row0 Tryd.underlying29 size5 rfl h5 rfl rfl ?_
   intro v6 h6
   replace h6 : Own s5 ⟨s.n + 1, 0⟩ 5 1 v6 (([] : List UInt8).map bD) := h6
   have lt6 := Own.le1 h6
   refine k_assign rfl rfl ?_
   refine k_nil ?_
   refine k_keep [(0, _), (4, _)] ⟨rfl, rfl, trivial⟩ ?_
   refine k_seq ?_
   refine k_region ?_
   refine k_move rfl rfl ?_
   refine k_assign rfl rfl ?_
   refine k_nil ?_
   refine k_keep [(4, _)] ⟨rfl, trivial⟩ ?_
   refine k_ret ?_
   obtain rfl := Option.some.inj h
   refine ⟨_, rfl, Ret.mk hS ?_⟩
   exact ⟨_, ⟨s.n + 1, 0⟩, rfl, ⟨by (try dsimp only); omega, rfl⟩, h6⟩
  ·
   have h := itF h c2
   refine k_skip ?_
   refine k_seq ?_
   refine k_region ?_
   refine k_move rfl rfl ?_
   refine k_assign rfl rfl ?_
   refine k_nil ?_
   refine k_keep [(4, _)] ⟨rfl, trivial⟩ ?_
   refine k_ret ?_
   obtain rfl := Option.some.inj h
   refine ⟨_, rfl, Ret.mk hS ?_⟩
   exact ⟨_, ⟨s.n + 1, 0⟩, rfl, ⟨by show s.n < s.n + 1; omega, rfl⟩, Own.nil (by simp) (Nat.le_refl _)⟩

set_option maxHeartbeats 1000000 in
set_option maxRecDepth 100000 in
theorem slices_Concat_byte_byte_w {s : St} {l0 : Lab} {v0 : Value} {a0 : (List (List UInt8))} {r : (List UInt8)} (hp0 : SL s l0 v0 1 (a0.map (dL 1 bD))) (h : slices_Concat_byte_byte a0 = some r) : Calls Tryd.prog 114 #[v0] s.w (Ret s K0 (fun s1 v => ∃ (u0 : Value), v = u0 ∧ R s1 u0 (.sl 1 (r.map bD)))) := by
 unfold slices_Concat_byte_byte at h
 obtain ⟨lf0, lf0le, lf0ne, hp0⟩ := hp0.fix
 have hS := Step.r0 K0 s
 refine k_fn (rs := [2]) (args := [v0]) Tryd.func114 rfl rfl rfl rfl ?_
 refine k_seq ?_
 refine k_region ?_
 refine k_assign rfl rfl ?_
 refine k_nil ?_
 refine k_seq ?_
 refine k_region ?_
 refine k_assign rfl rfl ?_
 refine k_nil ?_
 refine k_seq ?_
 obtain ⟨kj1, hK1, h⟩ := jn_out h
 have hE1 := Step.r0 K0 s
 refine k_cutc (X := St × Int) [(0, v0), (2, .slice none 0 0)] (fun (xL : St × Int) => match xL with | (sl, x2) => [(3, .int .i64 x2)]) (fun (xL : St × Int) (wL : World) => match xL with | (sl, x2) => sl.w = wL ∧ Step K0 s sl ∧ kj1 x2 = some r) ?_ ?_
 ·
  refine k_seq ?_
  refine k_region ?_
  refine k_move rfl rfl ?_
  refine k_len Tryd.underlying154 rfl hp0.hasLen rfl ?_
  refine k_as (v := .int .i64 (a0.length : Int)) (by simp only [List.length_map]) ?_
  refine k_move rfl rfl ?_
  refine k_nil ?_
  refine k_block ?_
  refine k_loopc (X := St × Int × Int × Nat) [(0, _), (2, _), (9, _), (10, _)] (fun (xL : St × Int × Int × Nat) => match xL with | (sl, x3, x4, j) => [(3, .int .i64 x3), (11, .int .i64 x4)]) (fun (xL : St × Int × Int × Nat) (wL : World) => match xL with | (sl, x3, x4, j) => sl.w = wL ∧ Step K0 s sl ∧ slices_Concat_byte_byte_l1 a0 kj1 j x3 x4 = some r) (fun (xL : St × Int × Int × Nat) => match xL with | (sl, x3, x4, j) => j) (s, 0, 0, FU) ⟨rfl, rfl, rfl, rfl, trivial⟩ ⟨(by first | rfl | (simp <;> rfl)), (by first | rfl | (simp <;> rfl)), trivial⟩ ⟨rfl, (Step.refl _).of0 (by first | exact fun _ h => h | (intro c h; simp [KC, KO, KU, KN, KB] at h <;> omega)), h⟩ ?_
  rintro ⟨s3, x3, x4, j⟩ wL ⟨rfl, hE2, h⟩
  cases j with
  | zero => rw [slices_Concat_byte_byte_l1] at h; exact (noneNe h).elim
  | succ j =>
  rw [slices_Concat_byte_byte_l1] at h
  have szs3 := hE2.size
  have hS := hS.trans0 hE2
  have hE1 := hE1.trans0 hE2
  replace hp0 := hp0.up2 hE2
  refine k_seq ?_
  refine k_region ?_
  refine k_lss rfl rfl rfl ?_
  refine k_nil ?_
  refine k_seq ?_
  refine k_cond_dec rfl (fun c4 => ?_) (fun c4 => ?_)
  ·
   have h := itT h c4
   refine k_skip ?_
   refine k_seq ?_
   refine k_block ?_
   refine k_seq ?_
   refine k_region ?_
   obtain ⟨x5, hx5, h⟩ := ob h
   refine k_ixaddr Tryd.underlying154 size29 rfl rfl hp0 (geti_out hx5).1 (geti_map hx5) rfl ?_
   intro qx5 hqx5
   refine k_load_sl one29 rfl hqx5 rfl ?_
   intro v5 h5
   refine k_assign rfl rfl ?_
   refine k_nil ?_
   refine k_keep [(0, _), (2, _), (3, _), (5, _), (9, _), (10, _), (11, _)] ⟨rfl, rfl, rfl, rfl, rfl, rfl, rfl, trivial⟩ ?_
   refine k_seq ?_
   refine k_region ?_
   refine k_move rfl rfl ?_
   refine k_move rfl rfl ?_
   refine k_len Tryd.underlying29 rfl (SL.of_R h5).hasLen rfl ?_
   refine k_as (v := .int .i64 (x5.length : Int)) (by simp only [List.length_map]) ?_
   refine k_add rfl rfl rfl ?_
   refine k_assign rfl rfl ?_
   refine k_nil ?_
   refine k_keep [(0, _), (2, _), (3, _), (9, _), (10, _), (11, _)] ⟨rfl, rfl, rfl, rfl, rfl, rfl, trivial⟩ ?_
   refine k_seq ?_
   refine k_region ?_
   refine k_move rfl rfl ?_
   refine k_lss rfl rfl rfl ?_
   refine k_nil ?_
   refine k_keep [(0, _), (2, _), (3, _), (9, _), (10, _), (11, _), (20, _)] ⟨rfl, rfl, rfl, rfl, rfl, rfl, rfl, trivial⟩ ?_
   refine k_cond_dec rfl (fun c6 => ?_) (fun c6 => ?_)
   ·
    have h := itT h c6
    refine k_region ?_
    exact (noneNe h).elim
   ·
    have h := itF h c6
    refine k_skip ?_
    refine k_blk ?_
    refine k_region ?_
    refine k_add rfl rfl rfl ?_
    refine k_move rfl rfl ?_
    refine k_nil ?_
    exact k_stop ⟨(s3, i64 (x3 + (x5.length : Int)), i64 (x4 + 1), j), ⟨(by first | rfl | (simp <;> rfl)), (by first | rfl | (simp <;> rfl)), trivial⟩, ⟨rfl, rfl, rfl, rfl, trivial⟩, ⟨rfl, hE2, h⟩, (by simp)⟩
  ·
   have h := itF h c4
   refine k_exit rfl ?_
   exact k_stop ⟨(s3, x3), ⟨(by first | rfl | (simp <;> rfl)), trivial⟩, ⟨rfl, rfl, trivial⟩, ⟨rfl, hE1, h⟩⟩
 ·
  rintro ⟨s7, x2⟩ wL ⟨rfl, hE1, h⟩
  rw [hK1] at h
  have szs7 := hE1.size
  have hS := hS.trans0 hE1
  replace hp0 := hp0.up2 hE1
  refine k_seq ?_
  refine k_region ?_
  refine k_move rfl rfl ?_
  obtain ⟨x6, hx6, h⟩ := ob h
  refine k_call cal117 rfl (slices_Grow_byte_byte_nl_own_w   hx6) rfl ?_
  rintro s8 v8_0 st8 ⟨_, l8_0, rfl, hl8_0, h8_0⟩
  have szs8 := st8.size
  have hS := hS.trans0 st8
  replace hp0 := hp0.up2 st8
  obtain ⟨l8_0, hl8_0, h8_0⟩ := Own.anew 2080 h8_0 hl8_0 szs8
  have lt8_0 := Own.le1 h8_0
  refine k_assign rfl rfl ?_
  refine k_nil ?_
  refine k_keep [(0, _), (2, _), (6, _)] ⟨rfl, rfl, rfl, trivial⟩ ?_
  refine k_seq ?_
  obtain ⟨kj7, hK9, h⟩ := jn_out h
  have hE9 := Step.r0 (KC l8_0.o l8_0.c) s8
  refine k_cutc (X := St × (List UInt8) × Value) [(2, .slice none 0 0)] (fun (xL : St × (List UInt8) × Value) => match xL with | (sl, x8, v10) => [(6, v10)]) (fun (xL : St × (List UInt8) × Value) (wL : World) => match xL with | (sl, x8, v10) => sl.w = wL ∧ Step (KC l8_0.o l8_0.c) s8 sl ∧ (Own sl ⟨l8_0.o, l8_0.c⟩ 5 1 v10 (x8.map bD)) ∧ kj7 x8 = some r) ?_ ?_
  ·
   refine k_seq ?_
   refine k_region ?_
   refine k_move rfl rfl ?_
   refine k_len Tryd.underlying154 rfl hp0.hasLen rfl ?_
   refine k_as (v := .int .i64 (a0.length : Int)) (by simp only [List.length_map]) ?_
   refine k_move rfl rfl ?_
   refine k_nil ?_
   refine k_keep [(2, _), (6, _), (25, _), (26, _), (27, _)] ⟨rfl, rfl, rfl, rfl, rfl, trivial⟩ ?_
   refine k_block ?_
   refine k_loopc (X := St × (List UInt8) × Value × Int × Nat) [(2, _), (25, _), (26, _)] (fun (xL : St × (List UInt8) × Value × Int × Nat) => match xL with | (sl, x9, v12, x10, j) => [(6, v12), (27, .int .i64 x10)]) (fun (xL : St × (List UInt8) × Value × Int × Nat) (wL : World) => match xL with | (sl, x9, v12, x10, j) => sl.w = wL ∧ Step (KC l8_0.o l8_0.c) s8 sl ∧ (Own sl ⟨l8_0.o, l8_0.c⟩ 5 1 v12 (x9.map bD)) ∧ slices_Concat_byte_byte_l2 a0 kj7 j x9 x10 = some r) (fun (xL : St × (List UInt8) × Value × Int × Nat) => match xL with | (sl, x9, v12, x10, j) => j) (s8, x6, v8_0, 0, FU) ⟨rfl, rfl, rfl, trivial⟩ ⟨(by first | rfl | (simp <;> rfl)), (by first | rfl | (simp <;> rfl)), trivial⟩ ⟨rfl, (Step.refl _).of0 (by first | exact fun _ h => h | (intro c h; simp [KC, KO, KU, KN, KB] at h <;> omega)), h8_0, h⟩ ?_
   rintro ⟨s13, x9, v12, x10, j⟩ wL ⟨rfl, hE11, h12, h⟩
   cases j with
   | zero => rw [slices_Concat_byte_byte_l2] at h; exact (noneNe h).elim
   | succ j =>
   rw [slices_Concat_byte_byte_l2] at h
   have szs13 := hE11.size
   have hS := hS.c0 hE11
   have hE9 := hE9.c0 hE11
   replace hp0 := hp0.up2 hE11
   refine k_seq ?_
   refine k_region ?_
   refine k_lss rfl rfl rfl ?_
   refine k_nil ?_
   refine k_seq ?_
   refine k_cond_dec rfl (fun c14 => ?_) (fun c14 => ?_)
   ·
    have h := itT h c14
    refine k_skip ?_
    refine k_seq ?_
    refine k_block ?_
    refine k_seq ?_
    refine k_region ?_
    obtain ⟨x11, hx11, h⟩ := ob h
    refine k_ixaddr Tryd.underlying154 size29 rfl rfl hp0 (geti_out hx11).1 (geti_map hx11) rfl ?_
    intro qx11 hqx11
    refine k_load_sl one29 rfl hqx11 rfl ?_
    intro v15 h15
    refine k_assign rfl rfl ?_
    refine k_nil ?_
    refine k_keep [(2, _), (6, _), (8, _), (25, _), (26, _), (27, _)] ⟨rfl, rfl, rfl, rfl, rfl, rfl, trivial⟩ ?_
    refine k_region ?_
    refine k_move rfl rfl ?_
    refine k_move rfl rfl ?_
    obtain ⟨x12, hx12, h⟩ := ob h
    refine k_append (es := x11.map bD) elem29 rfl rfl h12 (SL.of_R h15) (by have := (app_out hx12).1; simp only [List.length_map] at *; omega) (by have := (app_out hx12).1; simp only [List.length_map] at *; omega) rfl ?_
    intro s16 v16 st16 h16
    rw [← List.map_append, ← (app_out hx12).2] at h16
    have szs16 := st16.size
    have hS := hS.c0 st16
    have hE9 := hE9.c0 st16
    have hE11 := hE11.c0 st16
    refine k_assign rfl rfl ?_
    refine k_nil ?_
    refine k_blk ?_
    refine k_region ?_
    refine k_add rfl rfl rfl ?_
    refine k_move rfl rfl ?_
    refine k_nil ?_
    exact k_stop ⟨(s16, x12, v16, i64 (x10 + 1), j), ⟨(by first | rfl | (simp <;> rfl)), (by first | rfl | (simp <;> rfl)), trivial⟩, ⟨rfl, rfl, rfl, trivial⟩, ⟨rfl, hE11, h16, h⟩, (by simp)⟩
   ·
    have h := itF h c14
    refine k_exit rfl ?_
    exact k_stop ⟨(s13, x9, v12), ⟨(by first | rfl | (simp <;> rfl)), trivial⟩, ⟨rfl, trivial⟩, ⟨rfl, hE9, h12, h⟩⟩
  ·
   rintro ⟨s17, x8, v10⟩ wL ⟨rfl, hE9, h10, h⟩
   rw [hK9] at h
   have szs17 := hE9.size
   have hS := hS.c0 hE9
   refine k_seq ?_
   refine k_region ?_
   refine k_move rfl rfl ?_
   refine k_assign rfl rfl ?_
   refine k_nil ?_
   refine k_keep [(2, _)] ⟨rfl, trivial⟩ ?_
   refine k_ret ?_
   obtain ⟨s18, e18, st18, h18⟩ := h10.freeze
   rw [← e18]
   have szs18 := st18.size
   have hS := hS.c0 st18
   obtain rfl := Option.some.inj h
   refine ⟨_, rfl, Ret.mk hS ?_⟩
   exact ⟨_, rfl, h18⟩

set_option maxHeartbeats 1000000 in
set_option maxRecDepth 100000 in
theorem disk_adding_next_w {s : St} {cs0 : List Value} {a0 : DiskAdding} {v1 : Value} {a1 : (List DiskFile)} {r : (List DiskFile)} (hp0 : RC s cs0 (dDiskAdding a0)) (hp1 : R s v1 (.sl 2 (a1.map dDiskFile))) (h : disk_adding_next a0 a1 = some r) : Calls Tryd.prog 112 #[.agg cs0.toArray, v1] s.w (Ret s K0 (fun s1 v => ∃ (u0 : Value), v = u0 ∧ R s1 u0 (.sl 2 (r.map dDiskFile)))) := by
 unfold disk_adding_next at h
 obtain ⟨q0_0, rfl, hq0_0⟩ := opnDiskAdding hp0
 have hS := Step.r0 K0 s
 refine k_fn (rs := [4]) (args := [.agg #[S a0.file.name, q0_0], v1]) Tryd.func112 rfl rfl rfl rfl ?_
 refine k_seq ?_
 refine k_region ?_
 refine k_box rfl rfl ?_
 intro s1 b1 st1 h1 ge1
 have szs1 := st1.size
 have hS := hS.trans0 st1
 replace hq0_0 := hq0_0.up2 st1
 replace hp1 := hp1.up2 st1
 have lt1 := h1.lt
 refine k_assign rfl rfl ?_
 refine k_nil ?_
 refine k_keep [(1, _), (2, _), (4, _)] ⟨rfl, rfl, rfl, trivial⟩ ?_
 refine k_seq ?_
 refine k_drawT (KN s1.n) 14 (.read 0 (.read 1 (.read 2 (.read 3 (.read 4 (.read 5 (.read 6 (.read 7 (.read 9 (.read 10 (.read 11 (.alt 8 (.alt 12 (.alt 13 .fin .no) .no) .no)))))))))))) mixed (by intro c h; (try simp only [KC, KO, KU, KN, KB] at h) <;> omega) rfl rfl rfl ?_
 intro s2 st2
 have szs2 := st2.size
 have hS := hS.trans0 st2
 replace hp1 := hp1.up2 st2
 replace hq0_0 := hq0_0.up2 st2
 replace h1 := h1.up2 st2
 refine rt_read (v1) rfl rfl (fun s3 st3 => ?_) ?_
 ·refine k_move rfl rfl ?_
  exact fq_end
 refine rt_read (.pointer (some ⟨b1, 0, none⟩)) rfl rfl (fun s4 st4 => ?_) ?_
 ·refine k_field_addr fld78_0 rfl rfl ?_
  exact fq_end
 refine rt_read (.pointer (some ⟨b1, 0, none⟩)) rfl rfl (fun s5 st5 => ?_) ?_
 ·refine k_field_addr fld76_0 rfl rfl ?_
  exact fq_end
 refine rt_read (S a0.file.name) rfl rfl (fun s6 st6 => ?_) ?_
 ·try replace h1 := h1.up2 st6
  refine k_load_blk one9 rfl h1 rfl rfl ?_
  exact fq_end
 refine rt_read (v1) rfl rfl (fun s7 st7 => ?_) ?_
 ·refine k_move rfl rfl ?_
  exact fq_end
 refine rt_read (.pointer (some ⟨b1, 0, none⟩)) rfl rfl (fun s8 st8 => ?_) ?_
 ·refine k_field_addr fld78_0 rfl rfl ?_
  exact fq_end
 refine rt_read (.pointer (some ⟨b1, 0, none⟩)) rfl rfl (fun s9 st9 => ?_) ?_
 ·refine k_field_addr fld76_0 rfl rfl ?_
  exact fq_end
 refine rt_read (S a0.file.name) rfl rfl (fun s10 st10 => ?_) ?_
 ·try replace h1 := h1.up2 st10
  refine k_load_blk one9 rfl h1 rfl rfl ?_
  exact fq_end
 refine rt_read (.pointer (some ⟨b1, 0, none⟩)) rfl rfl (fun s11 st11 => ?_) ?_
 ·refine k_field_addr fld78_0 rfl rfl ?_
  exact fq_end
 refine rt_read (.pointer (some ⟨b1, 1, none⟩)) rfl rfl (fun s12 st12 => ?_) ?_
 ·refine k_field_addr fld76_1 rfl rfl ?_
  exact fq_end
 refine rt_read (q0_0) rfl rfl (fun s13 st13 => ?_) ?_
 ·try replace h1 := h1.up2 st13
  refine k_load_blk one29 rfl h1 rfl rfl ?_
  exact fq_end
 refine rt_act rfl rfl ?_
 have hA14 := Step.r0 (KN s1.n) s2
 obtain ⟨x1, hx1, h⟩ := ob h
 refine k_call cal56 rfl (disk_picture_bytes_w  (SL.of_R hp1) hx1) rfl ?_
 rintro s15 v15_0 st15 ⟨_, rfl, h15_0⟩
 have szs15 := st15.size
 have hS := hS.trans0 st15
 have hA14 := hA14.trans0 st15
 replace hp1 := hp1.up2 st15
 replace hq0_0 := hq0_0.up2 st15
 refine rt_cont hA14 ?_
 refine rt_act rfl rfl ?_
 have hA16 := Step.r0 (KN s1.n) s15
 refine k_bslice2 (ds := ([x1, a0.file.b] : List (List UInt8)).map (dL 1 bD)) slc154 rfl (RVs.cons h15_0 (RVs.cons hq0_0 RVs.nil)) (by rfl) (by rfl) rfl rfl ?_
 intro s17 v17 b17 st17 ge17 bl17 h17
 have szs17 := st17.size
 have hS := hS.trans0 st17
 have hA16 := hA16.trans0 st17
 replace hp1 := hp1.up2 st17
 have lt17 := Own.le1 h17
 refine rt_cont hA16 ?_
 refine rt_act rfl rfl ?_
 have hA18 := Step.r0 (KN s1.n) s17
 obtain ⟨x2, hx2, h⟩ := ob h
 refine k_call cal114 rfl (slices_Concat_byte_byte_w  (h17.sl) hx2) rfl ?_
 rintro s19 v19_0 st19 ⟨_, rfl, h19_0⟩
 have szs19 := st19.size
 have hS := hS.trans0 st19
 have hA18 := hA18.trans0 st19
 replace hp1 := hp1.up2 st19
 refine rt_cont hA18 ?_
 refine rt_fin ?_
 obtain ⟨x3, hx3, h⟩ := ob h
 refine k_call cal113 rfl (disk_picture_with_w  (show R s19 v1 (.sl 2 (a1.map dDiskFile)) from hp1) (show R s19 v19_0 (.sl 1 (x2.map bD)) from h19_0) hx3) rfl ?_
 rintro s20 v20_0 st20 ⟨_, rfl, h20_0⟩
 have szs20 := st20.size
 have hS := hS.trans0 st20
 refine k_assign rfl rfl ?_
 refine k_nil ?_
 refine k_keep [(4, _)] ⟨rfl, trivial⟩ ?_
 refine k_ret ?_
 obtain rfl := Option.some.inj h
 refine ⟨_, rfl, Ret.mk hS ?_⟩
 exact ⟨_, rfl, h20_0⟩

set_option maxHeartbeats 1000000 in
set_option maxRecDepth 100000 in
theorem disk_adding_torn_w {s : St} {cs0 : List Value} {a0 : DiskAdding} {a1 : Int} {r : DiskCall} (hp0 : RC s cs0 (dDiskAdding a0)) (h : disk_adding_torn a0 a1 = some r) : Calls Tryd.prog 38 #[.agg cs0.toArray, .int .i64 a1] s.w (Ret s K0 (fun s1 v => ∃ (u0 : Value), v = u0 ∧ R s1 u0 (dDiskCall r))) := by
 unfold disk_adding_torn at h
 obtain ⟨q0_0, rfl, hq0_0⟩ := opnDiskAdding hp0
 have hS := Step.r0 K0 s
 refine k_fn (rs := [4]) (args := [.agg #[S a0.file.name, q0_0], .int .i64 a1]) Tryd.func38 rfl rfl rfl rfl ?_
 refine k_seq ?_
 refine k_region ?_
 refine k_box rfl rfl ?_
 intro s1 b1 st1 h1 ge1
 have szs1 := st1.size
 have hS := hS.trans0 st1
 replace hq0_0 := hq0_0.up2 st1
 have lt1 := h1.lt
 refine k_assign rfl rfl ?_
 refine k_nil ?_
 refine k_keep [(1, _), (2, _), (4, _)] ⟨rfl, rfl, rfl, trivial⟩ ?_
 refine k_seq ?_
 refine k_region ?_
 refine k_field_addr fld78_0 rfl rfl ?_
 refine k_field_addr fld76_1 rfl rfl ?_
 refine k_load_blk one29 rfl h1 rfl rfl ?_
 refine k_move rfl rfl ?_
 refine k_field_addr fld78_0 rfl rfl ?_
 refine k_field_addr fld76_1 rfl rfl ?_
 refine k_load_blk one29 rfl h1 rfl rfl ?_
 refine k_len Tryd.underlying29 rfl (SL.of_R hq0_0).hasLen rfl ?_
 refine k_as (v := .int .i64 (a0.file.b.length : Int)) (by simp only [List.length_map]) ?_
 refine k_min2 rfl rfl rfl ?_
 obtain ⟨x1, hx1, h⟩ := ob h
 refine k_cut_sl (i := (0 : Int).toNat) (j := (min a1 (a0.file.b.length : Int) : Int).toNat) Tryd.underlying29 size5 rfl (SL.of_R hq0_0) CutAt.none (CutAt.int rfl (Int.le_trans (subl_out hx1).1 (subl_out hx1).2.1)) (subl_ij hx1) (by rw [List.length_map]; exact subl_j hx1) rfl ?_
 intro vx1 hcx1
 rw [← List.map_drop, ← List.map_take, ← (subl_out hx1).2.2.2] at hcx1
 have hcx1 := R.of_SL hcx1
 refine k_field_addr fld78_0 rfl rfl ?_
 refine k_field_addr fld76_1 rfl rfl ?_
 refine k_store_c (cs' := [S a0.file.name, vx1]) size29 rfl rfl h1 (by first | (simp; done) | omega | (dsimp only; omega)) (CellsOf.sl (SL.of_R hcx1)) rfl (by first | rfl | (simp; done) | (simp; omega)) rfl ?_
 intro s2 st2 h1
 have szs2 := st2.size
 have hS := hS.c0 st2
 replace hcx1 := hcx1.up2 st2
 refine k_nil ?_
 refine k_keep [(2, _), (4, _)] ⟨rfl, rfl, trivial⟩ ?_
 refine k_seq ?_
 refine k_region ?_
 refine k_load_blka (cs := [S a0.file.name, vx1]) agg78 rfl h1 rfl ?_
 refine k_makeIface conc78 rfl rfl ?_
 have h3 : R s2 (.iface 78 (.agg #[S a0.file.name, vx1])) (dDiskCall (DiskCall.adding (⟨(⟨a0.file.name, x1⟩ : DiskFile)⟩ : DiskAdding))) := R.ifc_mk (show R _ (.agg #[S a0.file.name, vx1]) (dDiskAdding (⟨(⟨a0.file.name, x1⟩ : DiskFile)⟩ : DiskAdding)) from ⟨_, rfl, (clsDiskAdding (⟨(⟨a0.file.name, x1⟩ : DiskFile)⟩ : DiskAdding) hcx1)⟩)
 refine k_assign rfl rfl ?_
 refine k_nil ?_
 refine k_keep [(4, _)] ⟨rfl, trivial⟩ ?_
 refine k_ret ?_
 obtain rfl := Option.some.inj h
 refine ⟨_, rfl, Ret.mk hS ?_⟩
 exact ⟨_, rfl, h3⟩

set_option maxHeartbeats 1000000 in
set_option maxRecDepth 100000 in
theorem disk_New_w {s : St} {a0 : Int} {r : ((Option DiskDisk) × Int)}  (h : disk_New a0 = some r) : Calls Tryd.prog 11 #[.int .i64 a0] s.w (Ret s K0 (fun s1 v => ∃ (ku0 : Nat), ∃ (u0 : Value), v = .tuple #[u0, .int .i64 r.2] ∧ s.n < ku0 ∧ OptODiskDisk s1 ku0 u0 r.1)) := by
 unfold disk_New at h
 have hS := Step.r0 K0 s
 refine k_fn (rs := [2, 3]) (args := [.int .i64 a0]) Tryd.func11 rfl rfl rfl rfl ?_
 refine k_seq ?_
 refine k_region ?_
 refine k_assign rfl rfl ?_
 refine k_assign rfl rfl ?_
 refine k_nil ?_
 refine k_seq ?_
 refine k_seq ?_
 refine k_region ?_
 refine k_move rfl rfl ?_
 refine k_lss rfl rfl rfl ?_
 refine k_move rfl rfl ?_
 have hE1 := Step.r0 K0 s
 refine k_cutl (X := St) 3 [(0, .int .i64 a0), (2, .pointer none), (3, .int .i64 0), (4, .int .i64 a0), (5, .bool (decide (a0 < 0)))] (fun _ => [(9, .bool (decide ((a0 < 0) ∨ (65536 < a0))))]) (fun sl wL => sl.w = wL ∧ Step K0 s sl) ?_ ?_
 ·
  refine k_again 6 rfl ?_
  refine k_split (fun c2 => ?_) (fun c2 => ?_)
  ·
   refine k_no rfl rfl rfl rfl ?_
   refine k_no rfl rfl rfl rfl ?_
   refine k_pickT rfl rfl rfl rfl ?_
   exact k_met ⟨s, ⟨(congrArg (fun b => some (Value.bool b)) (by first | exact decide_eq_decide.2 ⟨Or.inr, fun h => h.resolve_left c2⟩ | exact (decide_eq_true (Or.inl c2)).symm | (simp [c2]; done) | (simp [c2, i64] <;> omega))), trivial⟩, ⟨rfl, rfl, rfl, rfl, rfl, trivial⟩, rfl, hE1⟩
  ·
   refine k_yes rfl rfl ?_
   refine k_move rfl rfl ?_
   refine k_yes rfl rfl ?_
   refine k_gtr rfl rfl rfl ?_
   refine k_pickF rfl rfl rfl rfl ?_
   exact k_met ⟨s, ⟨(congrArg (fun b => some (Value.bool b)) (by first | exact decide_eq_decide.2 ⟨Or.inr, fun h => h.resolve_left c2⟩ | exact (decide_eq_true (Or.inl c2)).symm | (simp [c2]; done) | (simp [c2, i64] <;> omega))), trivial⟩, ⟨rfl, rfl, rfl, rfl, rfl, trivial⟩, rfl, hE1⟩
 ·
  rintro s3 wL ⟨rfl, hE1⟩
  have szs3 := hE1.size
  have hS := hS.trans0 hE1
  refine k_nil ?_
  refine k_keep [(0, _), (2, _), (3, _), (9, _)] ⟨rfl, rfl, rfl, rfl, trivial⟩ ?_
  refine k_cond_dec rfl (fun c4 => ?_) (fun c4 => ?_)
  ·
   have h := itT h c4
   refine k_seq ?_
   refine k_region ?_
   refine k_assign rfl rfl ?_
   refine k_assign rfl rfl ?_
   refine k_nil ?_
   refine k_keep [(0, _), (2, _), (3, _)] ⟨rfl, rfl, rfl, trivial⟩ ?_
   refine k_ret ?_
   obtain rfl := Option.some.inj h
   refine ⟨_, rfl, Ret.mk hS ?_⟩
   exact ⟨s3.n + 1, _, rfl, by omega, rfl⟩
  ·
   have h := itF h c4
   refine k_skip ?_
   refine k_seq ?_
   refine k_region ?_
   refine k_move rfl rfl ?_
   refine k_bslice2 (ds := ([[]] : List (List DiskFile)).map (dL 2 dDiskFile)) slc56 rfl (RVs.cons (R.of_SL (.inl ⟨rfl, none, 0, rfl, fun _ => rfl⟩)) RVs.nil) (by rfl) (by rfl) rfl rfl ?_
   intro s5 v5 b5 st5 ge5 bl5 h5
   have szs5 := st5.size
   have hS := hS.trans0 st5
   have lt5 := Own.le1 h5
   refine k_build plc61 zero61 rfl (Parts.cons (CellsOf.lit rfl rfl).1 (Parts.cons (CellsOf.lit rfl rfl).1 (Parts.cons (CellsOf.sl (h5.sl)).1 Parts.nil))) (by rfl) rfl ?_
   refine k_as (v := .agg #[.int .i64 a0, .bool true, .bool false, v5, .slice none 0 0, .int .i64 0, .int .i64 0, .int .i64 0]) rfl ?_
   refine k_box rfl rfl ?_
   intro s6 b6 st6 h6 ge6
   have szs6 := st6.size
   have hS := hS.trans0 st6
   replace h5 := h5.up2 st6
   have lt6 := h6.lt
   refine k_assign rfl rfl ?_
   refine k_assign rfl rfl ?_
   refine k_nil ?_
   refine k_keep [(2, _), (3, _)] ⟨rfl, rfl, trivial⟩ ?_
   refine k_ret ?_
   obtain ⟨s7, e7, st7, h7⟩ := Own.relabelK (b5 + 1) 5 h5 (by first | omega | (dsimp only; omega)) (by first | omega | (dsimp only; omega)) (by first | omega | (dsimp only; omega))
   rw [← e7]
   have szs7 := st7.size
   have hS := hS.c0 st7
   replace h6 := h6.up2 st7
   obtain ⟨s8, e8, st8, h8⟩ := Blk.relabel b5 0 h6 (by first | omega | (dsimp only; omega)) (by omega)
   rw [← e8]
   have szs8 := st8.size
   have hS := hS.c0 st8
   replace h7 := h7.up2 st8
   obtain rfl := Option.some.inj h
   refine ⟨_, rfl, Ret.mk hS ?_⟩
   exact ⟨b5 + 1, _, rfl, by omega, (ODiskDisk.mk_ (⟨a0, true, false, ([[]] : List (List DiskFile)), [], (⟨0, 0, 0⟩ : DiskFuse)⟩ : DiskDisk) (by omega) h7 (Own.nil (by first | omega | (dsimp only; omega)) (by first | omega | (dsimp only; omega))) h8)⟩

set_option maxHeartbeats 1000000 in
set_option maxRecDepth 100000 in
theorem disk_Disk_none_w {s : St} {k0 : Nat} {p0 : Value} {a0 : DiskDisk} {r : Bool} (ho0 : ODiskDisk s k0 p0 a0) (h : disk_Disk_none a0 = some r) : Calls Tryd.prog 39 #[p0] s.w (Ret s K0 (fun s1 v => v = .bool r)) := by
 unfold disk_Disk_none at h
 have le0 := ho0.le
 have ne0 := ho0.ne
 obtain ⟨bo0, rfl⟩ := ho0.ptr
 obtain ⟨wo0_0, wo0_1, hb_o0, hwo0_0, hwo0_1⟩ := ho0.at_
 have hS := Step.r0 K0 s
 refine k_fn (rs := [2]) (args := [.pointer (some ⟨bo0, 0, none⟩)]) Tryd.func39 rfl rfl rfl rfl ?_
 refine k_seq ?_
 refine k_region ?_
 refine k_assign rfl rfl ?_
 refine k_nil ?_
 refine k_seq ?_
 refine k_region ?_
 refine k_move rfl rfl ?_
 refine k_eql_pnil Tryd.underlying23 rfl rfl rfl ?_
 refine k_move rfl rfl ?_
 refine k_yes rfl rfl ?_
 refine k_move rfl rfl ?_
 refine k_yes rfl rfl ?_
 refine k_nilCheck rfl rfl ?_
 refine k_yes rfl rfl ?_
 refine k_field_addr fld61_1 rfl rfl ?_
 refine k_yes rfl rfl ?_
 refine k_load_blk one4 rfl hb_o0 rfl rfl ?_
 refine k_yes rfl rfl ?_
 refine k_not rfl rfl ?_
 refine k_pickF rfl rfl rfl rfl ?_
 refine k_assign rfl rfl ?_
 refine k_nil ?_
 refine k_keep [(2, _)] ⟨rfl, trivial⟩ ?_
 refine k_ret ?_
 obtain rfl := Option.some.inj h
 refine ⟨_, rfl, Ret.mk hS ?_⟩
 exact rfl

set_option maxHeartbeats 1000000 in
set_option maxRecDepth 100000 in
theorem disk_Disk_Down_w {s : St} {k0 : Nat} {p0 : Value} {a0 : DiskDisk} {r : Bool} (ho0 : ODiskDisk s k0 p0 a0) (h : disk_Disk_Down a0 = some r) : Calls Tryd.prog 18 #[p0] s.w (Ret s K0 (fun s1 v => v = .bool r)) := by
 unfold disk_Disk_Down at h
 have le0 := ho0.le
 have ne0 := ho0.ne
 obtain ⟨bo0, rfl⟩ := ho0.ptr
 obtain ⟨wo0_0, wo0_1, hb_o0, hwo0_0, hwo0_1⟩ := ho0.at_
 have hS := Step.r0 K0 s
 refine k_fn (rs := [2]) (args := [.pointer (some ⟨bo0, 0, none⟩)]) Tryd.func18 rfl rfl rfl rfl ?_
 refine k_seq ?_
 refine k_region ?_
 refine k_assign rfl rfl ?_
 refine k_nil ?_
 refine k_seq ?_
 refine k_region ?_
 refine k_move rfl rfl ?_
 obtain ⟨x1, hx1, h⟩ := ob h
 refine k_call cal39 rfl (disk_Disk_none_w  (ODiskDisk.mk_ a0 (by omega) hwo0_0 hwo0_1 hb_o0) hx1) rfl ?_
 rintro s1 vr1 st1 rfl
 have szs1 := st1.size
 have hS := hS.trans0 st1
 replace hb_o0 := hb_o0.up2 st1
 refine k_move rfl rfl ?_
 have hE2 := Step.r0 K0 s1
 refine k_cutl (X := St) 5 [(0, .pointer (some ⟨bo0, 0, none⟩)), (2, .bool false), (3, .pointer (some ⟨bo0, 0, none⟩)), (4, .bool x1)] (fun _ => [(10, .bool (decide ((x1 = true) ∨ (a0.down = true))))]) (fun sl wL => sl.w = wL ∧ Step K0 s1 sl) ?_ ?_
 ·
  refine k_again 5 rfl ?_
  refine k_splitb (fun c3 => ?_) (fun c3 => ?_)
  ·
   refine k_no rfl rfl rfl rfl ?_
   refine k_no rfl rfl rfl rfl ?_
   refine k_no rfl rfl rfl rfl ?_
   refine k_no rfl rfl rfl rfl ?_
   refine k_pickT rfl rfl rfl rfl ?_
   exact k_met ⟨s1, ⟨(congrArg (fun b => some (Value.bool b)) (by first | exact decide_eq_decide.2 ⟨Or.inr, fun h => h.resolve_left c3⟩ | exact (decide_eq_true (Or.inl c3)).symm | (simp [c3]; done) | (simp [c3, i64] <;> omega))), trivial⟩, ⟨rfl, rfl, rfl, rfl, trivial⟩, rfl, hE2⟩
  ·
   refine k_yes rfl rfl ?_
   refine k_move rfl rfl ?_
   refine k_yes rfl rfl ?_
   refine k_nilCheck rfl rfl ?_
   refine k_yes rfl rfl ?_
   refine k_field_addr fld61_2 rfl rfl ?_
   refine k_yes rfl rfl ?_
   refine k_load_blk one4 rfl hb_o0 rfl rfl ?_
   refine k_pickF rfl rfl rfl rfl ?_
   exact k_met ⟨s1, ⟨(congrArg (fun b => some (Value.bool b)) (by first | exact decide_eq_decide.2 ⟨Or.inr, fun h => h.resolve_left c3⟩ | exact (decide_eq_true (Or.inl c3)).symm | (simp [c3]; done) | (simp [c3, i64] <;> omega))), trivial⟩, ⟨rfl, rfl, rfl, rfl, trivial⟩, rfl, hE2⟩
 ·
  rintro s4 wL ⟨rfl, hE2⟩
  have szs4 := hE2.size
  have hS := hS.trans0 hE2
  refine k_assign rfl rfl ?_
  refine k_nil ?_
  refine k_keep [(2, _)] ⟨rfl, trivial⟩ ?_
  refine k_ret ?_
  obtain rfl := Option.some.inj h
  refine ⟨_, rfl, Ret.mk hS ?_⟩
  exact rfl

set_option maxHeartbeats 1000000 in
set_option maxRecDepth 100000 in
theorem disk_Disk_seen_w {s : St} {k0 : Nat} {p0 : Value} {a0 : DiskDisk} {r : (List DiskFile)} (ho0 : ODiskDisk s k0 p0 a0) (h : disk_Disk_seen a0 = some r) : Calls Tryd.prog 37 #[p0] s.w (Ret s K0 (fun s1 v => ∃ (u0 : Value), v = u0 ∧ R s1 u0 (.sl 2 (r.map dDiskFile)))) := by
 unfold disk_Disk_seen at h
 have le0 := ho0.le
 have ne0 := ho0.ne
 obtain ⟨bo0, rfl⟩ := ho0.ptr
 obtain ⟨wo0_0, wo0_1, hb_o0, hwo0_0, hwo0_1⟩ := ho0.at_
 have hS := Step.r0 K0 s
 refine k_fn (rs := [2]) (args := [.pointer (some ⟨bo0, 0, none⟩)]) Tryd.func37 rfl rfl rfl rfl ?_
 refine k_seq ?_
 refine k_region ?_
 refine k_assign rfl rfl ?_
 refine k_nil ?_
 refine k_seq ?_
 refine k_seq ?_
 refine k_region ?_
 refine k_move rfl rfl ?_
 obtain ⟨x1, hx1, h⟩ := ob h
 refine k_call cal18 rfl (disk_Disk_Down_w  (ODiskDisk.mk_ a0 (by omega) hwo0_0 hwo0_1 hb_o0) hx1) rfl ?_
 rintro s1 vr1 st1 rfl
 have szs1 := st1.size
 have hS := hS.trans0 st1
 replace hwo0_0 := hwo0_0.up2 st1
 replace hb_o0 := hb_o0.up2 st1
 refine k_nil ?_
 refine k_keep [(0, _), (2, _), (4, _)] ⟨rfl, rfl, rfl, trivial⟩ ?_
 refine k_cond rfl (fun c2 => ?_) (fun c2 => ?_)
 ·
  have h := ibT h c2
  refine k_seq ?_
  refine k_region ?_
  refine k_assign rfl rfl ?_
  refine k_nil ?_
  refine k_keep [(0, _), (2, _)] ⟨rfl, rfl, trivial⟩ ?_
  refine k_ret ?_
  obtain rfl := Option.some.inj h
  refine ⟨_, rfl, Ret.mk hS ?_⟩
  exact ⟨_, rfl, (R.of_SL (.inl ⟨rfl, none, 0, rfl, fun _ => rfl⟩))⟩
 ·
  have h := ibF h c2
  refine k_skip ?_
  refine k_seq ?_
  refine k_keep [(0, _), (2, _)] ⟨rfl, rfl, trivial⟩ ?_
  refine k_drawT (KN s1.n) 12 (.read 0 (.read 1 (.read 2 (.read 3 (.read 4 (.read 5 (.read 6 (.read 7 (.read 8 (.read 9 (.read 10 (.read 11 .fin)))))))))))) mixed (by intro c h; (try simp only [KC, KO, KU, KN, KB] at h) <;> omega) rfl rfl rfl ?_
  intro s3 st3
  have szs3 := st3.size
  have hS := hS.trans0 st3
  replace hwo0_0 := hwo0_0.up2 st3
  replace hb_o0 := hb_o0.up2 st3
  refine rt_read (.pointer (some ⟨bo0, 0, none⟩)) rfl rfl (fun s4 st4 => ?_) ?_
  ·refine k_move rfl rfl ?_
   exact fq_end
  refine rt_read (.pointer (some ⟨bo0, 0, none⟩)) rfl rfl (fun s5 st5 => ?_) ?_
  ·refine k_nilCheck rfl rfl ?_
   exact fq_end
  refine rt_read (.pointer (some ⟨bo0, 3, none⟩)) rfl rfl (fun s6 st6 => ?_) ?_
  ·refine k_field_addr fld61_3 rfl rfl ?_
   exact fq_end
  refine rt_read (wo0_0) rfl rfl (fun s7 st7 => ?_) ?_
  ·try replace hb_o0 := hb_o0.up2 st7
   refine k_load_blk one56 rfl hb_o0 rfl rfl ?_
   exact fq_end
  refine rt_read (.pointer (some ⟨bo0, 0, none⟩)) rfl rfl (fun s8 st8 => ?_) ?_
  ·refine k_move rfl rfl ?_
   exact fq_end
  refine rt_read (.pointer (some ⟨bo0, 0, none⟩)) rfl rfl (fun s9 st9 => ?_) ?_
  ·refine k_nilCheck rfl rfl ?_
   exact fq_end
  refine rt_read (.pointer (some ⟨bo0, 3, none⟩)) rfl rfl (fun s10 st10 => ?_) ?_
  ·refine k_field_addr fld61_3 rfl rfl ?_
   exact fq_end
  refine rt_read (wo0_0) rfl rfl (fun s11 st11 => ?_) ?_
  ·try replace hb_o0 := hb_o0.up2 st11
   refine k_load_blk one56 rfl hb_o0 rfl rfl ?_
   exact fq_end
  refine rt_read (.int .i64 (a0.pictures.length : Int)) rfl rfl (fun s12 st12 => ?_) ?_
  ·try replace hwo0_0 := hwo0_0.up2 st12
   refine k_len Tryd.underlying56 rfl (hwo0_0.sl).hasLen rfl ?_
   refine k_as (v := .int .i64 (a0.pictures.length : Int)) (by simp only [List.length_map]) ?_
   exact fq_end
  refine rt_read (.int .i64 (i64 ((a0.pictures.length : Int) - 1))) rfl rfl (fun s13 st13 => ?_) ?_
  ·refine k_sub_ rfl rfl rfl ?_
   exact fq_end
  obtain ⟨x2, hx2, h⟩ := ob h
  refine rt_ix rfl (wanted_none rfl) Tryd.underlying56 size73 rfl rfl (hwo0_0.sl) (geti_out hx2).1 (geti_map hx2) rfl ?_
  intro q14 hq14
  refine rt_ldsl rfl (wanted_none rfl) one73 rfl hq14 (by first | exact id | (simp only [KC, KO, KU, KN, KB] <;> omega)) rfl ?_
  intro v15 h15
  refine rt_fin ?_
  refine k_assign rfl rfl ?_
  refine k_nil ?_
  refine k_keep [(2, _)] ⟨rfl, trivial⟩ ?_
  refine k_ret ?_
  obtain rfl := Option.some.inj h
  refine ⟨_, rfl, Ret.mk hS ?_⟩
  exact ⟨_, rfl, h15⟩

set_option maxHeartbeats 1000000 in
set_option maxRecDepth 100000 in
theorem disk_Disk_Names_w {s : St} {k0 : Nat} {p0 : Value} {a0 : DiskDisk} {r : (List (List UInt8))} (ho0 : ODiskDisk s k0 p0 a0) (h : disk_Disk_Names a0 = some r) : Calls Tryd.prog 26 #[p0] s.w (Ret s K0 (fun s1 v => ∃ (u0 : Value), v = u0 ∧ R s1 u0 (.sl 1 (r.map dS)))) := by
 unfold disk_Disk_Names at h
 have le0 := ho0.le
 have ne0 := ho0.ne
 have hS := Step.r0 K0 s
 refine k_fn_m (args := [p0]) Tryd.func26 rfl rfl ?_
 refine rk_seq ?_
 refine rk_run ?_
 refine k_region ?_
 refine k_assign rfl rfl ?_
 refine k_nil ?_
 refine k_stop ?_
 refine rk_seq ?_
 refine rk_run ?_
 refine k_region ?_
 refine k_alloc zero46 rfl ?_
 intro s1 b1 st1 h1 ge1
 have szs1 := st1.size
 have hS := hS.trans0 st1
 replace ho0 := ho0.up2 st1
 have lt1 := h1.lt
 refine k_nil ?_
 refine k_stop ?_
 refine rk_seq ?_
 refine rk_seq ?_
 refine rk_run ?_
 refine k_region ?_
 refine k_move rfl rfl ?_
 obtain ⟨x1, hx1, h⟩ := ob h
 refine k_call cal37 rfl (disk_Disk_seen_w  ho0 hx1) rfl ?_
 rintro s2 v2_0 st2 ⟨_, rfl, h2_0⟩
 have szs2 := st2.size
 have hS := hS.trans0 st2
 replace ho0 := ho0.up2 st2
 replace h1 := h1.up2 st2
 obtain ⟨x2, hx2, h⟩ := ob h
 refine k_call cal53 rfl (disk_picture_sizes_w  (show R s2 v2_0 (.sl 2 (x1.map dDiskFile)) from h2_0) hx2) rfl ?_
 rintro s3 vr3 st3 ⟨ub3_0, rfl, hg3_0, h3_0⟩
 have szs3 := st3.size
 have hS := hS.trans0 st3
 replace ho0 := ho0.up2 st3
 replace h1 := h1.up2 st3
 refine k_nil ?_
 refine k_stop ?_
 have h5 : Own s3 ⟨b1 + 1, 7⟩ 9 1 (.slice none 0 0) (([] : List (List UInt8)).map dS) := Own.nil (by first | (simp; done) | omega | (dsimp only; omega)) (by first | (simp; done) | omega | (dsimp only; omega))
 obtain ⟨x6, hx6, h⟩ := ob h
 refine rk_range (A := ((List UInt8) × Int)) (X := (List (List UInt8))) (ps := [8, 9]) (fun (sl : St) (y : (List UInt8) × Int) (vs : List Value) => vs = [S y.1, .int .i64 y.2]) (fun (x3 : (List (List UInt8))) (x4 : ((List UInt8) × Int)) => (app 8796093022208 x3 ([x4.1] : List (List UInt8))).bind fun x7 => some (true, x7)) (fun (xL : (List (List UInt8))) (sl : St) => ∃ v6 : Value, (Own sl ⟨b1 + 1, 7⟩ 9 1 v6 (xL.map dS)) ∧ (Blk sl b1 ⟨b1 + 1, 0⟩ [v6] 46) ∧ (ODiskDisk sl k0 p0 a0)) (KU (KC (b1 + 1) 7) (KC (b1 + 1) 0)) rfl cal67 (fun _ _ _ h => by obtain rfl := h; rfl) (by decide) (by intro lab h; (try simp only [KC, KO, KU, KN, K0, KB] at h); first | exact h.elim | omega) ([]) x6 ⟨(.slice none 0 0), h5, h1, ho0⟩ (by rintro x t1 t2 K ⟨v6, z0, z1, z2⟩ st hK; exact ⟨v6, z0.up st (fun hk => by have hq := hK _ hk; (try dsimp only at hq); omega), z1.up st (fun hk => by have hq := hK _ hk; (try dsimp only at hq); omega), ODiskDisk.up2 z2 st (fun _ hk => by have hq := hK _ hk; (try dsimp only at hq); omega)⟩) ?_ ?_ ?_
 ·
  intro l rec sR4 x3 x4 vsR rR4 hl1 hl2 hrec
  rintro ⟨v6, h6, h1, ho0⟩ hL henc hc4
  obtain rfl := henc
  try dsimp only at hc4
  have hRS4 := Step.r0 (KU (KC (l + 1) 0) (KU (KC (b1 + 1) 7) (KC (b1 + 1) 0))) sR4
  refine k_region ?_
  refine k_assign rfl rfl ?_
  refine k_nil ?_
  refine k_stop ?_
  refine k_begin hL hrec ?_
  intro s7 st7 hL
  have szs7 := st7.size
  have hRS4 := hRS4.c0 st7
  replace ho0 := ho0.up2 st7
  replace h1 := h1.up2 st7
  replace h6 := h6.up2 st7
  refine k_keep [(3, _), (4, _)] ⟨rfl, rfl, trivial⟩ ?_
  refine k_block ?_
  refine k_region ?_
  refine k_load_blk one46 rfl h1 rfl rfl ?_
  refine k_move rfl rfl ?_
  refine k_bslice2 (ds := ([x4.1] : List (List UInt8)).map dS) slc46 rfl (RVs.cons (R.val rfl) RVs.nil) (by rfl) (by rfl) rfl rfl ?_
  intro s8 v8 b8 st8 ge8 bl8 h8
  have szs8 := st8.size
  have hRS4 := hRS4.trans0 st8
  replace ho0 := ho0.up2 st8
  replace h1 := h1.up2 st8
  replace h6 := h6.up2 st8
  replace hL := hL.up2 st8
  have lt8 := Own.le1 h8
  obtain ⟨x7, hx7, hc4⟩ := ob hc4
  refine k_append (es := ([x4.1] : List (List UInt8)).map dS) elem46 rfl rfl h6 (h8.sl) (by have := (app_out hx7).1; simp only [List.length_map] at *; omega) (by have := (app_out hx7).1; simp only [List.length_map] at *; omega) rfl ?_
  intro s9 v9 st9 h9
  rw [← List.map_append, ← (app_out hx7).2] at h9
  have szs9 := st9.size
  have hRS4 := hRS4.c0 st9
  replace ho0 := ho0.up2 st9
  replace h1 := h1.up2 st9
  replace hL := hL.up2 st9
  refine k_store_c (cs' := [v9]) size46 rfl rfl h1 (by first | (simp; done) | omega | (dsimp only; omega)) (CellsOf.sl (h9.sl)) rfl (by first | rfl | (simp; done) | (simp; omega)) rfl ?_
  intro s10 st10 h1
  have szs10 := st10.size
  have hRS4 := hRS4.c0 st10
  replace ho0 := ho0.up2 st10
  replace h9 := h9.up2 st10
  replace hL := hL.up2 st10
  refine k_nil ?_
  refine k_blk ?_
  refine k_end ?_
  obtain rfl := Option.some.inj hc4
  exact ⟨rfl, s10, rfl, hRS4, hL, ⟨v9, h9, h1, ho0⟩⟩
 ·
  intro l t1 I' Ky st hl1 hl2 hK1 hK2 hY hI'
  have ltb_ub3_0 := h3_0.lt
  exact disk_picture_sizes_1_w hY hI' (h3_0.up2 st) (fun h => by rcases hK2 _ h with h | h <;> (simp only [KU, KN, KC, KO, K0, KB, Lab.mk.injEq] at h) <;> omega) hx6
 ·
  intro D4 s11 stn4
  rintro ⟨v6, h6, h1, ho0⟩ hM4 hD4
  have szs11 := stn4.size
  have hS := hS.c0 stn4
  refine rk_last ?_
  refine k_seq ?_
  refine k_region ?_
  refine k_load_blk one46 rfl h1 rfl rfl ?_
  refine k_assign rfl rfl ?_
  refine k_nil ?_
  refine k_keep [(2, _)] ⟨rfl, trivial⟩ ?_
  refine k_ret ?_
  refine re_ret ?_
  refine re_cons hM4 (fun s12 st12 => ?_)
  have szs12 := st12.size
  have hS := hS.c0 st12
  replace h6 := h6.up2 st12
  obtain ⟨s13, e13, st13, h13⟩ := h6.freeze
  rw [← e13]
  have szs13 := st13.size
  have hS := hS.c0 st13
  obtain rfl := Option.some.inj h
  refine re_nil (rs := [2]) rfl rfl ?_
  refine ⟨_, rfl, Ret.mk hS ?_⟩
  exact ⟨_, rfl, h13⟩

set_option maxHeartbeats 1000000 in
set_option maxRecDepth 100000 in
theorem disk_Disk_only_w {s : St} {k0 : Nat} {p0 : Value} {a0 : DiskDisk} {v1 : Value} {a1 : (List DiskFile)} {r : DiskDisk} (ho0 : ODiskDisk s k0 p0 a0) (hp1 : R s v1 (.sl 2 (a1.map dDiskFile))) (h : disk_Disk_only a0 a1 = some r) : Calls Tryd.prog 36 #[p0, v1] s.w (Ret s (KO k0) (fun s1 v => v = .tuple #[] ∧ ODiskDisk s1 k0 p0 r)) := by
 unfold disk_Disk_only at h
 have le0 := ho0.le
 have ne0 := ho0.ne
 obtain ⟨bo0, rfl⟩ := ho0.ptr
 obtain ⟨wo0_0, wo0_1, hb_o0, hwo0_0, hwo0_1⟩ := ho0.at_
 have hS := Step.r0 (KO k0) s
 refine k_fn (rs := []) (args := [.pointer (some ⟨bo0, 0, none⟩), v1]) Tryd.func36 rfl rfl rfl rfl ?_
 refine k_region ?_
 refine k_move rfl rfl ?_
 refine k_move rfl rfl ?_
 refine k_move rfl rfl ?_
 refine k_bslice2 (ds := ([a1] : List (List DiskFile)).map (dL 2 dDiskFile)) slc56 rfl (RVs.cons hp1 RVs.nil) (by rfl) (by rfl) rfl rfl ?_
 intro s1 v1 b1 st1 ge1 bl1 h1
 have szs1 := st1.size
 have hS := hS.trans0 st1
 replace hb_o0 := hb_o0.up2 st1
 have lt1 := Own.le1 h1
 refine k_nilCheck rfl rfl ?_
 refine k_field_addr fld61_3 rfl rfl ?_
 refine k_store_c (cs' := [.int .i64 a0.capacity, .bool a0.made, .bool a0.down, v1, wo0_1, .int .i64 a0.fuse.n, .int .i64 a0.fuse.keep, .int .i64 a0.fuse.torn]) size56 rfl rfl hb_o0 (by first | (simp; done) | omega | (dsimp only; omega)) (CellsOf.sl (h1.sl)) rfl (by first | rfl | (simp; done) | (simp; omega)) rfl ?_
 intro s2 st2 hb_o0
 have szs2 := st2.size
 have hS := hS.c0 st2
 replace h1 := h1.up2 st2
 refine k_nilCheck rfl rfl ?_
 refine k_field_addr fld61_4 rfl rfl ?_
 refine k_store_c (cs' := [.int .i64 a0.capacity, .bool a0.made, .bool a0.down, v1, .slice none 0 0, .int .i64 a0.fuse.n, .int .i64 a0.fuse.keep, .int .i64 a0.fuse.torn]) size57 rfl rfl hb_o0 (by first | (simp; done) | omega | (dsimp only; omega)) (CellsOf.lit rfl rfl) rfl (by first | rfl | (simp; done) | (simp; omega)) rfl ?_
 intro s3 st3 hb_o0
 have szs3 := st3.size
 have hS := hS.c0 st3
 replace h1 := h1.up2 st3
 refine k_nil ?_
 refine k_end ?_
 obtain ⟨s4, e4, st4, h4⟩ := Own.relabelK k0 5 h1 (by first | omega | (dsimp only; omega)) (by first | omega | (dsimp only; omega)) (by first | omega | (dsimp only; omega))
 rw [← e4]
 have szs4 := st4.size
 have hS := hS.c0 st4
 replace hb_o0 := hb_o0.up2 st4
 obtain rfl := Option.some.inj h
 refine ⟨_, rfl, Ret.mk hS ?_⟩
 exact ⟨rfl, (ODiskDisk.mk_ (⟨a0.capacity, a0.made, a0.down, ([a1] : List (List DiskFile)), [], a0.fuse⟩ : DiskDisk) (by omega) h4 (Own.nil (by first | omega | (dsimp only; omega)) (by first | omega | (dsimp only; omega))) hb_o0)⟩

set_option maxHeartbeats 1000000 in
set_option maxRecDepth 100000 in
theorem disk_naming_next_w {s : St} {cs0 : List Value} {a0 : DiskNaming} {v1 : Value} {a1 : (List DiskFile)} {r : (List DiskFile)} (hp0 : RC s cs0 (dDiskNaming a0)) (hp1 : R s v1 (.sl 2 (a1.map dDiskFile))) (h : disk_naming_next a0 a1 = some r) : Calls Tryd.prog 119 #[.agg cs0.toArray, v1] s.w (Ret s K0 (fun s1 v => ∃ (u0 : Value), v = u0 ∧ R s1 u0 (.sl 2 (r.map dDiskFile)))) := by
 unfold disk_naming_next at h
 obtain rfl := opnDiskNaming hp0
 have hS := Step.r0 K0 s
 refine k_fn (rs := [4]) (args := [.agg #[S a0.from_, S a0.to_], v1]) Tryd.func119 rfl rfl rfl rfl ?_
 refine k_seq ?_
 refine k_region ?_
 refine k_box rfl rfl ?_
 intro s1 b1 st1 h1 ge1
 have szs1 := st1.size
 have hS := hS.trans0 st1
 replace hp1 := hp1.up2 st1
 have lt1 := h1.lt
 refine k_assign rfl rfl ?_
 refine k_nil ?_
 refine k_keep [(1, _), (2, _), (4, _)] ⟨rfl, rfl, rfl, trivial⟩ ?_
 refine k_seq ?_
 refine k_drawT (KN s1.n) 10 (.read 0 (.read 1 (.read 2 (.read 4 (.read 5 (.read 6 (.read 7 (.read 8 (.alt 3 (.alt 9 .fin .no) .no))))))))) mixed (by intro c h; (try simp only [KC, KO, KU, KN, KB] at h) <;> omega) rfl rfl rfl ?_
 intro s2 st2
 have szs2 := st2.size
 have hS := hS.trans0 st2
 replace hp1 := hp1.up2 st2
 replace h1 := h1.up2 st2
 refine rt_read (v1) rfl rfl (fun s3 st3 => ?_) ?_
 ·refine k_move rfl rfl ?_
  exact fq_end
 refine rt_read (.pointer (some ⟨b1, 0, none⟩)) rfl rfl (fun s4 st4 => ?_) ?_
 ·refine k_field_addr fld98_0 rfl rfl ?_
  exact fq_end
 refine rt_read (S a0.from_) rfl rfl (fun s5 st5 => ?_) ?_
 ·try replace h1 := h1.up2 st5
  refine k_load_blk one9 rfl h1 rfl rfl ?_
  exact fq_end
 refine rt_read (.pointer (some ⟨b1, 1, none⟩)) rfl rfl (fun s6 st6 => ?_) ?_
 ·refine k_field_addr fld98_1 rfl rfl ?_
  exact fq_end
 refine rt_read (S a0.to_) rfl rfl (fun s7 st7 => ?_) ?_
 ·try replace h1 := h1.up2 st7
  refine k_load_blk one9 rfl h1 rfl rfl ?_
  exact fq_end
 refine rt_read (v1) rfl rfl (fun s8 st8 => ?_) ?_
 ·refine k_move rfl rfl ?_
  exact fq_end
 refine rt_read (.pointer (some ⟨b1, 0, none⟩)) rfl rfl (fun s9 st9 => ?_) ?_
 ·refine k_field_addr fld98_0 rfl rfl ?_
  exact fq_end
 refine rt_read (S a0.from_) rfl rfl (fun s10 st10 => ?_) ?_
 ·try replace h1 := h1.up2 st10
  refine k_load_blk one9 rfl h1 rfl rfl ?_
  exact fq_end
 refine rt_act rfl rfl ?_
 have hA11 := Step.r0 (KN s1.n) s2
 obtain ⟨x1, hx1, h⟩ := ob h
 refine k_call cal115 rfl (disk_picture_without_w  (show R s2 v1 (.sl 2 (a1.map dDiskFile)) from hp1) hx1) rfl ?_
 rintro s12 v12_0 st12 ⟨_, rfl, h12_0⟩
 have szs12 := st12.size
 have hS := hS.trans0 st12
 have hA11 := hA11.trans0 st12
 replace hp1 := hp1.up2 st12
 refine rt_cont hA11 ?_
 refine rt_act rfl rfl ?_
 have hA13 := Step.r0 (KN s1.n) s12
 obtain ⟨x2, hx2, h⟩ := ob h
 refine k_call cal56 rfl (disk_picture_bytes_w  (SL.of_R hp1) hx2) rfl ?_
 rintro s14 v14_0 st14 ⟨_, rfl, h14_0⟩
 have szs14 := st14.size
 have hS := hS.trans0 st14
 have hA13 := hA13.trans0 st14
 replace h12_0 := h12_0.up2 st14
 refine rt_cont hA13 ?_
 refine rt_fin ?_
 obtain ⟨x3, hx3, h⟩ := ob h
 refine k_call cal113 rfl (disk_picture_with_w  (show R s14 v12_0 (.sl 2 (x1.map dDiskFile)) from h12_0) (show R s14 v14_0 (.sl 1 (x2.map bD)) from h14_0) hx3) rfl ?_
 rintro s15 v15_0 st15 ⟨_, rfl, h15_0⟩
 have szs15 := st15.size
 have hS := hS.trans0 st15
 refine k_assign rfl rfl ?_
 refine k_nil ?_
 refine k_keep [(4, _)] ⟨rfl, trivial⟩ ?_
 refine k_ret ?_
 obtain rfl := Option.some.inj h
 refine ⟨_, rfl, Ret.mk hS ?_⟩
 exact ⟨_, rfl, h15_0⟩

set_option maxHeartbeats 1000000 in
set_option maxRecDepth 100000 in
theorem disk_putting_next_w {s : St} {cs0 : List Value} {a0 : DiskPutting} {v1 : Value} {a1 : (List DiskFile)} {r : (List DiskFile)} (hp0 : RC s cs0 (dDiskPutting a0)) (hp1 : R s v1 (.sl 2 (a1.map dDiskFile))) (h : disk_putting_next a0 a1 = some r) : Calls Tryd.prog 120 #[.agg cs0.toArray, v1] s.w (Ret s K0 (fun s1 v => ∃ (u0 : Value), v = u0 ∧ R s1 u0 (.sl 2 (r.map dDiskFile)))) := by
 unfold disk_putting_next at h
 obtain ⟨q0_0, rfl, hq0_0⟩ := opnDiskPutting hp0
 have hS := Step.r0 K0 s
 refine k_fn (rs := [4]) (args := [.agg #[S a0.file.name, q0_0], v1]) Tryd.func120 rfl rfl rfl rfl ?_
 refine k_seq ?_
 refine k_region ?_
 refine k_box rfl rfl ?_
 intro s1 b1 st1 h1 ge1
 have szs1 := st1.size
 have hS := hS.trans0 st1
 replace hq0_0 := hq0_0.up2 st1
 replace hp1 := hp1.up2 st1
 have lt1 := h1.lt
 refine k_assign rfl rfl ?_
 refine k_nil ?_
 refine k_keep [(1, _), (2, _), (4, _)] ⟨rfl, rfl, rfl, trivial⟩ ?_
 refine k_seq ?_
 refine k_region ?_
 refine k_move rfl rfl ?_
 refine k_field_addr fld100_0 rfl rfl ?_
 refine k_field_addr fld76_0 rfl rfl ?_
 refine k_load_blk one9 rfl h1 rfl rfl ?_
 refine k_field_addr fld100_0 rfl rfl ?_
 refine k_field_addr fld76_1 rfl rfl ?_
 refine k_load_blk one29 rfl h1 rfl rfl ?_
 obtain ⟨x1, hx1, h⟩ := ob h
 refine k_call cal113 rfl (disk_picture_with_w  (show R s1 v1 (.sl 2 (a1.map dDiskFile)) from hp1) (show R s1 q0_0 (.sl 1 (a0.file.b.map bD)) from hq0_0) hx1) rfl ?_
 rintro s2 v2_0 st2 ⟨_, rfl, h2_0⟩
 have szs2 := st2.size
 have hS := hS.trans0 st2
 refine k_assign rfl rfl ?_
 refine k_nil ?_
 refine k_keep [(4, _)] ⟨rfl, trivial⟩ ?_
 refine k_ret ?_
 obtain rfl := Option.some.inj h
 refine ⟨_, rfl, Ret.mk hS ?_⟩
 exact ⟨_, rfl, h2_0⟩

set_option maxHeartbeats 1000000 in
set_option maxRecDepth 100000 in
theorem disk_removing_next_w {s : St} {a0 : (List UInt8)} {v1 : Value} {a1 : (List DiskFile)} {r : (List DiskFile)} (hp1 : R s v1 (.sl 2 (a1.map dDiskFile))) (h : disk_removing_next a0 a1 = some r) : Calls Tryd.prog 121 #[S a0, v1] s.w (Ret s K0 (fun s1 v => ∃ (u0 : Value), v = u0 ∧ R s1 u0 (.sl 2 (r.map dDiskFile)))) := by
 unfold disk_removing_next at h
 have hS := Step.r0 K0 s
 refine k_fn (rs := [4]) (args := [S a0, v1]) Tryd.func121 rfl rfl rfl rfl ?_
 refine k_seq ?_
 refine k_region ?_
 refine k_assign rfl rfl ?_
 refine k_nil ?_
 refine k_seq ?_
 refine k_region ?_
 refine k_move rfl rfl ?_
 refine k_move rfl rfl ?_
 obtain ⟨x1, hx1, h⟩ := ob h
 refine k_call cal115 rfl (disk_picture_without_w  (show R s v1 (.sl 2 (a1.map dDiskFile)) from hp1) hx1) rfl ?_
 rintro s1 v1_0 st1 ⟨_, rfl, h1_0⟩
 have szs1 := st1.size
 have hS := hS.trans0 st1
 refine k_assign rfl rfl ?_
 refine k_nil ?_
 refine k_keep [(4, _)] ⟨rfl, trivial⟩ ?_
 refine k_ret ?_
 obtain rfl := Option.some.inj h
 refine ⟨_, rfl, Ret.mk hS ?_⟩
 exact ⟨_, rfl, h1_0⟩

set_option maxHeartbeats 1000000 in
theorem DiskCall_next_w {s : St} {v0 : Value} {c : DiskCall} {a1 : (List DiskFile)} {v1 : Value} {r : (List DiskFile)} (hv : R s v0 (dDiskCall c)) (hp1 : R s v1 ((dL 2 dDiskFile) a1)) (h : DiskCall_next c a1 = some r) : Invokes Tryd.prog v0 "tidewrack/disk.next" [v1] s.w (Ret s K0 (fun s1 v => ∃ (u0 : Value), v = u0 ∧ R s1 u0 (.sl 2 (r.map dDiskFile)))) := by
 cases c with
 | adding x =>
  obtain ⟨u, rfl, hu⟩ := R.ifc_inv (t := 78) (d := dDiskAdding x) hv
  obtain ⟨⟨cs⟩, rfl, hu⟩ := hu
  dsimp only at hu
  exact ⟨78, _, 112, rfl, meth78_next, cal112, disk_adding_next_w hu hp1 h⟩
 | naming x =>
  obtain ⟨u, rfl, hu⟩ := R.ifc_inv (t := 98) (d := dDiskNaming x) hv
  obtain ⟨⟨cs⟩, rfl, hu⟩ := hu
  dsimp only at hu
  exact ⟨98, _, 119, rfl, meth98_next, cal119, disk_naming_next_w hu hp1 h⟩
 | putting x =>
  obtain ⟨u, rfl, hu⟩ := R.ifc_inv (t := 100) (d := dDiskPutting x) hv
  obtain ⟨⟨cs⟩, rfl, hu⟩ := hu
  dsimp only at hu
  exact ⟨100, _, 120, rfl, meth100_next, cal120, disk_putting_next_w hu hp1 h⟩
 | removing x =>
  obtain ⟨u, rfl, hu⟩ := R.ifc_inv (t := 101) (d := dS x) hv
  have hu := hu.val_inv
  injection hu with hu _
  subst hu
  exact ⟨101, _, 121, rfl, meth101_next, cal121, disk_removing_next_w hp1 h⟩

set_option maxHeartbeats 1000000 in
set_option maxRecDepth 100000 in
theorem disk_Disk_Crash_w {s : St} {k0 : Nat} {p0 : Value} {a0 : DiskDisk} {a1 : Int} {a2 : Int} {r : (Int × DiskDisk)} (ho0 : ODiskDisk s k0 p0 a0) (h : disk_Disk_Crash a0 a1 a2 = some r) : Calls Tryd.prog 17 #[p0, .int .i64 a1, .int .i64 a2] s.w (Ret s (KO k0) (fun s1 v => v = .int .i64 r.1 ∧ ODiskDisk s1 k0 p0 r.2)) := by
 unfold disk_Disk_Crash at h
 have le0 := ho0.le
 have ne0 := ho0.ne
 obtain ⟨bo0, rfl⟩ := ho0.ptr
 obtain ⟨wo0_0, wo0_1, hb_o0, hwo0_0, hwo0_1⟩ := ho0.at_
 have hS := Step.r0 (KO k0) s
 refine k_fn (rs := [6]) (args := [.pointer (some ⟨bo0, 0, none⟩), .int .i64 a1, .int .i64 a2]) Tryd.func17 rfl rfl rfl rfl ?_
 refine k_seq ?_
 refine k_region ?_
 refine k_assign rfl rfl ?_
 refine k_nil ?_
 refine k_seq ?_
 refine k_seq ?_
 refine k_region ?_
 refine k_move rfl rfl ?_
 obtain ⟨x1, hx1, h⟩ := ob h
 refine k_call cal18 rfl (disk_Disk_Down_w  (ODiskDisk.mk_ a0 (by omega) hwo0_0 hwo0_1 hb_o0) hx1) rfl ?_
 rintro s1 vr1 st1 rfl
 have szs1 := st1.size
 have hS := hS.trans0 st1
 replace hwo0_0 := hwo0_0.up2 st1
 replace hwo0_1 := hwo0_1.up2 st1
 replace hb_o0 := hb_o0.up2 st1
 refine k_nil ?_
 refine k_keep [(0, _), (1, _), (2, _), (6, _), (12, _)] ⟨rfl, rfl, rfl, rfl, rfl, trivial⟩ ?_
 refine k_cond rfl (fun c2 => ?_) (fun c2 => ?_)
 ·
  have h := ibT h c2
  refine k_seq ?_
  refine k_region ?_
  refine k_assign rfl rfl ?_
  refine k_nil ?_
  refine k_keep [(0, _), (1, _), (2, _), (6, _)] ⟨rfl, rfl, rfl, rfl, trivial⟩ ?_
  refine k_ret ?_
  obtain rfl := Option.some.inj h
  refine ⟨_, rfl, Ret.mk hS ?_⟩
  exact ⟨rfl, (ODiskDisk.mk_ a0 (by omega) hwo0_0 hwo0_1 hb_o0)⟩
 ·
  have h := ibF h c2
  refine k_skip ?_
  refine k_seq ?_
  refine k_region ?_
  refine k_move rfl rfl ?_
  refine k_max2 rfl rfl rfl ?_
  refine k_move rfl rfl ?_
  refine k_nilCheck rfl rfl ?_
  refine k_field_addr fld61_4 rfl rfl ?_
  refine k_load_blk one57 rfl hb_o0 rfl rfl ?_
  refine k_len Tryd.underlying57 rfl (hwo0_1.sl).hasLen rfl ?_
  refine k_as (v := .int .i64 (a0.calls.length : Int)) (by simp only [List.length_map]) ?_
  refine k_min2 rfl rfl rfl ?_
  refine k_assign rfl rfl ?_
  refine k_nil ?_
  refine k_keep [(0, _), (2, _), (6, _), (7, _)] ⟨rfl, rfl, rfl, rfl, trivial⟩ ?_
  refine k_seq ?_
  refine k_region ?_
  refine k_move rfl rfl ?_
  refine k_nilCheck rfl rfl ?_
  refine k_field_addr fld61_3 rfl rfl ?_
  refine k_load_blk one56 rfl hb_o0 rfl rfl ?_
  refine k_move rfl rfl ?_
  obtain ⟨x2, hx2, h⟩ := ob h
  refine k_ixaddr_own Tryd.underlying56 size73 rfl rfl hwo0_0 (geti_out hx2).1 (geti_map hx2) rfl ?_
  intro qx2 hqx2 heqx2
  refine k_load_sl one73 rfl hqx2 rfl ?_
  intro v3 h3
  refine k_assign rfl rfl ?_
  refine k_nil ?_
  refine k_keep [(0, _), (2, _), (6, _), (7, _), (8, _)] ⟨rfl, rfl, rfl, rfl, rfl, trivial⟩ ?_
  refine k_seq ?_
  obtain ⟨kj3, hK4, h⟩ := jn_out h
  have hE4 := Step.r0 K0 s1
  refine k_cutc (X := St × (List DiskFile) × Value) [(0, .pointer (some ⟨bo0, 0, none⟩)), (6, .int .i64 0)] (fun (xL : St × (List DiskFile) × Value) => match xL with | (sl, x4, v5) => [(8, v5)]) (fun (xL : St × (List DiskFile) × Value) (wL : World) => match xL with | (sl, x4, v5) => sl.w = wL ∧ Step K0 s1 sl ∧ (R sl v5 (.sl 2 (x4.map dDiskFile))) ∧ kj3 x4 = some r) ?_ ?_
  ·
   refine k_seq ?_
   refine k_region ?_
   refine k_move rfl rfl ?_
   refine k_move rfl rfl ?_
   refine k_nilCheck rfl rfl ?_
   refine k_field_addr fld61_4 rfl rfl ?_
   refine k_load_blk one57 rfl hb_o0 rfl rfl ?_
   refine k_len Tryd.underlying57 rfl (hwo0_1.sl).hasLen rfl ?_
   refine k_as (v := .int .i64 (a0.calls.length : Int)) (by simp only [List.length_map]) ?_
   refine k_lss rfl rfl rfl ?_
   refine k_nil ?_
   refine k_keep [(0, _), (2, _), (6, _), (7, _), (8, _), (34, _)] ⟨rfl, rfl, rfl, rfl, rfl, rfl, trivial⟩ ?_
   refine k_cond_dec rfl (fun c6 => ?_) (fun c6 => ?_)
   ·
    have h := itT h c6
    refine k_seq ?_
    refine k_region ?_
    refine k_move rfl rfl ?_
    refine k_nilCheck rfl rfl ?_
    refine k_field_addr fld61_4 rfl rfl ?_
    refine k_load_blk one57 rfl hb_o0 rfl rfl ?_
    refine k_move rfl rfl ?_
    obtain ⟨x5, hx5, h⟩ := ob h
    refine k_ixaddr_own Tryd.underlying57 size81 rfl rfl hwo0_1 (geti_out hx5).1 (geti_map hx5) rfl ?_
    intro qx5 hqx5 heqx5
    refine k_load_any one81 rfl hqx5 (dDiskCall_na _) rfl ?_
    intro v7 h7
    rcases oc_out h with ⟨ho_8, h⟩ | ⟨x6, ho_8, h⟩
    ·
     obtain ⟨tu8, u8, hv8, hn8⟩ := DiskCall.as_adding_none ho_8 h7
     refine k_assert_no (tu := tu8) (u := u8) noti78 ⟨_, Tryd.underlying78⟩ zero78 (congrArg some hv8) hn8 rfl ?_
     refine k_move rfl rfl ?_
     refine k_extract rfl rfl rfl ?_
     refine k_extract rfl rfl rfl ?_
     refine k_alloc zero78 rfl ?_
     intro s9 b9 st9 h9 ge9
     have szs9 := st9.size
     have hS := hS.trans0 st9
     have hE4 := hE4.trans0 st9
     replace h3 := h3.up2 st9
     have lt9 := h9.lt
     refine k_store_c (cs' := [S ([] : List UInt8), .slice none 0 0]) size78 rfl rfl h9 (by first | (simp; done) | omega | (dsimp only; omega)) (CellsOf.lit rfl rfl) rfl (by first | rfl | (simp; done) | (simp; omega)) rfl ?_
     intro s10 st10 h9
     have szs10 := st10.size
     have hS := hS.c0 st10
     have hE4 := hE4.c0 st10
     replace h3 := h3.up2 st10
     refine k_assign rfl rfl ?_
     refine k_nil ?_
     refine k_keep [(0, _), (2, _), (6, _), (8, _), (9, _), (10, _)] ⟨rfl, rfl, rfl, rfl, rfl, rfl, trivial⟩ ?_
     refine k_seq ?_
     refine k_region ?_
     refine k_move rfl rfl ?_
     refine k_move rfl rfl ?_
     refine k_no rfl rfl rfl rfl ?_
     refine k_no rfl rfl rfl rfl ?_
     refine k_pickF rfl rfl rfl rfl ?_
     refine k_move rfl rfl ?_
     refine k_no rfl rfl rfl rfl ?_
     refine k_no rfl rfl rfl rfl ?_
     refine k_no rfl rfl rfl rfl ?_
     refine k_no rfl rfl rfl rfl ?_
     refine k_no rfl rfl rfl rfl ?_
     refine k_pickF rfl rfl rfl rfl ?_
     refine k_nil ?_
     refine k_keep [(0, _), (2, _), (6, _), (8, _), (9, _), (57, _)] ⟨rfl, rfl, rfl, rfl, rfl, rfl, trivial⟩ ?_
     refine k_cond_false rfl ?_
     refine k_skip ?_
     exact k_stop ⟨(s10, x2, v3), ⟨(by first | rfl | (simp <;> rfl)), trivial⟩, ⟨rfl, rfl, trivial⟩, ⟨rfl, hE4, h3, h⟩⟩
    ·
     obtain ⟨u8, hv8, h8⟩ := R.ifc_inv (t := 78) (d := dDiskAdding x6) (by have hq := h7; rw [DiskCall.as_adding_some ho_8] at hq; exact hq)
     obtain ⟨⟨cs8⟩, rfl, h8⟩ := h8
     dsimp only at h8
     obtain ⟨q8_0, rfl, hq8_0⟩ := opnDiskAdding h8
     refine k_assert_yes (u := .agg #[S x6.file.name, q8_0]) noti78 ⟨_, Tryd.underlying78⟩ (congrArg some hv8) rfl ?_
     refine k_move rfl rfl ?_
     refine k_extract rfl rfl rfl ?_
     refine k_extract rfl rfl rfl ?_
     refine k_alloc zero78 rfl ?_
     intro s11 b11 st11 h11 ge11
     have szs11 := st11.size
     have hS := hS.trans0 st11
     have hE4 := hE4.trans0 st11
     replace h3 := h3.up2 st11
     replace hq8_0 := hq8_0.up2 st11
     have lt11 := h11.lt
     refine k_store_c (cs' := [S x6.file.name, q8_0]) size78 rfl rfl h11 (by first | (simp; done) | omega | (dsimp only; omega)) (CellsOf.lit (vs := [S x6.file.name, q8_0]) rfl (ones.cons rfl (ones.cons ((SL.of_R hq8_0)).one1 ones.nil))) rfl (by first | rfl | (simp; done) | (simp; omega)) rfl ?_
     intro s12 st12 h11
     have szs12 := st12.size
     have hS := hS.c0 st12
     have hE4 := hE4.c0 st12
     replace h3 := h3.up2 st12
     replace hq8_0 := hq8_0.up2 st12
     refine k_assign rfl rfl ?_
     refine k_nil ?_
     refine k_keep [(0, _), (2, _), (6, _), (8, _), (9, _), (10, _)] ⟨rfl, rfl, rfl, rfl, rfl, rfl, trivial⟩ ?_
     refine k_seq ?_
     refine k_region ?_
     refine k_move rfl rfl ?_
     refine k_move rfl rfl ?_
     refine k_yes rfl rfl ?_
     refine k_move rfl rfl ?_
     refine k_yes rfl rfl ?_
     refine k_gtr rfl rfl rfl ?_
     refine k_pickT rfl rfl rfl rfl ?_
     refine k_move rfl rfl ?_
     have hE13 := Step.r0 K0 s12
     refine k_cutl (X := St) 6 [(0, .pointer (some ⟨bo0, 0, none⟩)), (2, .int .i64 a2), (6, .int .i64 0), (8, v3), (9, .pointer (some ⟨b11, 0, none⟩)), (10, .bool true), (46, .bool true), (47, .bool true), (48, .int .i64 a2), (49, .bool (decide (0 < a2))), (50, .bool (decide (0 < a2)))] (fun _ => [(57, .bool (decide ((0 < a2) ∧ (0 < (x6.file.b.length : Int)))))]) (fun sl wL => sl.w = wL ∧ Step K0 s12 sl) ?_ ?_
     ·
      refine k_again 51 rfl ?_
      refine k_split (fun c14 => ?_) (fun c14 => ?_)
      ·
       refine k_yes rfl rfl ?_
       refine k_field_addr fld78_0 rfl rfl ?_
       refine k_yes rfl rfl ?_
       refine k_field_addr fld76_1 rfl rfl ?_
       refine k_yes rfl rfl ?_
       refine k_load_blk one29 rfl h11 rfl rfl ?_
       refine k_yes rfl rfl ?_
       refine k_len Tryd.underlying29 rfl (SL.of_R hq8_0).hasLen rfl ?_
       refine k_as (v := .int .i64 (x6.file.b.length : Int)) (by simp only [List.length_map]) ?_
       refine k_yes rfl rfl ?_
       refine k_gtr rfl rfl rfl ?_
       refine k_pickT rfl rfl rfl rfl ?_
       exact k_met ⟨s12, ⟨(congrArg (fun b => some (Value.bool b)) (by first | exact decide_eq_decide.2 ⟨fun h => ⟨c14, h⟩, fun h => h.2⟩ | exact (decide_eq_false (fun h => c14 h.1)).symm | (simp [c14]; done) | (simp [c14, i64] <;> omega))), trivial⟩, ⟨rfl, rfl, rfl, rfl, rfl, rfl, rfl, rfl, rfl, rfl, rfl, trivial⟩, rfl, hE13⟩
      ·
       refine k_no rfl rfl rfl rfl ?_
       refine k_no rfl rfl rfl rfl ?_
       refine k_no rfl rfl rfl rfl ?_
       refine k_no rfl rfl rfl rfl ?_
       refine k_no rfl rfl rfl rfl ?_
       refine k_pickF rfl rfl rfl rfl ?_
       exact k_met ⟨s12, ⟨(congrArg (fun b => some (Value.bool b)) (by first | exact decide_eq_decide.2 ⟨fun h => ⟨c14, h⟩, fun h => h.2⟩ | exact (decide_eq_false (fun h => c14 h.1)).symm | (simp [c14]; done) | (simp [c14, i64] <;> omega))), trivial⟩, ⟨rfl, rfl, rfl, rfl, rfl, rfl, rfl, rfl, rfl, rfl, rfl, trivial⟩, rfl, hE13⟩
     ·
      rintro s15 wL ⟨rfl, hE13⟩
      have szs15 := hE13.size
      have hS := hS.trans0 hE13
      have hE4 := hE4.trans0 hE13
      replace h3 := h3.up2 hE13
      replace hq8_0 := hq8_0.up2 hE13
      replace h11 := h11.up2 hE13
      refine k_nil ?_
      refine k_keep [(0, _), (2, _), (6, _), (8, _), (9, _), (57, _)] ⟨rfl, rfl, rfl, rfl, rfl, rfl, trivial⟩ ?_
      refine k_cond_dec rfl (fun c16 => ?_) (fun c16 => ?_)
      ·
       have h := itT h c16
       refine k_region ?_
       refine k_load_blka (cs := [S x6.file.name, q8_0]) agg78 rfl h11 rfl ?_
       refine k_move rfl rfl ?_
       obtain ⟨x7, hx7, h⟩ := ob h
       refine k_call cal38 rfl (disk_adding_torn_w  (clsDiskAdding x6 hq8_0) hx7) rfl ?_
       rintro s17 v17_0 st17 ⟨_, rfl, h17_0⟩
       have szs17 := st17.size
       have hS := hS.trans0 st17
       have hE4 := hE4.trans0 st17
       replace h3 := h3.up2 st17
       refine k_move rfl rfl ?_
       obtain ⟨x8, hx8, h⟩ := ob h
       refine k_invoke rfl rfl (DiskCall_next_w  (show R s17 v17_0 (dDiskCall x7) from h17_0) (show R s17 v3 (.sl 2 (x2.map dDiskFile)) from h3) hx8) rfl ?_
       rintro s18 v18_0 st18 ⟨_, rfl, h18_0⟩
       have szs18 := st18.size
       have hS := hS.trans0 st18
       have hE4 := hE4.trans0 st18
       refine k_assign rfl rfl ?_
       refine k_nil ?_
       exact k_stop ⟨(s18, x8, v18_0), ⟨(by first | rfl | (simp <;> rfl)), trivial⟩, ⟨rfl, rfl, trivial⟩, ⟨rfl, hE4, h18_0, h⟩⟩
      ·
       have h := itF h c16
       refine k_skip ?_
       exact k_stop ⟨(s15, x2, v3), ⟨(by first | rfl | (simp <;> rfl)), trivial⟩, ⟨rfl, rfl, trivial⟩, ⟨rfl, hE4, h3, h⟩⟩
   ·
    have h := itF h c6
    refine k_skip ?_
    exact k_stop ⟨(s1, x2, v3), ⟨(by first | rfl | (simp <;> rfl)), trivial⟩, ⟨rfl, rfl, trivial⟩, ⟨rfl, hE4, h3, h⟩⟩
  ·
   rintro ⟨s19, x4, v5⟩ wL ⟨rfl, hE4, h5, h⟩
   rw [hK4] at h
   have szs19 := hE4.size
   have hS := hS.trans0 hE4
   replace hwo0_0 := hwo0_0.up2 hE4
   replace hwo0_1 := hwo0_1.up2 hE4
   replace hb_o0 := hb_o0.up2 hE4
   refine k_seq ?_
   refine k_region ?_
   refine k_move rfl rfl ?_
   refine k_move rfl rfl ?_
   obtain ⟨x9, hx9, h⟩ := ob h
   refine k_call cal36 rfl (disk_Disk_only_w  (ODiskDisk.mk_ a0 (by omega) hwo0_0 hwo0_1 hb_o0) (show R s19 v5 (.sl 2 (x4.map dDiskFile)) from h5) hx9) rfl ?_
   rintro s20 vr20 st20 ⟨rfl, hm20_0⟩
   obtain ⟨w20_0_0, w20_0_1, hb_20_0, hw20_0_0, hw20_0_1⟩ := hm20_0.at_
   have szs20 := st20.size
   have hS := hS.c0 st20
   refine k_nil ?_
   refine k_keep [(0, _), (6, _)] ⟨rfl, rfl, trivial⟩ ?_
   refine k_seq ?_
   refine k_region ?_
   refine k_move rfl rfl ?_
   refine k_move rfl rfl ?_
   refine k_build plc59 zero59 rfl Parts.nil (by rfl) rfl ?_
   refine k_as (v := .agg #[.int .i64 0, .int .i64 0, .int .i64 0]) rfl ?_
   refine k_nilCheck rfl rfl ?_
   refine k_field_addr fld61_2 rfl rfl ?_
   refine k_store_c (cs' := [.int .i64 x9.capacity, .bool x9.made, .bool true, w20_0_0, w20_0_1, .int .i64 x9.fuse.n, .int .i64 x9.fuse.keep, .int .i64 x9.fuse.torn]) size4 rfl rfl hb_20_0 (by first | (simp; done) | omega | (dsimp only; omega)) (CellsOf.lit rfl rfl) rfl (by first | rfl | (simp; done) | (simp; omega)) rfl ?_
   intro s21 st21 hb_20_0
   have szs21 := st21.size
   have hS := hS.c0 st21
   replace hw20_0_0 := hw20_0_0.up2 st21
   replace hw20_0_1 := hw20_0_1.up2 st21
   refine k_nilCheck rfl rfl ?_
   refine k_field_addr fld61_5 rfl rfl ?_
   refine k_store_c (cs' := [.int .i64 x9.capacity, .bool x9.made, .bool true, w20_0_0, w20_0_1, .int .i64 0, .int .i64 0, .int .i64 0]) size59 rfl rfl hb_20_0 (by first | (simp; done) | omega | (dsimp only; omega)) (CellsOf.lit rfl rfl) rfl (by first | rfl | (simp; done) | (simp; omega)) rfl ?_
   intro s22 st22 hb_20_0
   have szs22 := st22.size
   have hS := hS.c0 st22
   replace hw20_0_0 := hw20_0_0.up2 st22
   replace hw20_0_1 := hw20_0_1.up2 st22
   refine k_nil ?_
   refine k_keep [(6, _)] ⟨rfl, trivial⟩ ?_
   refine k_seq ?_
   refine k_region ?_
   refine k_assign rfl rfl ?_
   refine k_nil ?_
   refine k_ret ?_
   obtain rfl := Option.some.inj h
   refine ⟨_, rfl, Ret.mk hS ?_⟩
   exact ⟨rfl, (ODiskDisk.mk_ (⟨x9.capacity, x9.made, true, x9.pictures, x9.calls, (⟨0, 0, 0⟩ : DiskFuse)⟩ : DiskDisk) (by omega) hw20_0_0 hw20_0_1 hb_20_0)⟩

set_option maxHeartbeats 1000000 in
set_option maxRecDepth 100000 in
theorem disk_Disk_burn_w {s : St} {k0 : Nat} {p0 : Value} {a0 : DiskDisk} {r : (Int × DiskDisk)} (ho0 : ODiskDisk s k0 p0 a0) (h : disk_Disk_burn a0 = some r) : Calls Tryd.prog 35 #[p0] s.w (Ret s (KO k0) (fun s1 v => v = .int .i64 r.1 ∧ ODiskDisk s1 k0 p0 r.2)) := by
 unfold disk_Disk_burn at h
 have le0 := ho0.le
 have ne0 := ho0.ne
 obtain ⟨bo0, rfl⟩ := ho0.ptr
 obtain ⟨wo0_0, wo0_1, hb_o0, hwo0_0, hwo0_1⟩ := ho0.at_
 have hS := Step.r0 (KO k0) s
 refine k_fn (rs := [2]) (args := [.pointer (some ⟨bo0, 0, none⟩)]) Tryd.func35 rfl rfl rfl rfl ?_
 refine k_seq ?_
 refine k_region ?_
 refine k_assign rfl rfl ?_
 refine k_nil ?_
 refine k_seq ?_
 refine k_seq ?_
 refine k_region ?_
 refine k_move rfl rfl ?_
 refine k_nilCheck rfl rfl ?_
 refine k_field_addr fld61_5 rfl rfl ?_
 refine k_field_addr fld59_0 rfl rfl ?_
 refine k_load_blk one3 rfl hb_o0 rfl rfl ?_
 refine k_nil ?_
 refine k_keep [(0, _), (2, _), (7, _)] ⟨rfl, rfl, rfl, trivial⟩ ?_
 refine k_block ?_
 refine k_seq ?_
 refine k_region ?_
 refine k_eql rfl rfl rfl ?_
 refine k_assign rfl rfl ?_
 refine k_nil ?_
 refine k_keep [(0, _), (2, _), (7, _), (8, _)] ⟨rfl, rfl, rfl, rfl, trivial⟩ ?_
 refine k_cond_dec rfl (fun c1 => ?_) (fun c1 => ?_)
 ·
  have h := itT h c1
  refine k_seq ?_
  refine k_region ?_
  refine k_assign rfl rfl ?_
  refine k_nil ?_
  refine k_keep [(0, _), (2, _)] ⟨rfl, rfl, trivial⟩ ?_
  refine k_ret ?_
  obtain rfl := Option.some.inj h
  refine ⟨_, rfl, Ret.mk hS ?_⟩
  exact ⟨rfl, (ODiskDisk.mk_ a0 (by omega) hwo0_0 hwo0_1 hb_o0)⟩
 ·
  have h := itF h c1
  refine k_seq ?_
  refine k_region ?_
  refine k_eql rfl rfl rfl ?_
  refine k_assign rfl rfl ?_
  refine k_nil ?_
  refine k_keep [(0, _), (2, _), (10, _)] ⟨rfl, rfl, rfl, trivial⟩ ?_
  refine k_cond_dec rfl (fun c2 => ?_) (fun c2 => ?_)
  ·
   have h := itT h c2
   refine k_seq ?_
   refine k_keep [(0, _), (2, _)] ⟨rfl, rfl, trivial⟩ ?_
   refine k_drawT (KN s.n) 11 (.read 0 (.read 1 (.read 2 (.read 3 (.read 4 (.read 5 (.read 6 (.read 7 (.read 8 (.read 9 (.read 10 .fin))))))))))) mixed (by intro c h; (try simp only [KC, KO, KU, KN, KB] at h) <;> omega) rfl rfl rfl ?_
   intro s3 st3
   have szs3 := st3.size
   have hS := hS.trans0 st3
   replace hwo0_0 := hwo0_0.up2 st3
   replace hwo0_1 := hwo0_1.up2 st3
   replace hb_o0 := hb_o0.up2 st3
   refine rt_read (.pointer (some ⟨bo0, 0, none⟩)) rfl rfl (fun s4 st4 => ?_) ?_
   ·refine k_move rfl rfl ?_
    exact fq_end
   refine rt_read (.pointer (some ⟨bo0, 0, none⟩)) rfl rfl (fun s5 st5 => ?_) ?_
   ·refine k_move rfl rfl ?_
    exact fq_end
   refine rt_read (.pointer (some ⟨bo0, 0, none⟩)) rfl rfl (fun s6 st6 => ?_) ?_
   ·refine k_nilCheck rfl rfl ?_
    exact fq_end
   refine rt_read (.pointer (some ⟨bo0, 5, none⟩)) rfl rfl (fun s7 st7 => ?_) ?_
   ·refine k_field_addr fld61_5 rfl rfl ?_
    exact fq_end
   refine rt_read (.pointer (some ⟨bo0, 6, none⟩)) rfl rfl (fun s8 st8 => ?_) ?_
   ·refine k_field_addr fld59_1 rfl rfl ?_
    exact fq_end
   refine rt_read (.int .i64 a0.fuse.keep) rfl rfl (fun s9 st9 => ?_) ?_
   ·try replace hb_o0 := hb_o0.up2 st9
    refine k_load_blk one3 rfl hb_o0 rfl rfl ?_
    exact fq_end
   refine rt_read (.pointer (some ⟨bo0, 0, none⟩)) rfl rfl (fun s10 st10 => ?_) ?_
   ·refine k_move rfl rfl ?_
    exact fq_end
   refine rt_read (.pointer (some ⟨bo0, 0, none⟩)) rfl rfl (fun s11 st11 => ?_) ?_
   ·refine k_nilCheck rfl rfl ?_
    exact fq_end
   refine rt_read (.pointer (some ⟨bo0, 5, none⟩)) rfl rfl (fun s12 st12 => ?_) ?_
   ·refine k_field_addr fld61_5 rfl rfl ?_
    exact fq_end
   refine rt_read (.pointer (some ⟨bo0, 7, none⟩)) rfl rfl (fun s13 st13 => ?_) ?_
   ·refine k_field_addr fld59_2 rfl rfl ?_
    exact fq_end
   refine rt_read (.int .i64 a0.fuse.torn) rfl rfl (fun s14 st14 => ?_) ?_
   ·try replace hb_o0 := hb_o0.up2 st14
    refine k_load_blk one3 rfl hb_o0 rfl rfl ?_
    exact fq_end
   refine rt_fin ?_
   obtain ⟨x1, hx1, h⟩ := ob h
   refine k_call cal17 rfl (disk_Disk_Crash_w  (ODiskDisk.mk_ a0 (by omega) hwo0_0 hwo0_1 hb_o0) hx1) rfl ?_
   rintro s15 vr15 st15 ⟨rfl, hm15_0⟩
   obtain ⟨w15_0_0, w15_0_1, hb_15_0, hw15_0_0, hw15_0_1⟩ := hm15_0.at_
   have szs15 := st15.size
   have hS := hS.c0 st15
   refine k_nil ?_
   refine k_keep [(0, _), (2, _)] ⟨rfl, rfl, trivial⟩ ?_
   refine k_seq ?_
   refine k_region ?_
   refine k_assign rfl rfl ?_
   refine k_nil ?_
   refine k_ret ?_
   obtain rfl := Option.some.inj h
   refine ⟨_, rfl, Ret.mk hS ?_⟩
   exact ⟨rfl, (ODiskDisk.mk_ x1.2 (by omega) hw15_0_0 hw15_0_1 hb_15_0)⟩
  ·
   have h := itF h c2
   refine k_skip ?_
   refine k_blk ?_
   refine k_seq ?_
   refine k_region ?_
   refine k_move rfl rfl ?_
   refine k_nilCheck rfl rfl ?_
   refine k_field_addr fld61_5 rfl rfl ?_
   refine k_field_addr fld59_0 rfl rfl ?_
   refine k_load_blk one3 rfl hb_o0 rfl rfl ?_
   refine k_sub_ rfl rfl rfl ?_
   refine k_nilCheck rfl rfl ?_
   refine k_field_addr fld61_5 rfl rfl ?_
   refine k_field_addr fld59_0 rfl rfl ?_
   refine k_store_c (cs' := [.int .i64 a0.capacity, .bool a0.made, .bool a0.down, wo0_0, wo0_1, .int .i64 (i64 (a0.fuse.n - 1)), .int .i64 a0.fuse.keep, .int .i64 a0.fuse.torn]) size3 rfl rfl hb_o0 (by first | (simp; done) | omega | (dsimp only; omega)) (CellsOf.lit rfl rfl) rfl (by first | rfl | (simp; done) | (simp; omega)) rfl ?_
   intro s16 st16 hb_o0
   have szs16 := st16.size
   have hS := hS.c0 st16
   replace hwo0_0 := hwo0_0.up2 st16
   replace hwo0_1 := hwo0_1.up2 st16
   refine k_nil ?_
   refine k_keep [(2, _)] ⟨rfl, trivial⟩ ?_
   refine k_seq ?_
   refine k_region ?_
   refine k_assign rfl rfl ?_
   refine k_nil ?_
   refine k_ret ?_
   obtain rfl := Option.some.inj h
   refine ⟨_, rfl, Ret.mk hS ?_⟩
   exact ⟨rfl, (ODiskDisk.mk_ (⟨a0.capacity, a0.made, a0.down, a0.pictures, a0.calls, (⟨i64 (a0.fuse.n - 1), a0.fuse.keep, a0.fuse.torn⟩ : DiskFuse)⟩ : DiskDisk) (by omega) hwo0_0 hwo0_1 hb_o0)⟩
end Go.Proofs
