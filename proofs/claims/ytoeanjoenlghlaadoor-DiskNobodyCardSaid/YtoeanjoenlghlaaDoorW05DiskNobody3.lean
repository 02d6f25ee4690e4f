import Derived.Test.YtoeanjoenlghlaaDoorW05DiskNobody2
set_option linter.unusedSimpArgs false
set_option linter.unusedVariables false
namespace Go.Proofs
open Go.Fw
set_option maxHeartbeats 1000000 in
set_option maxRecDepth 100000 in
theorem disk_Disk_Names_nil_w {s : St}  {r : (List (List UInt8))}  (h : disk_Disk_Names_nil = some r) : Calls Tryd.prog 26 #[.pointer none] s.w (Ret s K0 (fun s1 v => ∃ (u0 : Value), v = u0 ∧ R s1 u0 (.sl 1 (r.map dS)))) := by
  unfold disk_Disk_Names_nil at h
  have hS : Step K0 s s := (Step.refl _).of0 (by first | exact fun _ h => h | (intro c h; simp [KC, KO, KU, KN, KB] at h <;> omega))
  refine k_fn_m (args := [.pointer none]) Tryd.func26 rfl rfl ?_
  refine rk_seq ?_
  refine rk_run ?_
  refine k_region ?_
  refine k_assign rfl rfl ?_
  refine k_nil ?_
  refine k_stop ?_
  refine rk_seq ?_
  refine rk_run ?_
  refine k_region ?_
  refine k_alloc zero46 rfl ?_
  intro s1 b1 st1 h1 ge1
  have szs1 := st1.size
  have hS : Step K0 s s1 := hS.trans0 st1
  have lt1 := h1.lt
  refine k_nil ?_
  refine k_stop ?_
  refine rk_seq ?_
  refine rk_seq ?_
  refine rk_run ?_
  refine k_region ?_
  refine k_move rfl rfl ?_
  obtain ⟨x1, hx1, h⟩ := ob h
  refine k_call cal37 rfl (disk_Disk_seen_nil_w   hx1) rfl ?_
  rintro s2 v2_0 st2 ⟨_, rfl, h2_0⟩
  have szs2 := st2.size
  have hS : Step K0 s s2 := hS.trans0 st2
  replace h1 := h1.up2 st2
  obtain ⟨x2, hx2, h⟩ := ob h
  refine k_call cal53 rfl (disk_picture_sizes_w  (show R s2 v2_0 (.sl 2 (x1.map dDiskFile)) from h2_0) hx2) rfl ?_
  rintro s3 vr3 st3 ⟨ub3_0, rfl, hg3_0, h3_0⟩
  have szs3 := st3.size
  have hS : Step K0 s s3 := hS.trans0 st3
  replace h1 := h1.up2 st3
  refine k_nil ?_
  refine k_stop ?_
  have h5 : Own s3 ⟨b1 + 1, 7⟩ 9 1 (.slice none 0 0) (([] : List (List UInt8)).map dS) := Own.nil (by first | (simp; done) | omega | (dsimp only; omega)) (by first | (simp; done) | omega | (dsimp only; omega))
  obtain ⟨x6, hx6, h⟩ := ob h
  refine rk_range (A := ((List UInt8) × Int)) (X := (List (List UInt8))) (ps := [8, 9]) (fun (sl : St) (y : (List UInt8) × Int) (vs : List Value) => vs = [S y.1, .int .i64 y.2]) (fun (x3 : (List (List UInt8))) (x4 : ((List UInt8) × Int)) => (app 8796093022208 x3 ([x4.1] : List (List UInt8))).bind fun x7 => some (true, x7)) (fun (xL : (List (List UInt8))) (sl : St) => ∃ v6 : Value, (Own sl ⟨b1 + 1, 7⟩ 9 1 v6 (xL.map dS)) ∧ (Blk sl b1 ⟨b1 + 1, 0⟩ [v6] 46)) (KU (KC (b1 + 1) 7) (KC (b1 + 1) 0)) rfl cal67 (fun _ _ _ h => by obtain rfl := h; rfl) (by decide) (by intro lab h; (try simp only [KC, KO, KU, KN, K0, KB] at h); first | exact h.elim | omega) ([]) x6 ⟨(.slice none 0 0), h5, h1⟩ (by rintro x t1 t2 K ⟨v6, z0, z1⟩ st hK; exact ⟨v6, z0.up st (fun hk => by have hq := hK _ hk; (try dsimp only at hq); omega), z1.up st (fun hk => by have hq := hK _ hk; (try dsimp only at hq); omega)⟩) ?_ ?_ ?_
  · -- a round
    intro l rec sR4 x3 x4 vsR rR4 hl1 hl2 hrec
    rintro ⟨v6, h6, h1⟩ hL henc hc4
    obtain rfl := henc
    try dsimp only at hc4
    have hRS4 : Step (KU (KC (l + 1) 0) (KU (KC (b1 + 1) 7) (KC (b1 + 1) 0))) sR4 sR4 := (Step.refl _).of0 (by first | exact fun _ h => h | (intro c h; simp [KC, KO, KU, KN, KB] at h <;> omega))
    refine k_region ?_
    refine k_assign rfl rfl ?_
    refine k_nil ?_
    refine k_stop ?_
    refine k_begin hL hrec ?_
    intro s7 st7 hL
    have szs7 := st7.size
    have hRS4 : Step (KU (KC (l + 1) 0) (KU (KC (b1 + 1) 7) (KC (b1 + 1) 0))) sR4 s7 := hRS4.comp st7 (by intro l hl hk; (try simp only [KC, KO, KU, KN, K0, KB] at hk ⊢) <;> omega)
    replace h1 := h1.up2 st7
    replace h6 := h6.up2 st7
    refine k_keep [(3, _), (4, _)] ⟨rfl, rfl, trivial⟩ ?_
    refine k_block ?_
    refine k_region ?_
    refine k_load_blk one46 rfl h1 rfl rfl ?_
    refine k_move rfl rfl ?_
    refine k_bslice2 (ds := ([x4.1] : List (List UInt8)).map dS) slc46 rfl (RVs.cons (R.val rfl) RVs.nil) (by rfl) (by rfl) rfl rfl ?_
    intro s8 v8 b8 st8 ge8 bl8 h8
    have szs8 := st8.size
    have hRS4 : Step (KU (KC (l + 1) 0) (KU (KC (b1 + 1) 7) (KC (b1 + 1) 0))) sR4 s8 := hRS4.trans0 st8
    replace h1 := h1.up2 st8
    replace h6 := h6.up2 st8
    replace hL := hL.up2 st8
    have lt8 := Own.le1 h8
    obtain ⟨x7, hx7, hc4⟩ := ob hc4
    refine k_append (es := ([x4.1] : List (List UInt8)).map dS) elem46 rfl rfl h6 (h8.sl) (by have := (app_out hx7).1; simp only [List.length_map] at *; omega) (by have := (app_out hx7).1; simp only [List.length_map] at *; omega) rfl ?_
    intro s9 v9 st9 h9
    rw [← List.map_append, ← (app_out hx7).2] at h9
    have szs9 := st9.size
    have hRS4 : Step (KU (KC (l + 1) 0) (KU (KC (b1 + 1) 7) (KC (b1 + 1) 0))) sR4 s9 := hRS4.comp st9 (by intro l hl hk; (try simp only [KC, KO, KU, KN, K0, KB] at hk ⊢) <;> omega)
    replace h1 := h1.up2 st9
    replace hL := hL.up2 st9
    refine k_store_c (cs' := [v9]) size46 rfl rfl h1 (by first | (simp; done) | omega | (dsimp only; omega)) (CellsOf.sl (h9.sl)) rfl (by first | rfl | (simp; done) | (simp; omega)) rfl ?_
    intro s10 st10 h1
    have szs10 := st10.size
    have hRS4 : Step (KU (KC (l + 1) 0) (KU (KC (b1 + 1) 7) (KC (b1 + 1) 0))) sR4 s10 := hRS4.comp st10 (by intro l hl hk; (try simp only [KC, KO, KU, KN, K0, KB] at hk ⊢) <;> omega)
    replace h9 := h9.up2 st10
    replace hL := hL.up2 st10
    refine k_nil ?_
    refine k_blk ?_
    refine k_end ?_
    obtain rfl := Option.some.inj hc4
    exact ⟨rfl, s10, rfl, hRS4, hL, ⟨v9, h9, h1⟩⟩
  · -- the iterator
    intro l t1 I' Ky st hl1 hl2 hK1 hK2 hY hI'
    have ltb_ub3_0 := h3_0.lt
    exact disk_picture_sizes_1_w hY hI' (h3_0.up2 st) (fun h => by rcases hK2 _ h with h | h <;> (simp only [KU, KN, KC, KO, K0, KB, Lab.mk.injEq] at h) <;> omega) hx6
  · -- behind
    intro D4 s11 stn4
    rintro ⟨v6, h6, h1⟩ hM4 hD4
    have szs11 := stn4.size
    have hS : Step K0 s s11 := hS.comp stn4 (by intro l hl hk; (try simp only [KC, KO, KU, KN, K0, KB] at hk ⊢) <;> omega)
    refine rk_last ?_
    refine k_seq ?_
    refine k_region ?_
    refine k_load_blk one46 rfl h1 rfl rfl ?_
    refine k_assign rfl rfl ?_
    refine k_nil ?_
    refine k_keep [(2, _)] ⟨rfl, trivial⟩ ?_
    refine k_ret ?_
    refine re_ret ?_
    refine re_cons hM4 (fun s12 st12 => ?_)
    have szs12 := st12.size
    have hS : Step K0 s s12 := hS.comp st12 (by intro l hl hk; (try simp only [KC, KO, KU, KN, K0, KB] at hk ⊢) <;> omega)
    replace h6 := h6.up2 st12
    obtain ⟨s13, e13, st13, h13⟩ := h6.freeze
    rw [← e13]
    have szs13 := st13.size
    have hS : Step K0 s s13 := hS.comp st13 (by intro l hl hk; (try simp only [KC, KO, KU, KN, K0, KB] at hk ⊢) <;> omega)
    obtain rfl := Option.some.inj h
    refine re_nil (rs := [2]) rfl rfl ?_
    refine ⟨_, rfl, Ret.mk hS ?_⟩
    exact ⟨_, rfl, h13⟩

set_option maxHeartbeats 1000000 in
set_option maxRecDepth 100000 in
theorem disk_Disk_Bytes_nil_w {s : St}  {r : Int}  (h : disk_Disk_Bytes_nil = some r) : Calls Tryd.prog 28 #[.pointer none] s.w (Ret s K0 (fun s1 v => v = .int .i64 r)) := by
  unfold disk_Disk_Bytes_nil at h
  have hS : Step K0 s s := (Step.refl _).of0 (by first | exact fun _ h => h | (intro c h; simp [KC, KO, KU, KN, KB] at h <;> omega))
  refine k_fn (rs := [2]) (args := [.pointer none]) Tryd.func28 rfl rfl rfl rfl ?_
  refine k_seq ?_
  refine k_region ?_
  refine k_assign rfl rfl ?_
  refine k_nil ?_
  refine k_seq ?_
  refine k_region ?_
  refine k_move rfl rfl ?_
  obtain ⟨x1, hx1, h⟩ := ob h
  refine k_call cal37 rfl (disk_Disk_seen_nil_w   hx1) rfl ?_
  rintro s1 v1_0 st1 ⟨_, rfl, h1_0⟩
  have szs1 := st1.size
  have hS : Step K0 s s1 := hS.trans0 st1
  obtain ⟨x2, hx2, h⟩ := ob h
  refine k_call cal57 rfl (disk_picture_size_w  (show R s1 v1_0 (.sl 2 (x1.map dDiskFile)) from h1_0) hx2) rfl ?_
  rintro s2 vr2 st2 rfl
  have szs2 := st2.size
  have hS : Step K0 s s2 := hS.trans0 st2
  refine k_assign rfl rfl ?_
  refine k_nil ?_
  refine k_keep [(2, _)] ⟨rfl, trivial⟩ ?_
  refine k_ret ?_
  obtain rfl := Option.some.inj h
  refine ⟨_, rfl, Ret.mk hS ?_⟩
  exact rfl

set_option maxHeartbeats 1000000 in
set_option maxRecDepth 100000 in
theorem disk_Disk_Size_nil_w {s : St} {a1 : (List UInt8)} {r : Int}  (h : disk_Disk_Size_nil a1 = some r) : Calls Tryd.prog 30 #[.pointer none, S a1] s.w (Ret s K0 (fun s1 v => v = .int .i64 r)) := by
  unfold disk_Disk_Size_nil at h
  have hS : Step K0 s s := (Step.refl _).of0 (by first | exact fun _ h => h | (intro c h; simp [KC, KO, KU, KN, KB] at h <;> omega))
  refine k_fn (rs := [4]) (args := [.pointer none, S a1]) Tryd.func30 rfl rfl rfl rfl ?_
  refine k_seq ?_
  refine k_region ?_
  refine k_assign rfl rfl ?_
  refine k_nil ?_
  refine k_seq ?_
  refine k_region ?_
  refine k_move rfl rfl ?_
  obtain ⟨x1, hx1, h⟩ := ob h
  refine k_call cal37 rfl (disk_Disk_seen_nil_w   hx1) rfl ?_
  rintro s1 v1_0 st1 ⟨_, rfl, h1_0⟩
  have szs1 := st1.size
  have hS : Step K0 s s1 := hS.trans0 st1
  refine k_move rfl rfl ?_
  obtain ⟨x2, hx2, h⟩ := ob h
  refine k_call cal56 rfl (disk_picture_bytes_w  (SL.of_R h1_0) hx2) rfl ?_
  rintro s2 v2_0 st2 ⟨_, rfl, h2_0⟩
  have szs2 := st2.size
  have hS : Step K0 s s2 := hS.trans0 st2
  refine k_len Tryd.underlying29 rfl (SL.of_R h2_0).hasLen rfl ?_
  refine k_as (v := .int .i64 (x2.length : Int)) (by simp only [List.length_map]) ?_
  refine k_assign rfl rfl ?_
  refine k_nil ?_
  refine k_keep [(4, _)] ⟨rfl, trivial⟩ ?_
  refine k_ret ?_
  obtain rfl := Option.some.inj h
  refine ⟨_, rfl, Ret.mk hS ?_⟩
  exact rfl

set_option maxHeartbeats 1000000 in
set_option maxRecDepth 100000 in
theorem disk_Disk_Waits_nil_w {s : St}  {r : Int}  (h : disk_Disk_Waits_nil = some r) : Calls Tryd.prog 14 #[.pointer none] s.w (Ret s K0 (fun s1 v => v = .int .i64 r)) := by
  unfold disk_Disk_Waits_nil at h
  have hS : Step K0 s s := (Step.refl _).of0 (by first | exact fun _ h => h | (intro c h; simp [KC, KO, KU, KN, KB] at h <;> omega))
  refine k_fn (rs := [2]) (args := [.pointer none]) Tryd.func14 rfl rfl rfl rfl ?_
  refine k_seq ?_
  refine k_region ?_
  refine k_assign rfl rfl ?_
  refine k_nil ?_
  refine k_seq ?_
  refine k_seq ?_
  refine k_region ?_
  refine k_move rfl rfl ?_
  obtain ⟨x1, hx1, h⟩ := ob h
  refine k_call cal18 rfl (disk_Disk_Down_nil_w   hx1) rfl ?_
  rintro s1 vr1 st1 rfl
  have szs1 := st1.size
  have hS : Step K0 s s1 := hS.trans0 st1
  refine k_nil ?_
  refine k_keep [(0, _), (2, _), (4, _)] ⟨rfl, rfl, rfl, trivial⟩ ?_
  refine k_cond rfl (fun c2 => ?_) (fun c2 => ?_)
  · -- T
    have h := ibT h c2
    refine k_seq ?_
    refine k_region ?_
    refine k_assign rfl rfl ?_
    refine k_nil ?_
    refine k_keep [(0, _), (2, _)] ⟨rfl, rfl, trivial⟩ ?_
    refine k_ret ?_
    obtain rfl := Option.some.inj h
    refine ⟨_, rfl, Ret.mk hS ?_⟩
    exact rfl
  · -- F
    have h := ibF h c2
    refine k_skip ?_
    refine k_seq ?_
    refine k_region ?_
    refine k_move rfl rfl ?_
    exact (noneNe h).elim

set_option maxHeartbeats 1000000 in
set_option maxRecDepth 100000 in
theorem disk_Disk_Capacity_nil_w {s : St}  {r : Int}  (h : disk_Disk_Capacity_nil = some r) : Calls Tryd.prog 33 #[.pointer none] s.w (Ret s K0 (fun s1 v => v = .int .i64 r)) := by
  unfold disk_Disk_Capacity_nil at h
  have hS : Step K0 s s := (Step.refl _).of0 (by first | exact fun _ h => h | (intro c h; simp [KC, KO, KU, KN, KB] at h <;> omega))
  refine k_fn (rs := [2]) (args := [.pointer none]) Tryd.func33 rfl rfl rfl rfl ?_
  refine k_seq ?_
  refine k_region ?_
  refine k_assign rfl rfl ?_
  refine k_nil ?_
  refine k_seq ?_
  refine k_seq ?_
  refine k_region ?_
  refine k_move rfl rfl ?_
  obtain ⟨x1, hx1, h⟩ := ob h
  obtain rfl := Option.some.inj (show some true = some x1 from hx1)
  refine k_call cal39 rfl (disk_Disk_none_nil_w   hx1) rfl ?_
  rintro s1 vr1 st1 rfl
  have szs1 := st1.size
  have hS : Step K0 s s1 := hS.trans0 st1
  refine k_nil ?_
  refine k_keep [(0, _), (2, _), (4, _)] ⟨rfl, rfl, rfl, trivial⟩ ?_
  refine k_cond_true rfl ?_
  refine k_seq ?_
  refine k_region ?_
  refine k_assign rfl rfl ?_
  refine k_nil ?_
  refine k_keep [(0, _), (2, _)] ⟨rfl, rfl, trivial⟩ ?_
  refine k_ret ?_
  obtain rfl := Option.some.inj h
  refine ⟨_, rfl, Ret.mk hS ?_⟩
  exact rfl

set_option maxHeartbeats 1000000 in
set_option maxRecDepth 100000 in
theorem disk_Disk_Copy_nil_w {s : St}  {r : (Option DiskDisk)}  (h : disk_Disk_Copy_nil = some r) : Calls Tryd.prog 24 #[.pointer none] s.w (Ret s K0 (fun s1 v => ∃ (ku0 : Nat), ∃ (u0 : Value), v = u0 ∧ s.n < ku0 ∧ OptODiskDisk s1 ku0 u0 r)) := by
  unfold disk_Disk_Copy_nil at h
  have hS : Step K0 s s := (Step.refl _).of0 (by first | exact fun _ h => h | (intro c h; simp [KC, KO, KU, KN, KB] at h <;> omega))
  refine k_fn (rs := [2]) (args := [.pointer none]) Tryd.func24 rfl rfl rfl rfl ?_
  refine k_seq ?_
  refine k_region ?_
  refine k_assign rfl rfl ?_
  refine k_nil ?_
  refine k_seq ?_
  refine k_seq ?_
  refine k_region ?_
  refine k_move rfl rfl ?_
  obtain ⟨x1, hx1, h⟩ := ob h
  obtain rfl := Option.some.inj (show some true = some x1 from hx1)
  refine k_call cal39 rfl (disk_Disk_none_nil_w   hx1) rfl ?_
  rintro s1 vr1 st1 rfl
  have szs1 := st1.size
  have hS : Step K0 s s1 := hS.trans0 st1
  refine k_nil ?_
  refine k_keep [(0, _), (2, _), (5, _)] ⟨rfl, rfl, rfl, trivial⟩ ?_
  refine k_cond_true rfl ?_
  refine k_seq ?_
  refine k_region ?_
  refine k_assign rfl rfl ?_
  refine k_nil ?_
  refine k_keep [(0, _), (2, _)] ⟨rfl, rfl, trivial⟩ ?_
  refine k_ret ?_
  obtain rfl := Option.some.inj h
  refine ⟨_, rfl, Ret.mk hS ?_⟩
  exact ⟨s1.n + 1, _, rfl, by omega, rfl⟩

set_option maxHeartbeats 1000000 in
set_option maxRecDepth 100000 in
theorem law05_DiskNobody_w {s : St} {l0 : Lab} {v0 : Value} {a0 : Law05Call} {r : Bool} (hp0 : SL s l0 v0 1 (a0.Bytes.map bD)) (h : law05_DiskNobody a0 = some r) : Calls Tryd.prog 9 #[.agg #[.int .i64 a0.Do, S a0.A, S a0.B, v0, .int .i64 a0.K, .int .i64 a0.N, .int .i64 a0.M]] s.w (Ret s K0 (fun s1 v => v = .bool r)) := by
  unfold law05_DiskNobody at h
  obtain ⟨lf0, lf0le, lf0ne, hp0⟩ := hp0.fix
  have hS : Step K0 s s := (Step.refl _).of0 (by first | exact fun _ h => h | (intro c h; simp [KC, KO, KU, KN, KB] at h <;> omega))
  refine k_fn (rs := [2]) (args := [.agg #[.int .i64 a0.Do, S a0.A, S a0.B, v0, .int .i64 a0.K, .int .i64 a0.N, .int .i64 a0.M]]) Tryd.func9 rfl rfl rfl rfl ?_
  refine k_seq ?_
  refine k_region ?_
  refine k_box rfl rfl ?_
  intro s1 b1 st1 h1 ge1
  have szs1 := st1.size
  have hS : Step K0 s s1 := hS.trans0 st1
  replace hp0 := hp0.up2 st1
  have lt1 := h1.lt
  refine k_assign rfl rfl ?_
  refine k_nil ?_
  refine k_keep [(1, _), (2, _)] ⟨rfl, rfl, trivial⟩ ?_
  refine k_seq ?_
  refine k_region ?_
  refine k_assign rfl rfl ?_
  refine k_nil ?_
  refine k_seq ?_
  refine k_region ?_
  refine k_move rfl rfl ?_
  refine k_build plc61 zero61 rfl Parts.nil (by rfl) rfl ?_
  refine k_as (v := .agg #[.int .i64 0, .bool false, .bool false, .slice none 0 0, .slice none 0 0, .int .i64 0, .int .i64 0, .int .i64 0]) rfl ?_
  refine k_box rfl rfl ?_
  intro s2 b2 st2 h2 ge2
  have szs2 := st2.size
  have hS : Step K0 s s2 := hS.trans0 st2
  replace hp0 := hp0.up2 st2
  replace h1 := h1.up2 st2
  have lt2 := h2.lt
  refine k_bslice_raw (vs := [.pointer none, .pointer (some ⟨b2, 0, none⟩)]) slc62 rfl rfl (List.forall_mem_cons.2 ⟨rfl, (List.forall_mem_cons.2 ⟨rfl, (fun _ h => nomatch h)⟩)⟩) rfl rfl ?_
  intro s3 b3 st3 ge3 bl3 h3
  have szs3 := st3.size
  have hS : Step K0 s s3 := hS.trans0 st3
  replace hp0 := hp0.up2 st3
  replace h1 := h1.up2 st3
  replace h2 := h2.up2 st3
  refine k_assign rfl rfl ?_
  refine k_nil ?_
  refine k_keep [(1, _), (2, _), (4, _)] ⟨rfl, rfl, rfl, trivial⟩ ?_
  refine k_seq ?_
  obtain ⟨kj1, hK4, h⟩ := jn_out h
  have hE4 : Step (KO (b2 + 1)) s3 s3 := (Step.refl _).of0 (by first | exact fun _ h => h | (intro c h; simp [KC, KO, KU, KN, KB] at h <;> omega))
  refine k_cutc (X := St × Int × Bool × Bool × (List (List DiskFile)) × Value × (List DiskCall) × Value × Int × Int × Int) [(2, .bool false)] (fun (xL : St × Int × Bool × Bool × (List (List DiskFile)) × Value × (List DiskCall) × Value × Int × Int × Int) => match xL with | (sl, x2, x3, x4, x5, v5, x6, v6, x7, x8, x9) => []) (fun (xL : St × Int × Bool × Bool × (List (List DiskFile)) × Value × (List DiskCall) × Value × Int × Int × Int) (wL : World) => match xL with | (sl, x2, x3, x4, x5, v5, x6, v6, x7, x8, x9) => sl.w = wL ∧ Step (KO (b2 + 1)) s3 sl ∧ (R sl v5 (.sl 1 (x5.map (dL 2 dDiskFile)))) ∧ (R sl v6 (.sl 1 (x6.map dDiskCall))) ∧ (Blk sl b2 ⟨b2 + 1, 0⟩ [.int .i64 x2, .bool x3, .bool x4, v5, v6, .int .i64 x7, .int .i64 x8, .int .i64 x9] 61) ∧ kj1 x2 x3 x4 x5 x6 x7 x8 x9 = some r) ?_ ?_
  · -- the ways
    refine k_seq ?_
    refine k_region ?_
    refine k_assign rfl rfl ?_
    refine k_nil ?_
    refine k_block ?_
    refine k_rounds 3 ?_
    refine k_round ?_
    refine k_seq ?_
    refine k_seq ?_
    refine k_region ?_
    refine k_move rfl rfl ?_
    refine k_move rfl rfl ?_
    refine k_len Tryd.underlying62 rfl ⟨_, _, rfl⟩ rfl ?_
    refine k_lss rfl rfl rfl ?_
    refine k_as (v := .bool true) rfl ?_
    refine k_nil ?_
    refine k_cond_true rfl ?_
    refine k_skip ?_
    refine k_seq ?_
    refine k_block ?_
    refine k_seq ?_
    refine k_region ?_
    refine k_move rfl rfl ?_
    refine k_move rfl rfl ?_
    refine k_ixaddr_raw (i := 0) Tryd.underlying62 size23 rfl rfl rfl rfl rfl ?_
    refine k_load_blk one23 rfl h3 rfl rfl ?_
    refine k_assign rfl rfl ?_
    refine k_nil ?_
    refine k_seq ?_
    refine k_region ?_
    refine k_assign rfl rfl ?_
    refine k_nil ?_
    refine k_seq ?_
    obtain ⟨kj10, hK7, h⟩ := jn_out h
    have hE7 : Step K0 s3 s3 := (Step.refl _).of0 (by first | exact fun _ h => h | (intro c h; simp [KC, KO, KU, KN, KB] at h <;> omega))
    refine k_cutc (X := St × Int × Int × Bool) [(1, .pointer (some ⟨b1, 0, none⟩)), (2, .bool false), (4, .slice (some ⟨b3, 0, none⟩) 2 2), (5, .int .i64 0), (6, .pointer none), (12, .int .i64 0), (13, .slice (some ⟨b3, 0, none⟩) 2 2), (14, .int .i64 2), (15, .bool true), (18, .slice (some ⟨b3, 0, none⟩) 2 2), (19, .int .i64 0), (20, .pointer (some ⟨b3, 0, none⟩)), (21, .pointer none), (22, .pointer (some ⟨b1, 0, none⟩))] (fun (xL : St × Int × Int × Bool) => match xL with | (sl, x11, x12, x13) => [(7, .int .i64 x11), (23, .int .i64 x12), (24, .bool x13)]) (fun (xL : St × Int × Int × Bool) (wL : World) => match xL with | (sl, x11, x12, x13) => sl.w = wL ∧ Step K0 s3 sl ∧ kj10 x11 x12 x13 = some r) ?_ ?_
    · -- the ways
      refine k_seq ?_
      refine k_region ?_
      refine k_field_addr fld31_0 rfl rfl ?_
      refine k_load_blk one3 rfl h1 rfl rfl ?_
      refine k_eql rfl rfl rfl ?_
      refine k_nil ?_
      refine k_cond_dec rfl (fun c8 => ?_) (fun c8 => ?_)
      · -- T
        have h := itT h c8
        refine k_region ?_
        refine k_assign rfl rfl ?_
        refine k_nil ?_
        exact k_stop ⟨(s3, 1, a0.Do, decide (a0.Do = 6)), ⟨(by first | rfl | (simp <;> rfl)), (by first | rfl | (simp <;> rfl)), (by first | rfl | (simp <;> rfl)), trivial⟩, ⟨rfl, rfl, rfl, rfl, rfl, rfl, rfl, rfl, rfl, rfl, rfl, rfl, rfl, rfl, trivial⟩, ⟨rfl, hE7, h⟩⟩
      · -- F
        have h := itF h c8
        refine k_skip ?_
        exact k_stop ⟨(s3, 12, a0.Do, decide (a0.Do = 6)), ⟨(by first | rfl | (simp <;> rfl)), (by first | rfl | (simp <;> rfl)), (by first | rfl | (simp <;> rfl)), trivial⟩, ⟨rfl, rfl, rfl, rfl, rfl, rfl, rfl, rfl, rfl, rfl, rfl, rfl, rfl, rfl, trivial⟩, ⟨rfl, hE7, h⟩⟩
    · -- behind
      rintro ⟨s9, x11, x12, x13⟩ wL ⟨rfl, hE7, h⟩
      rw [hK7] at h
      have szs9 := hE7.size
      have hS : Step K0 s s9 := hS.trans0 hE7
      have hE4 : Step (KO (b2 + 1)) s3 s9 := hE4.trans0 hE7
      replace hp0 := hp0.up2 hE7
      replace h1 := h1.up2 hE7
      replace h2 := h2.up2 hE7
      replace h3 := h3.up2 hE7
      refine k_seq ?_
      refine k_region ?_
      refine k_move rfl rfl ?_
      refine k_load_blka (cs := [.int .i64 a0.Do, S a0.A, S a0.B, v0, .int .i64 a0.K, .int .i64 a0.N, .int .i64 a0.M]) agg31 rfl h1 rfl ?_
      obtain ⟨x14, hx14, h⟩ := ob h
      refine k_call cal15 rfl (law05_call_nil_w (a1 := a0) hp0 hx14) rfl ?_
      rintro s10 vr10 st10 rfl
      have szs10 := st10.size
      have hS : Step K0 s s10 := hS.trans0 st10
      have hE4 : Step (KO (b2 + 1)) s3 s10 := hE4.trans0 st10
      replace hp0 := hp0.up2 st10
      replace h1 := h1.up2 st10
      replace h2 := h2.up2 st10
      replace h3 := h3.up2 st10
      refine k_move rfl rfl ?_
      refine k_neq rfl rfl rfl ?_
      refine k_move rfl rfl ?_
      obtain ⟨x15, hx15, h⟩ := ob h
      have hE11 : Step K0 s10 s10 := (Step.refl _).of0 (by first | exact fun _ h => h | (intro c h; simp [KC, KO, KU, KN, KB] at h <;> omega))
      refine k_cutl (X := St) 4 [(1, .pointer (some ⟨b1, 0, none⟩)), (2, .bool false), (4, .slice (some ⟨b3, 0, none⟩) 2 2), (5, .int .i64 0), (6, .pointer none), (7, .int .i64 x11), (12, .int .i64 0), (13, .slice (some ⟨b3, 0, none⟩) 2 2), (14, .int .i64 2), (15, .bool true), (18, .slice (some ⟨b3, 0, none⟩) 2 2), (19, .int .i64 0), (20, .pointer (some ⟨b3, 0, none⟩)), (21, .pointer none), (22, .pointer (some ⟨b1, 0, none⟩)), (23, .int .i64 x12), (24, .bool x13), (25, .pointer none), (26, .agg #[.int .i64 a0.Do, S a0.A, S a0.B, v0, .int .i64 a0.K, .int .i64 a0.N, .int .i64 a0.M]), (27, .int .i64 x14), (28, .int .i64 x11), (29, .bool (decide (x14 ≠ x11)))] (fun _ => [(34, .bool x15)]) (fun sl wL => sl.w = wL ∧ Step K0 s10 sl) ?_ ?_
      · -- the ways
        refine k_again 30 rfl ?_
        refine k_split (fun c12 => ?_) (fun c12 => ?_)
        · -- t30 True
          have hx15 := itT hx15 c12
          refine k_no rfl rfl rfl rfl ?_
          refine k_no rfl rfl rfl rfl ?_
          refine k_no rfl rfl rfl rfl ?_
          refine k_pickT rfl rfl rfl rfl ?_
          exact k_met ⟨s10, ⟨(congrArg (fun b => some (Value.bool b)) (Option.some.inj hx15)), trivial⟩, ⟨rfl, rfl, rfl, rfl, rfl, rfl, rfl, rfl, rfl, rfl, rfl, rfl, rfl, rfl, rfl, rfl, rfl, rfl, rfl, rfl, rfl, rfl, trivial⟩, rfl, hE11⟩
        · -- t30 False
          have hx15 := itF hx15 c12
          refine k_yes rfl rfl ?_
          refine k_move rfl rfl ?_
          refine k_yes rfl rfl ?_
          obtain ⟨x16, hx16, hx15⟩ := ob hx15
          refine k_call cal18 rfl (disk_Disk_Down_nil_w   hx16) rfl ?_
          rintro s13 vr13 st13 rfl
          have szs13 := st13.size
          have hS : Step K0 s s13 := hS.trans0 st13
          have hE4 : Step (KO (b2 + 1)) s3 s13 := hE4.trans0 st13
          have hE11 : Step K0 s10 s13 := hE11.trans0 st13
          refine k_yes rfl rfl ?_
          refine k_not rfl rfl ?_
          refine k_pickF rfl rfl rfl rfl ?_
          exact k_met ⟨s13, ⟨(congrArg (fun b => some (Value.bool b)) (Option.some.inj hx15)), trivial⟩, ⟨rfl, rfl, rfl, rfl, rfl, rfl, rfl, rfl, rfl, rfl, rfl, rfl, rfl, rfl, rfl, rfl, rfl, rfl, rfl, rfl, rfl, rfl, trivial⟩, rfl, hE11⟩
      · -- behind
        rintro s14 wL ⟨rfl, hE11⟩
        have szs14 := hE11.size
        have hS : Step K0 s s14 := hS.trans0 hE11
        have hE4 : Step (KO (b2 + 1)) s3 s14 := hE4.trans0 hE11
        replace hp0 := hp0.up2 hE11
        replace h1 := h1.up2 hE11
        replace h2 := h2.up2 hE11
        replace h3 := h3.up2 hE11
        refine k_move rfl rfl ?_
        obtain ⟨x17, hx17, h⟩ := ob h
        have hE15 : Step K0 s14 s14 := (Step.refl _).of0 (by first | exact fun _ h => h | (intro c h; simp [KC, KO, KU, KN, KB] at h <;> omega))
        refine k_cutl (X := St) 5 [(1, .pointer (some ⟨b1, 0, none⟩)), (2, .bool false), (4, .slice (some ⟨b3, 0, none⟩) 2 2), (5, .int .i64 0), (6, .pointer none), (7, .int .i64 x11), (12, .int .i64 0), (13, .slice (some ⟨b3, 0, none⟩) 2 2), (14, .int .i64 2), (15, .bool true), (18, .slice (some ⟨b3, 0, none⟩) 2 2), (19, .int .i64 0), (20, .pointer (some ⟨b3, 0, none⟩)), (21, .pointer none), (22, .pointer (some ⟨b1, 0, none⟩)), (23, .int .i64 x12), (24, .bool x13), (25, .pointer none), (26, .agg #[.int .i64 a0.Do, S a0.A, S a0.B, v0, .int .i64 a0.K, .int .i64 a0.N, .int .i64 a0.M]), (27, .int .i64 x14), (28, .int .i64 x11), (29, .bool (decide (x14 ≠ x11))), (34, .bool x15)] (fun _ => [(40, .bool x17)]) (fun sl wL => sl.w = wL ∧ Step K0 s14 sl) ?_ ?_
        · -- the ways
          refine k_again 35 rfl ?_
          refine k_splitb (fun c16 => ?_) (fun c16 => ?_)
          · -- t35 True
            have hx17 := ibT hx17 c16
            refine k_no rfl rfl rfl rfl ?_
            refine k_no rfl rfl rfl rfl ?_
            refine k_no rfl rfl rfl rfl ?_
            refine k_no rfl rfl rfl rfl ?_
            refine k_pickT rfl rfl rfl rfl ?_
            exact k_met ⟨s14, ⟨(congrArg (fun b => some (Value.bool b)) (Option.some.inj hx17)), trivial⟩, ⟨rfl, rfl, rfl, rfl, rfl, rfl, rfl, rfl, rfl, rfl, rfl, rfl, rfl, rfl, rfl, rfl, rfl, rfl, rfl, rfl, rfl, rfl, rfl, trivial⟩, rfl, hE15⟩
          · -- t35 False
            have hx17 := ibF hx17 c16
            refine k_yes rfl rfl ?_
            refine k_move rfl rfl ?_
            refine k_yes rfl rfl ?_
            obtain ⟨x18, hx18, hx17⟩ := ob hx17
            refine k_call cal26 rfl (disk_Disk_Names_nil_w   hx18) rfl ?_
            rintro s17 v17_0 st17 ⟨_, rfl, h17_0⟩
            have szs17 := st17.size
            have hS : Step K0 s s17 := hS.trans0 st17
            have hE4 : Step (KO (b2 + 1)) s3 s17 := hE4.trans0 st17
            have hE15 : Step K0 s14 s17 := hE15.trans0 st17
            refine k_yes rfl rfl ?_
            refine k_len Tryd.underlying46 rfl (SL.of_R h17_0).hasLen rfl ?_
            refine k_as (v := .int .i64 (x18.length : Int)) (by simp only [List.length_map]) ?_
            refine k_yes rfl rfl ?_
            refine k_neq rfl rfl rfl ?_
            refine k_pickF rfl rfl rfl rfl ?_
            exact k_met ⟨s17, ⟨(congrArg (fun b => some (Value.bool b)) (Option.some.inj hx17)), trivial⟩, ⟨rfl, rfl, rfl, rfl, rfl, rfl, rfl, rfl, rfl, rfl, rfl, rfl, rfl, rfl, rfl, rfl, rfl, rfl, rfl, rfl, rfl, rfl, rfl, trivial⟩, rfl, hE15⟩
        · -- behind
          rintro s18 wL ⟨rfl, hE15⟩
          have szs18 := hE15.size
          have hS : Step K0 s s18 := hS.trans0 hE15
          have hE4 : Step (KO (b2 + 1)) s3 s18 := hE4.trans0 hE15
          replace hp0 := hp0.up2 hE15
          replace h1 := h1.up2 hE15
          replace h2 := h2.up2 hE15
          replace h3 := h3.up2 hE15
          refine k_move rfl rfl ?_
          obtain ⟨x19, hx19, h⟩ := ob h
          have hE19 : Step K0 s18 s18 := (Step.refl _).of0 (by first | exact fun _ h => h | (intro c h; simp [KC, KO, KU, KN, KB] at h <;> omega))
          refine k_cutl (X := St) 4 [(1, .pointer (some ⟨b1, 0, none⟩)), (2, .bool false), (4, .slice (some ⟨b3, 0, none⟩) 2 2), (5, .int .i64 0), (6, .pointer none), (7, .int .i64 x11), (12, .int .i64 0), (13, .slice (some ⟨b3, 0, none⟩) 2 2), (14, .int .i64 2), (15, .bool true), (18, .slice (some ⟨b3, 0, none⟩) 2 2), (19, .int .i64 0), (20, .pointer (some ⟨b3, 0, none⟩)), (21, .pointer none), (22, .pointer (some ⟨b1, 0, none⟩)), (23, .int .i64 x12), (24, .bool x13), (25, .pointer none), (26, .agg #[.int .i64 a0.Do, S a0.A, S a0.B, v0, .int .i64 a0.K, .int .i64 a0.N, .int .i64 a0.M]), (27, .int .i64 x14), (28, .int .i64 x11), (29, .bool (decide (x14 ≠ x11))), (34, .bool x15), (40, .bool x17)] (fun _ => [(45, .bool x19)]) (fun sl wL => sl.w = wL ∧ Step K0 s18 sl) ?_ ?_
          · -- the ways
            refine k_again 41 rfl ?_
            refine k_splitb (fun c20 => ?_) (fun c20 => ?_)
            · -- t41 True
              have hx19 := ibT hx19 c20
              refine k_no rfl rfl rfl rfl ?_
              refine k_no rfl rfl rfl rfl ?_
              refine k_no rfl rfl rfl rfl ?_
              refine k_pickT rfl rfl rfl rfl ?_
              exact k_met ⟨s18, ⟨(congrArg (fun b => some (Value.bool b)) (Option.some.inj hx19)), trivial⟩, ⟨rfl, rfl, rfl, rfl, rfl, rfl, rfl, rfl, rfl, rfl, rfl, rfl, rfl, rfl, rfl, rfl, rfl, rfl, rfl, rfl, rfl, rfl, rfl, rfl, trivial⟩, rfl, hE19⟩
            · -- t41 False
              have hx19 := ibF hx19 c20
              refine k_yes rfl rfl ?_
              refine k_move rfl rfl ?_
              refine k_yes rfl rfl ?_
              obtain ⟨x20, hx20, hx19⟩ := ob hx19
              refine k_call cal28 rfl (disk_Disk_Bytes_nil_w   hx20) rfl ?_
              rintro s21 vr21 st21 rfl
              have szs21 := st21.size
              have hS : Step K0 s s21 := hS.trans0 st21
              have hE4 : Step (KO (b2 + 1)) s3 s21 := hE4.trans0 st21
              have hE19 : Step K0 s18 s21 := hE19.trans0 st21
              refine k_yes rfl rfl ?_
              refine k_neq rfl rfl rfl ?_
              refine k_pickF rfl rfl rfl rfl ?_
              exact k_met ⟨s21, ⟨(congrArg (fun b => some (Value.bool b)) (Option.some.inj hx19)), trivial⟩, ⟨rfl, rfl, rfl, rfl, rfl, rfl, rfl, rfl, rfl, rfl, rfl, rfl, rfl, rfl, rfl, rfl, rfl, rfl, rfl, rfl, rfl, rfl, rfl, rfl, trivial⟩, rfl, hE19⟩
          · -- behind
            rintro s22 wL ⟨rfl, hE19⟩
            have szs22 := hE19.size
            have hS : Step K0 s s22 := hS.trans0 hE19
            have hE4 : Step (KO (b2 + 1)) s3 s22 := hE4.trans0 hE19
            replace hp0 := hp0.up2 hE19
            replace h1 := h1.up2 hE19
            replace h2 := h2.up2 hE19
            replace h3 := h3.up2 hE19
            refine k_move rfl rfl ?_
            obtain ⟨x21, hx21, h⟩ := ob h
            have hE23 : Step K0 s22 s22 := (Step.refl _).of0 (by first | exact fun _ h => h | (intro c h; simp [KC, KO, KU, KN, KB] at h <;> omega))
            refine k_cutl (X := St) 6 [(1, .pointer (some ⟨b1, 0, none⟩)), (2, .bool false), (4, .slice (some ⟨b3, 0, none⟩) 2 2), (5, .int .i64 0), (6, .pointer none), (7, .int .i64 x11), (12, .int .i64 0), (13, .slice (some ⟨b3, 0, none⟩) 2 2), (14, .int .i64 2), (15, .bool true), (18, .slice (some ⟨b3, 0, none⟩) 2 2), (19, .int .i64 0), (20, .pointer (some ⟨b3, 0, none⟩)), (21, .pointer none), (22, .pointer (some ⟨b1, 0, none⟩)), (23, .int .i64 x12), (24, .bool x13), (25, .pointer none), (26, .agg #[.int .i64 a0.Do, S a0.A, S a0.B, v0, .int .i64 a0.K, .int .i64 a0.N, .int .i64 a0.M]), (27, .int .i64 x14), (28, .int .i64 x11), (29, .bool (decide (x14 ≠ x11))), (34, .bool x15), (40, .bool x17), (45, .bool x19)] (fun _ => [(52, .bool x21)]) (fun sl wL => sl.w = wL ∧ Step K0 s22 sl) ?_ ?_
            · -- the ways
              refine k_again 46 rfl ?_
              refine k_splitb (fun c24 => ?_) (fun c24 => ?_)
              · -- t46 True
                have hx21 := ibT hx21 c24
                refine k_no rfl rfl rfl rfl ?_
                refine k_no rfl rfl rfl rfl ?_
                refine k_no rfl rfl rfl rfl ?_
                refine k_no rfl rfl rfl rfl ?_
                refine k_no rfl rfl rfl rfl ?_
                refine k_pickT rfl rfl rfl rfl ?_
                exact k_met ⟨s22, ⟨(congrArg (fun b => some (Value.bool b)) (Option.some.inj hx21)), trivial⟩, ⟨rfl, rfl, rfl, rfl, rfl, rfl, rfl, rfl, rfl, rfl, rfl, rfl, rfl, rfl, rfl, rfl, rfl, rfl, rfl, rfl, rfl, rfl, rfl, rfl, rfl, trivial⟩, rfl, hE23⟩
              · -- t46 False
                have hx21 := ibF hx21 c24
                refine k_yes rfl rfl ?_
                refine k_move rfl rfl ?_
                refine k_yes rfl rfl ?_
                refine k_field_addr fld31_1 rfl rfl ?_
                refine k_yes rfl rfl ?_
                refine k_load_blk one9 rfl h1 rfl rfl ?_
                refine k_yes rfl rfl ?_
                obtain ⟨x22, hx22, hx21⟩ := ob hx21
                refine k_call cal30 rfl (disk_Disk_Size_nil_w   hx22) rfl ?_
                rintro s25 vr25 st25 rfl
                have szs25 := st25.size
                have hS : Step K0 s s25 := hS.trans0 st25
                have hE4 : Step (KO (b2 + 1)) s3 s25 := hE4.trans0 st25
                have hE23 : Step K0 s22 s25 := hE23.trans0 st25
                refine k_yes rfl rfl ?_
                refine k_neq rfl rfl rfl ?_
                refine k_pickF rfl rfl rfl rfl ?_
                exact k_met ⟨s25, ⟨(congrArg (fun b => some (Value.bool b)) (Option.some.inj hx21)), trivial⟩, ⟨rfl, rfl, rfl, rfl, rfl, rfl, rfl, rfl, rfl, rfl, rfl, rfl, rfl, rfl, rfl, rfl, rfl, rfl, rfl, rfl, rfl, rfl, rfl, rfl, rfl, trivial⟩, rfl, hE23⟩
            · -- behind
              rintro s26 wL ⟨rfl, hE23⟩
              have szs26 := hE23.size
              have hS : Step K0 s s26 := hS.trans0 hE23
              have hE4 : Step (KO (b2 + 1)) s3 s26 := hE4.trans0 hE23
              replace hp0 := hp0.up2 hE23
              replace h1 := h1.up2 hE23
              replace h2 := h2.up2 hE23
              replace h3 := h3.up2 hE23
              refine k_move rfl rfl ?_
              obtain ⟨x23, hx23, h⟩ := ob h
              have hE27 : Step K0 s26 s26 := (Step.refl _).of0 (by first | exact fun _ h => h | (intro c h; simp [KC, KO, KU, KN, KB] at h <;> omega))
              refine k_cutl (X := St) 4 [(1, .pointer (some ⟨b1, 0, none⟩)), (2, .bool false), (4, .slice (some ⟨b3, 0, none⟩) 2 2), (5, .int .i64 0), (6, .pointer none), (7, .int .i64 x11), (12, .int .i64 0), (13, .slice (some ⟨b3, 0, none⟩) 2 2), (14, .int .i64 2), (15, .bool true), (18, .slice (some ⟨b3, 0, none⟩) 2 2), (19, .int .i64 0), (20, .pointer (some ⟨b3, 0, none⟩)), (21, .pointer none), (22, .pointer (some ⟨b1, 0, none⟩)), (23, .int .i64 x12), (24, .bool x13), (25, .pointer none), (26, .agg #[.int .i64 a0.Do, S a0.A, S a0.B, v0, .int .i64 a0.K, .int .i64 a0.N, .int .i64 a0.M]), (27, .int .i64 x14), (28, .int .i64 x11), (29, .bool (decide (x14 ≠ x11))), (34, .bool x15), (40, .bool x17), (45, .bool x19), (52, .bool x21)] (fun _ => [(57, .bool x23)]) (fun sl wL => sl.w = wL ∧ Step K0 s26 sl) ?_ ?_
              · -- the ways
                refine k_again 53 rfl ?_
                refine k_splitb (fun c28 => ?_) (fun c28 => ?_)
                · -- t53 True
                  have hx23 := ibT hx23 c28
                  refine k_no rfl rfl rfl rfl ?_
                  refine k_no rfl rfl rfl rfl ?_
                  refine k_no rfl rfl rfl rfl ?_
                  refine k_pickT rfl rfl rfl rfl ?_
                  exact k_met ⟨s26, ⟨(congrArg (fun b => some (Value.bool b)) (Option.some.inj hx23)), trivial⟩, ⟨rfl, rfl, rfl, rfl, rfl, rfl, rfl, rfl, rfl, rfl, rfl, rfl, rfl, rfl, rfl, rfl, rfl, rfl, rfl, rfl, rfl, rfl, rfl, rfl, rfl, rfl, trivial⟩, rfl, hE27⟩
                · -- t53 False
                  have hx23 := ibF hx23 c28
                  refine k_yes rfl rfl ?_
                  refine k_move rfl rfl ?_
                  refine k_yes rfl rfl ?_
                  obtain ⟨x24, hx24, hx23⟩ := ob hx23
                  refine k_call cal14 rfl (disk_Disk_Waits_nil_w   hx24) rfl ?_
                  rintro s29 vr29 st29 rfl
                  have szs29 := st29.size
                  have hS : Step K0 s s29 := hS.trans0 st29
                  have hE4 : Step (KO (b2 + 1)) s3 s29 := hE4.trans0 st29
                  have hE27 : Step K0 s26 s29 := hE27.trans0 st29
                  refine k_yes rfl rfl ?_
                  refine k_neq rfl rfl rfl ?_
                  refine k_pickF rfl rfl rfl rfl ?_
                  exact k_met ⟨s29, ⟨(congrArg (fun b => some (Value.bool b)) (Option.some.inj hx23)), trivial⟩, ⟨rfl, rfl, rfl, rfl, rfl, rfl, rfl, rfl, rfl, rfl, rfl, rfl, rfl, rfl, rfl, rfl, rfl, rfl, rfl, rfl, rfl, rfl, rfl, rfl, rfl, rfl, trivial⟩, rfl, hE27⟩
              · -- behind
                rintro s30 wL ⟨rfl, hE27⟩
                have szs30 := hE27.size
                have hS : Step K0 s s30 := hS.trans0 hE27
                have hE4 : Step (KO (b2 + 1)) s3 s30 := hE4.trans0 hE27
                replace hp0 := hp0.up2 hE27
                replace h1 := h1.up2 hE27
                replace h2 := h2.up2 hE27
                replace h3 := h3.up2 hE27
                refine k_move rfl rfl ?_
                obtain ⟨x25, hx25, h⟩ := ob h
                have hE31 : Step K0 s30 s30 := (Step.refl _).of0 (by first | exact fun _ h => h | (intro c h; simp [KC, KO, KU, KN, KB] at h <;> omega))
                refine k_cutl (X := St) 4 [(1, .pointer (some ⟨b1, 0, none⟩)), (2, .bool false), (4, .slice (some ⟨b3, 0, none⟩) 2 2), (5, .int .i64 0), (6, .pointer none), (7, .int .i64 x11), (12, .int .i64 0), (13, .slice (some ⟨b3, 0, none⟩) 2 2), (14, .int .i64 2), (15, .bool true), (18, .slice (some ⟨b3, 0, none⟩) 2 2), (19, .int .i64 0), (20, .pointer (some ⟨b3, 0, none⟩)), (21, .pointer none), (22, .pointer (some ⟨b1, 0, none⟩)), (23, .int .i64 x12), (24, .bool x13), (25, .pointer none), (26, .agg #[.int .i64 a0.Do, S a0.A, S a0.B, v0, .int .i64 a0.K, .int .i64 a0.N, .int .i64 a0.M]), (27, .int .i64 x14), (28, .int .i64 x11), (29, .bool (decide (x14 ≠ x11))), (34, .bool x15), (40, .bool x17), (45, .bool x19), (52, .bool x21), (57, .bool x23)] (fun _ => [(62, .bool x25)]) (fun sl wL => sl.w = wL ∧ Step K0 s30 sl) ?_ ?_
                · -- the ways
                  refine k_again 58 rfl ?_
                  refine k_splitb (fun c32 => ?_) (fun c32 => ?_)
                  · -- t58 True
                    have hx25 := ibT hx25 c32
                    refine k_no rfl rfl rfl rfl ?_
                    refine k_no rfl rfl rfl rfl ?_
                    refine k_no rfl rfl rfl rfl ?_
                    refine k_pickT rfl rfl rfl rfl ?_
                    exact k_met ⟨s30, ⟨(congrArg (fun b => some (Value.bool b)) (Option.some.inj hx25)), trivial⟩, ⟨rfl, rfl, rfl, rfl, rfl, rfl, rfl, rfl, rfl, rfl, rfl, rfl, rfl, rfl, rfl, rfl, rfl, rfl, rfl, rfl, rfl, rfl, rfl, rfl, rfl, rfl, rfl, trivial⟩, rfl, hE31⟩
                  · -- t58 False
                    have hx25 := ibF hx25 c32
                    refine k_yes rfl rfl ?_
                    refine k_move rfl rfl ?_
                    refine k_yes rfl rfl ?_
                    obtain ⟨x26, hx26, hx25⟩ := ob hx25
                    refine k_call cal33 rfl (disk_Disk_Capacity_nil_w   hx26) rfl ?_
                    rintro s33 vr33 st33 rfl
                    have szs33 := st33.size
                    have hS : Step K0 s s33 := hS.trans0 st33
                    have hE4 : Step (KO (b2 + 1)) s3 s33 := hE4.trans0 st33
                    have hE31 : Step K0 s30 s33 := hE31.trans0 st33
                    refine k_yes rfl rfl ?_
                    refine k_neq rfl rfl rfl ?_
                    refine k_pickF rfl rfl rfl rfl ?_
                    exact k_met ⟨s33, ⟨(congrArg (fun b => some (Value.bool b)) (Option.some.inj hx25)), trivial⟩, ⟨rfl, rfl, rfl, rfl, rfl, rfl, rfl, rfl, rfl, rfl, rfl, rfl, rfl, rfl, rfl, rfl, rfl, rfl, rfl, rfl, rfl, rfl, rfl, rfl, rfl, rfl, rfl, trivial⟩, rfl, hE31⟩
                · -- behind
                  rintro s34 wL ⟨rfl, hE31⟩
                  have szs34 := hE31.size
                  have hS : Step K0 s s34 := hS.trans0 hE31
                  have hE4 : Step (KO (b2 + 1)) s3 s34 := hE4.trans0 hE31
                  replace hp0 := hp0.up2 hE31
                  replace h1 := h1.up2 hE31
                  replace h2 := h2.up2 hE31
                  replace h3 := h3.up2 hE31
                  refine k_move rfl rfl ?_
                  obtain ⟨x27, hx27, h⟩ := ob h
                  have hE35 : Step K0 s34 s34 := (Step.refl _).of0 (by first | exact fun _ h => h | (intro c h; simp [KC, KO, KU, KN, KB] at h <;> omega))
                  refine k_cutl (X := St) 4 [(1, .pointer (some ⟨b1, 0, none⟩)), (2, .bool false), (4, .slice (some ⟨b3, 0, none⟩) 2 2), (5, .int .i64 0), (6, .pointer none), (7, .int .i64 x11), (12, .int .i64 0), (13, .slice (some ⟨b3, 0, none⟩) 2 2), (14, .int .i64 2), (15, .bool true), (18, .slice (some ⟨b3, 0, none⟩) 2 2), (19, .int .i64 0), (20, .pointer (some ⟨b3, 0, none⟩)), (21, .pointer none), (22, .pointer (some ⟨b1, 0, none⟩)), (23, .int .i64 x12), (24, .bool x13), (25, .pointer none), (26, .agg #[.int .i64 a0.Do, S a0.A, S a0.B, v0, .int .i64 a0.K, .int .i64 a0.N, .int .i64 a0.M]), (27, .int .i64 x14), (28, .int .i64 x11), (29, .bool (decide (x14 ≠ x11))), (34, .bool x15), (40, .bool x17), (45, .bool x19), (52, .bool x21), (57, .bool x23), (62, .bool x25)] (fun _ => [(67, .bool x27)]) (fun sl wL => sl.w = wL ∧ Step K0 s34 sl) ?_ ?_
                  · -- the ways
                    refine k_again 63 rfl ?_
                    refine k_splitb (fun c36 => ?_) (fun c36 => ?_)
                    · -- t63 True
                      have hx27 := ibT hx27 c36
                      refine k_no rfl rfl rfl rfl ?_
                      refine k_no rfl rfl rfl rfl ?_
                      refine k_no rfl rfl rfl rfl ?_
                      refine k_pickT rfl rfl rfl rfl ?_
                      exact k_met ⟨s34, ⟨(congrArg (fun b => some (Value.bool b)) (Option.some.inj hx27)), trivial⟩, ⟨rfl, rfl, rfl, rfl, rfl, rfl, rfl, rfl, rfl, rfl, rfl, rfl, rfl, rfl, rfl, rfl, rfl, rfl, rfl, rfl, rfl, rfl, rfl, rfl, rfl, rfl, rfl, rfl, trivial⟩, rfl, hE35⟩
                    · -- t63 False
                      have hx27 := ibF hx27 c36
                      refine k_yes rfl rfl ?_
                      refine k_move rfl rfl ?_
                      refine k_yes rfl rfl ?_
                      obtain ⟨x28, hx28, hx27⟩ := ob hx27
                      refine k_call cal24 rfl (disk_Disk_Copy_nil_w   hx28) rfl ?_
                      rintro s37 v37_0 st37 ⟨ku37_0, _, rfl, hk37_0, h37_0⟩
                      have szs37 := st37.size
                      have hS : Step K0 s s37 := hS.trans0 st37
                      have hE4 : Step (KO (b2 + 1)) s3 s37 := hE4.trans0 st37
                      have hE35 : Step K0 s34 s37 := hE35.trans0 st37
                      have ol37_0 := OptODiskDisk.le (k := ku37_0) h37_0
                      rcases oc_out hx27 with ⟨ho_38, hx27⟩ | ⟨x29, ho_38, hx27⟩
                      · -- nil
                        rw [ho_38] at h37_0
                        obtain rfl : v37_0 = .pointer none := h37_0
                        refine k_yes rfl rfl ?_
                        refine k_neq_pnil Tryd.underlying23 rfl rfl rfl ?_
                        refine k_pickF rfl rfl rfl rfl ?_
                        exact k_met ⟨s37, ⟨(congrArg (fun b => some (Value.bool b)) (Option.some.inj hx27)), trivial⟩, ⟨rfl, rfl, rfl, rfl, rfl, rfl, rfl, rfl, rfl, rfl, rfl, rfl, rfl, rfl, rfl, rfl, rfl, rfl, rfl, rfl, rfl, rfl, rfl, rfl, rfl, rfl, rfl, rfl, trivial⟩, rfl, hE35⟩
                      · -- some
                        rw [ho_38] at h37_0
                        replace h37_0 : ODiskDisk s37 ku37_0 v37_0 x29 := h37_0
                        replace ol37_0 := ol37_0.resolve_left (fun e => by rw [e] at ho_38; cases ho_38)
                        have le38 := h37_0.le
                        have ne38 := h37_0.ne
                        refine k_yes rfl rfl ?_
                        obtain ⟨pb39, rfl⟩ := h37_0.ptr
                        refine k_neq_pnil Tryd.underlying23 rfl rfl rfl ?_
                        refine k_pickF rfl rfl rfl rfl ?_
                        exact k_met ⟨s37, ⟨(congrArg (fun b => some (Value.bool b)) (Option.some.inj hx27)), trivial⟩, ⟨rfl, rfl, rfl, rfl, rfl, rfl, rfl, rfl, rfl, rfl, rfl, rfl, rfl, rfl, rfl, rfl, rfl, rfl, rfl, rfl, rfl, rfl, rfl, rfl, rfl, rfl, rfl, rfl, trivial⟩, rfl, hE35⟩
                  · -- behind
                    rintro s40 wL ⟨rfl, hE35⟩
                    have szs40 := hE35.size
                    have hS : Step K0 s s40 := hS.trans0 hE35
                    have hE4 : Step (KO (b2 + 1)) s3 s40 := hE4.trans0 hE35
                    replace hp0 := hp0.up2 hE35
                    replace h1 := h1.up2 hE35
                    replace h2 := h2.up2 hE35
                    replace h3 := h3.up2 hE35
                    refine k_nil ?_
                    refine k_cond rfl (fun c41 => ?_) (fun c41 => ?_)
                    · -- T
                      have h := ibT h c41
                      refine k_seq ?_
                      refine k_region ?_
                      refine k_assign rfl rfl ?_
                      refine k_nil ?_
                      refine k_ret ?_
                      obtain rfl := Option.some.inj h
                      refine ⟨_, rfl, Ret.mk hS ?_⟩
                      exact rfl
                    · -- F
                      have h := ibF h c41
                      refine k_skip ?_
                      refine k_blk ?_
                      refine k_region ?_
                      refine k_move rfl rfl ?_
                      refine k_add rfl rfl rfl ?_
                      refine k_as (v := .int .i64 1) (by first | rfl | decide) ?_
                      refine k_assign rfl rfl ?_
                      refine k_nil ?_
                      refine k_stopr ?_
                      refine k_round ?_
                      refine k_seq ?_
                      refine k_seq ?_
                      refine k_region ?_
                      refine k_move rfl rfl ?_
                      refine k_move rfl rfl ?_
                      refine k_len Tryd.underlying62 rfl ⟨_, _, rfl⟩ rfl ?_
                      refine k_lss rfl rfl rfl ?_
                      refine k_as (v := .bool true) rfl ?_
                      refine k_nil ?_
                      refine k_cond_true rfl ?_
                      refine k_skip ?_
                      refine k_seq ?_
                      refine k_block ?_
                      refine k_seq ?_
                      refine k_region ?_
                      refine k_move rfl rfl ?_
                      refine k_move rfl rfl ?_
                      refine k_ixaddr_raw (i := 1) Tryd.underlying62 size23 rfl rfl rfl rfl rfl ?_
                      refine k_load_blk one23 rfl h3 rfl rfl ?_
                      refine k_assign rfl rfl ?_
                      refine k_nil ?_
                      refine k_seq ?_
                      refine k_region ?_
                      refine k_assign rfl rfl ?_
                      refine k_nil ?_
                      refine k_seq ?_
                      obtain ⟨kj30, hK42, h⟩ := jn_out h
                      have hE42 : Step K0 s40 s40 := (Step.refl _).of0 (by first | exact fun _ h => h | (intro c h; simp [KC, KO, KU, KN, KB] at h <;> omega))
                      refine k_cutc (X := St × Int × Int × Bool) [(1, .pointer (some ⟨b1, 0, none⟩)), (2, .bool false), (4, .slice (some ⟨b3, 0, none⟩) 2 2), (5, .int .i64 1), (6, .pointer (some ⟨b2, 0, none⟩)), (12, .int .i64 1), (13, .slice (some ⟨b3, 0, none⟩) 2 2), (14, .int .i64 2), (15, .bool true), (16, .int .i64 0), (17, .int .i64 1), (18, .slice (some ⟨b3, 0, none⟩) 2 2), (19, .int .i64 1), (20, .pointer (some ⟨b3, 1, none⟩)), (21, .pointer (some ⟨b2, 0, none⟩)), (22, .pointer (some ⟨b1, 0, none⟩)), (25, .pointer none), (26, .agg #[.int .i64 a0.Do, S a0.A, S a0.B, v0, .int .i64 a0.K, .int .i64 a0.N, .int .i64 a0.M]), (27, .int .i64 x14), (28, .int .i64 x11), (29, .bool (decide (x14 ≠ x11))), (34, .bool x15), (40, .bool x17), (45, .bool x19), (52, .bool x21), (57, .bool x23), (62, .bool x25), (67, .bool x27)] (fun (xL : St × Int × Int × Bool) => match xL with | (sl, x31, x32, x33) => [(7, .int .i64 x31), (23, .int .i64 x32), (24, .bool x33)]) (fun (xL : St × Int × Int × Bool) (wL : World) => match xL with | (sl, x31, x32, x33) => sl.w = wL ∧ Step K0 s40 sl ∧ kj30 x31 x32 x33 = some r) ?_ ?_
                      · -- the ways
                        refine k_seq ?_
                        refine k_region ?_
                        refine k_field_addr fld31_0 rfl rfl ?_
                        refine k_load_blk one3 rfl h1 rfl rfl ?_
                        refine k_eql rfl rfl rfl ?_
                        refine k_nil ?_
                        refine k_cond_dec rfl (fun c43 => ?_) (fun c43 => ?_)
                        · -- T
                          have h := itT h c43
                          refine k_region ?_
                          refine k_assign rfl rfl ?_
                          refine k_nil ?_
                          exact k_stop ⟨(s40, 1, a0.Do, decide (a0.Do = 6)), ⟨(by first | rfl | (simp <;> rfl)), (by first | rfl | (simp <;> rfl)), (by first | rfl | (simp <;> rfl)), trivial⟩, ⟨rfl, rfl, rfl, rfl, rfl, rfl, rfl, rfl, rfl, rfl, rfl, rfl, rfl, rfl, rfl, rfl, rfl, rfl, rfl, rfl, rfl, rfl, rfl, rfl, rfl, rfl, rfl, rfl, trivial⟩, ⟨rfl, hE42, h⟩⟩
                        · -- F
                          have h := itF h c43
                          refine k_skip ?_
                          exact k_stop ⟨(s40, 12, a0.Do, decide (a0.Do = 6)), ⟨(by first | rfl | (simp <;> rfl)), (by first | rfl | (simp <;> rfl)), (by first | rfl | (simp <;> rfl)), trivial⟩, ⟨rfl, rfl, rfl, rfl, rfl, rfl, rfl, rfl, rfl, rfl, rfl, rfl, rfl, rfl, rfl, rfl, rfl, rfl, rfl, rfl, rfl, rfl, rfl, rfl, rfl, rfl, rfl, rfl, trivial⟩, ⟨rfl, hE42, h⟩⟩
                      · -- behind
                        rintro ⟨s44, x31, x32, x33⟩ wL ⟨rfl, hE42, h⟩
                        rw [hK42] at h
                        have szs44 := hE42.size
                        have hS : Step K0 s s44 := hS.trans0 hE42
                        have hE4 : Step (KO (b2 + 1)) s3 s44 := hE4.trans0 hE42
                        replace hp0 := hp0.up2 hE42
                        replace h1 := h1.up2 hE42
                        replace h2 := h2.up2 hE42
                        refine k_seq ?_
                        refine k_region ?_
                        refine k_move rfl rfl ?_
                        refine k_load_blka (cs := [.int .i64 a0.Do, S a0.A, S a0.B, v0, .int .i64 a0.K, .int .i64 a0.N, .int .i64 a0.M]) agg31 rfl h1 rfl ?_
                        obtain ⟨x34, hx34, h⟩ := ob h
                        refine k_call cal15 rfl (law05_call_w (a1 := a0) (ODiskDisk.mk_ (⟨0, false, false, [], [], (⟨0, 0, 0⟩ : DiskFuse)⟩ : DiskDisk) (by omega) (Own.nil (by first | omega | (dsimp only; omega)) (by first | omega | (dsimp only; omega))) (Own.nil (by first | omega | (dsimp only; omega)) (by first | omega | (dsimp only; omega))) h2) hp0 (by first | assumption | omega | (simp <;> omega)) hx34) rfl ?_
                        rintro s45 vr45 st45 ⟨rfl, hm45_0⟩
                        obtain ⟨w45_0_0, w45_0_1, hb_45_0, hw45_0_0, hw45_0_1⟩ := hm45_0.at_
                        have szs45 := st45.size
                        have hS : Step K0 s s45 := hS.comp st45 (by intro l hl hk; (try simp only [KC, KO, KU, KN, K0, KB] at hk ⊢) <;> omega)
                        have hE4 : Step (KO (b2 + 1)) s3 s45 := hE4.comp st45 (by intro l hl hk; (try simp only [KC, KO, KU, KN, K0, KB] at hk ⊢) <;> omega)
                        replace h1 := h1.up2 st45
                        refine k_move rfl rfl ?_
                        refine k_neq rfl rfl rfl ?_
                        refine k_move rfl rfl ?_
                        obtain ⟨x35, hx35, h⟩ := ob h
                        have hE46 : Step K0 s45 s45 := (Step.refl _).of0 (by first | exact fun _ h => h | (intro c h; simp [KC, KO, KU, KN, KB] at h <;> omega))
                        refine k_cutl (X := St) 4 [(1, .pointer (some ⟨b1, 0, none⟩)), (2, .bool false), (4, .slice (some ⟨b3, 0, none⟩) 2 2), (5, .int .i64 1), (6, .pointer (some ⟨b2, 0, none⟩)), (7, .int .i64 x31), (12, .int .i64 1), (13, .slice (some ⟨b3, 0, none⟩) 2 2), (14, .int .i64 2), (15, .bool true), (16, .int .i64 0), (17, .int .i64 1), (18, .slice (some ⟨b3, 0, none⟩) 2 2), (19, .int .i64 1), (20, .pointer (some ⟨b3, 1, none⟩)), (21, .pointer (some ⟨b2, 0, none⟩)), (22, .pointer (some ⟨b1, 0, none⟩)), (23, .int .i64 x32), (24, .bool x33), (25, .pointer (some ⟨b2, 0, none⟩)), (26, .agg #[.int .i64 a0.Do, S a0.A, S a0.B, v0, .int .i64 a0.K, .int .i64 a0.N, .int .i64 a0.M]), (27, .int .i64 x34.1), (28, .int .i64 x31), (29, .bool (decide (x34.1 ≠ x31))), (40, .bool x17), (45, .bool x19), (52, .bool x21), (57, .bool x23), (62, .bool x25), (67, .bool x27)] (fun _ => [(34, .bool x35)]) (fun sl wL => sl.w = wL ∧ Step K0 s45 sl) ?_ ?_
                        · -- the ways
                          refine k_again 30 rfl ?_
                          refine k_split (fun c47 => ?_) (fun c47 => ?_)
                          · -- t30 True
                            have hx35 := itT hx35 c47
                            refine k_no rfl rfl rfl rfl ?_
                            refine k_no rfl rfl rfl rfl ?_
                            refine k_no rfl rfl rfl rfl ?_
                            refine k_pickT rfl rfl rfl rfl ?_
                            exact k_met ⟨s45, ⟨(congrArg (fun b => some (Value.bool b)) (Option.some.inj hx35)), trivial⟩, ⟨rfl, rfl, rfl, rfl, rfl, rfl, rfl, rfl, rfl, rfl, rfl, rfl, rfl, rfl, rfl, rfl, rfl, rfl, rfl, rfl, rfl, rfl, rfl, rfl, rfl, rfl, rfl, rfl, rfl, rfl, trivial⟩, rfl, hE46⟩
                          · -- t30 False
                            have hx35 := itF hx35 c47
                            refine k_yes rfl rfl ?_
                            refine k_move rfl rfl ?_
                            refine k_yes rfl rfl ?_
                            obtain ⟨x36, hx36, hx35⟩ := ob hx35
                            refine k_call cal18 rfl (disk_Disk_Down_w  (ODiskDisk.mk_ x34.2 (by omega) hw45_0_0 hw45_0_1 hb_45_0) hx36) rfl ?_
                            rintro s48 vr48 st48 rfl
                            have szs48 := st48.size
                            have hS : Step K0 s s48 := hS.trans0 st48
                            have hE4 : Step (KO (b2 + 1)) s3 s48 := hE4.trans0 st48
                            have hE46 : Step K0 s45 s48 := hE46.trans0 st48
                            refine k_yes rfl rfl ?_
                            refine k_not rfl rfl ?_
                            refine k_pickF rfl rfl rfl rfl ?_
                            exact k_met ⟨s48, ⟨(congrArg (fun b => some (Value.bool b)) (Option.some.inj hx35)), trivial⟩, ⟨rfl, rfl, rfl, rfl, rfl, rfl, rfl, rfl, rfl, rfl, rfl, rfl, rfl, rfl, rfl, rfl, rfl, rfl, rfl, rfl, rfl, rfl, rfl, rfl, rfl, rfl, rfl, rfl, rfl, rfl, trivial⟩, rfl, hE46⟩
                        · -- behind
                          rintro s49 wL ⟨rfl, hE46⟩
                          have szs49 := hE46.size
                          have hS : Step K0 s s49 := hS.trans0 hE46
                          have hE4 : Step (KO (b2 + 1)) s3 s49 := hE4.trans0 hE46
                          replace h1 := h1.up2 hE46
                          replace hb_45_0 := hb_45_0.up2 hE46
                          replace hw45_0_0 := hw45_0_0.up2 hE46
                          replace hw45_0_1 := hw45_0_1.up2 hE46
                          refine k_move rfl rfl ?_
                          obtain ⟨x37, hx37, h⟩ := ob h
                          have hE50 : Step K0 s49 s49 := (Step.refl _).of0 (by first | exact fun _ h => h | (intro c h; simp [KC, KO, KU, KN, KB] at h <;> omega))
                          refine k_cutl (X := St) 5 [(1, .pointer (some ⟨b1, 0, none⟩)), (2, .bool false), (4, .slice (some ⟨b3, 0, none⟩) 2 2), (5, .int .i64 1), (6, .pointer (some ⟨b2, 0, none⟩)), (7, .int .i64 x31), (12, .int .i64 1), (13, .slice (some ⟨b3, 0, none⟩) 2 2), (14, .int .i64 2), (15, .bool true), (16, .int .i64 0), (17, .int .i64 1), (18, .slice (some ⟨b3, 0, none⟩) 2 2), (19, .int .i64 1), (20, .pointer (some ⟨b3, 1, none⟩)), (21, .pointer (some ⟨b2, 0, none⟩)), (22, .pointer (some ⟨b1, 0, none⟩)), (23, .int .i64 x32), (24, .bool x33), (25, .pointer (some ⟨b2, 0, none⟩)), (26, .agg #[.int .i64 a0.Do, S a0.A, S a0.B, v0, .int .i64 a0.K, .int .i64 a0.N, .int .i64 a0.M]), (27, .int .i64 x34.1), (28, .int .i64 x31), (29, .bool (decide (x34.1 ≠ x31))), (34, .bool x35), (45, .bool x19), (52, .bool x21), (57, .bool x23), (62, .bool x25), (67, .bool x27)] (fun _ => [(40, .bool x37)]) (fun sl wL => sl.w = wL ∧ Step K0 s49 sl) ?_ ?_
                          · -- the ways
                            refine k_again 35 rfl ?_
                            refine k_splitb (fun c51 => ?_) (fun c51 => ?_)
                            · -- t35 True
                              have hx37 := ibT hx37 c51
                              refine k_no rfl rfl rfl rfl ?_
                              refine k_no rfl rfl rfl rfl ?_
                              refine k_no rfl rfl rfl rfl ?_
                              refine k_no rfl rfl rfl rfl ?_
                              refine k_pickT rfl rfl rfl rfl ?_
                              exact k_met ⟨s49, ⟨(congrArg (fun b => some (Value.bool b)) (Option.some.inj hx37)), trivial⟩, ⟨rfl, rfl, rfl, rfl, rfl, rfl, rfl, rfl, rfl, rfl, rfl, rfl, rfl, rfl, rfl, rfl, rfl, rfl, rfl, rfl, rfl, rfl, rfl, rfl, rfl, rfl, rfl, rfl, rfl, rfl, trivial⟩, rfl, hE50⟩
                            · -- t35 False
                              have hx37 := ibF hx37 c51
                              refine k_yes rfl rfl ?_
                              refine k_move rfl rfl ?_
                              refine k_yes rfl rfl ?_
                              obtain ⟨x38, hx38, hx37⟩ := ob hx37
                              refine k_call cal26 rfl (disk_Disk_Names_w  (ODiskDisk.mk_ x34.2 (by omega) hw45_0_0 hw45_0_1 hb_45_0) hx38) rfl ?_
                              rintro s52 v52_0 st52 ⟨_, rfl, h52_0⟩
                              have szs52 := st52.size
                              have hS : Step K0 s s52 := hS.trans0 st52
                              have hE4 : Step (KO (b2 + 1)) s3 s52 := hE4.trans0 st52
                              have hE50 : Step K0 s49 s52 := hE50.trans0 st52
                              refine k_yes rfl rfl ?_
                              refine k_len Tryd.underlying46 rfl (SL.of_R h52_0).hasLen rfl ?_
                              refine k_as (v := .int .i64 (x38.length : Int)) (by simp only [List.length_map]) ?_
                              refine k_yes rfl rfl ?_
                              refine k_neq rfl rfl rfl ?_
                              refine k_pickF rfl rfl rfl rfl ?_
                              exact k_met ⟨s52, ⟨(congrArg (fun b => some (Value.bool b)) (Option.some.inj hx37)), trivial⟩, ⟨rfl, rfl, rfl, rfl, rfl, rfl, rfl, rfl, rfl, rfl, rfl, rfl, rfl, rfl, rfl, rfl, rfl, rfl, rfl, rfl, rfl, rfl, rfl, rfl, rfl, rfl, rfl, rfl, rfl, rfl, trivial⟩, rfl, hE50⟩
                          · -- behind
                            rintro s53 wL ⟨rfl, hE50⟩
                            have szs53 := hE50.size
                            have hS : Step K0 s s53 := hS.trans0 hE50
                            have hE4 : Step (KO (b2 + 1)) s3 s53 := hE4.trans0 hE50
                            replace h1 := h1.up2 hE50
                            replace hb_45_0 := hb_45_0.up2 hE50
                            replace hw45_0_0 := hw45_0_0.up2 hE50
                            replace hw45_0_1 := hw45_0_1.up2 hE50
                            refine k_move rfl rfl ?_
                            obtain ⟨x39, hx39, h⟩ := ob h
                            have hE54 : Step K0 s53 s53 := (Step.refl _).of0 (by first | exact fun _ h => h | (intro c h; simp [KC, KO, KU, KN, KB] at h <;> omega))
                            refine k_cutl (X := St) 4 [(1, .pointer (some ⟨b1, 0, none⟩)), (2, .bool false), (4, .slice (some ⟨b3, 0, none⟩) 2 2), (5, .int .i64 1), (6, .pointer (some ⟨b2, 0, none⟩)), (7, .int .i64 x31), (12, .int .i64 1), (13, .slice (some ⟨b3, 0, none⟩) 2 2), (14, .int .i64 2), (15, .bool true), (16, .int .i64 0), (17, .int .i64 1), (18, .slice (some ⟨b3, 0, none⟩) 2 2), (19, .int .i64 1), (20, .pointer (some ⟨b3, 1, none⟩)), (21, .pointer (some ⟨b2, 0, none⟩)), (22, .pointer (some ⟨b1, 0, none⟩)), (23, .int .i64 x32), (24, .bool x33), (25, .pointer (some ⟨b2, 0, none⟩)), (26, .agg #[.int .i64 a0.Do, S a0.A, S a0.B, v0, .int .i64 a0.K, .int .i64 a0.N, .int .i64 a0.M]), (27, .int .i64 x34.1), (28, .int .i64 x31), (29, .bool (decide (x34.1 ≠ x31))), (34, .bool x35), (40, .bool x37), (52, .bool x21), (57, .bool x23), (62, .bool x25), (67, .bool x27)] (fun _ => [(45, .bool x39)]) (fun sl wL => sl.w = wL ∧ Step K0 s53 sl) ?_ ?_
                            · -- the ways
                              refine k_again 41 rfl ?_
                              refine k_splitb (fun c55 => ?_) (fun c55 => ?_)
                              · -- t41 True
                                have hx39 := ibT hx39 c55
                                refine k_no rfl rfl rfl rfl ?_
                                refine k_no rfl rfl rfl rfl ?_
                                refine k_no rfl rfl rfl rfl ?_
                                refine k_pickT rfl rfl rfl rfl ?_
                                exact k_met ⟨s53, ⟨(congrArg (fun b => some (Value.bool b)) (Option.some.inj hx39)), trivial⟩, ⟨rfl, rfl, rfl, rfl, rfl, rfl, rfl, rfl, rfl, rfl, rfl, rfl, rfl, rfl, rfl, rfl, rfl, rfl, rfl, rfl, rfl, rfl, rfl, rfl, rfl, rfl, rfl, rfl, rfl, rfl, trivial⟩, rfl, hE54⟩
                              · -- t41 False
                                have hx39 := ibF hx39 c55
                                refine k_yes rfl rfl ?_
                                refine k_move rfl rfl ?_
                                refine k_yes rfl rfl ?_
                                obtain ⟨x40, hx40, hx39⟩ := ob hx39
                                refine k_call cal28 rfl (disk_Disk_Bytes_w  (ODiskDisk.mk_ x34.2 (by omega) hw45_0_0 hw45_0_1 hb_45_0) hx40) rfl ?_
                                rintro s56 vr56 st56 rfl
                                have szs56 := st56.size
                                have hS : Step K0 s s56 := hS.trans0 st56
                                have hE4 : Step (KO (b2 + 1)) s3 s56 := hE4.trans0 st56
                                have hE54 : Step K0 s53 s56 := hE54.trans0 st56
                                refine k_yes rfl rfl ?_
                                refine k_neq rfl rfl rfl ?_
                                refine k_pickF rfl rfl rfl rfl ?_
                                exact k_met ⟨s56, ⟨(congrArg (fun b => some (Value.bool b)) (Option.some.inj hx39)), trivial⟩, ⟨rfl, rfl, rfl, rfl, rfl, rfl, rfl, rfl, rfl, rfl, rfl, rfl, rfl, rfl, rfl, rfl, rfl, rfl, rfl, rfl, rfl, rfl, rfl, rfl, rfl, rfl, rfl, rfl, rfl, rfl, trivial⟩, rfl, hE54⟩
                            · -- behind
                              rintro s57 wL ⟨rfl, hE54⟩
                              have szs57 := hE54.size
                              have hS : Step K0 s s57 := hS.trans0 hE54
                              have hE4 : Step (KO (b2 + 1)) s3 s57 := hE4.trans0 hE54
                              replace h1 := h1.up2 hE54
                              replace hb_45_0 := hb_45_0.up2 hE54
                              replace hw45_0_0 := hw45_0_0.up2 hE54
                              replace hw45_0_1 := hw45_0_1.up2 hE54
                              refine k_move rfl rfl ?_
                              obtain ⟨x41, hx41, h⟩ := ob h
                              have hE58 : Step K0 s57 s57 := (Step.refl _).of0 (by first | exact fun _ h => h | (intro c h; simp [KC, KO, KU, KN, KB] at h <;> omega))
                              refine k_cutl (X := St) 6 [(1, .pointer (some ⟨b1, 0, none⟩)), (2, .bool false), (4, .slice (some ⟨b3, 0, none⟩) 2 2), (5, .int .i64 1), (6, .pointer (some ⟨b2, 0, none⟩)), (7, .int .i64 x31), (12, .int .i64 1), (13, .slice (some ⟨b3, 0, none⟩) 2 2), (14, .int .i64 2), (15, .bool true), (16, .int .i64 0), (17, .int .i64 1), (18, .slice (some ⟨b3, 0, none⟩) 2 2), (19, .int .i64 1), (20, .pointer (some ⟨b3, 1, none⟩)), (21, .pointer (some ⟨b2, 0, none⟩)), (22, .pointer (some ⟨b1, 0, none⟩)), (23, .int .i64 x32), (24, .bool x33), (25, .pointer (some ⟨b2, 0, none⟩)), (26, .agg #[.int .i64 a0.Do, S a0.A, S a0.B, v0, .int .i64 a0.K, .int .i64 a0.N, .int .i64 a0.M]), (27, .int .i64 x34.1), (28, .int .i64 x31), (29, .bool (decide (x34.1 ≠ x31))), (34, .bool x35), (40, .bool x37), (45, .bool x39), (57, .bool x23), (62, .bool x25), (67, .bool x27)] (fun _ => [(52, .bool x41)]) (fun sl wL => sl.w = wL ∧ Step K0 s57 sl) ?_ ?_
                              · -- the ways
                                refine k_again 46 rfl ?_
                                refine k_splitb (fun c59 => ?_) (fun c59 => ?_)
                                · -- t46 True
                                  have hx41 := ibT hx41 c59
                                  refine k_no rfl rfl rfl rfl ?_
                                  refine k_no rfl rfl rfl rfl ?_
                                  refine k_no rfl rfl rfl rfl ?_
                                  refine k_no rfl rfl rfl rfl ?_
                                  refine k_no rfl rfl rfl rfl ?_
                                  refine k_pickT rfl rfl rfl rfl ?_
                                  exact k_met ⟨s57, ⟨(congrArg (fun b => some (Value.bool b)) (Option.some.inj hx41)), trivial⟩, ⟨rfl, rfl, rfl, rfl, rfl, rfl, rfl, rfl, rfl, rfl, rfl, rfl, rfl, rfl, rfl, rfl, rfl, rfl, rfl, rfl, rfl, rfl, rfl, rfl, rfl, rfl, rfl, rfl, rfl, rfl, trivial⟩, rfl, hE58⟩
                                · -- t46 False
                                  have hx41 := ibF hx41 c59
                                  refine k_yes rfl rfl ?_
                                  refine k_move rfl rfl ?_
                                  refine k_yes rfl rfl ?_
                                  refine k_field_addr fld31_1 rfl rfl ?_
                                  refine k_yes rfl rfl ?_
                                  refine k_load_blk one9 rfl h1 rfl rfl ?_
                                  refine k_yes rfl rfl ?_
                                  obtain ⟨x42, hx42, hx41⟩ := ob hx41
                                  refine k_call cal30 rfl (disk_Disk_Size_w  (ODiskDisk.mk_ x34.2 (by omega) hw45_0_0 hw45_0_1 hb_45_0) hx42) rfl ?_
                                  rintro s60 vr60 st60 rfl
                                  have szs60 := st60.size
                                  have hS : Step K0 s s60 := hS.trans0 st60
                                  have hE4 : Step (KO (b2 + 1)) s3 s60 := hE4.trans0 st60
                                  have hE58 : Step K0 s57 s60 := hE58.trans0 st60
                                  refine k_yes rfl rfl ?_
                                  refine k_neq rfl rfl rfl ?_
                                  refine k_pickF rfl rfl rfl rfl ?_
                                  exact k_met ⟨s60, ⟨(congrArg (fun b => some (Value.bool b)) (Option.some.inj hx41)), trivial⟩, ⟨rfl, rfl, rfl, rfl, rfl, rfl, rfl, rfl, rfl, rfl, rfl, rfl, rfl, rfl, rfl, rfl, rfl, rfl, rfl, rfl, rfl, rfl, rfl, rfl, rfl, rfl, rfl, rfl, rfl, rfl, trivial⟩, rfl, hE58⟩
                              · -- behind
                                rintro s61 wL ⟨rfl, hE58⟩
                                have szs61 := hE58.size
                                have hS : Step K0 s s61 := hS.trans0 hE58
                                have hE4 : Step (KO (b2 + 1)) s3 s61 := hE4.trans0 hE58
                                replace hb_45_0 := hb_45_0.up2 hE58
                                replace hw45_0_0 := hw45_0_0.up2 hE58
                                replace hw45_0_1 := hw45_0_1.up2 hE58
                                refine k_move rfl rfl ?_
                                obtain ⟨x43, hx43, h⟩ := ob h
                                have hE62 : Step K0 s61 s61 := (Step.refl _).of0 (by first | exact fun _ h => h | (intro c h; simp [KC, KO, KU, KN, KB] at h <;> omega))
                                refine k_cutl (X := St) 4 [(1, .pointer (some ⟨b1, 0, none⟩)), (2, .bool false), (4, .slice (some ⟨b3, 0, none⟩) 2 2), (5, .int .i64 1), (6, .pointer (some ⟨b2, 0, none⟩)), (7, .int .i64 x31), (12, .int .i64 1), (13, .slice (some ⟨b3, 0, none⟩) 2 2), (14, .int .i64 2), (15, .bool true), (16, .int .i64 0), (17, .int .i64 1), (18, .slice (some ⟨b3, 0, none⟩) 2 2), (19, .int .i64 1), (20, .pointer (some ⟨b3, 1, none⟩)), (21, .pointer (some ⟨b2, 0, none⟩)), (22, .pointer (some ⟨b1, 0, none⟩)), (23, .int .i64 x32), (24, .bool x33), (25, .pointer (some ⟨b2, 0, none⟩)), (26, .agg #[.int .i64 a0.Do, S a0.A, S a0.B, v0, .int .i64 a0.K, .int .i64 a0.N, .int .i64 a0.M]), (27, .int .i64 x34.1), (28, .int .i64 x31), (29, .bool (decide (x34.1 ≠ x31))), (34, .bool x35), (40, .bool x37), (45, .bool x39), (52, .bool x41), (62, .bool x25), (67, .bool x27)] (fun _ => [(57, .bool x43)]) (fun sl wL => sl.w = wL ∧ Step K0 s61 sl) ?_ ?_
                                · -- the ways
                                  refine k_again 53 rfl ?_
                                  refine k_splitb (fun c63 => ?_) (fun c63 => ?_)
                                  · -- t53 True
                                    have hx43 := ibT hx43 c63
                                    refine k_no rfl rfl rfl rfl ?_
                                    refine k_no rfl rfl rfl rfl ?_
                                    refine k_no rfl rfl rfl rfl ?_
                                    refine k_pickT rfl rfl rfl rfl ?_
                                    exact k_met ⟨s61, ⟨(congrArg (fun b => some (Value.bool b)) (Option.some.inj hx43)), trivial⟩, ⟨rfl, rfl, rfl, rfl, rfl, rfl, rfl, rfl, rfl, rfl, rfl, rfl, rfl, rfl, rfl, rfl, rfl, rfl, rfl, rfl, rfl, rfl, rfl, rfl, rfl, rfl, rfl, rfl, rfl, rfl, trivial⟩, rfl, hE62⟩
                                  · -- t53 False
                                    have hx43 := ibF hx43 c63
                                    refine k_yes rfl rfl ?_
                                    refine k_move rfl rfl ?_
                                    refine k_yes rfl rfl ?_
                                    obtain ⟨x44, hx44, hx43⟩ := ob hx43
                                    refine k_call cal14 rfl (disk_Disk_Waits_w  (ODiskDisk.mk_ x34.2 (by omega) hw45_0_0 hw45_0_1 hb_45_0) hx44) rfl ?_
                                    rintro s64 vr64 st64 rfl
                                    have szs64 := st64.size
                                    have hS : Step K0 s s64 := hS.trans0 st64
                                    have hE4 : Step (KO (b2 + 1)) s3 s64 := hE4.trans0 st64
                                    have hE62 : Step K0 s61 s64 := hE62.trans0 st64
                                    refine k_yes rfl rfl ?_
                                    refine k_neq rfl rfl rfl ?_
                                    refine k_pickF rfl rfl rfl rfl ?_
                                    exact k_met ⟨s64, ⟨(congrArg (fun b => some (Value.bool b)) (Option.some.inj hx43)), trivial⟩, ⟨rfl, rfl, rfl, rfl, rfl, rfl, rfl, rfl, rfl, rfl, rfl, rfl, rfl, rfl, rfl, rfl, rfl, rfl, rfl, rfl, rfl, rfl, rfl, rfl, rfl, rfl, rfl, rfl, rfl, rfl, trivial⟩, rfl, hE62⟩
                                · -- behind
                                  rintro s65 wL ⟨rfl, hE62⟩
                                  have szs65 := hE62.size
                                  have hS : Step K0 s s65 := hS.trans0 hE62
                                  have hE4 : Step (KO (b2 + 1)) s3 s65 := hE4.trans0 hE62
                                  replace hb_45_0 := hb_45_0.up2 hE62
                                  replace hw45_0_0 := hw45_0_0.up2 hE62
                                  replace hw45_0_1 := hw45_0_1.up2 hE62
                                  refine k_move rfl rfl ?_
                                  obtain ⟨x45, hx45, h⟩ := ob h
                                  have hE66 : Step K0 s65 s65 := (Step.refl _).of0 (by first | exact fun _ h => h | (intro c h; simp [KC, KO, KU, KN, KB] at h <;> omega))
                                  refine k_cutl (X := St) 4 [(1, .pointer (some ⟨b1, 0, none⟩)), (2, .bool false), (4, .slice (some ⟨b3, 0, none⟩) 2 2), (5, .int .i64 1), (6, .pointer (some ⟨b2, 0, none⟩)), (7, .int .i64 x31), (12, .int .i64 1), (13, .slice (some ⟨b3, 0, none⟩) 2 2), (14, .int .i64 2), (15, .bool true), (16, .int .i64 0), (17, .int .i64 1), (18, .slice (some ⟨b3, 0, none⟩) 2 2), (19, .int .i64 1), (20, .pointer (some ⟨b3, 1, none⟩)), (21, .pointer (some ⟨b2, 0, none⟩)), (22, .pointer (some ⟨b1, 0, none⟩)), (23, .int .i64 x32), (24, .bool x33), (25, .pointer (some ⟨b2, 0, none⟩)), (26, .agg #[.int .i64 a0.Do, S a0.A, S a0.B, v0, .int .i64 a0.K, .int .i64 a0.N, .int .i64 a0.M]), (27, .int .i64 x34.1), (28, .int .i64 x31), (29, .bool (decide (x34.1 ≠ x31))), (34, .bool x35), (40, .bool x37), (45, .bool x39), (52, .bool x41), (57, .bool x43), (67, .bool x27)] (fun _ => [(62, .bool x45)]) (fun sl wL => sl.w = wL ∧ Step K0 s65 sl) ?_ ?_
                                  · -- the ways
                                    refine k_again 58 rfl ?_
                                    refine k_splitb (fun c67 => ?_) (fun c67 => ?_)
                                    · -- t58 True
                                      have hx45 := ibT hx45 c67
                                      refine k_no rfl rfl rfl rfl ?_
                                      refine k_no rfl rfl rfl rfl ?_
                                      refine k_no rfl rfl rfl rfl ?_
                                      refine k_pickT rfl rfl rfl rfl ?_
                                      exact k_met ⟨s65, ⟨(congrArg (fun b => some (Value.bool b)) (Option.some.inj hx45)), trivial⟩, ⟨rfl, rfl, rfl, rfl, rfl, rfl, rfl, rfl, rfl, rfl, rfl, rfl, rfl, rfl, rfl, rfl, rfl, rfl, rfl, rfl, rfl, rfl, rfl, rfl, rfl, rfl, rfl, rfl, rfl, rfl, trivial⟩, rfl, hE66⟩
                                    · -- t58 False
                                      have hx45 := ibF hx45 c67
                                      refine k_yes rfl rfl ?_
                                      refine k_move rfl rfl ?_
                                      refine k_yes rfl rfl ?_
                                      obtain ⟨x46, hx46, hx45⟩ := ob hx45
                                      refine k_call cal33 rfl (disk_Disk_Capacity_w  (ODiskDisk.mk_ x34.2 (by omega) hw45_0_0 hw45_0_1 hb_45_0) hx46) rfl ?_
                                      rintro s68 vr68 st68 rfl
                                      have szs68 := st68.size
                                      have hS : Step K0 s s68 := hS.trans0 st68
                                      have hE4 : Step (KO (b2 + 1)) s3 s68 := hE4.trans0 st68
                                      have hE66 : Step K0 s65 s68 := hE66.trans0 st68
                                      refine k_yes rfl rfl ?_
                                      refine k_neq rfl rfl rfl ?_
                                      refine k_pickF rfl rfl rfl rfl ?_
                                      exact k_met ⟨s68, ⟨(congrArg (fun b => some (Value.bool b)) (Option.some.inj hx45)), trivial⟩, ⟨rfl, rfl, rfl, rfl, rfl, rfl, rfl, rfl, rfl, rfl, rfl, rfl, rfl, rfl, rfl, rfl, rfl, rfl, rfl, rfl, rfl, rfl, rfl, rfl, rfl, rfl, rfl, rfl, rfl, rfl, trivial⟩, rfl, hE66⟩
                                  · -- behind
                                    rintro s69 wL ⟨rfl, hE66⟩
                                    have szs69 := hE66.size
                                    have hS : Step K0 s s69 := hS.trans0 hE66
                                    have hE4 : Step (KO (b2 + 1)) s3 s69 := hE4.trans0 hE66
                                    replace hb_45_0 := hb_45_0.up2 hE66
                                    replace hw45_0_0 := hw45_0_0.up2 hE66
                                    replace hw45_0_1 := hw45_0_1.up2 hE66
                                    refine k_move rfl rfl ?_
                                    obtain ⟨x47, hx47, h⟩ := ob h
                                    have hE70 : Step K0 s69 s69 := (Step.refl _).of0 (by first | exact fun _ h => h | (intro c h; simp [KC, KO, KU, KN, KB] at h <;> omega))
                                    refine k_cutl (X := St) 4 [(1, .pointer (some ⟨b1, 0, none⟩)), (2, .bool false), (4, .slice (some ⟨b3, 0, none⟩) 2 2), (5, .int .i64 1), (6, .pointer (some ⟨b2, 0, none⟩)), (7, .int .i64 x31), (12, .int .i64 1), (13, .slice (some ⟨b3, 0, none⟩) 2 2), (14, .int .i64 2), (15, .bool true), (16, .int .i64 0), (17, .int .i64 1), (18, .slice (some ⟨b3, 0, none⟩) 2 2), (19, .int .i64 1), (20, .pointer (some ⟨b3, 1, none⟩)), (21, .pointer (some ⟨b2, 0, none⟩)), (22, .pointer (some ⟨b1, 0, none⟩)), (23, .int .i64 x32), (24, .bool x33), (25, .pointer (some ⟨b2, 0, none⟩)), (26, .agg #[.int .i64 a0.Do, S a0.A, S a0.B, v0, .int .i64 a0.K, .int .i64 a0.N, .int .i64 a0.M]), (27, .int .i64 x34.1), (28, .int .i64 x31), (29, .bool (decide (x34.1 ≠ x31))), (34, .bool x35), (40, .bool x37), (45, .bool x39), (52, .bool x41), (57, .bool x43), (62, .bool x45)] (fun _ => [(67, .bool x47)]) (fun sl wL => sl.w = wL ∧ Step K0 s69 sl) ?_ ?_
                                    · -- the ways
                                      refine k_again 63 rfl ?_
                                      refine k_splitb (fun c71 => ?_) (fun c71 => ?_)
                                      · -- t63 True
                                        have hx47 := ibT hx47 c71
                                        refine k_no rfl rfl rfl rfl ?_
                                        refine k_no rfl rfl rfl rfl ?_
                                        refine k_no rfl rfl rfl rfl ?_
                                        refine k_pickT rfl rfl rfl rfl ?_
                                        exact k_met ⟨s69, ⟨(congrArg (fun b => some (Value.bool b)) (Option.some.inj hx47)), trivial⟩, ⟨rfl, rfl, rfl, rfl, rfl, rfl, rfl, rfl, rfl, rfl, rfl, rfl, rfl, rfl, rfl, rfl, rfl, rfl, rfl, rfl, rfl, rfl, rfl, rfl, rfl, rfl, rfl, rfl, rfl, rfl, trivial⟩, rfl, hE70⟩
                                      · -- t63 False
                                        have hx47 := ibF hx47 c71
                                        refine k_yes rfl rfl ?_
                                        refine k_move rfl rfl ?_
                                        refine k_yes rfl rfl ?_
                                        obtain ⟨x48, hx48, hx47⟩ := ob hx47
                                        refine k_call cal24 rfl (disk_Disk_Copy_w  (ODiskDisk.mk_ x34.2 (by omega) hw45_0_0 hw45_0_1 hb_45_0) hx48) rfl ?_
                                        rintro s72 v72_0 st72 ⟨ku72_0, _, rfl, hk72_0, h72_0⟩
                                        have szs72 := st72.size
                                        have hS : Step K0 s s72 := hS.trans0 st72
                                        have hE4 : Step (KO (b2 + 1)) s3 s72 := hE4.trans0 st72
                                        have hE70 : Step K0 s69 s72 := hE70.trans0 st72
                                        have ol72_0 := OptODiskDisk.le (k := ku72_0) h72_0
                                        rcases oc_out hx47 with ⟨ho_73, hx47⟩ | ⟨x49, ho_73, hx47⟩
                                        · -- nil
                                          rw [ho_73] at h72_0
                                          obtain rfl : v72_0 = .pointer none := h72_0
                                          refine k_yes rfl rfl ?_
                                          refine k_neq_pnil Tryd.underlying23 rfl rfl rfl ?_
                                          refine k_pickF rfl rfl rfl rfl ?_
                                          exact k_met ⟨s72, ⟨(congrArg (fun b => some (Value.bool b)) (Option.some.inj hx47)), trivial⟩, ⟨rfl, rfl, rfl, rfl, rfl, rfl, rfl, rfl, rfl, rfl, rfl, rfl, rfl, rfl, rfl, rfl, rfl, rfl, rfl, rfl, rfl, rfl, rfl, rfl, rfl, rfl, rfl, rfl, rfl, rfl, trivial⟩, rfl, hE70⟩
                                        · -- some
                                          rw [ho_73] at h72_0
                                          replace h72_0 : ODiskDisk s72 ku72_0 v72_0 x49 := h72_0
                                          replace ol72_0 := ol72_0.resolve_left (fun e => by rw [e] at ho_73; cases ho_73)
                                          have le73 := h72_0.le
                                          have ne73 := h72_0.ne
                                          refine k_yes rfl rfl ?_
                                          obtain ⟨pb74, rfl⟩ := h72_0.ptr
                                          refine k_neq_pnil Tryd.underlying23 rfl rfl rfl ?_
                                          refine k_pickF rfl rfl rfl rfl ?_
                                          exact k_met ⟨s72, ⟨(congrArg (fun b => some (Value.bool b)) (Option.some.inj hx47)), trivial⟩, ⟨rfl, rfl, rfl, rfl, rfl, rfl, rfl, rfl, rfl, rfl, rfl, rfl, rfl, rfl, rfl, rfl, rfl, rfl, rfl, rfl, rfl, rfl, rfl, rfl, rfl, rfl, rfl, rfl, rfl, rfl, trivial⟩, rfl, hE70⟩
                                    · -- behind
                                      rintro s75 wL ⟨rfl, hE70⟩
                                      have szs75 := hE70.size
                                      have hS : Step K0 s s75 := hS.trans0 hE70
                                      have hE4 : Step (KO (b2 + 1)) s3 s75 := hE4.trans0 hE70
                                      replace hb_45_0 := hb_45_0.up2 hE70
                                      replace hw45_0_0 := hw45_0_0.up2 hE70
                                      replace hw45_0_1 := hw45_0_1.up2 hE70
                                      refine k_nil ?_
                                      refine k_cond rfl (fun c76 => ?_) (fun c76 => ?_)
                                      · -- T
                                        have h := ibT h c76
                                        refine k_seq ?_
                                        refine k_region ?_
                                        refine k_assign rfl rfl ?_
                                        refine k_nil ?_
                                        refine k_ret ?_
                                        obtain rfl := Option.some.inj h
                                        refine ⟨_, rfl, Ret.mk hS ?_⟩
                                        exact rfl
                                      · -- F
                                        have h := ibF h c76
                                        refine k_skip ?_
                                        refine k_blk ?_
                                        refine k_region ?_
                                        refine k_move rfl rfl ?_
                                        refine k_add rfl rfl rfl ?_
                                        refine k_as (v := .int .i64 2) (by first | rfl | decide) ?_
                                        refine k_assign rfl rfl ?_
                                        refine k_nil ?_
                                        refine k_stopr ?_
                                        refine k_round ?_
                                        refine k_seq ?_
                                        refine k_seq ?_
                                        refine k_region ?_
                                        refine k_move rfl rfl ?_
                                        refine k_move rfl rfl ?_
                                        refine k_len Tryd.underlying62 rfl ⟨_, _, rfl⟩ rfl ?_
                                        refine k_lss rfl rfl rfl ?_
                                        refine k_as (v := .bool false) rfl ?_
                                        refine k_nil ?_
                                        refine k_cond_false rfl ?_
                                        refine k_exit rfl ?_
                                        obtain ⟨s77, e77, st77, h77⟩ := hw45_0_0.freeze
                                        rw [← e77]
                                        have szs77 := st77.size
                                        have hS : Step K0 s s77 := hS.comp st77 (by intro l hl hk; (try simp only [KC, KO, KU, KN, K0, KB] at hk ⊢) <;> omega)
                                        have hE4 : Step (KO (b2 + 1)) s3 s77 := hE4.comp st77 (by intro l hl hk; (try simp only [KC, KO, KU, KN, K0, KB] at hk ⊢) <;> omega)
                                        replace hb_45_0 := hb_45_0.up2 st77
                                        replace hw45_0_1 := hw45_0_1.up2 st77
                                        obtain ⟨s78, e78, st78, h78⟩ := hw45_0_1.freeze
                                        rw [← e78]
                                        have szs78 := st78.size
                                        have hS : Step K0 s s78 := hS.comp st78 (by intro l hl hk; (try simp only [KC, KO, KU, KN, K0, KB] at hk ⊢) <;> omega)
                                        have hE4 : Step (KO (b2 + 1)) s3 s78 := hE4.comp st78 (by intro l hl hk; (try simp only [KC, KO, KU, KN, K0, KB] at hk ⊢) <;> omega)
                                        replace h77 := h77.up2 st78
                                        replace hb_45_0 := hb_45_0.up2 st78
                                        exact k_stop ⟨(s78, x34.2.capacity, x34.2.made, x34.2.down, x34.2.pictures, w45_0_0, x34.2.calls, w45_0_1, x34.2.fuse.n, x34.2.fuse.keep, x34.2.fuse.torn), trivial, ⟨rfl, trivial⟩, ⟨rfl, hE4, h77, h78, hb_45_0, h⟩⟩
  · -- behind
    rintro ⟨s79, x2, x3, x4, x5, v5, x6, v6, x7, x8, x9⟩ wL ⟨rfl, hE4, h5, h6, h2, h⟩
    rw [hK4] at h
    have szs79 := hE4.size
    have hS : Step K0 s s79 := hS.comp hE4 (by intro l hl hk; (try simp only [KC, KO, KU, KN, K0, KB] at hk ⊢) <;> omega)
    refine k_seq ?_
    refine k_region ?_
    obtain ⟨x50, hx50, h⟩ := ob h
    refine k_call cal13 rfl (law05_awake_w   hx50) rfl ?_
    rintro s80 vr80 st80 rfl
    have szs80 := st80.size
    have hS : Step K0 s s80 := hS.trans0 st80
    refine k_assign rfl rfl ?_
    refine k_nil ?_
    refine k_keep [(2, _)] ⟨rfl, trivial⟩ ?_
    refine k_ret ?_
    obtain rfl := Option.some.inj h
    refine ⟨_, rfl, Ret.mk hS ?_⟩
    exact rfl
end Go.Proofs
