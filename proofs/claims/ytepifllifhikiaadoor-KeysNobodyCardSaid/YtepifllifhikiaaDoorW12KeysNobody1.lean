import Derived.Test.YtepifllifhikiaaDoorW12KeysNobody0
set_option linter.unusedSimpArgs false
set_option linter.unusedVariables false
namespace Go.Proofs
open Go.Fw
set_option maxHeartbeats 1000000 in
set_option maxRecDepth 100000 in
theorem law12_row_c39q_w {s : St} {ub0_0 : Nat} {ub0_1 : Nat} {a0_1 : (List UInt8)} {ub0_2 : Nat} {a0_2 : (List UInt8)} {a1 : Int} {r : (List Ref12Entry)} (hp0_0 : Blk s ub0_0 ⟨ub0_0 + 1, 0⟩ [.pointer none] 26) (hp0_1 : BoxR s ub0_1 9 (dS a0_1)) (hp0_2 : BoxR s ub0_2 9 (dS a0_2)) (h : law12_row_c39q a0_1 a0_2 a1 = some r) : Calls Tryd.prog 15 #[.func (.func 39) #[] #[.pointer (some ⟨ub0_0, 0, none⟩), .pointer (some ⟨ub0_1, 0, none⟩), .pointer (some ⟨ub0_2, 0, none⟩)], .int .i64 a1] s.w (Ret s K0 (fun s1 v => ∃ (u0 : Value), v = u0 ∧ R s1 u0 (.sl 2 (r.map dRef12Entry)))) := by
 unfold law12_row_c39q at h
 have lt0_0 := hp0_0.lt
 have lt0_1 := hp0_1.lt
 have lt0_2 := hp0_2.lt
 have hS := Step.r0 K0 s
 refine k_fn_m (args := [.func (.func 39) #[] #[.pointer (some ⟨ub0_0, 0, none⟩), .pointer (some ⟨ub0_1, 0, none⟩), .pointer (some ⟨ub0_2, 0, none⟩)], .int .i64 a1]) Tryd.func15 rfl rfl ?_
 refine rk_seq ?_
 refine rk_run ?_
 refine k_region ?_
 refine k_box rfl rfl ?_
 intro s1 b1 st1 h1 ge1
 have szs1 := st1.size
 have hS := hS.trans0 st1
 replace hp0_0 := hp0_0.up2 st1
 replace hp0_1 := hp0_1.up2 st1
 replace hp0_2 := hp0_2.up2 st1
 have lt1 := h1.lt
 refine k_assign rfl rfl ?_
 refine k_nil ?_
 refine k_stop ?_
 refine rk_seq ?_
 refine rk_run ?_
 refine k_region ?_
 refine k_alloc zero28 rfl ?_
 intro s2 b2 st2 h2 ge2
 have szs2 := st2.size
 have hS := hS.trans0 st2
 replace hp0_0 := hp0_0.up2 st2
 replace hp0_1 := hp0_1.up2 st2
 replace hp0_2 := hp0_2.up2 st2
 replace h1 := h1.up2 st2
 have lt2 := h2.lt
 refine k_nil ?_
 refine k_stop ?_
 refine rk_seq ?_
 refine rk_run ?_
 refine k_seq ?_
 refine k_region ?_
 refine k_move rfl rfl ?_
 refine k_eql_fnil Tryd.underlying38 rfl rfl rfl ?_
 refine k_nil ?_
 refine k_keep [(0, _), (3, _), (4, _), (5, _), (9, _)] ⟨rfl, rfl, rfl, rfl, rfl, trivial⟩ ?_
 refine k_cond_false rfl ?_
 refine k_skip ?_
 refine k_stop ?_
 refine rk_seq ?_
 refine rk_seq ?_
 refine rk_run ?_
 refine k_region ?_
 refine k_move rfl rfl ?_
 refine k_nil ?_
 refine k_stop ?_
 have h4 : Own s2 ⟨b2 + 1, 7⟩ 55 2 (.slice none 0 0) (([] : List Ref12Entry).map dRef12Entry) := Own.nil (by first | (simp; done) | omega | (dsimp only; omega)) (by first | (simp; done) | omega | (dsimp only; omega))
 obtain ⟨x4, hx4, h⟩ := ob h
 refine rk_range (A := ((List UInt8) × Int)) (X := (List Ref12Entry)) (ps := [12, 13]) (fun (sl : St) (y : (List UInt8) × Int) (vs : List Value) => vs = [S y.1, .int .i64 y.2]) (fun (x1 : (List Ref12Entry)) (x2 : ((List UInt8) × Int)) => if (0 ≤ a1) ∧ (a1 ≤ (x1.length : Int)) then some (false, x1) else (app 5864062014805 x1 ([(⟨x2.1, x2.2⟩ : Ref12Entry)] : List Ref12Entry)).bind fun x5 => some (true, x5)) (fun (xL : (List Ref12Entry)) (sl : St) => ∃ v5 : Value, (Own sl ⟨b2 + 1, 7⟩ 55 2 v5 (xL.map dRef12Entry)) ∧ (Blk sl b2 ⟨b2 + 1, 0⟩ [v5] 28) ∧ (Blk sl b1 ⟨b1 + 1, 0⟩ [.int .i64 a1] 3)) (KU (KC (b2 + 1) 7) (KC (b2 + 1) 0)) rfl cal39 (fun _ _ _ h => by obtain rfl := h; rfl) (by decide) (by intro lab h; (try simp only [KC, KO, KU, KN, K0, KB] at h); first | exact h.elim | omega) ([]) x4 ⟨(.slice none 0 0), h4, h2, h1⟩ (by rintro x t1 t2 K ⟨v5, z0, z1, z2⟩ st hK; exact ⟨v5, z0.up st (fun hk => by have hq := hK _ hk; (try dsimp only at hq); omega), z1.up st (fun hk => by have hq := hK _ hk; (try dsimp only at hq); omega), z2.up st (fun hk => by have hq := hK _ hk; (try dsimp only at hq); omega)⟩) ?_ ?_ ?_
 ·
  intro l rec sR3 x1 x2 vsR rR3 hl1 hl2 hrec
  rintro ⟨v5, h5, h2, h1⟩ hL henc hc3
  obtain rfl := henc
  try dsimp only at hc3
  have hRS3 := Step.r0 (KU (KC (l + 1) 0) (KU (KC (b2 + 1) 7) (KC (b2 + 1) 0))) sR3
  refine k_seq ?_
  refine k_region ?_
  refine k_assign rfl rfl ?_
  refine k_nil ?_
  refine k_keep [(3, _), (5, _), (6, _), (13, _)] ⟨rfl, rfl, rfl, rfl, trivial⟩ ?_
  refine k_region ?_
  refine k_assign rfl rfl ?_
  refine k_nil ?_
  refine k_stop ?_
  refine k_begin hL hrec ?_
  intro s6 st6 hL
  have szs6 := st6.size
  have hRS3 := hRS3.c0 st6
  replace h1 := h1.up2 st6
  replace h2 := h2.up2 st6
  replace h5 := h5.up2 st6
  refine k_keep [(3, _), (5, _), (6, _), (7, _)] ⟨rfl, rfl, rfl, rfl, trivial⟩ ?_
  refine k_block ?_
  refine k_seq ?_
  refine k_seq ?_
  refine k_region ?_
  refine k_load_blk one3 rfl h1 rfl rfl ?_
  refine k_geq rfl rfl rfl ?_
  refine k_move rfl rfl ?_
  have hE7 := Step.r0 K0 s6
  refine k_cutl (X := St) 5 [(3, .pointer (some ⟨b1, 0, none⟩)), (5, .pointer (some ⟨b2, 0, none⟩)), (6, S x2.1), (7, .int .i64 x2.2), (14, .int .i64 a1), (15, .bool (decide (0 ≤ a1)))] (fun _ => [(21, .bool (decide ((0 ≤ a1) ∧ (a1 ≤ (x1.length : Int)))))]) (fun sl wL => sl.w = wL ∧ Step K0 s6 sl) ?_ ?_
  ·
   refine k_again 16 rfl ?_
   refine k_split (fun c8 => ?_) (fun c8 => ?_)
   ·
    refine k_yes rfl rfl ?_
    refine k_load_blk one28 rfl h2 rfl rfl ?_
    refine k_yes rfl rfl ?_
    refine k_len Tryd.underlying28 rfl (h5.sl).hasLen rfl ?_
    refine k_as (v := .int .i64 (x1.length : Int)) (by simp only [List.length_map]) ?_
    refine k_yes rfl rfl ?_
    refine k_load_blk one3 rfl h1 rfl rfl ?_
    refine k_yes rfl rfl ?_
    refine k_geq rfl rfl rfl ?_
    refine k_pickT rfl rfl rfl rfl ?_
    exact k_met ⟨s6, ⟨(congrArg (fun b => some (Value.bool b)) (by first | exact decide_eq_decide.2 ⟨fun h => ⟨c8, h⟩, fun h => h.2⟩ | exact (decide_eq_false (fun h => c8 h.1)).symm | (simp [c8]; done) | (simp [c8, i64] <;> omega))), trivial⟩, ⟨rfl, rfl, rfl, rfl, rfl, rfl, trivial⟩, rfl, hE7⟩
   ·
    refine k_no rfl rfl rfl rfl ?_
    refine k_no rfl rfl rfl rfl ?_
    refine k_no rfl rfl rfl rfl ?_
    refine k_no rfl rfl rfl rfl ?_
    refine k_pickF rfl rfl rfl rfl ?_
    exact k_met ⟨s6, ⟨(congrArg (fun b => some (Value.bool b)) (by first | exact decide_eq_decide.2 ⟨fun h => ⟨c8, h⟩, fun h => h.2⟩ | exact (decide_eq_false (fun h => c8 h.1)).symm | (simp [c8]; done) | (simp [c8, i64] <;> omega))), trivial⟩, ⟨rfl, rfl, rfl, rfl, rfl, rfl, trivial⟩, rfl, hE7⟩
  ·
   rintro s9 wL ⟨rfl, hE7⟩
   have szs9 := hE7.size
   have hRS3 := hRS3.trans0 hE7
   replace h1 := h1.up2 hE7
   replace h2 := h2.up2 hE7
   replace h5 := h5.up2 hE7
   replace hL := hL.up2 hE7
   refine k_nil ?_
   refine k_keep [(5, _), (6, _), (7, _), (21, _)] ⟨rfl, rfl, rfl, rfl, trivial⟩ ?_
   refine k_cond_dec rfl (fun c10 => ?_) (fun c10 => ?_)
   ·
    have hc3 := itT hc3 c10
    refine k_exit_out ?_ rfl
    obtain rfl := Option.some.inj hc3
    exact ⟨rfl, rfl, s9, rfl, hRS3, hL, ⟨v5, h5, h2, h1⟩⟩
   ·
    have hc3 := itF hc3 c10
    refine k_skip ?_
    refine k_region ?_
    refine k_load_blk one28 rfl h2 rfl rfl ?_
    refine k_move rfl rfl ?_
    refine k_move rfl rfl ?_
    refine k_build plc55 zero55 rfl (Parts.cons (CellsOf.lit rfl rfl).1 (Parts.cons (CellsOf.lit rfl rfl).1 Parts.nil)) (by rfl) rfl ?_
    refine k_as (v := .agg #[S x2.1, .int .i64 x2.2]) rfl ?_
    refine k_bslice2 (ds := ([(⟨x2.1, x2.2⟩ : Ref12Entry)] : List Ref12Entry).map dRef12Entry) slc28 rfl (RVs.cons ⟨_, rfl, (clsRef12Entry (⟨x2.1, x2.2⟩ : Ref12Entry))⟩ RVs.nil) (by rfl) (by rfl) rfl rfl ?_
    intro s11 v11 b11 st11 ge11 bl11 h11
    have szs11 := st11.size
    have hRS3 := hRS3.trans0 st11
    replace h1 := h1.up2 st11
    replace h2 := h2.up2 st11
    replace h5 := h5.up2 st11
    replace hL := hL.up2 st11
    have lt11 := Own.le1 h11
    obtain ⟨x5, hx5, hc3⟩ := ob hc3
    refine k_append (es := ([(⟨x2.1, x2.2⟩ : Ref12Entry)] : List Ref12Entry).map dRef12Entry) elem28 rfl rfl h5 (h11.sl) (by have := (app_out hx5).1; simp only [List.length_map] at *; omega) (by have := (app_out hx5).1; simp only [List.length_map] at *; omega) rfl ?_
    intro s12 v12 st12 h12
    rw [← List.map_append, ← (app_out hx5).2] at h12
    have szs12 := st12.size
    have hRS3 := hRS3.c0 st12
    replace h1 := h1.up2 st12
    replace h2 := h2.up2 st12
    replace hL := hL.up2 st12
    refine k_store_c (cs' := [v12]) size28 rfl rfl h2 (by first | (simp; done) | omega | (dsimp only; omega)) (CellsOf.sl (h12.sl)) rfl (by first | rfl | (simp; done) | (simp; omega)) rfl ?_
    intro s13 st13 h2
    have szs13 := st13.size
    have hRS3 := hRS3.c0 st13
    replace h1 := h1.up2 st13
    replace h12 := h12.up2 st13
    replace hL := hL.up2 st13
    refine k_nil ?_
    refine k_blk ?_
    refine k_end ?_
    obtain rfl := Option.some.inj hc3
    exact ⟨rfl, s13, rfl, hRS3, hL, ⟨v12, h12, h2, h1⟩⟩
 ·
  intro l t1 I' Ky st hl1 hl2 hK1 hK2 hY hI'
  have ltb_ub0_0 := hp0_0.lt
  have ltb_ub0_1 := hp0_1.lt
  have ltb_ub0_2 := hp0_2.lt
  exact keys_Index_int_Scan_1_b_w hY hI' (hp0_0.up2 st) (hp0_1.up2 st) (fun h => by rcases hK2 _ h with h | h <;> (simp only [KU, KN, KC, KO, K0, KB, Lab.mk.injEq] at h) <;> omega) (hp0_2.up2 st) (fun h => by rcases hK2 _ h with h | h <;> (simp only [KU, KN, KC, KO, K0, KB, Lab.mk.injEq] at h) <;> omega) hx4
 ·
  intro D3 s14 stn3
  rintro ⟨v5, h5, h2, h1⟩ hM3 hD3
  have szs14 := stn3.size
  have hS := hS.c0 stn3
  refine rk_last ?_
  refine k_keep [(4, _), (5, _)] ⟨rfl, rfl, trivial⟩ ?_
  refine k_seq ?_
  refine k_region ?_
  refine k_load_blk one28 rfl h2 rfl rfl ?_
  refine k_assign rfl rfl ?_
  refine k_nil ?_
  refine k_keep [(4, _)] ⟨rfl, trivial⟩ ?_
  refine k_ret ?_
  refine re_ret ?_
  refine re_cons hM3 (fun s15 st15 => ?_)
  have szs15 := st15.size
  have hS := hS.c0 st15
  replace h5 := h5.up2 st15
  obtain ⟨s16, e16, st16, h16⟩ := h5.freeze
  rw [← e16]
  have szs16 := st16.size
  have hS := hS.c0 st16
  obtain rfl := Option.some.inj h
  refine re_nil (rs := [4]) rfl rfl ?_
  refine ⟨_, rfl, Ret.mk hS ?_⟩
  exact ⟨_, rfl, h16⟩

set_option maxHeartbeats 1000000 in
set_option maxRecDepth 100000 in
theorem keys_Index_int_Copy_nil_w {s : St}  {r : (Option KeysIndexInt)}  (h : keys_Index_int_Copy_nil = some r) : Calls Tryd.prog 25 #[.pointer none] s.w (Ret s K0 (fun s1 v => ∃ (ku0 : Nat), ∃ (u0 : Value), v = u0 ∧ s.n < ku0 ∧ OptOKeysIndexInt s1 ku0 u0 r)) := by
 unfold keys_Index_int_Copy_nil at h
 have hS := Step.r0 K0 s
 refine k_fn (rs := [2]) (args := [.pointer none]) Tryd.func25 rfl rfl rfl rfl ?_
 refine k_seq ?_
 refine k_region ?_
 refine k_assign rfl rfl ?_
 refine k_nil ?_
 refine k_seq ?_
 refine k_seq ?_
 refine k_region ?_
 refine k_move rfl rfl ?_
 refine k_eql_pnil Tryd.underlying26 rfl rfl rfl ?_
 refine k_nil ?_
 refine k_keep [(0, _), (2, _), (4, _)] ⟨rfl, rfl, rfl, trivial⟩ ?_
 refine k_cond_true rfl ?_
 refine k_seq ?_
 refine k_region ?_
 refine k_assign rfl rfl ?_
 refine k_nil ?_
 refine k_keep [(0, _), (2, _)] ⟨rfl, rfl, trivial⟩ ?_
 refine k_ret ?_
 obtain rfl := Option.some.inj h
 refine ⟨_, rfl, Ret.mk hS ?_⟩
 exact ⟨s.n + 1, _, rfl, by omega, rfl⟩

set_option maxHeartbeats 1000000 in
set_option maxRecDepth 100000 in
theorem keys_Merge_int_q_w {s : St}  {r : Unit}  (h : keys_Merge_int_q = some r) : Calls Tryd.prog 16 #[.slice none 0 0] s.w (Ret s K0 (fun s1 v => ∃ (ub0_0 : Nat), v = .func (.func 31) #[] #[.pointer (some ⟨ub0_0, 0, none⟩)] ∧ s.n ≤ ub0_0 ∧ Blk s1 ub0_0 ⟨ub0_0 + 1, 0⟩ [.slice none 0 0] 24)) := by
 unfold keys_Merge_int_q at h
 have hS := Step.r0 K0 s
 refine k_fn (rs := [2]) (args := [.slice none 0 0]) Tryd.func16 rfl rfl rfl rfl ?_
 refine k_seq ?_
 refine k_region ?_
 refine k_box rfl rfl ?_
 intro s1 b1 st1 h1 ge1
 have szs1 := st1.size
 have hS := hS.trans0 st1
 have lt1 := h1.lt
 refine k_assign rfl rfl ?_
 refine k_nil ?_
 refine k_keep [(1, _), (2, _)] ⟨rfl, rfl, trivial⟩ ?_
 refine k_seq ?_
 refine k_region ?_
 refine k_makeFunc rfl rfl rfl ?_
 refine k_assign rfl rfl ?_
 refine k_nil ?_
 refine k_keep [(2, _)] ⟨rfl, trivial⟩ ?_
 refine k_ret ?_
 obtain rfl := Option.some.inj h
 refine ⟨_, rfl, Ret.mk hS ?_⟩
 exact ⟨_, rfl, (by omega), h1⟩

set_option maxHeartbeats 1000000 in
set_option maxRecDepth 100000 in
theorem keys_Merge_int_1_b_w {s : St} {l : Nat} {XT : Type} {a0 : XT → ((List UInt8) × Int) → Option (Bool × XT)} {I : XT → St → Prop} {Ky : Lab → Prop} {a50 : XT} {ub1 : Nat} {r : XT} (hY : Yielder Tryd.prog s.n l (fun (sl : St) (y : (List UInt8) × Int) (vs : List Value) => vs = [S y.1, .int .i64 y.2]) a0 I Ky) (hI : I a50 s) (hp1 : Blk s ub1 ⟨ub1 + 1, 0⟩ [.slice none 0 0] 24) (h : keys_Merge_int_1_b a0 a50 = some r) : Calls Tryd.prog 31 #[.func (.yield l) #[] #[], .pointer (some ⟨ub1, 0, none⟩)] s.w (Ret s (KB s.n Ky) (fun s1 v => v = .tuple #[] ∧ I r s1)) := by
 unfold keys_Merge_int_1_b at h
 replace hI := Cons.of hY hI (Nat.le_refl _)
 have lt1 := hp1.lt
 have hS := Step.r0 (KB s.n Ky) s
 refine k_fn (rs := []) (args := [.func (.yield l) #[] #[], .pointer (some ⟨ub1, 0, none⟩)]) Tryd.func31 rfl rfl rfl rfl ?_
 refine k_seq ?_
 refine k_region ?_
 refine k_alloc zero70 rfl ?_
 intro s1 b1 st1 h1 ge1
 have szs1 := st1.size
 have hS := hS.trans0 st1
 replace hI := hI.up2 st1
 replace hp1 := hp1.up2 st1
 have lt1 := h1.lt
 refine k_nil ?_
 refine k_seq ?_
 obtain ⟨kj1, hK2, h⟩ := jn_out h
 have hE2 := Step.r0 K0 s1
 refine k_cutc (X := St) [(0, .func (.yield l) #[] #[]), (3, .pointer (some ⟨b1, 0, none⟩))] (fun (xL : St) => match xL with | sl => []) (fun (xL : St) (wL : World) => match xL with | sl => sl.w = wL ∧ Step K0 s1 sl ∧ kj1 () = some r) ?_ ?_
 ·
  refine k_seq ?_
  refine k_region ?_
  refine k_load_blk one24 rfl hp1 rfl rfl ?_
  refine k_len Tryd.underlying24 rfl ⟨_, _, rfl⟩ rfl ?_
  refine k_move rfl rfl ?_
  refine k_nil ?_
  refine k_keep [(0, _), (3, _), (9, _), (10, _), (11, _)] ⟨rfl, rfl, rfl, rfl, rfl, trivial⟩ ?_
  refine k_block ?_
  refine k_rounds 1 ?_
  refine k_round ?_
  refine k_seq ?_
  refine k_region ?_
  refine k_lss rfl rfl rfl ?_
  refine k_as (v := .bool false) rfl ?_
  refine k_nil ?_
  refine k_seq ?_
  refine k_cond_false rfl ?_
  refine k_exit rfl ?_
  exact k_stop ⟨s1, trivial, ⟨rfl, rfl, trivial⟩, ⟨rfl, hE2, h⟩⟩
 ·
  rintro s3 wL ⟨rfl, hE2, h⟩
  rw [hK2] at h
  have szs3 := hE2.size
  have hS := hS.trans0 hE2
  replace hI := hI.up2 hE2
  replace h1 := h1.up2 hE2
  refine k_seq ?_
  refine k_region ?_
  refine k_makeIface conc76 rfl rfl ?_
  obtain ⟨x2, hx2, h⟩ := ob h
  refine k_call cal34 rfl (heap_Init_w  (OKeysFrontsInt.mk_ ([]) (by omega) (Own.nil (by first | omega | (dsimp only; omega)) (by first | omega | (dsimp only; omega))) h1) hx2) rfl ?_
  rintro s4 vr4 st4 ⟨rfl, hm4_0⟩
  obtain ⟨w4_0_0, hb_4_0, hw4_0_0⟩ := hm4_0.at_
  have szs4 := st4.size
  have hS : Step (KB s.n Ky) s s4 := hS.comp st4 (by intro l hl hk; (try simp only [KC, KO, KU, KN, K0, KB] at hk ⊢); (repeat' (refine Or.elim hk (fun hk => ?_) (fun hk => ?_))) <;> first | exact hk | exact .inl hk | exact .inr hk | exact .inr (.inl hk) | exact .inr (.inr hk) | omega)
  replace hI := hI.up2 st4
  refine k_nil ?_
  refine k_keep [(0, _), (3, _)] ⟨rfl, rfl, trivial⟩ ?_
  refine k_seq ?_
  refine k_region ?_
  refine k_assign rfl rfl ?_
  refine k_assign rfl rfl ?_
  refine k_nil ?_
  refine k_block ?_
  have hz5 : OKeysFrontsInt s4 (b1 + 1) (.pointer (some ⟨b1, 0, none⟩)) x2 := (OKeysFrontsInt.mk_ x2 (by omega) hw4_0_0 hb_4_0)
  have lehz5 := hz5.le
  have nehz5 := hz5.ne
  refine k_loopc (X := St × (List UInt8) × Bool × XT × (List KeysFrontInt) × Nat) [(0, _), (3, _)] (fun (xL : St × (List UInt8) × Bool × XT × (List KeysFrontInt) × Nat) => match xL with | (sl, x3, x4, x5, x6, j) => [(6, S x3), (7, .bool x4)]) (fun (xL : St × (List UInt8) × Bool × XT × (List KeysFrontInt) × Nat) (wL : World) => match xL with | (sl, x3, x4, x5, x6, j) => sl.w = wL ∧ Step (KU (KB s.n Ky) (KU (KC (b1 + 1) 2) (KO (b1 + 1)))) s4 sl ∧ (Cons I s.n sl x5) ∧ (OKeysFrontsInt sl (b1 + 1) (.pointer (some ⟨b1, 0, none⟩)) x6) ∧ keys_Merge_int_1_b_l1 a0 j x3 x4 x5 x6 = some r) (fun (xL : St × (List UInt8) × Bool × XT × (List KeysFrontInt) × Nat) => match xL with | (sl, x3, x4, x5, x6, j) => j) (s4, ([] : List UInt8), false, a50, x2, FU) ⟨rfl, rfl, trivial⟩ ⟨(by first | rfl | (simp <;> rfl)), (by first | rfl | (simp <;> rfl)), trivial⟩ ⟨rfl, (Step.refl _).of0 (by first | exact fun _ h => h | (intro c h; simp [KC, KO, KU, KN, KB] at h <;> omega)), hI, hz5, h⟩ ?_
  rintro ⟨s7, x3, x4, x5, x6, j⟩ wL ⟨rfl, hE6, hI, hz5, h⟩
  cases j with
  | zero => rw [keys_Merge_int_1_b_l1] at h; exact (noneNe h).elim
  | succ j =>
  rw [keys_Merge_int_1_b_l1] at h
  have szs7 := hE6.size
  have hS : Step (KB s.n Ky) s s7 := hS.comp hE6 (by intro l hl hk; (try simp only [KC, KO, KU, KN, K0, KB] at hk ⊢); (repeat' (refine Or.elim hk (fun hk => ?_) (fun hk => ?_))) <;> first | exact hk | exact .inl hk | exact .inr hk | exact .inr (.inl hk) | exact .inr (.inr hk) | omega)
  refine k_seq ?_
  refine k_seq ?_
  refine k_region ?_
  obtain ⟨wt8_0, hb_t8, hwt8_0⟩ := hz5.at_
  refine k_load_blk one70 rfl hb_t8 rfl rfl ?_
  refine k_len Tryd.underlying70 rfl (hwt8_0.sl).hasLen rfl ?_
  refine k_as (v := .int .i64 (x6.length : Int)) (by simp only [List.length_map]) ?_
  refine k_gtr rfl rfl rfl ?_
  refine k_nil ?_
  refine k_keep [(0, _), (3, _), (6, _), (7, _), (32, _)] ⟨rfl, rfl, rfl, rfl, rfl, trivial⟩ ?_
  refine k_cond_dec rfl (fun c9 => ?_) (fun c9 => ?_)
  ·
   have h := itT h c9
   refine k_skip ?_
   refine k_block ?_
   refine k_seq ?_
   refine k_region ?_
   refine k_load_blk one70 rfl hb_t8 rfl rfl ?_
   obtain ⟨x7, hx7, h⟩ := ob h
   refine k_ixaddr_own Tryd.underlying70 size74 rfl rfl hwt8_0 (geti_out hx7).1 (geti_map hx7) rfl ?_
   intro qx7 hqx7 heqx7
   refine k_field_own rfl (Elt.toO heqx7) hqx7 (by rfl) (by rfl) fld74_0 rfl ?_
   intro q10 h10 he10
   refine k_load_sl one62 rfl h10 rfl ?_
   intro v11 h11
   obtain ⟨x8, hx8, h⟩ := ob h
   refine k_ixaddr Tryd.underlying62 size67 rfl rfl (SL.of_R h11) (geti_out hx8).1 (geti_map hx8) rfl ?_
   intro qx8 hqx8
   refine k_load_agg (by exact agg67) rfl hqx8 rfl ?_
   intro cs12 h12
   obtain rfl := opnKeysEntryInt h12
   refine k_alloc zero67 rfl ?_
   intro s13 b13 st13 h13 ge13
   have szs13 := st13.size
   have hS := hS.trans0 st13
   have hE6 := hE6.trans0 st13
   replace hI := hI.up2 st13
   replace hb_t8 := hb_t8.up2 st13
   replace hwt8_0 := hwt8_0.up2 st13
   have lt13 := h13.lt
   refine k_store_c (cs' := [S x8.key_, .int .i64 x8.v]) size67 rfl rfl h13 (by first | (simp; done) | omega | (dsimp only; omega)) (CellsOf.lit rfl rfl) rfl (by first | rfl | (simp; done) | (simp; omega)) rfl ?_
   intro s14 st14 h13
   have szs14 := st14.size
   have hS : Step (KB s.n Ky) s s14 := hS.comp st14 (by intro l hl hk; (try simp only [KC, KO, KU, KN, K0, KB] at hk ⊢); (repeat' (refine Or.elim hk (fun hk => ?_) (fun hk => ?_))) <;> first | exact hk | exact .inl hk | exact .inr hk | exact .inr (.inl hk) | exact .inr (.inr hk) | omega)
   have hE6 : Step (KU (KB s.n Ky) (KU (KC (b1 + 1) 2) (KO (b1 + 1)))) s4 s14 := hE6.comp st14 (by intro l hl hk; (try simp only [KC, KO, KU, KN, K0, KB] at hk ⊢); (repeat' (refine Or.elim hk (fun hk => ?_) (fun hk => ?_))) <;> first | exact hk | exact .inl hk | exact .inr hk | exact .inr (.inl hk) | exact .inr (.inr hk) | omega)
   replace hI := hI.up2 st14
   replace hb_t8 := hb_t8.up2 st14
   replace hwt8_0 := hwt8_0.up2 st14
   refine k_nil ?_
   refine k_keep [(0, _), (3, _), (6, _), (7, _), (8, _)] ⟨rfl, rfl, rfl, rfl, rfl, trivial⟩ ?_
   refine k_seq ?_
   refine k_seq ?_
   refine k_region ?_
   refine k_move rfl rfl ?_
   refine k_not rfl rfl ?_
   refine k_move rfl rfl ?_
   have hE15 := Step.r0 K0 s14
   refine k_cutl (X := St) 5 [(0, .func (.yield l) #[] #[]), (3, .pointer (some ⟨b1, 0, none⟩)), (6, S x3), (7, .bool x4), (8, .pointer (some ⟨b13, 0, none⟩)), (39, .bool x4), (40, .bool (!x4))] (fun _ => [(46, .bool (decide (((!x4) = true) ∨ (x8.key_ ≠ x3))))]) (fun sl wL => sl.w = wL ∧ Step K0 s14 sl) ?_ ?_
   ·
    refine k_again 41 rfl ?_
    refine k_splitb (fun c16 => ?_) (fun c16 => ?_)
    ·
     refine k_no rfl rfl rfl rfl ?_
     refine k_no rfl rfl rfl rfl ?_
     refine k_no rfl rfl rfl rfl ?_
     refine k_no rfl rfl rfl rfl ?_
     refine k_pickT rfl rfl rfl rfl ?_
     exact k_met ⟨s14, ⟨(congrArg (fun b => some (Value.bool b)) (by first | exact decide_eq_decide.2 ⟨Or.inr, fun h => h.resolve_left c16⟩ | exact (decide_eq_true (Or.inl c16)).symm | (simp [c16]; done) | (simp [c16, i64] <;> omega))), trivial⟩, ⟨rfl, rfl, rfl, rfl, rfl, rfl, rfl, trivial⟩, rfl, hE15⟩
    ·
     refine k_yes rfl rfl ?_
     refine k_field_addr fld67_0 rfl rfl ?_
     refine k_yes rfl rfl ?_
     refine k_load_blk one9 rfl h13 rfl rfl ?_
     refine k_yes rfl rfl ?_
     refine k_move rfl rfl ?_
     refine k_yes rfl rfl ?_
     refine k_neq_str rfl rfl rfl ?_
     refine k_pickF rfl rfl rfl rfl ?_
     exact k_met ⟨s14, ⟨(congrArg (fun b => some (Value.bool b)) (by first | exact decide_eq_decide.2 ⟨Or.inr, fun h => h.resolve_left c16⟩ | exact (decide_eq_true (Or.inl c16)).symm | (simp [c16]; done) | (simp [c16, i64] <;> omega))), trivial⟩, ⟨rfl, rfl, rfl, rfl, rfl, rfl, rfl, trivial⟩, rfl, hE15⟩
   ·
    rintro s17 wL ⟨rfl, hE15⟩
    have szs17 := hE15.size
    have hS := hS.trans0 hE15
    have hE6 := hE6.trans0 hE15
    replace hI := hI.up2 hE15
    replace hb_t8 := hb_t8.up2 hE15
    replace hwt8_0 := hwt8_0.up2 hE15
    replace h13 := h13.up2 hE15
    refine k_move rfl rfl ?_
    obtain ⟨x9, hx9, h⟩ := ob h
    have hE18 := Step.r0 (KB s.n Ky) s17
    refine k_cutl (X := St) 8 [(0, .func (.yield l) #[] #[]), (3, .pointer (some ⟨b1, 0, none⟩)), (6, S x3), (7, .bool x4), (8, .pointer (some ⟨b13, 0, none⟩)), (39, .bool x4), (40, .bool (!x4)), (46, .bool (decide (((!x4) = true) ∨ (x8.key_ ≠ x3))))] (fun _ => [(55, .bool x9.1)]) (fun sl wL => sl.w = wL ∧ Step (KB s.n Ky) s17 sl ∧ Cons I s.n sl x9.2) ?_ ?_
    ·
     refine k_again 47 rfl ?_
     refine k_split (fun c19 => ?_) (fun c19 => ?_)
     ·
      have hx9 := itT hx9 c19
      refine k_yes rfl rfl ?_
      refine k_move rfl rfl ?_
      refine k_yes rfl rfl ?_
      refine k_field_addr fld67_0 rfl rfl ?_
      refine k_yes rfl rfl ?_
      refine k_load_blk one9 rfl h13 rfl rfl ?_
      refine k_yes rfl rfl ?_
      refine k_field_addr fld67_1 rfl rfl ?_
      refine k_yes rfl rfl ?_
      refine k_load_blk one3 rfl h13 rfl rfl ?_
      refine k_yes rfl rfl ?_
      obtain ⟨x10, hx10, hx9⟩ := ob hx9
      refine k_yield rfl rfl (hY.yield _ _ _ _ _ hI.2.1 hI.1 rfl hx10) rfl ?_
      rintro s20 _ st20 ⟨rfl, hI⟩
      replace hI := Cons.of hY hI (Nat.le_trans (by omega) st20.size)
      have szs20 := st20.size
      have hS : Step (KB s.n Ky) s s20 := hS.comp st20 (by intro l hl hk; (try simp only [KC, KO, KU, KN, K0, KB] at hk ⊢); (repeat' (refine Or.elim hk (fun hk => ?_) (fun hk => ?_))) <;> first | exact hk | exact .inl hk | exact .inr hk | exact .inr (.inl hk) | exact .inr (.inr hk) | omega)
      have hE6 : Step (KU (KB s.n Ky) (KU (KC (b1 + 1) 2) (KO (b1 + 1)))) s4 s20 := hE6.comp st20 (by intro l hl hk; (try simp only [KC, KO, KU, KN, K0, KB] at hk ⊢); (repeat' (refine Or.elim hk (fun hk => ?_) (fun hk => ?_))) <;> first | exact hk | exact .inl hk | exact .inr hk | exact .inr (.inl hk) | exact .inr (.inr hk) | omega)
      have hE18 : Step (KB s.n Ky) s17 s20 := hE18.comp st20 (by intro l hl hk; (try simp only [KC, KO, KU, KN, K0, KB] at hk ⊢); (repeat' (refine Or.elim hk (fun hk => ?_) (fun hk => ?_))) <;> first | exact hk | exact .inl hk | exact .inr hk | exact .inr (.inl hk) | exact .inr (.inr hk) | omega)
      refine k_yes rfl rfl ?_
      refine k_not rfl rfl ?_
      refine k_pickT rfl rfl rfl rfl ?_
      obtain rfl := Option.some.inj hx9
      exact k_met ⟨s20, ⟨rfl, trivial⟩, ⟨rfl, rfl, rfl, rfl, rfl, rfl, rfl, rfl, trivial⟩, rfl, hE18, hI⟩
     ·
      have hx9 := itF hx9 c19
      refine k_no rfl rfl rfl rfl ?_
      refine k_no rfl rfl rfl rfl ?_
      refine k_no rfl rfl rfl rfl ?_
      refine k_no rfl rfl rfl rfl ?_
      refine k_no rfl rfl rfl rfl ?_
      refine k_no rfl rfl rfl rfl ?_
      refine k_no rfl rfl rfl rfl ?_
      refine k_pickF rfl rfl rfl rfl ?_
      obtain rfl := Option.some.inj hx9
      exact k_met ⟨s17, ⟨rfl, trivial⟩, ⟨rfl, rfl, rfl, rfl, rfl, rfl, rfl, rfl, trivial⟩, rfl, hE18, hI⟩
    ·
     rintro s21 wL ⟨rfl, hE18, hI⟩
     have szs21 := hE18.size
     have hS : Step (KB s.n Ky) s s21 := hS.comp hE18 (by intro l hl hk; (try simp only [KC, KO, KU, KN, K0, KB] at hk ⊢); (repeat' (refine Or.elim hk (fun hk => ?_) (fun hk => ?_))) <;> first | exact hk | exact .inl hk | exact .inr hk | exact .inr (.inl hk) | exact .inr (.inr hk) | omega)
     have hE6 : Step (KU (KB s.n Ky) (KU (KC (b1 + 1) 2) (KO (b1 + 1)))) s4 s21 := hE6.comp hE18 (by intro l hl hk; (try simp only [KC, KO, KU, KN, K0, KB] at hk ⊢); (repeat' (refine Or.elim hk (fun hk => ?_) (fun hk => ?_))) <;> first | exact hk | exact .inl hk | exact .inr hk | exact .inr (.inl hk) | exact .inr (.inr hk) | omega)
     replace hb_t8 := hb_t8.up2 hE18
     replace hwt8_0 := hwt8_0.up2 hE18
     replace h13 := h13.up2 hE18
     refine k_nil ?_
     refine k_keep [(0, _), (3, _), (6, _), (7, _), (8, _), (55, _)] ⟨rfl, rfl, rfl, rfl, rfl, rfl, trivial⟩ ?_
     refine k_cond rfl (fun c22 => ?_) (fun c22 => ?_)
     ·
      have h := ibT h c22
      refine k_ret ?_
      obtain rfl := Option.some.inj h
      refine ⟨_, rfl, Ret.mk hS ?_⟩
      exact ⟨rfl, hI.1⟩
     ·
      have h := ibF h c22
      refine k_skip ?_
      refine k_seq ?_
      refine k_region ?_
      refine k_field_addr fld67_0 rfl rfl ?_
      refine k_load_blk one9 rfl h13 rfl rfl ?_
      refine k_assign rfl rfl ?_
      refine k_assign rfl rfl ?_
      refine k_nil ?_
      refine k_keep [(0, _), (3, _), (6, _), (7, _)] ⟨rfl, rfl, rfl, rfl, trivial⟩ ?_
      refine k_seq ?_
      refine k_drawT (KN s21.n) 6 (.read 0 (.read 1 (.read 2 (.read 3 (.read 4 (.alt 5 .fin .no)))))) mixed (by intro c h; (try simp only [KC, KO, KU, KN, KB] at h) <;> omega) rfl rfl rfl ?_
      intro s23 st23
      have szs23 := st23.size
      have hS := hS.trans0 st23
      have hE6 := hE6.trans0 st23
      replace hI := hI.up2 st23
      replace hb_t8 := hb_t8.up2 st23
      replace hwt8_0 := hwt8_0.up2 st23
      refine rt_read (wt8_0) rfl rfl (fun s24 st24 => ?_) ?_
      ·try replace hb_t8 := hb_t8.up2 st24
       refine k_load_blk one70 rfl hb_t8 rfl rfl ?_
       exact fq_end
      refine rt_read (wt8_0) rfl rfl (fun s25 st25 => ?_) ?_
      ·try replace hb_t8 := hb_t8.up2 st25
       refine k_load_blk one70 rfl hb_t8 rfl rfl ?_
       exact fq_end
      obtain ⟨x11, hx11, h⟩ := ob h
      refine rt_ix rfl (wanted_none rfl) Tryd.underlying70 size74 rfl rfl (hwt8_0.sl) (geti_out hx11).1 (geti_map hx11) rfl ?_
      intro q26 hq26
      refine rt_fa rfl (wanted_none rfl) rfl hq26 (by rfl) fld74_0 rfl ?_
      intro q27 h27
      refine rt_ldsl rfl (wanted_none rfl) one62 rfl h27 (by first | exact id | (simp only [KC, KO, KU, KN, KB] <;> omega)) rfl ?_
      intro v28 h28
      refine rt_act rfl rfl ?_
      have hA29 := Step.r0 (KN s21.n) s23
      obtain ⟨x12, hx12, h⟩ := ob h
      refine k_cut_sl (i := (1 : Int).toNat) (j := ((x11.l.length : Int) : Int).toNat) Tryd.underlying62 size67 rfl (SL.of_R h28) (CutAt.int rfl (subl_out hx12).1) (CutAt.len (by rw [List.length_map]; rfl)) (subl_ij hx12) (by rw [List.length_map]; exact subl_j hx12) rfl ?_
      intro vx12 hcx12
      rw [← List.map_drop, ← List.map_take, ← (subl_out hx12).2.2.2] at hcx12
      have hcx12 := R.of_SL hcx12
      refine rt_cont hA29 ?_
      refine rt_fin ?_
      obtain ⟨x13, hx13, h⟩ := ob h
      refine k_ixaddr_own Tryd.underlying70 size74 rfl rfl hwt8_0 (geti_out hx13).1 (geti_map hx13) rfl ?_
      intro qx13 hqx13 heqx13
      refine k_field_own rfl (Elt.toO heqx13) hqx13 (by rfl) (by rfl) fld74_0 rfl ?_
      intro q30 h30 he30
      refine k_store_part (dd := dKeysFrontInt ({ x13 with l := x12 } : KeysFrontInt)) size62 rfl rfl hwt8_0 he30 (by rw [List.length_map]; exact (List.getElem?_eq_some_iff.1 (geti_out hx13).2.2).1) (CellsOf.sl (SL.of_R hcx12)) rfl rfl (fun cs _ hcs => by rw [List.getElem_map, getElem_geti hx13] at hcs; obtain ⟨_, rfl, hz0⟩ := opnKeysFrontInt hcs; exact clsKeysFrontInt ({ x13 with l := x12 } : KeysFrontInt) hcx12) ?_
      intro s31 st31 hwt8_0
      rw [← List.map_set] at hwt8_0
      have szs31 := st31.size
      have hS : Step (KB s.n Ky) s s31 := hS.comp st31 (by intro l hl hk; (try simp only [KC, KO, KU, KN, K0, KB] at hk ⊢); (repeat' (refine Or.elim hk (fun hk => ?_) (fun hk => ?_))) <;> first | exact hk | exact .inl hk | exact .inr hk | exact .inr (.inl hk) | exact .inr (.inr hk) | omega)
      have hE6 : Step (KU (KB s.n Ky) (KU (KC (b1 + 1) 2) (KO (b1 + 1)))) s4 s31 := hE6.comp st31 (by intro l hl hk; (try simp only [KC, KO, KU, KN, K0, KB] at hk ⊢); (repeat' (refine Or.elim hk (fun hk => ?_) (fun hk => ?_))) <;> first | exact hk | exact .inl hk | exact .inr hk | exact .inr (.inl hk) | exact .inr (.inr hk) | omega)
      replace hI := hI.up2 st31
      replace hb_t8 := hb_t8.up2 st31
      refine k_nil ?_
      refine k_keep [(0, _), (3, _), (6, _), (7, _)] ⟨rfl, rfl, rfl, rfl, trivial⟩ ?_
      refine k_seq ?_
      refine k_region ?_
      refine k_load_blk one70 rfl hb_t8 rfl rfl ?_
      obtain ⟨x14, hx14, h⟩ := ob h
      refine k_ixaddr_own Tryd.underlying70 size74 rfl rfl hwt8_0 (geti_out hx14).1 (geti_map hx14) rfl ?_
      intro qx14 hqx14 heqx14
      refine k_field_own rfl (Elt.toO heqx14) hqx14 (by rfl) (by rfl) fld74_0 rfl ?_
      intro q32 h32 he32
      refine k_load_sl one62 rfl h32 rfl ?_
      intro v33 h33
      refine k_len Tryd.underlying62 rfl (SL.of_R h33).hasLen rfl ?_
      refine k_as (v := .int .i64 (x14.l.length : Int)) (by simp only [List.length_map]) ?_
      refine k_eql rfl rfl rfl ?_
      refine k_nil ?_
      refine k_keep [(0, _), (3, _), (6, _), (7, _), (71, _)] ⟨rfl, rfl, rfl, rfl, rfl, trivial⟩ ?_
      refine k_cond_dec rfl (fun c34 => ?_) (fun c34 => ?_)
      ·
       have h := itT h c34
       refine k_region ?_
       refine k_makeIface conc76 rfl rfl ?_
       obtain ⟨x15, hx15, h⟩ := ob h
       refine k_call cal35 rfl (heap_Pop_w  (OKeysFrontsInt.mk_ (x6.set (0 : Int).toNat ({ x13 with l := x12 } : KeysFrontInt)) (by omega) hwt8_0 hb_t8) hx15) rfl ?_
       rintro s35 v35_0 st35 ⟨_, rfl, h35_0, hm35_0⟩
       obtain ⟨w35_0_0, hb_35_0, hw35_0_0⟩ := hm35_0.at_
       have szs35 := st35.size
       have hS : Step (KB s.n Ky) s s35 := hS.comp st35 (by intro l hl hk; (try simp only [KC, KO, KU, KN, K0, KB] at hk ⊢); (repeat' (refine Or.elim hk (fun hk => ?_) (fun hk => ?_))) <;> first | exact hk | exact .inl hk | exact .inr hk | exact .inr (.inl hk) | exact .inr (.inr hk) | omega)
       have hE6 : Step (KU (KB s.n Ky) (KU (KC (b1 + 1) 2) (KO (b1 + 1)))) s4 s35 := hE6.comp st35 (by intro l hl hk; (try simp only [KC, KO, KU, KN, K0, KB] at hk ⊢); (repeat' (refine Or.elim hk (fun hk => ?_) (fun hk => ?_))) <;> first | exact hk | exact .inl hk | exact .inr hk | exact .inr (.inl hk) | exact .inr (.inr hk) | omega)
       replace hI := hI.up2 st35
       refine k_nil ?_
       refine k_blk ?_
       have hz36 : OKeysFrontsInt s35 (b1 + 1) (.pointer (some ⟨b1, 0, none⟩)) x15.2 := (OKeysFrontsInt.mk_ x15.2 (by omega) hw35_0_0 hb_35_0)
       have lehz36 := hz36.le
       have nehz36 := hz36.ne
       exact k_stop ⟨(s35, x8.key_, true, x9.2, x15.2, j), ⟨(by first | rfl | (simp <;> rfl)), (by first | rfl | (simp <;> rfl)), trivial⟩, ⟨rfl, rfl, trivial⟩, ⟨rfl, hE6, hI, hz36, h⟩, (by simp)⟩
      ·
       have h := itF h c34
       refine k_region ?_
       refine k_makeIface conc76 rfl rfl ?_
       obtain ⟨x16, hx16, h⟩ := ob h
       refine k_call cal36 rfl (heap_Fix_w  (OKeysFrontsInt.mk_ (x6.set (0 : Int).toNat ({ x13 with l := x12 } : KeysFrontInt)) (by omega) hwt8_0 hb_t8) hx16) rfl ?_
       rintro s37 vr37 st37 ⟨rfl, hm37_0⟩
       obtain ⟨w37_0_0, hb_37_0, hw37_0_0⟩ := hm37_0.at_
       have szs37 := st37.size
       have hS : Step (KB s.n Ky) s s37 := hS.comp st37 (by intro l hl hk; (try simp only [KC, KO, KU, KN, K0, KB] at hk ⊢); (repeat' (refine Or.elim hk (fun hk => ?_) (fun hk => ?_))) <;> first | exact hk | exact .inl hk | exact .inr hk | exact .inr (.inl hk) | exact .inr (.inr hk) | omega)
       have hE6 : Step (KU (KB s.n Ky) (KU (KC (b1 + 1) 2) (KO (b1 + 1)))) s4 s37 := hE6.comp st37 (by intro l hl hk; (try simp only [KC, KO, KU, KN, K0, KB] at hk ⊢); (repeat' (refine Or.elim hk (fun hk => ?_) (fun hk => ?_))) <;> first | exact hk | exact .inl hk | exact .inr hk | exact .inr (.inl hk) | exact .inr (.inr hk) | omega)
       replace hI := hI.up2 st37
       refine k_nil ?_
       refine k_blk ?_
       have hz38 : OKeysFrontsInt s37 (b1 + 1) (.pointer (some ⟨b1, 0, none⟩)) x16 := (OKeysFrontsInt.mk_ x16 (by omega) hw37_0_0 hb_37_0)
       have lehz38 := hz38.le
       have nehz38 := hz38.ne
       exact k_stop ⟨(s37, x8.key_, true, x9.2, x16, j), ⟨(by first | rfl | (simp <;> rfl)), (by first | rfl | (simp <;> rfl)), trivial⟩, ⟨rfl, rfl, trivial⟩, ⟨rfl, hE6, hI, hz38, h⟩, (by simp)⟩
  ·
   have h := itF h c9
   refine k_exit rfl ?_
   refine k_end ?_
   obtain rfl := Option.some.inj h
   refine ⟨_, rfl, Ret.mk hS ?_⟩
   exact ⟨rfl, hI.1⟩

set_option maxHeartbeats 1000000 in
set_option maxRecDepth 100000 in
theorem law12_row_c31q_w {s : St} {ub0_0 : Nat} {a1 : Int} {r : (List Ref12Entry)} (hp0_0 : Blk s ub0_0 ⟨ub0_0 + 1, 0⟩ [.slice none 0 0] 24) (h : law12_row_c31q a1 = some r) : Calls Tryd.prog 15 #[.func (.func 31) #[] #[.pointer (some ⟨ub0_0, 0, none⟩)], .int .i64 a1] s.w (Ret s K0 (fun s1 v => ∃ (u0 : Value), v = u0 ∧ R s1 u0 (.sl 2 (r.map dRef12Entry)))) := by
 unfold law12_row_c31q at h
 have lt0_0 := hp0_0.lt
 have hS := Step.r0 K0 s
 refine k_fn_m (args := [.func (.func 31) #[] #[.pointer (some ⟨ub0_0, 0, none⟩)], .int .i64 a1]) Tryd.func15 rfl rfl ?_
 refine rk_seq ?_
 refine rk_run ?_
 refine k_region ?_
 refine k_box rfl rfl ?_
 intro s1 b1 st1 h1 ge1
 have szs1 := st1.size
 have hS := hS.trans0 st1
 replace hp0_0 := hp0_0.up2 st1
 have lt1 := h1.lt
 refine k_assign rfl rfl ?_
 refine k_nil ?_
 refine k_stop ?_
 refine rk_seq ?_
 refine rk_run ?_
 refine k_region ?_
 refine k_alloc zero28 rfl ?_
 intro s2 b2 st2 h2 ge2
 have szs2 := st2.size
 have hS := hS.trans0 st2
 replace hp0_0 := hp0_0.up2 st2
 replace h1 := h1.up2 st2
 have lt2 := h2.lt
 refine k_nil ?_
 refine k_stop ?_
 refine rk_seq ?_
 refine rk_run ?_
 refine k_seq ?_
 refine k_region ?_
 refine k_move rfl rfl ?_
 refine k_eql_fnil Tryd.underlying38 rfl rfl rfl ?_
 refine k_nil ?_
 refine k_keep [(0, _), (3, _), (4, _), (5, _), (9, _)] ⟨rfl, rfl, rfl, rfl, rfl, trivial⟩ ?_
 refine k_cond_false rfl ?_
 refine k_skip ?_
 refine k_stop ?_
 refine rk_seq ?_
 refine rk_seq ?_
 refine rk_run ?_
 refine k_region ?_
 refine k_move rfl rfl ?_
 refine k_nil ?_
 refine k_stop ?_
 have h4 : Own s2 ⟨b2 + 1, 7⟩ 55 2 (.slice none 0 0) (([] : List Ref12Entry).map dRef12Entry) := Own.nil (by first | (simp; done) | omega | (dsimp only; omega)) (by first | (simp; done) | omega | (dsimp only; omega))
 obtain ⟨x4, hx4, h⟩ := ob h
 refine rk_range (A := ((List UInt8) × Int)) (X := (List Ref12Entry)) (ps := [12, 13]) (fun (sl : St) (y : (List UInt8) × Int) (vs : List Value) => vs = [S y.1, .int .i64 y.2]) (fun (x1 : (List Ref12Entry)) (x2 : ((List UInt8) × Int)) => if (0 ≤ a1) ∧ (a1 ≤ (x1.length : Int)) then some (false, x1) else (app 5864062014805 x1 ([(⟨x2.1, x2.2⟩ : Ref12Entry)] : List Ref12Entry)).bind fun x5 => some (true, x5)) (fun (xL : (List Ref12Entry)) (sl : St) => ∃ v5 : Value, (Own sl ⟨b2 + 1, 7⟩ 55 2 v5 (xL.map dRef12Entry)) ∧ (Blk sl b2 ⟨b2 + 1, 0⟩ [v5] 28) ∧ (Blk sl b1 ⟨b1 + 1, 0⟩ [.int .i64 a1] 3)) (KU (KC (b2 + 1) 7) (KC (b2 + 1) 0)) rfl cal31 (fun _ _ _ h => by obtain rfl := h; rfl) (by decide) (by intro lab h; (try simp only [KC, KO, KU, KN, K0, KB] at h); first | exact h.elim | omega) ([]) x4 ⟨(.slice none 0 0), h4, h2, h1⟩ (by rintro x t1 t2 K ⟨v5, z0, z1, z2⟩ st hK; exact ⟨v5, z0.up st (fun hk => by have hq := hK _ hk; (try dsimp only at hq); omega), z1.up st (fun hk => by have hq := hK _ hk; (try dsimp only at hq); omega), z2.up st (fun hk => by have hq := hK _ hk; (try dsimp only at hq); omega)⟩) ?_ ?_ ?_
 ·
  intro l rec sR3 x1 x2 vsR rR3 hl1 hl2 hrec
  rintro ⟨v5, h5, h2, h1⟩ hL henc hc3
  obtain rfl := henc
  try dsimp only at hc3
  have hRS3 := Step.r0 (KU (KC (l + 1) 0) (KU (KC (b2 + 1) 7) (KC (b2 + 1) 0))) sR3
  refine k_seq ?_
  refine k_region ?_
  refine k_assign rfl rfl ?_
  refine k_nil ?_
  refine k_keep [(3, _), (5, _), (6, _), (13, _)] ⟨rfl, rfl, rfl, rfl, trivial⟩ ?_
  refine k_region ?_
  refine k_assign rfl rfl ?_
  refine k_nil ?_
  refine k_stop ?_
  refine k_begin hL hrec ?_
  intro s6 st6 hL
  have szs6 := st6.size
  have hRS3 := hRS3.c0 st6
  replace h1 := h1.up2 st6
  replace h2 := h2.up2 st6
  replace h5 := h5.up2 st6
  refine k_keep [(3, _), (5, _), (6, _), (7, _)] ⟨rfl, rfl, rfl, rfl, trivial⟩ ?_
  refine k_block ?_
  refine k_seq ?_
  refine k_seq ?_
  refine k_region ?_
  refine k_load_blk one3 rfl h1 rfl rfl ?_
  refine k_geq rfl rfl rfl ?_
  refine k_move rfl rfl ?_
  have hE7 := Step.r0 K0 s6
  refine k_cutl (X := St) 5 [(3, .pointer (some ⟨b1, 0, none⟩)), (5, .pointer (some ⟨b2, 0, none⟩)), (6, S x2.1), (7, .int .i64 x2.2), (14, .int .i64 a1), (15, .bool (decide (0 ≤ a1)))] (fun _ => [(21, .bool (decide ((0 ≤ a1) ∧ (a1 ≤ (x1.length : Int)))))]) (fun sl wL => sl.w = wL ∧ Step K0 s6 sl) ?_ ?_
  ·
   refine k_again 16 rfl ?_
   refine k_split (fun c8 => ?_) (fun c8 => ?_)
   ·
    refine k_yes rfl rfl ?_
    refine k_load_blk one28 rfl h2 rfl rfl ?_
    refine k_yes rfl rfl ?_
    refine k_len Tryd.underlying28 rfl (h5.sl).hasLen rfl ?_
    refine k_as (v := .int .i64 (x1.length : Int)) (by simp only [List.length_map]) ?_
    refine k_yes rfl rfl ?_
    refine k_load_blk one3 rfl h1 rfl rfl ?_
    refine k_yes rfl rfl ?_
    refine k_geq rfl rfl rfl ?_
    refine k_pickT rfl rfl rfl rfl ?_
    exact k_met ⟨s6, ⟨(congrArg (fun b => some (Value.bool b)) (by first | exact decide_eq_decide.2 ⟨fun h => ⟨c8, h⟩, fun h => h.2⟩ | exact (decide_eq_false (fun h => c8 h.1)).symm | (simp [c8]; done) | (simp [c8, i64] <;> omega))), trivial⟩, ⟨rfl, rfl, rfl, rfl, rfl, rfl, trivial⟩, rfl, hE7⟩
   ·
    refine k_no rfl rfl rfl rfl ?_
    refine k_no rfl rfl rfl rfl ?_
    refine k_no rfl rfl rfl rfl ?_
    refine k_no rfl rfl rfl rfl ?_
    refine k_pickF rfl rfl rfl rfl ?_
    exact k_met ⟨s6, ⟨(congrArg (fun b => some (Value.bool b)) (by first | exact decide_eq_decide.2 ⟨fun h => ⟨c8, h⟩, fun h => h.2⟩ | exact (decide_eq_false (fun h => c8 h.1)).symm | (simp [c8]; done) | (simp [c8, i64] <;> omega))), trivial⟩, ⟨rfl, rfl, rfl, rfl, rfl, rfl, trivial⟩, rfl, hE7⟩
  ·
   rintro s9 wL ⟨rfl, hE7⟩
   have szs9 := hE7.size
   have hRS3 := hRS3.trans0 hE7
   replace h1 := h1.up2 hE7
   replace h2 := h2.up2 hE7
   replace h5 := h5.up2 hE7
   replace hL := hL.up2 hE7
   refine k_nil ?_
   refine k_keep [(5, _), (6, _), (7, _), (21, _)] ⟨rfl, rfl, rfl, rfl, trivial⟩ ?_
   refine k_cond_dec rfl (fun c10 => ?_) (fun c10 => ?_)
   ·
    have hc3 := itT hc3 c10
    refine k_exit_out ?_ rfl
    obtain rfl := Option.some.inj hc3
    exact ⟨rfl, rfl, s9, rfl, hRS3, hL, ⟨v5, h5, h2, h1⟩⟩
   ·
    have hc3 := itF hc3 c10
    refine k_skip ?_
    refine k_region ?_
    refine k_load_blk one28 rfl h2 rfl rfl ?_
    refine k_move rfl rfl ?_
    refine k_move rfl rfl ?_
    refine k_build plc55 zero55 rfl (Parts.cons (CellsOf.lit rfl rfl).1 (Parts.cons (CellsOf.lit rfl rfl).1 Parts.nil)) (by rfl) rfl ?_
    refine k_as (v := .agg #[S x2.1, .int .i64 x2.2]) rfl ?_
    refine k_bslice2 (ds := ([(⟨x2.1, x2.2⟩ : Ref12Entry)] : List Ref12Entry).map dRef12Entry) slc28 rfl (RVs.cons ⟨_, rfl, (clsRef12Entry (⟨x2.1, x2.2⟩ : Ref12Entry))⟩ RVs.nil) (by rfl) (by rfl) rfl rfl ?_
    intro s11 v11 b11 st11 ge11 bl11 h11
    have szs11 := st11.size
    have hRS3 := hRS3.trans0 st11
    replace h1 := h1.up2 st11
    replace h2 := h2.up2 st11
    replace h5 := h5.up2 st11
    replace hL := hL.up2 st11
    have lt11 := Own.le1 h11
    obtain ⟨x5, hx5, hc3⟩ := ob hc3
    refine k_append (es := ([(⟨x2.1, x2.2⟩ : Ref12Entry)] : List Ref12Entry).map dRef12Entry) elem28 rfl rfl h5 (h11.sl) (by have := (app_out hx5).1; simp only [List.length_map] at *; omega) (by have := (app_out hx5).1; simp only [List.length_map] at *; omega) rfl ?_
    intro s12 v12 st12 h12
    rw [← List.map_append, ← (app_out hx5).2] at h12
    have szs12 := st12.size
    have hRS3 := hRS3.c0 st12
    replace h1 := h1.up2 st12
    replace h2 := h2.up2 st12
    replace hL := hL.up2 st12
    refine k_store_c (cs' := [v12]) size28 rfl rfl h2 (by first | (simp; done) | omega | (dsimp only; omega)) (CellsOf.sl (h12.sl)) rfl (by first | rfl | (simp; done) | (simp; omega)) rfl ?_
    intro s13 st13 h2
    have szs13 := st13.size
    have hRS3 := hRS3.c0 st13
    replace h1 := h1.up2 st13
    replace h12 := h12.up2 st13
    replace hL := hL.up2 st13
    refine k_nil ?_
    refine k_blk ?_
    refine k_end ?_
    obtain rfl := Option.some.inj hc3
    exact ⟨rfl, s13, rfl, hRS3, hL, ⟨v12, h12, h2, h1⟩⟩
 ·
  intro l t1 I' Ky st hl1 hl2 hK1 hK2 hY hI'
  have ltb_ub0_0 := hp0_0.lt
  exact keys_Merge_int_1_b_w hY hI' (hp0_0.up2 st) hx4
 ·
  intro D3 s14 stn3
  rintro ⟨v5, h5, h2, h1⟩ hM3 hD3
  have szs14 := stn3.size
  have hS := hS.c0 stn3
  refine rk_last ?_
  refine k_keep [(4, _), (5, _)] ⟨rfl, rfl, trivial⟩ ?_
  refine k_seq ?_
  refine k_region ?_
  refine k_load_blk one28 rfl h2 rfl rfl ?_
  refine k_assign rfl rfl ?_
  refine k_nil ?_
  refine k_keep [(4, _)] ⟨rfl, trivial⟩ ?_
  refine k_ret ?_
  refine re_ret ?_
  refine re_cons hM3 (fun s15 st15 => ?_)
  have szs15 := st15.size
  have hS := hS.c0 st15
  replace h5 := h5.up2 st15
  obtain ⟨s16, e16, st16, h16⟩ := h5.freeze
  rw [← e16]
  have szs16 := st16.size
  have hS := hS.c0 st16
  obtain rfl := Option.some.inj h
  refine re_nil (rs := [4]) rfl rfl ?_
  refine ⟨_, rfl, Ret.mk hS ?_⟩
  exact ⟨_, rfl, h16⟩

set_option maxHeartbeats 1000000 in
set_option maxRecDepth 100000 in
theorem law12_KeysNobody_w {s : St} {cs0 : List Value} {a0 : Law12Act} {r : Bool} (hp0 : RC s cs0 (dLaw12Act a0)) (tb0 : Tab0 s) (h : law12_KeysNobody a0 = some r) : Calls Tryd.prog 8 #[.agg cs0.toArray] s.w (Ret s K0 (fun s1 v => v = .bool r)) := by
 unfold law12_KeysNobody at h
 obtain rfl := opnLaw12Act hp0
 have hS := Step.r0 K0 s
 refine k_fn (rs := [2]) (args := [.agg #[.int .i64 a0.Do, .int .i64 a0.V, S a0.Key, S a0.To]]) Tryd.func8 rfl rfl rfl rfl ?_
 refine k_seq ?_
 refine k_region ?_
 refine k_box rfl rfl ?_
 intro s1 b1 st1 h1 ge1
 have szs1 := st1.size
 have hS := hS.trans0 st1
 replace tb0 := tb0.up2 st1
 have lt1 := h1.lt
 refine k_assign rfl rfl ?_
 refine k_nil ?_
 refine k_keep [(1, _), (2, _)] ⟨rfl, rfl, trivial⟩ ?_
 refine k_seq ?_
 refine k_region ?_
 refine k_assign rfl rfl ?_
 refine k_nil ?_
 refine k_seq ?_
 refine k_region ?_
 refine k_move rfl rfl ?_
 refine k_field_addr fld47_2 rfl rfl ?_
 refine k_load_blk one9 rfl h1 rfl rfl ?_
 obtain ⟨x1, hx1, h⟩ := ob h
 refine k_call cal23 rfl (keys_Index_int_Get_nil_w   hx1) rfl ?_
 rintro s2 vr2 st2 rfl
 have szs2 := st2.size
 have hS := hS.trans0 st2
 replace h1 := h1.up2 st2
 replace tb0 := tb0.up2 st2
 refine k_move rfl rfl ?_
 refine k_extract rfl rfl rfl ?_
 refine k_extract rfl rfl rfl ?_
 refine k_assign rfl rfl ?_
 refine k_assign rfl rfl ?_
 refine k_nil ?_
 refine k_keep [(1, _), (2, _), (3, _), (4, _), (5, _)] ⟨rfl, rfl, rfl, rfl, rfl, trivial⟩ ?_
 refine k_seq ?_
 refine k_region ?_
 refine k_move rfl rfl ?_
 refine k_field_addr fld47_2 rfl rfl ?_
 refine k_load_blk one9 rfl h1 rfl rfl ?_
 obtain ⟨x2, hx2, h⟩ := ob h
 refine k_call cal27 rfl (keys_Index_int_First_nil_w   hx2) rfl ?_
 rintro s3 vr3 st3 rfl
 have szs3 := st3.size
 have hS := hS.trans0 st3
 replace h1 := h1.up2 st3
 replace tb0 := tb0.up2 st3
 refine k_move rfl rfl ?_
 refine k_extract rfl rfl rfl ?_
 refine k_extract rfl rfl rfl ?_
 refine k_assign rfl rfl ?_
 refine k_assign rfl rfl ?_
 refine k_nil ?_
 refine k_keep [(1, _), (2, _), (3, _), (4, _), (5, _), (6, _), (7, _)] ⟨rfl, rfl, rfl, rfl, rfl, rfl, rfl, trivial⟩ ?_
 refine k_seq ?_
 refine k_seq ?_
 refine k_region ?_
 refine k_move rfl rfl ?_
 refine k_field_addr fld47_2 rfl rfl ?_
 refine k_load_blk one9 rfl h1 rfl rfl ?_
 refine k_field_addr fld47_1 rfl rfl ?_
 refine k_load_blk one3 rfl h1 rfl rfl ?_
 obtain ⟨x3, hx3, h⟩ := ob h
 obtain rfl := Option.some.inj (show some false = some x3 from hx3)
 refine k_call cal11 rfl (keys_Index_int_Set_nil_w   hx3) rfl ?_
 rintro s4 vr4 st4 rfl
 have szs4 := st4.size
 have hS := hS.trans0 st4
 replace h1 := h1.up2 st4
 replace tb0 := tb0.up2 st4
 refine k_move rfl rfl ?_
 refine k_yes rfl rfl ?_
 refine k_move rfl rfl ?_
 refine k_yes rfl rfl ?_
 refine k_neq rfl rfl rfl ?_
 refine k_pickF rfl rfl rfl rfl ?_
 refine k_move rfl rfl ?_
 have hE5 := Step.r0 K0 s4
 refine k_cutl (X := St) 2 [(1, .pointer (some ⟨b1, 0, none⟩)), (2, .bool false), (3, .pointer none), (4, .int .i64 x1.1), (5, .bool x1.2), (6, S x2.1), (7, .bool x2.2), (23, .pointer none), (24, .pointer (some ⟨b1, 2, none⟩)), (25, S a0.Key), (26, .pointer (some ⟨b1, 1, none⟩)), (27, .int .i64 a0.V), (28, .bool false), (29, .bool false), (30, .int .i64 x1.1), (31, .bool (decide (x1.1 ≠ 0))), (32, .bool (decide (x1.1 ≠ 0)))] (fun _ => [(35, .bool (decide ((x1.1 ≠ 0) ∨ (x1.2 = true))))]) (fun sl wL => sl.w = wL ∧ Step K0 s4 sl) ?_ ?_
 ·
  refine k_again 33 rfl ?_
  refine k_split (fun c6 => ?_) (fun c6 => ?_)
  ·
   refine k_no rfl rfl rfl rfl ?_
   refine k_pickT rfl rfl rfl rfl ?_
   exact k_met ⟨s4, ⟨(congrArg (fun b => some (Value.bool b)) (by first | exact decide_eq_decide.2 ⟨Or.inr, fun h => h.resolve_left c6⟩ | exact (decide_eq_true (Or.inl c6)).symm | (simp [c6]; done) | (simp [c6, i64] <;> omega))), trivial⟩, ⟨rfl, rfl, rfl, rfl, rfl, rfl, rfl, rfl, rfl, rfl, rfl, rfl, rfl, rfl, rfl, rfl, rfl, trivial⟩, rfl, hE5⟩
  ·
   refine k_yes rfl rfl ?_
   refine k_move rfl rfl ?_
   refine k_pickF rfl rfl rfl rfl ?_
   exact k_met ⟨s4, ⟨(congrArg (fun b => some (Value.bool b)) (by first | exact decide_eq_decide.2 ⟨Or.inr, fun h => h.resolve_left c6⟩ | exact (decide_eq_true (Or.inl c6)).symm | (simp [c6]; done) | (simp [c6, i64] <;> omega))), trivial⟩, ⟨rfl, rfl, rfl, rfl, rfl, rfl, rfl, rfl, rfl, rfl, rfl, rfl, rfl, rfl, rfl, rfl, rfl, trivial⟩, rfl, hE5⟩
 ·
  rintro s7 wL ⟨rfl, hE5⟩
  have szs7 := hE5.size
  have hS := hS.trans0 hE5
  replace h1 := h1.up2 hE5
  replace tb0 := tb0.up2 hE5
  refine k_move rfl rfl ?_
  obtain ⟨x4, hx4, h⟩ := ob h
  have hE8 := Step.r0 K0 s7
  refine k_cutl (X := St) 5 [(1, .pointer (some ⟨b1, 0, none⟩)), (2, .bool false), (3, .pointer none), (4, .int .i64 x1.1), (5, .bool x1.2), (6, S x2.1), (7, .bool x2.2), (23, .pointer none), (24, .pointer (some ⟨b1, 2, none⟩)), (25, S a0.Key), (26, .pointer (some ⟨b1, 1, none⟩)), (27, .int .i64 a0.V), (28, .bool false), (29, .bool false), (30, .int .i64 x1.1), (31, .bool (decide (x1.1 ≠ 0))), (32, .bool (decide (x1.1 ≠ 0))), (35, .bool (decide ((x1.1 ≠ 0) ∨ (x1.2 = true))))] (fun _ => [(41, .bool x4)]) (fun sl wL => sl.w = wL ∧ Step K0 s7 sl) ?_ ?_
  ·
   refine k_again 36 rfl ?_
   refine k_split (fun c9 => ?_) (fun c9 => ?_)
   ·
    have hx4 := itT hx4 c9
    refine k_no rfl rfl rfl rfl ?_
    refine k_no rfl rfl rfl rfl ?_
    refine k_no rfl rfl rfl rfl ?_
    refine k_no rfl rfl rfl rfl ?_
    refine k_pickT rfl rfl rfl rfl ?_
    exact k_met ⟨s7, ⟨(congrArg (fun b => some (Value.bool b)) (Option.some.inj hx4)), trivial⟩, ⟨rfl, rfl, rfl, rfl, rfl, rfl, rfl, rfl, rfl, rfl, rfl, rfl, rfl, rfl, rfl, rfl, rfl, rfl, trivial⟩, rfl, hE8⟩
   ·
    have hx4 := itF hx4 c9
    refine k_yes rfl rfl ?_
    refine k_move rfl rfl ?_
    refine k_yes rfl rfl ?_
    refine k_field_addr fld47_2 rfl rfl ?_
    refine k_yes rfl rfl ?_
    refine k_load_blk one9 rfl h1 rfl rfl ?_
    refine k_yes rfl rfl ?_
    obtain ⟨x5, hx5, hx4⟩ := ob hx4
    refine k_call cal22 rfl (keys_Index_int_Delete_nil_w   hx5) rfl ?_
    rintro s10 vr10 st10 rfl
    have szs10 := st10.size
    have hS := hS.trans0 st10
    have hE8 := hE8.trans0 st10
    refine k_pickF rfl rfl rfl rfl ?_
    exact k_met ⟨s10, ⟨(congrArg (fun b => some (Value.bool b)) (Option.some.inj hx4)), trivial⟩, ⟨rfl, rfl, rfl, rfl, rfl, rfl, rfl, rfl, rfl, rfl, rfl, rfl, rfl, rfl, rfl, rfl, rfl, rfl, trivial⟩, rfl, hE8⟩
  ·
   rintro s11 wL ⟨rfl, hE8⟩
   have szs11 := hE8.size
   have hS := hS.trans0 hE8
   replace h1 := h1.up2 hE8
   replace tb0 := tb0.up2 hE8
   refine k_move rfl rfl ?_
   obtain ⟨x6, hx6, h⟩ := ob h
   have hE12 := Step.r0 K0 s11
   refine k_cutl (X := St) 4 [(1, .pointer (some ⟨b1, 0, none⟩)), (2, .bool false), (3, .pointer none), (4, .int .i64 x1.1), (5, .bool x1.2), (6, S x2.1), (7, .bool x2.2), (23, .pointer none), (24, .pointer (some ⟨b1, 2, none⟩)), (25, S a0.Key), (26, .pointer (some ⟨b1, 1, none⟩)), (27, .int .i64 a0.V), (28, .bool false), (29, .bool false), (30, .int .i64 x1.1), (31, .bool (decide (x1.1 ≠ 0))), (32, .bool (decide (x1.1 ≠ 0))), (35, .bool (decide ((x1.1 ≠ 0) ∨ (x1.2 = true)))), (41, .bool x4)] (fun _ => [(46, .bool x6)]) (fun sl wL => sl.w = wL ∧ Step K0 s11 sl) ?_ ?_
   ·
    refine k_again 42 rfl ?_
    refine k_splitb (fun c13 => ?_) (fun c13 => ?_)
    ·
     have hx6 := ibT hx6 c13
     refine k_no rfl rfl rfl rfl ?_
     refine k_no rfl rfl rfl rfl ?_
     refine k_no rfl rfl rfl rfl ?_
     refine k_pickT rfl rfl rfl rfl ?_
     exact k_met ⟨s11, ⟨(congrArg (fun b => some (Value.bool b)) (Option.some.inj hx6)), trivial⟩, ⟨rfl, rfl, rfl, rfl, rfl, rfl, rfl, rfl, rfl, rfl, rfl, rfl, rfl, rfl, rfl, rfl, rfl, rfl, rfl, trivial⟩, rfl, hE12⟩
    ·
     have hx6 := ibF hx6 c13
     refine k_yes rfl rfl ?_
     refine k_move rfl rfl ?_
     refine k_yes rfl rfl ?_
     obtain ⟨x7, hx7, hx6⟩ := ob hx6
     refine k_call cal28 rfl (keys_Index_int_Len_nil_w   hx7) rfl ?_
     rintro s14 vr14 st14 rfl
     have szs14 := st14.size
     have hS := hS.trans0 st14
     have hE12 := hE12.trans0 st14
     refine k_yes rfl rfl ?_
     refine k_neq rfl rfl rfl ?_
     refine k_pickF rfl rfl rfl rfl ?_
     exact k_met ⟨s14, ⟨(congrArg (fun b => some (Value.bool b)) (Option.some.inj hx6)), trivial⟩, ⟨rfl, rfl, rfl, rfl, rfl, rfl, rfl, rfl, rfl, rfl, rfl, rfl, rfl, rfl, rfl, rfl, rfl, rfl, rfl, trivial⟩, rfl, hE12⟩
   ·
    rintro s15 wL ⟨rfl, hE12⟩
    have szs15 := hE12.size
    have hS := hS.trans0 hE12
    replace h1 := h1.up2 hE12
    replace tb0 := tb0.up2 hE12
    refine k_move rfl rfl ?_
    obtain ⟨x8, hx8, h⟩ := ob h
    have hE16 := Step.r0 K0 s15
    refine k_cutl (X := St) 5 [(1, .pointer (some ⟨b1, 0, none⟩)), (2, .bool false), (3, .pointer none), (4, .int .i64 x1.1), (5, .bool x1.2), (6, S x2.1), (7, .bool x2.2), (23, .pointer none), (24, .pointer (some ⟨b1, 2, none⟩)), (25, S a0.Key), (26, .pointer (some ⟨b1, 1, none⟩)), (27, .int .i64 a0.V), (28, .bool false), (29, .bool false), (30, .int .i64 x1.1), (31, .bool (decide (x1.1 ≠ 0))), (32, .bool (decide (x1.1 ≠ 0))), (35, .bool (decide ((x1.1 ≠ 0) ∨ (x1.2 = true)))), (41, .bool x4), (46, .bool x6)] (fun _ => [(52, .bool x8)]) (fun sl wL => sl.w = wL ∧ Step K0 s15 sl) ?_ ?_
    ·
     refine k_again 47 rfl ?_
     refine k_splitb (fun c17 => ?_) (fun c17 => ?_)
     ·
      have hx8 := ibT hx8 c17
      refine k_no rfl rfl rfl rfl ?_
      refine k_no rfl rfl rfl rfl ?_
      refine k_no rfl rfl rfl rfl ?_
      refine k_no rfl rfl rfl rfl ?_
      refine k_pickT rfl rfl rfl rfl ?_
      exact k_met ⟨s15, ⟨(congrArg (fun b => some (Value.bool b)) (Option.some.inj hx8)), trivial⟩, ⟨rfl, rfl, rfl, rfl, rfl, rfl, rfl, rfl, rfl, rfl, rfl, rfl, rfl, rfl, rfl, rfl, rfl, rfl, rfl, rfl, trivial⟩, rfl, hE16⟩
     ·
      have hx8 := ibF hx8 c17
      refine k_yes rfl rfl ?_
      refine k_move rfl rfl ?_
      refine k_yes rfl rfl ?_
      obtain ⟨x9, hx9, hx8⟩ := ob hx8
      refine k_call cal24 rfl (keys_Index_int_Keys_nil_w   hx9) rfl ?_
      rintro s18 v18_0 st18 ⟨_, rfl, h18_0⟩
      have szs18 := st18.size
      have hS := hS.trans0 st18
      have hE16 := hE16.trans0 st18
      refine k_yes rfl rfl ?_
      refine k_len Tryd.underlying53 rfl (SL.of_R h18_0).hasLen rfl ?_
      refine k_as (v := .int .i64 (x9.length : Int)) (by simp only [List.length_map]) ?_
      refine k_yes rfl rfl ?_
      refine k_neq rfl rfl rfl ?_
      refine k_pickF rfl rfl rfl rfl ?_
      exact k_met ⟨s18, ⟨(congrArg (fun b => some (Value.bool b)) (Option.some.inj hx8)), trivial⟩, ⟨rfl, rfl, rfl, rfl, rfl, rfl, rfl, rfl, rfl, rfl, rfl, rfl, rfl, rfl, rfl, rfl, rfl, rfl, rfl, rfl, trivial⟩, rfl, hE16⟩
    ·
     rintro s19 wL ⟨rfl, hE16⟩
     have szs19 := hE16.size
     have hS := hS.trans0 hE16
     replace h1 := h1.up2 hE16
     replace tb0 := tb0.up2 hE16
     refine k_move rfl rfl ?_
     have hE20 := Step.r0 K0 s19
     refine k_cutl (X := St) 3 [(1, .pointer (some ⟨b1, 0, none⟩)), (2, .bool false), (3, .pointer none), (4, .int .i64 x1.1), (5, .bool x1.2), (6, S x2.1), (7, .bool x2.2), (23, .pointer none), (24, .pointer (some ⟨b1, 2, none⟩)), (25, S a0.Key), (26, .pointer (some ⟨b1, 1, none⟩)), (27, .int .i64 a0.V), (28, .bool false), (29, .bool false), (30, .int .i64 x1.1), (31, .bool (decide (x1.1 ≠ 0))), (32, .bool (decide (x1.1 ≠ 0))), (35, .bool (decide ((x1.1 ≠ 0) ∨ (x1.2 = true)))), (41, .bool x4), (46, .bool x6), (52, .bool x8)] (fun _ => [(56, .bool (decide ((x8 = true) ∨ (x2.1 ≠ ([] : List UInt8)))))]) (fun sl wL => sl.w = wL ∧ Step K0 s19 sl) ?_ ?_
     ·
      refine k_again 53 rfl ?_
      refine k_splitb (fun c21 => ?_) (fun c21 => ?_)
      ·
       refine k_no rfl rfl rfl rfl ?_
       refine k_no rfl rfl rfl rfl ?_
       refine k_pickT rfl rfl rfl rfl ?_
       exact k_met ⟨s19, ⟨(congrArg (fun b => some (Value.bool b)) (by first | exact decide_eq_decide.2 ⟨Or.inr, fun h => h.resolve_left c21⟩ | exact (decide_eq_true (Or.inl c21)).symm | (simp [c21]; done) | (simp [c21, i64] <;> omega))), trivial⟩, ⟨rfl, rfl, rfl, rfl, rfl, rfl, rfl, rfl, rfl, rfl, rfl, rfl, rfl, rfl, rfl, rfl, rfl, rfl, rfl, rfl, rfl, trivial⟩, rfl, hE20⟩
      ·
       refine k_yes rfl rfl ?_
       refine k_move rfl rfl ?_
       refine k_yes rfl rfl ?_
       refine k_neq_str rfl rfl rfl ?_
       refine k_pickF rfl rfl rfl rfl ?_
       exact k_met ⟨s19, ⟨(congrArg (fun b => some (Value.bool b)) (by first | exact decide_eq_decide.2 ⟨Or.inr, fun h => h.resolve_left c21⟩ | exact (decide_eq_true (Or.inl c21)).symm | (simp [c21]; done) | (simp [c21, i64] <;> omega))), trivial⟩, ⟨rfl, rfl, rfl, rfl, rfl, rfl, rfl, rfl, rfl, rfl, rfl, rfl, rfl, rfl, rfl, rfl, rfl, rfl, rfl, rfl, rfl, trivial⟩, rfl, hE20⟩
     ·
      rintro s22 wL ⟨rfl, hE20⟩
      have szs22 := hE20.size
      have hS := hS.trans0 hE20
      replace h1 := h1.up2 hE20
      replace tb0 := tb0.up2 hE20
      refine k_move rfl rfl ?_
      have hE23 := Step.r0 K0 s22
      refine k_cutl (X := St) 2 [(1, .pointer (some ⟨b1, 0, none⟩)), (2, .bool false), (3, .pointer none), (4, .int .i64 x1.1), (5, .bool x1.2), (6, S x2.1), (7, .bool x2.2), (23, .pointer none), (24, .pointer (some ⟨b1, 2, none⟩)), (25, S a0.Key), (26, .pointer (some ⟨b1, 1, none⟩)), (27, .int .i64 a0.V), (28, .bool false), (29, .bool false), (30, .int .i64 x1.1), (31, .bool (decide (x1.1 ≠ 0))), (32, .bool (decide (x1.1 ≠ 0))), (35, .bool (decide ((x1.1 ≠ 0) ∨ (x1.2 = true)))), (41, .bool x4), (46, .bool x6), (52, .bool x8), (56, .bool (decide ((x8 = true) ∨ (x2.1 ≠ ([] : List UInt8)))))] (fun _ => [(59, .bool (decide (((x8 = true) ∨ (x2.1 ≠ ([] : List UInt8))) ∨ (x2.2 = true))))]) (fun sl wL => sl.w = wL ∧ Step K0 s22 sl) ?_ ?_
      ·
       refine k_again 57 rfl ?_
       refine k_split (fun c24 => ?_) (fun c24 => ?_)
       ·
        refine k_no rfl rfl rfl rfl ?_
        refine k_pickT rfl rfl rfl rfl ?_
        exact k_met ⟨s22, ⟨(congrArg (fun b => some (Value.bool b)) (by first | exact decide_eq_decide.2 ⟨Or.inr, fun h => h.resolve_left c24⟩ | exact (decide_eq_true (Or.inl c24)).symm | (simp [c24]; done) | (simp [c24, i64] <;> omega))), trivial⟩, ⟨rfl, rfl, rfl, rfl, rfl, rfl, rfl, rfl, rfl, rfl, rfl, rfl, rfl, rfl, rfl, rfl, rfl, rfl, rfl, rfl, rfl, rfl, trivial⟩, rfl, hE23⟩
       ·
        refine k_yes rfl rfl ?_
        refine k_move rfl rfl ?_
        refine k_pickF rfl rfl rfl rfl ?_
        exact k_met ⟨s22, ⟨(congrArg (fun b => some (Value.bool b)) (by first | exact decide_eq_decide.2 ⟨Or.inr, fun h => h.resolve_left c24⟩ | exact (decide_eq_true (Or.inl c24)).symm | (simp [c24]; done) | (simp [c24, i64] <;> omega))), trivial⟩, ⟨rfl, rfl, rfl, rfl, rfl, rfl, rfl, rfl, rfl, rfl, rfl, rfl, rfl, rfl, rfl, rfl, rfl, rfl, rfl, rfl, rfl, rfl, trivial⟩, rfl, hE23⟩
      ·
       rintro s25 wL ⟨rfl, hE23⟩
       have szs25 := hE23.size
       have hS := hS.trans0 hE23
       replace h1 := h1.up2 hE23
       replace tb0 := tb0.up2 hE23
       refine k_move rfl rfl ?_
       obtain ⟨x10, hx10, h⟩ := ob h
       have hE26 := Step.r0 K0 s25
       refine k_cutl (X := St) 10 [(1, .pointer (some ⟨b1, 0, none⟩)), (2, .bool false), (3, .pointer none), (4, .int .i64 x1.1), (5, .bool x1.2), (6, S x2.1), (7, .bool x2.2), (23, .pointer none), (24, .pointer (some ⟨b1, 2, none⟩)), (25, S a0.Key), (26, .pointer (some ⟨b1, 1, none⟩)), (27, .int .i64 a0.V), (28, .bool false), (29, .bool false), (30, .int .i64 x1.1), (31, .bool (decide (x1.1 ≠ 0))), (32, .bool (decide (x1.1 ≠ 0))), (35, .bool (decide ((x1.1 ≠ 0) ∨ (x1.2 = true)))), (41, .bool x4), (46, .bool x6), (52, .bool x8), (56, .bool (decide ((x8 = true) ∨ (x2.1 ≠ ([] : List UInt8))))), (59, .bool (decide (((x8 = true) ∨ (x2.1 ≠ ([] : List UInt8))) ∨ (x2.2 = true))))] (fun _ => [(70, .bool x10)]) (fun sl wL => sl.w = wL ∧ Step K0 s25 sl) ?_ ?_
       ·
        refine k_again 60 rfl ?_
        refine k_split (fun c27 => ?_) (fun c27 => ?_)
        ·
         have hx10 := itT hx10 c27
         refine k_no rfl rfl rfl rfl ?_
         refine k_no rfl rfl rfl rfl ?_
         refine k_no rfl rfl rfl rfl ?_
         refine k_no rfl rfl rfl rfl ?_
         refine k_no rfl rfl rfl rfl ?_
         refine k_no rfl rfl rfl rfl ?_
         refine k_no rfl rfl rfl rfl ?_
         refine k_no rfl rfl rfl rfl ?_
         refine k_no rfl rfl rfl rfl ?_
         refine k_pickT rfl rfl rfl rfl ?_
         exact k_met ⟨s25, ⟨(congrArg (fun b => some (Value.bool b)) (Option.some.inj hx10)), trivial⟩, ⟨rfl, rfl, rfl, rfl, rfl, rfl, rfl, rfl, rfl, rfl, rfl, rfl, rfl, rfl, rfl, rfl, rfl, rfl, rfl, rfl, rfl, rfl, rfl, trivial⟩, rfl, hE26⟩
        ·
         have hx10 := itF hx10 c27
         refine k_yes rfl rfl ?_
         refine k_move rfl rfl ?_
         refine k_yes rfl rfl ?_
         refine k_field_addr fld47_2 rfl rfl ?_
         refine k_yes rfl rfl ?_
         refine k_load_blk one9 rfl h1 rfl rfl ?_
         refine k_yes rfl rfl ?_
         refine k_field_addr fld47_3 rfl rfl ?_
         refine k_yes rfl rfl ?_
         refine k_load_blk one9 rfl h1 rfl rfl ?_
         refine k_yes rfl rfl ?_
         obtain ⟨x11, hx11, hx10⟩ := ob hx10
         refine k_call cal21 rfl (keys_Index_int_Scan_nil_w   hx11) rfl ?_
         rintro s28 vr28 st28 ⟨ub28_0_0, ub28_0_1, ub28_0_2, rfl, hg28_0_0, h28_0_0, hg28_0_1, h28_0_1, hg28_0_2, h28_0_2⟩
         have szs28 := st28.size
         have hS := hS.trans0 st28
         have hE26 := hE26.trans0 st28
         refine k_yes rfl rfl ?_
         obtain ⟨x12, hx12, hx10⟩ := ob hx10
         refine k_call cal15 rfl (law12_row_c39q_w  h28_0_0 h28_0_1 h28_0_2 hx12) rfl ?_
         rintro s29 v29_0 st29 ⟨_, rfl, h29_0⟩
         have szs29 := st29.size
         have hS := hS.trans0 st29
         have hE26 := hE26.trans0 st29
         refine k_yes rfl rfl ?_
         refine k_len Tryd.underlying28 rfl (SL.of_R h29_0).hasLen rfl ?_
         refine k_as (v := .int .i64 (x12.length : Int)) (by simp only [List.length_map]) ?_
         refine k_yes rfl rfl ?_
         refine k_neq rfl rfl rfl ?_
         refine k_pickF rfl rfl rfl rfl ?_
         exact k_met ⟨s29, ⟨(congrArg (fun b => some (Value.bool b)) (Option.some.inj hx10)), trivial⟩, ⟨rfl, rfl, rfl, rfl, rfl, rfl, rfl, rfl, rfl, rfl, rfl, rfl, rfl, rfl, rfl, rfl, rfl, rfl, rfl, rfl, rfl, rfl, rfl, trivial⟩, rfl, hE26⟩
       ·
        rintro s30 wL ⟨rfl, hE26⟩
        have szs30 := hE26.size
        have hS := hS.trans0 hE26
        replace h1 := h1.up2 hE26
        replace tb0 := tb0.up2 hE26
        refine k_move rfl rfl ?_
        obtain ⟨x13, hx13, h⟩ := ob h
        have hE31 := Step.r0 K0 s30
        refine k_cutl (X := St) 4 [(1, .pointer (some ⟨b1, 0, none⟩)), (2, .bool false), (3, .pointer none), (4, .int .i64 x1.1), (5, .bool x1.2), (6, S x2.1), (7, .bool x2.2), (23, .pointer none), (24, .pointer (some ⟨b1, 2, none⟩)), (25, S a0.Key), (26, .pointer (some ⟨b1, 1, none⟩)), (27, .int .i64 a0.V), (28, .bool false), (29, .bool false), (30, .int .i64 x1.1), (31, .bool (decide (x1.1 ≠ 0))), (32, .bool (decide (x1.1 ≠ 0))), (35, .bool (decide ((x1.1 ≠ 0) ∨ (x1.2 = true)))), (41, .bool x4), (46, .bool x6), (52, .bool x8), (56, .bool (decide ((x8 = true) ∨ (x2.1 ≠ ([] : List UInt8))))), (59, .bool (decide (((x8 = true) ∨ (x2.1 ≠ ([] : List UInt8))) ∨ (x2.2 = true)))), (70, .bool x10)] (fun _ => [(75, .bool x13)]) (fun sl wL => sl.w = wL ∧ Step K0 s30 sl) ?_ ?_
        ·
         refine k_again 71 rfl ?_
         refine k_splitb (fun c32 => ?_) (fun c32 => ?_)
         ·
          have hx13 := ibT hx13 c32
          refine k_no rfl rfl rfl rfl ?_
          refine k_no rfl rfl rfl rfl ?_
          refine k_no rfl rfl rfl rfl ?_
          refine k_pickT rfl rfl rfl rfl ?_
          exact k_met ⟨s30, ⟨(congrArg (fun b => some (Value.bool b)) (Option.some.inj hx13)), trivial⟩, ⟨rfl, rfl, rfl, rfl, rfl, rfl, rfl, rfl, rfl, rfl, rfl, rfl, rfl, rfl, rfl, rfl, rfl, rfl, rfl, rfl, rfl, rfl, rfl, rfl, trivial⟩, rfl, hE31⟩
         ·
          have hx13 := ibF hx13 c32
          refine k_yes rfl rfl ?_
          refine k_move rfl rfl ?_
          refine k_yes rfl rfl ?_
          obtain ⟨x14, hx14, hx13⟩ := ob hx13
          refine k_call cal25 rfl (keys_Index_int_Copy_nil_w   hx14) rfl ?_
          rintro s33 v33_0 st33 ⟨ku33_0, _, rfl, hk33_0, h33_0⟩
          have szs33 := st33.size
          have hS := hS.trans0 st33
          have hE31 := hE31.trans0 st33
          have ol33_0 := OptOKeysIndexInt.le (k := ku33_0) h33_0
          rcases oc_out hx13 with ⟨ho_34, hx13⟩ | ⟨x15, ho_34, hx13⟩
          ·
           rw [ho_34] at h33_0
           obtain rfl : v33_0 = .pointer none := h33_0
           refine k_yes rfl rfl ?_
           refine k_neq_pnil Tryd.underlying26 rfl rfl rfl ?_
           refine k_pickF rfl rfl rfl rfl ?_
           exact k_met ⟨s33, ⟨(congrArg (fun b => some (Value.bool b)) (Option.some.inj hx13)), trivial⟩, ⟨rfl, rfl, rfl, rfl, rfl, rfl, rfl, rfl, rfl, rfl, rfl, rfl, rfl, rfl, rfl, rfl, rfl, rfl, rfl, rfl, rfl, rfl, rfl, rfl, trivial⟩, rfl, hE31⟩
          ·
           rw [ho_34] at h33_0
           replace h33_0 : OKeysIndexInt s33 ku33_0 v33_0 x15 := h33_0
           replace ol33_0 := ol33_0.resolve_left (fun e => by rw [e] at ho_34; cases ho_34)
           have le34 := h33_0.le
           have ne34 := h33_0.ne
           refine k_yes rfl rfl ?_
           obtain ⟨pb35, rfl⟩ := h33_0.ptr
           refine k_neq_pnil Tryd.underlying26 rfl rfl rfl ?_
           refine k_pickF rfl rfl rfl rfl ?_
           exact k_met ⟨s33, ⟨(congrArg (fun b => some (Value.bool b)) (Option.some.inj hx13)), trivial⟩, ⟨rfl, rfl, rfl, rfl, rfl, rfl, rfl, rfl, rfl, rfl, rfl, rfl, rfl, rfl, rfl, rfl, rfl, rfl, rfl, rfl, rfl, rfl, rfl, rfl, trivial⟩, rfl, hE31⟩
        ·
         rintro s36 wL ⟨rfl, hE31⟩
         have szs36 := hE31.size
         have hS := hS.trans0 hE31
         replace h1 := h1.up2 hE31
         replace tb0 := tb0.up2 hE31
         refine k_nil ?_
         refine k_keep [(1, _), (2, _), (4, _), (5, _), (75, _)] ⟨rfl, rfl, rfl, rfl, rfl, trivial⟩ ?_
         refine k_cond rfl (fun c37 => ?_) (fun c37 => ?_)
         ·
          have h := ibT h c37
          refine k_seq ?_
          refine k_region ?_
          refine k_assign rfl rfl ?_
          refine k_nil ?_
          refine k_keep [(1, _), (2, _), (4, _), (5, _)] ⟨rfl, rfl, rfl, rfl, trivial⟩ ?_
          refine k_ret ?_
          obtain rfl := Option.some.inj h
          refine ⟨_, rfl, Ret.mk hS ?_⟩
          exact rfl
         ·
          have h := ibF h c37
          refine k_skip ?_
          refine k_seq ?_
          refine k_region ?_
          refine k_build plc64 zero64 rfl Parts.nil (by rfl) rfl ?_
          refine k_as (v := .agg #[.slice none 0 0]) rfl ?_
          refine k_box rfl rfl ?_
          intro s38 b38 st38 h38 ge38
          have szs38 := st38.size
          have hS := hS.trans0 st38
          replace h1 := h1.up2 st38
          replace tb0 := tb0.up2 st38
          have lt38 := h38.lt
          refine k_assign rfl rfl ?_
          refine k_nil ?_
          refine k_keep [(1, _), (2, _), (4, _), (5, _), (8, _)] ⟨rfl, rfl, rfl, rfl, rfl, trivial⟩ ?_
          refine k_seq ?_
          refine k_seq ?_
          refine k_region ?_
          refine k_move rfl rfl ?_
          obtain ⟨x16, hx16, h⟩ := ob h
          refine k_call cal28 rfl (keys_Index_int_Len_w  (OKeysIndexInt.mk_ (⟨[]⟩ : KeysIndexInt) (by omega) (Own.nil (by first | omega | (dsimp only; omega)) (by first | omega | (dsimp only; omega))) h38) hx16) rfl ?_
          rintro s39 vr39 st39 rfl
          have szs39 := st39.size
          have hS := hS.trans0 st39
          replace h1 := h1.up2 st39
          replace h38 := h38.up2 st39
          replace tb0 := tb0.up2 st39
          refine k_neq rfl rfl rfl ?_
          refine k_move rfl rfl ?_
          have hz40 : OKeysIndexInt s39 (b38 + 1) (.pointer (some ⟨b38, 0, none⟩)) (⟨[]⟩ : KeysIndexInt) := (OKeysIndexInt.mk_ (⟨[]⟩ : KeysIndexInt) (by omega) (Own.nil (by first | omega | (dsimp only; omega)) (by first | omega | (dsimp only; omega))) h38)
          have lehz40 := hz40.le
          have nehz40 := hz40.ne
          obtain ⟨x17, hx17, h⟩ := ob h
          have hE41 := Step.r0 (KO (b38 + 1)) s39
          refine k_cutl (X := St) 8 [(1, .pointer (some ⟨b1, 0, none⟩)), (2, .bool false), (4, .int .i64 x1.1), (5, .bool x1.2), (8, (.pointer (some ⟨b38, 0, none⟩))), (78, (.pointer (some ⟨b38, 0, none⟩))), (79, .int .i64 x16), (80, .bool (decide (x16 ≠ 0)))] (fun _ => [(89, .bool x17.1)]) (fun sl wL => sl.w = wL ∧ Step (KO (b38 + 1)) s39 sl ∧ OKeysIndexInt sl (b38 + 1) (.pointer (some ⟨b38, 0, none⟩)) x17.2) ?_ ?_
          ·
           refine k_again 81 rfl ?_
           refine k_split (fun c42 => ?_) (fun c42 => ?_)
           ·
            have hx17 := itT hx17 c42
            refine k_no rfl rfl rfl rfl ?_
            refine k_no rfl rfl rfl rfl ?_
            refine k_no rfl rfl rfl rfl ?_
            refine k_no rfl rfl rfl rfl ?_
            refine k_no rfl rfl rfl rfl ?_
            refine k_no rfl rfl rfl rfl ?_
            refine k_no rfl rfl rfl rfl ?_
            refine k_pickT rfl rfl rfl rfl ?_
            obtain rfl := Option.some.inj hx17
            exact k_met ⟨s39, ⟨rfl, trivial⟩, ⟨rfl, rfl, rfl, rfl, rfl, rfl, rfl, rfl, trivial⟩, rfl, hE41, hz40⟩
           ·
            have hx17 := itF hx17 c42
            refine k_yes rfl rfl ?_
            refine k_move rfl rfl ?_
            refine k_yes rfl rfl ?_
            refine k_field_addr fld47_2 rfl rfl ?_
            refine k_yes rfl rfl ?_
            refine k_load_blk one9 rfl h1 rfl rfl ?_
            refine k_yes rfl rfl ?_
            refine k_field_addr fld47_1 rfl rfl ?_
            refine k_yes rfl rfl ?_
            refine k_load_blk one3 rfl h1 rfl rfl ?_
            refine k_yes rfl rfl ?_
            obtain ⟨x18, hx18, hx17⟩ := ob hx17
            refine k_call cal11 rfl (keys_Index_int_Set_w  hz40 hx18) rfl ?_
            rintro s43 vr43 st43 ⟨rfl, hz40⟩
            have szs43 := st43.size
            have hS := hS.c0 st43
            have hE41 := hE41.c0 st43
            refine k_yes rfl rfl ?_
            refine k_not rfl rfl ?_
            refine k_pickF rfl rfl rfl rfl ?_
            obtain rfl := Option.some.inj hx17
            exact k_met ⟨s43, ⟨rfl, trivial⟩, ⟨rfl, rfl, rfl, rfl, rfl, rfl, rfl, rfl, trivial⟩, rfl, hE41, hz40⟩
          ·
           rintro s44 wL ⟨rfl, hE41, hz40⟩
           have szs44 := hE41.size
           have hS := hS.c0 hE41
           replace h1 := h1.up2 hE41
           replace tb0 := tb0.up2 hE41
           refine k_move rfl rfl ?_
           obtain ⟨x19, hx19, h⟩ := ob h
           have hE45 := Step.r0 K0 s44
           refine k_cutl (X := St) 4 [(1, .pointer (some ⟨b1, 0, none⟩)), (2, .bool false), (4, .int .i64 x1.1), (5, .bool x1.2), (8, (.pointer (some ⟨b38, 0, none⟩))), (78, (.pointer (some ⟨b38, 0, none⟩))), (79, .int .i64 x16), (80, .bool (decide (x16 ≠ 0))), (89, .bool x17.1)] (fun _ => [(94, .bool x19)]) (fun sl wL => sl.w = wL ∧ Step K0 s44 sl) ?_ ?_
           ·
            refine k_again 90 rfl ?_
            refine k_splitb (fun c46 => ?_) (fun c46 => ?_)
            ·
             have hx19 := ibT hx19 c46
             refine k_no rfl rfl rfl rfl ?_
             refine k_no rfl rfl rfl rfl ?_
             refine k_no rfl rfl rfl rfl ?_
             refine k_pickT rfl rfl rfl rfl ?_
             exact k_met ⟨s44, ⟨(congrArg (fun b => some (Value.bool b)) (Option.some.inj hx19)), trivial⟩, ⟨rfl, rfl, rfl, rfl, rfl, rfl, rfl, rfl, rfl, trivial⟩, rfl, hE45⟩
            ·
             have hx19 := ibF hx19 c46
             refine k_yes rfl rfl ?_
             refine k_move rfl rfl ?_
             refine k_yes rfl rfl ?_
             obtain ⟨x20, hx20, hx19⟩ := ob hx19
             refine k_call cal28 rfl (keys_Index_int_Len_w  hz40 hx20) rfl ?_
             rintro s47 vr47 st47 rfl
             have szs47 := st47.size
             have hS := hS.trans0 st47
             have hE45 := hE45.trans0 st47
             refine k_yes rfl rfl ?_
             refine k_neq rfl rfl rfl ?_
             refine k_pickF rfl rfl rfl rfl ?_
             exact k_met ⟨s47, ⟨(congrArg (fun b => some (Value.bool b)) (Option.some.inj hx19)), trivial⟩, ⟨rfl, rfl, rfl, rfl, rfl, rfl, rfl, rfl, rfl, trivial⟩, rfl, hE45⟩
           ·
            rintro s48 wL ⟨rfl, hE45⟩
            have szs48 := hE45.size
            have hS := hS.trans0 hE45
            replace h1 := h1.up2 hE45
            replace hz40 := hz40.up2 hE45
            replace tb0 := tb0.up2 hE45
            refine k_move rfl rfl ?_
            obtain ⟨x21, hx21, h⟩ := ob h
            have hE49 := Step.r0 K0 s48
            refine k_cutl (X := St) 5 [(1, .pointer (some ⟨b1, 0, none⟩)), (2, .bool false), (4, .int .i64 x1.1), (5, .bool x1.2), (8, (.pointer (some ⟨b38, 0, none⟩))), (78, (.pointer (some ⟨b38, 0, none⟩))), (79, .int .i64 x16), (80, .bool (decide (x16 ≠ 0))), (89, .bool x17.1), (94, .bool x19)] (fun _ => [(100, .bool x21)]) (fun sl wL => sl.w = wL ∧ Step K0 s48 sl) ?_ ?_
            ·
             refine k_again 95 rfl ?_
             refine k_splitb (fun c50 => ?_) (fun c50 => ?_)
             ·
              have hx21 := ibT hx21 c50
              refine k_no rfl rfl rfl rfl ?_
              refine k_no rfl rfl rfl rfl ?_
              refine k_no rfl rfl rfl rfl ?_
              refine k_no rfl rfl rfl rfl ?_
              refine k_pickT rfl rfl rfl rfl ?_
              exact k_met ⟨s48, ⟨(congrArg (fun b => some (Value.bool b)) (Option.some.inj hx21)), trivial⟩, ⟨rfl, rfl, rfl, rfl, rfl, rfl, rfl, rfl, rfl, rfl, trivial⟩, rfl, hE49⟩
             ·
              have hx21 := ibF hx21 c50
              refine k_yes rfl rfl ?_
              obtain ⟨x22, hx22, hx21⟩ := ob hx21
              refine k_call cal16 rfl (keys_Merge_int_q_w   hx22) rfl ?_
              rintro s51 vr51 st51 ⟨ub51_0_0, rfl, hg51_0_0, h51_0_0⟩
              have szs51 := st51.size
              have hS := hS.trans0 st51
              have hE49 := hE49.trans0 st51
              refine k_yes rfl rfl ?_
              obtain ⟨x23, hx23, hx21⟩ := ob hx21
              refine k_call cal15 rfl (law12_row_c31q_w  h51_0_0 hx23) rfl ?_
              rintro s52 v52_0 st52 ⟨_, rfl, h52_0⟩
              have szs52 := st52.size
              have hS := hS.trans0 st52
              have hE49 := hE49.trans0 st52
              refine k_yes rfl rfl ?_
              refine k_len Tryd.underlying28 rfl (SL.of_R h52_0).hasLen rfl ?_
              refine k_as (v := .int .i64 (x23.length : Int)) (by simp only [List.length_map]) ?_
              refine k_yes rfl rfl ?_
              refine k_neq rfl rfl rfl ?_
              refine k_pickF rfl rfl rfl rfl ?_
              exact k_met ⟨s52, ⟨(congrArg (fun b => some (Value.bool b)) (Option.some.inj hx21)), trivial⟩, ⟨rfl, rfl, rfl, rfl, rfl, rfl, rfl, rfl, rfl, rfl, trivial⟩, rfl, hE49⟩
            ·
             rintro s53 wL ⟨rfl, hE49⟩
             have szs53 := hE49.size
             have hS := hS.trans0 hE49
             replace h1 := h1.up2 hE49
             replace hz40 := hz40.up2 hE49
             replace tb0 := tb0.up2 hE49
             refine k_nil ?_
             refine k_keep [(1, _), (2, _), (4, _), (5, _), (8, _), (100, _)] ⟨rfl, rfl, rfl, rfl, rfl, rfl, trivial⟩ ?_
             refine k_cond rfl (fun c54 => ?_) (fun c54 => ?_)
             ·
              have h := ibT h c54
              refine k_seq ?_
              refine k_region ?_
              refine k_assign rfl rfl ?_
              refine k_nil ?_
              refine k_keep [(1, _), (2, _), (4, _), (5, _), (8, _)] ⟨rfl, rfl, rfl, rfl, rfl, trivial⟩ ?_
              refine k_ret ?_
              obtain rfl := Option.some.inj h
              refine ⟨_, rfl, Ret.mk hS ?_⟩
              exact rfl
             ·
              have h := ibF h c54
              refine k_skip ?_
              refine k_seq ?_
              refine k_region ?_
              refine k_move rfl rfl ?_
              refine k_field_addr fld47_2 rfl rfl ?_
              refine k_load_blk one9 rfl h1 rfl rfl ?_
              obtain ⟨x24, hx24, h⟩ := ob h
              refine k_call cal23 rfl (keys_Index_int_Get_w  hz40 hx24) rfl ?_
              rintro s55 vr55 st55 rfl
              have szs55 := st55.size
              have hS := hS.trans0 st55
              replace h1 := h1.up2 st55
              replace hz40 := hz40.up2 st55
              replace tb0 := tb0.up2 st55
              refine k_move rfl rfl ?_
              refine k_extract rfl rfl rfl ?_
              refine k_extract rfl rfl rfl ?_
              refine k_assign rfl rfl ?_
              refine k_assign rfl rfl ?_
              refine k_nil ?_
              refine k_keep [(1, _), (2, _), (4, _), (5, _), (8, _)] ⟨rfl, rfl, rfl, rfl, rfl, trivial⟩ ?_
              refine k_seq ?_
              refine k_region ?_
              refine k_move rfl rfl ?_
              refine k_field_addr fld47_1 rfl rfl ?_
              refine k_load_blk one3 rfl h1 rfl rfl ?_
              refine k_eql rfl rfl rfl ?_
              refine k_move rfl rfl ?_
              have hE56 := Step.r0 K0 s55
              refine k_cutl (X := St) 2 [(1, .pointer (some ⟨b1, 0, none⟩)), (2, .bool false), (4, .int .i64 x24.1), (5, .bool x24.2), (8, (.pointer (some ⟨b38, 0, none⟩))), (108, .int .i64 x24.1), (109, .pointer (some ⟨b1, 1, none⟩)), (110, .int .i64 a0.V), (111, .bool (decide (x24.1 = a0.V)))] (fun _ => [(114, .bool (decide ((x24.1 = a0.V) ∧ (x24.2 = true))))]) (fun sl wL => sl.w = wL ∧ Step K0 s55 sl) ?_ ?_
              ·
               refine k_again 112 rfl ?_
               refine k_split (fun c57 => ?_) (fun c57 => ?_)
               ·
                refine k_yes rfl rfl ?_
                refine k_move rfl rfl ?_
                refine k_pickT rfl rfl rfl rfl ?_
                exact k_met ⟨s55, ⟨(congrArg (fun b => some (Value.bool b)) (by first | exact decide_eq_decide.2 ⟨fun h => ⟨c57, h⟩, fun h => h.2⟩ | exact (decide_eq_false (fun h => c57 h.1)).symm | (simp [c57]; done) | (simp [c57, i64] <;> omega))), trivial⟩, ⟨rfl, rfl, rfl, rfl, rfl, rfl, rfl, rfl, rfl, trivial⟩, rfl, hE56⟩
               ·
                refine k_no rfl rfl rfl rfl ?_
                refine k_pickF rfl rfl rfl rfl ?_
                exact k_met ⟨s55, ⟨(congrArg (fun b => some (Value.bool b)) (by first | exact decide_eq_decide.2 ⟨fun h => ⟨c57, h⟩, fun h => h.2⟩ | exact (decide_eq_false (fun h => c57 h.1)).symm | (simp [c57]; done) | (simp [c57, i64] <;> omega))), trivial⟩, ⟨rfl, rfl, rfl, rfl, rfl, rfl, rfl, rfl, rfl, trivial⟩, rfl, hE56⟩
              ·
               rintro s58 wL ⟨rfl, hE56⟩
               have szs58 := hE56.size
               have hS := hS.trans0 hE56
               replace h1 := h1.up2 hE56
               replace hz40 := hz40.up2 hE56
               replace tb0 := tb0.up2 hE56
               refine k_move rfl rfl ?_
               obtain ⟨x25, hx25, h⟩ := ob h
               have hE59 := Step.r0 (KO (b38 + 1)) s58
               refine k_cutl (X := St) 5 [(1, .pointer (some ⟨b1, 0, none⟩)), (2, .bool false), (4, .int .i64 x24.1), (5, .bool x24.2), (8, (.pointer (some ⟨b38, 0, none⟩))), (108, .int .i64 x24.1), (109, .pointer (some ⟨b1, 1, none⟩)), (110, .int .i64 a0.V), (111, .bool (decide (x24.1 = a0.V))), (114, .bool (decide ((x24.1 = a0.V) ∧ (x24.2 = true))))] (fun _ => [(120, .bool x25.1)]) (fun sl wL => sl.w = wL ∧ Step (KO (b38 + 1)) s58 sl ∧ OKeysIndexInt sl (b38 + 1) (.pointer (some ⟨b38, 0, none⟩)) x25.2) ?_ ?_
               ·
                refine k_again 115 rfl ?_
                refine k_split (fun c60 => ?_) (fun c60 => ?_)
                ·
                 have hx25 := itT hx25 c60
                 refine k_yes rfl rfl ?_
                 refine k_move rfl rfl ?_
                 refine k_yes rfl rfl ?_
                 refine k_field_addr fld47_2 rfl rfl ?_
                 refine k_yes rfl rfl ?_
                 refine k_load_blk one9 rfl h1 rfl rfl ?_
                 refine k_yes rfl rfl ?_
                 obtain ⟨x26, hx26, hx25⟩ := ob hx25
                 refine k_call cal22 rfl (keys_Index_int_Delete_w  hz40 hx26) rfl ?_
                 rintro s61 vr61 st61 ⟨rfl, hz40⟩
                 have szs61 := st61.size
                 have hS := hS.c0 st61
                 have hE59 := hE59.c0 st61
                 refine k_pickT rfl rfl rfl rfl ?_
                 obtain rfl := Option.some.inj hx25
                 exact k_met ⟨s61, ⟨rfl, trivial⟩, ⟨rfl, rfl, rfl, rfl, rfl, rfl, rfl, rfl, rfl, rfl, trivial⟩, rfl, hE59, hz40⟩
                ·
                 have hx25 := itF hx25 c60
                 refine k_no rfl rfl rfl rfl ?_
                 refine k_no rfl rfl rfl rfl ?_
                 refine k_no rfl rfl rfl rfl ?_
                 refine k_no rfl rfl rfl rfl ?_
                 refine k_pickF rfl rfl rfl rfl ?_
                 obtain rfl := Option.some.inj hx25
                 exact k_met ⟨s58, ⟨rfl, trivial⟩, ⟨rfl, rfl, rfl, rfl, rfl, rfl, rfl, rfl, rfl, rfl, trivial⟩, rfl, hE59, hz40⟩
               ·
                rintro s62 wL ⟨rfl, hE59, hz40⟩
                have szs62 := hE59.size
                have hS := hS.c0 hE59
                replace tb0 := tb0.up2 hE59
                refine k_move rfl rfl ?_
                obtain ⟨x27, hx27, h⟩ := ob h
                have hE63 := Step.r0 K0 s62
                refine k_cutl (X := St) 2 [(1, .pointer (some ⟨b1, 0, none⟩)), (2, .bool false), (4, .int .i64 x24.1), (5, .bool x24.2), (8, (.pointer (some ⟨b38, 0, none⟩))), (108, .int .i64 x24.1), (109, .pointer (some ⟨b1, 1, none⟩)), (110, .int .i64 a0.V), (111, .bool (decide (x24.1 = a0.V))), (114, .bool (decide ((x24.1 = a0.V) ∧ (x24.2 = true)))), (120, .bool x25.1)] (fun _ => [(123, .bool x27)]) (fun sl wL => sl.w = wL ∧ Step K0 s62 sl) ?_ ?_
                ·
                 refine k_again 121 rfl ?_
                 refine k_splitb (fun c64 => ?_) (fun c64 => ?_)
                 ·
                  have hx27 := ibT hx27 c64
                  refine k_yes rfl rfl ?_
                  obtain ⟨x28, hx28, hx27⟩ := ob hx27
                  refine k_call cal9 rfl (law12_awake_w  tb0 hx28) rfl ?_
                  rintro s65 vr65 st65 rfl
                  have szs65 := st65.size
                  have hS := hS.trans0 st65
                  have hE63 := hE63.trans0 st65
                  refine k_pickT rfl rfl rfl rfl ?_
                  exact k_met ⟨s65, ⟨(congrArg (fun b => some (Value.bool b)) (Option.some.inj hx27)), trivial⟩, ⟨rfl, rfl, rfl, rfl, rfl, rfl, rfl, rfl, rfl, rfl, rfl, trivial⟩, rfl, hE63⟩
                 ·
                  have hx27 := ibF hx27 c64
                  refine k_no rfl rfl rfl rfl ?_
                  refine k_pickF rfl rfl rfl rfl ?_
                  exact k_met ⟨s62, ⟨(congrArg (fun b => some (Value.bool b)) (Option.some.inj hx27)), trivial⟩, ⟨rfl, rfl, rfl, rfl, rfl, rfl, rfl, rfl, rfl, rfl, rfl, trivial⟩, rfl, hE63⟩
                ·
                 rintro s66 wL ⟨rfl, hE63⟩
                 have szs66 := hE63.size
                 have hS := hS.trans0 hE63
                 refine k_assign rfl rfl ?_
                 refine k_nil ?_
                 refine k_keep [(2, _)] ⟨rfl, trivial⟩ ?_
                 refine k_ret ?_
                 obtain rfl := Option.some.inj h
                 refine ⟨_, rfl, Ret.mk hS ?_⟩
                 exact rfl
end Go.Proofs
