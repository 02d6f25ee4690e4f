import Derived.Test.YtecbmbcdinkccaaDoorW01DValueBack0
set_option linter.unusedSimpArgs false
set_option linter.unusedVariables false
namespace Go.Proofs
open Go.Fw
set_option maxHeartbeats 1000000 in
set_option maxRecDepth 100000 in
theorem strconv_AppendUint_nl_w {s : St} {a1 : UInt64} {a2 : Int} {r : (List UInt8)} (tb2 : Tab2 s) (h : strconv_AppendUint_nl a1 a2 = some r) : Calls Tryd.prog 50 #[.slice none 0 0, .int .u64 (a1.toNat : Int), .int .i64 a2] s.w (Ret s K0 (fun s1 v => ∃ (u0 : Value), v = u0 ∧ R s1 u0 (.sl 1 (r.map bD)))) := by
 unfold strconv_AppendUint_nl at h
 have hS := Step.r0 K0 s
 refine k_fn (rs := [6]) (args := [.slice none 0 0, .int .u64 (a1.toNat : Int), .int .i64 a2]) Tryd.func50 rfl rfl rfl rfl ?_
 refine k_seq ?_
 refine k_region ?_
 refine k_assign rfl rfl ?_
 refine k_nil ?_
 refine k_seq ?_
 refine k_seq ?_
 refine k_region ?_
 refine k_move rfl rfl ?_
 refine k_eql rfl rfl rfl ?_
 refine k_nil ?_
 refine k_keep [(0, _), (1, _), (2, _), (6, _), (10, _)] ⟨rfl, rfl, rfl, rfl, rfl, trivial⟩ ?_
 refine k_cond_dec rfl (fun c1 => ?_) (fun c1 => ?_)
 ·
  have h := itT h c1
  refine k_seq ?_
  refine k_seq ?_
  refine k_region ?_
  refine k_move rfl rfl ?_
  refine k_lss rfl rfl rfl ?_
  refine k_nil ?_
  refine k_keep [(0, _), (1, _), (2, _), (6, _), (12, _)] ⟨rfl, rfl, rfl, rfl, rfl, trivial⟩ ?_
  refine k_cond_dec rfl (fun c2 => ?_) (fun c2 => ?_)
  ·
   have h := itT h c2
   refine k_seq ?_
   refine k_region ?_
   refine k_move rfl rfl ?_
   refine k_move rfl rfl ?_
   refine k_conv (p := (a1.toNat : Int)) Tryd.underlying81 Tryd.underlying3 rfl rfl ?_
   by_cases c3 : 0 ≤ i64 (a1.toNat : Int) ∧ i64 (a1.toNat : Int) < 100
   case neg => exact (noneNe (itF h c3)).elim
   replace h := itT h c3
   refine k_call cal65 rfl (small_w (a0 := (i64 (a1.toNat : Int))) c3) rfl ?_
   rintro s4 _ st4 rfl
   have szs4 := st4.size
   have hS := hS.trans0 st4
   obtain ⟨x1, hx1, h⟩ := ob h
   refine k_append_str_nil 1017 elem37 rfl rfl Tryd.underlying9 rfl rfl (by have := (app_out hx1).1; omega) rfl ?_
   intro s5 v5 st5 h5
   rw [← List.nil_append (decF 30 (i64 (a1.toNat : Int)).toNat), ← (app_out hx1).2] at h5
   have szs5 := st5.size
   have hS := hS.trans0 st5
   refine k_assign rfl rfl ?_
   refine k_nil ?_
   refine k_keep [(0, _), (1, _), (2, _), (6, _)] ⟨rfl, rfl, rfl, rfl, trivial⟩ ?_
   refine k_ret ?_
   obtain ⟨s6, e6, st6, h6⟩ := h5.freeze
   rw [← e6]
   have szs6 := st6.size
   have hS := hS.c0 st6
   obtain rfl := Option.some.inj h
   refine ⟨_, rfl, Ret.mk hS ?_⟩
   exact ⟨_, rfl, h6⟩
  ·
   have h := itF h c2
   refine k_skip ?_
   refine k_seq ?_
   refine k_region ?_
   refine k_alloc zero94 rfl ?_
   intro s7 b7 st7 h7 ge7
   have szs7 := st7.size
   have hS := hS.trans0 st7
   replace tb2 := tb2.up2 st7
   have lt7 := h7.lt
   refine k_nil ?_
   refine k_keep [(0, _), (1, _), (2, _), (6, _), (7, _)] ⟨rfl, rfl, rfl, rfl, rfl, trivial⟩ ?_
   refine k_seq ?_
   refine k_region ?_
   refine k_move rfl rfl ?_
   by_cases c8 : 1 ≤ a1.toNat
   case neg => exact (noneNe (itF h c8)).elim
   replace h := itT h c8
   refine k_call cal66 rfl (numDigits_w (a0 := a1) tb2 c8) rfl ?_
   rintro s9 _ st9 rfl
   have szs9 := st9.size
   have hS := hS.trans0 st9
   replace h7 := h7.up2 st9
   refine k_assign rfl rfl ?_
   refine k_nil ?_
   refine k_keep [(0, _), (1, _), (2, _), (6, _), (7, _), (8, _)] ⟨rfl, rfl, rfl, rfl, rfl, rfl, trivial⟩ ?_
   refine k_seq ?_
   refine k_region ?_
   refine k_move rfl rfl ?_
   by_cases c11 : 0 ≤ ((decF 30 a1.toNat).length : Int) ∧ ((decF 30 a1.toNat).length : Int) ≤ 24
   case neg => exact (noneNe (itF h c11)).elim
   replace h := itT h c11
   have hj10 : (((decF 30 a1.toNat).length : Int) : Int).toNat ≤ (List.replicate 24 (0 : UInt8)).length := by have hq : (List.replicate 24 (0 : UInt8)).length = 24 := (List.length_replicate); omega
   refine k_cut_rowx (g := bD) (xs := (List.replicate 24 (0 : UInt8))) (j := (((decF 30 a1.toNat).length : Int) : Int).toNat) cB (fun _ => rfl) (fun _ => rfl) arr94 rfl h7 (List.length_replicate) (CutAt.int rfl c11.1) (by omega) rfl ?_
   intro h12
   refine k_move rfl rfl ?_
   by_cases c14 : (decF 30 a1.toNat).length = (((decF 30 a1.toNat).length : Int) : Int).toNat ∧ (((decF 30 a1.toNat).length : Int) : Int).toNat < 1000
   case neg => exact (noneNe (itF h c14)).elim
   replace h := itT h c14
   refine k_call cal67 rfl (fmt10_w (xs := (List.replicate 24 (0 : UInt8))) (a1 := a1) h7 (by first | (simp; done) | omega | (dsimp only; omega)) hj10 c14) rfl ?_
   rintro s13 _ st13 ⟨rfl, h7⟩
   have hl13 : (decF 30 a1.toNat ++ (List.replicate 24 (0 : UInt8)).drop (((decF 30 a1.toNat).length : Int) : Int).toNat).length = 24 := by have hq := hj10; have hq2 : (List.replicate 24 (0 : UInt8)).length = 24 := (List.length_replicate); rw [List.length_append, List.length_drop, c14.1]; omega
   have szs13 := st13.size
   have hS := hS.c0 st13
   refine k_nil ?_
   refine k_keep [(0, _), (1, _), (2, _), (6, _), (7, _), (8, _)] ⟨rfl, rfl, rfl, rfl, rfl, rfl, trivial⟩ ?_
   refine k_seq ?_
   refine k_region ?_
   refine k_move rfl rfl ?_
   refine k_move rfl rfl ?_
   by_cases c16 : 0 ≤ ((decF 30 a1.toNat).length : Int) ∧ ((decF 30 a1.toNat).length : Int) ≤ 24
   case neg => exact (noneNe (itF h c16)).elim
   replace h := itT h c16
   have hj15 : (((decF 30 a1.toNat).length : Int) : Int).toNat ≤ (decF 30 a1.toNat ++ (List.replicate 24 (0 : UInt8)).drop (((decF 30 a1.toNat).length : Int) : Int).toNat).length := by have hq : (decF 30 a1.toNat ++ (List.replicate 24 (0 : UInt8)).drop (((decF 30 a1.toNat).length : Int) : Int).toNat).length = 24 := hl13; omega
   refine k_cut_rowx (g := bD) (xs := (decF 30 a1.toNat ++ (List.replicate 24 (0 : UInt8)).drop (((decF 30 a1.toNat).length : Int) : Int).toNat)) (j := (((decF 30 a1.toNat).length : Int) : Int).toNat) cB (fun _ => rfl) (fun _ => rfl) arr94 rfl h7 hl13 (CutAt.int rfl c16.1) (by omega) rfl ?_
   intro h17
   obtain ⟨x2, hx2, h⟩ := ob h
   refine k_append_nil (es := ((decF 30 a1.toNat ++ (List.replicate 24 (0 : UInt8)).drop (((decF 30 a1.toNat).length : Int) : Int).toNat).take (((decF 30 a1.toNat).length : Int) : Int).toNat).map bD) 1027 elem37 rfl rfl h17 (by have := (app_out hx2).1; simp only [List.length_map, List.length_nil] at *; omega) (by have := (app_out hx2).1; simp only [List.length_map, List.length_nil] at *; omega) rfl ?_
   intro s18 v18 st18 h18
   rw [← List.nil_append (((decF 30 a1.toNat ++ (List.replicate 24 (0 : UInt8)).drop (((decF 30 a1.toNat).length : Int) : Int).toNat).take (((decF 30 a1.toNat).length : Int) : Int).toNat)), ← (app_out hx2).2] at h18
   have szs18 := st18.size
   have hS := hS.trans0 st18
   refine k_assign rfl rfl ?_
   refine k_nil ?_
   refine k_keep [(0, _), (1, _), (2, _), (6, _)] ⟨rfl, rfl, rfl, rfl, trivial⟩ ?_
   refine k_ret ?_
   obtain ⟨s19, e19, st19, h19⟩ := h18.freeze
   rw [← e19]
   have szs19 := st19.size
   have hS := hS.c0 st19
   obtain rfl := Option.some.inj h
   refine ⟨_, rfl, Ret.mk hS ?_⟩
   exact ⟨_, rfl, h19⟩
 ·
  have h := itF h c1
  refine k_skip ?_
  refine k_seq ?_
  refine k_region ?_
  refine k_move rfl rfl ?_
  refine k_move rfl rfl ?_
  refine k_move rfl rfl ?_
  by_cases c20 : (0 : Nat) = 1
  case neg => exact (noneNe (itF h c20)).elim
  replace h := itT h c20
  refine k_call cal68 rfl (show Calls Tryd.prog 68 #[.slice none 0 0, .int .u64 (a1.toNat : Int), .int .i64 a2, .bool false, .bool true] s.w (Ret s K0 (fun _ v => v = .tuple #[.slice none 0 0, S ([] : List UInt8)])) from absurd c20 (by decide)) rfl ?_
  rintro s21 _ st21 rfl
  have szs21 := st21.size
  have hS := hS.trans0 st21
  refine k_move rfl rfl ?_
  refine k_extract rfl rfl rfl ?_
  refine k_extract rfl rfl rfl ?_
  refine k_assign rfl rfl ?_
  refine k_nil ?_
  refine k_keep [(0, _), (6, _)] ⟨rfl, rfl, trivial⟩ ?_
  refine k_seq ?_
  refine k_region ?_
  refine k_move rfl rfl ?_
  refine k_assign rfl rfl ?_
  refine k_nil ?_
  refine k_keep [(6, _)] ⟨rfl, trivial⟩ ?_
  refine k_ret ?_
  obtain rfl := Option.some.inj h
  refine ⟨_, rfl, Ret.mk hS ?_⟩
  exact ⟨_, rfl, (R.of_SL (.inl ⟨rfl, none, 0, rfl, fun _ => rfl⟩))⟩

set_option maxHeartbeats 1000000 in
set_option maxRecDepth 100000 in
theorem strconv_AppendInt_nl_w {s : St} {a1 : Int} {a2 : Int} {r : (List UInt8)} (tb2 : Tab2 s) (h : strconv_AppendInt_nl a1 a2 = some r) : Calls Tryd.prog 36 #[.slice none 0 0, .int .i64 a1, .int .i64 a2] s.w (Ret s K0 (fun s1 v => ∃ (u0 : Value), v = u0 ∧ R s1 u0 (.sl 1 (r.map bD)))) := by
 unfold strconv_AppendInt_nl at h
 have hS := Step.r0 K0 s
 refine k_fn (rs := [6]) (args := [.slice none 0 0, .int .i64 a1, .int .i64 a2]) Tryd.func36 rfl rfl rfl rfl ?_
 refine k_seq ?_
 refine k_region ?_
 refine k_assign rfl rfl ?_
 refine k_nil ?_
 refine k_seq ?_
 refine k_region ?_
 refine k_move rfl rfl ?_
 refine k_conv (p := a1) Tryd.underlying2 Tryd.underlying81 rfl rfl ?_
 refine k_as (congrArg (Value.int .u64) (w64 _)) ?_
 refine k_assign rfl rfl ?_
 refine k_nil ?_
 refine k_keep [(0, _), (1, _), (2, _), (6, _), (7, _)] ⟨rfl, rfl, rfl, rfl, rfl, trivial⟩ ?_
 refine k_seq ?_
 refine k_seq ?_
 refine k_region ?_
 refine k_move rfl rfl ?_
 refine k_lss rfl rfl rfl ?_
 refine k_nil ?_
 refine k_keep [(0, _), (2, _), (6, _), (7, _), (11, _)] ⟨rfl, rfl, rfl, rfl, rfl, trivial⟩ ?_
 refine k_cond_dec rfl (fun c1 => ?_) (fun c1 => ?_)
 ·
  have h := itT h c1
  refine k_seq ?_
  refine k_region ?_
  refine k_move rfl rfl ?_
  refine k_bslice2 (ds := ([(45 : UInt8)] : List UInt8).map bD) slc37 rfl (RVs.cons (R.val rfl) RVs.nil) (by rfl) (by rfl) rfl rfl ?_
  intro s2 v2 b2 st2 ge2 bl2 h2
  have szs2 := st2.size
  have hS := hS.trans0 st2
  replace tb2 := tb2.up2 st2
  have lt2 := Own.le1 h2
  obtain ⟨x1, hx1, h⟩ := ob h
  refine k_append_nil (es := ([(45 : UInt8)] : List UInt8).map bD) 1014 elem37 rfl rfl (h2.sl) (by have := (app_out hx1).1; simp only [List.length_map, List.length_nil] at *; omega) (by have := (app_out hx1).1; simp only [List.length_map, List.length_nil] at *; omega) rfl ?_
  intro s3 v3 st3 h3
  rw [← List.nil_append (([(45 : UInt8)] : List UInt8)), ← (app_out hx1).2] at h3
  have szs3 := st3.size
  have hS := hS.trans0 st3
  replace tb2 := tb2.up2 st3
  have lq3 : s2.n + 1 ≤ s3.n := Own.le_ne h3 (fun e_ => app_ne hx1 (by simp) (List.map_eq_nil_iff.1 e_))
  refine k_assign rfl rfl ?_
  refine k_nil ?_
  refine k_keep [(0, _), (2, _), (6, _), (7, _)] ⟨rfl, rfl, rfl, rfl, trivial⟩ ?_
  refine k_region ?_
  refine k_move rfl rfl ?_
  refine k_neg rfl rfl ?_
  refine k_as (congrArg (Value.int .u64) (w64 _)) ?_
  refine k_assign rfl rfl ?_
  refine k_nil ?_
  refine k_keep [(0, _), (2, _), (6, _), (7, _)] ⟨rfl, rfl, rfl, rfl, trivial⟩ ?_
  refine k_seq ?_
  refine k_region ?_
  refine k_move rfl rfl ?_
  refine k_move rfl rfl ?_
  refine k_move rfl rfl ?_
  obtain ⟨x2, hx2, h⟩ := ob h
  refine k_call cal50 rfl (strconv_AppendUint_w  h3 (by first | assumption | omega | (dsimp only; omega) | (simp <;> omega)) tb2 hx2) rfl ?_
  rintro s4 v4_0 st4 ⟨_, rfl, h4_0⟩
  have szs4 := st4.size
  have hS := hS.c0 st4
  refine k_assign rfl rfl ?_
  refine k_nil ?_
  refine k_keep [(6, _)] ⟨rfl, trivial⟩ ?_
  refine k_ret ?_
  obtain rfl := Option.some.inj h
  refine ⟨_, rfl, Ret.mk hS ?_⟩
  exact ⟨_, rfl, h4_0⟩
 ·
  have h := itF h c1
  refine k_skip ?_
  refine k_seq ?_
  refine k_region ?_
  refine k_move rfl rfl ?_
  refine k_move rfl rfl ?_
  refine k_move rfl rfl ?_
  obtain ⟨x3, hx3, h⟩ := ob h
  refine k_call cal50 rfl (strconv_AppendUint_nl_w  tb2 hx3) rfl ?_
  rintro s5 v5_0 st5 ⟨_, rfl, h5_0⟩
  have szs5 := st5.size
  have hS := hS.trans0 st5
  refine k_assign rfl rfl ?_
  refine k_nil ?_
  refine k_keep [(6, _)] ⟨rfl, trivial⟩ ?_
  refine k_ret ?_
  obtain rfl := Option.some.inj h
  refine ⟨_, rfl, Ret.mk hS ?_⟩
  exact ⟨_, rfl, h5_0⟩

set_option maxHeartbeats 1000000 in
set_option maxRecDepth 100000 in
theorem strconv_AppendInt_nl_p_w {s : St} {a1 : Int} {a2 : Int} {r : (List UInt8)} (tb2 : Tab2 s) (h : strconv_AppendInt_nl_p a1 a2 = some r) : Calls Tryd.prog 18 #[.slice none 0 0, .int .i64 a1, .int .i64 a2] s.w (Ret s K0 (fun s1 v => ∃ (u0 : Value), v = u0 ∧ R s1 u0 (.sl 1 (r.map bD)))) := by
 unfold strconv_AppendInt_nl_p at h
 have hS := Step.r0 K0 s
 refine k_fn (rs := [6]) (args := [.slice none 0 0, .int .i64 a1, .int .i64 a2]) Tryd.func18 rfl rfl rfl rfl ?_
 refine k_seq ?_
 refine k_region ?_
 refine k_assign rfl rfl ?_
 refine k_nil ?_
 refine k_seq ?_
 refine k_region ?_
 refine k_move rfl rfl ?_
 refine k_move rfl rfl ?_
 refine k_move rfl rfl ?_
 obtain ⟨x1, hx1, h⟩ := ob h
 refine k_call cal36 rfl (strconv_AppendInt_nl_w  tb2 hx1) rfl ?_
 rintro s1 v1_0 st1 ⟨_, rfl, h1_0⟩
 have szs1 := st1.size
 have hS := hS.trans0 st1
 refine k_assign rfl rfl ?_
 refine k_nil ?_
 refine k_keep [(6, _)] ⟨rfl, trivial⟩ ?_
 refine k_ret ?_
 obtain rfl := Option.some.inj h
 refine ⟨_, rfl, Ret.mk hS ?_⟩
 exact ⟨_, rfl, h1_0⟩

set_option maxHeartbeats 1000000 in
set_option maxRecDepth 100000 in
theorem value_quoted_nl_w {s : St} {a1 : (List UInt8)} {r : (List UInt8)}  (h : value_quoted_nl a1 = some r) : Calls Tryd.prog 19 #[.slice none 0 0, S a1] s.w (Ret s K0 (fun s1 v => ∃ (u0 : Value), v = u0 ∧ R s1 u0 (.sl 1 (r.map bD)))) := by
 unfold value_quoted_nl at h
 have hS := Step.r0 K0 s
 refine k_fn (rs := [4]) (args := [.slice none 0 0, S a1]) Tryd.func19 rfl rfl rfl rfl ?_
 refine k_seq ?_
 refine k_region ?_
 refine k_assign rfl rfl ?_
 refine k_nil ?_
 refine k_seq ?_
 refine k_region ?_
 refine k_move rfl rfl ?_
 refine k_bslice2 (ds := ([(34 : UInt8)] : List UInt8).map bD) slc37 rfl (RVs.cons (R.val rfl) RVs.nil) (by rfl) (by rfl) rfl rfl ?_
 intro s1 v1 b1 st1 ge1 bl1 h1
 have szs1 := st1.size
 have hS := hS.trans0 st1
 have lt1 := Own.le1 h1
 obtain ⟨x1, hx1, h⟩ := ob h
 refine k_append_nil (es := ([(34 : UInt8)] : List UInt8).map bD) 1008 elem37 rfl rfl (h1.sl) (by have := (app_out hx1).1; simp only [List.length_map, List.length_nil] at *; omega) (by have := (app_out hx1).1; simp only [List.length_map, List.length_nil] at *; omega) rfl ?_
 intro s2 v2 st2 h2
 rw [← List.nil_append (([(34 : UInt8)] : List UInt8)), ← (app_out hx1).2] at h2
 have szs2 := st2.size
 have hS := hS.trans0 st2
 have lq2 : s1.n + 1 ≤ s2.n := Own.le_ne h2 (fun e_ => app_ne hx1 (by simp) (List.map_eq_nil_iff.1 e_))
 refine k_assign rfl rfl ?_
 refine k_nil ?_
 refine k_keep [(0, _), (1, _), (4, _)] ⟨rfl, rfl, rfl, trivial⟩ ?_
 refine k_seq ?_
 obtain ⟨kj2, hK3, h⟩ := jn_out h
 have hE3 := Step.r0 (KC (s1.n + 1) 1008) s2
 refine k_cutc (X := St × (List UInt8) × Value) [(4, .slice none 0 0)] (fun (xL : St × (List UInt8) × Value) => match xL with | (sl, x3, v4) => [(0, v4)]) (fun (xL : St × (List UInt8) × Value) (wL : World) => match xL with | (sl, x3, v4) => sl.w = wL ∧ Step (KC (s1.n + 1) 1008) s2 sl ∧ (Own sl ⟨s1.n + 1, 1008⟩ 5 1 v4 (x3.map bD)) ∧ kj2 x3 = some r) ?_ ?_
 ·
  refine k_seq ?_
  refine k_region ?_
  refine k_move rfl rfl ?_
  refine k_len_str Tryd.underlying9 rfl rfl ?_
  refine k_move rfl rfl ?_
  refine k_nil ?_
  refine k_keep [(0, _), (1, _), (4, _), (10, _), (11, _)] ⟨rfl, rfl, rfl, rfl, rfl, trivial⟩ ?_
  refine k_block ?_
  refine k_loopc (X := St × (List UInt8) × Value × Int × Nat) [(1, _), (4, _), (10, _)] (fun (xL : St × (List UInt8) × Value × Int × Nat) => match xL with | (sl, x4, v6, x5, j) => [(0, v6), (11, .int .i64 x5)]) (fun (xL : St × (List UInt8) × Value × Int × Nat) (wL : World) => match xL with | (sl, x4, v6, x5, j) => sl.w = wL ∧ Step (KC (s1.n + 1) 1008) s2 sl ∧ (Own sl ⟨s1.n + 1, 1008⟩ 5 1 v6 (x4.map bD)) ∧ value_quoted_nl_l1 a1 kj2 j x4 x5 = some r) (fun (xL : St × (List UInt8) × Value × Int × Nat) => match xL with | (sl, x4, v6, x5, j) => j) (s2, x1, v2, 0, FU) ⟨rfl, rfl, rfl, trivial⟩ ⟨(by first | rfl | (simp <;> rfl)), (by first | rfl | (simp <;> rfl)), trivial⟩ ⟨rfl, (Step.refl _).of0 (by first | exact fun _ h => h | (intro c h; simp [KC, KO, KU, KN, KB] at h <;> omega)), h2, h⟩ ?_
  rintro ⟨s7, x4, v6, x5, j⟩ wL ⟨rfl, hE5, h6, h⟩
  cases j with
  | zero => rw [value_quoted_nl_l1] at h; exact (noneNe h).elim
  | succ j =>
  rw [value_quoted_nl_l1] at h
  have szs7 := hE5.size
  have hS := hS.c0 hE5
  have hE3 := hE3.c0 hE5
  refine k_seq ?_
  refine k_region ?_
  refine k_lss rfl rfl rfl ?_
  refine k_nil ?_
  refine k_seq ?_
  refine k_cond_dec rfl (fun c8 => ?_) (fun c8 => ?_)
  ·
   have h := itT h c8
   refine k_skip ?_
   refine k_seq ?_
   refine k_block ?_
   refine k_seq ?_
   refine k_region ?_
   refine k_move rfl rfl ?_
   refine k_assign rfl rfl ?_
   refine k_nil ?_
   refine k_keep [(0, _), (1, _), (4, _), (5, _), (10, _), (11, _)] ⟨rfl, rfl, rfl, rfl, rfl, rfl, trivial⟩ ?_
   refine k_seq ?_
   obtain ⟨kj6, hK9, h⟩ := jn_out h
   have hE9 := Step.r0 (KC (s1.n + 1) 1008) s7
   refine k_cutc (X := St × (List UInt8) × Value) [(1, S a1), (4, .slice none 0 0), (5, .int .i64 x5), (10, .int .i64 (a1.length : Int)), (11, .int .i64 x5)] (fun (xL : St × (List UInt8) × Value) => match xL with | (sl, x7, v10) => [(0, v10)]) (fun (xL : St × (List UInt8) × Value) (wL : World) => match xL with | (sl, x7, v10) => sl.w = wL ∧ Step (KC (s1.n + 1) 1008) s7 sl ∧ (Own sl ⟨s1.n + 1, 1008⟩ 5 1 v10 (x7.map bD)) ∧ kj6 x7 = some r) ?_ ?_
   ·
    refine k_seq ?_
    refine k_region ?_
    refine k_move rfl rfl ?_
    refine k_move rfl rfl ?_
    obtain ⟨x8, hx8, h⟩ := ob h
    refine k_index_str Tryd.underlying9 rfl rfl (geti_out hx8).1 (geti_out hx8).2.1 rfl ?_
    refine k_as (congrArg (fun c : UInt8 => Value.int .u8 (c.toNat : Int)) (geti_getD hx8)) ?_
    refine k_eql rfl rfl rfl ?_
    refine k_move rfl rfl ?_
    obtain ⟨x9, hx9, h⟩ := ob h
    have hE11 := Step.r0 K0 s7
    refine k_cutl (X := St) 5 [(0, v6), (1, S a1), (4, .slice none 0 0), (5, .int .i64 x5), (10, .int .i64 (a1.length : Int)), (11, .int .i64 x5), (14, S a1), (15, .int .i64 x5), (16, .int .u8 (x8.toNat : Int)), (17, .bool (decide ((x8.toNat : Int) = 34)))] (fun _ => [(23, .bool x9)]) (fun sl wL => sl.w = wL ∧ Step K0 s7 sl) ?_ ?_
    ·
     refine k_again 18 rfl ?_
     refine k_split (fun c12 => ?_) (fun c12 => ?_)
     ·
      have hx9 := itT hx9 c12
      refine k_no rfl rfl rfl rfl ?_
      refine k_no rfl rfl rfl rfl ?_
      refine k_no rfl rfl rfl rfl ?_
      refine k_no rfl rfl rfl rfl ?_
      refine k_pickT rfl rfl rfl rfl ?_
      exact k_met ⟨s7, ⟨(congrArg (fun b => some (Value.bool b)) (Option.some.inj hx9)), trivial⟩, ⟨rfl, rfl, rfl, rfl, rfl, rfl, rfl, rfl, rfl, rfl, trivial⟩, rfl, hE11⟩
     ·
      have hx9 := itF hx9 c12
      refine k_yes rfl rfl ?_
      refine k_move rfl rfl ?_
      refine k_yes rfl rfl ?_
      refine k_move rfl rfl ?_
      refine k_yes rfl rfl ?_
      obtain ⟨x10, hx10, hx9⟩ := ob hx9
      refine k_index_str Tryd.underlying9 rfl rfl (geti_out hx10).1 (geti_out hx10).2.1 rfl ?_
      refine k_as (congrArg (fun c : UInt8 => Value.int .u8 (c.toNat : Int)) (geti_getD hx10)) ?_
      refine k_yes rfl rfl ?_
      refine k_eql rfl rfl rfl ?_
      refine k_pickF rfl rfl rfl rfl ?_
      exact k_met ⟨s7, ⟨(congrArg (fun b => some (Value.bool b)) (Option.some.inj hx9)), trivial⟩, ⟨rfl, rfl, rfl, rfl, rfl, rfl, rfl, rfl, rfl, rfl, trivial⟩, rfl, hE11⟩
    ·
     rintro s13 wL ⟨rfl, hE11⟩
     have szs13 := hE11.size
     have hS := hS.trans0 hE11
     have hE3 := hE3.trans0 hE11
     have hE5 := hE5.trans0 hE11
     have hE9 := hE9.trans0 hE11
     replace h6 := h6.up2 hE11
     refine k_nil ?_
     refine k_keep [(0, _), (1, _), (4, _), (5, _), (10, _), (11, _), (23, _)] ⟨rfl, rfl, rfl, rfl, rfl, rfl, rfl, trivial⟩ ?_
     refine k_cond rfl (fun c14 => ?_) (fun c14 => ?_)
     ·
      have h := ibT h c14
      refine k_region ?_
      refine k_move rfl rfl ?_
      refine k_bslice2 (ds := ([(92 : UInt8)] : List UInt8).map bD) slc37 rfl (RVs.cons (R.val rfl) RVs.nil) (by rfl) (by rfl) rfl rfl ?_
      intro s15 v15 b15 st15 ge15 bl15 h15
      have szs15 := st15.size
      have hS := hS.trans0 st15
      have hE3 := hE3.trans0 st15
      have hE5 := hE5.trans0 st15
      have hE9 := hE9.trans0 st15
      replace h6 := h6.up2 st15
      have lt15 := Own.le1 h15
      obtain ⟨x11, hx11, h⟩ := ob h
      refine k_append (es := ([(92 : UInt8)] : List UInt8).map bD) elem37 rfl rfl h6 (h15.sl) (by have := (app_out hx11).1; simp only [List.length_map] at *; omega) (by have := (app_out hx11).1; simp only [List.length_map] at *; omega) rfl ?_
      intro s16 v16 st16 h16
      rw [← List.map_append, ← (app_out hx11).2] at h16
      have szs16 := st16.size
      have hS := hS.c0 st16
      have hE3 := hE3.c0 st16
      have hE5 := hE5.c0 st16
      have hE9 := hE9.c0 st16
      refine k_assign rfl rfl ?_
      refine k_nil ?_
      exact k_stop ⟨(s16, x11, v16), ⟨(by first | rfl | (simp <;> rfl)), trivial⟩, ⟨rfl, rfl, rfl, rfl, rfl, trivial⟩, ⟨rfl, hE9, h16, h⟩⟩
     ·
      have h := ibF h c14
      refine k_skip ?_
      exact k_stop ⟨(s13, x4, v6), ⟨(by first | rfl | (simp <;> rfl)), trivial⟩, ⟨rfl, rfl, rfl, rfl, rfl, trivial⟩, ⟨rfl, hE9, h6, h⟩⟩
   ·
    rintro ⟨s17, x7, v10⟩ wL ⟨rfl, hE9, h10, h⟩
    rw [hK9] at h
    have szs17 := hE9.size
    have hS := hS.c0 hE9
    have hE3 := hE3.c0 hE9
    have hE5 := hE5.c0 hE9
    refine k_region ?_
    refine k_move rfl rfl ?_
    refine k_move rfl rfl ?_
    refine k_move rfl rfl ?_
    obtain ⟨x12, hx12, h⟩ := ob h
    refine k_index_str Tryd.underlying9 rfl rfl (geti_out hx12).1 (geti_out hx12).2.1 rfl ?_
    refine k_as (congrArg (fun c : UInt8 => Value.int .u8 (c.toNat : Int)) (geti_getD hx12)) ?_
    refine k_bslice2 (ds := ([x12] : List UInt8).map bD) slc37 rfl (RVs.cons (R.val rfl) RVs.nil) (by rfl) (by rfl) rfl rfl ?_
    intro s18 v18 b18 st18 ge18 bl18 h18
    have szs18 := st18.size
    have hS := hS.trans0 st18
    have hE3 := hE3.trans0 st18
    have hE5 := hE5.trans0 st18
    replace h10 := h10.up2 st18
    have lt18 := Own.le1 h18
    obtain ⟨x13, hx13, h⟩ := ob h
    refine k_append (es := ([x12] : List UInt8).map bD) elem37 rfl rfl h10 (h18.sl) (by have := (app_out hx13).1; simp only [List.length_map] at *; omega) (by have := (app_out hx13).1; simp only [List.length_map] at *; omega) rfl ?_
    intro s19 v19 st19 h19
    rw [← List.map_append, ← (app_out hx13).2] at h19
    have szs19 := st19.size
    have hS := hS.c0 st19
    have hE3 := hE3.c0 st19
    have hE5 := hE5.c0 st19
    refine k_assign rfl rfl ?_
    refine k_nil ?_
    refine k_blk ?_
    refine k_region ?_
    refine k_add rfl rfl rfl ?_
    refine k_move rfl rfl ?_
    refine k_nil ?_
    exact k_stop ⟨(s19, x13, v19, i64 (x5 + 1), j), ⟨(by first | rfl | (simp <;> rfl)), (by first | rfl | (simp <;> rfl)), trivial⟩, ⟨rfl, rfl, rfl, trivial⟩, ⟨rfl, hE5, h19, h⟩, (by simp)⟩
  ·
   have h := itF h c8
   refine k_exit rfl ?_
   exact k_stop ⟨(s7, x4, v6), ⟨(by first | rfl | (simp <;> rfl)), trivial⟩, ⟨rfl, trivial⟩, ⟨rfl, hE3, h6, h⟩⟩
 ·
  rintro ⟨s20, x3, v4⟩ wL ⟨rfl, hE3, h4, h⟩
  rw [hK3] at h
  have szs20 := hE3.size
  have hS := hS.c0 hE3
  refine k_seq ?_
  refine k_region ?_
  refine k_move rfl rfl ?_
  refine k_bslice2 (ds := ([(34 : UInt8)] : List UInt8).map bD) slc37 rfl (RVs.cons (R.val rfl) RVs.nil) (by rfl) (by rfl) rfl rfl ?_
  intro s21 v21 b21 st21 ge21 bl21 h21
  have szs21 := st21.size
  have hS := hS.trans0 st21
  replace h4 := h4.up2 st21
  have lt21 := Own.le1 h21
  obtain ⟨x14, hx14, h⟩ := ob h
  refine k_append (es := ([(34 : UInt8)] : List UInt8).map bD) elem37 rfl rfl h4 (h21.sl) (by have := (app_out hx14).1; simp only [List.length_map] at *; omega) (by have := (app_out hx14).1; simp only [List.length_map] at *; omega) rfl ?_
  intro s22 v22 st22 h22
  rw [← List.map_append, ← (app_out hx14).2] at h22
  have szs22 := st22.size
  have hS := hS.c0 st22
  refine k_assign rfl rfl ?_
  refine k_nil ?_
  refine k_keep [(4, _)] ⟨rfl, trivial⟩ ?_
  refine k_ret ?_
  obtain ⟨s23, e23, st23, h23⟩ := h22.freeze
  rw [← e23]
  have szs23 := st23.size
  have hS := hS.c0 st23
  obtain rfl := Option.some.inj h
  refine ⟨_, rfl, Ret.mk hS ?_⟩
  exact ⟨_, rfl, h23⟩

set_option maxHeartbeats 1000000 in
set_option maxRecDepth 100000 in
theorem value_text_nl_w {s : St} {cs1 : List Value} {a1 : ApiValue} {r : (List UInt8)} (hp1 : RC s cs1 (dApiValue a1)) (tb2 : Tab2 s) (h : value_text_nl a1 = some r) : Calls Tryd.prog 12 #[.slice none 0 0, .agg cs1.toArray] s.w (Ret s K0 (fun s1 v => ∃ (u0 : Value), v = u0 ∧ R s1 u0 (.sl 1 (r.map bD)))) := by
 unfold value_text_nl at h
 obtain ⟨q1_0, q1_1, rfl, hq1_0, hq1_1⟩ := opnApiValue hp1
 have hS := Step.r0 K0 s
 refine k_fn (rs := [4]) (args := [.slice none 0 0, .agg #[.int .i64 a1.Kind, .int .i64 a1.Num, S a1.Text, q1_0, q1_1]]) Tryd.func12 rfl rfl rfl rfl ?_
 refine k_seq ?_
 refine k_region ?_
 refine k_box rfl rfl ?_
 intro s1 b1 st1 h1 ge1
 have szs1 := st1.size
 have hS := hS.trans0 st1
 replace hq1_0 := hq1_0.up2 st1
 replace hq1_1 := hq1_1.up2 st1
 replace tb2 := tb2.up2 st1
 have lt1 := h1.lt
 refine k_assign rfl rfl ?_
 refine k_nil ?_
 refine k_keep [(0, _), (3, _), (4, _)] ⟨rfl, rfl, rfl, trivial⟩ ?_
 refine k_seq ?_
 obtain ⟨kj1, hK2, h⟩ := jn_out h
 have hE2 := Step.r0 K0 s1
 refine k_cutc (X := St) [(0, .slice none 0 0), (4, .slice none 0 0)] (fun (xL : St) => match xL with | sl => []) (fun (xL : St) (wL : World) => match xL with | sl => sl.w = wL ∧ Step K0 s1 sl ∧ kj1 () = some r) ?_ ?_
 ·
  refine k_seq ?_
  refine k_region ?_
  refine k_field_addr fld25_0 rfl rfl ?_
  refine k_load_blk one3 rfl h1 rfl rfl ?_
  refine k_nil ?_
  refine k_keep [(0, _), (3, _), (4, _), (9, _)] ⟨rfl, rfl, rfl, rfl, trivial⟩ ?_
  refine k_block ?_
  refine k_seq ?_
  refine k_region ?_
  refine k_eql rfl rfl rfl ?_
  refine k_assign rfl rfl ?_
  refine k_nil ?_
  refine k_keep [(0, _), (3, _), (4, _), (9, _), (10, _)] ⟨rfl, rfl, rfl, rfl, rfl, trivial⟩ ?_
  refine k_cond_dec rfl (fun c3 => ?_) (fun c3 => ?_)
  ·
   have h := itT h c3
   refine k_seq ?_
   refine k_region ?_
   refine k_move rfl rfl ?_
   obtain ⟨x2, hx2, h⟩ := ob h
   refine k_append_str_nil 1013 elem37 rfl rfl Tryd.underlying9 rfl rfl (by have := (app_out hx2).1; omega) rfl ?_
   intro s4 v4 st4 h4
   rw [← List.nil_append ([102, 97, 108, 115, 101] : List UInt8), ← (app_out hx2).2] at h4
   have szs4 := st4.size
   have hS := hS.trans0 st4
   have hE2 := hE2.trans0 st4
   have lq4 : s1.n + 1 ≤ s4.n := Own.le_ne h4 (fun e_ => app_ne hx2 (by simp) (List.map_eq_nil_iff.1 e_))
   refine k_assign rfl rfl ?_
   refine k_nil ?_
   refine k_keep [(0, _), (4, _)] ⟨rfl, rfl, trivial⟩ ?_
   refine k_ret ?_
   obtain ⟨s5, e5, st5, h5⟩ := h4.freeze
   rw [← e5]
   have szs5 := st5.size
   have hS := hS.c0 st5
   have hE2 := hE2.c0 st5
   obtain rfl := Option.some.inj h
   refine ⟨_, rfl, Ret.mk hS ?_⟩
   exact ⟨_, rfl, h5⟩
  ·
   have h := itF h c3
   refine k_seq ?_
   refine k_region ?_
   refine k_eql rfl rfl rfl ?_
   refine k_assign rfl rfl ?_
   refine k_nil ?_
   refine k_keep [(0, _), (3, _), (4, _), (9, _), (14, _)] ⟨rfl, rfl, rfl, rfl, rfl, trivial⟩ ?_
   refine k_cond_dec rfl (fun c6 => ?_) (fun c6 => ?_)
   ·
    have h := itT h c6
    refine k_seq ?_
    refine k_region ?_
    refine k_move rfl rfl ?_
    obtain ⟨x3, hx3, h⟩ := ob h
    refine k_append_str_nil 1017 elem37 rfl rfl Tryd.underlying9 rfl rfl (by have := (app_out hx3).1; omega) rfl ?_
    intro s7 v7 st7 h7
    rw [← List.nil_append ([116, 114, 117, 101] : List UInt8), ← (app_out hx3).2] at h7
    have szs7 := st7.size
    have hS := hS.trans0 st7
    have hE2 := hE2.trans0 st7
    have lq7 : s1.n + 1 ≤ s7.n := Own.le_ne h7 (fun e_ => app_ne hx3 (by simp) (List.map_eq_nil_iff.1 e_))
    refine k_assign rfl rfl ?_
    refine k_nil ?_
    refine k_keep [(0, _), (4, _)] ⟨rfl, rfl, trivial⟩ ?_
    refine k_ret ?_
    obtain ⟨s8, e8, st8, h8⟩ := h7.freeze
    rw [← e8]
    have szs8 := st8.size
    have hS := hS.c0 st8
    have hE2 := hE2.c0 st8
    obtain rfl := Option.some.inj h
    refine ⟨_, rfl, Ret.mk hS ?_⟩
    exact ⟨_, rfl, h8⟩
   ·
    have h := itF h c6
    refine k_seq ?_
    refine k_region ?_
    refine k_eql rfl rfl rfl ?_
    refine k_assign rfl rfl ?_
    refine k_nil ?_
    refine k_keep [(0, _), (3, _), (4, _), (9, _), (18, _)] ⟨rfl, rfl, rfl, rfl, rfl, trivial⟩ ?_
    refine k_cond_dec rfl (fun c9 => ?_) (fun c9 => ?_)
    ·
     have h := itT h c9
     refine k_seq ?_
     refine k_region ?_
     refine k_move rfl rfl ?_
     refine k_field_addr fld25_1 rfl rfl ?_
     refine k_load_blk one2 rfl h1 rfl rfl ?_
     obtain ⟨x4, hx4, h⟩ := ob h
     refine k_call cal18 rfl (strconv_AppendInt_nl_p_w  tb2 hx4) rfl ?_
     rintro s10 v10_0 st10 ⟨_, rfl, h10_0⟩
     have szs10 := st10.size
     have hS := hS.trans0 st10
     have hE2 := hE2.trans0 st10
     refine k_assign rfl rfl ?_
     refine k_nil ?_
     refine k_keep [(0, _), (4, _)] ⟨rfl, rfl, trivial⟩ ?_
     refine k_ret ?_
     obtain rfl := Option.some.inj h
     refine ⟨_, rfl, Ret.mk hS ?_⟩
     exact ⟨_, rfl, h10_0⟩
    ·
     have h := itF h c9
     refine k_seq ?_
     refine k_region ?_
     refine k_eql rfl rfl rfl ?_
     refine k_assign rfl rfl ?_
     refine k_nil ?_
     refine k_keep [(0, _), (3, _), (4, _), (9, _), (24, _)] ⟨rfl, rfl, rfl, rfl, rfl, trivial⟩ ?_
     refine k_cond_dec rfl (fun c11 => ?_) (fun c11 => ?_)
     ·
      have h := itT h c11
      refine k_seq ?_
      refine k_region ?_
      refine k_move rfl rfl ?_
      refine k_field_addr fld25_2 rfl rfl ?_
      refine k_load_blk one9 rfl h1 rfl rfl ?_
      obtain ⟨x5, hx5, h⟩ := ob h
      refine k_call cal19 rfl (value_quoted_nl_w   hx5) rfl ?_
      rintro s12 v12_0 st12 ⟨_, rfl, h12_0⟩
      have szs12 := st12.size
      have hS := hS.trans0 st12
      have hE2 := hE2.trans0 st12
      refine k_assign rfl rfl ?_
      refine k_nil ?_
      refine k_keep [(0, _), (4, _)] ⟨rfl, rfl, trivial⟩ ?_
      refine k_ret ?_
      obtain rfl := Option.some.inj h
      refine ⟨_, rfl, Ret.mk hS ?_⟩
      exact ⟨_, rfl, h12_0⟩
     ·
      have h := itF h c11
      refine k_seq ?_
      refine k_keep [(0, _), (3, _), (4, _), (9, _)] ⟨rfl, rfl, rfl, rfl, trivial⟩ ?_
      obtain ⟨kj6, hK13, h⟩ := jn_out h
      have hE13 := Step.r0 K0 s1
      refine k_cutc (X := St × Bool) [(0, .slice none 0 0), (3, .pointer (some ⟨b1, 0, none⟩)), (4, .slice none 0 0)] (fun (xL : St × Bool) => match xL with | (sl, x7) => [(30, .bool x7)]) (fun (xL : St × Bool) (wL : World) => match xL with | (sl, x7) => sl.w = wL ∧ Step K0 s1 sl ∧ kj6 x7 = some r) ?_ ?_
      ·
       refine k_seq ?_
       refine k_region ?_
       refine k_eql rfl rfl rfl ?_
       refine k_assign rfl rfl ?_
       refine k_nil ?_
       refine k_keep [(0, _), (3, _), (4, _), (9, _), (30, _)] ⟨rfl, rfl, rfl, rfl, rfl, trivial⟩ ?_
       refine k_cond_dec rfl (fun c14 => ?_) (fun c14 => ?_)
       ·
        have h := itT h c14
        refine k_skip ?_
        exact k_stop ⟨(s1, decide (a1.Kind = 5)), ⟨(by first | rfl | (simp <;> rfl)), trivial⟩, ⟨rfl, rfl, rfl, trivial⟩, ⟨rfl, hE13, h⟩⟩
       ·
        have h := itF h c14
        refine k_region ?_
        refine k_eql rfl rfl rfl ?_
        refine k_assign rfl rfl ?_
        refine k_nil ?_
        exact k_stop ⟨(s1, decide (a1.Kind = 6)), ⟨(by first | rfl | (simp <;> rfl)), trivial⟩, ⟨rfl, rfl, rfl, trivial⟩, ⟨rfl, hE13, h⟩⟩
      ·
       rintro ⟨s15, x7⟩ wL ⟨rfl, hE13, h⟩
       rw [hK13] at h
       have szs15 := hE13.size
       have hS := hS.trans0 hE13
       have hE2 := hE2.trans0 hE13
       replace hq1_0 := hq1_0.up2 hE13
       replace hq1_1 := hq1_1.up2 hE13
       replace h1 := h1.up2 hE13
       replace tb2 := tb2.up2 hE13
       refine k_cond rfl (fun c16 => ?_) (fun c16 => ?_)
       ·
        have h := ibT h c16
        refine k_seq ?_
        refine k_region ?_
        refine k_build_arr arr52 zero52 rfl (Parts.cons (CellsOf.lit rfl rfl).1 (Parts.cons (CellsOf.lit rfl rfl).1 Parts.nil)) (by rfl) rfl ?_
        refine k_as (v := .agg (([] : List Value) ++ ([([] : List UInt8), ([] : List UInt8), ([] : List UInt8), ([] : List UInt8), ([] : List UInt8), ([91, 93] : List UInt8), ([123, 125] : List UInt8)] : List (List UInt8)).map S).toArray) rfl ?_
        refine k_field_addr fld25_0 rfl rfl ?_
        refine k_load_blk one3 rfl h1 rfl rfl ?_
        obtain ⟨x8, hx8, h⟩ := ob h
        refine k_index_row S (xs := ([([] : List UInt8), ([] : List UInt8), ([] : List UInt8), ([] : List UInt8), ([] : List UInt8), ([91, 93] : List UInt8), ([123, 125] : List UInt8)] : List (List UInt8))) arr52 one9 rfl rfl (rfl) hx8 rfl ?_
        refine k_assign rfl rfl ?_
        refine k_nil ?_
        refine k_keep [(0, _), (3, _), (4, _), (5, _)] ⟨rfl, rfl, rfl, rfl, trivial⟩ ?_
        refine k_seq ?_
        refine k_region ?_
        refine k_move rfl rfl ?_
        refine k_move rfl rfl ?_
        obtain ⟨x9, hx9, h⟩ := ob h
        refine k_index_str Tryd.underlying9 rfl rfl (geti_out hx9).1 (geti_out hx9).2.1 rfl ?_
        refine k_as (congrArg (fun c : UInt8 => Value.int .u8 (c.toNat : Int)) (geti_getD hx9)) ?_
        refine k_bslice2 (ds := ([x9] : List UInt8).map bD) slc37 rfl (RVs.cons (R.val rfl) RVs.nil) (by rfl) (by rfl) rfl rfl ?_
        intro s17 v17 b17 st17 ge17 bl17 h17
        have szs17 := st17.size
        have hS := hS.trans0 st17
        have hE2 := hE2.trans0 st17
        replace hq1_0 := hq1_0.up2 st17
        replace hq1_1 := hq1_1.up2 st17
        replace h1 := h1.up2 st17
        replace tb2 := tb2.up2 st17
        have lt17 := Own.le1 h17
        obtain ⟨x10, hx10, h⟩ := ob h
        refine k_append_nil (es := ([x9] : List UInt8).map bD) 1041 elem37 rfl rfl (h17.sl) (by have := (app_out hx10).1; simp only [List.length_map, List.length_nil] at *; omega) (by have := (app_out hx10).1; simp only [List.length_map, List.length_nil] at *; omega) rfl ?_
        intro s18 v18 st18 h18
        rw [← List.nil_append (([x9] : List UInt8)), ← (app_out hx10).2] at h18
        have szs18 := st18.size
        have hS := hS.trans0 st18
        have hE2 := hE2.trans0 st18
        replace hq1_0 := hq1_0.up2 st18
        replace hq1_1 := hq1_1.up2 st18
        replace h1 := h1.up2 st18
        replace tb2 := tb2.up2 st18
        have lq18 : s17.n + 1 ≤ s18.n := Own.le_ne h18 (fun e_ => app_ne hx10 (by simp) (List.map_eq_nil_iff.1 e_))
        refine k_assign rfl rfl ?_
        refine k_nil ?_
        refine k_keep [(0, _), (3, _), (4, _), (5, _)] ⟨rfl, rfl, rfl, rfl, trivial⟩ ?_
        refine k_seq ?_
        obtain ⟨kj11, hK19, h⟩ := jn_out h
        have hE19 := Step.r0 (KC (s17.n + 1) 1041) s18
        refine k_cutc (X := St × (List UInt8) × Value) [(4, .slice none 0 0), (5, S x8)] (fun (xL : St × (List UInt8) × Value) => match xL with | (sl, x12, v20) => [(0, v20)]) (fun (xL : St × (List UInt8) × Value) (wL : World) => match xL with | (sl, x12, v20) => sl.w = wL ∧ Step (KC (s17.n + 1) 1041) s18 sl ∧ (Own sl ⟨s17.n + 1, 1041⟩ 5 1 v20 (x12.map bD)) ∧ kj11 x12 = some r) ?_ ?_
        ·
         refine k_seq ?_
         refine k_region ?_
         refine k_field_addr fld25_3 rfl rfl ?_
         refine k_load_blk one22 rfl h1 rfl rfl ?_
         refine k_len Tryd.underlying22 rfl (SL.of_R hq1_0).hasLen rfl ?_
         refine k_as (v := .int .i64 (a1.List_.length : Int)) (by simp only [List.length_map]) ?_
         refine k_move rfl rfl ?_
         refine k_nil ?_
         refine k_keep [(0, _), (3, _), (4, _), (5, _), (43, _), (44, _), (45, _)] ⟨rfl, rfl, rfl, rfl, rfl, rfl, rfl, trivial⟩ ?_
         refine k_block ?_
         refine k_loopc (X := St × (List UInt8) × Value × Int × Nat) [(3, _), (4, _), (5, _), (43, _), (44, _)] (fun (xL : St × (List UInt8) × Value × Int × Nat) => match xL with | (sl, x13, v22, x14, j) => [(0, v22), (45, .int .i64 x14)]) (fun (xL : St × (List UInt8) × Value × Int × Nat) (wL : World) => match xL with | (sl, x13, v22, x14, j) => sl.w = wL ∧ Step (KC (s17.n + 1) 1041) s18 sl ∧ (Own sl ⟨s17.n + 1, 1041⟩ 5 1 v22 (x13.map bD)) ∧ value_text_nl_l1 a1 kj11 j x13 x14 = some r) (fun (xL : St × (List UInt8) × Value × Int × Nat) => match xL with | (sl, x13, v22, x14, j) => j) (s18, x10, v18, 0, FU) ⟨rfl, rfl, rfl, rfl, rfl, trivial⟩ ⟨(by first | rfl | (simp <;> rfl)), (by first | rfl | (simp <;> rfl)), trivial⟩ ⟨rfl, (Step.refl _).of0 (by first | exact fun _ h => h | (intro c h; simp [KC, KO, KU, KN, KB] at h <;> omega)), h18, h⟩ ?_
         rintro ⟨s23, x13, v22, x14, j⟩ wL ⟨rfl, hE21, h22, h⟩
         cases j with
         | zero => rw [value_text_nl_l1] at h; exact (noneNe h).elim
         | succ j =>
         rw [value_text_nl_l1] at h
         have szs23 := hE21.size
         have hS := hS.c0 hE21
         have hE2 := hE2.c0 hE21
         have hE19 := hE19.c0 hE21
         replace hq1_0 := hq1_0.up2 hE21
         replace hq1_1 := hq1_1.up2 hE21
         replace h1 := h1.up2 hE21
         replace tb2 := tb2.up2 hE21
         refine k_seq ?_
         refine k_region ?_
         refine k_lss rfl rfl rfl ?_
         refine k_nil ?_
         refine k_seq ?_
         refine k_cond_dec rfl (fun c24 => ?_) (fun c24 => ?_)
         ·
          have h := itT h c24
          refine k_skip ?_
          refine k_seq ?_
          refine k_block ?_
          refine k_seq ?_
          refine k_region ?_
          refine k_move rfl rfl ?_
          obtain ⟨x15, hx15, h⟩ := ob h
          refine k_ixaddr Tryd.underlying22 size25 rfl rfl (SL.of_R hq1_0) (geti_out hx15).1 (geti_map hx15) rfl ?_
          intro qx15 hqx15
          refine k_load_agg (by exact agg25) rfl hqx15 rfl ?_
          intro cs25 h25
          obtain ⟨q25_0, q25_1, rfl, hq25_0, hq25_1⟩ := opnApiValue h25
          refine k_alloc zero25 rfl ?_
          intro s26 b26 st26 h26 ge26
          have szs26 := st26.size
          have hS := hS.trans0 st26
          have hE2 := hE2.trans0 st26
          have hE19 := hE19.trans0 st26
          have hE21 := hE21.trans0 st26
          replace hq25_0 := hq25_0.up2 st26
          replace hq25_1 := hq25_1.up2 st26
          replace hq1_1 := hq1_1.up2 st26
          replace h1 := h1.up2 st26
          replace h22 := h22.up2 st26
          replace tb2 := tb2.up2 st26
          have lt26 := h26.lt
          refine k_assign rfl rfl ?_
          refine k_store_c (cs' := [.int .i64 x15.Kind, .int .i64 x15.Num, S x15.Text, q25_0, q25_1]) size25 rfl rfl h26 (by first | (simp; done) | omega | (dsimp only; omega)) (CellsOf.lit (vs := [.int .i64 x15.Kind, .int .i64 x15.Num, S x15.Text, q25_0, q25_1]) rfl (ones.cons rfl (ones.cons rfl (ones.cons rfl (ones.cons ((SL.of_R hq25_0)).one1 (ones.cons ((SL.of_R hq25_1)).one1 ones.nil)))))) rfl (by first | rfl | (simp; done) | (simp; omega)) rfl ?_
          intro s27 st27 h26
          have szs27 := st27.size
          have hS := hS.c0 st27
          have hE2 := hE2.c0 st27
          have hE19 := hE19.c0 st27
          have hE21 := hE21.c0 st27
          replace hq25_0 := hq25_0.up2 st27
          replace hq25_1 := hq25_1.up2 st27
          replace hq1_1 := hq1_1.up2 st27
          replace h1 := h1.up2 st27
          replace h22 := h22.up2 st27
          replace tb2 := tb2.up2 st27
          refine k_nil ?_
          refine k_keep [(0, _), (3, _), (4, _), (5, _), (6, _), (7, _), (43, _), (44, _), (45, _)] ⟨rfl, rfl, rfl, rfl, rfl, rfl, rfl, rfl, rfl, trivial⟩ ?_
          refine k_seq ?_
          obtain ⟨kj16, hK28, h⟩ := jn_out h
          have hE28 := Step.r0 (KC (s17.n + 1) 1041) s27
          refine k_cutc (X := St × (List UInt8) × Value) [(3, .pointer (some ⟨b1, 0, none⟩)), (4, .slice none 0 0), (5, S x8), (6, .int .i64 x14), (7, .pointer (some ⟨b26, 0, none⟩)), (43, q1_0), (44, .int .i64 (a1.List_.length : Int)), (45, .int .i64 x14)] (fun (xL : St × (List UInt8) × Value) => match xL with | (sl, x17, v29) => [(0, v29)]) (fun (xL : St × (List UInt8) × Value) (wL : World) => match xL with | (sl, x17, v29) => sl.w = wL ∧ Step (KC (s17.n + 1) 1041) s27 sl ∧ (Own sl ⟨s17.n + 1, 1041⟩ 5 1 v29 (x17.map bD)) ∧ kj16 x17 = some r) ?_ ?_
          ·
           refine k_seq ?_
           refine k_region ?_
           refine k_move rfl rfl ?_
           refine k_gtr rfl rfl rfl ?_
           refine k_nil ?_
           refine k_keep [(0, _), (3, _), (4, _), (5, _), (6, _), (7, _), (43, _), (44, _), (45, _), (51, _)] ⟨rfl, rfl, rfl, rfl, rfl, rfl, rfl, rfl, rfl, rfl, trivial⟩ ?_
           refine k_cond_dec rfl (fun c30 => ?_) (fun c30 => ?_)
           ·
            have h := itT h c30
            refine k_region ?_
            refine k_move rfl rfl ?_
            refine k_bslice2 (ds := ([(44 : UInt8)] : List UInt8).map bD) slc37 rfl (RVs.cons (R.val rfl) RVs.nil) (by rfl) (by rfl) rfl rfl ?_
            intro s31 v31 b31 st31 ge31 bl31 h31
            have szs31 := st31.size
            have hS := hS.trans0 st31
            have hE2 := hE2.trans0 st31
            have hE19 := hE19.trans0 st31
            have hE21 := hE21.trans0 st31
            have hE28 := hE28.trans0 st31
            replace h22 := h22.up2 st31
            have lt31 := Own.le1 h31
            obtain ⟨x18, hx18, h⟩ := ob h
            refine k_append (es := ([(44 : UInt8)] : List UInt8).map bD) elem37 rfl rfl h22 (h31.sl) (by have := (app_out hx18).1; simp only [List.length_map] at *; omega) (by have := (app_out hx18).1; simp only [List.length_map] at *; omega) rfl ?_
            intro s32 v32 st32 h32
            rw [← List.map_append, ← (app_out hx18).2] at h32
            have szs32 := st32.size
            have hS := hS.c0 st32
            have hE2 := hE2.c0 st32
            have hE19 := hE19.c0 st32
            have hE21 := hE21.c0 st32
            have hE28 := hE28.c0 st32
            refine k_assign rfl rfl ?_
            refine k_nil ?_
            exact k_stop ⟨(s32, x18, v32), ⟨(by first | rfl | (simp <;> rfl)), trivial⟩, ⟨rfl, rfl, rfl, rfl, rfl, rfl, rfl, rfl, trivial⟩, ⟨rfl, hE28, h32, h⟩⟩
           ·
            have h := itF h c30
            refine k_skip ?_
            exact k_stop ⟨(s27, x13, v22), ⟨(by first | rfl | (simp <;> rfl)), trivial⟩, ⟨rfl, rfl, rfl, rfl, rfl, rfl, rfl, rfl, trivial⟩, ⟨rfl, hE28, h22, h⟩⟩
          ·
           rintro ⟨s33, x17, v29⟩ wL ⟨rfl, hE28, h29, h⟩
           rw [hK28] at h
           have szs33 := hE28.size
           have hS := hS.c0 hE28
           have hE2 := hE2.c0 hE28
           have hE19 := hE19.c0 hE28
           have hE21 := hE21.c0 hE28
           replace hq1_1 := hq1_1.up2 hE28
           replace h1 := h1.up2 hE28
           replace hq25_0 := hq25_0.up2 hE28
           replace hq25_1 := hq25_1.up2 hE28
           replace h26 := h26.up2 hE28
           replace tb2 := tb2.up2 hE28
           refine k_seq ?_
           refine k_seq ?_
           refine k_region ?_
           refine k_field_addr fld25_0 rfl rfl ?_
           refine k_load_blk one3 rfl h1 rfl rfl ?_
           refine k_eql rfl rfl rfl ?_
           refine k_nil ?_
           refine k_keep [(0, _), (3, _), (4, _), (5, _), (6, _), (7, _), (43, _), (44, _), (45, _), (57, _)] ⟨rfl, rfl, rfl, rfl, rfl, rfl, rfl, rfl, rfl, rfl, trivial⟩ ?_
           refine k_cond_dec rfl (fun c34 => ?_) (fun c34 => ?_)
           ·
            have h := itT h c34
            refine k_region ?_
            refine k_move rfl rfl ?_
            refine k_field_addr fld25_4 rfl rfl ?_
            refine k_load_blk one23 rfl h1 rfl rfl ?_
            refine k_move rfl rfl ?_
            obtain ⟨x19, hx19, h⟩ := ob h
            refine k_ixaddr Tryd.underlying23 size9 rfl rfl (SL.of_R hq1_1) (geti_out hx19).1 (geti_map hx19) rfl ?_
            intro qx19 hqx19
            refine k_load_val one9 rfl hqx19 rfl ?_
            obtain ⟨x20, hx20, h⟩ := ob h
            refine k_call cal19 rfl (value_quoted_own_w  h29 (by first | assumption | omega | (dsimp only; omega) | (simp <;> omega)) hx20) rfl ?_
            rintro s35 v35_0 st35 ⟨_, rfl, h35_0⟩
            have szs35 := st35.size
            have hS := hS.c0 st35
            have hE2 := hE2.c0 st35
            have hE19 := hE19.c0 st35
            have hE21 := hE21.c0 st35
            replace hq25_0 := hq25_0.up2 st35
            replace hq25_1 := hq25_1.up2 st35
            replace h26 := h26.up2 st35
            replace tb2 := tb2.up2 st35
            refine k_bslice2 (ds := ([(58 : UInt8)] : List UInt8).map bD) slc37 rfl (RVs.cons (R.val rfl) RVs.nil) (by rfl) (by rfl) rfl rfl ?_
            intro s36 v36 b36 st36 ge36 bl36 h36
            have szs36 := st36.size
            have hS := hS.trans0 st36
            have hE2 := hE2.trans0 st36
            have hE19 := hE19.trans0 st36
            have hE21 := hE21.trans0 st36
            replace hq25_0 := hq25_0.up2 st36
            replace hq25_1 := hq25_1.up2 st36
            replace h26 := h26.up2 st36
            replace h35_0 := h35_0.up2 st36
            replace tb2 := tb2.up2 st36
            have lt36 := Own.le1 h36
            obtain ⟨x21, hx21, h⟩ := ob h
            refine k_append (es := ([(58 : UInt8)] : List UInt8).map bD) elem37 rfl rfl h35_0 (h36.sl) (by have := (app_out hx21).1; simp only [List.length_map] at *; omega) (by have := (app_out hx21).1; simp only [List.length_map] at *; omega) rfl ?_
            intro s37 v37 st37 h37
            rw [← List.map_append, ← (app_out hx21).2] at h37
            have szs37 := st37.size
            have hS := hS.c0 st37
            have hE2 := hE2.c0 st37
            have hE19 := hE19.c0 st37
            have hE21 := hE21.c0 st37
            replace hq25_0 := hq25_0.up2 st37
            replace hq25_1 := hq25_1.up2 st37
            replace h26 := h26.up2 st37
            replace tb2 := tb2.up2 st37
            refine k_assign rfl rfl ?_
            refine k_nil ?_
            refine k_keep [(0, _), (3, _), (4, _), (5, _), (7, _), (43, _), (44, _), (45, _)] ⟨rfl, rfl, rfl, rfl, rfl, rfl, rfl, rfl, trivial⟩ ?_
            refine k_region ?_
            refine k_move rfl rfl ?_
            refine k_load_blka (cs := [.int .i64 x15.Kind, .int .i64 x15.Num, S x15.Text, q25_0, q25_1]) agg25 rfl h26 rfl ?_
            obtain ⟨x22, hx22, h⟩ := ob h
            refine k_call cal12 rfl (value_text_own_w  h37 (by first | assumption | omega | (dsimp only; omega) | (simp <;> omega)) (clsApiValue x15 hq25_0 hq25_1) tb2 hx22) rfl ?_
            rintro s38 v38_0 st38 ⟨_, rfl, h38_0⟩
            have szs38 := st38.size
            have hS := hS.c0 st38
            have hE2 := hE2.c0 st38
            have hE19 := hE19.c0 st38
            have hE21 := hE21.c0 st38
            refine k_assign rfl rfl ?_
            refine k_nil ?_
            refine k_blk ?_
            refine k_region ?_
            refine k_add rfl rfl rfl ?_
            refine k_move rfl rfl ?_
            refine k_nil ?_
            exact k_stop ⟨(s38, x22, v38_0, i64 (x14 + 1), j), ⟨(by first | rfl | (simp <;> rfl)), (by first | rfl | (simp <;> rfl)), trivial⟩, ⟨rfl, rfl, rfl, rfl, rfl, trivial⟩, ⟨rfl, hE21, h38_0, h⟩, (by simp)⟩
           ·
            have h := itF h c34
            refine k_skip ?_
            refine k_region ?_
            refine k_move rfl rfl ?_
            refine k_load_blka (cs := [.int .i64 x15.Kind, .int .i64 x15.Num, S x15.Text, q25_0, q25_1]) agg25 rfl h26 rfl ?_
            obtain ⟨x23, hx23, h⟩ := ob h
            refine k_call cal12 rfl (value_text_own_w  h29 (by first | assumption | omega | (dsimp only; omega) | (simp <;> omega)) (clsApiValue x15 hq25_0 hq25_1) tb2 hx23) rfl ?_
            rintro s39 v39_0 st39 ⟨_, rfl, h39_0⟩
            have szs39 := st39.size
            have hS := hS.c0 st39
            have hE2 := hE2.c0 st39
            have hE19 := hE19.c0 st39
            have hE21 := hE21.c0 st39
            refine k_assign rfl rfl ?_
            refine k_nil ?_
            refine k_blk ?_
            refine k_region ?_
            refine k_add rfl rfl rfl ?_
            refine k_move rfl rfl ?_
            refine k_nil ?_
            exact k_stop ⟨(s39, x23, v39_0, i64 (x14 + 1), j), ⟨(by first | rfl | (simp <;> rfl)), (by first | rfl | (simp <;> rfl)), trivial⟩, ⟨rfl, rfl, rfl, rfl, rfl, trivial⟩, ⟨rfl, hE21, h39_0, h⟩, (by simp)⟩
         ·
          have h := itF h c24
          refine k_exit rfl ?_
          exact k_stop ⟨(s23, x13, v22), ⟨(by first | rfl | (simp <;> rfl)), trivial⟩, ⟨rfl, rfl, trivial⟩, ⟨rfl, hE19, h22, h⟩⟩
        ·
         rintro ⟨s40, x12, v20⟩ wL ⟨rfl, hE19, h20, h⟩
         rw [hK19] at h
         have szs40 := hE19.size
         have hS := hS.c0 hE19
         have hE2 := hE2.c0 hE19
         refine k_seq ?_
         refine k_region ?_
         refine k_move rfl rfl ?_
         refine k_move rfl rfl ?_
         obtain ⟨x24, hx24, h⟩ := ob h
         refine k_index_str Tryd.underlying9 rfl rfl (geti_out hx24).1 (geti_out hx24).2.1 rfl ?_
         refine k_as (congrArg (fun c : UInt8 => Value.int .u8 (c.toNat : Int)) (geti_getD hx24)) ?_
         refine k_bslice2 (ds := ([x24] : List UInt8).map bD) slc37 rfl (RVs.cons (R.val rfl) RVs.nil) (by rfl) (by rfl) rfl rfl ?_
         intro s41 v41 b41 st41 ge41 bl41 h41
         have szs41 := st41.size
         have hS := hS.trans0 st41
         have hE2 := hE2.trans0 st41
         replace h20 := h20.up2 st41
         have lt41 := Own.le1 h41
         obtain ⟨x25, hx25, h⟩ := ob h
         refine k_append (es := ([x24] : List UInt8).map bD) elem37 rfl rfl h20 (h41.sl) (by have := (app_out hx25).1; simp only [List.length_map] at *; omega) (by have := (app_out hx25).1; simp only [List.length_map] at *; omega) rfl ?_
         intro s42 v42 st42 h42
         rw [← List.map_append, ← (app_out hx25).2] at h42
         have szs42 := st42.size
         have hS := hS.c0 st42
         have hE2 := hE2.c0 st42
         refine k_assign rfl rfl ?_
         refine k_nil ?_
         refine k_keep [(0, _), (4, _)] ⟨rfl, rfl, trivial⟩ ?_
         refine k_ret ?_
         obtain ⟨s43, e43, st43, h43⟩ := h42.freeze
         rw [← e43]
         have szs43 := st43.size
         have hS := hS.c0 st43
         have hE2 := hE2.c0 st43
         obtain rfl := Option.some.inj h
         refine ⟨_, rfl, Ret.mk hS ?_⟩
         exact ⟨_, rfl, h43⟩
       ·
        have h := ibF h c16
        refine k_skip ?_
        refine k_blk ?_
        exact k_stop ⟨s15, trivial, ⟨rfl, rfl, trivial⟩, ⟨rfl, hE2, h⟩⟩
 ·
  rintro s44 wL ⟨rfl, hE2, h⟩
  rw [hK2] at h
  have szs44 := hE2.size
  have hS := hS.trans0 hE2
  refine k_seq ?_
  refine k_region ?_
  refine k_move rfl rfl ?_
  obtain ⟨x26, hx26, h⟩ := ob h
  refine k_append_str_nil 1077 elem37 rfl rfl Tryd.underlying9 rfl rfl (by have := (app_out hx26).1; omega) rfl ?_
  intro s45 v45 st45 h45
  rw [← List.nil_append ([110, 117, 108, 108] : List UInt8), ← (app_out hx26).2] at h45
  have szs45 := st45.size
  have hS := hS.trans0 st45
  have lq45 : s44.n + 1 ≤ s45.n := Own.le_ne h45 (fun e_ => app_ne hx26 (by simp) (List.map_eq_nil_iff.1 e_))
  refine k_assign rfl rfl ?_
  refine k_nil ?_
  refine k_keep [(4, _)] ⟨rfl, trivial⟩ ?_
  refine k_ret ?_
  obtain ⟨s46, e46, st46, h46⟩ := h45.freeze
  rw [← e46]
  have szs46 := st46.size
  have hS := hS.c0 st46
  obtain rfl := Option.some.inj h
  refine ⟨_, rfl, Ret.mk hS ?_⟩
  exact ⟨_, rfl, h46⟩

set_option maxHeartbeats 1000000 in
set_option maxRecDepth 100000 in
theorem value_May_w {s : St} {cs0 : List Value} {a0 : ApiValue} {r : Bool} (hp0 : RC s cs0 (dApiValue a0)) (tb2 : Tab2 s) (h : value_May a0 = some r) : Calls Tryd.prog 9 #[.agg cs0.toArray] s.w (Ret s K0 (fun s1 v => v = .bool r)) := by
 unfold value_May at h
 obtain ⟨q0_0, q0_1, rfl, hq0_0, hq0_1⟩ := opnApiValue hp0
 have hS := Step.r0 K0 s
 refine k_fn (rs := [2]) (args := [.agg #[.int .i64 a0.Kind, .int .i64 a0.Num, S a0.Text, q0_0, q0_1]]) Tryd.func9 rfl rfl rfl rfl ?_
 refine k_seq ?_
 refine k_region ?_
 refine k_box rfl rfl ?_
 intro s1 b1 st1 h1 ge1
 have szs1 := st1.size
 have hS := hS.trans0 st1
 replace hq0_0 := hq0_0.up2 st1
 replace hq0_1 := hq0_1.up2 st1
 replace tb2 := tb2.up2 st1
 have lt1 := h1.lt
 refine k_assign rfl rfl ?_
 refine k_nil ?_
 refine k_keep [(1, _), (2, _)] ⟨rfl, rfl, trivial⟩ ?_
 refine k_seq ?_
 refine k_region ?_
 refine k_load_blka (cs := [.int .i64 a0.Kind, .int .i64 a0.Num, S a0.Text, q0_0, q0_1]) agg25 rfl h1 rfl ?_
 obtain ⟨x1, hx1, h⟩ := ob h
 refine k_call cal14 rfl (value_shaped_w  (clsApiValue a0 hq0_0 hq0_1) hx1) rfl ?_
 rintro s2 vr2 st2 rfl
 have szs2 := st2.size
 have hS := hS.trans0 st2
 replace hq0_0 := hq0_0.up2 st2
 replace hq0_1 := hq0_1.up2 st2
 replace h1 := h1.up2 st2
 replace tb2 := tb2.up2 st2
 refine k_move rfl rfl ?_
 obtain ⟨x2, hx2, h⟩ := ob h
 have hE3 := Step.r0 K0 s2
 refine k_cutl (X := St) 5 [(1, .pointer (some ⟨b1, 0, none⟩)), (2, .bool false), (3, .agg #[.int .i64 a0.Kind, .int .i64 a0.Num, S a0.Text, q0_0, q0_1]), (4, .bool x1)] (fun _ => [(10, .bool x2)]) (fun sl wL => sl.w = wL ∧ Step K0 s2 sl) ?_ ?_
 ·
  refine k_again 5 rfl ?_
  refine k_splitb (fun c4 => ?_) (fun c4 => ?_)
  ·
   have hx2 := ibT hx2 c4
   refine k_yes rfl rfl ?_
   refine k_load_blka (cs := [.int .i64 a0.Kind, .int .i64 a0.Num, S a0.Text, q0_0, q0_1]) agg25 rfl h1 rfl ?_
   refine k_yes rfl rfl ?_
   obtain ⟨x3, hx3, hx2⟩ := ob hx2
   refine k_call cal12 rfl (value_text_nl_w  (clsApiValue a0 hq0_0 hq0_1) tb2 hx3) rfl ?_
   rintro s5 v5_0 st5 ⟨_, rfl, h5_0⟩
   have szs5 := st5.size
   have hS := hS.trans0 st5
   have hE3 := hE3.trans0 st5
   refine k_yes rfl rfl ?_
   refine k_len Tryd.underlying37 rfl (SL.of_R h5_0).hasLen rfl ?_
   refine k_as (v := .int .i64 (x3.length : Int)) (by simp only [List.length_map]) ?_
   refine k_yes rfl rfl ?_
   refine k_leq rfl rfl rfl ?_
   refine k_pickT rfl rfl rfl rfl ?_
   exact k_met ⟨s5, ⟨(congrArg (fun b => some (Value.bool b)) (Option.some.inj hx2)), trivial⟩, ⟨rfl, rfl, rfl, rfl, trivial⟩, rfl, hE3⟩
  ·
   have hx2 := ibF hx2 c4
   refine k_no rfl rfl rfl rfl ?_
   refine k_no rfl rfl rfl rfl ?_
   refine k_no rfl rfl rfl rfl ?_
   refine k_no rfl rfl rfl rfl ?_
   refine k_pickF rfl rfl rfl rfl ?_
   exact k_met ⟨s2, ⟨(congrArg (fun b => some (Value.bool b)) (Option.some.inj hx2)), trivial⟩, ⟨rfl, rfl, rfl, rfl, trivial⟩, rfl, hE3⟩
 ·
  rintro s6 wL ⟨rfl, hE3⟩
  have szs6 := hE3.size
  have hS := hS.trans0 hE3
  refine k_assign rfl rfl ?_
  refine k_nil ?_
  refine k_keep [(2, _)] ⟨rfl, trivial⟩ ?_
  refine k_ret ?_
  obtain rfl := Option.some.inj h
  refine ⟨_, rfl, Ret.mk hS ?_⟩
  exact rfl

set_option maxHeartbeats 1000000 in
set_option maxRecDepth 100000 in
theorem value_Parse_w {s : St} {a0 : (List UInt8)} {r : (ApiValue × Int)} (tb0 : Tab0 s) (tb1 : Tab1 s) (tb2 : Tab2 s) (h : value_Parse a0 = some r) : Calls Tryd.prog 7 #[S a0] s.w (Ret s K0 (fun s1 v => ∃ (u0 : List Value), v = .tuple #[.agg u0.toArray, .int .i64 r.2] ∧ RC s1 u0 (dApiValue r.1))) := by
 unfold value_Parse at h
 have hS := Step.r0 K0 s
 refine k_fn_c (rs := [.cell 2 25, .tmp 3]) (args := [S a0]) Tryd.func7 rfl rfl rfl rfl ?_
 refine k_seq ?_
 refine k_region ?_
 refine k_alloc zero25 rfl ?_
 intro s1 b1 st1 h1 ge1
 have szs1 := st1.size
 have hS := hS.trans0 st1
 replace tb0 := tb0.up2 st1
 replace tb1 := tb1.up2 st1
 replace tb2 := tb2.up2 st1
 have lt1 := h1.lt
 refine k_assign rfl rfl ?_
 refine k_nil ?_
 refine k_seq ?_
 refine k_seq ?_
 refine k_region ?_
 refine k_move rfl rfl ?_
 refine k_len_str Tryd.underlying9 rfl rfl ?_
 refine k_gtr rfl rfl rfl ?_
 refine k_nil ?_
 refine k_keep [(0, _), (2, _), (3, _), (8, _)] ⟨rfl, rfl, rfl, rfl, trivial⟩ ?_
 refine k_cond_dec rfl (fun c2 => ?_) (fun c2 => ?_)
 ·
  have h := itT h c2
  refine k_seq ?_
  refine k_region ?_
  refine k_build plc25 zero25 rfl Parts.nil (by rfl) rfl ?_
  refine k_as (v := .agg #[.int .i64 0, .int .i64 0, S ([] : List UInt8), .slice none 0 0, .slice none 0 0]) rfl ?_
  refine k_store_c (cs' := [.int .i64 0, .int .i64 0, S ([] : List UInt8), .slice none 0 0, .slice none 0 0]) size25 rfl rfl h1 (by first | (simp; done) | omega | (dsimp only; omega)) (CellsOf.lit rfl rfl) rfl (by first | rfl | (simp; done) | (simp; omega)) rfl ?_
  intro s3 st3 h1
  have szs3 := st3.size
  have hS := hS.c0 st3
  refine k_assign rfl rfl ?_
  refine k_nil ?_
  refine k_keep [(0, _), (2, _), (3, _)] ⟨rfl, rfl, rfl, trivial⟩ ?_
  refine k_ret ?_
  obtain rfl := Option.some.inj h
  refine ⟨[.agg [.int .i64 0, .int .i64 0, S ([] : List UInt8), .slice none 0 0, .slice none 0 0].toArray, .int .i64 2], ⟨res_blk (cs := [.int .i64 0, .int .i64 0, S ([] : List UInt8), .slice none 0 0, .slice none 0 0]) rfl agg25 h1, rfl, trivial⟩, Ret.mk hS ?_⟩
  exact ⟨_, rfl, (clsApiValue (⟨0, 0, ([] : List UInt8), [], []⟩ : ApiValue) (R.of_SL (.inl ⟨rfl, none, 0, rfl, fun _ => rfl⟩)) (R.of_SL (.inl ⟨rfl, none, 0, rfl, fun _ => rfl⟩)))⟩
 ·
  have h := itF h c2
  refine k_skip ?_
  refine k_seq ?_
  refine k_region ?_
  refine k_move rfl rfl ?_
  refine k_build plc41 zero41 rfl (Parts.cons (CellsOf.lit rfl rfl).1 (Parts.cons (CellsOf.lit rfl rfl).1 Parts.nil)) (by rfl) rfl ?_
  refine k_as (v := .agg #[S a0, .bool true]) rfl ?_
  refine k_box rfl rfl ?_
  intro s4 b4 st4 h4 ge4
  have szs4 := st4.size
  have hS := hS.trans0 st4
  replace h1 := h1.up2 st4
  replace tb0 := tb0.up2 st4
  replace tb1 := tb1.up2 st4
  replace tb2 := tb2.up2 st4
  have lt4 := h4.lt
  refine k_assign rfl rfl ?_
  refine k_nil ?_
  refine k_keep [(2, _), (3, _), (4, _)] ⟨rfl, rfl, rfl, trivial⟩ ?_
  refine k_seq ?_
  refine k_region ?_
  refine k_move rfl rfl ?_
  obtain ⟨x1, hx1, h⟩ := ob h
  refine k_call cal13 rfl (value_reader_value_w  (OValueReader.mk_ (⟨a0, true⟩ : ValueReader) (by omega) h4) tb0 tb1 tb2 hx1) rfl ?_
  rintro s5 vr5 st5 ⟨cs5_0, rfl, h5_0, hm5_0⟩
  have hb_5_0 := hm5_0.at_
  have szs5 := st5.size
  have hS := hS.c0 st5
  replace h1 := h1.up2 st5
  replace tb2 := tb2.up2 st5
  obtain ⟨q5_0_0, q5_0_1, rfl, hq5_0_0, hq5_0_1⟩ := opnApiValue h5_0
  refine k_alloc zero25 rfl ?_
  intro s6 b6 st6 h6 ge6
  have szs6 := st6.size
  have hS := hS.trans0 st6
  replace hq5_0_0 := hq5_0_0.up2 st6
  replace hq5_0_1 := hq5_0_1.up2 st6
  replace h1 := h1.up2 st6
  replace hb_5_0 := hb_5_0.up2 st6
  replace tb2 := tb2.up2 st6
  have lt6 := h6.lt
  refine k_store_c (cs' := [.int .i64 x1.1.Kind, .int .i64 x1.1.Num, S x1.1.Text, q5_0_0, q5_0_1]) size25 rfl rfl h6 (by first | (simp; done) | omega | (dsimp only; omega)) (CellsOf.lit (vs := [.int .i64 x1.1.Kind, .int .i64 x1.1.Num, S x1.1.Text, q5_0_0, q5_0_1]) rfl (ones.cons rfl (ones.cons rfl (ones.cons rfl (ones.cons ((SL.of_R hq5_0_0)).one1 (ones.cons ((SL.of_R hq5_0_1)).one1 ones.nil)))))) rfl (by first | rfl | (simp; done) | (simp; omega)) rfl ?_
  intro s7 st7 h6
  have szs7 := st7.size
  have hS := hS.c0 st7
  replace hq5_0_0 := hq5_0_0.up2 st7
  replace hq5_0_1 := hq5_0_1.up2 st7
  replace h1 := h1.up2 st7
  replace hb_5_0 := hb_5_0.up2 st7
  replace tb2 := tb2.up2 st7
  refine k_nil ?_
  refine k_keep [(2, _), (3, _), (4, _), (5, _)] ⟨rfl, rfl, rfl, rfl, trivial⟩ ?_
  refine k_seq ?_
  refine k_seq ?_
  refine k_region ?_
  refine k_move rfl rfl ?_
  refine k_nilCheck rfl rfl ?_
  refine k_field_addr fld41_1 rfl rfl ?_
  refine k_load_blk one4 rfl hb_5_0 rfl rfl ?_
  refine k_not rfl rfl ?_
  refine k_move rfl rfl ?_
  have hE8 := Step.r0 K0 s7
  refine k_cutl (X := St) 6 [(2, .pointer (some ⟨b1, 0, none⟩)), (3, .int .i64 0), (4, .pointer (some ⟨b4, 0, none⟩)), (5, .pointer (some ⟨b6, 0, none⟩)), (15, .pointer (some ⟨b4, 0, none⟩)), (16, .pointer (some ⟨b4, 0, none⟩)), (17, .pointer (some ⟨b4, 1, none⟩)), (18, .bool x1.2.ok), (19, .bool (!x1.2.ok))] (fun _ => [(26, .bool (decide (((!x1.2.ok) = true) ∨ (x1.2.rest ≠ ([] : List UInt8)))))]) (fun sl wL => sl.w = wL ∧ Step K0 s7 sl) ?_ ?_
  ·
   refine k_again 20 rfl ?_
   refine k_splitb (fun c9 => ?_) (fun c9 => ?_)
   ·
    refine k_no rfl rfl rfl rfl ?_
    refine k_no rfl rfl rfl rfl ?_
    refine k_no rfl rfl rfl rfl ?_
    refine k_no rfl rfl rfl rfl ?_
    refine k_no rfl rfl rfl rfl ?_
    refine k_pickT rfl rfl rfl rfl ?_
    exact k_met ⟨s7, ⟨(congrArg (fun b => some (Value.bool b)) (by first | exact decide_eq_decide.2 ⟨Or.inr, fun h => h.resolve_left c9⟩ | exact (decide_eq_true (Or.inl c9)).symm | (simp [c9]; done) | (simp [c9, i64] <;> omega))), trivial⟩, ⟨rfl, rfl, rfl, rfl, rfl, rfl, rfl, rfl, rfl, trivial⟩, rfl, hE8⟩
   ·
    refine k_yes rfl rfl ?_
    refine k_move rfl rfl ?_
    refine k_yes rfl rfl ?_
    refine k_nilCheck rfl rfl ?_
    refine k_yes rfl rfl ?_
    refine k_field_addr fld41_0 rfl rfl ?_
    refine k_yes rfl rfl ?_
    refine k_load_blk one9 rfl hb_5_0 rfl rfl ?_
    refine k_yes rfl rfl ?_
    refine k_neq_str rfl rfl rfl ?_
    refine k_pickF rfl rfl rfl rfl ?_
    exact k_met ⟨s7, ⟨(congrArg (fun b => some (Value.bool b)) (by first | exact decide_eq_decide.2 ⟨Or.inr, fun h => h.resolve_left c9⟩ | exact (decide_eq_true (Or.inl c9)).symm | (simp [c9]; done) | (simp [c9, i64] <;> omega))), trivial⟩, ⟨rfl, rfl, rfl, rfl, rfl, rfl, rfl, rfl, rfl, trivial⟩, rfl, hE8⟩
  ·
   rintro s10 wL ⟨rfl, hE8⟩
   have szs10 := hE8.size
   have hS := hS.trans0 hE8
   replace h1 := h1.up2 hE8
   replace hq5_0_0 := hq5_0_0.up2 hE8
   replace hq5_0_1 := hq5_0_1.up2 hE8
   replace h6 := h6.up2 hE8
   replace tb2 := tb2.up2 hE8
   refine k_move rfl rfl ?_
   obtain ⟨x2, hx2, h⟩ := ob h
   have hE11 := Step.r0 K0 s10
   refine k_cutl (X := St) 4 [(2, .pointer (some ⟨b1, 0, none⟩)), (3, .int .i64 0), (4, .pointer (some ⟨b4, 0, none⟩)), (5, .pointer (some ⟨b6, 0, none⟩)), (15, .pointer (some ⟨b4, 0, none⟩)), (16, .pointer (some ⟨b4, 0, none⟩)), (17, .pointer (some ⟨b4, 1, none⟩)), (18, .bool x1.2.ok), (19, .bool (!x1.2.ok)), (26, .bool (decide (((!x1.2.ok) = true) ∨ (x1.2.rest ≠ ([] : List UInt8)))))] (fun _ => [(31, .bool x2)]) (fun sl wL => sl.w = wL ∧ Step K0 s10 sl) ?_ ?_
   ·
    refine k_again 27 rfl ?_
    refine k_split (fun c12 => ?_) (fun c12 => ?_)
    ·
     have hx2 := itT hx2 c12
     refine k_no rfl rfl rfl rfl ?_
     refine k_no rfl rfl rfl rfl ?_
     refine k_no rfl rfl rfl rfl ?_
     refine k_pickT rfl rfl rfl rfl ?_
     exact k_met ⟨s10, ⟨(congrArg (fun b => some (Value.bool b)) (Option.some.inj hx2)), trivial⟩, ⟨rfl, rfl, rfl, rfl, rfl, rfl, rfl, rfl, rfl, rfl, trivial⟩, rfl, hE11⟩
    ·
     have hx2 := itF hx2 c12
     refine k_yes rfl rfl ?_
     refine k_load_blka (cs := [.int .i64 x1.1.Kind, .int .i64 x1.1.Num, S x1.1.Text, q5_0_0, q5_0_1]) agg25 rfl h6 rfl ?_
     refine k_yes rfl rfl ?_
     obtain ⟨x3, hx3, hx2⟩ := ob hx2
     refine k_call cal9 rfl (value_May_w  (clsApiValue x1.1 hq5_0_0 hq5_0_1) tb2 hx3) rfl ?_
     rintro s13 vr13 st13 rfl
     have szs13 := st13.size
     have hS := hS.trans0 st13
     have hE11 := hE11.trans0 st13
     refine k_yes rfl rfl ?_
     refine k_not rfl rfl ?_
     refine k_pickF rfl rfl rfl rfl ?_
     exact k_met ⟨s13, ⟨(congrArg (fun b => some (Value.bool b)) (Option.some.inj hx2)), trivial⟩, ⟨rfl, rfl, rfl, rfl, rfl, rfl, rfl, rfl, rfl, rfl, trivial⟩, rfl, hE11⟩
   ·
    rintro s14 wL ⟨rfl, hE11⟩
    have szs14 := hE11.size
    have hS := hS.trans0 hE11
    replace h1 := h1.up2 hE11
    replace hq5_0_0 := hq5_0_0.up2 hE11
    replace hq5_0_1 := hq5_0_1.up2 hE11
    replace h6 := h6.up2 hE11
    refine k_nil ?_
    refine k_keep [(2, _), (3, _), (5, _), (31, _)] ⟨rfl, rfl, rfl, rfl, trivial⟩ ?_
    refine k_cond rfl (fun c15 => ?_) (fun c15 => ?_)
    ·
     have h := ibT h c15
     refine k_seq ?_
     refine k_region ?_
     refine k_build plc25 zero25 rfl Parts.nil (by rfl) rfl ?_
     refine k_as (v := .agg #[.int .i64 0, .int .i64 0, S ([] : List UInt8), .slice none 0 0, .slice none 0 0]) rfl ?_
     refine k_store_c (cs' := [.int .i64 0, .int .i64 0, S ([] : List UInt8), .slice none 0 0, .slice none 0 0]) size25 rfl rfl h1 (by first | (simp; done) | omega | (dsimp only; omega)) (CellsOf.lit rfl rfl) rfl (by first | rfl | (simp; done) | (simp; omega)) rfl ?_
     intro s16 st16 h1
     have szs16 := st16.size
     have hS := hS.c0 st16
     refine k_assign rfl rfl ?_
     refine k_nil ?_
     refine k_keep [(2, _), (3, _), (5, _)] ⟨rfl, rfl, rfl, trivial⟩ ?_
     refine k_ret ?_
     obtain rfl := Option.some.inj h
     refine ⟨[.agg [.int .i64 0, .int .i64 0, S ([] : List UInt8), .slice none 0 0, .slice none 0 0].toArray, .int .i64 2], ⟨res_blk (cs := [.int .i64 0, .int .i64 0, S ([] : List UInt8), .slice none 0 0, .slice none 0 0]) rfl agg25 h1, rfl, trivial⟩, Ret.mk hS ?_⟩
     exact ⟨_, rfl, (clsApiValue (⟨0, 0, ([] : List UInt8), [], []⟩ : ApiValue) (R.of_SL (.inl ⟨rfl, none, 0, rfl, fun _ => rfl⟩)) (R.of_SL (.inl ⟨rfl, none, 0, rfl, fun _ => rfl⟩)))⟩
    ·
     have h := ibF h c15
     refine k_skip ?_
     refine k_seq ?_
     refine k_region ?_
     refine k_load_blka (cs := [.int .i64 x1.1.Kind, .int .i64 x1.1.Num, S x1.1.Text, q5_0_0, q5_0_1]) agg25 rfl h6 rfl ?_
     refine k_store_c (cs' := [.int .i64 x1.1.Kind, .int .i64 x1.1.Num, S x1.1.Text, q5_0_0, q5_0_1]) size25 rfl rfl h1 (by first | (simp; done) | omega | (dsimp only; omega)) (CellsOf.lit (vs := [.int .i64 x1.1.Kind, .int .i64 x1.1.Num, S x1.1.Text, q5_0_0, q5_0_1]) rfl (ones.cons rfl (ones.cons rfl (ones.cons rfl (ones.cons ((SL.of_R hq5_0_0)).one1 (ones.cons ((SL.of_R hq5_0_1)).one1 ones.nil)))))) rfl (by first | rfl | (simp; done) | (simp; omega)) rfl ?_
     intro s17 st17 h1
     have szs17 := st17.size
     have hS := hS.c0 st17
     replace hq5_0_0 := hq5_0_0.up2 st17
     replace hq5_0_1 := hq5_0_1.up2 st17
     refine k_assign rfl rfl ?_
     refine k_nil ?_
     refine k_keep [(2, _), (3, _)] ⟨rfl, rfl, trivial⟩ ?_
     refine k_ret ?_
     obtain rfl := Option.some.inj h
     refine ⟨[.agg [.int .i64 x1.1.Kind, .int .i64 x1.1.Num, S x1.1.Text, q5_0_0, q5_0_1].toArray, .int .i64 0], ⟨res_blk (cs := [.int .i64 x1.1.Kind, .int .i64 x1.1.Num, S x1.1.Text, q5_0_0, q5_0_1]) rfl agg25 h1, rfl, trivial⟩, Ret.mk hS ?_⟩
     exact ⟨_, rfl, (clsApiValue x1.1 hq5_0_0 hq5_0_1)⟩

set_option maxHeartbeats 1000000 in
set_option maxRecDepth 100000 in
theorem strings_splitSeq_w {s : St} {a0 : (List UInt8)} {a1 : (List UInt8)} {a2 : Int} {r : ((List UInt8) × (List UInt8) × Int)}  (h : strings_splitSeq a0 a1 a2 = some r) : Calls Tryd.prog 30 #[S a0, S a1, .int .i64 a2] s.w (Ret s K0 (fun s1 v => ∃ (ub0_0 : Nat), ∃ (ub0_1 : Nat), ∃ (ub0_2 : Nat), v = .func (.func 44) #[] #[.pointer (some ⟨ub0_0, 0, none⟩), .pointer (some ⟨ub0_1, 0, none⟩), .pointer (some ⟨ub0_2, 0, none⟩)] ∧ s.n ≤ ub0_0 ∧ BoxR s1 ub0_0 9 (dS r.1) ∧ (s.n ≤ ub0_1 ∧ ub0_1 ≠ ub0_0) ∧ BoxR s1 ub0_1 9 (dS r.2.1) ∧ (s.n ≤ ub0_2 ∧ ub0_2 ≠ ub0_0 ∧ ub0_2 ≠ ub0_1) ∧ BoxR s1 ub0_2 3 (dI64 r.2.2))) := by
 unfold strings_splitSeq at h
 have hS := Step.r0 K0 s
 refine k_fn (rs := [6]) (args := [S a0, S a1, .int .i64 a2]) Tryd.func30 rfl rfl rfl rfl ?_
 refine k_seq ?_
 refine k_region ?_
 refine k_box rfl rfl ?_
 intro s1 b1 st1 h1 ge1
 have szs1 := st1.size
 have hS := hS.trans0 st1
 have lt1 := h1.lt
 refine k_box rfl rfl ?_
 intro s2 b2 st2 h2 ge2
 have szs2 := st2.size
 have hS := hS.trans0 st2
 replace h1 := h1.up2 st2
 have lt2 := h2.lt
 refine k_box rfl rfl ?_
 intro s3 b3 st3 h3 ge3
 have szs3 := st3.size
 have hS := hS.trans0 st3
 replace h1 := h1.up2 st3
 replace h2 := h2.up2 st3
 have lt3 := h3.lt
 refine k_assign rfl rfl ?_
 refine k_nil ?_
 refine k_keep [(3, _), (4, _), (5, _), (6, _)] ⟨rfl, rfl, rfl, rfl, trivial⟩ ?_
 refine k_seq ?_
 refine k_region ?_
 refine k_makeFunc rfl rfl rfl ?_
 refine k_assign rfl rfl ?_
 refine k_nil ?_
 refine k_keep [(6, _)] ⟨rfl, trivial⟩ ?_
 refine k_ret ?_
 obtain rfl := Option.some.inj h
 refine ⟨_, rfl, Ret.mk hS ?_⟩
 exact ⟨_, _, _, rfl, (by omega), ⟨_, h2, RC.val _ rfl⟩, (by omega), ⟨_, h1, RC.val _ rfl⟩, (by omega), ⟨_, h3, RC.val _ rfl⟩⟩

set_option maxHeartbeats 1000000 in
set_option maxRecDepth 100000 in
theorem strings_SplitSeq_w {s : St} {a0 : (List UInt8)} {a1 : (List UInt8)} {r : ((List UInt8) × (List UInt8) × Int)}  (h : strings_SplitSeq a0 a1 = some r) : Calls Tryd.prog 15 #[S a0, S a1] s.w (Ret s K0 (fun s1 v => ∃ (ub0_0 : Nat), ∃ (ub0_1 : Nat), ∃ (ub0_2 : Nat), v = .func (.func 44) #[] #[.pointer (some ⟨ub0_0, 0, none⟩), .pointer (some ⟨ub0_1, 0, none⟩), .pointer (some ⟨ub0_2, 0, none⟩)] ∧ s.n ≤ ub0_0 ∧ BoxR s1 ub0_0 9 (dS r.1) ∧ (s.n ≤ ub0_1 ∧ ub0_1 ≠ ub0_0) ∧ BoxR s1 ub0_1 9 (dS r.2.1) ∧ (s.n ≤ ub0_2 ∧ ub0_2 ≠ ub0_0 ∧ ub0_2 ≠ ub0_1) ∧ BoxR s1 ub0_2 3 (dI64 r.2.2))) := by
 unfold strings_SplitSeq at h
 have hS := Step.r0 K0 s
 refine k_fn (rs := [4]) (args := [S a0, S a1]) Tryd.func15 rfl rfl rfl rfl ?_
 refine k_seq ?_
 refine k_region ?_
 refine k_assign rfl rfl ?_
 refine k_nil ?_
 refine k_seq ?_
 refine k_region ?_
 refine k_move rfl rfl ?_
 refine k_move rfl rfl ?_
 obtain ⟨x1, hx1, h⟩ := ob h
 refine k_call cal30 rfl (strings_splitSeq_w   hx1) rfl ?_
 rintro s1 vr1 st1 ⟨ub1_0_0, ub1_0_1, ub1_0_2, rfl, hg1_0_0, h1_0_0, hg1_0_1, h1_0_1, hg1_0_2, h1_0_2⟩
 have szs1 := st1.size
 have hS := hS.trans0 st1
 refine k_assign rfl rfl ?_
 refine k_nil ?_
 refine k_keep [(4, _)] ⟨rfl, trivial⟩ ?_
 refine k_ret ?_
 obtain rfl := Option.some.inj h
 refine ⟨_, rfl, Ret.mk hS ?_⟩
 exact ⟨_, _, _, rfl, (by omega), h1_0_0, (by omega), h1_0_1, (by omega), h1_0_2⟩

set_option maxHeartbeats 1000000 in
set_option maxRecDepth 100000 in
theorem strings_splitSeq_1_w {s : St} {l : Nat} {XT : Type} {a0 : XT → (List UInt8) → Option (Bool × XT)} {I : XT → St → Prop} {Ky : Lab → Prop} {a50 : XT} {ub1 : Nat} {a1 : (List UInt8)} {ub2 : Nat} {a2 : (List UInt8)} {ub3 : Nat} {a3 : Int} {r : XT} (hY : YielderW Tryd.prog s.n l (fun (sl : St) (y : (List UInt8)) (vs : List Value) => vs = [S y]) a0 I Ky (KC (ub2 + 1) 0)) (hI : I a50 s) (hp1 : BoxR s ub1 9 (dS a1)) (hky1 : ¬ Ky ⟨ub1 + 1, 0⟩) (hp2 : BoxR s ub2 9 (dS a2)) (hky2 : ¬ Ky ⟨ub2 + 1, 0⟩) (hp3 : BoxR s ub3 3 (dI64 a3)) (hky3 : ¬ Ky ⟨ub3 + 1, 0⟩) (hub2_1 : ub2 ≠ ub1) (hub2_3 : ub2 ≠ ub3) (h : strings_splitSeq_1 a0 a50 a1 a2 a3 = some r) : Calls Tryd.prog 44 #[.func (.yield l) #[] #[], .pointer (some ⟨ub1, 0, none⟩), .pointer (some ⟨ub2, 0, none⟩), .pointer (some ⟨ub3, 0, none⟩)] s.w (Ret s (KU (KB s.n Ky) (KC (ub2 + 1) 0)) (fun s1 v => v = .tuple #[] ∧ I r s1)) := by
 unfold strings_splitSeq_1 at h
 replace hI := ConsW.of hY hI (Nat.le_refl _)
 obtain ⟨cs1, hb_b1, hp1⟩ := hp1
 obtain rfl := hp1.val_inv
 have lt1 := hb_b1.lt
 obtain ⟨cs2, hb_b2, hp2⟩ := hp2
 obtain rfl := hp2.val_inv
 have lt2 := hb_b2.lt
 obtain ⟨cs3, hb_b3, hp3⟩ := hp3
 obtain rfl := hp3.val_inv
 have lt3 := hb_b3.lt
 have hS := Step.r0 (KU (KB s.n Ky) (KC (ub2 + 1) 0)) s
 refine k_fn (rs := []) (args := [.func (.yield l) #[] #[], .pointer (some ⟨ub1, 0, none⟩), .pointer (some ⟨ub2, 0, none⟩), .pointer (some ⟨ub3, 0, none⟩)]) Tryd.func44 rfl rfl rfl rfl ?_
 refine k_seq ?_
 obtain ⟨kj1, hK4, h⟩ := jn_out h
 have hE4 := Step.r0 K0 s
 refine k_cutc (X := St) [(0, .func (.yield l) #[] #[]), (1, .pointer (some ⟨ub1, 0, none⟩)), (2, .pointer (some ⟨ub2, 0, none⟩)), (3, .pointer (some ⟨ub3, 0, none⟩))] (fun (xL : St) => match xL with | sl => []) (fun (xL : St) (wL : World) => match xL with | sl => sl.w = wL ∧ Step K0 s sl ∧ kj1 () = some r) ?_ ?_
 ·
  refine k_seq ?_
  refine k_region ?_
  refine k_load_blk one9 rfl hb_b1 rfl rfl ?_
  refine k_len_str Tryd.underlying9 rfl rfl ?_
  refine k_eql rfl rfl rfl ?_
  refine k_nil ?_
  refine k_keep [(0, _), (1, _), (2, _), (3, _), (11, _)] ⟨rfl, rfl, rfl, rfl, rfl, trivial⟩ ?_
  refine k_cond_dec rfl (fun c5 => ?_) (fun c5 => ?_)
  ·
   have h := itT h c5
   refine k_seq ?_
   refine k_keep [(0, _), (1, _), (2, _), (3, _)] ⟨rfl, rfl, rfl, rfl, trivial⟩ ?_
   obtain ⟨kj2, hK6, h⟩ := jn_out h
   have hE6 := Step.r0 (KU (KB s.n Ky) (KC (ub2 + 1) 0)) s
   refine k_cutc (X := St × XT × (List UInt8)) [(0, .func (.yield l) #[] #[]), (1, .pointer (some ⟨ub1, 0, none⟩)), (2, .pointer (some ⟨ub2, 0, none⟩)), (3, .pointer (some ⟨ub3, 0, none⟩))] (fun (xL : St × XT × (List UInt8)) => match xL with | (sl, x3, x4) => []) (fun (xL : St × XT × (List UInt8)) (wL : World) => match xL with | (sl, x3, x4) => sl.w = wL ∧ Step (KU (KB s.n Ky) (KC (ub2 + 1) 0)) s sl ∧ (ConsW I s.n (KC (ub2 + 1) 0) sl x3) ∧ (Blk sl ub2 ⟨ub2 + 1, 0⟩ [S x4] 9) ∧ kj2 x3 x4 = some r) ?_ ?_
   ·
    refine k_block ?_
    refine k_loopc (X := St × XT × (List UInt8) × Nat) [(0, _), (1, _), (2, _), (3, _)] (fun (xL : St × XT × (List UInt8) × Nat) => match xL with | (sl, x5, x6, j) => []) (fun (xL : St × XT × (List UInt8) × Nat) (wL : World) => match xL with | (sl, x5, x6, j) => sl.w = wL ∧ Step (KU (KB s.n Ky) (KC (ub2 + 1) 0)) s sl ∧ (ConsW I s.n (KC (ub2 + 1) 0) sl x5) ∧ (Blk sl ub2 ⟨ub2 + 1, 0⟩ [S x6] 9) ∧ strings_splitSeq_1_l1 a0 kj2 j x5 x6 = some r) (fun (xL : St × XT × (List UInt8) × Nat) => match xL with | (sl, x5, x6, j) => j) (s, a50, a2, FU) ⟨rfl, rfl, rfl, rfl, trivial⟩ trivial ⟨rfl, (Step.refl _).of0 (by first | exact fun _ h => h | (intro c h; simp [KC, KO, KU, KN, KB] at h <;> omega)), hI, hb_b2, h⟩ ?_
    rintro ⟨s8, x5, x6, j⟩ wL ⟨rfl, hE7, hI, hb_b2, h⟩
    cases j with
    | zero => rw [strings_splitSeq_1_l1] at h; exact (noneNe h).elim
    | succ j =>
    rw [strings_splitSeq_1_l1] at h
    have szs8 := hE7.size
    have hS : Step (KU (KB s.n Ky) (KC (ub2 + 1) 0)) s s8 := hS.comp hE7 (by intro l hl hk; (try simp only [KC, KO, KU, KN, K0, KB] at hk ⊢); (repeat' (refine Or.elim hk (fun hk => ?_) (fun hk => ?_))) <;> first | exact hk | exact .inl hk | exact .inr hk | exact .inr (.inl hk) | exact .inr (.inr hk) | omega)
    have hE6 : Step (KU (KB s.n Ky) (KC (ub2 + 1) 0)) s s8 := hE6.comp hE7 (by intro l hl hk; (try simp only [KC, KO, KU, KN, K0, KB] at hk ⊢); (repeat' (refine Or.elim hk (fun hk => ?_) (fun hk => ?_))) <;> first | exact hk | exact .inl hk | exact .inr hk | exact .inr (.inl hk) | exact .inr (.inr hk) | omega)
    replace hb_b1 := hb_b1.up2 hE7 (by intro hk_; simp only [KU, KN, KC, KO, K0, KB] at hk_; (repeat' (refine Or.elim hk_ (fun hk_ => ?_) (fun hk_ => ?_))) <;> first | omega | exact absurd hk_.1 (by assumption))
    replace hb_b3 := hb_b3.up2 hE7 (by intro hk_; simp only [KU, KN, KC, KO, K0, KB] at hk_; (repeat' (refine Or.elim hk_ (fun hk_ => ?_) (fun hk_ => ?_))) <;> first | omega | exact absurd hk_.1 (by assumption))
    refine k_seq ?_
    refine k_seq ?_
    refine k_region ?_
    refine k_load_blk one9 rfl hb_b2 rfl rfl ?_
    refine k_len_str Tryd.underlying9 rfl rfl ?_
    refine k_gtr rfl rfl rfl ?_
    refine k_nil ?_
    refine k_keep [(0, _), (1, _), (2, _), (3, _), (14, _)] ⟨rfl, rfl, rfl, rfl, rfl, trivial⟩ ?_
    refine k_cond_dec rfl (fun c9 => ?_) (fun c9 => ?_)
    ·
     have h := itT h c9
     refine k_skip ?_
     refine k_block ?_
     refine k_seq ?_
     refine k_region ?_
     refine k_load_blk one9 rfl hb_b2 rfl rfl ?_
     by_cases c10 : (0 : Nat) = 1
     case neg => exact (noneNe (itF h c10)).elim
     replace h := itT h c10
     refine k_call cal45 rfl (show Calls Tryd.prog 45 #[S x6] s8.w (Ret s8 K0 (fun _ v => v = .tuple #[.int .i32 0, .int .i64 0])) from absurd c10 (by decide)) rfl ?_
     rintro s11 _ st11 rfl
     have szs11 := st11.size
     have hS := hS.trans0 st11
     have hE6 := hE6.trans0 st11
     have hE7 := hE7.trans0 st11
     replace hI := hI.up2 st11
     replace hb_b1 := hb_b1.up2 st11
     replace hb_b2 := hb_b2.up2 st11
     replace hb_b3 := hb_b3.up2 st11
     refine k_move rfl rfl ?_
     refine k_extract rfl rfl rfl ?_
     refine k_extract rfl rfl rfl ?_
     refine k_assign rfl rfl ?_
     refine k_assign rfl rfl ?_
     refine k_nil ?_
     refine k_keep [(0, _), (1, _), (2, _), (3, _), (6, _)] ⟨rfl, rfl, rfl, rfl, rfl, trivial⟩ ?_
     refine k_seq ?_
     refine k_seq ?_
     refine k_region ?_
     refine k_move rfl rfl ?_
     refine k_load_blk one9 rfl hb_b2 rfl rfl ?_
     refine k_move rfl rfl ?_
     obtain ⟨x7, hx7, h⟩ := ob h
     refine k_cut_str (i := (0 : Int).toNat) (j := (0 : Int).toNat) Tryd.underlying9 rfl CutAt.none (CutAt.int rfl (Int.le_trans (subl_out hx7).1 (subl_out hx7).2.1)) (subl_ij hx7) (subl_j hx7) rfl ?_
     refine k_as (v := S x7) (congrArg S (subl_out hx7).2.2.2.symm) ?_
     obtain ⟨x8, hx8, h⟩ := ob h
     refine k_yield rfl rfl (hY.yield _ _ _ _ _ hI.2.1 hI.1 rfl hx8) rfl ?_
     rintro s12 _ st12 ⟨rfl, hI⟩
     replace hI := ConsW.of hY hI (Nat.le_trans (by omega) st12.size)
     have szs12 := st12.size
     have hS : Step (KU (KB s.n Ky) (KC (ub2 + 1) 0)) s s12 := hS.comp st12 (by intro l hl hk; (try simp only [KC, KO, KU, KN, K0, KB] at hk ⊢); (repeat' (refine Or.elim hk (fun hk => ?_) (fun hk => ?_))) <;> first | exact hk | exact .inl hk | exact .inr hk | exact .inr (.inl hk) | exact .inr (.inr hk) | omega)
     have hE6 : Step (KU (KB s.n Ky) (KC (ub2 + 1) 0)) s s12 := hE6.comp st12 (by intro l hl hk; (try simp only [KC, KO, KU, KN, K0, KB] at hk ⊢); (repeat' (refine Or.elim hk (fun hk => ?_) (fun hk => ?_))) <;> first | exact hk | exact .inl hk | exact .inr hk | exact .inr (.inl hk) | exact .inr (.inr hk) | omega)
     have hE7 : Step (KU (KB s.n Ky) (KC (ub2 + 1) 0)) s s12 := hE7.comp st12 (by intro l hl hk; (try simp only [KC, KO, KU, KN, K0, KB] at hk ⊢); (repeat' (refine Or.elim hk (fun hk => ?_) (fun hk => ?_))) <;> first | exact hk | exact .inl hk | exact .inr hk | exact .inr (.inl hk) | exact .inr (.inr hk) | omega)
     replace hb_b1 := hb_b1.up2 st12 (by intro hk_; simp only [KU, KN, KC, KO, K0, KB] at hk_; (repeat' (refine Or.elim hk_ (fun hk_ => ?_) (fun hk_ => ?_))) <;> first | omega | exact absurd hk_.1 (by assumption))
     replace hb_b2 := hb_b2.up2 st12 (by intro hk_; simp only [KU, KN, KC, KO, K0, KB] at hk_; (repeat' (refine Or.elim hk_ (fun hk_ => ?_) (fun hk_ => ?_))) <;> first | omega | exact absurd hk_.1 (by assumption))
     replace hb_b3 := hb_b3.up2 st12 (by intro hk_; simp only [KU, KN, KC, KO, K0, KB] at hk_; (repeat' (refine Or.elim hk_ (fun hk_ => ?_) (fun hk_ => ?_))) <;> first | omega | exact absurd hk_.1 (by assumption))
     refine k_not rfl rfl ?_
     refine k_nil ?_
     refine k_keep [(0, _), (1, _), (2, _), (3, _), (6, _), (25, _)] ⟨rfl, rfl, rfl, rfl, rfl, rfl, trivial⟩ ?_
     refine k_cond rfl (fun c13 => ?_) (fun c13 => ?_)
     ·
      have h := ibT h c13
      refine k_ret ?_
      obtain rfl := Option.some.inj h
      refine ⟨_, rfl, Ret.mk hS ?_⟩
      exact ⟨rfl, hI.1⟩
     ·
      have h := ibF h c13
      refine k_skip ?_
      refine k_region ?_
      refine k_load_blk one9 rfl hb_b2 rfl rfl ?_
      refine k_move rfl rfl ?_
      obtain ⟨x9, hx9, h⟩ := ob h
      refine k_cut_str (i := (0 : Int).toNat) (j := ((x6.length : Int) : Int).toNat) Tryd.underlying9 rfl (CutAt.int rfl (subl_out hx9).1) CutAt.none (subl_ij hx9) (subl_j hx9) rfl ?_
      refine k_as (v := S x9) (congrArg S (subl_out hx9).2.2.2.symm) ?_
      refine k_store_c (cs' := [S x9]) size9 rfl rfl hb_b2 (by first | (simp; done) | omega | (dsimp only; omega)) (CellsOf.lit rfl rfl) rfl (by first | rfl | (simp; done) | (simp; omega)) rfl ?_
      intro s14 st14 hb_b2
      have szs14 := st14.size
      have hS : Step (KU (KB s.n Ky) (KC (ub2 + 1) 0)) s s14 := hS.comp st14 (by intro l hl hk; (try simp only [KC, KO, KU, KN, K0, KB] at hk ⊢); (repeat' (refine Or.elim hk (fun hk => ?_) (fun hk => ?_))) <;> first | exact hk | exact .inl hk | exact .inr hk | exact .inr (.inl hk) | exact .inr (.inr hk) | omega)
      have hE6 : Step (KU (KB s.n Ky) (KC (ub2 + 1) 0)) s s14 := hE6.comp st14 (by intro l hl hk; (try simp only [KC, KO, KU, KN, K0, KB] at hk ⊢); (repeat' (refine Or.elim hk (fun hk => ?_) (fun hk => ?_))) <;> first | exact hk | exact .inl hk | exact .inr hk | exact .inr (.inl hk) | exact .inr (.inr hk) | omega)
      have hE7 : Step (KU (KB s.n Ky) (KC (ub2 + 1) 0)) s s14 := hE7.comp st14 (by intro l hl hk; (try simp only [KC, KO, KU, KN, K0, KB] at hk ⊢); (repeat' (refine Or.elim hk (fun hk => ?_) (fun hk => ?_))) <;> first | exact hk | exact .inl hk | exact .inr hk | exact .inr (.inl hk) | exact .inr (.inr hk) | omega)
      replace hI := hI.up2 st14
      refine k_nil ?_
      refine k_blk ?_
      exact k_stop ⟨(s14, x8.2, x9, j), trivial, ⟨rfl, rfl, rfl, rfl, trivial⟩, ⟨rfl, hE7, hI, hb_b2, h⟩, (by simp)⟩
    ·
     have h := itF h c9
     refine k_exit rfl ?_
     exact k_stop ⟨(s8, x5, x6), trivial, ⟨rfl, rfl, rfl, rfl, trivial⟩, ⟨rfl, hE6, hI, hb_b2, h⟩⟩
   ·
    rintro ⟨s15, x3, x4⟩ wL ⟨rfl, hE6, hI, hb_b2, h⟩
    rw [hK6] at h
    have szs15 := hE6.size
    have hS : Step (KU (KB s.n Ky) (KC (ub2 + 1) 0)) s s15 := hS.comp hE6 (by intro l hl hk; (try simp only [KC, KO, KU, KN, K0, KB] at hk ⊢); (repeat' (refine Or.elim hk (fun hk => ?_) (fun hk => ?_))) <;> first | exact hk | exact .inl hk | exact .inr hk | exact .inr (.inl hk) | exact .inr (.inr hk) | omega)
    replace hb_b1 := hb_b1.up2 hE6 (by intro hk_; simp only [KU, KN, KC, KO, K0, KB] at hk_; (repeat' (refine Or.elim hk_ (fun hk_ => ?_) (fun hk_ => ?_))) <;> first | omega | exact absurd hk_.1 (by assumption))
    replace hb_b3 := hb_b3.up2 hE6 (by intro hk_; simp only [KU, KN, KC, KO, K0, KB] at hk_; (repeat' (refine Or.elim hk_ (fun hk_ => ?_) (fun hk_ => ?_))) <;> first | omega | exact absurd hk_.1 (by assumption))
    refine k_ret ?_
    obtain rfl := Option.some.inj h
    refine ⟨_, rfl, Ret.mk hS ?_⟩
    exact ⟨rfl, hI.1⟩
  ·
   have h := itF h c5
   refine k_skip ?_
   exact k_stop ⟨s, trivial, ⟨rfl, rfl, rfl, rfl, trivial⟩, ⟨rfl, hE4, h⟩⟩
 ·
  rintro s16 wL ⟨rfl, hE4, h⟩
  rw [hK4] at h
  have szs16 := hE4.size
  have hS := hS.trans0 hE4
  replace hI := hI.up2 hE4
  replace hb_b1 := hb_b1.up2 hE4
  replace hb_b2 := hb_b2.up2 hE4
  replace hb_b3 := hb_b3.up2 hE4
  refine k_seq ?_
  obtain ⟨kj10, hK17, h⟩ := jn_out h
  have hE17 := Step.r0 (KU (KB s.n Ky) (KC (ub2 + 1) 0)) s16
  refine k_cutc (X := St × XT × (List UInt8)) [(0, .func (.yield l) #[] #[]), (2, .pointer (some ⟨ub2, 0, none⟩))] (fun (xL : St × XT × (List UInt8)) => match xL with | (sl, x11, x12) => []) (fun (xL : St × XT × (List UInt8)) (wL : World) => match xL with | (sl, x11, x12) => sl.w = wL ∧ Step (KU (KB s.n Ky) (KC (ub2 + 1) 0)) s16 sl ∧ (ConsW I s.n (KC (ub2 + 1) 0) sl x11) ∧ (Blk sl ub2 ⟨ub2 + 1, 0⟩ [S x12] 9) ∧ kj10 x11 x12 = some r) ?_ ?_
  ·
   refine k_block ?_
   refine k_loopc (X := St × XT × (List UInt8) × Nat) [(0, _), (1, _), (2, _), (3, _)] (fun (xL : St × XT × (List UInt8) × Nat) => match xL with | (sl, x13, x14, j) => []) (fun (xL : St × XT × (List UInt8) × Nat) (wL : World) => match xL with | (sl, x13, x14, j) => sl.w = wL ∧ Step (KU (KB s.n Ky) (KC (ub2 + 1) 0)) s16 sl ∧ (ConsW I s.n (KC (ub2 + 1) 0) sl x13) ∧ (Blk sl ub2 ⟨ub2 + 1, 0⟩ [S x14] 9) ∧ strings_splitSeq_1_l2 a1 kj10 a3 a0 j x13 x14 = some r) (fun (xL : St × XT × (List UInt8) × Nat) => match xL with | (sl, x13, x14, j) => j) (s16, a50, a2, FU) ⟨rfl, rfl, rfl, rfl, trivial⟩ trivial ⟨rfl, (Step.refl _).of0 (by first | exact fun _ h => h | (intro c h; simp [KC, KO, KU, KN, KB] at h <;> omega)), hI, hb_b2, h⟩ ?_
   rintro ⟨s19, x13, x14, j⟩ wL ⟨rfl, hE18, hI, hb_b2, h⟩
   cases j with
   | zero => rw [strings_splitSeq_1_l2] at h; exact (noneNe h).elim
   | succ j =>
   rw [strings_splitSeq_1_l2] at h
   have szs19 := hE18.size
   have hS : Step (KU (KB s.n Ky) (KC (ub2 + 1) 0)) s s19 := hS.comp hE18 (by intro l hl hk; (try simp only [KC, KO, KU, KN, K0, KB] at hk ⊢); (repeat' (refine Or.elim hk (fun hk => ?_) (fun hk => ?_))) <;> first | exact hk | exact .inl hk | exact .inr hk | exact .inr (.inl hk) | exact .inr (.inr hk) | omega)
   have hE17 : Step (KU (KB s.n Ky) (KC (ub2 + 1) 0)) s16 s19 := hE17.comp hE18 (by intro l hl hk; (try simp only [KC, KO, KU, KN, K0, KB] at hk ⊢); (repeat' (refine Or.elim hk (fun hk => ?_) (fun hk => ?_))) <;> first | exact hk | exact .inl hk | exact .inr hk | exact .inr (.inl hk) | exact .inr (.inr hk) | omega)
   replace hb_b1 := hb_b1.up2 hE18 (by intro hk_; simp only [KU, KN, KC, KO, K0, KB] at hk_; (repeat' (refine Or.elim hk_ (fun hk_ => ?_) (fun hk_ => ?_))) <;> first | omega | exact absurd hk_.1 (by assumption))
   replace hb_b3 := hb_b3.up2 hE18 (by intro hk_; simp only [KU, KN, KC, KO, K0, KB] at hk_; (repeat' (refine Or.elim hk_ (fun hk_ => ?_) (fun hk_ => ?_))) <;> first | omega | exact absurd hk_.1 (by assumption))
   refine k_block ?_
   refine k_seq ?_
   refine k_region ?_
   refine k_load_blk one9 rfl hb_b2 rfl rfl ?_
   refine k_load_blk one9 rfl hb_b1 rfl rfl ?_
   by_cases c20 : a1.length = 1
   case neg => exact (noneNe (itF h c20)).elim
   replace h := itT h c20
   refine k_call cal46 rfl (index_w (a0 := x14) (a1 := a1) c20) rfl ?_
   rintro s21 _ st21 rfl
   have szs21 := st21.size
   have hS := hS.trans0 st21
   have hE17 := hE17.trans0 st21
   have hE18 := hE18.trans0 st21
   replace hI := hI.up2 st21
   replace hb_b1 := hb_b1.up2 st21
   replace hb_b2 := hb_b2.up2 st21
   replace hb_b3 := hb_b3.up2 st21
   refine k_assign rfl rfl ?_
   refine k_nil ?_
   refine k_keep [(0, _), (1, _), (2, _), (3, _), (7, _)] ⟨rfl, rfl, rfl, rfl, rfl, trivial⟩ ?_
   refine k_seq ?_
   refine k_seq ?_
   refine k_region ?_
   refine k_move rfl rfl ?_
   refine k_lss rfl rfl rfl ?_
   refine k_nil ?_
   refine k_keep [(0, _), (1, _), (2, _), (3, _), (7, _), (33, _)] ⟨rfl, rfl, rfl, rfl, rfl, rfl, trivial⟩ ?_
   refine k_cond_dec rfl (fun c22 => ?_) (fun c22 => ?_)
   ·
    have h := itT h c22
    refine k_exit rfl ?_
    exact k_stop ⟨(s21, x13, x14), trivial, ⟨rfl, rfl, trivial⟩, ⟨rfl, hE17, hI, hb_b2, h⟩⟩
   ·
    have h := itF h c22
    refine k_skip ?_
    refine k_seq ?_
    refine k_region ?_
    refine k_load_blk one9 rfl hb_b2 rfl rfl ?_
    refine k_move rfl rfl ?_
    refine k_load_blk one3 rfl hb_b3 rfl rfl ?_
    refine k_add rfl rfl rfl ?_
    obtain ⟨x15, hx15, h⟩ := ob h
    refine k_cut_str (i := (0 : Int).toNat) (j := (i64 ((Lib.indexByte x14 (a1.headD 0)) + a3) : Int).toNat) Tryd.underlying9 rfl CutAt.none (CutAt.int rfl (Int.le_trans (subl_out hx15).1 (subl_out hx15).2.1)) (subl_ij hx15) (subl_j hx15) rfl ?_
    refine k_as (v := S x15) (congrArg S (subl_out hx15).2.2.2.symm) ?_
    refine k_assign rfl rfl ?_
    refine k_nil ?_
    refine k_keep [(0, _), (1, _), (2, _), (3, _), (7, _), (8, _)] ⟨rfl, rfl, rfl, rfl, rfl, rfl, trivial⟩ ?_
    refine k_seq ?_
    refine k_seq ?_
    refine k_region ?_
    refine k_move rfl rfl ?_
    refine k_move rfl rfl ?_
    obtain ⟨x16, hx16, h⟩ := ob h
    refine k_yield rfl rfl (hY.yield _ _ _ _ _ hI.2.1 hI.1 rfl hx16) rfl ?_
    rintro s23 _ st23 ⟨rfl, hI⟩
    replace hI := ConsW.of hY hI (Nat.le_trans (by omega) st23.size)
    have szs23 := st23.size
    have hS : Step (KU (KB s.n Ky) (KC (ub2 + 1) 0)) s s23 := hS.comp st23 (by intro l hl hk; (try simp only [KC, KO, KU, KN, K0, KB] at hk ⊢); (repeat' (refine Or.elim hk (fun hk => ?_) (fun hk => ?_))) <;> first | exact hk | exact .inl hk | exact .inr hk | exact .inr (.inl hk) | exact .inr (.inr hk) | omega)
    have hE17 : Step (KU (KB s.n Ky) (KC (ub2 + 1) 0)) s16 s23 := hE17.comp st23 (by intro l hl hk; (try simp only [KC, KO, KU, KN, K0, KB] at hk ⊢); (repeat' (refine Or.elim hk (fun hk => ?_) (fun hk => ?_))) <;> first | exact hk | exact .inl hk | exact .inr hk | exact .inr (.inl hk) | exact .inr (.inr hk) | omega)
    have hE18 : Step (KU (KB s.n Ky) (KC (ub2 + 1) 0)) s16 s23 := hE18.comp st23 (by intro l hl hk; (try simp only [KC, KO, KU, KN, K0, KB] at hk ⊢); (repeat' (refine Or.elim hk (fun hk => ?_) (fun hk => ?_))) <;> first | exact hk | exact .inl hk | exact .inr hk | exact .inr (.inl hk) | exact .inr (.inr hk) | omega)
    replace hb_b1 := hb_b1.up2 st23 (by intro hk_; simp only [KU, KN, KC, KO, K0, KB] at hk_; (repeat' (refine Or.elim hk_ (fun hk_ => ?_) (fun hk_ => ?_))) <;> first | omega | exact absurd hk_.1 (by assumption))
    replace hb_b2 := hb_b2.up2 st23 (by intro hk_; simp only [KU, KN, KC, KO, K0, KB] at hk_; (repeat' (refine Or.elim hk_ (fun hk_ => ?_) (fun hk_ => ?_))) <;> first | omega | exact absurd hk_.1 (by assumption))
    replace hb_b3 := hb_b3.up2 st23 (by intro hk_; simp only [KU, KN, KC, KO, K0, KB] at hk_; (repeat' (refine Or.elim hk_ (fun hk_ => ?_) (fun hk_ => ?_))) <;> first | omega | exact absurd hk_.1 (by assumption))
    refine k_not rfl rfl ?_
    refine k_nil ?_
    refine k_keep [(0, _), (1, _), (2, _), (3, _), (7, _), (42, _)] ⟨rfl, rfl, rfl, rfl, rfl, rfl, trivial⟩ ?_
    refine k_cond rfl (fun c24 => ?_) (fun c24 => ?_)
    ·
     have h := ibT h c24
     refine k_ret ?_
     obtain rfl := Option.some.inj h
     refine ⟨_, rfl, Ret.mk hS ?_⟩
     exact ⟨rfl, hI.1⟩
    ·
     have h := ibF h c24
     refine k_skip ?_
     refine k_region ?_
     refine k_load_blk one9 rfl hb_b2 rfl rfl ?_
     refine k_move rfl rfl ?_
     refine k_load_blk one9 rfl hb_b1 rfl rfl ?_
     refine k_len_str Tryd.underlying9 rfl rfl ?_
     refine k_add rfl rfl rfl ?_
     obtain ⟨x17, hx17, h⟩ := ob h
     refine k_cut_str (i := (i64 ((Lib.indexByte x14 (a1.headD 0)) + (a1.length : Int)) : Int).toNat) (j := ((x14.length : Int) : Int).toNat) Tryd.underlying9 rfl (CutAt.int rfl (subl_out hx17).1) CutAt.none (subl_ij hx17) (subl_j hx17) rfl ?_
     refine k_as (v := S x17) (congrArg S (subl_out hx17).2.2.2.symm) ?_
     refine k_store_c (cs' := [S x17]) size9 rfl rfl hb_b2 (by first | (simp; done) | omega | (dsimp only; omega)) (CellsOf.lit rfl rfl) rfl (by first | rfl | (simp; done) | (simp; omega)) rfl ?_
     intro s25 st25 hb_b2
     have szs25 := st25.size
     have hS : Step (KU (KB s.n Ky) (KC (ub2 + 1) 0)) s s25 := hS.comp st25 (by intro l hl hk; (try simp only [KC, KO, KU, KN, K0, KB] at hk ⊢); (repeat' (refine Or.elim hk (fun hk => ?_) (fun hk => ?_))) <;> first | exact hk | exact .inl hk | exact .inr hk | exact .inr (.inl hk) | exact .inr (.inr hk) | omega)
     have hE17 : Step (KU (KB s.n Ky) (KC (ub2 + 1) 0)) s16 s25 := hE17.comp st25 (by intro l hl hk; (try simp only [KC, KO, KU, KN, K0, KB] at hk ⊢); (repeat' (refine Or.elim hk (fun hk => ?_) (fun hk => ?_))) <;> first | exact hk | exact .inl hk | exact .inr hk | exact .inr (.inl hk) | exact .inr (.inr hk) | omega)
     have hE18 : Step (KU (KB s.n Ky) (KC (ub2 + 1) 0)) s16 s25 := hE18.comp st25 (by intro l hl hk; (try simp only [KC, KO, KU, KN, K0, KB] at hk ⊢); (repeat' (refine Or.elim hk (fun hk => ?_) (fun hk => ?_))) <;> first | exact hk | exact .inl hk | exact .inr hk | exact .inr (.inl hk) | exact .inr (.inr hk) | omega)
     replace hI := hI.up2 st25
     refine k_nil ?_
     refine k_blk ?_
     exact k_stop ⟨(s25, x16.2, x17, j), trivial, ⟨rfl, rfl, rfl, rfl, trivial⟩, ⟨rfl, hE18, hI, hb_b2, h⟩, (by simp)⟩
  ·
   rintro ⟨s26, x11, x12⟩ wL ⟨rfl, hE17, hI, hb_b2, h⟩
   rw [hK17] at h
   have szs26 := hE17.size
   have hS : Step (KU (KB s.n Ky) (KC (ub2 + 1) 0)) s s26 := hS.comp hE17 (by intro l hl hk; (try simp only [KC, KO, KU, KN, K0, KB] at hk ⊢); (repeat' (refine Or.elim hk (fun hk => ?_) (fun hk => ?_))) <;> first | exact hk | exact .inl hk | exact .inr hk | exact .inr (.inl hk) | exact .inr (.inr hk) | omega)
   refine k_region ?_
   refine k_move rfl rfl ?_
   refine k_load_blk one9 rfl hb_b2 rfl rfl ?_
   obtain ⟨x18, hx18, h⟩ := ob h
   refine k_yield rfl rfl (hY.yield _ _ _ _ _ hI.2.1 hI.1 rfl hx18) rfl ?_
   rintro s27 _ st27 ⟨rfl, hI⟩
   replace hI := ConsW.of hY hI (Nat.le_trans (by omega) st27.size)
   have szs27 := st27.size
   have hS : Step (KU (KB s.n Ky) (KC (ub2 + 1) 0)) s s27 := hS.comp st27 (by intro l hl hk; (try simp only [KC, KO, KU, KN, K0, KB] at hk ⊢); (repeat' (refine Or.elim hk (fun hk => ?_) (fun hk => ?_))) <;> first | exact hk | exact .inl hk | exact .inr hk | exact .inr (.inl hk) | exact .inr (.inr hk) | omega)
   replace hb_b2 := hb_b2.up2 st27 (by intro hk_; simp only [KU, KN, KC, KO, K0, KB] at hk_; (repeat' (refine Or.elim hk_ (fun hk_ => ?_) (fun hk_ => ?_))) <;> first | omega | exact absurd hk_.1 (by assumption))
   refine k_nil ?_
   refine k_end ?_
   obtain rfl := Option.some.inj h
   refine ⟨_, rfl, Ret.mk hS ?_⟩
   exact ⟨rfl, hI.1⟩

set_option maxHeartbeats 1000000 in
set_option maxRecDepth 100000 in
theorem slices_Index_string_string_w {s : St} {l0 : Lab} {v0 : Value} {a0 : (List (List UInt8))} {a1 : (List UInt8)} {r : Int} (hp0 : SL s l0 v0 1 (a0.map dS)) (h : slices_Index_string_string a0 a1 = some r) : Calls Tryd.prog 31 #[v0, S a1] s.w (Ret s K0 (fun s1 v => v = .int .i64 r)) := by
 unfold slices_Index_string_string at h
 obtain ⟨lf0, lf0le, lf0ne, hp0⟩ := hp0.fix
 have hS := Step.r0 K0 s
 refine k_fn (rs := [4]) (args := [v0, S a1]) Tryd.func31 rfl rfl rfl rfl ?_
 refine k_seq ?_
 refine k_region ?_
 refine k_assign rfl rfl ?_
 refine k_nil ?_
 refine k_seq ?_
 obtain ⟨kj1, hK1, h⟩ := jn_out h
 have hE1 := Step.r0 K0 s
 refine k_cutc (X := St) [(4, .int .i64 0)] (fun (xL : St) => match xL with | sl => []) (fun (xL : St) (wL : World) => match xL with | sl => sl.w = wL ∧ Step K0 s sl ∧ kj1 () = some r) ?_ ?_
 ·
  refine k_seq ?_
  refine k_region ?_
  refine k_move rfl rfl ?_
  refine k_len Tryd.underlying23 rfl hp0.hasLen rfl ?_
  refine k_as (v := .int .i64 (a0.length : Int)) (by simp only [List.length_map]) ?_
  refine k_move rfl rfl ?_
  refine k_nil ?_
  refine k_keep [(0, _), (1, _), (4, _), (7, _), (8, _)] ⟨rfl, rfl, rfl, rfl, rfl, trivial⟩ ?_
  refine k_block ?_
  refine k_loopc (X := St × Int × Nat) [(0, _), (1, _), (4, _), (7, _)] (fun (xL : St × Int × Nat) => match xL with | (sl, x2, j) => [(8, .int .i64 x2)]) (fun (xL : St × Int × Nat) (wL : World) => match xL with | (sl, x2, j) => sl.w = wL ∧ Step K0 s sl ∧ slices_Index_string_string_l1 a0 a1 kj1 j x2 = some r) (fun (xL : St × Int × Nat) => match xL with | (sl, x2, j) => j) (s, 0, FU) ⟨rfl, rfl, rfl, rfl, trivial⟩ ⟨(by first | rfl | (simp <;> rfl)), trivial⟩ ⟨rfl, (Step.refl _).of0 (by first | exact fun _ h => h | (intro c h; simp [KC, KO, KU, KN, KB] at h <;> omega)), h⟩ ?_
  rintro ⟨s3, x2, j⟩ wL ⟨rfl, hE2, h⟩
  cases j with
  | zero => rw [slices_Index_string_string_l1] at h; exact (noneNe h).elim
  | succ j =>
  rw [slices_Index_string_string_l1] at h
  have szs3 := hE2.size
  have hS := hS.trans0 hE2
  have hE1 := hE1.trans0 hE2
  replace hp0 := hp0.up2 hE2
  refine k_seq ?_
  refine k_region ?_
  refine k_lss rfl rfl rfl ?_
  refine k_nil ?_
  refine k_seq ?_
  refine k_cond_dec rfl (fun c4 => ?_) (fun c4 => ?_)
  ·
   have h := itT h c4
   refine k_skip ?_
   refine k_seq ?_
   refine k_block ?_
   refine k_seq ?_
   refine k_region ?_
   refine k_move rfl rfl ?_
   refine k_assign rfl rfl ?_
   refine k_nil ?_
   refine k_keep [(0, _), (1, _), (4, _), (5, _), (7, _), (8, _)] ⟨rfl, rfl, rfl, rfl, rfl, rfl, trivial⟩ ?_
   refine k_seq ?_
   refine k_region ?_
   refine k_move rfl rfl ?_
   refine k_move rfl rfl ?_
   refine k_move rfl rfl ?_
   obtain ⟨x3, hx3, h⟩ := ob h
   refine k_ixaddr Tryd.underlying23 size9 rfl rfl hp0 (geti_out hx3).1 (geti_map hx3) rfl ?_
   intro qx3 hqx3
   refine k_load_val one9 rfl hqx3 rfl ?_
   refine k_eql_str rfl rfl rfl ?_
   refine k_nil ?_
   refine k_keep [(0, _), (1, _), (4, _), (5, _), (7, _), (8, _), (16, _)] ⟨rfl, rfl, rfl, rfl, rfl, rfl, rfl, trivial⟩ ?_
   refine k_cond_dec rfl (fun c5 => ?_) (fun c5 => ?_)
   ·
    have h := itT h c5
    refine k_seq ?_
    refine k_region ?_
    refine k_move rfl rfl ?_
    refine k_assign rfl rfl ?_
    refine k_nil ?_
    refine k_keep [(0, _), (1, _), (4, _), (7, _), (8, _)] ⟨rfl, rfl, rfl, rfl, rfl, trivial⟩ ?_
    refine k_ret ?_
    obtain rfl := Option.some.inj h
    refine ⟨_, rfl, Ret.mk hS ?_⟩
    exact rfl
   ·
    have h := itF h c5
    refine k_skip ?_
    refine k_blk ?_
    refine k_region ?_
    refine k_add rfl rfl rfl ?_
    refine k_move rfl rfl ?_
    refine k_nil ?_
    exact k_stop ⟨(s3, i64 (x2 + 1), j), ⟨(by first | rfl | (simp <;> rfl)), trivial⟩, ⟨rfl, rfl, rfl, rfl, trivial⟩, ⟨rfl, hE2, h⟩, (by simp)⟩
  ·
   have h := itF h c4
   refine k_exit rfl ?_
   exact k_stop ⟨s3, trivial, ⟨rfl, trivial⟩, ⟨rfl, hE1, h⟩⟩
 ·
  rintro s6 wL ⟨rfl, hE1, h⟩
  rw [hK1] at h
  have szs6 := hE1.size
  have hS := hS.trans0 hE1
  refine k_seq ?_
  refine k_region ?_
  refine k_assign rfl rfl ?_
  refine k_nil ?_
  refine k_ret ?_
  obtain rfl := Option.some.inj h
  refine ⟨_, rfl, Ret.mk hS ?_⟩
  exact rfl

set_option maxHeartbeats 1000000 in
set_option maxRecDepth 100000 in
theorem value_step_w {s : St} {cs0 : List Value} {a0 : ApiValue} {a1 : (List UInt8)} {r : (ApiValue × Bool)} (hp0 : RC s cs0 (dApiValue a0)) (tb0 : Tab0 s) (tb1 : Tab1 s) (tb2 : Tab2 s) (h : value_step a0 a1 = some r) : Calls Tryd.prog 16 #[.agg cs0.toArray, S a1] s.w (Ret s K0 (fun s1 v => ∃ (u0 : List Value), v = .tuple #[.agg u0.toArray, .bool r.2] ∧ RC s1 u0 (dApiValue r.1))) := by
 unfold value_step at h
 obtain ⟨q0_0, q0_1, rfl, hq0_0, hq0_1⟩ := opnApiValue hp0
 have hS := Step.r0 K0 s
 refine k_fn_c (rs := [.cell 4 25, .tmp 5]) (args := [.agg #[.int .i64 a0.Kind, .int .i64 a0.Num, S a0.Text, q0_0, q0_1], S a1]) Tryd.func16 rfl rfl rfl rfl ?_
 refine k_seq ?_
 refine k_region ?_
 refine k_box rfl rfl ?_
 intro s1 b1 st1 h1 ge1
 have szs1 := st1.size
 have hS := hS.trans0 st1
 replace hq0_0 := hq0_0.up2 st1
 replace hq0_1 := hq0_1.up2 st1
 replace tb0 := tb0.up2 st1
 replace tb1 := tb1.up2 st1
 replace tb2 := tb2.up2 st1
 have lt1 := h1.lt
 refine k_alloc zero25 rfl ?_
 intro s2 b2 st2 h2 ge2
 have szs2 := st2.size
 have hS := hS.trans0 st2
 replace hq0_0 := hq0_0.up2 st2
 replace hq0_1 := hq0_1.up2 st2
 replace h1 := h1.up2 st2
 replace tb0 := tb0.up2 st2
 replace tb1 := tb1.up2 st2
 replace tb2 := tb2.up2 st2
 have lt2 := h2.lt
 refine k_assign rfl rfl ?_
 refine k_nil ?_
 refine k_keep [(1, _), (2, _), (4, _), (5, _)] ⟨rfl, rfl, rfl, rfl, trivial⟩ ?_
 refine k_seq ?_
 refine k_region ?_
 refine k_assign rfl rfl ?_
 refine k_nil ?_
 refine k_seq ?_
 obtain ⟨kj1, hK3, h⟩ := jn_out h
 have hE3 := Step.r0 K0 s2
 refine k_cutc (X := St × Int) [(2, .pointer (some ⟨b1, 0, none⟩)), (4, .pointer (some ⟨b2, 0, none⟩)), (5, .bool false)] (fun (xL : St × Int) => match xL with | (sl, x2) => [(6, .int .i64 x2)]) (fun (xL : St × Int) (wL : World) => match xL with | (sl, x2) => sl.w = wL ∧ Step K0 s2 sl ∧ kj1 x2 = some r) ?_ ?_
 ·
  refine k_seq ?_
  refine k_region ?_
  refine k_field_addr fld25_0 rfl rfl ?_
  refine k_load_blk one3 rfl h1 rfl rfl ?_
  refine k_nil ?_
  refine k_keep [(1, _), (2, _), (4, _), (5, _), (6, _), (10, _)] ⟨rfl, rfl, rfl, rfl, rfl, rfl, trivial⟩ ?_
  refine k_block ?_
  refine k_seq ?_
  refine k_region ?_
  refine k_eql rfl rfl rfl ?_
  refine k_assign rfl rfl ?_
  refine k_nil ?_
  refine k_keep [(1, _), (2, _), (4, _), (5, _), (6, _), (10, _), (11, _)] ⟨rfl, rfl, rfl, rfl, rfl, rfl, rfl, trivial⟩ ?_
  refine k_cond_dec rfl (fun c4 => ?_) (fun c4 => ?_)
  ·
   have h := itT h c4
   refine k_region ?_
   refine k_field_addr fld25_4 rfl rfl ?_
   refine k_load_blk one23 rfl h1 rfl rfl ?_
   refine k_move rfl rfl ?_
   obtain ⟨x3, hx3, h⟩ := ob h
   refine k_call cal31 rfl (slices_Index_string_string_w  (SL.of_R hq0_1) hx3) rfl ?_
   rintro s5 vr5 st5 rfl
   have szs5 := st5.size
   have hS := hS.trans0 st5
   have hE3 := hE3.trans0 st5
   refine k_assign rfl rfl ?_
   refine k_nil ?_
   refine k_blk ?_
   exact k_stop ⟨(s5, x3), ⟨(by first | rfl | (simp <;> rfl)), trivial⟩, ⟨rfl, rfl, rfl, trivial⟩, ⟨rfl, hE3, h⟩⟩
  ·
   have h := itF h c4
   refine k_seq ?_
   refine k_region ?_
   refine k_eql rfl rfl rfl ?_
   refine k_assign rfl rfl ?_
   refine k_nil ?_
   refine k_keep [(1, _), (2, _), (4, _), (5, _), (6, _), (17, _)] ⟨rfl, rfl, rfl, rfl, rfl, rfl, trivial⟩ ?_
   refine k_cond_dec rfl (fun c6 => ?_) (fun c6 => ?_)
   ·
    have h := itT h c6
    refine k_seq ?_
    refine k_region ?_
    refine k_move rfl rfl ?_
    by_cases c7 : a1.length ≤ 1000000
    case neg => exact (noneNe (itF h c7)).elim
    replace h := itT h c7
    refine k_call cal32 rfl (atoi_w (a0 := a1) tb0 tb1 c7) rfl ?_
    rintro s8 _ st8 ⟨ev8, rfl, he8⟩
    have szs8 := st8.size
    have hS := hS.trans0 st8
    have hE3 := hE3.trans0 st8
    replace hq0_0 := hq0_0.up2 st8
    replace h1 := h1.up2 st8
    replace tb2 := tb2.up2 st8
    refine k_move rfl rfl ?_
    refine k_extract rfl rfl rfl ?_
    refine k_extract rfl rfl rfl ?_
    refine k_assign rfl rfl ?_
    refine k_assign rfl rfl ?_
    refine k_nil ?_
    refine k_keep [(1, _), (2, _), (4, _), (5, _), (6, _), (7, _), (8, _)] ⟨rfl, rfl, rfl, rfl, rfl, rfl, rfl, trivial⟩ ?_
    refine k_seq ?_
    refine k_region ?_
    refine k_move rfl rfl ?_
    refine k_eql_err ifcT62 he8 rfl rfl ?_
    refine k_move rfl rfl ?_
    have hE9 := Step.r0 K0 s8
    refine k_cutl (X := St) 3 [(1, S a1), (2, .pointer (some ⟨b1, 0, none⟩)), (4, .pointer (some ⟨b2, 0, none⟩)), (5, .bool false), (6, .int .i64 (-1)), (7, .int .i64 ((atoiR a1).1)), (8, ev8), (24, ev8), (25, .bool (!(atoiR a1).2))] (fun _ => [(29, .bool (decide (((!(atoiR a1).2) = true) ∧ (0 ≤ (atoiR a1).1))))]) (fun sl wL => sl.w = wL ∧ Step K0 s8 sl) ?_ ?_
    ·
     refine k_again 26 rfl ?_
     refine k_splitb (fun c10 => ?_) (fun c10 => ?_)
     ·
      refine k_yes rfl rfl ?_
      refine k_move rfl rfl ?_
      refine k_yes rfl rfl ?_
      refine k_geq rfl rfl rfl ?_
      refine k_pickT rfl rfl rfl rfl ?_
      exact k_met ⟨s8, ⟨(congrArg (fun b => some (Value.bool b)) (by first | exact decide_eq_decide.2 ⟨fun h => ⟨c10, h⟩, fun h => h.2⟩ | exact (decide_eq_false (fun h => c10 h.1)).symm | (simp [c10]; done) | (simp [c10, i64] <;> omega))), trivial⟩, ⟨rfl, rfl, rfl, rfl, rfl, rfl, rfl, rfl, rfl, trivial⟩, rfl, hE9⟩
     ·
      refine k_no rfl rfl rfl rfl ?_
      refine k_no rfl rfl rfl rfl ?_
      refine k_pickF rfl rfl rfl rfl ?_
      exact k_met ⟨s8, ⟨(congrArg (fun b => some (Value.bool b)) (by first | exact decide_eq_decide.2 ⟨fun h => ⟨c10, h⟩, fun h => h.2⟩ | exact (decide_eq_false (fun h => c10 h.1)).symm | (simp [c10]; done) | (simp [c10, i64] <;> omega))), trivial⟩, ⟨rfl, rfl, rfl, rfl, rfl, rfl, rfl, rfl, rfl, trivial⟩, rfl, hE9⟩
    ·
     rintro s11 wL ⟨rfl, hE9⟩
     have szs11 := hE9.size
     have hS := hS.trans0 hE9
     have hE3 := hE3.trans0 hE9
     replace hq0_0 := hq0_0.up2 hE9
     replace h1 := h1.up2 hE9
     replace tb2 := tb2.up2 hE9
     refine k_move rfl rfl ?_
     have hE12 := Step.r0 K0 s11
     refine k_cutl (X := St) 6 [(1, S a1), (2, .pointer (some ⟨b1, 0, none⟩)), (4, .pointer (some ⟨b2, 0, none⟩)), (5, .bool false), (6, .int .i64 (-1)), (7, .int .i64 ((atoiR a1).1)), (8, ev8), (24, ev8), (25, .bool (!(atoiR a1).2)), (29, .bool (decide (((!(atoiR a1).2) = true) ∧ (0 ≤ (atoiR a1).1))))] (fun _ => [(36, .bool (decide ((((!(atoiR a1).2) = true) ∧ (0 ≤ (atoiR a1).1)) ∧ ((atoiR a1).1 < (a0.List_.length : Int)))))]) (fun sl wL => sl.w = wL ∧ Step K0 s11 sl) ?_ ?_
     ·
      refine k_again 30 rfl ?_
      refine k_split (fun c13 => ?_) (fun c13 => ?_)
      ·
       refine k_yes rfl rfl ?_
       refine k_move rfl rfl ?_
       refine k_yes rfl rfl ?_
       refine k_field_addr fld25_3 rfl rfl ?_
       refine k_yes rfl rfl ?_
       refine k_load_blk one22 rfl h1 rfl rfl ?_
       refine k_yes rfl rfl ?_
       refine k_len Tryd.underlying22 rfl (SL.of_R hq0_0).hasLen rfl ?_
       refine k_as (v := .int .i64 (a0.List_.length : Int)) (by simp only [List.length_map]) ?_
       refine k_yes rfl rfl ?_
       refine k_lss rfl rfl rfl ?_
       refine k_pickT rfl rfl rfl rfl ?_
       exact k_met ⟨s11, ⟨(congrArg (fun b => some (Value.bool b)) (by first | exact decide_eq_decide.2 ⟨fun h => ⟨c13, h⟩, fun h => h.2⟩ | exact (decide_eq_false (fun h => c13 h.1)).symm | (simp [c13]; done) | (simp [c13, i64] <;> omega))), trivial⟩, ⟨rfl, rfl, rfl, rfl, rfl, rfl, rfl, rfl, rfl, rfl, trivial⟩, rfl, hE12⟩
      ·
       refine k_no rfl rfl rfl rfl ?_
       refine k_no rfl rfl rfl rfl ?_
       refine k_no rfl rfl rfl rfl ?_
       refine k_no rfl rfl rfl rfl ?_
       refine k_no rfl rfl rfl rfl ?_
       refine k_pickF rfl rfl rfl rfl ?_
       exact k_met ⟨s11, ⟨(congrArg (fun b => some (Value.bool b)) (by first | exact decide_eq_decide.2 ⟨fun h => ⟨c13, h⟩, fun h => h.2⟩ | exact (decide_eq_false (fun h => c13 h.1)).symm | (simp [c13]; done) | (simp [c13, i64] <;> omega))), trivial⟩, ⟨rfl, rfl, rfl, rfl, rfl, rfl, rfl, rfl, rfl, rfl, trivial⟩, rfl, hE12⟩
     ·
      rintro s14 wL ⟨rfl, hE12⟩
      have szs14 := hE12.size
      have hS := hS.trans0 hE12
      have hE3 := hE3.trans0 hE12
      replace tb2 := tb2.up2 hE12
      refine k_move rfl rfl ?_
      obtain ⟨x4, hx4, h⟩ := ob h
      have hE15 := Step.r0 K0 s14
      refine k_cutl (X := St) 5 [(1, S a1), (2, .pointer (some ⟨b1, 0, none⟩)), (4, .pointer (some ⟨b2, 0, none⟩)), (5, .bool false), (6, .int .i64 (-1)), (7, .int .i64 ((atoiR a1).1)), (8, ev8), (24, ev8), (25, .bool (!(atoiR a1).2)), (29, .bool (decide (((!(atoiR a1).2) = true) ∧ (0 ≤ (atoiR a1).1)))), (36, .bool (decide ((((!(atoiR a1).2) = true) ∧ (0 ≤ (atoiR a1).1)) ∧ ((atoiR a1).1 < (a0.List_.length : Int)))))] (fun _ => [(42, .bool x4)]) (fun sl wL => sl.w = wL ∧ Step K0 s14 sl) ?_ ?_
      ·
       refine k_again 37 rfl ?_
       refine k_split (fun c16 => ?_) (fun c16 => ?_)
       ·
        have hx4 := itT hx4 c16
        refine k_yes rfl rfl ?_
        refine k_move rfl rfl ?_
        refine k_yes rfl rfl ?_
        by_cases c17 : -9223372036854775808 ≤ (atoiR a1).1 ∧ (atoiR a1).1 ≤ 9223372036854775807
        case neg => exact (noneNe (itF hx4 c17)).elim
        replace hx4 := itT hx4 c17
        refine k_call cal33 rfl (itoa_w (a0 := ((atoiR a1).1)) tb2 c17) rfl ?_
        rintro s18 _ st18 rfl
        have szs18 := st18.size
        have hS := hS.trans0 st18
        have hE3 := hE3.trans0 st18
        have hE15 := hE15.trans0 st18
        refine k_yes rfl rfl ?_
        refine k_move rfl rfl ?_
        refine k_yes rfl rfl ?_
        refine k_eql_str rfl rfl rfl ?_
        refine k_pickT rfl rfl rfl rfl ?_
        exact k_met ⟨s18, ⟨(congrArg (fun b => some (Value.bool b)) (Option.some.inj hx4)), trivial⟩, ⟨rfl, rfl, rfl, rfl, rfl, rfl, rfl, rfl, rfl, rfl, rfl, trivial⟩, rfl, hE15⟩
       ·
        have hx4 := itF hx4 c16
        refine k_no rfl rfl rfl rfl ?_
        refine k_no rfl rfl rfl rfl ?_
        refine k_no rfl rfl rfl rfl ?_
        refine k_no rfl rfl rfl rfl ?_
        refine k_pickF rfl rfl rfl rfl ?_
        exact k_met ⟨s14, ⟨(congrArg (fun b => some (Value.bool b)) (Option.some.inj hx4)), trivial⟩, ⟨rfl, rfl, rfl, rfl, rfl, rfl, rfl, rfl, rfl, rfl, rfl, trivial⟩, rfl, hE15⟩
      ·
       rintro s19 wL ⟨rfl, hE15⟩
       have szs19 := hE15.size
       have hS := hS.trans0 hE15
       have hE3 := hE3.trans0 hE15
       refine k_nil ?_
       refine k_keep [(2, _), (4, _), (5, _), (6, _), (7, _), (42, _)] ⟨rfl, rfl, rfl, rfl, rfl, rfl, trivial⟩ ?_
       refine k_cond rfl (fun c20 => ?_) (fun c20 => ?_)
       ·
        have h := ibT h c20
        refine k_region ?_
        refine k_move rfl rfl ?_
        refine k_assign rfl rfl ?_
        refine k_nil ?_
        refine k_blk ?_
        exact k_stop ⟨(s19, (atoiR a1).1), ⟨(by first | rfl | (simp <;> rfl)), trivial⟩, ⟨rfl, rfl, rfl, trivial⟩, ⟨rfl, hE3, h⟩⟩
       ·
        have h := ibF h c20
        refine k_skip ?_
        refine k_blk ?_
        exact k_stop ⟨(s19, (-1)), ⟨(by first | rfl | (simp <;> rfl)), trivial⟩, ⟨rfl, rfl, rfl, trivial⟩, ⟨rfl, hE3, h⟩⟩
   ·
    have h := itF h c6
    refine k_skip ?_
    refine k_blk ?_
    exact k_stop ⟨(s2, (-1)), ⟨(by first | rfl | (simp <;> rfl)), trivial⟩, ⟨rfl, rfl, rfl, trivial⟩, ⟨rfl, hE3, h⟩⟩
 ·
  rintro ⟨s21, x2⟩ wL ⟨rfl, hE3, h⟩
  rw [hK3] at h
  have szs21 := hE3.size
  have hS := hS.trans0 hE3
  replace hq0_0 := hq0_0.up2 hE3
  replace h1 := h1.up2 hE3
  replace h2 := h2.up2 hE3
  refine k_seq ?_
  refine k_seq ?_
  refine k_region ?_
  refine k_move rfl rfl ?_
  refine k_lss rfl rfl rfl ?_
  refine k_nil ?_
  refine k_keep [(2, _), (4, _), (5, _), (6, _), (45, _)] ⟨rfl, rfl, rfl, rfl, rfl, trivial⟩ ?_
  refine k_cond_dec rfl (fun c22 => ?_) (fun c22 => ?_)
  ·
   have h := itT h c22
   refine k_seq ?_
   refine k_region ?_
   refine k_build plc25 zero25 rfl Parts.nil (by rfl) rfl ?_
   refine k_as (v := .agg #[.int .i64 0, .int .i64 0, S ([] : List UInt8), .slice none 0 0, .slice none 0 0]) rfl ?_
   refine k_store_c (cs' := [.int .i64 0, .int .i64 0, S ([] : List UInt8), .slice none 0 0, .slice none 0 0]) size25 rfl rfl h2 (by first | (simp; done) | omega | (dsimp only; omega)) (CellsOf.lit rfl rfl) rfl (by first | rfl | (simp; done) | (simp; omega)) rfl ?_
   intro s23 st23 h2
   have szs23 := st23.size
   have hS := hS.c0 st23
   refine k_assign rfl rfl ?_
   refine k_nil ?_
   refine k_keep [(2, _), (4, _), (5, _), (6, _)] ⟨rfl, rfl, rfl, rfl, trivial⟩ ?_
   refine k_ret ?_
   obtain rfl := Option.some.inj h
   refine ⟨[.agg [.int .i64 0, .int .i64 0, S ([] : List UInt8), .slice none 0 0, .slice none 0 0].toArray, .bool false], ⟨res_blk (cs := [.int .i64 0, .int .i64 0, S ([] : List UInt8), .slice none 0 0, .slice none 0 0]) rfl agg25 h2, rfl, trivial⟩, Ret.mk hS ?_⟩
   exact ⟨_, rfl, (clsApiValue (⟨0, 0, ([] : List UInt8), [], []⟩ : ApiValue) (R.of_SL (.inl ⟨rfl, none, 0, rfl, fun _ => rfl⟩)) (R.of_SL (.inl ⟨rfl, none, 0, rfl, fun _ => rfl⟩)))⟩
  ·
   have h := itF h c22
   refine k_skip ?_
   refine k_seq ?_
   refine k_region ?_
   refine k_field_addr fld25_3 rfl rfl ?_
   refine k_load_blk one22 rfl h1 rfl rfl ?_
   refine k_move rfl rfl ?_
   obtain ⟨x5, hx5, h⟩ := ob h
   refine k_ixaddr Tryd.underlying22 size25 rfl rfl (SL.of_R hq0_0) (geti_out hx5).1 (geti_map hx5) rfl ?_
   intro qx5 hqx5
   refine k_load_agg (by exact agg25) rfl hqx5 rfl ?_
   intro cs24 h24
   obtain ⟨q24_0, q24_1, rfl, hq24_0, hq24_1⟩ := opnApiValue h24
   refine k_store_c (cs' := [.int .i64 x5.Kind, .int .i64 x5.Num, S x5.Text, q24_0, q24_1]) size25 rfl rfl h2 (by first | (simp; done) | omega | (dsimp only; omega)) (CellsOf.lit (vs := [.int .i64 x5.Kind, .int .i64 x5.Num, S x5.Text, q24_0, q24_1]) rfl (ones.cons rfl (ones.cons rfl (ones.cons rfl (ones.cons ((SL.of_R hq24_0)).one1 (ones.cons ((SL.of_R hq24_1)).one1 ones.nil)))))) rfl (by first | rfl | (simp; done) | (simp; omega)) rfl ?_
   intro s25 st25 h2
   have szs25 := st25.size
   have hS := hS.c0 st25
   replace hq24_0 := hq24_0.up2 st25
   replace hq24_1 := hq24_1.up2 st25
   refine k_assign rfl rfl ?_
   refine k_nil ?_
   refine k_keep [(4, _), (5, _)] ⟨rfl, rfl, trivial⟩ ?_
   refine k_ret ?_
   obtain rfl := Option.some.inj h
   refine ⟨[.agg [.int .i64 x5.Kind, .int .i64 x5.Num, S x5.Text, q24_0, q24_1].toArray, .bool true], ⟨res_blk (cs := [.int .i64 x5.Kind, .int .i64 x5.Num, S x5.Text, q24_0, q24_1]) rfl agg25 h2, rfl, trivial⟩, Ret.mk hS ?_⟩
   exact ⟨_, rfl, (clsApiValue x5 hq24_0 hq24_1)⟩

set_option maxHeartbeats 1000000 in
set_option maxRecDepth 100000 in
theorem slices_Clone_string_string_w {s : St} {l0 : Lab} {v0 : Value} {a0 : (List (List UInt8))} {r : (List (List UInt8))} (hp0 : SL s l0 v0 1 (a0.map dS)) (h : slices_Clone_string_string a0 = some r) : Calls Tryd.prog 34 #[v0] s.w (Ret s K0 (fun s1 v => ∃ (u0 : Value), v = u0 ∧ R s1 u0 (.sl 1 (r.map dS)))) := by
 unfold slices_Clone_string_string at h
 obtain ⟨lf0, lf0le, lf0ne, hp0⟩ := hp0.fix
 have hS := Step.r0 K0 s
 refine k_fn (rs := [2]) (args := [v0]) Tryd.func34 rfl rfl rfl rfl ?_
 refine k_seq ?_
 refine k_region ?_
 refine k_assign rfl rfl ?_
 refine k_nil ?_
 refine k_seq ?_
 refine k_seq ?_
 refine k_region ?_
 refine k_move rfl rfl ?_
 refine k_eql_snilv Tryd.underlying23 rfl rfl hp0 rfl ?_
 refine k_nil ?_
 refine k_keep [(0, _), (2, _), (4, _)] ⟨rfl, rfl, rfl, trivial⟩ ?_
 refine k_cond rfl (fun c1 => ?_) (fun c1 => ?_)
 ·
  have hz5 := SL.nilS_nil hp0 c1
  obtain rfl : a0 = [] := by simpa using hz5
  replace h : some ([]) = some r := by simpa [app] using h
  refine k_seq ?_
  refine k_region ?_
  refine k_assign rfl rfl ?_
  refine k_nil ?_
  refine k_keep [(0, _), (2, _)] ⟨rfl, rfl, trivial⟩ ?_
  refine k_ret ?_
  obtain rfl := Option.some.inj h
  refine ⟨_, rfl, Ret.mk hS ?_⟩
  exact ⟨_, rfl, (R.of_SL (.inl ⟨rfl, none, 0, rfl, fun _ => rfl⟩))⟩
 ·
  refine k_skip ?_
  refine k_seq ?_
  refine k_region ?_
  refine k_bslice2 (ds := ([] : List (List UInt8)).map dS) slc23 rfl RVs.nil (by rfl) (by rfl) rfl rfl ?_
  intro s2 v2 b2 st2 ge2 bl2 h2
  have szs2 := st2.size
  have hS := hS.trans0 st2
  replace hp0 := hp0.up2 st2
  have lt2 := Own.le1 h2
  refine k_move rfl rfl ?_
  obtain ⟨x1, hx1, h⟩ := ob h
  refine k_append (es := a0.map dS) elem23 rfl rfl h2 hp0 (by have := (app_out hx1).1; simp only [List.length_map] at *; omega) (by have := (app_out hx1).1; simp only [List.length_map] at *; omega) rfl ?_
  intro s3 v3 st3 h3
  rw [← List.map_append, ← (app_out hx1).2] at h3
  have szs3 := st3.size
  have hS := hS.c0 st3
  refine k_assign rfl rfl ?_
  refine k_nil ?_
  refine k_keep [(2, _)] ⟨rfl, trivial⟩ ?_
  refine k_ret ?_
  obtain ⟨s4, e4, st4, h4⟩ := h3.freeze
  rw [← e4]
  have szs4 := st4.size
  have hS := hS.c0 st4
  obtain rfl := Option.some.inj h
  refine ⟨_, rfl, Ret.mk hS ?_⟩
  exact ⟨_, rfl, h4⟩

set_option maxHeartbeats 1000000 in
set_option maxRecDepth 100000 in
theorem slices_Clone_api_Value_api_Value_own_w {s : St} {l0 : Lab} {v0 : Value} {a0 : (List ApiValue)} {r : (List ApiValue)} (hp0 : SL s l0 v0 5 (a0.map dApiValue)) (h : slices_Clone_api_Value_api_Value a0 = some r) : Calls Tryd.prog 35 #[v0] s.w (Ret s K0 (fun s1 v => ∃ (u0 : Value), ∃ (lu0 : Lab), v = u0 ∧ (s.n < lu0.o ∧ lu0.c = 0) ∧ Own s1 lu0 25 5 u0 (r.map dApiValue))) := by
 unfold slices_Clone_api_Value_api_Value at h
 obtain ⟨lf0, lf0le, lf0ne, hp0⟩ := hp0.fix
 have hS := Step.r0 K0 s
 refine k_fn (rs := [2]) (args := [v0]) Tryd.func35 rfl rfl rfl rfl ?_
 refine k_seq ?_
 refine k_region ?_
 refine k_assign rfl rfl ?_
 refine k_nil ?_
 refine k_seq ?_
 refine k_seq ?_
 refine k_region ?_
 refine k_move rfl rfl ?_
 refine k_eql_snilv Tryd.underlying22 rfl rfl hp0 rfl ?_
 refine k_nil ?_
 refine k_keep [(0, _), (2, _), (4, _)] ⟨rfl, rfl, rfl, trivial⟩ ?_
 refine k_cond rfl (fun c1 => ?_) (fun c1 => ?_)
 ·
  have hz4 := SL.nilS_nil hp0 c1
  obtain rfl : a0 = [] := by simpa using hz4
  replace h : some ([]) = some r := by simpa [app] using h
  refine k_seq ?_
  refine k_region ?_
  refine k_assign rfl rfl ?_
  refine k_nil ?_
  refine k_keep [(0, _), (2, _)] ⟨rfl, rfl, trivial⟩ ?_
  refine k_ret ?_
  obtain rfl := Option.some.inj h
  refine ⟨_, rfl, Ret.mk hS ?_⟩
  exact ⟨_, ⟨s.n + 1, 0⟩, rfl, ⟨by show s.n < s.n + 1; omega, rfl⟩, Own.nil (by simp) (Nat.le_refl _)⟩
 ·
  refine k_skip ?_
  refine k_seq ?_
  refine k_region ?_
  refine k_bslice2 (ds := ([] : List ApiValue).map dApiValue) slc22 rfl RVs.nil (by rfl) (by rfl) rfl rfl ?_
  intro s2 v2 b2 st2 ge2 bl2 h2
  have szs2 := st2.size
  have hS := hS.trans0 st2
  replace hp0 := hp0.up2 st2
  have lt2 := Own.le1 h2
  refine k_move rfl rfl ?_
  obtain ⟨x1, hx1, h⟩ := ob h
  refine k_append (es := a0.map dApiValue) elem22 rfl rfl h2 hp0 (by have := (app_out hx1).1; simp only [List.length_map] at *; omega) (by have := (app_out hx1).1; simp only [List.length_map] at *; omega) rfl ?_
  intro s3 v3 st3 h3
  rw [← List.map_append, ← (app_out hx1).2] at h3
  have szs3 := st3.size
  have hS := hS.c0 st3
  refine k_assign rfl rfl ?_
  refine k_nil ?_
  refine k_keep [(2, _)] ⟨rfl, trivial⟩ ?_
  refine k_ret ?_
  obtain rfl := Option.some.inj h
  refine ⟨_, rfl, Ret.mk hS ?_⟩
  exact ⟨_, ⟨b2 + 1, 0⟩, rfl, ⟨by (try dsimp only); omega, rfl⟩, h3⟩

set_option maxHeartbeats 1000000 in
set_option maxRecDepth 100000 in
theorem value_Own_s_w {s : St} {cs0 : List Value} {a0 : ApiValue} {a70 : (ApiValue → Option ApiValue)} {r : ApiValue} (hp0 : RC s cs0 (dApiValue a0)) (ih70 : ∀ {s : St} {cs0 : List Value} {a0 : ApiValue} {r : ApiValue} (hp0 : RC s cs0 (dApiValue a0)) (h : a70 a0 = some r), Calls Tryd.prog 17 #[.agg cs0.toArray] s.w (Ret s K0 (fun s1 v => ∃ (u0 : List Value), v = .agg u0.toArray ∧ RC s1 u0 (dApiValue r)))) (h : value_Own_s a70 a0 = some r) : Calls Tryd.prog 17 #[.agg cs0.toArray] s.w (Ret s K0 (fun s1 v => ∃ (u0 : List Value), v = .agg u0.toArray ∧ RC s1 u0 (dApiValue r))) := by
 unfold value_Own_s at h
 obtain ⟨q0_0, q0_1, rfl, hq0_0, hq0_1⟩ := opnApiValue hp0
 have hS := Step.r0 K0 s
 refine k_fn_c (rs := [.cell 2 25]) (args := [.agg #[.int .i64 a0.Kind, .int .i64 a0.Num, S a0.Text, q0_0, q0_1]]) Tryd.func17 rfl rfl rfl rfl ?_
 refine k_seq ?_
 refine k_region ?_
 refine k_box rfl rfl ?_
 intro s1 b1 st1 h1 ge1
 have szs1 := st1.size
 have hS := hS.trans0 st1
 replace hq0_0 := hq0_0.up2 st1
 replace hq0_1 := hq0_1.up2 st1
 have lt1 := h1.lt
 refine k_alloc zero25 rfl ?_
 intro s2 b2 st2 h2 ge2
 have szs2 := st2.size
 have hS := hS.trans0 st2
 replace hq0_0 := hq0_0.up2 st2
 replace hq0_1 := hq0_1.up2 st2
 replace h1 := h1.up2 st2
 have lt2 := h2.lt
 refine k_nil ?_
 refine k_keep [(1, _), (2, _)] ⟨rfl, rfl, trivial⟩ ?_
 refine k_seq ?_
 refine k_region ?_
 refine k_field_addr fld25_4 rfl rfl ?_
 refine k_load_blk one23 rfl h1 rfl rfl ?_
 obtain ⟨x1, hx1, h⟩ := ob h
 refine k_call cal34 rfl (slices_Clone_string_string_w  (SL.of_R hq0_1) hx1) rfl ?_
 rintro s3 v3_0 st3 ⟨_, rfl, h3_0⟩
 have szs3 := st3.size
 have hS := hS.trans0 st3
 replace hq0_0 := hq0_0.up2 st3
 replace h1 := h1.up2 st3
 replace h2 := h2.up2 st3
 refine k_field_addr fld25_4 rfl rfl ?_
 refine k_store_c (cs' := [.int .i64 a0.Kind, .int .i64 a0.Num, S a0.Text, q0_0, v3_0]) size23 rfl rfl h1 (by first | (simp; done) | omega | (dsimp only; omega)) (CellsOf.sl (SL.of_R h3_0)) rfl (by first | rfl | (simp; done) | (simp; omega)) rfl ?_
 intro s4 st4 h1
 have szs4 := st4.size
 have hS := hS.c0 st4
 replace h3_0 := h3_0.up2 st4
 replace hq0_0 := hq0_0.up2 st4
 replace h2 := h2.up2 st4
 refine k_nil ?_
 refine k_keep [(1, _), (2, _)] ⟨rfl, rfl, trivial⟩ ?_
 refine k_seq ?_
 refine k_region ?_
 refine k_field_addr fld25_3 rfl rfl ?_
 refine k_load_blk one22 rfl h1 rfl rfl ?_
 obtain ⟨x2, hx2, h⟩ := ob h
 refine k_call cal35 rfl (slices_Clone_api_Value_api_Value_own_w  (SL.of_R hq0_0) hx2) rfl ?_
 rintro s5 v5_0 st5 ⟨_, l5_0, rfl, hl5_0, h5_0⟩
 have szs5 := st5.size
 have hS := hS.trans0 st5
 replace h3_0 := h3_0.up2 st5
 replace h1 := h1.up2 st5
 replace h2 := h2.up2 st5
 obtain ⟨l5_0, hl5_0, h5_0⟩ := Own.anew 2050 h5_0 hl5_0 szs5
 have lt5_0 := Own.le1 h5_0
 refine k_field_addr fld25_3 rfl rfl ?_
 refine k_store_c (cs' := [.int .i64 a0.Kind, .int .i64 a0.Num, S a0.Text, v5_0, v3_0]) size22 rfl rfl h1 (by first | (simp; done) | omega | (dsimp only; omega)) (CellsOf.sl (h5_0.sl)) rfl (by first | rfl | (simp; done) | (simp; omega)) rfl ?_
 intro s6 st6 h1
 have szs6 := st6.size
 have hS := hS.c0 st6
 replace h3_0 := h3_0.up2 st6
 replace h2 := h2.up2 st6
 replace h5_0 := h5_0.up2 st6
 refine k_nil ?_
 refine k_keep [(1, _), (2, _)] ⟨rfl, rfl, trivial⟩ ?_
 refine k_seq ?_
 obtain ⟨kj3, hK7, h⟩ := jn_out h
 have hE7 := Step.r0 (KC l5_0.o l5_0.c) s6
 refine k_cutc (X := St × (List ApiValue)) [(1, .pointer (some ⟨b1, 0, none⟩)), (2, .pointer (some ⟨b2, 0, none⟩))] (fun (xL : St × (List ApiValue)) => match xL with | (sl, x4) => []) (fun (xL : St × (List ApiValue)) (wL : World) => match xL with | (sl, x4) => sl.w = wL ∧ Step (KC l5_0.o l5_0.c) s6 sl ∧ (Own sl ⟨l5_0.o, l5_0.c⟩ 25 5 v5_0 (x4.map dApiValue)) ∧ kj3 x4 = some r) ?_ ?_
 ·
  refine k_seq ?_
  refine k_region ?_
  refine k_field_addr fld25_3 rfl rfl ?_
  refine k_load_blk one22 rfl h1 rfl rfl ?_
  refine k_len Tryd.underlying22 rfl (h5_0.sl).hasLen rfl ?_
  refine k_as (v := .int .i64 (x2.length : Int)) (by simp only [List.length_map]) ?_
  refine k_move rfl rfl ?_
  refine k_nil ?_
  refine k_keep [(1, _), (2, _), (14, _), (15, _)] ⟨rfl, rfl, rfl, rfl, trivial⟩ ?_
  refine k_block ?_
  refine k_loopc (X := St × Int × (List ApiValue) × Nat) [(1, _), (2, _), (14, _)] (fun (xL : St × Int × (List ApiValue) × Nat) => match xL with | (sl, x5, x6, j) => [(15, .int .i64 x5)]) (fun (xL : St × Int × (List ApiValue) × Nat) (wL : World) => match xL with | (sl, x5, x6, j) => sl.w = wL ∧ Step (KC l5_0.o l5_0.c) s6 sl ∧ (Own sl ⟨l5_0.o, l5_0.c⟩ 25 5 v5_0 (x6.map dApiValue)) ∧ value_Own_s_l1 x2 a70 kj3 j x5 x6 = some r) (fun (xL : St × Int × (List ApiValue) × Nat) => match xL with | (sl, x5, x6, j) => j) (s6, 0, x2, FU) ⟨rfl, rfl, rfl, trivial⟩ ⟨(by first | rfl | (simp <;> rfl)), trivial⟩ ⟨rfl, (Step.refl _).of0 (by first | exact fun _ h => h | (intro c h; simp [KC, KO, KU, KN, KB] at h <;> omega)), h5_0, h⟩ ?_
  rintro ⟨s9, x5, x6, j⟩ wL ⟨rfl, hE8, h5_0, h⟩
  cases j with
  | zero => rw [value_Own_s_l1] at h; exact (noneNe h).elim
  | succ j =>
  rw [value_Own_s_l1] at h
  have szs9 := hE8.size
  have hS := hS.c0 hE8
  have hE7 := hE7.c0 hE8
  replace h1 := h1.up2 hE8
  refine k_seq ?_
  refine k_region ?_
  refine k_lss rfl rfl rfl ?_
  refine k_nil ?_
  refine k_seq ?_
  refine k_cond_dec rfl (fun c10 => ?_) (fun c10 => ?_)
  ·
   have h := itT h c10
   refine k_skip ?_
   refine k_seq ?_
   refine k_block ?_
   refine k_seq ?_
   refine k_region ?_
   refine k_move rfl rfl ?_
   refine k_assign rfl rfl ?_
   refine k_nil ?_
   refine k_keep [(1, _), (2, _), (3, _), (14, _), (15, _)] ⟨rfl, rfl, rfl, rfl, rfl, trivial⟩ ?_
   have h5_0_d := h5_0
   refine k_drawT (KN s9.n) 9 (.read 0 (.read 1 (.read 2 (.read 3 (.read 4 (.read 5 (.read 6 (.read 7 (.alt 8 .fin .no))))))))) mixed (by intro c h; (try simp only [KC, KO, KU, KN, KB] at h) <;> omega) rfl rfl rfl ?_
   intro s11 st11
   have szs11 := st11.size
   have hS := hS.trans0 st11
   have hE7 := hE7.trans0 st11
   have hE8 := hE8.trans0 st11
   replace h1 := h1.up2 st11
   replace h5_0 := h5_0.up2 st11
   refine rt_read (.pointer (some ⟨b1, 3, none⟩)) rfl rfl (fun s12 st12 => ?_) ?_
   ·refine k_field_addr fld25_3 rfl rfl ?_
    exact fq_end
   refine rt_read (v5_0) rfl rfl (fun s13 st13 => ?_) ?_
   ·try replace h1 := h1.up2 st13
    refine k_load_blk one22 rfl h1 rfl rfl ?_
    exact fq_end
   refine rt_read (.int .i64 x5) rfl rfl (fun s14 st14 => ?_) ?_
   ·refine k_move rfl rfl ?_
    exact fq_end
   refine rt_read (.pointer (some ⟨b1, 3, none⟩)) rfl rfl (fun s15 st15 => ?_) ?_
   ·refine k_field_addr fld25_3 rfl rfl ?_
    exact fq_end
   refine rt_read (v5_0) rfl rfl (fun s16 st16 => ?_) ?_
   ·try replace h1 := h1.up2 st16
    refine k_load_blk one22 rfl h1 rfl rfl ?_
    exact fq_end
   refine rt_read (.int .i64 x5) rfl rfl (fun s17 st17 => ?_) ?_
   ·refine k_move rfl rfl ?_
    exact fq_end
   obtain ⟨x7, hx7, h⟩ := ob h
   have ln18 : l5_0.o ≤ s9.n := Own.le_ne h5_0_d (geti_mne hx7)
   refine rt_ix rfl (wanted_none rfl) Tryd.underlying22 size25 rfl rfl (h5_0.sl) (geti_out hx7).1 (geti_map hx7) rfl ?_
   intro q18 hq18
   refine rt_ldagg rfl (wanted_none rfl) (by exact agg25) rfl hq18 (by first | exact id | (simp only [KC, KO, KU, KN, KB] <;> omega)) rfl ?_
   intro cs19 h19
   obtain ⟨q19_0, q19_1, rfl, hq19_0, hq19_1⟩ := opnApiValue h19
   refine rt_act rfl rfl ?_
   have hA20 := Step.r0 (KN s9.n) s11
   obtain ⟨x8, hx8, h⟩ := ob h
   refine k_call cal17 rfl (ih70  (clsApiValue x7 hq19_0 hq19_1) hx8) rfl ?_
   rintro s21 vr21 st21 ⟨cs21_0, rfl, h21_0⟩
   have szs21 := st21.size
   have hS := hS.trans0 st21
   have hE7 := hE7.trans0 st21
   have hE8 := hE8.trans0 st21
   have hA20 := hA20.trans0 st21
   replace h5_0 := h5_0.up2 st21
   obtain ⟨q21_0_0, q21_0_1, rfl, hq21_0_0, hq21_0_1⟩ := opnApiValue h21_0
   refine rt_cont hA20 ?_
   refine rt_fin ?_
   obtain ⟨x9, hx9, h⟩ := ob h
   refine k_ixaddr_own Tryd.underlying22 size25 rfl rfl h5_0 (geti_out hx9).1 (geti_map hx9) rfl ?_
   intro qx9 hqx9 heqx9
   refine k_store_elt (dd := dApiValue x8) size25 rfl rfl h5_0 heqx9 (by rw [List.length_map]; exact (List.getElem?_eq_some_iff.1 (geti_out hx9).2.2).1) (⟨_, rfl, (clsApiValue x8 hq21_0_0 hq21_0_1)⟩) rfl ?_
   intro s22 st22 h5_0
   rw [← List.map_set] at h5_0
   have szs22 := st22.size
   have hS := hS.c0 st22
   have hE7 := hE7.c0 st22
   have hE8 := hE8.c0 st22
   refine k_nil ?_
   refine k_blk ?_
   refine k_region ?_
   refine k_add rfl rfl rfl ?_
   refine k_move rfl rfl ?_
   refine k_nil ?_
   exact k_stop ⟨(s22, i64 (x5 + 1), x6.set (x5 : Int).toNat x8, j), ⟨(by first | rfl | (simp <;> rfl)), trivial⟩, ⟨rfl, rfl, rfl, trivial⟩, ⟨rfl, hE8, h5_0, h⟩, (by simp)⟩
  ·
   have h := itF h c10
   refine k_exit rfl ?_
   exact k_stop ⟨(s9, x6), trivial, ⟨rfl, rfl, trivial⟩, ⟨rfl, hE7, h5_0, h⟩⟩
 ·
  rintro ⟨s23, x4⟩ wL ⟨rfl, hE7, h5_0, h⟩
  rw [hK7] at h
  have szs23 := hE7.size
  have hS := hS.c0 hE7
  replace h3_0 := h3_0.up2 hE7
  replace h1 := h1.up2 hE7
  replace h2 := h2.up2 hE7
  refine k_seq ?_
  refine k_region ?_
  refine k_load_blka (cs := [.int .i64 a0.Kind, .int .i64 a0.Num, S a0.Text, v5_0, v3_0]) agg25 rfl h1 rfl ?_
  refine k_store_c (cs' := [.int .i64 a0.Kind, .int .i64 a0.Num, S a0.Text, v5_0, v3_0]) size25 rfl rfl h2 (by first | (simp; done) | omega | (dsimp only; omega)) (CellsOf.lit (vs := [.int .i64 a0.Kind, .int .i64 a0.Num, S a0.Text, v5_0, v3_0]) rfl (ones.cons rfl (ones.cons rfl (ones.cons rfl (ones.cons ((h5_0.sl)).one1 (ones.cons ((SL.of_R h3_0)).one1 ones.nil)))))) rfl (by first | rfl | (simp; done) | (simp; omega)) rfl ?_
  intro s24 st24 h2
  have szs24 := st24.size
  have hS := hS.c0 st24
  replace h3_0 := h3_0.up2 st24
  replace h5_0 := h5_0.up2 st24
  refine k_nil ?_
  refine k_keep [(2, _)] ⟨rfl, trivial⟩ ?_
  refine k_ret ?_
  obtain ⟨s25, e25, st25, h25⟩ := h5_0.freeze
  rw [← e25]
  have szs25 := st25.size
  have hS := hS.c0 st25
  replace h3_0 := h3_0.up2 st25
  replace h2 := h2.up2 st25
  obtain rfl := Option.some.inj h
  refine ⟨[.agg [.int .i64 a0.Kind, .int .i64 a0.Num, S a0.Text, v5_0, v3_0].toArray], ⟨res_blk (cs := [.int .i64 a0.Kind, .int .i64 a0.Num, S a0.Text, v5_0, v3_0]) rfl agg25 h2, trivial⟩, Ret.mk hS ?_⟩
  exact ⟨_, rfl, (clsApiValue (⟨a0.Kind, a0.Num, a0.Text, x4, x1⟩ : ApiValue) h25 h3_0)⟩
theorem value_Own_rw (j : Nat) : ∀ {s : St} {cs0 : List Value} {a0 : ApiValue} {r : ApiValue} (hp0 : RC s cs0 (dApiValue a0)) (h : value_Own_r j a0 = some r), Calls Tryd.prog 17 #[.agg cs0.toArray] s.w (Ret s K0 (fun s1 v => ∃ (u0 : List Value), v = .agg u0.toArray ∧ RC s1 u0 (dApiValue r))) := by
 induction j with
 | zero => intro s cs0 a0 r hp0 h; rw [value_Own_r] at h; exact (noneNe h).elim
 | succ j ih => intro s cs0 a0 r hp0 h; rw [value_Own_r] at h; exact value_Own_s_w hp0 ih h
theorem value_Own_w {s : St} {cs0 : List Value} {a0 : ApiValue} {r : ApiValue} (hp0 : RC s cs0 (dApiValue a0)) (h : value_Own a0 = some r) : Calls Tryd.prog 17 #[.agg cs0.toArray] s.w (Ret s K0 (fun s1 v => ∃ (u0 : List Value), v = .agg u0.toArray ∧ RC s1 u0 (dApiValue r))) := value_Own_rw (FU + (dpApiValue a0)) hp0 h

set_option maxHeartbeats 1000000 in
set_option maxRecDepth 100000 in
theorem value_At_w {s : St} {cs0 : List Value} {a0 : ApiValue} {a1 : (List UInt8)} {r : (ApiValue × Int)} (hp0 : RC s cs0 (dApiValue a0)) (tb2 : Tab2 s) (tb0 : Tab0 s) (tb1 : Tab1 s) (h : value_At a0 a1 = some r) : Calls Tryd.prog 11 #[.agg cs0.toArray, S a1] s.w (Ret s K0 (fun s1 v => ∃ (u0 : List Value), v = .tuple #[.agg u0.toArray, .int .i64 r.2] ∧ RC s1 u0 (dApiValue r.1))) := by
 unfold value_At at h
 obtain ⟨q0_0, q0_1, rfl, hq0_0, hq0_1⟩ := opnApiValue hp0
 have hS := Step.r0 K0 s
 refine k_fn_m (args := [.agg #[.int .i64 a0.Kind, .int .i64 a0.Num, S a0.Text, q0_0, q0_1], S a1]) Tryd.func11 rfl rfl ?_
 refine rk_seq ?_
 refine rk_run ?_
 refine k_region ?_
 refine k_box rfl rfl ?_
 intro s1 b1 st1 h1 ge1
 have szs1 := st1.size
 have hS := hS.trans0 st1
 replace hq0_0 := hq0_0.up2 st1
 replace hq0_1 := hq0_1.up2 st1
 replace tb2 := tb2.up2 st1
 replace tb0 := tb0.up2 st1
 replace tb1 := tb1.up2 st1
 have lt1 := h1.lt
 refine k_alloc zero25 rfl ?_
 intro s2 b2 st2 h2 ge2
 have szs2 := st2.size
 have hS := hS.trans0 st2
 replace hq0_0 := hq0_0.up2 st2
 replace hq0_1 := hq0_1.up2 st2
 replace h1 := h1.up2 st2
 replace tb2 := tb2.up2 st2
 replace tb0 := tb0.up2 st2
 replace tb1 := tb1.up2 st2
 have lt2 := h2.lt
 refine k_alloc zero28 rfl ?_
 intro s3 b3 st3 h3 ge3
 have szs3 := st3.size
 have hS := hS.trans0 st3
 replace hq0_0 := hq0_0.up2 st3
 replace hq0_1 := hq0_1.up2 st3
 replace h1 := h1.up2 st3
 replace h2 := h2.up2 st3
 replace tb2 := tb2.up2 st3
 replace tb0 := tb0.up2 st3
 replace tb1 := tb1.up2 st3
 have lt3 := h3.lt
 refine k_nil ?_
 refine k_stop ?_
 refine rk_seq ?_
 refine rk_run ?_
 refine k_seq ?_
 refine k_region ?_
 refine k_load_blka (cs := [.int .i64 a0.Kind, .int .i64 a0.Num, S a0.Text, q0_0, q0_1]) agg25 rfl h1 rfl ?_
 obtain ⟨x1, hx1, h⟩ := ob h
 refine k_call cal9 rfl (value_May_w  (clsApiValue a0 hq0_0 hq0_1) tb2 hx1) rfl ?_
 rintro s4 vr4 st4 rfl
 have szs4 := st4.size
 have hS := hS.trans0 st4
 replace hq0_0 := hq0_0.up2 st4
 replace hq0_1 := hq0_1.up2 st4
 replace h1 := h1.up2 st4
 replace h2 := h2.up2 st4
 replace h3 := h3.up2 st4
 replace tb2 := tb2.up2 st4
 replace tb0 := tb0.up2 st4
 replace tb1 := tb1.up2 st4
 refine k_not rfl rfl ?_
 refine k_move rfl rfl ?_
 have hE5 := Step.r0 K0 s4
 refine k_cutl (X := St) 3 [(1, S a1), (2, .pointer (some ⟨b1, 0, none⟩)), (4, .pointer (some ⟨b2, 0, none⟩)), (5, .pointer (some ⟨b3, 0, none⟩)), (9, .agg #[.int .i64 a0.Kind, .int .i64 a0.Num, S a0.Text, q0_0, q0_1]), (10, .bool x1), (11, .bool (!x1))] (fun _ => [(15, .bool (decide (((!x1) = true) ∨ (a1 = ([] : List UInt8)))))]) (fun sl wL => sl.w = wL ∧ Step K0 s4 sl) ?_ ?_
 ·
  refine k_again 12 rfl ?_
  refine k_splitb (fun c6 => ?_) (fun c6 => ?_)
  ·
   refine k_no rfl rfl rfl rfl ?_
   refine k_no rfl rfl rfl rfl ?_
   refine k_pickT rfl rfl rfl rfl ?_
   exact k_met ⟨s4, ⟨(congrArg (fun b => some (Value.bool b)) (by first | exact decide_eq_decide.2 ⟨Or.inr, fun h => h.resolve_left c6⟩ | exact (decide_eq_true (Or.inl c6)).symm | (simp [c6]; done) | (simp [c6, i64] <;> omega))), trivial⟩, ⟨rfl, rfl, rfl, rfl, rfl, rfl, rfl, trivial⟩, rfl, hE5⟩
  ·
   refine k_yes rfl rfl ?_
   refine k_move rfl rfl ?_
   refine k_yes rfl rfl ?_
   refine k_eql_str rfl rfl rfl ?_
   refine k_pickF rfl rfl rfl rfl ?_
   exact k_met ⟨s4, ⟨(congrArg (fun b => some (Value.bool b)) (by first | exact decide_eq_decide.2 ⟨Or.inr, fun h => h.resolve_left c6⟩ | exact (decide_eq_true (Or.inl c6)).symm | (simp [c6]; done) | (simp [c6, i64] <;> omega))), trivial⟩, ⟨rfl, rfl, rfl, rfl, rfl, rfl, rfl, trivial⟩, rfl, hE5⟩
 ·
  rintro s7 wL ⟨rfl, hE5⟩
  have szs7 := hE5.size
  have hS := hS.trans0 hE5
  replace hq0_0 := hq0_0.up2 hE5
  replace hq0_1 := hq0_1.up2 hE5
  replace h1 := h1.up2 hE5
  replace h2 := h2.up2 hE5
  replace h3 := h3.up2 hE5
  replace tb2 := tb2.up2 hE5
  replace tb0 := tb0.up2 hE5
  replace tb1 := tb1.up2 hE5
  refine k_nil ?_
  refine k_keep [(1, _), (2, _), (4, _), (5, _), (15, _)] ⟨rfl, rfl, rfl, rfl, rfl, trivial⟩ ?_
  refine k_cond_dec rfl (fun c8 => ?_) (fun c8 => ?_)
  ·
   have h := itT h c8
   refine k_seq ?_
   refine k_region ?_
   refine k_build plc25 zero25 rfl Parts.nil (by rfl) rfl ?_
   refine k_as (v := .agg #[.int .i64 0, .int .i64 0, S ([] : List UInt8), .slice none 0 0, .slice none 0 0]) rfl ?_
   refine k_store_c (cs' := [.int .i64 0, .int .i64 0, S ([] : List UInt8), .slice none 0 0, .slice none 0 0]) size25 rfl rfl h2 (by first | (simp; done) | omega | (dsimp only; omega)) (CellsOf.lit rfl rfl) rfl (by first | rfl | (simp; done) | (simp; omega)) rfl ?_
   intro s9 st9 h2
   have szs9 := st9.size
   have hS := hS.c0 st9
   replace h3 := h3.up2 st9
   refine k_store_c (cs' := [.int .i64 1]) size28 rfl rfl h3 (by first | (simp; done) | omega | (dsimp only; omega)) (CellsOf.lit rfl rfl) rfl (by first | rfl | (simp; done) | (simp; omega)) rfl ?_
   intro s10 st10 h3
   have szs10 := st10.size
   have hS := hS.c0 st10
   replace h2 := h2.up2 st10
   refine k_nil ?_
   refine k_keep [(1, _), (2, _), (4, _), (5, _)] ⟨rfl, rfl, rfl, rfl, trivial⟩ ?_
   refine k_ret ?_
   refine re_ret ?_
   obtain rfl := Option.some.inj h
   refine re_nil_c (rs := [.cell 4 25, .cell 5 28]) rfl rfl ?_
   refine ⟨[.agg [.int .i64 0, .int .i64 0, S ([] : List UInt8), .slice none 0 0, .slice none 0 0].toArray, .int .i64 1], ⟨res_blk (cs := [.int .i64 0, .int .i64 0, S ([] : List UInt8), .slice none 0 0, .slice none 0 0]) rfl agg25 h2, res_blk1 rfl one28 h3, trivial⟩, Ret.mk hS ?_⟩
   exact ⟨_, rfl, (clsApiValue (⟨0, 0, ([] : List UInt8), [], []⟩ : ApiValue) (R.of_SL (.inl ⟨rfl, none, 0, rfl, fun _ => rfl⟩)) (R.of_SL (.inl ⟨rfl, none, 0, rfl, fun _ => rfl⟩)))⟩
  ·
   have h := itF h c8
   refine k_skip ?_
   refine k_stop ?_
   refine rk_seq ?_
   refine rk_seq ?_
   refine rk_run ?_
   refine k_region ?_
   refine k_move rfl rfl ?_
   obtain ⟨x2, hx2, h⟩ := ob h
   refine k_call cal15 rfl (strings_SplitSeq_w   hx2) rfl ?_
   rintro s11 vr11 st11 ⟨ub11_0_0, ub11_0_1, ub11_0_2, rfl, hg11_0_0, h11_0_0, hg11_0_1, h11_0_1, hg11_0_2, h11_0_2⟩
   have szs11 := st11.size
   have hS := hS.trans0 st11
   replace hq0_0 := hq0_0.up2 st11
   replace hq0_1 := hq0_1.up2 st11
   replace h1 := h1.up2 st11
   replace h2 := h2.up2 st11
   replace h3 := h3.up2 st11
   replace tb2 := tb2.up2 st11
   replace tb0 := tb0.up2 st11
   replace tb1 := tb1.up2 st11
   refine k_nil ?_
   refine k_stop ?_
   obtain ⟨x11, hx11, h⟩ := ob h
   have ltc_ub11_0_0 := h11_0_0.lt
   have ltc_ub11_0_1 := h11_0_1.lt
   have ltc_ub11_0_2 := h11_0_2.lt
   refine rk_rangeW (A := (List UInt8)) (X := (Bool × (Int × Int × (List UInt8) × (List ApiValue) × (List (List UInt8)) × Int))) (ps := [19]) (fun (sl : St) (y : (List UInt8)) (vs : List Value) => vs = [S y]) (fun (x3 : (Bool × (Int × Int × (List UInt8) × (List ApiValue) × (List (List UInt8)) × Int))) (x4 : (List UInt8)) => (value_step (⟨x3.2.1, x3.2.2.1, x3.2.2.2.1, x3.2.2.2.2.1, x3.2.2.2.2.2.1⟩ : ApiValue) x4).bind fun x12 => if (!x12.2) = true then some (false, (true, (x3.2.1, x3.2.2.1, x3.2.2.2.1, x3.2.2.2.2.1, x3.2.2.2.2.2.1, 4))) else some (true, (false, (x12.1.Kind, x12.1.Num, x12.1.Text, x12.1.List_, x12.1.Keys, x3.2.2.2.2.2.2)))) (fun (xL : (Bool × (Int × Int × (List UInt8) × (List ApiValue) × (List (List UInt8)) × Int))) (sl : St) => ∃ v13 : Value, ∃ v14 : Value, (R sl v13 (.sl 5 (xL.2.2.2.2.1.map dApiValue))) ∧ (R sl v14 (.sl 1 (xL.2.2.2.2.2.1.map dS))) ∧ (Blk sl b1 ⟨b1 + 1, 0⟩ [.int .i64 xL.2.1, .int .i64 xL.2.2.1, S xL.2.2.2.1, v13, v14] 25) ∧ (Blk sl b2 ⟨b2 + 1, 0⟩ [.int .i64 0, .int .i64 0, S ([] : List UInt8), .slice none 0 0, .slice none 0 0] 25) ∧ (Blk sl b3 ⟨b3 + 1, 0⟩ [.int .i64 xL.2.2.2.2.2.2] 28) ∧ (R sl q0_0 (.sl 5 (a0.List_.map dApiValue))) ∧ (R sl q0_1 (.sl 1 (a0.Keys.map dS))) ∧ (Tab2 sl) ∧ (Tab0 sl) ∧ (Tab1 sl)) (KU (KC (b2 + 1) 0) (KU (KC (b3 + 1) 0) (KC (b1 + 1) 0))) (KC (ub11_0_1 + 1) 0) (fun x => x.1) rfl cal44 (fun _ _ _ h => by obtain rfl := h; rfl) (by decide) (by intro lab h; (try simp only [KC, KO, KU, KN, K0, KB] at h); first | exact h.elim | omega) (by intro lab h; (try simp only [KC, KO, KU, KN, K0, KB] at h); first | exact h.elim | omega) (false, (a0.Kind, a0.Num, a0.Text, a0.List_, a0.Keys, 0)) x11 ⟨q0_0, q0_1, hq0_0, hq0_1, h1, h2, h3, hq0_0, hq0_1, tb2, tb0, tb1⟩ (by rintro x t1 t2 K ⟨v13, v14, z0, z1, z2, z3, z4, z5, z6, z7, z8, z9⟩ st hK; exact ⟨v13, v14, z0.up st, z1.up st, z2.up st (fun hk => by have hq := hK _ hk; (try dsimp only at hq); (try simp only [KC, KO, KU, KN, K0, KB] at hq); omega), z3.up st (fun hk => by have hq := hK _ hk; (try dsimp only at hq); (try simp only [KC, KO, KU, KN, K0, KB] at hq); omega), z4.up st (fun hk => by have hq := hK _ hk; (try dsimp only at hq); (try simp only [KC, KO, KU, KN, K0, KB] at hq); omega), z5.up st, z6.up st, z7.up2 st, z8.up2 st, z9.up2 st⟩) ?_ ?_ ?_
   ·
    intro l rec sR12 x3 x4 vsR rR12 hl1 hl2 hrec
    rintro ⟨v13, v14, h13, h14, h1, h2, h3, hq0_0, hq0_1, tb2, tb0, tb1⟩ hL henc hc12
    obtain rfl := henc
    try dsimp only at hc12
    have hRS12 := Step.r0 (KU (KC (l + 1) 0) (KU (KC (b2 + 1) 0) (KU (KC (b3 + 1) 0) (KC (b1 + 1) 0)))) sR12
    refine k_region ?_
    refine k_assign rfl rfl ?_
    refine k_nil ?_
    refine k_stop ?_
    refine k_begin hL hrec ?_
    intro s15 st15 hL
    have szs15 := st15.size
    have hRS12 := hRS12.c0 st15
    replace h13 := h13.up2 st15
    replace h14 := h14.up2 st15
    replace h1 := h1.up2 st15
    replace h2 := h2.up2 st15
    replace h3 := h3.up2 st15
    replace hq0_0 := hq0_0.up2 st15
    replace hq0_1 := hq0_1.up2 st15
    replace tb2 := tb2.up2 st15
    replace tb0 := tb0.up2 st15
    replace tb1 := tb1.up2 st15
    refine k_keep [(2, _), (4, _), (5, _), (6, _)] ⟨rfl, rfl, rfl, rfl, trivial⟩ ?_
    refine k_block ?_
    refine k_seq ?_
    refine k_region ?_
    refine k_load_blka (cs := [.int .i64 x3.2.1, .int .i64 x3.2.2.1, S x3.2.2.2.1, v13, v14]) agg25 rfl h1 rfl ?_
    refine k_move rfl rfl ?_
    obtain ⟨x12, hx12, hc12⟩ := ob hc12
    refine k_call cal16 rfl (value_step_w  (clsApiValue (⟨x3.2.1, x3.2.2.1, x3.2.2.2.1, x3.2.2.2.2.1, x3.2.2.2.2.2.1⟩ : ApiValue) h13 h14) tb0 tb1 tb2 hx12) rfl ?_
    rintro s16 vr16 st16 ⟨cs16_0, rfl, h16_0⟩
    have szs16 := st16.size
    have hRS12 := hRS12.trans0 st16
    replace h13 := h13.up2 st16
    replace h14 := h14.up2 st16
    replace h1 := h1.up2 st16
    replace h2 := h2.up2 st16
    replace h3 := h3.up2 st16
    replace hq0_0 := hq0_0.up2 st16
    replace hq0_1 := hq0_1.up2 st16
    replace tb2 := tb2.up2 st16
    replace tb0 := tb0.up2 st16
    replace tb1 := tb1.up2 st16
    replace hL := hL.up2 st16
    obtain ⟨q16_0_0, q16_0_1, rfl, hq16_0_0, hq16_0_1⟩ := opnApiValue h16_0
    refine k_move rfl rfl ?_
    refine k_extract rfl rfl rfl ?_
    refine k_extract rfl rfl rfl ?_
    refine k_alloc zero25 rfl ?_
    intro s17 b17 st17 h17 ge17
    have szs17 := st17.size
    have hRS12 := hRS12.trans0 st17
    replace h13 := h13.up2 st17
    replace h14 := h14.up2 st17
    replace hq16_0_0 := hq16_0_0.up2 st17
    replace hq16_0_1 := hq16_0_1.up2 st17
    replace h1 := h1.up2 st17
    replace h2 := h2.up2 st17
    replace h3 := h3.up2 st17
    replace hq0_0 := hq0_0.up2 st17
    replace hq0_1 := hq0_1.up2 st17
    replace tb2 := tb2.up2 st17
    replace tb0 := tb0.up2 st17
    replace tb1 := tb1.up2 st17
    replace hL := hL.up2 st17
    have lt17 := h17.lt
    refine k_store_c (cs' := [.int .i64 x12.1.Kind, .int .i64 x12.1.Num, S x12.1.Text, q16_0_0, q16_0_1]) size25 rfl rfl h17 (by first | (simp; done) | omega | (dsimp only; omega)) (CellsOf.lit (vs := [.int .i64 x12.1.Kind, .int .i64 x12.1.Num, S x12.1.Text, q16_0_0, q16_0_1]) rfl (ones.cons rfl (ones.cons rfl (ones.cons rfl (ones.cons ((SL.of_R hq16_0_0)).one1 (ones.cons ((SL.of_R hq16_0_1)).one1 ones.nil)))))) rfl (by first | rfl | (simp; done) | (simp; omega)) rfl ?_
    intro s18 st18 h17
    have szs18 := st18.size
    have hRS12 := hRS12.c0 st18
    replace h13 := h13.up2 st18
    replace h14 := h14.up2 st18
    replace hq16_0_0 := hq16_0_0.up2 st18
    replace hq16_0_1 := hq16_0_1.up2 st18
    replace h1 := h1.up2 st18
    replace h2 := h2.up2 st18
    replace h3 := h3.up2 st18
    replace hq0_0 := hq0_0.up2 st18
    replace hq0_1 := hq0_1.up2 st18
    replace tb2 := tb2.up2 st18
    replace tb0 := tb0.up2 st18
    replace tb1 := tb1.up2 st18
    replace hL := hL.up2 st18
    refine k_assign rfl rfl ?_
    refine k_nil ?_
    refine k_keep [(2, _), (4, _), (5, _), (7, _), (8, _)] ⟨rfl, rfl, rfl, rfl, rfl, trivial⟩ ?_
    refine k_seq ?_
    refine k_seq ?_
    refine k_region ?_
    refine k_move rfl rfl ?_
    refine k_not rfl rfl ?_
    refine k_nil ?_
    refine k_keep [(2, _), (4, _), (5, _), (7, _), (27, _)] ⟨rfl, rfl, rfl, rfl, rfl, trivial⟩ ?_
    refine k_cond rfl (fun c19 => ?_) (fun c19 => ?_)
    ·
     have hc12 := ibT hc12 c19
     refine k_seq ?_
     refine k_region ?_
     refine k_build plc25 zero25 rfl Parts.nil (by rfl) rfl ?_
     refine k_as (v := .agg #[.int .i64 0, .int .i64 0, S ([] : List UInt8), .slice none 0 0, .slice none 0 0]) rfl ?_
     refine k_store_c (cs' := [.int .i64 0, .int .i64 0, S ([] : List UInt8), .slice none 0 0, .slice none 0 0]) size25 rfl rfl h2 (by first | (simp; done) | omega | (dsimp only; omega)) (CellsOf.lit rfl rfl) rfl (by first | rfl | (simp; done) | (simp; omega)) rfl ?_
     intro s20 st20 h2
     have szs20 := st20.size
     have hRS12 := hRS12.c0 st20
     replace h13 := h13.up2 st20
     replace h14 := h14.up2 st20
     replace h1 := h1.up2 st20
     replace h3 := h3.up2 st20
     replace hq0_0 := hq0_0.up2 st20
     replace hq0_1 := hq0_1.up2 st20
     replace tb2 := tb2.up2 st20
     replace tb0 := tb0.up2 st20
     replace tb1 := tb1.up2 st20
     replace hL := hL.up2 st20
     refine k_store_c (cs' := [.int .i64 4]) size28 rfl rfl h3 (by first | (simp; done) | omega | (dsimp only; omega)) (CellsOf.lit rfl rfl) rfl (by first | rfl | (simp; done) | (simp; omega)) rfl ?_
     intro s21 st21 h3
     have szs21 := st21.size
     have hRS12 := hRS12.c0 st21
     replace h13 := h13.up2 st21
     replace h14 := h14.up2 st21
     replace h1 := h1.up2 st21
     replace h2 := h2.up2 st21
     replace hq0_0 := hq0_0.up2 st21
     replace hq0_1 := hq0_1.up2 st21
     replace tb2 := tb2.up2 st21
     replace tb0 := tb0.up2 st21
     replace tb1 := tb1.up2 st21
     replace hL := hL.up2 st21
     refine k_nil ?_
     refine k_keep [(2, _), (7, _)] ⟨rfl, rfl, trivial⟩ ?_
     refine k_ret ?_
     obtain rfl := Option.some.inj hc12
     exact ⟨rfl, rfl, s21, rfl, hRS12, hL, ⟨v13, v14, h13, h14, h1, h2, h3, hq0_0, hq0_1, tb2, tb0, tb1⟩⟩
    ·
     have hc12 := ibF hc12 c19
     refine k_skip ?_
     refine k_region ?_
     refine k_load_blka (cs := [.int .i64 x12.1.Kind, .int .i64 x12.1.Num, S x12.1.Text, q16_0_0, q16_0_1]) agg25 rfl h17 rfl ?_
     refine k_store_c (cs' := [.int .i64 x12.1.Kind, .int .i64 x12.1.Num, S x12.1.Text, q16_0_0, q16_0_1]) size25 rfl rfl h1 (by first | (simp; done) | omega | (dsimp only; omega)) (CellsOf.lit (vs := [.int .i64 x12.1.Kind, .int .i64 x12.1.Num, S x12.1.Text, q16_0_0, q16_0_1]) rfl (ones.cons rfl (ones.cons rfl (ones.cons rfl (ones.cons ((SL.of_R hq16_0_0)).one1 (ones.cons ((SL.of_R hq16_0_1)).one1 ones.nil)))))) rfl (by first | rfl | (simp; done) | (simp; omega)) rfl ?_
     intro s22 st22 h1
     have szs22 := st22.size
     have hRS12 := hRS12.c0 st22
     replace hq16_0_0 := hq16_0_0.up2 st22
     replace hq16_0_1 := hq16_0_1.up2 st22
     replace h2 := h2.up2 st22
     replace h3 := h3.up2 st22
     replace hq0_0 := hq0_0.up2 st22
     replace hq0_1 := hq0_1.up2 st22
     replace tb2 := tb2.up2 st22
     replace tb0 := tb0.up2 st22
     replace tb1 := tb1.up2 st22
     replace hL := hL.up2 st22
     refine k_nil ?_
     refine k_blk ?_
     refine k_end ?_
     obtain rfl := Option.some.inj hc12
     exact ⟨rfl, s22, rfl, hRS12, hL, ⟨q16_0_0, q16_0_1, hq16_0_0, hq16_0_1, h1, h2, h3, hq0_0, hq0_1, tb2, tb0, tb1⟩⟩
   ·
    intro l t1 I' Ky st hl1 hl2 hK1 hK2 hY hI'
    have ltb_ub11_0_0 := h11_0_0.lt
    have ltb_ub11_0_1 := h11_0_1.lt
    have ltb_ub11_0_2 := h11_0_2.lt
    exact strings_splitSeq_1_w hY hI' (h11_0_0.up2 st) (fun h => by rcases hK2 _ h with h | h <;> (simp only [KU, KN, KC, KO, K0, KB, Lab.mk.injEq] at h) <;> omega) (h11_0_1.up2 st) (fun h => by rcases hK2 _ h with h | h <;> (simp only [KU, KN, KC, KO, K0, KB, Lab.mk.injEq] at h) <;> omega) (h11_0_2.up2 st) (fun h => by rcases hK2 _ h with h | h <;> (simp only [KU, KN, KC, KO, K0, KB, Lab.mk.injEq] at h) <;> omega) (by omega) (by omega) hx11
   ·
    intro D12 s23 stn12
    rintro ⟨v13, v14, h13, h14, h1, h2, h3, hq0_0, hq0_1, tb2, tb0, tb1⟩ hM12 hD12
    have szs23 := stn12.size
    have hS := hS.c0 stn12
    refine ⟨fun hq12 => ?_, fun hq12 => ?_⟩
    ·
     replace h := itF h hq12
     refine rk_last ?_
     refine k_seq ?_
     refine k_region ?_
     refine k_load_blka (cs := [.int .i64 x11.2.2.1, .int .i64 x11.2.2.2.1, S x11.2.2.2.2.1, v13, v14]) agg25 rfl h1 rfl ?_
     obtain ⟨x13, hx13, h⟩ := ob h
     refine k_call cal17 rfl (value_Own_w  (clsApiValue (⟨x11.2.2.1, x11.2.2.2.1, x11.2.2.2.2.1, x11.2.2.2.2.2.1, x11.2.2.2.2.2.2.1⟩ : ApiValue) h13 h14) hx13) rfl ?_
     rintro s24 vr24 st24 ⟨cs24_0, rfl, h24_0⟩
     have szs24 := st24.size
     have hS := hS.trans0 st24
     replace h2 := h2.up2 st24
     replace h3 := h3.up2 st24
     replace hM12 := hM12.up2 st24
     obtain ⟨q24_0_0, q24_0_1, rfl, hq24_0_0, hq24_0_1⟩ := opnApiValue h24_0
     refine k_store_c (cs' := [.int .i64 x13.Kind, .int .i64 x13.Num, S x13.Text, q24_0_0, q24_0_1]) size25 rfl rfl h2 (by first | (simp; done) | omega | (dsimp only; omega)) (CellsOf.lit (vs := [.int .i64 x13.Kind, .int .i64 x13.Num, S x13.Text, q24_0_0, q24_0_1]) rfl (ones.cons rfl (ones.cons rfl (ones.cons rfl (ones.cons ((SL.of_R hq24_0_0)).one1 (ones.cons ((SL.of_R hq24_0_1)).one1 ones.nil)))))) rfl (by first | rfl | (simp; done) | (simp; omega)) rfl ?_
     intro s25 st25 h2
     have szs25 := st25.size
     have hS := hS.c0 st25
     replace hq24_0_0 := hq24_0_0.up2 st25
     replace hq24_0_1 := hq24_0_1.up2 st25
     replace h3 := h3.up2 st25
     replace hM12 := hM12.up2 st25
     refine k_store_c (cs' := [.int .i64 0]) size28 rfl rfl h3 (by first | (simp; done) | omega | (dsimp only; omega)) (CellsOf.lit rfl rfl) rfl (by first | rfl | (simp; done) | (simp; omega)) rfl ?_
     intro s26 st26 h3
     have szs26 := st26.size
     have hS := hS.c0 st26
     replace hq24_0_0 := hq24_0_0.up2 st26
     replace hq24_0_1 := hq24_0_1.up2 st26
     replace h2 := h2.up2 st26
     replace hM12 := hM12.up2 st26
     refine k_nil ?_
     refine k_keep [(4, _), (5, _)] ⟨rfl, rfl, trivial⟩ ?_
     refine k_ret ?_
     refine re_ret ?_
     refine re_cons hM12 (fun s27 st27 => ?_)
     have szs27 := st27.size
     have hS := hS.c0 st27
     replace hq24_0_0 := hq24_0_0.up2 st27
     replace hq24_0_1 := hq24_0_1.up2 st27
     replace h2 := h2.up2 st27
     replace h3 := h3.up2 st27
     obtain rfl := Option.some.inj h
     refine re_nil_c (rs := [.cell 4 25, .cell 5 28]) rfl rfl ?_
     refine ⟨[.agg [.int .i64 x13.Kind, .int .i64 x13.Num, S x13.Text, q24_0_0, q24_0_1].toArray, .int .i64 0], ⟨res_blk (cs := [.int .i64 x13.Kind, .int .i64 x13.Num, S x13.Text, q24_0_0, q24_0_1]) rfl agg25 h2, res_blk1 rfl one28 h3, trivial⟩, Ret.mk hS ?_⟩
     exact ⟨_, rfl, (clsApiValue x13 hq24_0_0 hq24_0_1)⟩
    ·
     replace h := itT h hq12
     refine re_ret ?_
     refine re_cons hM12 (fun s28 st28 => ?_)
     have szs28 := st28.size
     have hS := hS.c0 st28
     replace h2 := h2.up2 st28
     replace h3 := h3.up2 st28
     obtain rfl := Option.some.inj h
     refine re_nil_c (rs := [.cell 4 25, .cell 5 28]) rfl rfl ?_
     refine ⟨[.agg [.int .i64 0, .int .i64 0, S ([] : List UInt8), .slice none 0 0, .slice none 0 0].toArray, .int .i64 x11.2.2.2.2.2.2.2], ⟨res_blk (cs := [.int .i64 0, .int .i64 0, S ([] : List UInt8), .slice none 0 0, .slice none 0 0]) rfl agg25 h2, res_blk1 rfl one28 h3, trivial⟩, Ret.mk hS ?_⟩
     exact ⟨_, rfl, (clsApiValue (⟨0, 0, ([] : List UInt8), [], []⟩ : ApiValue) (R.of_SL (.inl ⟨rfl, none, 0, rfl, fun _ => rfl⟩)) (R.of_SL (.inl ⟨rfl, none, 0, rfl, fun _ => rfl⟩)))⟩

set_option maxHeartbeats 1000000 in
set_option maxRecDepth 100000 in
theorem law01_awake_w {s : St}  {r : Bool} (tb0 : Tab0 s) (tb1 : Tab1 s) (tb2 : Tab2 s) (h : law01_awake = some r) : Calls Tryd.prog 5 #[] s.w (Ret s K0 (fun s1 v => v = .bool r)) := by
 unfold law01_awake at h
 have hS := Step.r0 K0 s
 refine k_fn (rs := [0]) (args := []) Tryd.func5 rfl rfl rfl rfl ?_
 refine k_seq ?_
 refine k_region ?_
 refine k_assign rfl rfl ?_
 refine k_nil ?_
 refine k_seq ?_
 refine k_region ?_
 obtain ⟨x1, hx1, h⟩ := ob h
 refine k_call cal7 rfl (value_Parse_w  tb0 tb1 tb2 hx1) rfl ?_
 rintro s1 vr1 st1 ⟨cs1_0, rfl, h1_0⟩
 have szs1 := st1.size
 have hS := hS.trans0 st1
 replace tb0 := tb0.up2 st1
 replace tb1 := tb1.up2 st1
 replace tb2 := tb2.up2 st1
 obtain ⟨q1_0_0, q1_0_1, rfl, hq1_0_0, hq1_0_1⟩ := opnApiValue h1_0
 refine k_move rfl rfl ?_
 refine k_extract rfl rfl rfl ?_
 refine k_extract rfl rfl rfl ?_
 refine k_alloc zero25 rfl ?_
 intro s2 b2 st2 h2 ge2
 have szs2 := st2.size
 have hS := hS.trans0 st2
 replace hq1_0_0 := hq1_0_0.up2 st2
 replace hq1_0_1 := hq1_0_1.up2 st2
 replace tb0 := tb0.up2 st2
 replace tb1 := tb1.up2 st2
 replace tb2 := tb2.up2 st2
 have lt2 := h2.lt
 refine k_store_c (cs' := [.int .i64 x1.1.Kind, .int .i64 x1.1.Num, S x1.1.Text, q1_0_0, q1_0_1]) size25 rfl rfl h2 (by first | (simp; done) | omega | (dsimp only; omega)) (CellsOf.lit (vs := [.int .i64 x1.1.Kind, .int .i64 x1.1.Num, S x1.1.Text, q1_0_0, q1_0_1]) rfl (ones.cons rfl (ones.cons rfl (ones.cons rfl (ones.cons ((SL.of_R hq1_0_0)).one1 (ones.cons ((SL.of_R hq1_0_1)).one1 ones.nil)))))) rfl (by first | rfl | (simp; done) | (simp; omega)) rfl ?_
 intro s3 st3 h2
 have szs3 := st3.size
 have hS := hS.c0 st3
 replace hq1_0_0 := hq1_0_0.up2 st3
 replace hq1_0_1 := hq1_0_1.up2 st3
 replace tb0 := tb0.up2 st3
 replace tb1 := tb1.up2 st3
 replace tb2 := tb2.up2 st3
 refine k_assign rfl rfl ?_
 refine k_nil ?_
 refine k_keep [(0, _), (1, _), (2, _)] ⟨rfl, rfl, rfl, trivial⟩ ?_
 refine k_seq ?_
 refine k_region ?_
 obtain ⟨x2, hx2, h⟩ := ob h
 refine k_call cal7 rfl (value_Parse_w  tb0 tb1 tb2 hx2) rfl ?_
 rintro s4 vr4 st4 ⟨cs4_0, rfl, h4_0⟩
 have szs4 := st4.size
 have hS := hS.trans0 st4
 replace hq1_0_0 := hq1_0_0.up2 st4
 replace hq1_0_1 := hq1_0_1.up2 st4
 replace h2 := h2.up2 st4
 replace tb0 := tb0.up2 st4
 replace tb1 := tb1.up2 st4
 replace tb2 := tb2.up2 st4
 obtain ⟨q4_0_0, q4_0_1, rfl, hq4_0_0, hq4_0_1⟩ := opnApiValue h4_0
 refine k_move rfl rfl ?_
 refine k_extract rfl rfl rfl ?_
 refine k_extract rfl rfl rfl ?_
 refine k_alloc zero25 rfl ?_
 intro s5 b5 st5 h5 ge5
 have szs5 := st5.size
 have hS := hS.trans0 st5
 replace hq4_0_0 := hq4_0_0.up2 st5
 replace hq4_0_1 := hq4_0_1.up2 st5
 replace hq1_0_0 := hq1_0_0.up2 st5
 replace hq1_0_1 := hq1_0_1.up2 st5
 replace h2 := h2.up2 st5
 replace tb0 := tb0.up2 st5
 replace tb1 := tb1.up2 st5
 replace tb2 := tb2.up2 st5
 have lt5 := h5.lt
 refine k_store_c (cs' := [.int .i64 x2.1.Kind, .int .i64 x2.1.Num, S x2.1.Text, q4_0_0, q4_0_1]) size25 rfl rfl h5 (by first | (simp; done) | omega | (dsimp only; omega)) (CellsOf.lit (vs := [.int .i64 x2.1.Kind, .int .i64 x2.1.Num, S x2.1.Text, q4_0_0, q4_0_1]) rfl (ones.cons rfl (ones.cons rfl (ones.cons rfl (ones.cons ((SL.of_R hq4_0_0)).one1 (ones.cons ((SL.of_R hq4_0_1)).one1 ones.nil)))))) rfl (by first | rfl | (simp; done) | (simp; omega)) rfl ?_
 intro s6 st6 h5
 have szs6 := st6.size
 have hS := hS.c0 st6
 replace hq1_0_0 := hq1_0_0.up2 st6
 replace hq1_0_1 := hq1_0_1.up2 st6
 replace h2 := h2.up2 st6
 replace tb0 := tb0.up2 st6
 replace tb1 := tb1.up2 st6
 replace tb2 := tb2.up2 st6
 refine k_assign rfl rfl ?_
 refine k_nil ?_
 refine k_keep [(0, _), (1, _), (2, _), (4, _)] ⟨rfl, rfl, rfl, rfl, trivial⟩ ?_
 refine k_seq ?_
 refine k_region ?_
 obtain ⟨x3, hx3, h⟩ := ob h
 refine k_call cal7 rfl (value_Parse_w  tb0 tb1 tb2 hx3) rfl ?_
 rintro s7 vr7 st7 ⟨cs7_0, rfl, h7_0⟩
 have szs7 := st7.size
 have hS := hS.trans0 st7
 replace hq1_0_0 := hq1_0_0.up2 st7
 replace hq1_0_1 := hq1_0_1.up2 st7
 replace h2 := h2.up2 st7
 replace tb0 := tb0.up2 st7
 replace tb1 := tb1.up2 st7
 replace tb2 := tb2.up2 st7
 obtain ⟨q7_0_0, q7_0_1, rfl, hq7_0_0, hq7_0_1⟩ := opnApiValue h7_0
 refine k_move rfl rfl ?_
 refine k_extract rfl rfl rfl ?_
 refine k_extract rfl rfl rfl ?_
 refine k_alloc zero25 rfl ?_
 intro s8 b8 st8 h8 ge8
 have szs8 := st8.size
 have hS := hS.trans0 st8
 replace hq7_0_0 := hq7_0_0.up2 st8
 replace hq7_0_1 := hq7_0_1.up2 st8
 replace hq1_0_0 := hq1_0_0.up2 st8
 replace hq1_0_1 := hq1_0_1.up2 st8
 replace h2 := h2.up2 st8
 replace tb0 := tb0.up2 st8
 replace tb1 := tb1.up2 st8
 replace tb2 := tb2.up2 st8
 have lt8 := h8.lt
 refine k_store_c (cs' := [.int .i64 x3.1.Kind, .int .i64 x3.1.Num, S x3.1.Text, q7_0_0, q7_0_1]) size25 rfl rfl h8 (by first | (simp; done) | omega | (dsimp only; omega)) (CellsOf.lit (vs := [.int .i64 x3.1.Kind, .int .i64 x3.1.Num, S x3.1.Text, q7_0_0, q7_0_1]) rfl (ones.cons rfl (ones.cons rfl (ones.cons rfl (ones.cons ((SL.of_R hq7_0_0)).one1 (ones.cons ((SL.of_R hq7_0_1)).one1 ones.nil)))))) rfl (by first | rfl | (simp; done) | (simp; omega)) rfl ?_
 intro s9 st9 h8
 have szs9 := st9.size
 have hS := hS.c0 st9
 replace hq1_0_0 := hq1_0_0.up2 st9
 replace hq1_0_1 := hq1_0_1.up2 st9
 replace h2 := h2.up2 st9
 replace tb0 := tb0.up2 st9
 replace tb1 := tb1.up2 st9
 replace tb2 := tb2.up2 st9
 refine k_assign rfl rfl ?_
 refine k_nil ?_
 refine k_keep [(0, _), (1, _), (2, _), (4, _), (6, _)] ⟨rfl, rfl, rfl, rfl, rfl, trivial⟩ ?_
 refine k_seq ?_
 refine k_region ?_
 obtain ⟨x4, hx4, h⟩ := ob h
 refine k_call cal7 rfl (value_Parse_w  tb0 tb1 tb2 hx4) rfl ?_
 rintro s10 vr10 st10 ⟨cs10_0, rfl, h10_0⟩
 have szs10 := st10.size
 have hS := hS.trans0 st10
 replace hq1_0_0 := hq1_0_0.up2 st10
 replace hq1_0_1 := hq1_0_1.up2 st10
 replace h2 := h2.up2 st10
 replace tb0 := tb0.up2 st10
 replace tb1 := tb1.up2 st10
 replace tb2 := tb2.up2 st10
 obtain ⟨q10_0_0, q10_0_1, rfl, hq10_0_0, hq10_0_1⟩ := opnApiValue h10_0
 refine k_move rfl rfl ?_
 refine k_extract rfl rfl rfl ?_
 refine k_extract rfl rfl rfl ?_
 refine k_alloc zero25 rfl ?_
 intro s11 b11 st11 h11 ge11
 have szs11 := st11.size
 have hS := hS.trans0 st11
 replace hq10_0_0 := hq10_0_0.up2 st11
 replace hq10_0_1 := hq10_0_1.up2 st11
 replace hq1_0_0 := hq1_0_0.up2 st11
 replace hq1_0_1 := hq1_0_1.up2 st11
 replace h2 := h2.up2 st11
 replace tb0 := tb0.up2 st11
 replace tb1 := tb1.up2 st11
 replace tb2 := tb2.up2 st11
 have lt11 := h11.lt
 refine k_store_c (cs' := [.int .i64 x4.1.Kind, .int .i64 x4.1.Num, S x4.1.Text, q10_0_0, q10_0_1]) size25 rfl rfl h11 (by first | (simp; done) | omega | (dsimp only; omega)) (CellsOf.lit (vs := [.int .i64 x4.1.Kind, .int .i64 x4.1.Num, S x4.1.Text, q10_0_0, q10_0_1]) rfl (ones.cons rfl (ones.cons rfl (ones.cons rfl (ones.cons ((SL.of_R hq10_0_0)).one1 (ones.cons ((SL.of_R hq10_0_1)).one1 ones.nil)))))) rfl (by first | rfl | (simp; done) | (simp; omega)) rfl ?_
 intro s12 st12 h11
 have szs12 := st12.size
 have hS := hS.c0 st12
 replace hq1_0_0 := hq1_0_0.up2 st12
 replace hq1_0_1 := hq1_0_1.up2 st12
 replace h2 := h2.up2 st12
 replace tb0 := tb0.up2 st12
 replace tb1 := tb1.up2 st12
 replace tb2 := tb2.up2 st12
 refine k_assign rfl rfl ?_
 refine k_nil ?_
 refine k_keep [(0, _), (1, _), (2, _), (4, _), (6, _), (8, _)] ⟨rfl, rfl, rfl, rfl, rfl, rfl, trivial⟩ ?_
 refine k_seq ?_
 refine k_region ?_
 refine k_load_blka (cs := [.int .i64 x1.1.Kind, .int .i64 x1.1.Num, S x1.1.Text, q1_0_0, q1_0_1]) agg25 rfl h2 rfl ?_
 obtain ⟨x5, hx5, h⟩ := ob h
 refine k_call cal11 rfl (value_At_w  (clsApiValue x1.1 hq1_0_0 hq1_0_1) tb2 tb0 tb1 hx5) rfl ?_
 rintro s13 vr13 st13 ⟨cs13_0, rfl, h13_0⟩
 have szs13 := st13.size
 have hS := hS.trans0 st13
 replace hq1_0_0 := hq1_0_0.up2 st13
 replace hq1_0_1 := hq1_0_1.up2 st13
 replace h2 := h2.up2 st13
 replace tb0 := tb0.up2 st13
 replace tb1 := tb1.up2 st13
 replace tb2 := tb2.up2 st13
 obtain ⟨q13_0_0, q13_0_1, rfl, hq13_0_0, hq13_0_1⟩ := opnApiValue h13_0
 refine k_move rfl rfl ?_
 refine k_extract rfl rfl rfl ?_
 refine k_extract rfl rfl rfl ?_
 refine k_alloc zero25 rfl ?_
 intro s14 b14 st14 h14 ge14
 have szs14 := st14.size
 have hS := hS.trans0 st14
 replace hq1_0_0 := hq1_0_0.up2 st14
 replace hq1_0_1 := hq1_0_1.up2 st14
 replace hq13_0_0 := hq13_0_0.up2 st14
 replace hq13_0_1 := hq13_0_1.up2 st14
 replace h2 := h2.up2 st14
 replace tb0 := tb0.up2 st14
 replace tb1 := tb1.up2 st14
 replace tb2 := tb2.up2 st14
 have lt14 := h14.lt
 refine k_store_c (cs' := [.int .i64 x5.1.Kind, .int .i64 x5.1.Num, S x5.1.Text, q13_0_0, q13_0_1]) size25 rfl rfl h14 (by first | (simp; done) | omega | (dsimp only; omega)) (CellsOf.lit (vs := [.int .i64 x5.1.Kind, .int .i64 x5.1.Num, S x5.1.Text, q13_0_0, q13_0_1]) rfl (ones.cons rfl (ones.cons rfl (ones.cons rfl (ones.cons ((SL.of_R hq13_0_0)).one1 (ones.cons ((SL.of_R hq13_0_1)).one1 ones.nil)))))) rfl (by first | rfl | (simp; done) | (simp; omega)) rfl ?_
 intro s15 st15 h14
 have szs15 := st15.size
 have hS := hS.c0 st15
 replace hq1_0_0 := hq1_0_0.up2 st15
 replace hq1_0_1 := hq1_0_1.up2 st15
 replace h2 := h2.up2 st15
 replace tb0 := tb0.up2 st15
 replace tb1 := tb1.up2 st15
 replace tb2 := tb2.up2 st15
 refine k_assign rfl rfl ?_
 refine k_nil ?_
 refine k_keep [(0, _), (1, _), (2, _), (4, _), (6, _), (8, _), (9, _), (10, _)] ⟨rfl, rfl, rfl, rfl, rfl, rfl, rfl, rfl, trivial⟩ ?_
 refine k_seq ?_
 refine k_region ?_
 refine k_load_blka (cs := [.int .i64 x1.1.Kind, .int .i64 x1.1.Num, S x1.1.Text, q1_0_0, q1_0_1]) agg25 rfl h2 rfl ?_
 obtain ⟨x6, hx6, h⟩ := ob h
 refine k_call cal11 rfl (value_At_w  (clsApiValue x1.1 hq1_0_0 hq1_0_1) tb2 tb0 tb1 hx6) rfl ?_
 rintro s16 vr16 st16 ⟨cs16_0, rfl, h16_0⟩
 have szs16 := st16.size
 have hS := hS.trans0 st16
 replace h14 := h14.up2 st16
 obtain ⟨q16_0_0, q16_0_1, rfl, hq16_0_0, hq16_0_1⟩ := opnApiValue h16_0
 refine k_move rfl rfl ?_
 refine k_extract rfl rfl rfl ?_
 refine k_extract rfl rfl rfl ?_
 refine k_alloc zero25 rfl ?_
 intro s17 b17 st17 h17 ge17
 have szs17 := st17.size
 have hS := hS.trans0 st17
 replace hq16_0_0 := hq16_0_0.up2 st17
 replace hq16_0_1 := hq16_0_1.up2 st17
 replace h14 := h14.up2 st17
 have lt17 := h17.lt
 refine k_store_c (cs' := [.int .i64 x6.1.Kind, .int .i64 x6.1.Num, S x6.1.Text, q16_0_0, q16_0_1]) size25 rfl rfl h17 (by first | (simp; done) | omega | (dsimp only; omega)) (CellsOf.lit (vs := [.int .i64 x6.1.Kind, .int .i64 x6.1.Num, S x6.1.Text, q16_0_0, q16_0_1]) rfl (ones.cons rfl (ones.cons rfl (ones.cons rfl (ones.cons ((SL.of_R hq16_0_0)).one1 (ones.cons ((SL.of_R hq16_0_1)).one1 ones.nil)))))) rfl (by first | rfl | (simp; done) | (simp; omega)) rfl ?_
 intro s18 st18 h17
 have szs18 := st18.size
 have hS := hS.c0 st18
 replace h14 := h14.up2 st18
 refine k_assign rfl rfl ?_
 refine k_nil ?_
 refine k_keep [(0, _), (2, _), (4, _), (6, _), (8, _), (9, _), (10, _), (12, _)] ⟨rfl, rfl, rfl, rfl, rfl, rfl, rfl, rfl, trivial⟩ ?_
 refine k_seq ?_
 refine k_region ?_
 refine k_move rfl rfl ?_
 refine k_eql rfl rfl rfl ?_
 refine k_move rfl rfl ?_
 have hE19 := Step.r0 K0 s18
 refine k_cutl (X := St) 3 [(0, .bool false), (2, .int .i64 x1.2), (4, .int .i64 x2.2), (6, .int .i64 x3.2), (8, .int .i64 x4.2), (9, .pointer (some ⟨b14, 0, none⟩)), (10, .int .i64 x5.2), (12, .int .i64 x6.2), (39, .int .i64 x1.2), (40, .bool (decide (x1.2 = 0)))] (fun _ => [(44, .bool (decide ((x1.2 = 0) ∧ (x2.2 = 2))))]) (fun sl wL => sl.w = wL ∧ Step K0 s18 sl) ?_ ?_
 ·
  refine k_again 41 rfl ?_
  refine k_split (fun c20 => ?_) (fun c20 => ?_)
  ·
   refine k_yes rfl rfl ?_
   refine k_move rfl rfl ?_
   refine k_yes rfl rfl ?_
   refine k_eql rfl rfl rfl ?_
   refine k_pickT rfl rfl rfl rfl ?_
   exact k_met ⟨s18, ⟨(congrArg (fun b => some (Value.bool b)) (by first | exact decide_eq_decide.2 ⟨fun h => ⟨c20, h⟩, fun h => h.2⟩ | exact (decide_eq_false (fun h => c20 h.1)).symm | (simp [c20]; done) | (simp [c20, i64] <;> omega))), trivial⟩, ⟨rfl, rfl, rfl, rfl, rfl, rfl, rfl, rfl, rfl, rfl, trivial⟩, rfl, hE19⟩
  ·
   refine k_no rfl rfl rfl rfl ?_
   refine k_no rfl rfl rfl rfl ?_
   refine k_pickF rfl rfl rfl rfl ?_
   exact k_met ⟨s18, ⟨(congrArg (fun b => some (Value.bool b)) (by first | exact decide_eq_decide.2 ⟨fun h => ⟨c20, h⟩, fun h => h.2⟩ | exact (decide_eq_false (fun h => c20 h.1)).symm | (simp [c20]; done) | (simp [c20, i64] <;> omega))), trivial⟩, ⟨rfl, rfl, rfl, rfl, rfl, rfl, rfl, rfl, rfl, rfl, trivial⟩, rfl, hE19⟩
 ·
  rintro s21 wL ⟨rfl, hE19⟩
  have szs21 := hE19.size
  have hS := hS.trans0 hE19
  replace h14 := h14.up2 hE19
  refine k_move rfl rfl ?_
  have hE22 := Step.r0 K0 s21
  refine k_cutl (X := St) 3 [(0, .bool false), (2, .int .i64 x1.2), (4, .int .i64 x2.2), (6, .int .i64 x3.2), (8, .int .i64 x4.2), (9, .pointer (some ⟨b14, 0, none⟩)), (10, .int .i64 x5.2), (12, .int .i64 x6.2), (39, .int .i64 x1.2), (40, .bool (decide (x1.2 = 0))), (44, .bool (decide ((x1.2 = 0) ∧ (x2.2 = 2))))] (fun _ => [(48, .bool (decide (((x1.2 = 0) ∧ (x2.2 = 2)) ∧ (x3.2 = 2))))]) (fun sl wL => sl.w = wL ∧ Step K0 s21 sl) ?_ ?_
  ·
   refine k_again 45 rfl ?_
   refine k_split (fun c23 => ?_) (fun c23 => ?_)
   ·
    refine k_yes rfl rfl ?_
    refine k_move rfl rfl ?_
    refine k_yes rfl rfl ?_
    refine k_eql rfl rfl rfl ?_
    refine k_pickT rfl rfl rfl rfl ?_
    exact k_met ⟨s21, ⟨(congrArg (fun b => some (Value.bool b)) (by first | exact decide_eq_decide.2 ⟨fun h => ⟨c23, h⟩, fun h => h.2⟩ | exact (decide_eq_false (fun h => c23 h.1)).symm | (simp [c23]; done) | (simp [c23, i64] <;> omega))), trivial⟩, ⟨rfl, rfl, rfl, rfl, rfl, rfl, rfl, rfl, rfl, rfl, rfl, trivial⟩, rfl, hE22⟩
   ·
    refine k_no rfl rfl rfl rfl ?_
    refine k_no rfl rfl rfl rfl ?_
    refine k_pickF rfl rfl rfl rfl ?_
    exact k_met ⟨s21, ⟨(congrArg (fun b => some (Value.bool b)) (by first | exact decide_eq_decide.2 ⟨fun h => ⟨c23, h⟩, fun h => h.2⟩ | exact (decide_eq_false (fun h => c23 h.1)).symm | (simp [c23]; done) | (simp [c23, i64] <;> omega))), trivial⟩, ⟨rfl, rfl, rfl, rfl, rfl, rfl, rfl, rfl, rfl, rfl, rfl, trivial⟩, rfl, hE22⟩
  ·
   rintro s24 wL ⟨rfl, hE22⟩
   have szs24 := hE22.size
   have hS := hS.trans0 hE22
   replace h14 := h14.up2 hE22
   refine k_move rfl rfl ?_
   have hE25 := Step.r0 K0 s24
   refine k_cutl (X := St) 3 [(0, .bool false), (2, .int .i64 x1.2), (4, .int .i64 x2.2), (6, .int .i64 x3.2), (8, .int .i64 x4.2), (9, .pointer (some ⟨b14, 0, none⟩)), (10, .int .i64 x5.2), (12, .int .i64 x6.2), (39, .int .i64 x1.2), (40, .bool (decide (x1.2 = 0))), (44, .bool (decide ((x1.2 = 0) ∧ (x2.2 = 2)))), (48, .bool (decide (((x1.2 = 0) ∧ (x2.2 = 2)) ∧ (x3.2 = 2))))] (fun _ => [(52, .bool (decide ((((x1.2 = 0) ∧ (x2.2 = 2)) ∧ (x3.2 = 2)) ∧ (x4.2 = 2))))]) (fun sl wL => sl.w = wL ∧ Step K0 s24 sl) ?_ ?_
   ·
    refine k_again 49 rfl ?_
    refine k_split (fun c26 => ?_) (fun c26 => ?_)
    ·
     refine k_yes rfl rfl ?_
     refine k_move rfl rfl ?_
     refine k_yes rfl rfl ?_
     refine k_eql rfl rfl rfl ?_
     refine k_pickT rfl rfl rfl rfl ?_
     exact k_met ⟨s24, ⟨(congrArg (fun b => some (Value.bool b)) (by first | exact decide_eq_decide.2 ⟨fun h => ⟨c26, h⟩, fun h => h.2⟩ | exact (decide_eq_false (fun h => c26 h.1)).symm | (simp [c26]; done) | (simp [c26, i64] <;> omega))), trivial⟩, ⟨rfl, rfl, rfl, rfl, rfl, rfl, rfl, rfl, rfl, rfl, rfl, rfl, trivial⟩, rfl, hE25⟩
    ·
     refine k_no rfl rfl rfl rfl ?_
     refine k_no rfl rfl rfl rfl ?_
     refine k_pickF rfl rfl rfl rfl ?_
     exact k_met ⟨s24, ⟨(congrArg (fun b => some (Value.bool b)) (by first | exact decide_eq_decide.2 ⟨fun h => ⟨c26, h⟩, fun h => h.2⟩ | exact (decide_eq_false (fun h => c26 h.1)).symm | (simp [c26]; done) | (simp [c26, i64] <;> omega))), trivial⟩, ⟨rfl, rfl, rfl, rfl, rfl, rfl, rfl, rfl, rfl, rfl, rfl, rfl, trivial⟩, rfl, hE25⟩
   ·
    rintro s27 wL ⟨rfl, hE25⟩
    have szs27 := hE25.size
    have hS := hS.trans0 hE25
    replace h14 := h14.up2 hE25
    refine k_move rfl rfl ?_
    have hE28 := Step.r0 K0 s27
    refine k_cutl (X := St) 3 [(0, .bool false), (2, .int .i64 x1.2), (4, .int .i64 x2.2), (6, .int .i64 x3.2), (8, .int .i64 x4.2), (9, .pointer (some ⟨b14, 0, none⟩)), (10, .int .i64 x5.2), (12, .int .i64 x6.2), (39, .int .i64 x1.2), (40, .bool (decide (x1.2 = 0))), (44, .bool (decide ((x1.2 = 0) ∧ (x2.2 = 2)))), (48, .bool (decide (((x1.2 = 0) ∧ (x2.2 = 2)) ∧ (x3.2 = 2)))), (52, .bool (decide ((((x1.2 = 0) ∧ (x2.2 = 2)) ∧ (x3.2 = 2)) ∧ (x4.2 = 2))))] (fun _ => [(56, .bool (decide (((((x1.2 = 0) ∧ (x2.2 = 2)) ∧ (x3.2 = 2)) ∧ (x4.2 = 2)) ∧ (x5.2 = 0))))]) (fun sl wL => sl.w = wL ∧ Step K0 s27 sl) ?_ ?_
    ·
     refine k_again 53 rfl ?_
     refine k_split (fun c29 => ?_) (fun c29 => ?_)
     ·
      refine k_yes rfl rfl ?_
      refine k_move rfl rfl ?_
      refine k_yes rfl rfl ?_
      refine k_eql rfl rfl rfl ?_
      refine k_pickT rfl rfl rfl rfl ?_
      exact k_met ⟨s27, ⟨(congrArg (fun b => some (Value.bool b)) (by first | exact decide_eq_decide.2 ⟨fun h => ⟨c29, h⟩, fun h => h.2⟩ | exact (decide_eq_false (fun h => c29 h.1)).symm | (simp [c29]; done) | (simp [c29, i64] <;> omega))), trivial⟩, ⟨rfl, rfl, rfl, rfl, rfl, rfl, rfl, rfl, rfl, rfl, rfl, rfl, rfl, trivial⟩, rfl, hE28⟩
     ·
      refine k_no rfl rfl rfl rfl ?_
      refine k_no rfl rfl rfl rfl ?_
      refine k_pickF rfl rfl rfl rfl ?_
      exact k_met ⟨s27, ⟨(congrArg (fun b => some (Value.bool b)) (by first | exact decide_eq_decide.2 ⟨fun h => ⟨c29, h⟩, fun h => h.2⟩ | exact (decide_eq_false (fun h => c29 h.1)).symm | (simp [c29]; done) | (simp [c29, i64] <;> omega))), trivial⟩, ⟨rfl, rfl, rfl, rfl, rfl, rfl, rfl, rfl, rfl, rfl, rfl, rfl, rfl, trivial⟩, rfl, hE28⟩
    ·
     rintro s30 wL ⟨rfl, hE28⟩
     have szs30 := hE28.size
     have hS := hS.trans0 hE28
     replace h14 := h14.up2 hE28
     refine k_move rfl rfl ?_
     have hE31 := Step.r0 K0 s30
     refine k_cutl (X := St) 4 [(0, .bool false), (2, .int .i64 x1.2), (4, .int .i64 x2.2), (6, .int .i64 x3.2), (8, .int .i64 x4.2), (9, .pointer (some ⟨b14, 0, none⟩)), (10, .int .i64 x5.2), (12, .int .i64 x6.2), (39, .int .i64 x1.2), (40, .bool (decide (x1.2 = 0))), (44, .bool (decide ((x1.2 = 0) ∧ (x2.2 = 2)))), (48, .bool (decide (((x1.2 = 0) ∧ (x2.2 = 2)) ∧ (x3.2 = 2)))), (52, .bool (decide ((((x1.2 = 0) ∧ (x2.2 = 2)) ∧ (x3.2 = 2)) ∧ (x4.2 = 2)))), (56, .bool (decide (((((x1.2 = 0) ∧ (x2.2 = 2)) ∧ (x3.2 = 2)) ∧ (x4.2 = 2)) ∧ (x5.2 = 0))))] (fun _ => [(61, .bool (decide ((((((x1.2 = 0) ∧ (x2.2 = 2)) ∧ (x3.2 = 2)) ∧ (x4.2 = 2)) ∧ (x5.2 = 0)) ∧ (x5.1.Num = (-2)))))]) (fun sl wL => sl.w = wL ∧ Step K0 s30 sl) ?_ ?_
     ·
      refine k_again 57 rfl ?_
      refine k_split (fun c32 => ?_) (fun c32 => ?_)
      ·
       refine k_yes rfl rfl ?_
       refine k_field_addr fld25_1 rfl rfl ?_
       refine k_yes rfl rfl ?_
       refine k_load_blk one2 rfl h14 rfl rfl ?_
       refine k_yes rfl rfl ?_
       refine k_eql rfl rfl rfl ?_
       refine k_pickT rfl rfl rfl rfl ?_
       exact k_met ⟨s30, ⟨(congrArg (fun b => some (Value.bool b)) (by first | exact decide_eq_decide.2 ⟨fun h => ⟨c32, h⟩, fun h => h.2⟩ | exact (decide_eq_false (fun h => c32 h.1)).symm | (simp [c32]; done) | (simp [c32, i64] <;> omega))), trivial⟩, ⟨rfl, rfl, rfl, rfl, rfl, rfl, rfl, rfl, rfl, rfl, rfl, rfl, rfl, rfl, trivial⟩, rfl, hE31⟩
      ·
       refine k_no rfl rfl rfl rfl ?_
       refine k_no rfl rfl rfl rfl ?_
       refine k_no rfl rfl rfl rfl ?_
       refine k_pickF rfl rfl rfl rfl ?_
       exact k_met ⟨s30, ⟨(congrArg (fun b => some (Value.bool b)) (by first | exact decide_eq_decide.2 ⟨fun h => ⟨c32, h⟩, fun h => h.2⟩ | exact (decide_eq_false (fun h => c32 h.1)).symm | (simp [c32]; done) | (simp [c32, i64] <;> omega))), trivial⟩, ⟨rfl, rfl, rfl, rfl, rfl, rfl, rfl, rfl, rfl, rfl, rfl, rfl, rfl, rfl, trivial⟩, rfl, hE31⟩
     ·
      rintro s33 wL ⟨rfl, hE31⟩
      have szs33 := hE31.size
      have hS := hS.trans0 hE31
      refine k_move rfl rfl ?_
      have hE34 := Step.r0 K0 s33
      refine k_cutl (X := St) 3 [(0, .bool false), (2, .int .i64 x1.2), (4, .int .i64 x2.2), (6, .int .i64 x3.2), (8, .int .i64 x4.2), (9, .pointer (some ⟨b14, 0, none⟩)), (10, .int .i64 x5.2), (12, .int .i64 x6.2), (39, .int .i64 x1.2), (40, .bool (decide (x1.2 = 0))), (44, .bool (decide ((x1.2 = 0) ∧ (x2.2 = 2)))), (48, .bool (decide (((x1.2 = 0) ∧ (x2.2 = 2)) ∧ (x3.2 = 2)))), (52, .bool (decide ((((x1.2 = 0) ∧ (x2.2 = 2)) ∧ (x3.2 = 2)) ∧ (x4.2 = 2)))), (56, .bool (decide (((((x1.2 = 0) ∧ (x2.2 = 2)) ∧ (x3.2 = 2)) ∧ (x4.2 = 2)) ∧ (x5.2 = 0)))), (61, .bool (decide ((((((x1.2 = 0) ∧ (x2.2 = 2)) ∧ (x3.2 = 2)) ∧ (x4.2 = 2)) ∧ (x5.2 = 0)) ∧ (x5.1.Num = (-2)))))] (fun _ => [(65, .bool (decide (((((((x1.2 = 0) ∧ (x2.2 = 2)) ∧ (x3.2 = 2)) ∧ (x4.2 = 2)) ∧ (x5.2 = 0)) ∧ (x5.1.Num = (-2))) ∧ (x6.2 = 4))))]) (fun sl wL => sl.w = wL ∧ Step K0 s33 sl) ?_ ?_
      ·
       refine k_again 62 rfl ?_
       refine k_split (fun c35 => ?_) (fun c35 => ?_)
       ·
        refine k_yes rfl rfl ?_
        refine k_move rfl rfl ?_
        refine k_yes rfl rfl ?_
        refine k_eql rfl rfl rfl ?_
        refine k_pickT rfl rfl rfl rfl ?_
        exact k_met ⟨s33, ⟨(congrArg (fun b => some (Value.bool b)) (by first | exact decide_eq_decide.2 ⟨fun h => ⟨c35, h⟩, fun h => h.2⟩ | exact (decide_eq_false (fun h => c35 h.1)).symm | (simp [c35]; done) | (simp [c35, i64] <;> omega))), trivial⟩, ⟨rfl, rfl, rfl, rfl, rfl, rfl, rfl, rfl, rfl, rfl, rfl, rfl, rfl, rfl, rfl, trivial⟩, rfl, hE34⟩
       ·
        refine k_no rfl rfl rfl rfl ?_
        refine k_no rfl rfl rfl rfl ?_
        refine k_pickF rfl rfl rfl rfl ?_
        exact k_met ⟨s33, ⟨(congrArg (fun b => some (Value.bool b)) (by first | exact decide_eq_decide.2 ⟨fun h => ⟨c35, h⟩, fun h => h.2⟩ | exact (decide_eq_false (fun h => c35 h.1)).symm | (simp [c35]; done) | (simp [c35, i64] <;> omega))), trivial⟩, ⟨rfl, rfl, rfl, rfl, rfl, rfl, rfl, rfl, rfl, rfl, rfl, rfl, rfl, rfl, rfl, trivial⟩, rfl, hE34⟩
      ·
       rintro s36 wL ⟨rfl, hE34⟩
       have szs36 := hE34.size
       have hS := hS.trans0 hE34
       refine k_assign rfl rfl ?_
       refine k_nil ?_
       refine k_keep [(0, _)] ⟨rfl, trivial⟩ ?_
       refine k_ret ?_
       obtain rfl := Option.some.inj h
       refine ⟨_, rfl, Ret.mk hS ?_⟩
       exact rfl

set_option maxHeartbeats 1000000 in
set_option maxRecDepth 100000 in
theorem value_Print_w {s : St} {cs0 : List Value} {a0 : ApiValue} {r : ((List UInt8) × Int)} (hp0 : RC s cs0 (dApiValue a0)) (tb2 : Tab2 s) (h : value_Print a0 = some r) : Calls Tryd.prog 6 #[.agg cs0.toArray] s.w (Ret s K0 (fun s1 v => v = .tuple #[S r.1, .int .i64 r.2])) := by
 unfold value_Print at h
 obtain ⟨q0_0, q0_1, rfl, hq0_0, hq0_1⟩ := opnApiValue hp0
 have hS := Step.r0 K0 s
 refine k_fn (rs := [2, 3]) (args := [.agg #[.int .i64 a0.Kind, .int .i64 a0.Num, S a0.Text, q0_0, q0_1]]) Tryd.func6 rfl rfl rfl rfl ?_
 refine k_seq ?_
 refine k_region ?_
 refine k_box rfl rfl ?_
 intro s1 b1 st1 h1 ge1
 have szs1 := st1.size
 have hS := hS.trans0 st1
 replace hq0_0 := hq0_0.up2 st1
 replace hq0_1 := hq0_1.up2 st1
 replace tb2 := tb2.up2 st1
 have lt1 := h1.lt
 refine k_assign rfl rfl ?_
 refine k_assign rfl rfl ?_
 refine k_nil ?_
 refine k_keep [(1, _), (2, _), (3, _)] ⟨rfl, rfl, rfl, trivial⟩ ?_
 refine k_seq ?_
 refine k_seq ?_
 refine k_region ?_
 refine k_load_blka (cs := [.int .i64 a0.Kind, .int .i64 a0.Num, S a0.Text, q0_0, q0_1]) agg25 rfl h1 rfl ?_
 obtain ⟨x1, hx1, h⟩ := ob h
 refine k_call cal9 rfl (value_May_w  (clsApiValue a0 hq0_0 hq0_1) tb2 hx1) rfl ?_
 rintro s2 vr2 st2 rfl
 have szs2 := st2.size
 have hS := hS.trans0 st2
 replace hq0_0 := hq0_0.up2 st2
 replace hq0_1 := hq0_1.up2 st2
 replace h1 := h1.up2 st2
 replace tb2 := tb2.up2 st2
 refine k_not rfl rfl ?_
 refine k_nil ?_
 refine k_keep [(1, _), (2, _), (3, _), (6, _)] ⟨rfl, rfl, rfl, rfl, trivial⟩ ?_
 refine k_cond rfl (fun c3 => ?_) (fun c3 => ?_)
 ·
  have h := ibT h c3
  refine k_seq ?_
  refine k_region ?_
  refine k_assign rfl rfl ?_
  refine k_assign rfl rfl ?_
  refine k_nil ?_
  refine k_keep [(1, _), (2, _), (3, _)] ⟨rfl, rfl, rfl, trivial⟩ ?_
  refine k_ret ?_
  obtain rfl := Option.some.inj h
  refine ⟨_, rfl, Ret.mk hS ?_⟩
  exact rfl
 ·
  have h := ibF h c3
  refine k_skip ?_
  refine k_seq ?_
  refine k_region ?_
  refine k_load_blka (cs := [.int .i64 a0.Kind, .int .i64 a0.Num, S a0.Text, q0_0, q0_1]) agg25 rfl h1 rfl ?_
  obtain ⟨x2, hx2, h⟩ := ob h
  refine k_call cal12 rfl (value_text_nl_w  (clsApiValue a0 hq0_0 hq0_1) tb2 hx2) rfl ?_
  rintro s4 v4_0 st4 ⟨_, rfl, h4_0⟩
  have szs4 := st4.size
  have hS := hS.trans0 st4
  refine k_bts (m := x2) Tryd.underlying37 Tryd.underlying5 Tryd.underlying9 rfl (SL.of_R h4_0) rfl ?_
  refine k_assign rfl rfl ?_
  refine k_assign rfl rfl ?_
  refine k_nil ?_
  refine k_keep [(2, _), (3, _)] ⟨rfl, rfl, trivial⟩ ?_
  refine k_ret ?_
  obtain rfl := Option.some.inj h
  refine ⟨_, rfl, Ret.mk hS ?_⟩
  exact rfl

set_option maxHeartbeats 1000000 in
set_option maxRecDepth 100000 in
theorem ref01_Same_s_w {s : St} {cs0 : List Value} {a0 : ApiValue} {cs1 : List Value} {a1 : ApiValue} {a70 : (ApiValue → ApiValue → Option Bool)} {r : Bool} (hp0 : RC s cs0 (dApiValue a0)) (hp1 : RC s cs1 (dApiValue a1)) (ih70 : ∀ {s : St} {cs0 : List Value} {a0 : ApiValue} {cs1 : List Value} {a1 : ApiValue} {r : Bool} (hp0 : RC s cs0 (dApiValue a0)) (hp1 : RC s cs1 (dApiValue a1)) (h : a70 a0 a1 = some r), Calls Tryd.prog 8 #[.agg cs0.toArray, .agg cs1.toArray] s.w (Ret s K0 (fun s1 v => v = .bool r))) (h : ref01_Same_s a70 a0 a1 = some r) : Calls Tryd.prog 8 #[.agg cs0.toArray, .agg cs1.toArray] s.w (Ret s K0 (fun s1 v => v = .bool r)) := by
 unfold ref01_Same_s at h
 obtain ⟨q0_0, q0_1, rfl, hq0_0, hq0_1⟩ := opnApiValue hp0
 obtain ⟨q1_0, q1_1, rfl, hq1_0, hq1_1⟩ := opnApiValue hp1
 have hS := Step.r0 K0 s
 refine k_fn (rs := [4]) (args := [.agg #[.int .i64 a0.Kind, .int .i64 a0.Num, S a0.Text, q0_0, q0_1], .agg #[.int .i64 a1.Kind, .int .i64 a1.Num, S a1.Text, q1_0, q1_1]]) Tryd.func8 rfl rfl rfl rfl ?_
 refine k_seq ?_
 refine k_region ?_
 refine k_box rfl rfl ?_
 intro s1 b1 st1 h1 ge1
 have szs1 := st1.size
 have hS := hS.trans0 st1
 replace hq0_0 := hq0_0.up2 st1
 replace hq0_1 := hq0_1.up2 st1
 replace hq1_0 := hq1_0.up2 st1
 replace hq1_1 := hq1_1.up2 st1
 have lt1 := h1.lt
 refine k_box rfl rfl ?_
 intro s2 b2 st2 h2 ge2
 have szs2 := st2.size
 have hS := hS.trans0 st2
 replace hq0_0 := hq0_0.up2 st2
 replace hq0_1 := hq0_1.up2 st2
 replace hq1_0 := hq1_0.up2 st2
 replace hq1_1 := hq1_1.up2 st2
 replace h1 := h1.up2 st2
 have lt2 := h2.lt
 refine k_assign rfl rfl ?_
 refine k_nil ?_
 refine k_keep [(2, _), (3, _), (4, _)] ⟨rfl, rfl, rfl, trivial⟩ ?_
 refine k_seq ?_
 refine k_seq ?_
 refine k_region ?_
 refine k_field_addr fld25_0 rfl rfl ?_
 refine k_load_blk one3 rfl h1 rfl rfl ?_
 refine k_field_addr fld25_0 rfl rfl ?_
 refine k_load_blk one3 rfl h2 rfl rfl ?_
 refine k_neq rfl rfl rfl ?_
 refine k_move rfl rfl ?_
 have hE3 := Step.r0 K0 s2
 refine k_cutl (X := St) 6 [(2, .pointer (some ⟨b1, 0, none⟩)), (3, .pointer (some ⟨b2, 0, none⟩)), (4, .bool false), (7, .pointer (some ⟨b1, 0, none⟩)), (8, .int .i64 a0.Kind), (9, .pointer (some ⟨b2, 0, none⟩)), (10, .int .i64 a1.Kind), (11, .bool (decide (a0.Kind ≠ a1.Kind)))] (fun _ => [(18, .bool (decide ((a0.Kind ≠ a1.Kind) ∨ (a0.Num ≠ a1.Num))))]) (fun sl wL => sl.w = wL ∧ Step K0 s2 sl) ?_ ?_
 ·
  refine k_again 12 rfl ?_
  refine k_split (fun c4 => ?_) (fun c4 => ?_)
  ·
   refine k_no rfl rfl rfl rfl ?_
   refine k_no rfl rfl rfl rfl ?_
   refine k_no rfl rfl rfl rfl ?_
   refine k_no rfl rfl rfl rfl ?_
   refine k_no rfl rfl rfl rfl ?_
   refine k_pickT rfl rfl rfl rfl ?_
   exact k_met ⟨s2, ⟨(congrArg (fun b => some (Value.bool b)) (by first | exact decide_eq_decide.2 ⟨Or.inr, fun h => h.resolve_left c4⟩ | exact (decide_eq_true (Or.inl c4)).symm | (simp [c4]; done) | (simp [c4, i64] <;> omega))), trivial⟩, ⟨rfl, rfl, rfl, rfl, rfl, rfl, rfl, rfl, trivial⟩, rfl, hE3⟩
  ·
   refine k_yes rfl rfl ?_
   refine k_field_addr fld25_1 rfl rfl ?_
   refine k_yes rfl rfl ?_
   refine k_load_blk one2 rfl h1 rfl rfl ?_
   refine k_yes rfl rfl ?_
   refine k_field_addr fld25_1 rfl rfl ?_
   refine k_yes rfl rfl ?_
   refine k_load_blk one2 rfl h2 rfl rfl ?_
   refine k_yes rfl rfl ?_
   refine k_neq rfl rfl rfl ?_
   refine k_pickF rfl rfl rfl rfl ?_
   exact k_met ⟨s2, ⟨(congrArg (fun b => some (Value.bool b)) (by first | exact decide_eq_decide.2 ⟨Or.inr, fun h => h.resolve_left c4⟩ | exact (decide_eq_true (Or.inl c4)).symm | (simp [c4]; done) | (simp [c4, i64] <;> omega))), trivial⟩, ⟨rfl, rfl, rfl, rfl, rfl, rfl, rfl, rfl, trivial⟩, rfl, hE3⟩
 ·
  rintro s5 wL ⟨rfl, hE3⟩
  have szs5 := hE3.size
  have hS := hS.trans0 hE3
  replace hq0_0 := hq0_0.up2 hE3
  replace hq0_1 := hq0_1.up2 hE3
  replace h1 := h1.up2 hE3
  replace hq1_0 := hq1_0.up2 hE3
  replace hq1_1 := hq1_1.up2 hE3
  replace h2 := h2.up2 hE3
  refine k_move rfl rfl ?_
  have hE6 := Step.r0 K0 s5
  refine k_cutl (X := St) 6 [(2, .pointer (some ⟨b1, 0, none⟩)), (3, .pointer (some ⟨b2, 0, none⟩)), (4, .bool false), (7, .pointer (some ⟨b1, 0, none⟩)), (8, .int .i64 a0.Kind), (9, .pointer (some ⟨b2, 0, none⟩)), (10, .int .i64 a1.Kind), (11, .bool (decide (a0.Kind ≠ a1.Kind))), (18, .bool (decide ((a0.Kind ≠ a1.Kind) ∨ (a0.Num ≠ a1.Num))))] (fun _ => [(25, .bool (decide (((a0.Kind ≠ a1.Kind) ∨ (a0.Num ≠ a1.Num)) ∨ (a0.Text ≠ a1.Text))))]) (fun sl wL => sl.w = wL ∧ Step K0 s5 sl) ?_ ?_
  ·
   refine k_again 19 rfl ?_
   refine k_split (fun c7 => ?_) (fun c7 => ?_)
   ·
    refine k_no rfl rfl rfl rfl ?_
    refine k_no rfl rfl rfl rfl ?_
    refine k_no rfl rfl rfl rfl ?_
    refine k_no rfl rfl rfl rfl ?_
    refine k_no rfl rfl rfl rfl ?_
    refine k_pickT rfl rfl rfl rfl ?_
    exact k_met ⟨s5, ⟨(congrArg (fun b => some (Value.bool b)) (by first | exact decide_eq_decide.2 ⟨Or.inr, fun h => h.resolve_left c7⟩ | exact (decide_eq_true (Or.inl c7)).symm | (simp [c7]; done) | (simp [c7, i64] <;> omega))), trivial⟩, ⟨rfl, rfl, rfl, rfl, rfl, rfl, rfl, rfl, rfl, trivial⟩, rfl, hE6⟩
   ·
    refine k_yes rfl rfl ?_
    refine k_field_addr fld25_2 rfl rfl ?_
    refine k_yes rfl rfl ?_
    refine k_load_blk one9 rfl h1 rfl rfl ?_
    refine k_yes rfl rfl ?_
    refine k_field_addr fld25_2 rfl rfl ?_
    refine k_yes rfl rfl ?_
    refine k_load_blk one9 rfl h2 rfl rfl ?_
    refine k_yes rfl rfl ?_
    refine k_neq_str rfl rfl rfl ?_
    refine k_pickF rfl rfl rfl rfl ?_
    exact k_met ⟨s5, ⟨(congrArg (fun b => some (Value.bool b)) (by first | exact decide_eq_decide.2 ⟨Or.inr, fun h => h.resolve_left c7⟩ | exact (decide_eq_true (Or.inl c7)).symm | (simp [c7]; done) | (simp [c7, i64] <;> omega))), trivial⟩, ⟨rfl, rfl, rfl, rfl, rfl, rfl, rfl, rfl, rfl, trivial⟩, rfl, hE6⟩
  ·
   rintro s8 wL ⟨rfl, hE6⟩
   have szs8 := hE6.size
   have hS := hS.trans0 hE6
   replace hq0_0 := hq0_0.up2 hE6
   replace hq0_1 := hq0_1.up2 hE6
   replace h1 := h1.up2 hE6
   replace hq1_0 := hq1_0.up2 hE6
   replace hq1_1 := hq1_1.up2 hE6
   replace h2 := h2.up2 hE6
   refine k_move rfl rfl ?_
   have hE9 := Step.r0 K0 s8
   refine k_cutl (X := St) 8 [(2, .pointer (some ⟨b1, 0, none⟩)), (3, .pointer (some ⟨b2, 0, none⟩)), (4, .bool false), (7, .pointer (some ⟨b1, 0, none⟩)), (8, .int .i64 a0.Kind), (9, .pointer (some ⟨b2, 0, none⟩)), (10, .int .i64 a1.Kind), (11, .bool (decide (a0.Kind ≠ a1.Kind))), (18, .bool (decide ((a0.Kind ≠ a1.Kind) ∨ (a0.Num ≠ a1.Num)))), (25, .bool (decide (((a0.Kind ≠ a1.Kind) ∨ (a0.Num ≠ a1.Num)) ∨ (a0.Text ≠ a1.Text))))] (fun _ => [(34, .bool (decide ((((a0.Kind ≠ a1.Kind) ∨ (a0.Num ≠ a1.Num)) ∨ (a0.Text ≠ a1.Text)) ∨ ((a0.Keys.length : Int) ≠ (a1.Keys.length : Int)))))]) (fun sl wL => sl.w = wL ∧ Step K0 s8 sl) ?_ ?_
   ·
    refine k_again 26 rfl ?_
    refine k_split (fun c10 => ?_) (fun c10 => ?_)
    ·
     refine k_no rfl rfl rfl rfl ?_
     refine k_no rfl rfl rfl rfl ?_
     refine k_no rfl rfl rfl rfl ?_
     refine k_no rfl rfl rfl rfl ?_
     refine k_no rfl rfl rfl rfl ?_
     refine k_no rfl rfl rfl rfl ?_
     refine k_no rfl rfl rfl rfl ?_
     refine k_pickT rfl rfl rfl rfl ?_
     exact k_met ⟨s8, ⟨(congrArg (fun b => some (Value.bool b)) (by first | exact decide_eq_decide.2 ⟨Or.inr, fun h => h.resolve_left c10⟩ | exact (decide_eq_true (Or.inl c10)).symm | (simp [c10]; done) | (simp [c10, i64] <;> omega))), trivial⟩, ⟨rfl, rfl, rfl, rfl, rfl, rfl, rfl, rfl, rfl, rfl, trivial⟩, rfl, hE9⟩
    ·
     refine k_yes rfl rfl ?_
     refine k_field_addr fld25_4 rfl rfl ?_
     refine k_yes rfl rfl ?_
     refine k_load_blk one23 rfl h1 rfl rfl ?_
     refine k_yes rfl rfl ?_
     refine k_len Tryd.underlying23 rfl (SL.of_R hq0_1).hasLen rfl ?_
     refine k_as (v := .int .i64 (a0.Keys.length : Int)) (by simp only [List.length_map]) ?_
     refine k_yes rfl rfl ?_
     refine k_field_addr fld25_4 rfl rfl ?_
     refine k_yes rfl rfl ?_
     refine k_load_blk one23 rfl h2 rfl rfl ?_
     refine k_yes rfl rfl ?_
     refine k_len Tryd.underlying23 rfl (SL.of_R hq1_1).hasLen rfl ?_
     refine k_as (v := .int .i64 (a1.Keys.length : Int)) (by simp only [List.length_map]) ?_
     refine k_yes rfl rfl ?_
     refine k_neq rfl rfl rfl ?_
     refine k_pickF rfl rfl rfl rfl ?_
     exact k_met ⟨s8, ⟨(congrArg (fun b => some (Value.bool b)) (by first | exact decide_eq_decide.2 ⟨Or.inr, fun h => h.resolve_left c10⟩ | exact (decide_eq_true (Or.inl c10)).symm | (simp [c10]; done) | (simp [c10, i64] <;> omega))), trivial⟩, ⟨rfl, rfl, rfl, rfl, rfl, rfl, rfl, rfl, rfl, rfl, trivial⟩, rfl, hE9⟩
   ·
    rintro s11 wL ⟨rfl, hE9⟩
    have szs11 := hE9.size
    have hS := hS.trans0 hE9
    replace hq0_0 := hq0_0.up2 hE9
    replace hq0_1 := hq0_1.up2 hE9
    replace h1 := h1.up2 hE9
    replace hq1_0 := hq1_0.up2 hE9
    replace hq1_1 := hq1_1.up2 hE9
    replace h2 := h2.up2 hE9
    refine k_move rfl rfl ?_
    have hE12 := Step.r0 K0 s11
    refine k_cutl (X := St) 8 [(2, .pointer (some ⟨b1, 0, none⟩)), (3, .pointer (some ⟨b2, 0, none⟩)), (4, .bool false), (7, .pointer (some ⟨b1, 0, none⟩)), (8, .int .i64 a0.Kind), (9, .pointer (some ⟨b2, 0, none⟩)), (10, .int .i64 a1.Kind), (11, .bool (decide (a0.Kind ≠ a1.Kind))), (18, .bool (decide ((a0.Kind ≠ a1.Kind) ∨ (a0.Num ≠ a1.Num)))), (25, .bool (decide (((a0.Kind ≠ a1.Kind) ∨ (a0.Num ≠ a1.Num)) ∨ (a0.Text ≠ a1.Text)))), (34, .bool (decide ((((a0.Kind ≠ a1.Kind) ∨ (a0.Num ≠ a1.Num)) ∨ (a0.Text ≠ a1.Text)) ∨ ((a0.Keys.length : Int) ≠ (a1.Keys.length : Int)))))] (fun _ => [(43, .bool (decide (((((a0.Kind ≠ a1.Kind) ∨ (a0.Num ≠ a1.Num)) ∨ (a0.Text ≠ a1.Text)) ∨ ((a0.Keys.length : Int) ≠ (a1.Keys.length : Int))) ∨ ((a0.List_.length : Int) ≠ (a1.List_.length : Int)))))]) (fun sl wL => sl.w = wL ∧ Step K0 s11 sl) ?_ ?_
    ·
     refine k_again 35 rfl ?_
     refine k_split (fun c13 => ?_) (fun c13 => ?_)
     ·
      refine k_no rfl rfl rfl rfl ?_
      refine k_no rfl rfl rfl rfl ?_
      refine k_no rfl rfl rfl rfl ?_
      refine k_no rfl rfl rfl rfl ?_
      refine k_no rfl rfl rfl rfl ?_
      refine k_no rfl rfl rfl rfl ?_
      refine k_no rfl rfl rfl rfl ?_
      refine k_pickT rfl rfl rfl rfl ?_
      exact k_met ⟨s11, ⟨(congrArg (fun b => some (Value.bool b)) (by first | exact decide_eq_decide.2 ⟨Or.inr, fun h => h.resolve_left c13⟩ | exact (decide_eq_true (Or.inl c13)).symm | (simp [c13]; done) | (simp [c13, i64] <;> omega))), trivial⟩, ⟨rfl, rfl, rfl, rfl, rfl, rfl, rfl, rfl, rfl, rfl, rfl, trivial⟩, rfl, hE12⟩
     ·
      refine k_yes rfl rfl ?_
      refine k_field_addr fld25_3 rfl rfl ?_
      refine k_yes rfl rfl ?_
      refine k_load_blk one22 rfl h1 rfl rfl ?_
      refine k_yes rfl rfl ?_
      refine k_len Tryd.underlying22 rfl (SL.of_R hq0_0).hasLen rfl ?_
      refine k_as (v := .int .i64 (a0.List_.length : Int)) (by simp only [List.length_map]) ?_
      refine k_yes rfl rfl ?_
      refine k_field_addr fld25_3 rfl rfl ?_
      refine k_yes rfl rfl ?_
      refine k_load_blk one22 rfl h2 rfl rfl ?_
      refine k_yes rfl rfl ?_
      refine k_len Tryd.underlying22 rfl (SL.of_R hq1_0).hasLen rfl ?_
      refine k_as (v := .int .i64 (a1.List_.length : Int)) (by simp only [List.length_map]) ?_
      refine k_yes rfl rfl ?_
      refine k_neq rfl rfl rfl ?_
      refine k_pickF rfl rfl rfl rfl ?_
      exact k_met ⟨s11, ⟨(congrArg (fun b => some (Value.bool b)) (by first | exact decide_eq_decide.2 ⟨Or.inr, fun h => h.resolve_left c13⟩ | exact (decide_eq_true (Or.inl c13)).symm | (simp [c13]; done) | (simp [c13, i64] <;> omega))), trivial⟩, ⟨rfl, rfl, rfl, rfl, rfl, rfl, rfl, rfl, rfl, rfl, rfl, trivial⟩, rfl, hE12⟩
    ·
     rintro s14 wL ⟨rfl, hE12⟩
     have szs14 := hE12.size
     have hS := hS.trans0 hE12
     replace hq0_0 := hq0_0.up2 hE12
     replace hq0_1 := hq0_1.up2 hE12
     replace h1 := h1.up2 hE12
     replace hq1_0 := hq1_0.up2 hE12
     replace hq1_1 := hq1_1.up2 hE12
     replace h2 := h2.up2 hE12
     refine k_nil ?_
     refine k_keep [(2, _), (3, _), (4, _), (43, _)] ⟨rfl, rfl, rfl, rfl, trivial⟩ ?_
     refine k_cond_dec rfl (fun c15 => ?_) (fun c15 => ?_)
     ·
      have h := itT h c15
      refine k_seq ?_
      refine k_region ?_
      refine k_assign rfl rfl ?_
      refine k_nil ?_
      refine k_keep [(2, _), (3, _), (4, _)] ⟨rfl, rfl, rfl, trivial⟩ ?_
      refine k_ret ?_
      obtain rfl := Option.some.inj h
      refine ⟨_, rfl, Ret.mk hS ?_⟩
      exact rfl
     ·
      have h := itF h c15
      refine k_skip ?_
      refine k_seq ?_
      refine k_keep [(2, _), (3, _), (4, _)] ⟨rfl, rfl, rfl, trivial⟩ ?_
      obtain ⟨kj1, hK16, h⟩ := jn_out h
      have hE16 := Step.r0 K0 s14
      refine k_cutc (X := St) [(2, .pointer (some ⟨b1, 0, none⟩)), (3, .pointer (some ⟨b2, 0, none⟩)), (4, .bool false)] (fun (xL : St) => match xL with | sl => []) (fun (xL : St) (wL : World) => match xL with | sl => sl.w = wL ∧ Step K0 s14 sl ∧ kj1 () = some r) ?_ ?_
      ·
       refine k_seq ?_
       refine k_region ?_
       refine k_assign rfl rfl ?_
       refine k_nil ?_
       refine k_block ?_
       refine k_loopc (X := St × Int × Nat) [(2, _), (3, _), (4, _)] (fun (xL : St × Int × Nat) => match xL with | (sl, x2, j) => [(5, .int .i64 x2)]) (fun (xL : St × Int × Nat) (wL : World) => match xL with | (sl, x2, j) => sl.w = wL ∧ Step K0 s14 sl ∧ ref01_Same_s_l1 a0 a1 kj1 j x2 = some r) (fun (xL : St × Int × Nat) => match xL with | (sl, x2, j) => j) (s14, 0, FU) ⟨rfl, rfl, rfl, trivial⟩ ⟨(by first | rfl | (simp <;> rfl)), trivial⟩ ⟨rfl, (Step.refl _).of0 (by first | exact fun _ h => h | (intro c h; simp [KC, KO, KU, KN, KB] at h <;> omega)), h⟩ ?_
       rintro ⟨s18, x2, j⟩ wL ⟨rfl, hE17, h⟩
       cases j with
       | zero => rw [ref01_Same_s_l1] at h; exact (noneNe h).elim
       | succ j =>
       rw [ref01_Same_s_l1] at h
       have szs18 := hE17.size
       have hS := hS.trans0 hE17
       have hE16 := hE16.trans0 hE17
       replace hq0_1 := hq0_1.up2 hE17
       replace h1 := h1.up2 hE17
       replace hq1_1 := hq1_1.up2 hE17
       replace h2 := h2.up2 hE17
       refine k_seq ?_
       refine k_seq ?_
       refine k_region ?_
       refine k_move rfl rfl ?_
       refine k_field_addr fld25_4 rfl rfl ?_
       refine k_load_blk one23 rfl h1 rfl rfl ?_
       refine k_len Tryd.underlying23 rfl (SL.of_R hq0_1).hasLen rfl ?_
       refine k_as (v := .int .i64 (a0.Keys.length : Int)) (by simp only [List.length_map]) ?_
       refine k_lss rfl rfl rfl ?_
       refine k_nil ?_
       refine k_keep [(2, _), (3, _), (4, _), (5, _), (48, _)] ⟨rfl, rfl, rfl, rfl, rfl, trivial⟩ ?_
       refine k_cond_dec rfl (fun c19 => ?_) (fun c19 => ?_)
       ·
        have h := itT h c19
        refine k_skip ?_
        refine k_seq ?_
        refine k_block ?_
        refine k_seq ?_
        refine k_keep [(2, _), (3, _), (4, _), (5, _)] ⟨rfl, rfl, rfl, rfl, trivial⟩ ?_
        refine k_drawT (KN s18.n) 10 (.read 0 (.read 1 (.read 2 (.read 3 (.read 4 (.read 5 (.read 6 (.read 7 (.read 8 (.read 9 .fin)))))))))) mixed (by intro c h; (try simp only [KC, KO, KU, KN, KB] at h) <;> omega) rfl rfl rfl ?_
        intro s20 st20
        have szs20 := st20.size
        have hS := hS.trans0 st20
        have hE16 := hE16.trans0 st20
        have hE17 := hE17.trans0 st20
        replace hq0_1 := hq0_1.up2 st20
        replace h1 := h1.up2 st20
        replace hq1_1 := hq1_1.up2 st20
        replace h2 := h2.up2 st20
        refine rt_read (.pointer (some ⟨b1, 4, none⟩)) rfl rfl (fun s21 st21 => ?_) ?_
        ·refine k_field_addr fld25_4 rfl rfl ?_
         exact fq_end
        refine rt_read (q0_1) rfl rfl (fun s22 st22 => ?_) ?_
        ·try replace h1 := h1.up2 st22
         refine k_load_blk one23 rfl h1 rfl rfl ?_
         exact fq_end
        refine rt_read (.int .i64 x2) rfl rfl (fun s23 st23 => ?_) ?_
        ·refine k_move rfl rfl ?_
         exact fq_end
        obtain ⟨x3, hx3, h⟩ := ob h
        refine rt_ix rfl (wanted_none rfl) Tryd.underlying23 size9 rfl rfl (SL.of_R hq0_1) (geti_out hx3).1 (geti_map hx3) rfl ?_
        intro q24 hq24
        refine rt_read (S x3) rfl rfl (fun s25 st25 => ?_) ?_
        ·try replace hq24 := hq24.up2 st25
         refine k_load_val one9 rfl hq24 rfl ?_
         exact fq_end
        refine rt_read (.pointer (some ⟨b2, 4, none⟩)) rfl rfl (fun s26 st26 => ?_) ?_
        ·refine k_field_addr fld25_4 rfl rfl ?_
         exact fq_end
        refine rt_read (q1_1) rfl rfl (fun s27 st27 => ?_) ?_
        ·try replace h2 := h2.up2 st27
         refine k_load_blk one23 rfl h2 rfl rfl ?_
         exact fq_end
        refine rt_read (.int .i64 x2) rfl rfl (fun s28 st28 => ?_) ?_
        ·refine k_move rfl rfl ?_
         exact fq_end
        obtain ⟨x4, hx4, h⟩ := ob h
        refine rt_ix rfl (wanted_none rfl) Tryd.underlying23 size9 rfl rfl (SL.of_R hq1_1) (geti_out hx4).1 (geti_map hx4) rfl ?_
        intro q29 hq29
        refine rt_read (S x4) rfl rfl (fun s30 st30 => ?_) ?_
        ·try replace hq29 := hq29.up2 st30
         refine k_load_val one9 rfl hq29 rfl ?_
         exact fq_end
        refine rt_fin ?_
        refine k_neq_str rfl rfl rfl ?_
        refine k_nil ?_
        refine k_keep [(2, _), (3, _), (4, _), (5, _), (61, _)] ⟨rfl, rfl, rfl, rfl, rfl, trivial⟩ ?_
        refine k_cond_dec rfl (fun c31 => ?_) (fun c31 => ?_)
        ·
         have h := itT h c31
         refine k_seq ?_
         refine k_region ?_
         refine k_assign rfl rfl ?_
         refine k_nil ?_
         refine k_keep [(2, _), (3, _), (4, _), (5, _)] ⟨rfl, rfl, rfl, rfl, trivial⟩ ?_
         refine k_ret ?_
         obtain rfl := Option.some.inj h
         refine ⟨_, rfl, Ret.mk hS ?_⟩
         exact rfl
        ·
         have h := itF h c31
         refine k_skip ?_
         refine k_blk ?_
         refine k_region ?_
         refine k_move rfl rfl ?_
         refine k_add rfl rfl rfl ?_
         refine k_assign rfl rfl ?_
         refine k_nil ?_
         exact k_stop ⟨(s20, i64 (x2 + 1), j), ⟨(by first | rfl | (simp <;> rfl)), trivial⟩, ⟨rfl, rfl, rfl, trivial⟩, ⟨rfl, hE17, h⟩, (by simp)⟩
       ·
        have h := itF h c19
        refine k_exit rfl ?_
        exact k_stop ⟨s18, trivial, ⟨rfl, rfl, rfl, trivial⟩, ⟨rfl, hE16, h⟩⟩
      ·
       rintro s32 wL ⟨rfl, hE16, h⟩
       rw [hK16] at h
       have szs32 := hE16.size
       have hS := hS.trans0 hE16
       replace hq0_0 := hq0_0.up2 hE16
       replace h1 := h1.up2 hE16
       replace hq1_0 := hq1_0.up2 hE16
       replace h2 := h2.up2 hE16
       refine k_seq ?_
       obtain ⟨kj5, hK33, h⟩ := jn_out h
       have hE33 := Step.r0 K0 s32
       refine k_cutc (X := St) [(4, .bool false)] (fun (xL : St) => match xL with | sl => []) (fun (xL : St) (wL : World) => match xL with | sl => sl.w = wL ∧ Step K0 s32 sl ∧ kj5 () = some r) ?_ ?_
       ·
        refine k_seq ?_
        refine k_region ?_
        refine k_assign rfl rfl ?_
        refine k_nil ?_
        refine k_block ?_
        refine k_loopc (X := St × Int × Nat) [(2, _), (3, _), (4, _)] (fun (xL : St × Int × Nat) => match xL with | (sl, x6, j) => [(6, .int .i64 x6)]) (fun (xL : St × Int × Nat) (wL : World) => match xL with | (sl, x6, j) => sl.w = wL ∧ Step K0 s32 sl ∧ ref01_Same_s_l2 a0 a1 a70 kj5 j x6 = some r) (fun (xL : St × Int × Nat) => match xL with | (sl, x6, j) => j) (s32, 0, FU) ⟨rfl, rfl, rfl, trivial⟩ ⟨(by first | rfl | (simp <;> rfl)), trivial⟩ ⟨rfl, (Step.refl _).of0 (by first | exact fun _ h => h | (intro c h; simp [KC, KO, KU, KN, KB] at h <;> omega)), h⟩ ?_
        rintro ⟨s35, x6, j⟩ wL ⟨rfl, hE34, h⟩
        cases j with
        | zero => rw [ref01_Same_s_l2] at h; exact (noneNe h).elim
        | succ j =>
        rw [ref01_Same_s_l2] at h
        have szs35 := hE34.size
        have hS := hS.trans0 hE34
        have hE33 := hE33.trans0 hE34
        replace hq0_0 := hq0_0.up2 hE34
        replace h1 := h1.up2 hE34
        replace hq1_0 := hq1_0.up2 hE34
        replace h2 := h2.up2 hE34
        refine k_seq ?_
        refine k_seq ?_
        refine k_region ?_
        refine k_move rfl rfl ?_
        refine k_field_addr fld25_3 rfl rfl ?_
        refine k_load_blk one22 rfl h1 rfl rfl ?_
        refine k_len Tryd.underlying22 rfl (SL.of_R hq0_0).hasLen rfl ?_
        refine k_as (v := .int .i64 (a0.List_.length : Int)) (by simp only [List.length_map]) ?_
        refine k_lss rfl rfl rfl ?_
        refine k_nil ?_
        refine k_keep [(2, _), (3, _), (4, _), (6, _), (66, _)] ⟨rfl, rfl, rfl, rfl, rfl, trivial⟩ ?_
        refine k_cond_dec rfl (fun c36 => ?_) (fun c36 => ?_)
        ·
         have h := itT h c36
         refine k_skip ?_
         refine k_seq ?_
         refine k_block ?_
         refine k_seq ?_
         refine k_keep [(2, _), (3, _), (4, _), (6, _)] ⟨rfl, rfl, rfl, rfl, trivial⟩ ?_
         refine k_drawT (KN s35.n) 10 (.read 0 (.read 1 (.read 2 (.read 3 (.read 4 (.read 5 (.read 6 (.read 7 (.read 8 (.read 9 .fin)))))))))) mixed (by intro c h; (try simp only [KC, KO, KU, KN, KB] at h) <;> omega) rfl rfl rfl ?_
         intro s37 st37
         have szs37 := st37.size
         have hS := hS.trans0 st37
         have hE33 := hE33.trans0 st37
         have hE34 := hE34.trans0 st37
         replace hq0_0 := hq0_0.up2 st37
         replace h1 := h1.up2 st37
         replace hq1_0 := hq1_0.up2 st37
         replace h2 := h2.up2 st37
         refine rt_read (.pointer (some ⟨b1, 3, none⟩)) rfl rfl (fun s38 st38 => ?_) ?_
         ·refine k_field_addr fld25_3 rfl rfl ?_
          exact fq_end
         refine rt_read (q0_0) rfl rfl (fun s39 st39 => ?_) ?_
         ·try replace h1 := h1.up2 st39
          refine k_load_blk one22 rfl h1 rfl rfl ?_
          exact fq_end
         refine rt_read (.int .i64 x6) rfl rfl (fun s40 st40 => ?_) ?_
         ·refine k_move rfl rfl ?_
          exact fq_end
         obtain ⟨x7, hx7, h⟩ := ob h
         refine rt_ix rfl (wanted_none rfl) Tryd.underlying22 size25 rfl rfl (SL.of_R hq0_0) (geti_out hx7).1 (geti_map hx7) rfl ?_
         intro q41 hq41
         refine rt_ldagg rfl (wanted_none rfl) (by exact agg25) rfl hq41 (by first | exact id | (simp only [KC, KO, KU, KN, KB] <;> omega)) rfl ?_
         intro cs42 h42
         obtain ⟨q42_0, q42_1, rfl, hq42_0, hq42_1⟩ := opnApiValue h42
         refine rt_read (.pointer (some ⟨b2, 3, none⟩)) rfl rfl (fun s43 st43 => ?_) ?_
         ·refine k_field_addr fld25_3 rfl rfl ?_
          exact fq_end
         refine rt_read (q1_0) rfl rfl (fun s44 st44 => ?_) ?_
         ·try replace h2 := h2.up2 st44
          refine k_load_blk one22 rfl h2 rfl rfl ?_
          exact fq_end
         refine rt_read (.int .i64 x6) rfl rfl (fun s45 st45 => ?_) ?_
         ·refine k_move rfl rfl ?_
          exact fq_end
         obtain ⟨x8, hx8, h⟩ := ob h
         refine rt_ix rfl (wanted_none rfl) Tryd.underlying22 size25 rfl rfl (SL.of_R hq1_0) (geti_out hx8).1 (geti_map hx8) rfl ?_
         intro q46 hq46
         refine rt_ldagg rfl (wanted_none rfl) (by exact agg25) rfl hq46 (by first | exact id | (simp only [KC, KO, KU, KN, KB] <;> omega)) rfl ?_
         intro cs47 h47
         obtain ⟨q47_0, q47_1, rfl, hq47_0, hq47_1⟩ := opnApiValue h47
         refine rt_fin ?_
         obtain ⟨x9, hx9, h⟩ := ob h
         refine k_call cal8 rfl (ih70  (clsApiValue x7 hq42_0 hq42_1) (clsApiValue x8 hq47_0 hq47_1) hx9) rfl ?_
         rintro s48 vr48 st48 rfl
         have szs48 := st48.size
         have hS := hS.trans0 st48
         have hE33 := hE33.trans0 st48
         have hE34 := hE34.trans0 st48
         refine k_not rfl rfl ?_
         refine k_nil ?_
         refine k_keep [(2, _), (3, _), (4, _), (6, _), (80, _)] ⟨rfl, rfl, rfl, rfl, rfl, trivial⟩ ?_
         refine k_cond rfl (fun c49 => ?_) (fun c49 => ?_)
         ·
          have h := ibT h c49
          refine k_seq ?_
          refine k_region ?_
          refine k_assign rfl rfl ?_
          refine k_nil ?_
          refine k_keep [(2, _), (3, _), (4, _), (6, _)] ⟨rfl, rfl, rfl, rfl, trivial⟩ ?_
          refine k_ret ?_
          obtain rfl := Option.some.inj h
          refine ⟨_, rfl, Ret.mk hS ?_⟩
          exact rfl
         ·
          have h := ibF h c49
          refine k_skip ?_
          refine k_blk ?_
          refine k_region ?_
          refine k_move rfl rfl ?_
          refine k_add rfl rfl rfl ?_
          refine k_assign rfl rfl ?_
          refine k_nil ?_
          exact k_stop ⟨(s48, i64 (x6 + 1), j), ⟨(by first | rfl | (simp <;> rfl)), trivial⟩, ⟨rfl, rfl, rfl, trivial⟩, ⟨rfl, hE34, h⟩, (by simp)⟩
        ·
         have h := itF h c36
         refine k_exit rfl ?_
         exact k_stop ⟨s35, trivial, ⟨rfl, trivial⟩, ⟨rfl, hE33, h⟩⟩
       ·
        rintro s50 wL ⟨rfl, hE33, h⟩
        rw [hK33] at h
        have szs50 := hE33.size
        have hS := hS.trans0 hE33
        refine k_seq ?_
        refine k_region ?_
        refine k_assign rfl rfl ?_
        refine k_nil ?_
        refine k_ret ?_
        obtain rfl := Option.some.inj h
        refine ⟨_, rfl, Ret.mk hS ?_⟩
        exact rfl
theorem ref01_Same_rw (j : Nat) : ∀ {s : St} {cs0 : List Value} {a0 : ApiValue} {cs1 : List Value} {a1 : ApiValue} {r : Bool} (hp0 : RC s cs0 (dApiValue a0)) (hp1 : RC s cs1 (dApiValue a1)) (h : ref01_Same_r j a0 a1 = some r), Calls Tryd.prog 8 #[.agg cs0.toArray, .agg cs1.toArray] s.w (Ret s K0 (fun s1 v => v = .bool r)) := by
 induction j with
 | zero => intro s cs0 a0 cs1 a1 r hp0 hp1 h; rw [ref01_Same_r] at h; exact (noneNe h).elim
 | succ j ih => intro s cs0 a0 cs1 a1 r hp0 hp1 h; rw [ref01_Same_r] at h; exact ref01_Same_s_w hp0 hp1 ih h
theorem ref01_Same_w {s : St} {cs0 : List Value} {a0 : ApiValue} {cs1 : List Value} {a1 : ApiValue} {r : Bool} (hp0 : RC s cs0 (dApiValue a0)) (hp1 : RC s cs1 (dApiValue a1)) (h : ref01_Same a0 a1 = some r) : Calls Tryd.prog 8 #[.agg cs0.toArray, .agg cs1.toArray] s.w (Ret s K0 (fun s1 v => v = .bool r)) := ref01_Same_rw (FU + (dpApiValue a0 + dpApiValue a1)) hp0 hp1 h

set_option maxHeartbeats 1000000 in
set_option maxRecDepth 100000 in
theorem law01_ValueBack_w {s : St} {cs0 : List Value} {a0 : ApiValue} {cs1 : List Value} {a1 : ApiValue} {a2 : (List UInt8)} {r : Bool} (hp0 : RC s cs0 (dApiValue a0)) (hp1 : RC s cs1 (dApiValue a1)) (tb0 : Tab0 s) (tb1 : Tab1 s) (tb2 : Tab2 s) (h : law01_ValueBack a0 a1 a2 = some r) : Calls Tryd.prog 3 #[.agg cs0.toArray, .agg cs1.toArray, S a2] s.w (Ret s K0 (fun s1 v => v = .bool r)) := by
 unfold law01_ValueBack at h
 obtain ⟨q0_0, q0_1, rfl, hq0_0, hq0_1⟩ := opnApiValue hp0
 obtain ⟨q1_0, q1_1, rfl, hq1_0, hq1_1⟩ := opnApiValue hp1
 have hS := Step.r0 K0 s
 refine k_fn (rs := [6]) (args := [.agg #[.int .i64 a0.Kind, .int .i64 a0.Num, S a0.Text, q0_0, q0_1], .agg #[.int .i64 a1.Kind, .int .i64 a1.Num, S a1.Text, q1_0, q1_1], S a2]) Tryd.func3 rfl rfl rfl rfl ?_
 refine k_seq ?_
 refine k_region ?_
 refine k_box rfl rfl ?_
 intro s1 b1 st1 h1 ge1
 have szs1 := st1.size
 have hS := hS.trans0 st1
 replace hq0_0 := hq0_0.up2 st1
 replace hq0_1 := hq0_1.up2 st1
 replace hq1_0 := hq1_0.up2 st1
 replace hq1_1 := hq1_1.up2 st1
 replace tb0 := tb0.up2 st1
 replace tb1 := tb1.up2 st1
 replace tb2 := tb2.up2 st1
 have lt1 := h1.lt
 refine k_box rfl rfl ?_
 intro s2 b2 st2 h2 ge2
 have szs2 := st2.size
 have hS := hS.trans0 st2
 replace hq0_0 := hq0_0.up2 st2
 replace hq0_1 := hq0_1.up2 st2
 replace hq1_0 := hq1_0.up2 st2
 replace hq1_1 := hq1_1.up2 st2
 replace h1 := h1.up2 st2
 replace tb0 := tb0.up2 st2
 replace tb1 := tb1.up2 st2
 replace tb2 := tb2.up2 st2
 have lt2 := h2.lt
 refine k_assign rfl rfl ?_
 refine k_nil ?_
 refine k_keep [(2, _), (3, _), (4, _), (6, _)] ⟨rfl, rfl, rfl, rfl, trivial⟩ ?_
 refine k_seq ?_
 refine k_seq ?_
 refine k_region ?_
 refine k_load_blka (cs := [.int .i64 a0.Kind, .int .i64 a0.Num, S a0.Text, q0_0, q0_1]) agg25 rfl h1 rfl ?_
 obtain ⟨x1, hx1, h⟩ := ob h
 refine k_call cal4 rfl (law01_Long_w  (clsApiValue a0 hq0_0 hq0_1) hx1) rfl ?_
 rintro s3 vr3 st3 rfl
 have szs3 := st3.size
 have hS := hS.trans0 st3
 replace hq0_0 := hq0_0.up2 st3
 replace hq0_1 := hq0_1.up2 st3
 replace h1 := h1.up2 st3
 replace hq1_0 := hq1_0.up2 st3
 replace hq1_1 := hq1_1.up2 st3
 replace h2 := h2.up2 st3
 replace tb0 := tb0.up2 st3
 replace tb1 := tb1.up2 st3
 replace tb2 := tb2.up2 st3
 refine k_move rfl rfl ?_
 obtain ⟨x2, hx2, h⟩ := ob h
 have hE4 := Step.r0 K0 s3
 refine k_cutl (X := St) 3 [(2, S a2), (3, .pointer (some ⟨b1, 0, none⟩)), (4, .pointer (some ⟨b2, 0, none⟩)), (6, .bool false), (17, .agg #[.int .i64 a0.Kind, .int .i64 a0.Num, S a0.Text, q0_0, q0_1]), (18, .bool x1)] (fun _ => [(22, .bool x2)]) (fun sl wL => sl.w = wL ∧ Step K0 s3 sl) ?_ ?_
 ·
  refine k_again 19 rfl ?_
  refine k_splitb (fun c5 => ?_) (fun c5 => ?_)
  ·
   have hx2 := ibT hx2 c5
   refine k_no rfl rfl rfl rfl ?_
   refine k_no rfl rfl rfl rfl ?_
   refine k_pickT rfl rfl rfl rfl ?_
   exact k_met ⟨s3, ⟨(congrArg (fun b => some (Value.bool b)) (Option.some.inj hx2)), trivial⟩, ⟨rfl, rfl, rfl, rfl, rfl, rfl, trivial⟩, rfl, hE4⟩
  ·
   have hx2 := ibF hx2 c5
   refine k_yes rfl rfl ?_
   refine k_load_blka (cs := [.int .i64 a1.Kind, .int .i64 a1.Num, S a1.Text, q1_0, q1_1]) agg25 rfl h2 rfl ?_
   refine k_yes rfl rfl ?_
   obtain ⟨x3, hx3, hx2⟩ := ob hx2
   refine k_call cal4 rfl (law01_Long_w  (clsApiValue a1 hq1_0 hq1_1) hx3) rfl ?_
   rintro s6 vr6 st6 rfl
   have szs6 := st6.size
   have hS := hS.trans0 st6
   have hE4 := hE4.trans0 st6
   refine k_pickF rfl rfl rfl rfl ?_
   exact k_met ⟨s6, ⟨(congrArg (fun b => some (Value.bool b)) (Option.some.inj hx2)), trivial⟩, ⟨rfl, rfl, rfl, rfl, rfl, rfl, trivial⟩, rfl, hE4⟩
 ·
  rintro s7 wL ⟨rfl, hE4⟩
  have szs7 := hE4.size
  have hS := hS.trans0 hE4
  replace hq0_0 := hq0_0.up2 hE4
  replace hq0_1 := hq0_1.up2 hE4
  replace h1 := h1.up2 hE4
  replace hq1_0 := hq1_0.up2 hE4
  replace hq1_1 := hq1_1.up2 hE4
  replace h2 := h2.up2 hE4
  replace tb0 := tb0.up2 hE4
  replace tb1 := tb1.up2 hE4
  replace tb2 := tb2.up2 hE4
  refine k_move rfl rfl ?_
  have hE8 := Step.r0 K0 s7
  refine k_cutl (X := St) 4 [(2, S a2), (3, .pointer (some ⟨b1, 0, none⟩)), (4, .pointer (some ⟨b2, 0, none⟩)), (6, .bool false), (17, .agg #[.int .i64 a0.Kind, .int .i64 a0.Num, S a0.Text, q0_0, q0_1]), (18, .bool x1), (22, .bool x2)] (fun _ => [(27, .bool (decide ((x2 = true) ∨ (3000 < (a2.length : Int)))))]) (fun sl wL => sl.w = wL ∧ Step K0 s7 sl) ?_ ?_
  ·
   refine k_again 23 rfl ?_
   refine k_splitb (fun c9 => ?_) (fun c9 => ?_)
   ·
    refine k_no rfl rfl rfl rfl ?_
    refine k_no rfl rfl rfl rfl ?_
    refine k_no rfl rfl rfl rfl ?_
    refine k_pickT rfl rfl rfl rfl ?_
    exact k_met ⟨s7, ⟨(congrArg (fun b => some (Value.bool b)) (by first | exact decide_eq_decide.2 ⟨Or.inr, fun h => h.resolve_left c9⟩ | exact (decide_eq_true (Or.inl c9)).symm | (simp [c9]; done) | (simp [c9, i64] <;> omega))), trivial⟩, ⟨rfl, rfl, rfl, rfl, rfl, rfl, rfl, trivial⟩, rfl, hE8⟩
   ·
    refine k_yes rfl rfl ?_
    refine k_move rfl rfl ?_
    refine k_yes rfl rfl ?_
    refine k_len_str Tryd.underlying9 rfl rfl ?_
    refine k_yes rfl rfl ?_
    refine k_gtr rfl rfl rfl ?_
    refine k_pickF rfl rfl rfl rfl ?_
    exact k_met ⟨s7, ⟨(congrArg (fun b => some (Value.bool b)) (by first | exact decide_eq_decide.2 ⟨Or.inr, fun h => h.resolve_left c9⟩ | exact (decide_eq_true (Or.inl c9)).symm | (simp [c9]; done) | (simp [c9, i64] <;> omega))), trivial⟩, ⟨rfl, rfl, rfl, rfl, rfl, rfl, rfl, trivial⟩, rfl, hE8⟩
  ·
   rintro s10 wL ⟨rfl, hE8⟩
   have szs10 := hE8.size
   have hS := hS.trans0 hE8
   replace hq0_0 := hq0_0.up2 hE8
   replace hq0_1 := hq0_1.up2 hE8
   replace h1 := h1.up2 hE8
   replace hq1_0 := hq1_0.up2 hE8
   replace hq1_1 := hq1_1.up2 hE8
   replace h2 := h2.up2 hE8
   replace tb0 := tb0.up2 hE8
   replace tb1 := tb1.up2 hE8
   replace tb2 := tb2.up2 hE8
   refine k_nil ?_
   refine k_keep [(2, _), (3, _), (4, _), (6, _), (27, _)] ⟨rfl, rfl, rfl, rfl, rfl, trivial⟩ ?_
   refine k_cond_dec rfl (fun c11 => ?_) (fun c11 => ?_)
   ·
    have h := itT h c11
    refine k_seq ?_
    refine k_region ?_
    obtain ⟨x4, hx4, h⟩ := ob h
    refine k_call cal5 rfl (law01_awake_w  tb0 tb1 tb2 hx4) rfl ?_
    rintro s12 vr12 st12 rfl
    have szs12 := st12.size
    have hS := hS.trans0 st12
    refine k_assign rfl rfl ?_
    refine k_nil ?_
    refine k_keep [(2, _), (3, _), (4, _), (6, _)] ⟨rfl, rfl, rfl, rfl, trivial⟩ ?_
    refine k_ret ?_
    obtain rfl := Option.some.inj h
    refine ⟨_, rfl, Ret.mk hS ?_⟩
    exact rfl
   ·
    have h := itF h c11
    refine k_skip ?_
    refine k_seq ?_
    refine k_region ?_
    refine k_load_blka (cs := [.int .i64 a0.Kind, .int .i64 a0.Num, S a0.Text, q0_0, q0_1]) agg25 rfl h1 rfl ?_
    obtain ⟨x5, hx5, h⟩ := ob h
    refine k_call cal6 rfl (value_Print_w  (clsApiValue a0 hq0_0 hq0_1) tb2 hx5) rfl ?_
    rintro s13 vr13 st13 rfl
    have szs13 := st13.size
    have hS := hS.trans0 st13
    replace hq0_0 := hq0_0.up2 st13
    replace hq0_1 := hq0_1.up2 st13
    replace h1 := h1.up2 st13
    replace hq1_0 := hq1_0.up2 st13
    replace hq1_1 := hq1_1.up2 st13
    replace h2 := h2.up2 st13
    replace tb0 := tb0.up2 st13
    replace tb1 := tb1.up2 st13
    replace tb2 := tb2.up2 st13
    refine k_move rfl rfl ?_
    refine k_extract rfl rfl rfl ?_
    refine k_extract rfl rfl rfl ?_
    refine k_assign rfl rfl ?_
    refine k_assign rfl rfl ?_
    refine k_nil ?_
    refine k_keep [(2, _), (3, _), (4, _), (6, _), (7, _), (8, _)] ⟨rfl, rfl, rfl, rfl, rfl, rfl, trivial⟩ ?_
    refine k_seq ?_
    refine k_region ?_
    refine k_load_blka (cs := [.int .i64 a1.Kind, .int .i64 a1.Num, S a1.Text, q1_0, q1_1]) agg25 rfl h2 rfl ?_
    obtain ⟨x6, hx6, h⟩ := ob h
    refine k_call cal6 rfl (value_Print_w  (clsApiValue a1 hq1_0 hq1_1) tb2 hx6) rfl ?_
    rintro s14 vr14 st14 rfl
    have szs14 := st14.size
    have hS := hS.trans0 st14
    replace hq1_0 := hq1_0.up2 st14
    replace hq1_1 := hq1_1.up2 st14
    replace hq0_0 := hq0_0.up2 st14
    replace hq0_1 := hq0_1.up2 st14
    replace h1 := h1.up2 st14
    replace h2 := h2.up2 st14
    replace tb0 := tb0.up2 st14
    replace tb1 := tb1.up2 st14
    replace tb2 := tb2.up2 st14
    refine k_move rfl rfl ?_
    refine k_extract rfl rfl rfl ?_
    refine k_extract rfl rfl rfl ?_
    refine k_assign rfl rfl ?_
    refine k_assign rfl rfl ?_
    refine k_nil ?_
    refine k_keep [(2, _), (3, _), (4, _), (6, _), (7, _), (8, _), (9, _), (10, _)] ⟨rfl, rfl, rfl, rfl, rfl, rfl, rfl, rfl, trivial⟩ ?_
    refine k_seq ?_
    obtain ⟨kj7, hK15, h⟩ := jn_out h
    have hE15 := Step.r0 K0 s14
    refine k_cutc (X := St) [(2, S a2), (6, .bool false)] (fun (xL : St) => match xL with | sl => []) (fun (xL : St) (wL : World) => match xL with | sl => sl.w = wL ∧ Step K0 s14 sl ∧ kj7 () = some r) ?_ ?_
    ·
     refine k_seq ?_
     refine k_region ?_
     refine k_move rfl rfl ?_
     refine k_eql rfl rfl rfl ?_
     refine k_nil ?_
     refine k_keep [(2, _), (3, _), (4, _), (6, _), (7, _), (9, _), (10, _), (40, _)] ⟨rfl, rfl, rfl, rfl, rfl, rfl, rfl, rfl, trivial⟩ ?_
     refine k_cond_dec rfl (fun c16 => ?_) (fun c16 => ?_)
     ·
      have h := itT h c16
      refine k_seq ?_
      refine k_region ?_
      refine k_move rfl rfl ?_
      obtain ⟨x8, hx8, h⟩ := ob h
      refine k_call cal7 rfl (value_Parse_w  tb0 tb1 tb2 hx8) rfl ?_
      rintro s17 vr17 st17 ⟨cs17_0, rfl, h17_0⟩
      have szs17 := st17.size
      have hS := hS.trans0 st17
      have hE15 := hE15.trans0 st17
      replace hq0_0 := hq0_0.up2 st17
      replace hq0_1 := hq0_1.up2 st17
      replace h1 := h1.up2 st17
      replace hq1_0 := hq1_0.up2 st17
      replace hq1_1 := hq1_1.up2 st17
      replace h2 := h2.up2 st17
      obtain ⟨q17_0_0, q17_0_1, rfl, hq17_0_0, hq17_0_1⟩ := opnApiValue h17_0
      refine k_move rfl rfl ?_
      refine k_extract rfl rfl rfl ?_
      refine k_extract rfl rfl rfl ?_
      refine k_alloc zero25 rfl ?_
      intro s18 b18 st18 h18 ge18
      have szs18 := st18.size
      have hS := hS.trans0 st18
      have hE15 := hE15.trans0 st18
      replace hq17_0_0 := hq17_0_0.up2 st18
      replace hq17_0_1 := hq17_0_1.up2 st18
      replace hq0_0 := hq0_0.up2 st18
      replace hq0_1 := hq0_1.up2 st18
      replace h1 := h1.up2 st18
      replace hq1_0 := hq1_0.up2 st18
      replace hq1_1 := hq1_1.up2 st18
      replace h2 := h2.up2 st18
      have lt18 := h18.lt
      refine k_store_c (cs' := [.int .i64 x8.1.Kind, .int .i64 x8.1.Num, S x8.1.Text, q17_0_0, q17_0_1]) size25 rfl rfl h18 (by first | (simp; done) | omega | (dsimp only; omega)) (CellsOf.lit (vs := [.int .i64 x8.1.Kind, .int .i64 x8.1.Num, S x8.1.Text, q17_0_0, q17_0_1]) rfl (ones.cons rfl (ones.cons rfl (ones.cons rfl (ones.cons ((SL.of_R hq17_0_0)).one1 (ones.cons ((SL.of_R hq17_0_1)).one1 ones.nil)))))) rfl (by first | rfl | (simp; done) | (simp; omega)) rfl ?_
      intro s19 st19 h18
      have szs19 := st19.size
      have hS := hS.c0 st19
      have hE15 := hE15.c0 st19
      replace hq17_0_0 := hq17_0_0.up2 st19
      replace hq17_0_1 := hq17_0_1.up2 st19
      replace hq0_0 := hq0_0.up2 st19
      replace hq0_1 := hq0_1.up2 st19
      replace h1 := h1.up2 st19
      replace hq1_0 := hq1_0.up2 st19
      replace hq1_1 := hq1_1.up2 st19
      replace h2 := h2.up2 st19
      refine k_assign rfl rfl ?_
      refine k_nil ?_
      refine k_keep [(2, _), (3, _), (4, _), (6, _), (7, _), (9, _), (10, _), (11, _), (12, _)] ⟨rfl, rfl, rfl, rfl, rfl, rfl, rfl, rfl, rfl, trivial⟩ ?_
      refine k_seq ?_
      refine k_region ?_
      refine k_move rfl rfl ?_
      refine k_neq rfl rfl rfl ?_
      refine k_move rfl rfl ?_
      obtain ⟨x9, hx9, h⟩ := ob h
      have hE20 := Step.r0 K0 s19
      refine k_cutl (X := St) 5 [(2, S a2), (3, .pointer (some ⟨b1, 0, none⟩)), (4, .pointer (some ⟨b2, 0, none⟩)), (6, .bool false), (7, S x5.1), (9, S x6.1), (10, .int .i64 x6.2), (11, .pointer (some ⟨b18, 0, none⟩)), (12, .int .i64 x8.2), (46, .int .i64 x8.2), (47, .bool (decide (x8.2 ≠ 0)))] (fun _ => [(53, .bool x9)]) (fun sl wL => sl.w = wL ∧ Step K0 s19 sl) ?_ ?_
      ·
       refine k_again 48 rfl ?_
       refine k_split (fun c21 => ?_) (fun c21 => ?_)
       ·
        have hx9 := itT hx9 c21
        refine k_no rfl rfl rfl rfl ?_
        refine k_no rfl rfl rfl rfl ?_
        refine k_no rfl rfl rfl rfl ?_
        refine k_no rfl rfl rfl rfl ?_
        refine k_pickT rfl rfl rfl rfl ?_
        exact k_met ⟨s19, ⟨(congrArg (fun b => some (Value.bool b)) (Option.some.inj hx9)), trivial⟩, ⟨rfl, rfl, rfl, rfl, rfl, rfl, rfl, rfl, rfl, rfl, rfl, trivial⟩, rfl, hE20⟩
       ·
        have hx9 := itF hx9 c21
        refine k_yes rfl rfl ?_
        refine k_load_blka (cs := [.int .i64 x8.1.Kind, .int .i64 x8.1.Num, S x8.1.Text, q17_0_0, q17_0_1]) agg25 rfl h18 rfl ?_
        refine k_yes rfl rfl ?_
        refine k_load_blka (cs := [.int .i64 a0.Kind, .int .i64 a0.Num, S a0.Text, q0_0, q0_1]) agg25 rfl h1 rfl ?_
        refine k_yes rfl rfl ?_
        obtain ⟨x10, hx10, hx9⟩ := ob hx9
        refine k_call cal8 rfl (ref01_Same_w  (clsApiValue x8.1 hq17_0_0 hq17_0_1) (clsApiValue a0 hq0_0 hq0_1) hx10) rfl ?_
        rintro s22 vr22 st22 rfl
        have szs22 := st22.size
        have hS := hS.trans0 st22
        have hE15 := hE15.trans0 st22
        have hE20 := hE20.trans0 st22
        refine k_yes rfl rfl ?_
        refine k_not rfl rfl ?_
        refine k_pickF rfl rfl rfl rfl ?_
        exact k_met ⟨s22, ⟨(congrArg (fun b => some (Value.bool b)) (Option.some.inj hx9)), trivial⟩, ⟨rfl, rfl, rfl, rfl, rfl, rfl, rfl, rfl, rfl, rfl, rfl, trivial⟩, rfl, hE20⟩
      ·
       rintro s23 wL ⟨rfl, hE20⟩
       have szs23 := hE20.size
       have hS := hS.trans0 hE20
       have hE15 := hE15.trans0 hE20
       replace hq0_0 := hq0_0.up2 hE20
       replace hq0_1 := hq0_1.up2 hE20
       replace h1 := h1.up2 hE20
       replace hq1_0 := hq1_0.up2 hE20
       replace hq1_1 := hq1_1.up2 hE20
       replace h2 := h2.up2 hE20
       refine k_move rfl rfl ?_
       obtain ⟨x11, hx11, h⟩ := ob h
       have hE24 := Step.r0 K0 s23
       refine k_cutl (X := St) 12 [(2, S a2), (3, .pointer (some ⟨b1, 0, none⟩)), (4, .pointer (some ⟨b2, 0, none⟩)), (6, .bool false), (7, S x5.1), (9, S x6.1), (10, .int .i64 x6.2), (11, .pointer (some ⟨b18, 0, none⟩)), (12, .int .i64 x8.2), (46, .int .i64 x8.2), (47, .bool (decide (x8.2 ≠ 0))), (53, .bool x9)] (fun _ => [(66, .bool x11)]) (fun sl wL => sl.w = wL ∧ Step K0 s23 sl) ?_ ?_
       ·
        refine k_again 54 rfl ?_
        refine k_splitb (fun c25 => ?_) (fun c25 => ?_)
        ·
         have hx11 := ibT hx11 c25
         refine k_no rfl rfl rfl rfl ?_
         refine k_no rfl rfl rfl rfl ?_
         refine k_no rfl rfl rfl rfl ?_
         refine k_nou rfl rfl rfl rfl ?_
         refine k_nou rfl rfl rfl rfl ?_
         refine k_nou rfl rfl rfl rfl ?_
         refine k_nou rfl rfl rfl rfl ?_
         refine k_nou rfl rfl rfl rfl ?_
         refine k_nou rfl rfl rfl rfl ?_
         refine k_nou rfl rfl rfl rfl ?_
         refine k_no rfl rfl rfl rfl ?_
         refine k_pickT rfl rfl rfl rfl ?_
         exact k_met ⟨s23, ⟨(congrArg (fun b => some (Value.bool b)) (Option.some.inj hx11)), trivial⟩, ⟨rfl, rfl, rfl, rfl, rfl, rfl, rfl, rfl, rfl, rfl, rfl, rfl, trivial⟩, rfl, hE24⟩
        ·
         have hx11 := ibF hx11 c25
         refine k_yes rfl rfl ?_
         refine k_move rfl rfl ?_
         refine k_yes rfl rfl ?_
         refine k_eql rfl rfl rfl ?_
         refine k_yes rfl rfl ?_
         refine k_move rfl rfl ?_
         obtain ⟨x12, hx12, hx11⟩ := ob hx11
         have hE26 := Step.r0 K0 s23
         refine k_cutl (X := St) 8 [(2, S a2), (3, .pointer (some ⟨b1, 0, none⟩)), (4, .pointer (some ⟨b2, 0, none⟩)), (6, .bool false), (7, S x5.1), (9, S x6.1), (10, .int .i64 x6.2), (11, .pointer (some ⟨b18, 0, none⟩)), (12, .int .i64 x8.2), (46, .int .i64 x8.2), (47, .bool (decide (x8.2 ≠ 0))), (53, .bool x9), (54, .bool false), (55, .int .i64 x6.2), (56, .bool (decide (x6.2 = 0)))] (fun _ => [(65, .bool x12)]) (fun sl wL => sl.w = wL ∧ Step K0 s23 sl) ?_ ?_
         ·
          refine k_again 57 rfl ?_
          refine k_split (fun c27 => ?_) (fun c27 => ?_)
          ·
           have hx12 := itT hx12 c27
           refine k_yes rfl rfl ?_
           refine k_move rfl rfl ?_
           refine k_yes rfl rfl ?_
           refine k_move rfl rfl ?_
           refine k_yes rfl rfl ?_
           refine k_eql_str rfl rfl rfl ?_
           refine k_yes rfl rfl ?_
           refine k_load_blka (cs := [.int .i64 a0.Kind, .int .i64 a0.Num, S a0.Text, q0_0, q0_1]) agg25 rfl h1 rfl ?_
           refine k_yes rfl rfl ?_
           refine k_load_blka (cs := [.int .i64 a1.Kind, .int .i64 a1.Num, S a1.Text, q1_0, q1_1]) agg25 rfl h2 rfl ?_
           refine k_yes rfl rfl ?_
           obtain ⟨x13, hx13, hx12⟩ := ob hx12
           refine k_call cal8 rfl (ref01_Same_w  (clsApiValue a0 hq0_0 hq0_1) (clsApiValue a1 hq1_0 hq1_1) hx13) rfl ?_
           rintro s28 vr28 st28 rfl
           have szs28 := st28.size
           have hS := hS.trans0 st28
           have hE15 := hE15.trans0 st28
           have hE24 := hE24.trans0 st28
           have hE26 := hE26.trans0 st28
           refine k_yes rfl rfl ?_
           refine k_neqb Tryd.underlying4 rfl rfl rfl ?_
           refine k_yes rfl rfl ?_
           refine k_pickT rfl rfl rfl rfl ?_
           exact k_met ⟨s28, ⟨(congrArg (fun b => some (Value.bool b)) (Option.some.inj hx12)), trivial⟩, ⟨rfl, rfl, rfl, rfl, rfl, rfl, rfl, rfl, rfl, rfl, rfl, rfl, rfl, rfl, rfl, trivial⟩, rfl, hE26⟩
          ·
           have hx12 := itF hx12 c27
           refine k_no rfl rfl rfl rfl ?_
           refine k_no rfl rfl rfl rfl ?_
           refine k_no rfl rfl rfl rfl ?_
           refine k_no rfl rfl rfl rfl ?_
           refine k_no rfl rfl rfl rfl ?_
           refine k_no rfl rfl rfl rfl ?_
           refine k_no rfl rfl rfl rfl ?_
           refine k_yes rfl rfl ?_
           refine k_pickF rfl rfl rfl rfl ?_
           exact k_met ⟨s23, ⟨(congrArg (fun b => some (Value.bool b)) (Option.some.inj hx12)), trivial⟩, ⟨rfl, rfl, rfl, rfl, rfl, rfl, rfl, rfl, rfl, rfl, rfl, rfl, rfl, rfl, rfl, trivial⟩, rfl, hE26⟩
         ·
          rintro s29 wL ⟨rfl, hE26⟩
          have szs29 := hE26.size
          have hS := hS.trans0 hE26
          have hE15 := hE15.trans0 hE26
          have hE24 := hE24.trans0 hE26
          refine k_pickF rfl rfl rfl rfl ?_
          exact k_met ⟨s29, ⟨(congrArg (fun b => some (Value.bool b)) (Option.some.inj hx11)), trivial⟩, ⟨rfl, rfl, rfl, rfl, rfl, rfl, rfl, rfl, rfl, rfl, rfl, rfl, trivial⟩, rfl, hE24⟩
       ·
        rintro s30 wL ⟨rfl, hE24⟩
        have szs30 := hE24.size
        have hS := hS.trans0 hE24
        have hE15 := hE15.trans0 hE24
        refine k_nil ?_
        refine k_keep [(2, _), (6, _), (66, _)] ⟨rfl, rfl, rfl, trivial⟩ ?_
        refine k_cond rfl (fun c31 => ?_) (fun c31 => ?_)
        ·
         have h := ibT h c31
         refine k_seq ?_
         refine k_region ?_
         refine k_assign rfl rfl ?_
         refine k_nil ?_
         refine k_keep [(2, _), (6, _)] ⟨rfl, rfl, trivial⟩ ?_
         refine k_ret ?_
         obtain rfl := Option.some.inj h
         refine ⟨_, rfl, Ret.mk hS ?_⟩
         exact rfl
        ·
         have h := ibF h c31
         refine k_skip ?_
         exact k_stop ⟨s30, trivial, ⟨rfl, rfl, trivial⟩, ⟨rfl, hE15, h⟩⟩
     ·
      have h := itF h c16
      refine k_skip ?_
      exact k_stop ⟨s14, trivial, ⟨rfl, rfl, trivial⟩, ⟨rfl, hE15, h⟩⟩
    ·
     rintro s32 wL ⟨rfl, hE15, h⟩
     rw [hK15] at h
     have szs32 := hE15.size
     have hS := hS.trans0 hE15
     replace tb0 := tb0.up2 hE15
     replace tb1 := tb1.up2 hE15
     replace tb2 := tb2.up2 hE15
     refine k_seq ?_
     refine k_region ?_
     refine k_move rfl rfl ?_
     obtain ⟨x14, hx14, h⟩ := ob h
     refine k_call cal7 rfl (value_Parse_w  tb0 tb1 tb2 hx14) rfl ?_
     rintro s33 vr33 st33 ⟨cs33_0, rfl, h33_0⟩
     have szs33 := st33.size
     have hS := hS.trans0 st33
     replace tb0 := tb0.up2 st33
     replace tb1 := tb1.up2 st33
     replace tb2 := tb2.up2 st33
     obtain ⟨q33_0_0, q33_0_1, rfl, hq33_0_0, hq33_0_1⟩ := opnApiValue h33_0
     refine k_move rfl rfl ?_
     refine k_extract rfl rfl rfl ?_
     refine k_extract rfl rfl rfl ?_
     refine k_alloc zero25 rfl ?_
     intro s34 b34 st34 h34 ge34
     have szs34 := st34.size
     have hS := hS.trans0 st34
     replace hq33_0_0 := hq33_0_0.up2 st34
     replace hq33_0_1 := hq33_0_1.up2 st34
     replace tb0 := tb0.up2 st34
     replace tb1 := tb1.up2 st34
     replace tb2 := tb2.up2 st34
     have lt34 := h34.lt
     refine k_store_c (cs' := [.int .i64 x14.1.Kind, .int .i64 x14.1.Num, S x14.1.Text, q33_0_0, q33_0_1]) size25 rfl rfl h34 (by first | (simp; done) | omega | (dsimp only; omega)) (CellsOf.lit (vs := [.int .i64 x14.1.Kind, .int .i64 x14.1.Num, S x14.1.Text, q33_0_0, q33_0_1]) rfl (ones.cons rfl (ones.cons rfl (ones.cons rfl (ones.cons ((SL.of_R hq33_0_0)).one1 (ones.cons ((SL.of_R hq33_0_1)).one1 ones.nil)))))) rfl (by first | rfl | (simp; done) | (simp; omega)) rfl ?_
     intro s35 st35 h34
     have szs35 := st35.size
     have hS := hS.c0 st35
     replace hq33_0_0 := hq33_0_0.up2 st35
     replace hq33_0_1 := hq33_0_1.up2 st35
     replace tb0 := tb0.up2 st35
     replace tb1 := tb1.up2 st35
     replace tb2 := tb2.up2 st35
     refine k_assign rfl rfl ?_
     refine k_nil ?_
     refine k_keep [(2, _), (6, _), (13, _), (14, _)] ⟨rfl, rfl, rfl, rfl, trivial⟩ ?_
     refine k_seq ?_
     refine k_seq ?_
     refine k_region ?_
     refine k_move rfl rfl ?_
     refine k_neq rfl rfl rfl ?_
     refine k_nil ?_
     refine k_keep [(2, _), (6, _), (13, _), (73, _)] ⟨rfl, rfl, rfl, rfl, trivial⟩ ?_
     refine k_cond_dec rfl (fun c36 => ?_) (fun c36 => ?_)
     ·
      have h := itT h c36
      refine k_seq ?_
      refine k_region ?_
      obtain ⟨x15, hx15, h⟩ := ob h
      refine k_call cal5 rfl (law01_awake_w  tb0 tb1 tb2 hx15) rfl ?_
      rintro s37 vr37 st37 rfl
      have szs37 := st37.size
      have hS := hS.trans0 st37
      refine k_assign rfl rfl ?_
      refine k_nil ?_
      refine k_keep [(2, _), (6, _), (13, _)] ⟨rfl, rfl, rfl, trivial⟩ ?_
      refine k_ret ?_
      obtain rfl := Option.some.inj h
      refine ⟨_, rfl, Ret.mk hS ?_⟩
      exact rfl
     ·
      have h := itF h c36
      refine k_skip ?_
      refine k_seq ?_
      refine k_region ?_
      refine k_load_blka (cs := [.int .i64 x14.1.Kind, .int .i64 x14.1.Num, S x14.1.Text, q33_0_0, q33_0_1]) agg25 rfl h34 rfl ?_
      obtain ⟨x16, hx16, h⟩ := ob h
      refine k_call cal6 rfl (value_Print_w  (clsApiValue x14.1 hq33_0_0 hq33_0_1) tb2 hx16) rfl ?_
      rintro s38 vr38 st38 rfl
      have szs38 := st38.size
      have hS := hS.trans0 st38
      replace hq33_0_0 := hq33_0_0.up2 st38
      replace hq33_0_1 := hq33_0_1.up2 st38
      replace h34 := h34.up2 st38
      replace tb0 := tb0.up2 st38
      replace tb1 := tb1.up2 st38
      replace tb2 := tb2.up2 st38
      refine k_move rfl rfl ?_
      refine k_extract rfl rfl rfl ?_
      refine k_extract rfl rfl rfl ?_
      refine k_assign rfl rfl ?_
      refine k_assign rfl rfl ?_
      refine k_nil ?_
      refine k_keep [(2, _), (6, _), (13, _), (15, _), (16, _)] ⟨rfl, rfl, rfl, rfl, rfl, trivial⟩ ?_
      refine k_seq ?_
      refine k_region ?_
      refine k_move rfl rfl ?_
      refine k_eql rfl rfl rfl ?_
      refine k_move rfl rfl ?_
      have hE39 := Step.r0 K0 s38
      refine k_cutl (X := St) 4 [(2, S a2), (6, .bool false), (13, .pointer (some ⟨b34, 0, none⟩)), (15, S x16.1), (16, .int .i64 x16.2), (80, .int .i64 x16.2), (81, .bool (decide (x16.2 = 0)))] (fun _ => [(86, .bool (decide ((x16.2 = 0) ∧ (x16.1 = a2))))]) (fun sl wL => sl.w = wL ∧ Step K0 s38 sl) ?_ ?_
      ·
       refine k_again 82 rfl ?_
       refine k_split (fun c40 => ?_) (fun c40 => ?_)
       ·
        refine k_yes rfl rfl ?_
        refine k_move rfl rfl ?_
        refine k_yes rfl rfl ?_
        refine k_move rfl rfl ?_
        refine k_yes rfl rfl ?_
        refine k_eql_str rfl rfl rfl ?_
        refine k_pickT rfl rfl rfl rfl ?_
        exact k_met ⟨s38, ⟨(congrArg (fun b => some (Value.bool b)) (by first | exact decide_eq_decide.2 ⟨fun h => ⟨c40, h⟩, fun h => h.2⟩ | exact (decide_eq_false (fun h => c40 h.1)).symm | (simp [c40]; done) | (simp [c40, i64] <;> omega))), trivial⟩, ⟨rfl, rfl, rfl, rfl, rfl, rfl, rfl, trivial⟩, rfl, hE39⟩
       ·
        refine k_no rfl rfl rfl rfl ?_
        refine k_no rfl rfl rfl rfl ?_
        refine k_no rfl rfl rfl rfl ?_
        refine k_pickF rfl rfl rfl rfl ?_
        exact k_met ⟨s38, ⟨(congrArg (fun b => some (Value.bool b)) (by first | exact decide_eq_decide.2 ⟨fun h => ⟨c40, h⟩, fun h => h.2⟩ | exact (decide_eq_false (fun h => c40 h.1)).symm | (simp [c40]; done) | (simp [c40, i64] <;> omega))), trivial⟩, ⟨rfl, rfl, rfl, rfl, rfl, rfl, rfl, trivial⟩, rfl, hE39⟩
      ·
       rintro s41 wL ⟨rfl, hE39⟩
       have szs41 := hE39.size
       have hS := hS.trans0 hE39
       replace hq33_0_0 := hq33_0_0.up2 hE39
       replace hq33_0_1 := hq33_0_1.up2 hE39
       replace h34 := h34.up2 hE39
       replace tb0 := tb0.up2 hE39
       replace tb1 := tb1.up2 hE39
       replace tb2 := tb2.up2 hE39
       refine k_move rfl rfl ?_
       obtain ⟨x17, hx17, h⟩ := ob h
       have hE42 := Step.r0 K0 s41
       refine k_cutl (X := St) 3 [(2, S a2), (6, .bool false), (13, .pointer (some ⟨b34, 0, none⟩)), (15, S x16.1), (16, .int .i64 x16.2), (80, .int .i64 x16.2), (81, .bool (decide (x16.2 = 0))), (86, .bool (decide ((x16.2 = 0) ∧ (x16.1 = a2))))] (fun _ => [(90, .bool x17)]) (fun sl wL => sl.w = wL ∧ Step K0 s41 sl) ?_ ?_
       ·
        refine k_again 87 rfl ?_
        refine k_split (fun c43 => ?_) (fun c43 => ?_)
        ·
         have hx17 := itT hx17 c43
         refine k_yes rfl rfl ?_
         refine k_load_blka (cs := [.int .i64 x14.1.Kind, .int .i64 x14.1.Num, S x14.1.Text, q33_0_0, q33_0_1]) agg25 rfl h34 rfl ?_
         refine k_yes rfl rfl ?_
         obtain ⟨x18, hx18, hx17⟩ := ob hx17
         refine k_call cal9 rfl (value_May_w  (clsApiValue x14.1 hq33_0_0 hq33_0_1) tb2 hx18) rfl ?_
         rintro s44 vr44 st44 rfl
         have szs44 := st44.size
         have hS := hS.trans0 st44
         have hE42 := hE42.trans0 st44
         refine k_pickT rfl rfl rfl rfl ?_
         exact k_met ⟨s44, ⟨(congrArg (fun b => some (Value.bool b)) (Option.some.inj hx17)), trivial⟩, ⟨rfl, rfl, rfl, rfl, rfl, rfl, rfl, rfl, trivial⟩, rfl, hE42⟩
        ·
         have hx17 := itF hx17 c43
         refine k_no rfl rfl rfl rfl ?_
         refine k_no rfl rfl rfl rfl ?_
         refine k_pickF rfl rfl rfl rfl ?_
         exact k_met ⟨s41, ⟨(congrArg (fun b => some (Value.bool b)) (Option.some.inj hx17)), trivial⟩, ⟨rfl, rfl, rfl, rfl, rfl, rfl, rfl, rfl, trivial⟩, rfl, hE42⟩
       ·
        rintro s45 wL ⟨rfl, hE42⟩
        have szs45 := hE42.size
        have hS := hS.trans0 hE42
        replace tb0 := tb0.up2 hE42
        replace tb1 := tb1.up2 hE42
        replace tb2 := tb2.up2 hE42
        refine k_move rfl rfl ?_
        obtain ⟨x19, hx19, h⟩ := ob h
        have hE46 := Step.r0 K0 s45
        refine k_cutl (X := St) 2 [(2, S a2), (6, .bool false), (13, .pointer (some ⟨b34, 0, none⟩)), (15, S x16.1), (16, .int .i64 x16.2), (80, .int .i64 x16.2), (81, .bool (decide (x16.2 = 0))), (86, .bool (decide ((x16.2 = 0) ∧ (x16.1 = a2)))), (90, .bool x17)] (fun _ => [(93, .bool x19)]) (fun sl wL => sl.w = wL ∧ Step K0 s45 sl) ?_ ?_
        ·
         refine k_again 91 rfl ?_
         refine k_splitb (fun c47 => ?_) (fun c47 => ?_)
         ·
          have hx19 := ibT hx19 c47
          refine k_yes rfl rfl ?_
          obtain ⟨x20, hx20, hx19⟩ := ob hx19
          refine k_call cal5 rfl (law01_awake_w  tb0 tb1 tb2 hx20) rfl ?_
          rintro s48 vr48 st48 rfl
          have szs48 := st48.size
          have hS := hS.trans0 st48
          have hE46 := hE46.trans0 st48
          refine k_pickT rfl rfl rfl rfl ?_
          exact k_met ⟨s48, ⟨(congrArg (fun b => some (Value.bool b)) (Option.some.inj hx19)), trivial⟩, ⟨rfl, rfl, rfl, rfl, rfl, rfl, rfl, rfl, rfl, trivial⟩, rfl, hE46⟩
         ·
          have hx19 := ibF hx19 c47
          refine k_no rfl rfl rfl rfl ?_
          refine k_pickF rfl rfl rfl rfl ?_
          exact k_met ⟨s45, ⟨(congrArg (fun b => some (Value.bool b)) (Option.some.inj hx19)), trivial⟩, ⟨rfl, rfl, rfl, rfl, rfl, rfl, rfl, rfl, rfl, trivial⟩, rfl, hE46⟩
        ·
         rintro s49 wL ⟨rfl, hE46⟩
         have szs49 := hE46.size
         have hS := hS.trans0 hE46
         refine k_assign rfl rfl ?_
         refine k_nil ?_
         refine k_keep [(6, _)] ⟨rfl, trivial⟩ ?_
         refine k_ret ?_
         obtain rfl := Option.some.inj h
         refine ⟨_, rfl, Ret.mk hS ?_⟩
         exact rfl
end Go.Proofs
