import Derived.Test.YtdofbkomeadjgaaGreatDoorW06ZRevMake2
set_option linter.unusedSimpArgs false
set_option linter.unusedVariables false
set_option maxHeartbeats 20000000
set_option maxRecDepth 100000
namespace Go.Proofs
open Go.Fw hiding Own k_append k_append_nil k_append_str k_append_str_nil k_bslice2 k_cut_row0 Elt jBe jBn k_makeI2
open Go.FwT
theorem ref01_digits_w {s : St} {a0 : Int} {r : (List UInt8)}  (h : ref01_digits a0 = some r) : Calls Tryz.prog 33 #[.int .i64 a0] s.w (Ret s K0 (fun s1 v => v = S r)) := by
 unfold ref01_digits at h
 have hS := Step.r0 K0 s
 refine k_fn (rs := [2]) (args := [.int .i64 a0]) Tryz.func33 rfl rfl rfl rfl (jAg (jAa (jAd rfl rfl (jAi (jAg (jAa (jAc rfl rfl (jBw rfl rfl rfl (jAd rfl rfl (jAi (jAh [(0, _), (2, _), (3, _)] ⟨rfl, rfl, rfl, trivial⟩ (jAg (jAa (jAd rfl rfl (jAi (jAg ?_))))))))))))))))
 obtain ⟨kj1, hK1, h⟩ := jn_out h
 have hE1 := Step.r0 K0 s
 refine jBp (X := St × (List UInt8)) [(2, S ([] : List UInt8)), (3, .bool (decide (a0 < 0)))] (fun (xL : St × (List UInt8)) => match xL with | (sl, x2) => [(4, S x2)]) (fun (xL : St × (List UInt8)) (wL : World) => match xL with | (sl, x2) => sl.w = wL ∧ Step K0 s sl ∧ kj1 x2 = some r) ?_ ?_
 ·
  refine jAw (jBr (X := St × Int × (List UInt8) × Nat) [(2, _), (3, _)] (fun (xL : St × Int × (List UInt8) × Nat) => match xL with | (sl, x3, x4, j) => [(0, .int .i64 x3), (4, S x4)]) (fun (xL : St × Int × (List UInt8) × Nat) (wL : World) => match xL with | (sl, x3, x4, j) => sl.w = wL ∧ Step K0 s sl ∧ ref01_digits_l1 kj1 j x3 x4 = some r) (fun (xL : St × Int × (List UInt8) × Nat) => match xL with | (sl, x3, x4, j) => j) (s, a0, ([] : List UInt8), FU) ⟨rfl, rfl, trivial⟩ ⟨lr, lr, trivial⟩ ⟨rfl, (Step.refl _).of0 li, h⟩ ?_)
  rintro ⟨s3, x3, x4, j⟩ wL ⟨rfl, hE2, h⟩
  cases j with
  | zero => rw [ref01_digits_l1] at h; exact (noneNe h).elim
  | succ j =>
  rw [ref01_digits_l1] at h
  have := hE2.size
  have hS := hS.trans0 hE2
  have hE1 := hE1.trans0 hE2
  refine jAw (jAg (jAa (jAc rfl rfl (k_rem rfl rfl (by decide) rfl (jAd rfl rfl (jAi (jAh [(0, _), (2, _), (3, _), (4, _), (5, _)] ⟨rfl, rfl, rfl, rfl, rfl, trivial⟩ (jAg ?_))))))))
  obtain ⟨kj5, hK4, h⟩ := jn_out h
  have hE4 := Step.r0 K0 s3
  refine jBp (X := St × Int) [(0, .int .i64 x3), (2, S ([] : List UInt8)), (3, .bool (decide (a0 < 0))), (4, S x4)] (fun (xL : St × Int) => match xL with | (sl, x6) => [(5, .int .i64 x6)]) (fun (xL : St × Int) (wL : World) => match xL with | (sl, x6) => sl.w = wL ∧ Step K0 s3 sl ∧ kj5 x6 = some r) ?_ ?_
  ·
   refine jAg (jAa (jAc rfl rfl (jBw rfl rfl rfl (jAi (jAh [(0, _), (2, _), (3, _), (4, _), (5, _), (11, _)] ⟨rfl, rfl, rfl, rfl, rfl, rfl, trivial⟩ (jAl rfl (fun c5 => ?_) (fun c5 => ?_)))))))
   ·
    have h := itT h c5
    exact jAa (jAc rfl rfl (k_neg rfl rfl (jAd rfl rfl (jAi (jAu ⟨(s3, i64 (0 - (x3.tmod 10))), ⟨lr, trivial⟩, ⟨rfl, rfl, rfl, rfl, trivial⟩, ⟨rfl, hE4, h⟩⟩)))))
   have h := itF h c5
   exact jAv (jAu ⟨(s3, x3.tmod 10), ⟨lr, trivial⟩, ⟨rfl, rfl, rfl, rfl, trivial⟩, ⟨rfl, hE4, h⟩⟩)
  rintro ⟨s6, x6⟩ wL ⟨rfl, hE4, h⟩
  rw [hK4] at h
  have := hE4.size
  have hS := hS.trans0 hE4
  have hE1 := hE1.trans0 hE4
  have hE2 := hE2.trans0 hE4
  refine jAg (jAa (jAc rfl rfl (jBo rfl rfl rfl (jBz (p := i64 (48 + x6)) Tryz.underlying2 Tryz.underlying5 rfl rfl (k_as (congrArg (Value.int .u8) (w8 _)) (k_bslice2 (ds := ([ofI8 (i64 (48 + x6))] : List UInt8).map bD) slc43 rfl (RVs.cons (R.val rfl) RVs.nil) (by rfl) (by rfl) rfl rfl ?_))))))
  intro s7 v7 b7 st7 ge7 bl7 h7
  have := st7.size
  have hS := hS.trans0 st7
  have hE1 := hE1.trans0 st7
  have hE2 := hE2.trans0 st7
  have lt7 := Own.le1 h7
  refine k_bts (m := ([ofI8 (i64 (48 + x6))] : List UInt8)) Tryz.underlying43 Tryz.underlying5 Tryz.underlying9 rfl (h7.sl) rfl (jAc rfl rfl ?_)
  obtain ⟨x7, hx7, h⟩ := ob h
  refine jCq rfl rfl (jAm hx7).1 rfl (k_as (v := S x7) (congrArg S (jAm hx7).2.symm) (jAd rfl rfl (jAi (jAh [(0, _), (2, _), (3, _), (4, _)] ⟨rfl, rfl, rfl, rfl, trivial⟩ (jAg (jAa (jAc rfl rfl (k_quo rfl rfl (by decide) rfl (jAd rfl rfl (jAi (jAh [(0, _), (2, _), (3, _), (4, _)] ⟨rfl, rfl, rfl, rfl, trivial⟩ (jAg (jAa (jAc rfl rfl (jCc rfl rfl rfl (jAi (jAh [(0, _), (2, _), (3, _), (4, _), (24, _)] ⟨rfl, rfl, rfl, rfl, rfl, trivial⟩ (jAl rfl (fun c8 => ?_) (fun c8 => ?_)))))))))))))))))))
  ·
   have h := itT h c8
   exact jBq rfl (jAu ⟨(s7, x7), ⟨lr, trivial⟩, ⟨rfl, rfl, trivial⟩, ⟨rfl, hE1, h⟩⟩)
  have h := itF h c8
  exact jAv (jCe (jAu ⟨(s7, i64 (x3.tdiv 10), x7, j), ⟨lr, lr, trivial⟩, ⟨rfl, rfl, trivial⟩, ⟨rfl, hE2, h⟩, (by simp)⟩))
 rintro ⟨s9, x2⟩ wL ⟨rfl, hE1, h⟩
 rw [hK1] at h
 have := hE1.size
 have hS := hS.trans0 hE1
 refine jAg (jAg (jAa (jAc rfl rfl (jAi (jAh [(2, _), (4, _), (25, _)] ⟨rfl, rfl, rfl, trivial⟩ (jAl rfl (fun c10 => ?_) (fun c10 => ?_)))))))
 ·
  have h := itT h c10
  refine jAg (jAa (jAc rfl rfl ?_))
  obtain ⟨x8, hx8, h⟩ := ob h
  refine jCq rfl rfl (jAm hx8).1 rfl (k_as (v := S x8) (congrArg S (jAm hx8).2.symm) (jAd rfl rfl (jAi (jAh [(2, _), (4, _)] ⟨rfl, rfl, trivial⟩ (jAx ?_)))))
  obtain rfl := Option.some.inj h
  refine ⟨_, rfl, Ret.mk hS ?_⟩
  exact rfl
 have h := itF h c10
 refine jAv (jAg (jAa (jAc rfl rfl (jAd rfl rfl (jAi (jAh [(2, _)] ⟨rfl, trivial⟩ (jAx ?_)))))))
 obtain rfl := Option.some.inj h
 refine ⟨_, rfl, Ret.mk hS ?_⟩
 exact rfl
theorem ref01_quoted_w {s : St} {a0 : (List UInt8)} {r : (List UInt8)}  (h : ref01_quoted a0 = some r) : Calls Tryz.prog 34 #[S a0] s.w (Ret s K0 (fun s1 v => v = S r)) := by
 unfold ref01_quoted at h
 have hS := Step.r0 K0 s
 refine k_fn (rs := [2]) (args := [S a0]) Tryz.func34 rfl rfl rfl rfl (jAg (jAa (jAd rfl rfl (jAi (jAg (jAa (k_bslice2 (ds := ([(34 : UInt8)] : List UInt8).map bD) slc43 rfl (RVs.cons (R.val rfl) RVs.nil) (by rfl) (by rfl) rfl rfl ?_)))))))
 intro s1 v1 b1 st1 ge1 bl1 h1
 have := st1.size
 have hS := hS.trans0 st1
 have lt1 := Own.le1 h1
 refine jAd rfl rfl (jAi (jAh [(0, _), (2, _), (3, _)] ⟨rfl, rfl, rfl, trivial⟩ (jAg ?_)))
 obtain ⟨kj1, hK2, h⟩ := jn_out h
 have hE2 := Step.r0 (KC (b1 + 1) 0) s1
 refine jBp (X := St × (List UInt8) × Value) [(2, S ([] : List UInt8))] (fun (xL : St × (List UInt8) × Value) => match xL with | (sl, x2, v3) => [(3, v3)]) (fun (xL : St × (List UInt8) × Value) (wL : World) => match xL with | (sl, x2, v3) => sl.w = wL ∧ Step (KC (b1 + 1) 0) s1 sl ∧ (Own sl ⟨b1 + 1, 0⟩ 5 1 v3 (x2.map bD)) ∧ kj1 x2 = some r) ?_ ?_
 ·
  refine jAg (jAa (jAd rfl rfl (jAi (jAw (jBr (X := St × (List UInt8) × Value × Int × Nat) [(0, _), (2, _)] (fun (xL : St × (List UInt8) × Value × Int × Nat) => match xL with | (sl, x3, v5, x4, j) => [(3, v5), (4, .int .i64 x4)]) (fun (xL : St × (List UInt8) × Value × Int × Nat) (wL : World) => match xL with | (sl, x3, v5, x4, j) => sl.w = wL ∧ Step (KC (b1 + 1) 0) s1 sl ∧ (Own sl ⟨b1 + 1, 0⟩ 5 1 v5 (x3.map bD)) ∧ ref01_quoted_l1 a0 kj1 j x3 x4 = some r) (fun (xL : St × (List UInt8) × Value × Int × Nat) => match xL with | (sl, x3, v5, x4, j) => j) (s1, ([(34 : UInt8)] : List UInt8), v1, 0, FU) ⟨rfl, rfl, trivial⟩ ⟨lr, lr, trivial⟩ ⟨rfl, (Step.refl _).of0 li, h1, h⟩ ?_)))))
  rintro ⟨s6, x3, v5, x4, j⟩ wL ⟨rfl, hE4, h5, h⟩
  cases j with
  | zero => rw [ref01_quoted_l1] at h; exact (noneNe h).elim
  | succ j =>
  rw [ref01_quoted_l1] at h
  have := hE4.size
  have hS := hS.c0 hE4
  have hE2 := hE2.c0 hE4
  refine jAg (jAg (jAa (jAc rfl rfl (jAc rfl rfl (jCf Tryz.underlying9 rfl rfl (jBw rfl rfl rfl (jAi (jAh [(0, _), (2, _), (3, _), (4, _), (9, _)] ⟨rfl, rfl, rfl, rfl, rfl, trivial⟩ (jAl rfl (fun c7 => ?_) (fun c7 => ?_))))))))))
  ·
   have h := itT h c7
   refine jAv (jAg (jAw (jAg (jAh [(0, _), (2, _), (3, _), (4, _)] ⟨rfl, rfl, rfl, rfl, trivial⟩ ?_))))
   obtain ⟨kj5, hK8, h⟩ := jn_out h
   have hE8 := Step.r0 (KC (b1 + 1) 0) s6
   refine jBp (X := St × (List UInt8) × Value) [(0, S a0), (2, S ([] : List UInt8)), (4, .int .i64 x4)] (fun (xL : St × (List UInt8) × Value) => match xL with | (sl, x6, v9) => [(3, v9)]) (fun (xL : St × (List UInt8) × Value) (wL : World) => match xL with | (sl, x6, v9) => sl.w = wL ∧ Step (KC (b1 + 1) 0) s6 sl ∧ (Own sl ⟨b1 + 1, 0⟩ 5 1 v9 (x6.map bD)) ∧ kj5 x6 = some r) ?_ ?_
   ·
    refine jAg (jAa (jAc rfl rfl (jAc rfl rfl ?_)))
    obtain ⟨x7, hx7, h⟩ := ob h
    refine jBi Tryz.underlying9 rfl rfl (jAk hx7).1 (jAk hx7).2.1 rfl (k_as (congrArg (fun c : UInt8 => cB c) (jBs hx7)) (jCc rfl rfl rfl (jAc rfl rfl ?_)))
    obtain ⟨x8, hx8, h⟩ := ob h
    have hE10 := Step.r0 K0 s6
    refine jBm (X := St) 5 [(0, S a0), (2, S ([] : List UInt8)), (3, v5), (4, .int .i64 x4), (12, S a0), (13, .int .i64 x4), (14, cB x7), (15, .bool (decide ((x7.toNat : Int) = 34)))] (fun _ => [(21, .bool x8)]) (fun sl wL => sl.w = wL ∧ Step K0 s6 sl) ?_ ?_
    ·
     refine jBb 16 rfl (jBh (fun c11 => ?_) (fun c11 => ?_))
     ·
      have hx8 := itT hx8 c11
      exact k_no rfl rfl rfl rfl (k_no rfl rfl rfl rfl (k_no rfl rfl rfl rfl (k_no rfl rfl rfl rfl (jAz rfl rfl rfl rfl (jBc ⟨s6, ⟨(congrArg (fun b => some (Value.bool b)) (Option.some.inj hx8)), trivial⟩, ⟨rfl, rfl, rfl, rfl, rfl, rfl, rfl, rfl, trivial⟩, rfl, hE10⟩)))))
     have hx8 := itF hx8 c11
     refine jAn rfl rfl (jAc rfl rfl (jAn rfl rfl (jAc rfl rfl (jAn rfl rfl ?_))))
     obtain ⟨x9, hx9, hx8⟩ := ob hx8
     exact jBi Tryz.underlying9 rfl rfl (jAk hx9).1 (jAk hx9).2.1 rfl (k_as (congrArg (fun c : UInt8 => cB c) (jBs hx9)) (jAn rfl rfl (jCc rfl rfl rfl (jAy rfl rfl rfl rfl (jBc ⟨s6, ⟨(congrArg (fun b => some (Value.bool b)) (Option.some.inj hx8)), trivial⟩, ⟨rfl, rfl, rfl, rfl, rfl, rfl, rfl, rfl, trivial⟩, rfl, hE10⟩)))))
    rintro s12 wL ⟨rfl, hE10⟩
    have := hE10.size
    have hS := hS.trans0 hE10
    have hE2 := hE2.trans0 hE10
    have hE4 := hE4.trans0 hE10
    have hE8 := hE8.trans0 hE10
    replace h5 := h5.up2 hE10
    refine jAi (jAh [(0, _), (2, _), (3, _), (4, _), (21, _)] ⟨rfl, rfl, rfl, rfl, rfl, trivial⟩ (jCk rfl (fun c13 => ?_) (fun c13 => ?_)))
    ·
     have h := ibT h c13
     refine jAa (jAc rfl rfl (k_bslice2 (ds := ([(92 : UInt8)] : List UInt8).map bD) slc43 rfl (RVs.cons (R.val rfl) RVs.nil) (by rfl) (by rfl) rfl rfl ?_))
     intro s14 v14 b14 st14 ge14 bl14 h14
     have := st14.size
     have hS := hS.trans0 st14
     have hE2 := hE2.trans0 st14
     have hE4 := hE4.trans0 st14
     have hE8 := hE8.trans0 st14
     replace h5 := h5.up2 st14
     have lt14 := Own.le1 h14
     obtain ⟨x10, hx10, h⟩ := ob h
     refine k_append (es := ([(92 : UInt8)] : List UInt8).map bD) elem43 rfl rfl h5 (h14.sl) (by have := (jAm hx10).1; simp only [List.length_map] at *; omega) (by have := (jAm hx10).1; simp only [List.length_map] at *; omega) rfl ?_
     intro s15 v15 st15 h15
     rw [← List.map_append, ← (jAm hx10).2] at h15
     have := st15.size
     have hS := hS.c0 st15
     have hE2 := hE2.c0 st15
     have hE4 := hE4.c0 st15
     have hE8 := hE8.c0 st15
     exact jAd rfl rfl (jAi (jAu ⟨(s15, x10, v15), ⟨lr, trivial⟩, ⟨rfl, rfl, rfl, trivial⟩, ⟨rfl, hE8, h15, h⟩⟩))
    have h := ibF h c13
    exact jAv (jAu ⟨(s12, x3, v5), ⟨lr, trivial⟩, ⟨rfl, rfl, rfl, trivial⟩, ⟨rfl, hE8, h5, h⟩⟩)
   rintro ⟨s16, x6, v9⟩ wL ⟨rfl, hE8, h9, h⟩
   rw [hK8] at h
   have := hE8.size
   have hS := hS.c0 hE8
   have hE2 := hE2.c0 hE8
   have hE4 := hE4.c0 hE8
   refine jAa (jAc rfl rfl (jAc rfl rfl (jAc rfl rfl ?_)))
   obtain ⟨x11, hx11, h⟩ := ob h
   refine jBi Tryz.underlying9 rfl rfl (jAk hx11).1 (jAk hx11).2.1 rfl (k_as (congrArg (fun c : UInt8 => cB c) (jBs hx11)) (k_bslice2 (ds := ([x11] : List UInt8).map bD) slc43 rfl (RVs.cons (R.val rfl) RVs.nil) (by rfl) (by rfl) rfl rfl ?_))
   intro s17 v17 b17 st17 ge17 bl17 h17
   have := st17.size
   have hS := hS.trans0 st17
   have hE2 := hE2.trans0 st17
   have hE4 := hE4.trans0 st17
   replace h9 := h9.up2 st17
   have lt17 := Own.le1 h17
   obtain ⟨x12, hx12, h⟩ := ob h
   refine k_append (es := ([x11] : List UInt8).map bD) elem43 rfl rfl h9 (h17.sl) (by have := (jAm hx12).1; simp only [List.length_map] at *; omega) (by have := (jAm hx12).1; simp only [List.length_map] at *; omega) rfl ?_
   intro s18 v18 st18 h18
   rw [← List.map_append, ← (jAm hx12).2] at h18
   have := st18.size
   have hS := hS.c0 st18
   have hE2 := hE2.c0 st18
   have hE4 := hE4.c0 st18
   exact jAd rfl rfl (jAi (jCe (jAa (jAc rfl rfl (jBo rfl rfl rfl (jAd rfl rfl (jAi (jAu ⟨(s18, x12, v18, i64 (x4 + 1), j), ⟨lr, lr, trivial⟩, ⟨rfl, rfl, trivial⟩, ⟨rfl, hE4, h18, h⟩, (by simp)⟩))))))))
  have h := itF h c7
  exact jBq rfl (jAu ⟨(s6, x3, v5), ⟨lr, trivial⟩, ⟨rfl, trivial⟩, ⟨rfl, hE2, h5, h⟩⟩)
 rintro ⟨s19, x2, v3⟩ wL ⟨rfl, hE2, h3, h⟩
 rw [hK2] at h
 have := hE2.size
 have hS := hS.c0 hE2
 refine jAg (jAa (jAc rfl rfl (k_bslice2 (ds := ([(34 : UInt8)] : List UInt8).map bD) slc43 rfl (RVs.cons (R.val rfl) RVs.nil) (by rfl) (by rfl) rfl rfl ?_)))
 intro s20 v20 b20 st20 ge20 bl20 h20
 have := st20.size
 have hS := hS.trans0 st20
 replace h3 := h3.up2 st20
 have lt20 := Own.le1 h20
 obtain ⟨x13, hx13, h⟩ := ob h
 refine k_append (es := ([(34 : UInt8)] : List UInt8).map bD) elem43 rfl rfl h3 (h20.sl) (by have := (jAm hx13).1; simp only [List.length_map] at *; omega) (by have := (jAm hx13).1; simp only [List.length_map] at *; omega) rfl ?_
 intro s21 v21 st21 h21
 rw [← List.map_append, ← (jAm hx13).2] at h21
 have := st21.size
 have hS := hS.c0 st21
 refine k_bts (m := x13) Tryz.underlying43 Tryz.underlying5 Tryz.underlying9 rfl (h21.sl) rfl (jAd rfl rfl (jAi (jAh [(2, _)] ⟨rfl, trivial⟩ (jAx ?_))))
 obtain rfl := Option.some.inj h
 refine ⟨_, rfl, Ret.mk hS ?_⟩
 exact rfl
theorem ref01_Print_s_w {s : St} {cs0 : List Value} {a0 : ApiValue} {a70 : (ApiValue → Option (List UInt8))} {r : (List UInt8)} (hp0 : RC s cs0 (dApiValue a0)) (ih70 : ∀ {s : St} {cs0 : List Value} {a0 : ApiValue} {r : (List UInt8)} (hp0 : RC s cs0 (dApiValue a0)) (h : a70 a0 = some r), Calls Tryz.prog 18 #[.agg cs0.toArray] s.w (Ret s K0 (fun s1 v => v = S r))) (h : ref01_Print_s a70 a0 = some r) : Calls Tryz.prog 18 #[.agg cs0.toArray] s.w (Ret s K0 (fun s1 v => v = S r)) := by
 unfold ref01_Print_s at h
 obtain ⟨q0_0, q0_1, rfl, hq0_0, hq0_1⟩ := opnApiValue hp0
 have hS := Step.r0 K0 s
 refine k_fn (rs := [2]) (args := [.agg #[.int .i64 a0.Kind, .int .i64 a0.Num, S a0.Text, q0_0, q0_1]]) Tryz.func18 rfl rfl rfl rfl (jAg (jAa (jCp rfl rfl ?_)))
 intro s1 b1 st1 h1 ge1
 have := st1.size
 have hS := hS.trans0 st1
 replace hq0_0 := hq0_0.up2 st1
 replace hq0_1 := hq0_1.up2 st1
 have lt1 := h1.lt
 refine jAd rfl rfl (jAi (jAh [(1, _), (2, _)] ⟨rfl, rfl, trivial⟩ (jAg (jAg (jAa (jAf fld29_0 rfl rfl (jAj one3 rfl h1 rfl rfl (jAi (jAh [(1, _), (2, _), (6, _)] ⟨rfl, rfl, rfl, trivial⟩ (jAw (jAg (jAa (jCc rfl rfl rfl (jAd rfl rfl (jAi (jAh [(1, _), (2, _), (6, _), (7, _)] ⟨rfl, rfl, rfl, rfl, trivial⟩ (jAl rfl (fun c2 => ?_) (fun c2 => ?_))))))))))))))))))
 ·
  have h := itT h c2
  refine jAg (jAa (jAd rfl rfl (jAi (jAh [(1, _), (2, _)] ⟨rfl, rfl, trivial⟩ (jAx ?_)))))
  obtain rfl := Option.some.inj h
  refine ⟨_, rfl, Ret.mk hS ?_⟩
  exact rfl
 have h := itF h c2
 refine jAg (jAa (jCc rfl rfl rfl (jAd rfl rfl (jAi (jAh [(1, _), (2, _), (6, _), (9, _)] ⟨rfl, rfl, rfl, rfl, trivial⟩ (jAl rfl (fun c3 => ?_) (fun c3 => ?_)))))))
 ·
  have h := itT h c3
  refine jAg (jAa (jAd rfl rfl (jAi (jAh [(1, _), (2, _)] ⟨rfl, rfl, trivial⟩ (jAx ?_)))))
  obtain rfl := Option.some.inj h
  refine ⟨_, rfl, Ret.mk hS ?_⟩
  exact rfl
 have h := itF h c3
 refine jAg (jAa (jCc rfl rfl rfl (jAd rfl rfl (jAi (jAh [(1, _), (2, _), (6, _), (11, _)] ⟨rfl, rfl, rfl, rfl, trivial⟩ (jAl rfl (fun c4 => ?_) (fun c4 => ?_)))))))
 ·
  have h := itT h c4
  refine jAg (jAa (jAd rfl rfl (jAi (jAh [(1, _), (2, _)] ⟨rfl, rfl, trivial⟩ (jAx ?_)))))
  obtain rfl := Option.some.inj h
  refine ⟨_, rfl, Ret.mk hS ?_⟩
  exact rfl
 have h := itF h c4
 refine jAg (jAa (jCc rfl rfl rfl (jAd rfl rfl (jAi (jAh [(1, _), (2, _), (6, _), (13, _)] ⟨rfl, rfl, rfl, rfl, trivial⟩ (jAl rfl (fun c5 => ?_) (fun c5 => ?_)))))))
 ·
  have h := itT h c5
  refine jAg (jAa (jAf fld29_1 rfl rfl (jAj one2 rfl h1 rfl rfl ?_)))
  obtain ⟨x1, hx1, h⟩ := ob h
  refine jAp cal33 rfl (ref01_digits_w   hx1) rfl ?_
  rintro s6 vr6 st6 rfl
  have := st6.size
  have hS := hS.trans0 st6
  refine jAd rfl rfl (jAi (jAh [(1, _), (2, _)] ⟨rfl, rfl, trivial⟩ (jAx ?_)))
  obtain rfl := Option.some.inj h
  refine ⟨_, rfl, Ret.mk hS ?_⟩
  exact rfl
 have h := itF h c5
 refine jAg (jAa (jCc rfl rfl rfl (jAd rfl rfl (jAi (jAh [(1, _), (2, _), (18, _)] ⟨rfl, rfl, rfl, trivial⟩ (jAl rfl (fun c7 => ?_) (fun c7 => ?_)))))))
 ·
  have h := itT h c7
  refine jAg (jAa (jAf fld29_2 rfl rfl (jAj one9 rfl h1 rfl rfl ?_)))
  obtain ⟨x2, hx2, h⟩ := ob h
  refine jAp cal34 rfl (ref01_quoted_w   hx2) rfl ?_
  rintro s8 vr8 st8 rfl
  have := st8.size
  have hS := hS.trans0 st8
  refine jAd rfl rfl (jAi (jAh [(1, _), (2, _)] ⟨rfl, rfl, trivial⟩ (jAx ?_)))
  obtain rfl := Option.some.inj h
  refine ⟨_, rfl, Ret.mk hS ?_⟩
  exact rfl
 have h := itF h c7
 refine jAv (jCe (jAg (jAa (jAd rfl rfl (jAi (jAh [(1, _), (2, _), (3, _)] ⟨rfl, rfl, rfl, trivial⟩ (jAg ?_)))))))
 obtain ⟨kj3, hK9, h⟩ := jn_out h
 have hE9 := Step.r0 K0 s1
 refine jBp (X := St × (List UInt8)) [(1, pZ b1), (2, S ([] : List UInt8))] (fun (xL : St × (List UInt8)) => match xL with | (sl, x4) => [(3, S x4)]) (fun (xL : St × (List UInt8)) (wL : World) => match xL with | (sl, x4) => sl.w = wL ∧ Step K0 s1 sl ∧ kj3 x4 = some r) ?_ ?_
 ·
  refine jAg (jAa (jAd rfl rfl (jAi (jAw (jBr (X := St × (List UInt8) × Int × Nat) [(1, _), (2, _)] (fun (xL : St × (List UInt8) × Int × Nat) => match xL with | (sl, x5, x6, j) => [(3, S x5), (4, .int .i64 x6)]) (fun (xL : St × (List UInt8) × Int × Nat) (wL : World) => match xL with | (sl, x5, x6, j) => sl.w = wL ∧ Step K0 s1 sl ∧ ref01_Print_s_l1 a0 a70 kj3 j x5 x6 = some r) (fun (xL : St × (List UInt8) × Int × Nat) => match xL with | (sl, x5, x6, j) => j) (s1, ([] : List UInt8), 0, FU) ⟨rfl, rfl, trivial⟩ ⟨lr, lr, trivial⟩ ⟨rfl, (Step.refl _).of0 li, h⟩ ?_)))))
  rintro ⟨s11, x5, x6, j⟩ wL ⟨rfl, hE10, h⟩
  cases j with
  | zero => rw [ref01_Print_s_l1] at h; exact (noneNe h).elim
  | succ j =>
  rw [ref01_Print_s_l1] at h
  have := hE10.size
  have hS := hS.trans0 hE10
  have hE9 := hE9.trans0 hE10
  replace hq0_0 := hq0_0.up2 hE10
  replace hq0_1 := hq0_1.up2 hE10
  replace h1 := h1.up2 hE10
  refine jAg (jAg (jAa (jAc rfl rfl (jAf fld29_3 rfl rfl (jAj one26 rfl h1 rfl rfl (jCj Tryz.underlying26 rfl (SL.of_R hq0_0).hasLen rfl (k_as (v := .int .i64 (a0.List_.length : Int)) (by simp only [List.length_map]) (jBw rfl rfl rfl (jAi (jAh [(1, _), (2, _), (3, _), (4, _), (27, _)] ⟨rfl, rfl, rfl, rfl, rfl, trivial⟩ (jAl rfl (fun c12 => ?_) (fun c12 => ?_))))))))))))
  ·
   have h := itT h c12
   refine jAv (jAg (jAw (jAg (jAh [(1, _), (2, _), (3, _), (4, _)] ⟨rfl, rfl, rfl, rfl, trivial⟩ ?_))))
   obtain ⟨kj7, hK13, h⟩ := jn_out h
   have hE13 := Step.r0 K0 s11
   refine jBp (X := St × (List UInt8)) [(1, pZ b1), (2, S ([] : List UInt8)), (4, .int .i64 x6)] (fun (xL : St × (List UInt8)) => match xL with | (sl, x8) => [(3, S x8)]) (fun (xL : St × (List UInt8)) (wL : World) => match xL with | (sl, x8) => sl.w = wL ∧ Step K0 s11 sl ∧ kj7 x8 = some r) ?_ ?_
   ·
    refine jAg (jAa (jAc rfl rfl (jCu rfl rfl rfl (jAi (jAh [(1, _), (2, _), (3, _), (4, _), (31, _)] ⟨rfl, rfl, rfl, rfl, rfl, trivial⟩ (jAl rfl (fun c14 => ?_) (fun c14 => ?_)))))))
    ·
     have h := itT h c14
     refine jAa (jAc rfl rfl ?_)
     obtain ⟨x9, hx9, h⟩ := ob h
     exact jCq rfl rfl (jAm hx9).1 rfl (k_as (v := S x9) (congrArg S (jAm hx9).2.symm) (jAd rfl rfl (jAi (jAu ⟨(s11, x9), ⟨lr, trivial⟩, ⟨rfl, rfl, rfl, trivial⟩, ⟨rfl, hE13, h⟩⟩))))
    have h := itF h c14
    exact jAv (jAu ⟨(s11, x5), ⟨lr, trivial⟩, ⟨rfl, rfl, rfl, trivial⟩, ⟨rfl, hE13, h⟩⟩)
   rintro ⟨s15, x8⟩ wL ⟨rfl, hE13, h⟩
   rw [hK13] at h
   have := hE13.size
   have hS := hS.trans0 hE13
   have hE9 := hE9.trans0 hE13
   have hE10 := hE10.trans0 hE13
   replace hq0_0 := hq0_0.up2 hE13
   replace hq0_1 := hq0_1.up2 hE13
   replace h1 := h1.up2 hE13
   refine jAg ?_
   obtain ⟨kj10, hK16, h⟩ := jn_out h
   have hE16 := Step.r0 K0 s15
   refine jBp (X := St × (List UInt8)) [(1, pZ b1), (2, S ([] : List UInt8)), (4, .int .i64 x6)] (fun (xL : St × (List UInt8)) => match xL with | (sl, x11) => [(3, S x11)]) (fun (xL : St × (List UInt8)) (wL : World) => match xL with | (sl, x11) => sl.w = wL ∧ Step K0 s15 sl ∧ kj10 x11 = some r) ?_ ?_
   ·
    refine jAg (jAa (jAf fld29_0 rfl rfl (jAj one3 rfl h1 rfl rfl (jCc rfl rfl rfl (jAi (jAh [(1, _), (2, _), (3, _), (4, _), (36, _)] ⟨rfl, rfl, rfl, rfl, rfl, trivial⟩ (jAl rfl (fun c17 => ?_) (fun c17 => ?_))))))))
    ·
     have h := itT h c17
     refine jAa (jAc rfl rfl (jAf fld29_4 rfl rfl (jAj one27 rfl h1 rfl rfl (jAc rfl rfl ?_))))
     obtain ⟨x12, hx12, h⟩ := ob h
     refine jCd Tryz.underlying27 size9 rfl rfl (SL.of_R hq0_1) (jAk hx12).1 (jAr hx12) rfl ?_
     intro qx12 hqx12
     refine jAq one9 rfl hqx12 rfl ?_
     obtain ⟨x13, hx13, h⟩ := ob h
     refine jAp cal34 rfl (ref01_quoted_w   hx13) rfl ?_
     rintro s18 vr18 st18 rfl
     have := st18.size
     have hS := hS.trans0 st18
     have hE9 := hE9.trans0 st18
     have hE10 := hE10.trans0 st18
     have hE16 := hE16.trans0 st18
     obtain ⟨x14, hx14, h⟩ := ob h
     refine jCq rfl rfl (jAm hx14).1 rfl (k_as (v := S x14) (congrArg S (jAm hx14).2.symm) ?_)
     obtain ⟨x15, hx15, h⟩ := ob h
     exact jCq rfl rfl (jAm hx15).1 rfl (k_as (v := S x15) (congrArg S (jAm hx15).2.symm) (jAd rfl rfl (jAi (jAu ⟨(s18, x15), ⟨lr, trivial⟩, ⟨rfl, rfl, rfl, trivial⟩, ⟨rfl, hE16, h⟩⟩))))
    have h := itF h c17
    exact jAv (jAu ⟨(s15, x8), ⟨lr, trivial⟩, ⟨rfl, rfl, rfl, trivial⟩, ⟨rfl, hE16, h⟩⟩)
   rintro ⟨s19, x11⟩ wL ⟨rfl, hE16, h⟩
   rw [hK16] at h
   have := hE16.size
   have hS := hS.trans0 hE16
   have hE9 := hE9.trans0 hE16
   have hE10 := hE10.trans0 hE16
   replace hq0_0 := hq0_0.up2 hE16
   replace h1 := h1.up2 hE16
   refine jAa (jAc rfl rfl (jAf fld29_3 rfl rfl (jAj one26 rfl h1 rfl rfl (jAc rfl rfl ?_))))
   obtain ⟨x16, hx16, h⟩ := ob h
   refine jCd Tryz.underlying26 size29 rfl rfl (SL.of_R hq0_0) (jAk hx16).1 (jAr hx16) rfl ?_
   intro qx16 hqx16
   refine jCr (by exact agg29) rfl hqx16 rfl ?_
   intro cs20 h20
   obtain ⟨q20_0, q20_1, rfl, hq20_0, hq20_1⟩ := opnApiValue h20
   obtain ⟨x17, hx17, h⟩ := ob h
   refine jAp cal18 rfl (ih70  (clsApiValue x16 hq20_0 hq20_1) hx17) rfl ?_
   rintro s21 vr21 st21 rfl
   have := st21.size
   have hS := hS.trans0 st21
   have hE9 := hE9.trans0 st21
   have hE10 := hE10.trans0 st21
   obtain ⟨x18, hx18, h⟩ := ob h
   exact jCq rfl rfl (jAm hx18).1 rfl (k_as (v := S x18) (congrArg S (jAm hx18).2.symm) (jAd rfl rfl (jAi (jCe (jAa (jAc rfl rfl (jBo rfl rfl rfl (jAd rfl rfl (jAi (jAu ⟨(s21, x18, i64 (x6 + 1), j), ⟨lr, lr, trivial⟩, ⟨rfl, rfl, trivial⟩, ⟨rfl, hE10, h⟩, (by simp)⟩))))))))))
  have h := itF h c12
  exact jBq rfl (jAu ⟨(s11, x5), ⟨lr, trivial⟩, ⟨rfl, rfl, trivial⟩, ⟨rfl, hE9, h⟩⟩)
 rintro ⟨s22, x4⟩ wL ⟨rfl, hE9, h⟩
 rw [hK9] at h
 have := hE9.size
 have hS := hS.trans0 hE9
 replace h1 := h1.up2 hE9
 refine jAg (jAg (jAa (jAf fld29_0 rfl rfl (jAj one3 rfl h1 rfl rfl (jCc rfl rfl rfl (jAi (jAh [(2, _), (3, _), (56, _)] ⟨rfl, rfl, rfl, trivial⟩ (jAl rfl (fun c23 => ?_) (fun c23 => ?_)))))))))
 ·
  have h := itT h c23
  refine jAg (jAa (jAc rfl rfl ?_))
  obtain ⟨x19, hx19, h⟩ := ob h
  refine jCq rfl rfl (jAm hx19).1 rfl (k_as (v := S x19) (congrArg S (jAm hx19).2.symm) ?_)
  obtain ⟨x20, hx20, h⟩ := ob h
  refine jCq rfl rfl (jAm hx20).1 rfl (k_as (v := S x20) (congrArg S (jAm hx20).2.symm) (jAd rfl rfl (jAi (jAh [(2, _), (3, _)] ⟨rfl, rfl, trivial⟩ (jAx ?_)))))
  obtain rfl := Option.some.inj h
  refine ⟨_, rfl, Ret.mk hS ?_⟩
  exact rfl
 have h := itF h c23
 refine jAv (jAg (jAa (jAc rfl rfl ?_)))
 obtain ⟨x21, hx21, h⟩ := ob h
 refine jCq rfl rfl (jAm hx21).1 rfl (k_as (v := S x21) (congrArg S (jAm hx21).2.symm) ?_)
 obtain ⟨x22, hx22, h⟩ := ob h
 refine jCq rfl rfl (jAm hx22).1 rfl (k_as (v := S x22) (congrArg S (jAm hx22).2.symm) (jAd rfl rfl (jAi (jAh [(2, _)] ⟨rfl, trivial⟩ (jAx ?_)))))
 obtain rfl := Option.some.inj h
 refine ⟨_, rfl, Ret.mk hS ?_⟩
 exact rfl
theorem ref01_Print_rw (j : Nat) : ∀ {s : St} {cs0 : List Value} {a0 : ApiValue} {r : (List UInt8)} (hp0 : RC s cs0 (dApiValue a0)) (h : ref01_Print_r j a0 = some r), Calls Tryz.prog 18 #[.agg cs0.toArray] s.w (Ret s K0 (fun s1 v => v = S r)) := by
 induction j with
 | zero => intro s cs0 a0 r hp0 h; rw [ref01_Print_r] at h; exact (noneNe h).elim
 | succ j ih => intro s cs0 a0 r hp0 h; rw [ref01_Print_r] at h; exact ref01_Print_s_w hp0 ih h
theorem ref01_Print_w {s : St} {cs0 : List Value} {a0 : ApiValue} {r : (List UInt8)} (hp0 : RC s cs0 (dApiValue a0)) (h : ref01_Print a0 = some r) : Calls Tryz.prog 18 #[.agg cs0.toArray] s.w (Ret s K0 (fun s1 v => v = S r)) := ref01_Print_rw (FU + (dpApiValue a0)) hp0 h
theorem ref01_May_w {s : St} {cs0 : List Value} {a0 : ApiValue} {r : Bool} (hp0 : RC s cs0 (dApiValue a0)) (h : ref01_May a0 = some r) : Calls Tryz.prog 17 #[.agg cs0.toArray] s.w (Ret s K0 (fun s1 v => v = .bool r)) := by
 unfold ref01_May at h
 obtain ⟨q0_0, q0_1, rfl, hq0_0, hq0_1⟩ := opnApiValue hp0
 have hS := Step.r0 K0 s
 refine k_fn (rs := [2]) (args := [.agg #[.int .i64 a0.Kind, .int .i64 a0.Num, S a0.Text, q0_0, q0_1]]) Tryz.func17 rfl rfl rfl rfl (jAg (jAa (jCp rfl rfl ?_)))
 intro s1 b1 st1 h1 ge1
 have := st1.size
 have hS := hS.trans0 st1
 replace hq0_0 := hq0_0.up2 st1
 replace hq0_1 := hq0_1.up2 st1
 have lt1 := h1.lt
 refine jAd rfl rfl (jAi (jAh [(1, _), (2, _)] ⟨rfl, rfl, trivial⟩ (jAg (jAa (jAs (cs := [.int .i64 a0.Kind, .int .i64 a0.Num, S a0.Text, q0_0, q0_1]) agg29 rfl h1 rfl ?_)))))
 obtain ⟨x1, hx1, h⟩ := ob h
 refine jAp cal31 rfl (ref01_Deep_w  (clsApiValue a0 hq0_0 hq0_1) hx1) rfl ?_
 rintro s2 vr2 st2 rfl
 have := st2.size
 have hS := hS.trans0 st2
 replace hq0_0 := hq0_0.up2 st2
 replace hq0_1 := hq0_1.up2 st2
 replace h1 := h1.up2 st2
 refine k_leq rfl rfl rfl (jAc rfl rfl ?_)
 obtain ⟨x2, hx2, h⟩ := ob h
 have hE3 := Step.r0 K0 s2
 refine jBm (X := St) 3 [(1, pZ b1), (2, .bool false), (3, .agg #[.int .i64 a0.Kind, .int .i64 a0.Num, S a0.Text, q0_0, q0_1]), (4, .int .i64 x1), (5, .bool (decide (x1 ≤ 8)))] (fun _ => [(9, .bool x2)]) (fun sl wL => sl.w = wL ∧ Step K0 s2 sl) ?_ ?_
 ·
  refine jBb 6 rfl (jBh (fun c4 => ?_) (fun c4 => ?_))
  ·
   have hx2 := itT hx2 c4
   refine jAn rfl rfl (jAs (cs := [.int .i64 a0.Kind, .int .i64 a0.Num, S a0.Text, q0_0, q0_1]) agg29 rfl h1 rfl (jAn rfl rfl ?_))
   obtain ⟨x3, hx3, hx2⟩ := ob hx2
   refine jAp cal32 rfl (ref01_fields_w  (clsApiValue a0 hq0_0 hq0_1) hx3) rfl ?_
   rintro s5 vr5 st5 rfl
   have := st5.size
   have hS := hS.trans0 st5
   have hE3 := hE3.trans0 st5
   exact jAz rfl rfl rfl rfl (jBc ⟨s5, ⟨(congrArg (fun b => some (Value.bool b)) (Option.some.inj hx2)), trivial⟩, ⟨rfl, rfl, rfl, rfl, rfl, trivial⟩, rfl, hE3⟩)
  have hx2 := itF hx2 c4
  exact k_no rfl rfl rfl rfl (k_no rfl rfl rfl rfl (jAy rfl rfl rfl rfl (jBc ⟨s2, ⟨(congrArg (fun b => some (Value.bool b)) (Option.some.inj hx2)), trivial⟩, ⟨rfl, rfl, rfl, rfl, rfl, trivial⟩, rfl, hE3⟩)))
 rintro s6 wL ⟨rfl, hE3⟩
 have := hE3.size
 have hS := hS.trans0 hE3
 replace hq0_0 := hq0_0.up2 hE3
 replace hq0_1 := hq0_1.up2 hE3
 replace h1 := h1.up2 hE3
 refine jAc rfl rfl ?_
 obtain ⟨x4, hx4, h⟩ := ob h
 have hE7 := Step.r0 K0 s6
 refine jBm (X := St) 5 [(1, pZ b1), (2, .bool false), (3, .agg #[.int .i64 a0.Kind, .int .i64 a0.Num, S a0.Text, q0_0, q0_1]), (4, .int .i64 x1), (5, .bool (decide (x1 ≤ 8))), (9, .bool x2)] (fun _ => [(15, .bool x4)]) (fun sl wL => sl.w = wL ∧ Step K0 s6 sl) ?_ ?_
 ·
  refine jBb 10 rfl (jCn (fun c8 => ?_) (fun c8 => ?_))
  ·
   have hx4 := ibT hx4 c8
   refine jAn rfl rfl (jAs (cs := [.int .i64 a0.Kind, .int .i64 a0.Num, S a0.Text, q0_0, q0_1]) agg29 rfl h1 rfl (jAn rfl rfl ?_))
   obtain ⟨x5, hx5, hx4⟩ := ob hx4
   refine jAp cal18 rfl (ref01_Print_w  (clsApiValue a0 hq0_0 hq0_1) hx5) rfl ?_
   rintro s9 vr9 st9 rfl
   have := st9.size
   have hS := hS.trans0 st9
   have hE7 := hE7.trans0 st9
   exact jAn rfl rfl (jCf Tryz.underlying9 rfl rfl (jAn rfl rfl (k_leq rfl rfl rfl (jAz rfl rfl rfl rfl (jBc ⟨s9, ⟨(congrArg (fun b => some (Value.bool b)) (Option.some.inj hx4)), trivial⟩, ⟨rfl, rfl, rfl, rfl, rfl, rfl, trivial⟩, rfl, hE7⟩)))))
  have hx4 := ibF hx4 c8
  exact k_no rfl rfl rfl rfl (k_no rfl rfl rfl rfl (k_no rfl rfl rfl rfl (k_no rfl rfl rfl rfl (jAy rfl rfl rfl rfl (jBc ⟨s6, ⟨(congrArg (fun b => some (Value.bool b)) (Option.some.inj hx4)), trivial⟩, ⟨rfl, rfl, rfl, rfl, rfl, rfl, trivial⟩, rfl, hE7⟩)))))
 rintro s10 wL ⟨rfl, hE7⟩
 have := hE7.size
 have hS := hS.trans0 hE7
 refine jAd rfl rfl (jAi (jAh [(2, _)] ⟨rfl, trivial⟩ (jAx ?_)))
 obtain rfl := Option.some.inj h
 refine ⟨_, rfl, Ret.mk hS ?_⟩
 exact rfl
theorem ref03_IV_w {s : St} {a0 : Int} {r : UInt32}  (h : ref03_IV a0 = some r) : Calls Tryz.prog 77 #[.int .i64 a0] s.w (Ret s K0 (fun s1 v => v = cU r)) := by
 unfold ref03_IV at h
 have hS := Step.r0 K0 s
 refine k_fn (rs := [2]) (args := [.int .i64 a0]) Tryz.func77 rfl rfl rfl rfl (jAg (jAa (jAd rfl rfl (jAi (jAg (jAa (k_bslice2 (ds := ([(1779033703 : UInt32), (3144134277 : UInt32), (1013904242 : UInt32), (2773480762 : UInt32), (1359893119 : UInt32), (2600822924 : UInt32), (528734635 : UInt32), (1541459225 : UInt32)] : List UInt32).map dU32) slc119 rfl (RVs.cons (R.val rfl) (RVs.cons (R.val rfl) (RVs.cons (R.val rfl) (RVs.cons (R.val rfl) (RVs.cons (R.val rfl) (RVs.cons (R.val rfl) (RVs.cons (R.val rfl) (RVs.cons (R.val rfl) RVs.nil)))))))) (by rfl) (by rfl) rfl rfl ?_)))))))
 intro s1 v1 b1 st1 ge1 bl1 h1
 have := st1.size
 have hS := hS.trans0 st1
 have lt1 := Own.le1 h1
 refine jAd rfl rfl (jAi (jAh [(0, _), (2, _), (3, _)] ⟨rfl, rfl, rfl, trivial⟩ (jAg (jAa (jAc rfl rfl (jAc rfl rfl ?_))))))
 obtain ⟨x1, hx1, h⟩ := ob h
 refine jBe Tryz.underlying119 size75 rfl rfl h1 (jAk hx1).1 (jAr hx1) rfl ?_
 intro qx1 hqx1 heqx1
 refine jAq one75 rfl hqx1 rfl (jAd rfl rfl (jAi (jAh [(2, _)] ⟨rfl, trivial⟩ (jAx ?_))))
 obtain rfl := Option.some.inj h
 refine ⟨_, rfl, Ret.mk hS ?_⟩
 exact rfl
theorem ref03_Begin_w {s : St} {a0 : Int} {r : ApiDigest}  (h : ref03_Begin a0 = some r) : Calls Tryz.prog 53 #[.int .i64 a0] s.w (Ret s K0 (fun s1 v => ∃ (u0 : List Value), v = .agg u0.toArray ∧ RC s1 u0 (dApiDigest r))) := by
 unfold ref03_Begin at h
 have hS := Step.r0 K0 s
 refine jCy (rs := [.cell 2 78]) (args := [.int .i64 a0]) Tryz.func53 rfl rfl rfl rfl (jAg (jAa (jBj zero78 rfl ?_)))
 intro s1 b1 st1 h1 ge1
 have := st1.size
 have hS := hS.trans0 st1
 have lt1 := h1.lt
 refine jAi (jAg (jAa (jAc rfl rfl (jCa plc78 zero78 rfl (Parts.cons (CellsOf.lit rfl rfl).1 Parts.nil) (by rfl) rfl (k_as (v := .agg #[.int .u32 0, .int .u32 0, .int .u32 0, .int .u32 0, .int .u32 0, .int .u32 0, .int .u32 0, .int .u32 0, .slice none 0 0, .int .u64 0, .int .i64 a0]) rfl (jBj zero78 rfl ?_))))))
 intro s2 b2 st2 h2 ge2
 have := st2.size
 have hS := hS.trans0 st2
 replace h1 := h1.up2 st2
 have lt2 := h2.lt
 refine jAo (cs' := [.int .u32 0, .int .u32 0, .int .u32 0, .int .u32 0, .int .u32 0, .int .u32 0, .int .u32 0, .int .u32 0, .slice none 0 0, .int .u64 0, .int .i64 a0]) size78 rfl rfl h2 lz (CellsOf.lit rfl rfl) rfl lq rfl ?_
 intro s3 st3 h2
 have := st3.size
 have hS := hS.c0 st3
 replace h1 := h1.up2 st3
 refine jAi (jAh [(0, _), (2, _), (3, _)] ⟨rfl, rfl, rfl, trivial⟩ (jAg ?_))
 obtain ⟨kj1, hK4, h⟩ := jn_out h
 have hE4 := Step.r0 (KC (b2 + 1) 0) s3
 refine jBp (X := St × UInt32 × UInt32 × UInt32 × UInt32 × UInt32 × UInt32 × UInt32 × UInt32) [(0, .int .i64 a0), (2, pZ b1), (3, pZ b2)] (fun (xL : St × UInt32 × UInt32 × UInt32 × UInt32 × UInt32 × UInt32 × UInt32 × UInt32) => match xL with | (sl, x2, x3, x4, x5, x6, x7, x8, x9) => []) (fun (xL : St × UInt32 × UInt32 × UInt32 × UInt32 × UInt32 × UInt32 × UInt32 × UInt32) (wL : World) => match xL with | (sl, x2, x3, x4, x5, x6, x7, x8, x9) => sl.w = wL ∧ Step (KC (b2 + 1) 0) s3 sl ∧ (Blk sl b2 ⟨b2 + 1, 0⟩ [cU x2, cU x3, cU x4, cU x5, cU x6, cU x7, cU x8, cU x9, .slice none 0 0, .int .u64 0, .int .i64 a0] 78) ∧ kj1 x2 x3 x4 x5 x6 x7 x8 x9 = some r) ?_ ?_
 ·
  refine jAg (jAa (jAd rfl rfl (jAi (jAw (jBr (X := St × Int × UInt32 × UInt32 × UInt32 × UInt32 × UInt32 × UInt32 × UInt32 × UInt32 × Nat) [(0, _), (2, _), (3, _)] (fun (xL : St × Int × UInt32 × UInt32 × UInt32 × UInt32 × UInt32 × UInt32 × UInt32 × UInt32 × Nat) => match xL with | (sl, x10, x11, x12, x13, x14, x15, x16, x17, x18, j) => [(4, .int .i64 x10)]) (fun (xL : St × Int × UInt32 × UInt32 × UInt32 × UInt32 × UInt32 × UInt32 × UInt32 × UInt32 × Nat) (wL : World) => match xL with | (sl, x10, x11, x12, x13, x14, x15, x16, x17, x18, j) => sl.w = wL ∧ Step (KC (b2 + 1) 0) s3 sl ∧ (Blk sl b2 ⟨b2 + 1, 0⟩ [cU x11, cU x12, cU x13, cU x14, cU x15, cU x16, cU x17, cU x18, .slice none 0 0, .int .u64 0, .int .i64 a0] 78) ∧ ref03_Begin_l1 kj1 j x10 x11 x12 x13 x14 x15 x16 x17 x18 = some r) (fun (xL : St × Int × UInt32 × UInt32 × UInt32 × UInt32 × UInt32 × UInt32 × UInt32 × UInt32 × Nat) => match xL with | (sl, x10, x11, x12, x13, x14, x15, x16, x17, x18, j) => j) (s3, 0, (0 : UInt32), (0 : UInt32), (0 : UInt32), (0 : UInt32), (0 : UInt32), (0 : UInt32), (0 : UInt32), (0 : UInt32), FU) ⟨rfl, rfl, rfl, trivial⟩ ⟨lr, trivial⟩ ⟨rfl, (Step.refl _).of0 li, h2, h⟩ ?_)))))
  rintro ⟨s6, x10, x11, x12, x13, x14, x15, x16, x17, x18, j⟩ wL ⟨rfl, hE5, h2, h⟩
  cases j with
  | zero => rw [ref03_Begin_l1] at h; exact (noneNe h).elim
  | succ j =>
  rw [ref03_Begin_l1] at h
  have := hE5.size
  have hS := hS.c0 hE5
  have hE4 := hE4.c0 hE5
  refine jAg (jAg (jAa (jAc rfl rfl (jBw rfl rfl rfl (jAi (jAh [(0, _), (2, _), (3, _), (4, _), (8, _)] ⟨rfl, rfl, rfl, rfl, rfl, trivial⟩ (jAl rfl (fun c7 => ?_) (fun c7 => ?_))))))))
  ·
   have h := itT h c7
   refine jAv (jAg (jAw (jAa (jAc rfl rfl (jAc rfl rfl ?_)))))
   obtain ⟨x19, hx19, h⟩ := ob h
   refine jAp cal77 rfl (ref03_IV_w   hx19) rfl ?_
   rintro s8 vr8 st8 rfl
   have := st8.size
   have hS := hS.trans0 st8
   have hE4 := hE4.trans0 st8
   have hE5 := hE5.trans0 st8
   replace h2 := h2.up2 st8
   refine jAf fld78_0 rfl rfl ?_
   obtain ⟨x20, hx20, h⟩ := ob h
   refine jBx (m := 0) (xs := ([x11, x12, x13, x14, x15, x16, x17, x18] : List UInt32)) arr76 rfl rfl rfl hx20 rfl ?_
   obtain ⟨x21, hx21, h⟩ := ob h
   refine jDc cU (fun _ => rfl) (v := x19) (pre := []) (post := [.slice none 0 0, .int .u64 0, .int .i64 a0]) (xs := ([x11, x12, x13, x14, x15, x16, x17, x18] : List UInt32)) size75 rfl rfl h2 lz rfl hx21 ?_
   intro s9 st9 h2
   replace h2 := h2.litE (lit8 (show x21.length = 8 by rw [(seti_out hx21).2.2.2]; rfl) (0 : UInt32))
   have := st9.size
   have hS := hS.c0 st9
   have hE4 := hE4.c0 st9
   have hE5 := hE5.c0 st9
   exact jAi (jCe (jAa (jAc rfl rfl (jBo rfl rfl rfl (jAd rfl rfl (jAi (jAu ⟨(s9, i64 (x10 + 1), (x21.getD 0 0), (x21.getD 1 0), (x21.getD 2 0), (x21.getD 3 0), (x21.getD 4 0), (x21.getD 5 0), (x21.getD 6 0), (x21.getD 7 0), j), ⟨lr, trivial⟩, ⟨rfl, rfl, rfl, trivial⟩, ⟨rfl, hE5, h2, h⟩, (by simp)⟩)))))))
  have h := itF h c7
  exact jBq rfl (jAu ⟨(s6, x11, x12, x13, x14, x15, x16, x17, x18), trivial, ⟨rfl, rfl, rfl, trivial⟩, ⟨rfl, hE4, h2, h⟩⟩)
 rintro ⟨s10, x2, x3, x4, x5, x6, x7, x8, x9⟩ wL ⟨rfl, hE4, h2, h⟩
 rw [hK4] at h
 have := hE4.size
 have hS := hS.c0 hE4
 replace h1 := h1.up2 hE4
 refine jAg (jAa (jAf fld78_0 rfl rfl (jCh arr76 rfl rfl (by decide) (by decide) rfl (k_as (v := pZ b2) rfl (jAj one75 rfl h2 rfl rfl (jCm (p := (x2.toNat : Int)) (q := ((16842752 : UInt32).toNat : Int)) (.inr (.inr (.inl ⟨rfl, rfl⟩))) rfl rfl rfl (k_as (congrArg (Value.int .u32) (xor32 _ _)) (jAc rfl rfl (jBz (p := a0) Tryz.underlying3 Tryz.underlying75 rfl rfl (k_as (congrArg (Value.int .u32) (w32 _)) (jCm (p := ((x2 ^^^ (16842752 : UInt32)).toNat : Int)) (q := ((ofI32 a0).toNat : Int)) (.inr (.inr (.inl ⟨rfl, rfl⟩))) rfl rfl rfl (k_as (congrArg (Value.int .u32) (xor32 _ _)) (jAf fld78_0 rfl rfl (jCh arr76 rfl rfl (by decide) (by decide) rfl (k_as (v := pZ b2) rfl (jAo (cs' := [cU ((x2 ^^^ (16842752 : UInt32)) ^^^ (ofI32 a0)), cU x3, cU x4, cU x5, cU x6, cU x7, cU x8, cU x9, .slice none 0 0, .int .u64 0, .int .i64 a0]) size75 rfl rfl h2 lz (CellsOf.lit rfl rfl) rfl lq rfl ?_))))))))))))))))
 intro s11 st11 h2
 have := st11.size
 have hS := hS.c0 st11
 replace h1 := h1.up2 st11
 refine jAi (jAh [(2, _), (3, _)] ⟨rfl, rfl, trivial⟩ (jAg (jAa (jAs (cs := [cU ((x2 ^^^ (16842752 : UInt32)) ^^^ (ofI32 a0)), cU x3, cU x4, cU x5, cU x6, cU x7, cU x8, cU x9, .slice none 0 0, .int .u64 0, .int .i64 a0]) agg78 rfl h2 rfl (jAo (cs' := [cU ((x2 ^^^ (16842752 : UInt32)) ^^^ (ofI32 a0)), cU x3, cU x4, cU x5, cU x6, cU x7, cU x8, cU x9, .slice none 0 0, .int .u64 0, .int .i64 a0]) size78 rfl rfl h1 lz (CellsOf.lit rfl rfl) rfl lq rfl ?_)))))
 intro s12 st12 h1
 have := st12.size
 have hS := hS.c0 st12
 refine jAi (jAh [(2, _)] ⟨rfl, trivial⟩ (jAx ?_))
 obtain rfl := Option.some.inj h
 refine ⟨[.agg [cU ((x2 ^^^ (16842752 : UInt32)) ^^^ (ofI32 a0)), cU x3, cU x4, cU x5, cU x6, cU x7, cU x8, cU x9, .slice none 0 0, .int .u64 0, .int .i64 a0].toArray], ⟨res_blk (cs := [cU ((x2 ^^^ (16842752 : UInt32)) ^^^ (ofI32 a0)), cU x3, cU x4, cU x5, cU x6, cU x7, cU x8, cU x9, .slice none 0 0, .int .u64 0, .int .i64 a0]) rfl agg78 h1, trivial⟩, Ret.mk hS ?_⟩
 exact ⟨_, rfl, (clsApiDigest (⟨(⟨(x2 ^^^ (16842752 : UInt32)) ^^^ (ofI32 a0), x3, x4, x5, x6, x7, x8, x9⟩ : St76), [], (0 : UInt64), a0⟩ : ApiDigest) (R.of_SL (.inl ⟨rfl, none, 0, rfl, fun _ => rfl⟩)))⟩
theorem ref03_orders_w {s : St}  {r : (List (List Int))}  (h : ref03_orders = some r) : Calls Tryz.prog 98 #[] s.w (Ret s K0 (fun s1 v => ∃ (u0 : Value), v = u0 ∧ R s1 u0 (.sl 1 (r.map (dL 1 dI64))))) := by
 unfold ref03_orders at h
 have hS := Step.r0 K0 s
 refine k_fn (rs := [0]) (args := []) Tryz.func98 rfl rfl rfl rfl (jAg (jAa (jAd rfl rfl (jAi (jAg (jAa (k_bslice2 (ds := ([0, 1, 2, 3, 4, 5, 6, 7, 8, 9, 10, 11, 12, 13, 14, 15] : List Int).map dI64) slc68 rfl (RVs.cons (R.val rfl) (RVs.cons (R.val rfl) (RVs.cons (R.val rfl) (RVs.cons (R.val rfl) (RVs.cons (R.val rfl) (RVs.cons (R.val rfl) (RVs.cons (R.val rfl) (RVs.cons (R.val rfl) (RVs.cons (R.val rfl) (RVs.cons (R.val rfl) (RVs.cons (R.val rfl) (RVs.cons (R.val rfl) (RVs.cons (R.val rfl) (RVs.cons (R.val rfl) (RVs.cons (R.val rfl) (RVs.cons (R.val rfl) RVs.nil)))))))))))))))) (by rfl) (by rfl) rfl rfl ?_)))))))
 intro s1 v1 b1 st1 ge1 bl1 h1
 have := st1.size
 have hS := hS.trans0 st1
 have lt1 := Own.le1 h1
 refine k_bslice2 (ds := ([14, 10, 4, 8, 9, 15, 13, 6, 1, 12, 0, 2, 11, 7, 5, 3] : List Int).map dI64) slc68 rfl (RVs.cons (R.val rfl) (RVs.cons (R.val rfl) (RVs.cons (R.val rfl) (RVs.cons (R.val rfl) (RVs.cons (R.val rfl) (RVs.cons (R.val rfl) (RVs.cons (R.val rfl) (RVs.cons (R.val rfl) (RVs.cons (R.val rfl) (RVs.cons (R.val rfl) (RVs.cons (R.val rfl) (RVs.cons (R.val rfl) (RVs.cons (R.val rfl) (RVs.cons (R.val rfl) (RVs.cons (R.val rfl) (RVs.cons (R.val rfl) RVs.nil)))))))))))))))) (by rfl) (by rfl) rfl rfl ?_
 intro s2 v2 b2 st2 ge2 bl2 h2
 have := st2.size
 have hS := hS.trans0 st2
 replace h1 := h1.up2 st2
 have lt2 := Own.le1 h2
 refine k_bslice2 (ds := ([11, 8, 12, 0, 5, 2, 15, 13, 10, 14, 3, 6, 7, 1, 9, 4] : List Int).map dI64) slc68 rfl (RVs.cons (R.val rfl) (RVs.cons (R.val rfl) (RVs.cons (R.val rfl) (RVs.cons (R.val rfl) (RVs.cons (R.val rfl) (RVs.cons (R.val rfl) (RVs.cons (R.val rfl) (RVs.cons (R.val rfl) (RVs.cons (R.val rfl) (RVs.cons (R.val rfl) (RVs.cons (R.val rfl) (RVs.cons (R.val rfl) (RVs.cons (R.val rfl) (RVs.cons (R.val rfl) (RVs.cons (R.val rfl) (RVs.cons (R.val rfl) RVs.nil)))))))))))))))) (by rfl) (by rfl) rfl rfl ?_
 intro s3 v3 b3 st3 ge3 bl3 h3
 have := st3.size
 have hS := hS.trans0 st3
 replace h1 := h1.up2 st3
 replace h2 := h2.up2 st3
 have lt3 := Own.le1 h3
 refine k_bslice2 (ds := ([7, 9, 3, 1, 13, 12, 11, 14, 2, 6, 5, 10, 4, 0, 15, 8] : List Int).map dI64) slc68 rfl (RVs.cons (R.val rfl) (RVs.cons (R.val rfl) (RVs.cons (R.val rfl) (RVs.cons (R.val rfl) (RVs.cons (R.val rfl) (RVs.cons (R.val rfl) (RVs.cons (R.val rfl) (RVs.cons (R.val rfl) (RVs.cons (R.val rfl) (RVs.cons (R.val rfl) (RVs.cons (R.val rfl) (RVs.cons (R.val rfl) (RVs.cons (R.val rfl) (RVs.cons (R.val rfl) (RVs.cons (R.val rfl) (RVs.cons (R.val rfl) RVs.nil)))))))))))))))) (by rfl) (by rfl) rfl rfl ?_
 intro s4 v4 b4 st4 ge4 bl4 h4
 have := st4.size
 have hS := hS.trans0 st4
 replace h1 := h1.up2 st4
 replace h2 := h2.up2 st4
 replace h3 := h3.up2 st4
 have lt4 := Own.le1 h4
 refine k_bslice2 (ds := ([9, 0, 5, 7, 2, 4, 10, 15, 14, 1, 11, 12, 6, 8, 3, 13] : List Int).map dI64) slc68 rfl (RVs.cons (R.val rfl) (RVs.cons (R.val rfl) (RVs.cons (R.val rfl) (RVs.cons (R.val rfl) (RVs.cons (R.val rfl) (RVs.cons (R.val rfl) (RVs.cons (R.val rfl) (RVs.cons (R.val rfl) (RVs.cons (R.val rfl) (RVs.cons (R.val rfl) (RVs.cons (R.val rfl) (RVs.cons (R.val rfl) (RVs.cons (R.val rfl) (RVs.cons (R.val rfl) (RVs.cons (R.val rfl) (RVs.cons (R.val rfl) RVs.nil)))))))))))))))) (by rfl) (by rfl) rfl rfl ?_
 intro s5 v5 b5 st5 ge5 bl5 h5
 have := st5.size
 have hS := hS.trans0 st5
 replace h1 := h1.up2 st5
 replace h2 := h2.up2 st5
 replace h3 := h3.up2 st5
 replace h4 := h4.up2 st5
 have lt5 := Own.le1 h5
 refine k_bslice2 (ds := ([2, 12, 6, 10, 0, 11, 8, 3, 4, 13, 7, 5, 15, 14, 1, 9] : List Int).map dI64) slc68 rfl (RVs.cons (R.val rfl) (RVs.cons (R.val rfl) (RVs.cons (R.val rfl) (RVs.cons (R.val rfl) (RVs.cons (R.val rfl) (RVs.cons (R.val rfl) (RVs.cons (R.val rfl) (RVs.cons (R.val rfl) (RVs.cons (R.val rfl) (RVs.cons (R.val rfl) (RVs.cons (R.val rfl) (RVs.cons (R.val rfl) (RVs.cons (R.val rfl) (RVs.cons (R.val rfl) (RVs.cons (R.val rfl) (RVs.cons (R.val rfl) RVs.nil)))))))))))))))) (by rfl) (by rfl) rfl rfl ?_
 intro s6 v6 b6 st6 ge6 bl6 h6
 have := st6.size
 have hS := hS.trans0 st6
 replace h1 := h1.up2 st6
 replace h2 := h2.up2 st6
 replace h3 := h3.up2 st6
 replace h4 := h4.up2 st6
 replace h5 := h5.up2 st6
 have lt6 := Own.le1 h6
 refine k_bslice2 (ds := ([12, 5, 1, 15, 14, 13, 4, 10, 0, 7, 6, 3, 9, 2, 8, 11] : List Int).map dI64) slc68 rfl (RVs.cons (R.val rfl) (RVs.cons (R.val rfl) (RVs.cons (R.val rfl) (RVs.cons (R.val rfl) (RVs.cons (R.val rfl) (RVs.cons (R.val rfl) (RVs.cons (R.val rfl) (RVs.cons (R.val rfl) (RVs.cons (R.val rfl) (RVs.cons (R.val rfl) (RVs.cons (R.val rfl) (RVs.cons (R.val rfl) (RVs.cons (R.val rfl) (RVs.cons (R.val rfl) (RVs.cons (R.val rfl) (RVs.cons (R.val rfl) RVs.nil)))))))))))))))) (by rfl) (by rfl) rfl rfl ?_
 intro s7 v7 b7 st7 ge7 bl7 h7
 have := st7.size
 have hS := hS.trans0 st7
 replace h1 := h1.up2 st7
 replace h2 := h2.up2 st7
 replace h3 := h3.up2 st7
 replace h4 := h4.up2 st7
 replace h5 := h5.up2 st7
 replace h6 := h6.up2 st7
 have lt7 := Own.le1 h7
 refine k_bslice2 (ds := ([13, 11, 7, 14, 12, 1, 3, 9, 5, 0, 15, 4, 8, 6, 2, 10] : List Int).map dI64) slc68 rfl (RVs.cons (R.val rfl) (RVs.cons (R.val rfl) (RVs.cons (R.val rfl) (RVs.cons (R.val rfl) (RVs.cons (R.val rfl) (RVs.cons (R.val rfl) (RVs.cons (R.val rfl) (RVs.cons (R.val rfl) (RVs.cons (R.val rfl) (RVs.cons (R.val rfl) (RVs.cons (R.val rfl) (RVs.cons (R.val rfl) (RVs.cons (R.val rfl) (RVs.cons (R.val rfl) (RVs.cons (R.val rfl) (RVs.cons (R.val rfl) RVs.nil)))))))))))))))) (by rfl) (by rfl) rfl rfl ?_
 intro s8 v8 b8 st8 ge8 bl8 h8
 have := st8.size
 have hS := hS.trans0 st8
 replace h1 := h1.up2 st8
 replace h2 := h2.up2 st8
 replace h3 := h3.up2 st8
 replace h4 := h4.up2 st8
 replace h5 := h5.up2 st8
 replace h6 := h6.up2 st8
 replace h7 := h7.up2 st8
 have lt8 := Own.le1 h8
 refine k_bslice2 (ds := ([6, 15, 14, 9, 11, 3, 0, 8, 12, 2, 13, 7, 1, 4, 10, 5] : List Int).map dI64) slc68 rfl (RVs.cons (R.val rfl) (RVs.cons (R.val rfl) (RVs.cons (R.val rfl) (RVs.cons (R.val rfl) (RVs.cons (R.val rfl) (RVs.cons (R.val rfl) (RVs.cons (R.val rfl) (RVs.cons (R.val rfl) (RVs.cons (R.val rfl) (RVs.cons (R.val rfl) (RVs.cons (R.val rfl) (RVs.cons (R.val rfl) (RVs.cons (R.val rfl) (RVs.cons (R.val rfl) (RVs.cons (R.val rfl) (RVs.cons (R.val rfl) RVs.nil)))))))))))))))) (by rfl) (by rfl) rfl rfl ?_
 intro s9 v9 b9 st9 ge9 bl9 h9
 have := st9.size
 have hS := hS.trans0 st9
 replace h1 := h1.up2 st9
 replace h2 := h2.up2 st9
 replace h3 := h3.up2 st9
 replace h4 := h4.up2 st9
 replace h5 := h5.up2 st9
 replace h6 := h6.up2 st9
 replace h7 := h7.up2 st9
 replace h8 := h8.up2 st9
 have lt9 := Own.le1 h9
 refine k_bslice2 (ds := ([10, 2, 8, 4, 7, 6, 1, 5, 15, 11, 9, 14, 3, 12, 13, 0] : List Int).map dI64) slc68 rfl (RVs.cons (R.val rfl) (RVs.cons (R.val rfl) (RVs.cons (R.val rfl) (RVs.cons (R.val rfl) (RVs.cons (R.val rfl) (RVs.cons (R.val rfl) (RVs.cons (R.val rfl) (RVs.cons (R.val rfl) (RVs.cons (R.val rfl) (RVs.cons (R.val rfl) (RVs.cons (R.val rfl) (RVs.cons (R.val rfl) (RVs.cons (R.val rfl) (RVs.cons (R.val rfl) (RVs.cons (R.val rfl) (RVs.cons (R.val rfl) RVs.nil)))))))))))))))) (by rfl) (by rfl) rfl rfl ?_
 intro s10 v10 b10 st10 ge10 bl10 h10
 have := st10.size
 have hS := hS.trans0 st10
 replace h1 := h1.up2 st10
 replace h2 := h2.up2 st10
 replace h3 := h3.up2 st10
 replace h4 := h4.up2 st10
 replace h5 := h5.up2 st10
 replace h6 := h6.up2 st10
 replace h7 := h7.up2 st10
 replace h8 := h8.up2 st10
 replace h9 := h9.up2 st10
 have lt10 := Own.le1 h10
 obtain ⟨s11, e11, st11, h11⟩ := h1.freeze
 rw [← e11]
 have := st11.size
 have hS := hS.c0 st11
 replace h2 := h2.up2 st11
 replace h3 := h3.up2 st11
 replace h4 := h4.up2 st11
 replace h5 := h5.up2 st11
 replace h6 := h6.up2 st11
 replace h7 := h7.up2 st11
 replace h8 := h8.up2 st11
 replace h9 := h9.up2 st11
 replace h10 := h10.up2 st11
 obtain ⟨s12, e12, st12, h12⟩ := h2.freeze
 rw [← e12]
 have := st12.size
 have hS := hS.c0 st12
 replace h11 := h11.up2 st12
 replace h3 := h3.up2 st12
 replace h4 := h4.up2 st12
 replace h5 := h5.up2 st12
 replace h6 := h6.up2 st12
 replace h7 := h7.up2 st12
 replace h8 := h8.up2 st12
 replace h9 := h9.up2 st12
 replace h10 := h10.up2 st12
 obtain ⟨s13, e13, st13, h13⟩ := h3.freeze
 rw [← e13]
 have := st13.size
 have hS := hS.c0 st13
 replace h11 := h11.up2 st13
 replace h12 := h12.up2 st13
 replace h4 := h4.up2 st13
 replace h5 := h5.up2 st13
 replace h6 := h6.up2 st13
 replace h7 := h7.up2 st13
 replace h8 := h8.up2 st13
 replace h9 := h9.up2 st13
 replace h10 := h10.up2 st13
 obtain ⟨s14, e14, st14, h14⟩ := h4.freeze
 rw [← e14]
 have := st14.size
 have hS := hS.c0 st14
 replace h11 := h11.up2 st14
 replace h12 := h12.up2 st14
 replace h13 := h13.up2 st14
 replace h5 := h5.up2 st14
 replace h6 := h6.up2 st14
 replace h7 := h7.up2 st14
 replace h8 := h8.up2 st14
 replace h9 := h9.up2 st14
 replace h10 := h10.up2 st14
 obtain ⟨s15, e15, st15, h15⟩ := h5.freeze
 rw [← e15]
 have := st15.size
 have hS := hS.c0 st15
 replace h11 := h11.up2 st15
 replace h12 := h12.up2 st15
 replace h13 := h13.up2 st15
 replace h14 := h14.up2 st15
 replace h6 := h6.up2 st15
 replace h7 := h7.up2 st15
 replace h8 := h8.up2 st15
 replace h9 := h9.up2 st15
 replace h10 := h10.up2 st15
 obtain ⟨s16, e16, st16, h16⟩ := h6.freeze
 rw [← e16]
 have := st16.size
 have hS := hS.c0 st16
 replace h11 := h11.up2 st16
 replace h12 := h12.up2 st16
 replace h13 := h13.up2 st16
 replace h14 := h14.up2 st16
 replace h15 := h15.up2 st16
 replace h7 := h7.up2 st16
 replace h8 := h8.up2 st16
 replace h9 := h9.up2 st16
 replace h10 := h10.up2 st16
 obtain ⟨s17, e17, st17, h17⟩ := h7.freeze
 rw [← e17]
 have := st17.size
 have hS := hS.c0 st17
 replace h11 := h11.up2 st17
 replace h12 := h12.up2 st17
 replace h13 := h13.up2 st17
 replace h14 := h14.up2 st17
 replace h15 := h15.up2 st17
 replace h16 := h16.up2 st17
 replace h8 := h8.up2 st17
 replace h9 := h9.up2 st17
 replace h10 := h10.up2 st17
 obtain ⟨s18, e18, st18, h18⟩ := h8.freeze
 rw [← e18]
 have := st18.size
 have hS := hS.c0 st18
 replace h11 := h11.up2 st18
 replace h12 := h12.up2 st18
 replace h13 := h13.up2 st18
 replace h14 := h14.up2 st18
 replace h15 := h15.up2 st18
 replace h16 := h16.up2 st18
 replace h17 := h17.up2 st18
 replace h9 := h9.up2 st18
 replace h10 := h10.up2 st18
 obtain ⟨s19, e19, st19, h19⟩ := h9.freeze
 rw [← e19]
 have := st19.size
 have hS := hS.c0 st19
 replace h11 := h11.up2 st19
 replace h12 := h12.up2 st19
 replace h13 := h13.up2 st19
 replace h14 := h14.up2 st19
 replace h15 := h15.up2 st19
 replace h16 := h16.up2 st19
 replace h17 := h17.up2 st19
 replace h18 := h18.up2 st19
 replace h10 := h10.up2 st19
 obtain ⟨s20, e20, st20, h20⟩ := h10.freeze
 rw [← e20]
 have := st20.size
 have hS := hS.c0 st20
 replace h11 := h11.up2 st20
 replace h12 := h12.up2 st20
 replace h13 := h13.up2 st20
 replace h14 := h14.up2 st20
 replace h15 := h15.up2 st20
 replace h16 := h16.up2 st20
 replace h17 := h17.up2 st20
 replace h18 := h18.up2 st20
 replace h19 := h19.up2 st20
 refine k_bslice2 (ds := ([([0, 1, 2, 3, 4, 5, 6, 7, 8, 9, 10, 11, 12, 13, 14, 15] : List Int), ([14, 10, 4, 8, 9, 15, 13, 6, 1, 12, 0, 2, 11, 7, 5, 3] : List Int), ([11, 8, 12, 0, 5, 2, 15, 13, 10, 14, 3, 6, 7, 1, 9, 4] : List Int), ([7, 9, 3, 1, 13, 12, 11, 14, 2, 6, 5, 10, 4, 0, 15, 8] : List Int), ([9, 0, 5, 7, 2, 4, 10, 15, 14, 1, 11, 12, 6, 8, 3, 13] : List Int), ([2, 12, 6, 10, 0, 11, 8, 3, 4, 13, 7, 5, 15, 14, 1, 9] : List Int), ([12, 5, 1, 15, 14, 13, 4, 10, 0, 7, 6, 3, 9, 2, 8, 11] : List Int), ([13, 11, 7, 14, 12, 1, 3, 9, 5, 0, 15, 4, 8, 6, 2, 10] : List Int), ([6, 15, 14, 9, 11, 3, 0, 8, 12, 2, 13, 7, 1, 4, 10, 5] : List Int), ([10, 2, 8, 4, 7, 6, 1, 5, 15, 11, 9, 14, 3, 12, 13, 0] : List Int)] : List (List Int)).map (dL 1 dI64)) slc129 rfl (RVs.cons h11 (RVs.cons h12 (RVs.cons h13 (RVs.cons h14 (RVs.cons h15 (RVs.cons h16 (RVs.cons h17 (RVs.cons h18 (RVs.cons h19 (RVs.cons h20 RVs.nil)))))))))) (by rfl) (by rfl) rfl rfl ?_
 intro s21 v21 b21 st21 ge21 bl21 h21
 have := st21.size
 have hS := hS.trans0 st21
 have lt21 := Own.le1 h21
 refine jAd rfl rfl (jAi (jAh [(0, _)] ⟨rfl, trivial⟩ (jAx ?_)))
 obtain ⟨s22, e22, st22, h22⟩ := h21.freeze
 rw [← e22]
 have := st22.size
 have hS := hS.c0 st22
 obtain rfl := Option.some.inj h
 refine ⟨_, rfl, Ret.mk hS ?_⟩
 exact ⟨_, rfl, h22⟩
theorem ref03_ror_w {s : St} {a0 : UInt32} {a1 : Int} {r : UInt32}  (h : ref03_ror a0 a1 = some r) : Calls Tryz.prog 109 #[cU a0, .int .i64 a1] s.w (Ret s K0 (fun s1 v => v = cU r)) := by
 unfold ref03_ror at h
 have hS := Step.r0 K0 s
 refine k_fn (rs := [4]) (args := [cU a0, .int .i64 a1]) Tryz.func109 rfl rfl rfl rfl (jAg (jAa (jAd rfl rfl (jAi (jAg (jBl (KN s.n) 7 (.read 0 (.read 1 (.read 2 (.read 3 (.read 4 (.read 5 (.read 6 .fin))))))) mixed lw rfl rfl rfl ?_))))))
 intro s1 st1
 have := st1.size
 have hS := hS.trans0 st1
 refine jAb (cU a0) rfl rfl (fun s2 st2 => ?_) ?_
 ·exact jAc rfl rfl (jAe)
 refine jAb (.int .i64 a1) rfl rfl (fun s3 st3 => ?_) ?_
 ·exact jAc rfl rfl (jAe)
 by_cases c5 : 0 ≤ a1
 case neg => exact (noneNe (itF h c5)).elim
 replace h := itT h c5
 refine jAb (cU (shr32 a0 a1)) rfl rfl (fun s4 st4 => ?_) ?_
 ·exact k_shr (p := (a0.toNat : Int)) rfl rfl c5 rfl (k_as (congrArg (Value.int .u32) (shr32_eq _ _)) (jAe))
 refine jAb (cU a0) rfl rfl (fun s6 st6 => ?_) ?_
 ·exact jAc rfl rfl (jAe)
 refine jAb (.int .i64 a1) rfl rfl (fun s7 st7 => ?_) ?_
 ·exact jAc rfl rfl (jAe)
 refine jAb (.int .i64 (i64 (32 - a1))) rfl rfl (fun s8 st8 => ?_) ?_
 ·exact jDa rfl rfl rfl (jAe)
 by_cases c10 : 0 ≤ i64 (32 - a1)
 case neg => exact (noneNe (itF h c10)).elim
 replace h := itT h c10
 refine jAb (cU (ofI32 ((a0.toNat : Int) * 2 ^ (min (i64 (32 - a1)).toNat 32)))) rfl rfl (fun s9 st9 => ?_) ?_
 ·exact k_shl rfl rfl c10 rfl (k_as (congrArg (Value.int .u32) (w32 _)) (jAe))
 refine jBg (jCm (p := ((shr32 a0 a1).toNat : Int)) (q := ((ofI32 ((a0.toNat : Int) * 2 ^ (min (i64 (32 - a1)).toNat 32))).toNat : Int)) (.inr (.inl ⟨rfl, rfl⟩)) rfl rfl rfl (k_as (congrArg (Value.int .u32) (or32 _ _)) (jAd rfl rfl (jAi (jAh [(4, _)] ⟨rfl, trivial⟩ (jAx ?_))))))
 obtain rfl := Option.some.inj h
 refine ⟨_, rfl, Ret.mk hS ?_⟩
 exact rfl
theorem ref03_stir_w {s : St} {l0 : Lab} {v0 : Value} {a0 : (List UInt32)} {a1 : Int} {a2 : Int} {a3 : Int} {a4 : Int} {a5 : UInt32} {a6 : UInt32} {r : (List UInt32)} (hp0 : Own s l0 75 1 v0 (a0.map dU32)) (hlle0 : l0.o ≤ s.n) (h : ref03_stir a0 a1 a2 a3 a4 a5 a6 = some r) : Calls Tryz.prog 99 #[v0, .int .i64 a1, .int .i64 a2, .int .i64 a3, .int .i64 a4, cU a5, cU a6] s.w (Ret s (KC l0.o l0.c) (fun s1 v => v = .tuple #[] ∧ Own s1 l0 75 1 v0 (r.map dU32))) := by
 unfold ref03_stir at h
 have lp0 := Own.le1 hp0
 have hS := Step.r0 (KC l0.o l0.c) s
 refine k_fn (rs := []) (args := [v0, .int .i64 a1, .int .i64 a2, .int .i64 a3, .int .i64 a4, cU a5, cU a6]) Tryz.func99 rfl rfl rfl rfl (jAg ?_)
 have hp0_d := hp0
 refine jBl (KN s.n) 13 (.read 0 (.read 1 (.read 2 (.read 3 (.read 4 (.read 5 (.read 6 (.read 7 (.read 8 (.read 9 (.read 10 (.read 11 (.read 12 .fin))))))))))))) mixed lw rfl rfl rfl ?_
 intro s1 st1
 have := st1.size
 have hS := hS.trans0 st1
 replace hp0 := hp0.up2 st1
 refine jAb (v0) rfl rfl (fun s2 st2 => ?_) ?_
 ·exact jAc rfl rfl (jAe)
 refine jAb (.int .i64 a1) rfl rfl (fun s3 st3 => ?_) ?_
 ·exact jAc rfl rfl (jAe)
 refine jAb (v0) rfl rfl (fun s4 st4 => ?_) ?_
 ·exact jAc rfl rfl (jAe)
 refine jAb (.int .i64 a1) rfl rfl (fun s5 st5 => ?_) ?_
 ·exact jAc rfl rfl (jAe)
 obtain ⟨x1, hx1, h⟩ := ob h
 have ln6 : l0.o ≤ s.n := Own.le_ne hp0_d (jCi hx1)
 refine jBy rfl (wanted_none rfl) Tryz.underlying119 size75 rfl rfl (hp0.sl) (jAk hx1).1 (jAr hx1) rfl ?_
 intro q6 hq6
 refine jAb (cU x1) rfl rfl (fun s7 st7 => ?_) ?_
 ·try replace hq6 := hq6.up2 st7
  exact jAq one75 rfl hq6 rfl (jAe)
 refine jAb (v0) rfl rfl (fun s8 st8 => ?_) ?_
 ·exact jAc rfl rfl (jAe)
 refine jAb (.int .i64 a2) rfl rfl (fun s9 st9 => ?_) ?_
 ·exact jAc rfl rfl (jAe)
 obtain ⟨x2, hx2, h⟩ := ob h
 have ln10 : l0.o ≤ s.n := Own.le_ne hp0_d (jCi hx2)
 refine jBy rfl (wanted_none rfl) Tryz.underlying119 size75 rfl rfl (hp0.sl) (jAk hx2).1 (jAr hx2) rfl ?_
 intro q10 hq10
 refine jAb (cU x2) rfl rfl (fun s11 st11 => ?_) ?_
 ·try replace hq10 := hq10.up2 st11
  exact jAq one75 rfl hq10 rfl (jAe)
 refine jAb (cU (ofI32 ((x1.toNat : Int) + (x2.toNat : Int)))) rfl rfl (fun s12 st12 => ?_) ?_
 ·exact jBo rfl rfl rfl (k_as (congrArg (Value.int .u32) (w32 _)) (jAe))
 refine jAb (cU a5) rfl rfl (fun s13 st13 => ?_) ?_
 ·exact jAc rfl rfl (jAe)
 refine jAb (cU (ofI32 (((ofI32 ((x1.toNat : Int) + (x2.toNat : Int))).toNat : Int) + (a5.toNat : Int)))) rfl rfl (fun s14 st14 => ?_) ?_
 ·exact jBo rfl rfl rfl (k_as (congrArg (Value.int .u32) (w32 _)) (jAe))
 refine jBg ?_
 obtain ⟨x3, hx3, h⟩ := ob h
 refine jBe Tryz.underlying119 size75 rfl rfl hp0 (jAk hx3).1 (jAr hx3) rfl ?_
 intro qx3 hqx3 heqx3
 refine jBn (dd := dU32 (ofI32 (((ofI32 ((x1.toNat : Int) + (x2.toNat : Int))).toNat : Int) + (a5.toNat : Int)))) size75 rfl rfl hp0 heqx3 (by rw [List.length_map]; exact (List.getElem?_eq_some_iff.1 (jAk hx3).2.2).1) (R.val rfl) rfl ?_
 intro s15 st15 hp0
 rw [← List.map_set] at hp0
 have := st15.size
 have hS := hS.c0 st15
 refine jAi (jAh [(0, _), (1, _), (2, _), (3, _), (4, _), (6, _)] ⟨rfl, rfl, rfl, rfl, rfl, rfl, trivial⟩ (jAg ?_))
 have hp0_d := hp0
 refine jBl (KN s15.n) 12 (.read 0 (.read 1 (.read 2 (.read 3 (.read 4 (.read 5 (.read 6 (.read 7 (.read 8 (.read 9 (.read 10 (.alt 11 .fin .no)))))))))))) mixed lw rfl rfl rfl ?_
 intro s16 st16
 have := st16.size
 have hS := hS.trans0 st16
 replace hp0 := hp0.up2 st16
 refine jAb (v0) rfl rfl (fun s17 st17 => ?_) ?_
 ·exact jAc rfl rfl (jAe)
 refine jAb (.int .i64 a4) rfl rfl (fun s18 st18 => ?_) ?_
 ·exact jAc rfl rfl (jAe)
 refine jAb (v0) rfl rfl (fun s19 st19 => ?_) ?_
 ·exact jAc rfl rfl (jAe)
 refine jAb (.int .i64 a4) rfl rfl (fun s20 st20 => ?_) ?_
 ·exact jAc rfl rfl (jAe)
 obtain ⟨x4, hx4, h⟩ := ob h
 have ln21 : l0.o ≤ s15.n := Own.le_ne hp0_d (jCi hx4)
 refine jBy rfl (wanted_none rfl) Tryz.underlying119 size75 rfl rfl (hp0.sl) (jAk hx4).1 (jAr hx4) rfl ?_
 intro q21 hq21
 refine jAb (cU x4) rfl rfl (fun s22 st22 => ?_) ?_
 ·try replace hq21 := hq21.up2 st22
  exact jAq one75 rfl hq21 rfl (jAe)
 refine jAb (v0) rfl rfl (fun s23 st23 => ?_) ?_
 ·exact jAc rfl rfl (jAe)
 refine jAb (.int .i64 a1) rfl rfl (fun s24 st24 => ?_) ?_
 ·exact jAc rfl rfl (jAe)
 obtain ⟨x5, hx5, h⟩ := ob h
 have ln25 : l0.o ≤ s15.n := Own.le_ne hp0_d (jCi hx5)
 refine jBy rfl (wanted_none rfl) Tryz.underlying119 size75 rfl rfl (hp0.sl) (jAk hx5).1 (jAr hx5) rfl ?_
 intro q25 hq25
 refine jAb (cU x5) rfl rfl (fun s26 st26 => ?_) ?_
 ·try replace hq25 := hq25.up2 st26
  exact jAq one75 rfl hq25 rfl (jAe)
 refine jAb (cU (x4 ^^^ x5)) rfl rfl (fun s27 st27 => ?_) ?_
 ·exact jCm (p := (x4.toNat : Int)) (q := (x5.toNat : Int)) (.inr (.inr (.inl ⟨rfl, rfl⟩))) rfl rfl rfl (k_as (congrArg (Value.int .u32) (xor32 _ _)) (jAe))
 refine jBa rfl rfl ?_
 have hA28 := Step.r0 (KN s15.n) s16
 obtain ⟨x6, hx6, h⟩ := ob h
 refine jAp cal109 rfl (ref03_ror_w   hx6) rfl ?_
 rintro s29 vr29 st29 rfl
 have := st29.size
 have hS := hS.trans0 st29
 have hA28 := hA28.trans0 st29
 replace hp0 := hp0.up2 st29
 refine jAt hA28 (jBg ?_)
 obtain ⟨x7, hx7, h⟩ := ob h
 refine jBe Tryz.underlying119 size75 rfl rfl hp0 (jAk hx7).1 (jAr hx7) rfl ?_
 intro qx7 hqx7 heqx7
 refine jBn (dd := dU32 x6) size75 rfl rfl hp0 heqx7 (by rw [List.length_map]; exact (List.getElem?_eq_some_iff.1 (jAk hx7).2.2).1) (R.val rfl) rfl ?_
 intro s30 st30 hp0
 rw [← List.map_set] at hp0
 have := st30.size
 have hS := hS.c0 st30
 refine jAi (jAh [(0, _), (1, _), (2, _), (3, _), (4, _), (6, _)] ⟨rfl, rfl, rfl, rfl, rfl, rfl, trivial⟩ (jAg ?_))
 have hp0_d := hp0
 refine jBl (KN s30.n) 11 (.read 0 (.read 1 (.read 2 (.read 3 (.read 4 (.read 5 (.read 6 (.read 7 (.read 8 (.read 9 (.read 10 .fin))))))))))) mixed lw rfl rfl rfl ?_
 intro s31 st31
 have := st31.size
 have hS := hS.trans0 st31
 replace hp0 := hp0.up2 st31
 refine jAb (v0) rfl rfl (fun s32 st32 => ?_) ?_
 ·exact jAc rfl rfl (jAe)
 refine jAb (.int .i64 a3) rfl rfl (fun s33 st33 => ?_) ?_
 ·exact jAc rfl rfl (jAe)
 refine jAb (v0) rfl rfl (fun s34 st34 => ?_) ?_
 ·exact jAc rfl rfl (jAe)
 refine jAb (.int .i64 a3) rfl rfl (fun s35 st35 => ?_) ?_
 ·exact jAc rfl rfl (jAe)
 obtain ⟨x8, hx8, h⟩ := ob h
 have ln36 : l0.o ≤ s30.n := Own.le_ne hp0_d (jCi hx8)
 refine jBy rfl (wanted_none rfl) Tryz.underlying119 size75 rfl rfl (hp0.sl) (jAk hx8).1 (jAr hx8) rfl ?_
 intro q36 hq36
 refine jAb (cU x8) rfl rfl (fun s37 st37 => ?_) ?_
 ·try replace hq36 := hq36.up2 st37
  exact jAq one75 rfl hq36 rfl (jAe)
 refine jAb (v0) rfl rfl (fun s38 st38 => ?_) ?_
 ·exact jAc rfl rfl (jAe)
 refine jAb (.int .i64 a4) rfl rfl (fun s39 st39 => ?_) ?_
 ·exact jAc rfl rfl (jAe)
 obtain ⟨x9, hx9, h⟩ := ob h
 have ln40 : l0.o ≤ s30.n := Own.le_ne hp0_d (jCi hx9)
 refine jBy rfl (wanted_none rfl) Tryz.underlying119 size75 rfl rfl (hp0.sl) (jAk hx9).1 (jAr hx9) rfl ?_
 intro q40 hq40
 refine jAb (cU x9) rfl rfl (fun s41 st41 => ?_) ?_
 ·try replace hq40 := hq40.up2 st41
  exact jAq one75 rfl hq40 rfl (jAe)
 refine jAb (cU (ofI32 ((x8.toNat : Int) + (x9.toNat : Int)))) rfl rfl (fun s42 st42 => ?_) ?_
 ·exact jBo rfl rfl rfl (k_as (congrArg (Value.int .u32) (w32 _)) (jAe))
 refine jBg ?_
 obtain ⟨x10, hx10, h⟩ := ob h
 refine jBe Tryz.underlying119 size75 rfl rfl hp0 (jAk hx10).1 (jAr hx10) rfl ?_
 intro qx10 hqx10 heqx10
 refine jBn (dd := dU32 (ofI32 ((x8.toNat : Int) + (x9.toNat : Int)))) size75 rfl rfl hp0 heqx10 (by rw [List.length_map]; exact (List.getElem?_eq_some_iff.1 (jAk hx10).2.2).1) (R.val rfl) rfl ?_
 intro s43 st43 hp0
 rw [← List.map_set] at hp0
 have := st43.size
 have hS := hS.c0 st43
 refine jAi (jAh [(0, _), (1, _), (2, _), (3, _), (4, _), (6, _)] ⟨rfl, rfl, rfl, rfl, rfl, rfl, trivial⟩ (jAg ?_))
 have hp0_d := hp0
 refine jBl (KN s43.n) 12 (.read 0 (.read 1 (.read 2 (.read 3 (.read 4 (.read 5 (.read 6 (.read 7 (.read 8 (.read 9 (.read 10 (.alt 11 .fin .no)))))))))))) mixed lw rfl rfl rfl ?_
 intro s44 st44
 have := st44.size
 have hS := hS.trans0 st44
 replace hp0 := hp0.up2 st44
 refine jAb (v0) rfl rfl (fun s45 st45 => ?_) ?_
 ·exact jAc rfl rfl (jAe)
 refine jAb (.int .i64 a2) rfl rfl (fun s46 st46 => ?_) ?_
 ·exact jAc rfl rfl (jAe)
 refine jAb (v0) rfl rfl (fun s47 st47 => ?_) ?_
 ·exact jAc rfl rfl (jAe)
 refine jAb (.int .i64 a2) rfl rfl (fun s48 st48 => ?_) ?_
 ·exact jAc rfl rfl (jAe)
 obtain ⟨x11, hx11, h⟩ := ob h
 have ln49 : l0.o ≤ s43.n := Own.le_ne hp0_d (jCi hx11)
 refine jBy rfl (wanted_none rfl) Tryz.underlying119 size75 rfl rfl (hp0.sl) (jAk hx11).1 (jAr hx11) rfl ?_
 intro q49 hq49
 refine jAb (cU x11) rfl rfl (fun s50 st50 => ?_) ?_
 ·try replace hq49 := hq49.up2 st50
  exact jAq one75 rfl hq49 rfl (jAe)
 refine jAb (v0) rfl rfl (fun s51 st51 => ?_) ?_
 ·exact jAc rfl rfl (jAe)
 refine jAb (.int .i64 a3) rfl rfl (fun s52 st52 => ?_) ?_
 ·exact jAc rfl rfl (jAe)
 obtain ⟨x12, hx12, h⟩ := ob h
 have ln53 : l0.o ≤ s43.n := Own.le_ne hp0_d (jCi hx12)
 refine jBy rfl (wanted_none rfl) Tryz.underlying119 size75 rfl rfl (hp0.sl) (jAk hx12).1 (jAr hx12) rfl ?_
 intro q53 hq53
 refine jAb (cU x12) rfl rfl (fun s54 st54 => ?_) ?_
 ·try replace hq53 := hq53.up2 st54
  exact jAq one75 rfl hq53 rfl (jAe)
 refine jAb (cU (x11 ^^^ x12)) rfl rfl (fun s55 st55 => ?_) ?_
 ·exact jCm (p := (x11.toNat : Int)) (q := (x12.toNat : Int)) (.inr (.inr (.inl ⟨rfl, rfl⟩))) rfl rfl rfl (k_as (congrArg (Value.int .u32) (xor32 _ _)) (jAe))
 refine jBa rfl rfl ?_
 have hA56 := Step.r0 (KN s43.n) s44
 obtain ⟨x13, hx13, h⟩ := ob h
 refine jAp cal109 rfl (ref03_ror_w   hx13) rfl ?_
 rintro s57 vr57 st57 rfl
 have := st57.size
 have hS := hS.trans0 st57
 have hA56 := hA56.trans0 st57
 replace hp0 := hp0.up2 st57
 refine jAt hA56 (jBg ?_)
 obtain ⟨x14, hx14, h⟩ := ob h
 refine jBe Tryz.underlying119 size75 rfl rfl hp0 (jAk hx14).1 (jAr hx14) rfl ?_
 intro qx14 hqx14 heqx14
 refine jBn (dd := dU32 x13) size75 rfl rfl hp0 heqx14 (by rw [List.length_map]; exact (List.getElem?_eq_some_iff.1 (jAk hx14).2.2).1) (R.val rfl) rfl ?_
 intro s58 st58 hp0
 rw [← List.map_set] at hp0
 have := st58.size
 have hS := hS.c0 st58
 refine jAi (jAh [(0, _), (1, _), (2, _), (3, _), (4, _), (6, _)] ⟨rfl, rfl, rfl, rfl, rfl, rfl, trivial⟩ (jAg ?_))
 have hp0_d := hp0
 refine jBl (KN s58.n) 13 (.read 0 (.read 1 (.read 2 (.read 3 (.read 4 (.read 5 (.read 6 (.read 7 (.read 8 (.read 9 (.read 10 (.read 11 (.read 12 .fin))))))))))))) mixed lw rfl rfl rfl ?_
 intro s59 st59
 have := st59.size
 have hS := hS.trans0 st59
 replace hp0 := hp0.up2 st59
 refine jAb (v0) rfl rfl (fun s60 st60 => ?_) ?_
 ·exact jAc rfl rfl (jAe)
 refine jAb (.int .i64 a1) rfl rfl (fun s61 st61 => ?_) ?_
 ·exact jAc rfl rfl (jAe)
 refine jAb (v0) rfl rfl (fun s62 st62 => ?_) ?_
 ·exact jAc rfl rfl (jAe)
 refine jAb (.int .i64 a1) rfl rfl (fun s63 st63 => ?_) ?_
 ·exact jAc rfl rfl (jAe)
 obtain ⟨x15, hx15, h⟩ := ob h
 have ln64 : l0.o ≤ s58.n := Own.le_ne hp0_d (jCi hx15)
 refine jBy rfl (wanted_none rfl) Tryz.underlying119 size75 rfl rfl (hp0.sl) (jAk hx15).1 (jAr hx15) rfl ?_
 intro q64 hq64
 refine jAb (cU x15) rfl rfl (fun s65 st65 => ?_) ?_
 ·try replace hq64 := hq64.up2 st65
  exact jAq one75 rfl hq64 rfl (jAe)
 refine jAb (v0) rfl rfl (fun s66 st66 => ?_) ?_
 ·exact jAc rfl rfl (jAe)
 refine jAb (.int .i64 a2) rfl rfl (fun s67 st67 => ?_) ?_
 ·exact jAc rfl rfl (jAe)
 obtain ⟨x16, hx16, h⟩ := ob h
 have ln68 : l0.o ≤ s58.n := Own.le_ne hp0_d (jCi hx16)
 refine jBy rfl (wanted_none rfl) Tryz.underlying119 size75 rfl rfl (hp0.sl) (jAk hx16).1 (jAr hx16) rfl ?_
 intro q68 hq68
 refine jAb (cU x16) rfl rfl (fun s69 st69 => ?_) ?_
 ·try replace hq68 := hq68.up2 st69
  exact jAq one75 rfl hq68 rfl (jAe)
 refine jAb (cU (ofI32 ((x15.toNat : Int) + (x16.toNat : Int)))) rfl rfl (fun s70 st70 => ?_) ?_
 ·exact jBo rfl rfl rfl (k_as (congrArg (Value.int .u32) (w32 _)) (jAe))
 refine jAb (cU a6) rfl rfl (fun s71 st71 => ?_) ?_
 ·exact jAc rfl rfl (jAe)
 refine jAb (cU (ofI32 (((ofI32 ((x15.toNat : Int) + (x16.toNat : Int))).toNat : Int) + (a6.toNat : Int)))) rfl rfl (fun s72 st72 => ?_) ?_
 ·exact jBo rfl rfl rfl (k_as (congrArg (Value.int .u32) (w32 _)) (jAe))
 refine jBg ?_
 obtain ⟨x17, hx17, h⟩ := ob h
 refine jBe Tryz.underlying119 size75 rfl rfl hp0 (jAk hx17).1 (jAr hx17) rfl ?_
 intro qx17 hqx17 heqx17
 refine jBn (dd := dU32 (ofI32 (((ofI32 ((x15.toNat : Int) + (x16.toNat : Int))).toNat : Int) + (a6.toNat : Int)))) size75 rfl rfl hp0 heqx17 (by rw [List.length_map]; exact (List.getElem?_eq_some_iff.1 (jAk hx17).2.2).1) (R.val rfl) rfl ?_
 intro s73 st73 hp0
 rw [← List.map_set] at hp0
 have := st73.size
 have hS := hS.c0 st73
 refine jAi (jAh [(0, _), (1, _), (2, _), (3, _), (4, _)] ⟨rfl, rfl, rfl, rfl, rfl, trivial⟩ (jAg ?_))
 have hp0_d := hp0
 refine jBl (KN s73.n) 12 (.read 0 (.read 1 (.read 2 (.read 3 (.read 4 (.read 5 (.read 6 (.read 7 (.read 8 (.read 9 (.read 10 (.alt 11 .fin .no)))))))))))) mixed lw rfl rfl rfl ?_
 intro s74 st74
 have := st74.size
 have hS := hS.trans0 st74
 replace hp0 := hp0.up2 st74
 refine jAb (v0) rfl rfl (fun s75 st75 => ?_) ?_
 ·exact jAc rfl rfl (jAe)
 refine jAb (.int .i64 a4) rfl rfl (fun s76 st76 => ?_) ?_
 ·exact jAc rfl rfl (jAe)
 refine jAb (v0) rfl rfl (fun s77 st77 => ?_) ?_
 ·exact jAc rfl rfl (jAe)
 refine jAb (.int .i64 a4) rfl rfl (fun s78 st78 => ?_) ?_
 ·exact jAc rfl rfl (jAe)
 obtain ⟨x18, hx18, h⟩ := ob h
 have ln79 : l0.o ≤ s73.n := Own.le_ne hp0_d (jCi hx18)
 refine jBy rfl (wanted_none rfl) Tryz.underlying119 size75 rfl rfl (hp0.sl) (jAk hx18).1 (jAr hx18) rfl ?_
 intro q79 hq79
 refine jAb (cU x18) rfl rfl (fun s80 st80 => ?_) ?_
 ·try replace hq79 := hq79.up2 st80
  exact jAq one75 rfl hq79 rfl (jAe)
 refine jAb (v0) rfl rfl (fun s81 st81 => ?_) ?_
 ·exact jAc rfl rfl (jAe)
 refine jAb (.int .i64 a1) rfl rfl (fun s82 st82 => ?_) ?_
 ·exact jAc rfl rfl (jAe)
 obtain ⟨x19, hx19, h⟩ := ob h
 have ln83 : l0.o ≤ s73.n := Own.le_ne hp0_d (jCi hx19)
 refine jBy rfl (wanted_none rfl) Tryz.underlying119 size75 rfl rfl (hp0.sl) (jAk hx19).1 (jAr hx19) rfl ?_
 intro q83 hq83
 refine jAb (cU x19) rfl rfl (fun s84 st84 => ?_) ?_
 ·try replace hq83 := hq83.up2 st84
  exact jAq one75 rfl hq83 rfl (jAe)
 refine jAb (cU (x18 ^^^ x19)) rfl rfl (fun s85 st85 => ?_) ?_
 ·exact jCm (p := (x18.toNat : Int)) (q := (x19.toNat : Int)) (.inr (.inr (.inl ⟨rfl, rfl⟩))) rfl rfl rfl (k_as (congrArg (Value.int .u32) (xor32 _ _)) (jAe))
 refine jBa rfl rfl ?_
 have hA86 := Step.r0 (KN s73.n) s74
 obtain ⟨x20, hx20, h⟩ := ob h
 refine jAp cal109 rfl (ref03_ror_w   hx20) rfl ?_
 rintro s87 vr87 st87 rfl
 have := st87.size
 have hS := hS.trans0 st87
 have hA86 := hA86.trans0 st87
 replace hp0 := hp0.up2 st87
 refine jAt hA86 (jBg ?_)
 obtain ⟨x21, hx21, h⟩ := ob h
 refine jBe Tryz.underlying119 size75 rfl rfl hp0 (jAk hx21).1 (jAr hx21) rfl ?_
 intro qx21 hqx21 heqx21
 refine jBn (dd := dU32 x20) size75 rfl rfl hp0 heqx21 (by rw [List.length_map]; exact (List.getElem?_eq_some_iff.1 (jAk hx21).2.2).1) (R.val rfl) rfl ?_
 intro s88 st88 hp0
 rw [← List.map_set] at hp0
 have := st88.size
 have hS := hS.c0 st88
 refine jAi (jAh [(0, _), (2, _), (3, _), (4, _)] ⟨rfl, rfl, rfl, rfl, trivial⟩ (jAg ?_))
 have hp0_d := hp0
 refine jBl (KN s88.n) 11 (.read 0 (.read 1 (.read 2 (.read 3 (.read 4 (.read 5 (.read 6 (.read 7 (.read 8 (.read 9 (.read 10 .fin))))))))))) mixed lw rfl rfl rfl ?_
 intro s89 st89
 have := st89.size
 have hS := hS.trans0 st89
 replace hp0 := hp0.up2 st89
 refine jAb (v0) rfl rfl (fun s90 st90 => ?_) ?_
 ·exact jAc rfl rfl (jAe)
 refine jAb (.int .i64 a3) rfl rfl (fun s91 st91 => ?_) ?_
 ·exact jAc rfl rfl (jAe)
 refine jAb (v0) rfl rfl (fun s92 st92 => ?_) ?_
 ·exact jAc rfl rfl (jAe)
 refine jAb (.int .i64 a3) rfl rfl (fun s93 st93 => ?_) ?_
 ·exact jAc rfl rfl (jAe)
 obtain ⟨x22, hx22, h⟩ := ob h
 have ln94 : l0.o ≤ s88.n := Own.le_ne hp0_d (jCi hx22)
 refine jBy rfl (wanted_none rfl) Tryz.underlying119 size75 rfl rfl (hp0.sl) (jAk hx22).1 (jAr hx22) rfl ?_
 intro q94 hq94
 refine jAb (cU x22) rfl rfl (fun s95 st95 => ?_) ?_
 ·try replace hq94 := hq94.up2 st95
  exact jAq one75 rfl hq94 rfl (jAe)
 refine jAb (v0) rfl rfl (fun s96 st96 => ?_) ?_
 ·exact jAc rfl rfl (jAe)
 refine jAb (.int .i64 a4) rfl rfl (fun s97 st97 => ?_) ?_
 ·exact jAc rfl rfl (jAe)
 obtain ⟨x23, hx23, h⟩ := ob h
 have ln98 : l0.o ≤ s88.n := Own.le_ne hp0_d (jCi hx23)
 refine jBy rfl (wanted_none rfl) Tryz.underlying119 size75 rfl rfl (hp0.sl) (jAk hx23).1 (jAr hx23) rfl ?_
 intro q98 hq98
 refine jAb (cU x23) rfl rfl (fun s99 st99 => ?_) ?_
 ·try replace hq98 := hq98.up2 st99
  exact jAq one75 rfl hq98 rfl (jAe)
 refine jAb (cU (ofI32 ((x22.toNat : Int) + (x23.toNat : Int)))) rfl rfl (fun s100 st100 => ?_) ?_
 ·exact jBo rfl rfl rfl (k_as (congrArg (Value.int .u32) (w32 _)) (jAe))
 refine jBg ?_
 obtain ⟨x24, hx24, h⟩ := ob h
 refine jBe Tryz.underlying119 size75 rfl rfl hp0 (jAk hx24).1 (jAr hx24) rfl ?_
 intro qx24 hqx24 heqx24
 refine jBn (dd := dU32 (ofI32 ((x22.toNat : Int) + (x23.toNat : Int)))) size75 rfl rfl hp0 heqx24 (by rw [List.length_map]; exact (List.getElem?_eq_some_iff.1 (jAk hx24).2.2).1) (R.val rfl) rfl ?_
 intro s101 st101 hp0
 rw [← List.map_set] at hp0
 have := st101.size
 have hS := hS.c0 st101
 refine jAi (jAh [(0, _), (2, _), (3, _)] ⟨rfl, rfl, rfl, trivial⟩ ?_)
 have hp0_d := hp0
 refine jBl (KN s101.n) 12 (.read 0 (.read 1 (.read 2 (.read 3 (.read 4 (.read 5 (.read 6 (.read 7 (.read 8 (.read 9 (.read 10 (.alt 11 .fin .no)))))))))))) mixed lw rfl rfl rfl ?_
 intro s102 st102
 have := st102.size
 have hS := hS.trans0 st102
 replace hp0 := hp0.up2 st102
 refine jAb (v0) rfl rfl (fun s103 st103 => ?_) ?_
 ·exact jAc rfl rfl (jAe)
 refine jAb (.int .i64 a2) rfl rfl (fun s104 st104 => ?_) ?_
 ·exact jAc rfl rfl (jAe)
 refine jAb (v0) rfl rfl (fun s105 st105 => ?_) ?_
 ·exact jAc rfl rfl (jAe)
 refine jAb (.int .i64 a2) rfl rfl (fun s106 st106 => ?_) ?_
 ·exact jAc rfl rfl (jAe)
 obtain ⟨x25, hx25, h⟩ := ob h
 have ln107 : l0.o ≤ s101.n := Own.le_ne hp0_d (jCi hx25)
 refine jBy rfl (wanted_none rfl) Tryz.underlying119 size75 rfl rfl (hp0.sl) (jAk hx25).1 (jAr hx25) rfl ?_
 intro q107 hq107
 refine jAb (cU x25) rfl rfl (fun s108 st108 => ?_) ?_
 ·try replace hq107 := hq107.up2 st108
  exact jAq one75 rfl hq107 rfl (jAe)
 refine jAb (v0) rfl rfl (fun s109 st109 => ?_) ?_
 ·exact jAc rfl rfl (jAe)
 refine jAb (.int .i64 a3) rfl rfl (fun s110 st110 => ?_) ?_
 ·exact jAc rfl rfl (jAe)
 obtain ⟨x26, hx26, h⟩ := ob h
 have ln111 : l0.o ≤ s101.n := Own.le_ne hp0_d (jCi hx26)
 refine jBy rfl (wanted_none rfl) Tryz.underlying119 size75 rfl rfl (hp0.sl) (jAk hx26).1 (jAr hx26) rfl ?_
 intro q111 hq111
 refine jAb (cU x26) rfl rfl (fun s112 st112 => ?_) ?_
 ·try replace hq111 := hq111.up2 st112
  exact jAq one75 rfl hq111 rfl (jAe)
 refine jAb (cU (x25 ^^^ x26)) rfl rfl (fun s113 st113 => ?_) ?_
 ·exact jCm (p := (x25.toNat : Int)) (q := (x26.toNat : Int)) (.inr (.inr (.inl ⟨rfl, rfl⟩))) rfl rfl rfl (k_as (congrArg (Value.int .u32) (xor32 _ _)) (jAe))
 refine jBa rfl rfl ?_
 have hA114 := Step.r0 (KN s101.n) s102
 obtain ⟨x27, hx27, h⟩ := ob h
 refine jAp cal109 rfl (ref03_ror_w   hx27) rfl ?_
 rintro s115 vr115 st115 rfl
 have := st115.size
 have hS := hS.trans0 st115
 have hA114 := hA114.trans0 st115
 replace hp0 := hp0.up2 st115
 refine jAt hA114 (jBg ?_)
 obtain ⟨x28, hx28, h⟩ := ob h
 refine jBe Tryz.underlying119 size75 rfl rfl hp0 (jAk hx28).1 (jAr hx28) rfl ?_
 intro qx28 hqx28 heqx28
 refine jBn (dd := dU32 x27) size75 rfl rfl hp0 heqx28 (by rw [List.length_map]; exact (List.getElem?_eq_some_iff.1 (jAk hx28).2.2).1) (R.val rfl) rfl ?_
 intro s116 st116 hp0
 rw [← List.map_set] at hp0
 have := st116.size
 have hS := hS.c0 st116
 refine jAi (k_end ?_)
 obtain rfl := Option.some.inj h
 refine ⟨_, rfl, Ret.mk hS ?_⟩
 exact ⟨rfl, hp0⟩
theorem ref03_Mix_w {s : St} {cs0 : List Value} {a0 : St76} {l1 : Lab} {v1 : Value} {a1 : (List UInt8)} {a2 : UInt64} {a3 : Bool} {r : St76} (hp0 : RC s cs0 (dSt76 a0)) (hp1 : SL s l1 v1 1 (a1.map bD)) (h : ref03_Mix a0 a1 a2 a3 = some r) : Calls Tryz.prog 76 #[.agg cs0.toArray, v1, cW a2, .bool a3] s.w (Ret s K0 (fun s1 v => ∃ (u0 : List Value), v = .agg u0.toArray ∧ RC s1 u0 (dSt76 r))) := by
 unfold ref03_Mix at h
 obtain rfl := opnSt76 hp0
 obtain ⟨lf1, lf1le, lf1ne, hp1⟩ := hp1.fix
 have hS := Step.r0 K0 s
 refine jCy (rs := [.cell 8 76]) (args := [.agg (a8 a0).toArray, v1, cW a2, .bool a3]) Tryz.func76 rfl rfl rfl rfl (jAg (jAa (jCp rfl rfl ?_)))
 intro s1 b1 st1 h1 ge1
 have := st1.size
 have hS := hS.trans0 st1
 replace hp1 := hp1.up2 st1
 have lt1 := h1.lt
 refine jBj zero76 rfl ?_
 intro s2 b2 st2 h2 ge2
 have := st2.size
 have hS := hS.trans0 st2
 replace hp1 := hp1.up2 st2
 replace h1 := h1.up2 st2
 have lt2 := h2.lt
 refine jAi (jAh [(1, _), (2, _), (3, _), (4, _), (8, _)] ⟨rfl, rfl, rfl, rfl, rfl, trivial⟩ (jAg (jAa ?_)))
 obtain ⟨x1, hx1, h⟩ := ob h
 refine k_makeI2 (dz := dU32 (0 : UInt32)) (p := 16) elem119 rfl rfl (makel_out hx1).1 (RC.val _ rfl) rfl (by have := (makel_out hx1).2.1; omega) (by have := (makel_out hx1).2.1; omega) rfl ?_
 intro s3 v3 b3 st3 ge3 bl3 h3
 rw [← List.map_replicate, ← (makel_out hx1).2.2] at h3
 have := st3.size
 have hS := hS.trans0 st3
 replace hp1 := hp1.up2 st3
 replace h1 := h1.up2 st3
 replace h2 := h2.up2 st3
 have lt3 := Own.le1 h3
 refine jAd rfl rfl (jAi (jAh [(1, _), (2, _), (3, _), (4, _), (8, _), (9, _)] ⟨rfl, rfl, rfl, rfl, rfl, rfl, trivial⟩ (jAg ?_)))
 obtain ⟨kj2, hK4, h⟩ := jn_out h
 have hE4 := Step.r0 (KC (b3 + 1) 0) s3
 refine jBp (X := St × (List UInt32)) [(2, cW a2), (3, .bool a3), (4, pZ b1), (8, pZ b2), (9, v3)] (fun (xL : St × (List UInt32)) => match xL with | (sl, x3) => []) (fun (xL : St × (List UInt32)) (wL : World) => match xL with | (sl, x3) => sl.w = wL ∧ Step (KC (b3 + 1) 0) s3 sl ∧ (Own sl ⟨b3 + 1, 0⟩ 75 1 v3 (x3.map dU32)) ∧ kj2 x3 = some r) ?_ ?_
 ·
  refine jAg (jAa (jAd rfl rfl (jAi (jAw (jBr (X := St × Int × (List UInt32) × Nat) [(1, _), (2, _), (3, _), (4, _), (8, _), (9, _)] (fun (xL : St × Int × (List UInt32) × Nat) => match xL with | (sl, x4, x5, j) => [(10, .int .i64 x4)]) (fun (xL : St × Int × (List UInt32) × Nat) (wL : World) => match xL with | (sl, x4, x5, j) => sl.w = wL ∧ Step (KC (b3 + 1) 0) s3 sl ∧ (Own sl ⟨b3 + 1, 0⟩ 75 1 v3 (x5.map dU32)) ∧ ref03_Mix_l1 a1 kj2 j x4 x5 = some r) (fun (xL : St × Int × (List UInt32) × Nat) => match xL with | (sl, x4, x5, j) => j) (s3, 0, x1, FU) ⟨rfl, rfl, rfl, rfl, rfl, rfl, trivial⟩ ⟨lr, trivial⟩ ⟨rfl, (Step.refl _).of0 li, h3, h⟩ ?_)))))
  rintro ⟨s6, x4, x5, j⟩ wL ⟨rfl, hE5, h3, h⟩
  cases j with
  | zero => rw [ref03_Mix_l1] at h; exact (noneNe h).elim
  | succ j =>
  rw [ref03_Mix_l1] at h
  have := hE5.size
  have hS := hS.c0 hE5
  have hE4 := hE4.c0 hE5
  replace hp1 := hp1.up2 hE5
  refine jAg (jAg (jAa (jAc rfl rfl (jBw rfl rfl rfl (jAi (jAh [(1, _), (2, _), (3, _), (4, _), (8, _), (9, _), (10, _), (19, _)] ⟨rfl, rfl, rfl, rfl, rfl, rfl, rfl, rfl, trivial⟩ (jAl rfl (fun c7 => ?_) (fun c7 => ?_))))))))
  ·
   have h := itT h c7
   refine jAv (jAg (jAw (jAh [(1, _), (2, _), (3, _), (4, _), (8, _), (9, _), (10, _)] ⟨rfl, rfl, rfl, rfl, rfl, rfl, rfl, trivial⟩ (jBl (KN s6.n) 35 (.read 0 (.read 1 (.read 2 (.read 3 (.read 4 (.read 5 (.read 6 (.read 7 (.read 8 (.read 9 (.read 10 (.read 11 (.read 12 (.read 13 (.read 14 (.read 15 (.read 16 (.read 17 (.read 18 (.read 19 (.read 20 (.read 21 (.read 22 (.read 23 (.read 24 (.read 25 (.read 26 (.read 27 (.read 28 (.read 29 (.read 30 (.read 31 (.read 32 (.read 33 (.read 34 .fin))))))))))))))))))))))))))))))))))) mixed lw rfl rfl rfl ?_))))
   intro s8 st8
   have := st8.size
   have hS := hS.trans0 st8
   have hE4 := hE4.trans0 st8
   have hE5 := hE5.trans0 st8
   replace hp1 := hp1.up2 st8
   replace h3 := h3.up2 st8
   refine jAb (v3) rfl rfl (fun s9 st9 => ?_) ?_
   ·exact jAc rfl rfl (jAe)
   refine jAb (.int .i64 x4) rfl rfl (fun s10 st10 => ?_) ?_
   ·exact jAc rfl rfl (jAe)
   refine jAb (v1) rfl rfl (fun s11 st11 => ?_) ?_
   ·exact jAc rfl rfl (jAe)
   refine jAb (.int .i64 x4) rfl rfl (fun s12 st12 => ?_) ?_
   ·exact jAc rfl rfl (jAe)
   refine jAb (.int .i64 (i64 (4 * x4))) rfl rfl (fun s13 st13 => ?_) ?_
   ·exact jDi rfl rfl rfl (jAe)
   obtain ⟨x6, hx6, h⟩ := ob h
   refine jBy rfl (wanted_none rfl) Tryz.underlying43 size5 rfl rfl hp1 (jAk hx6).1 (jAr hx6) rfl ?_
   intro q14 hq14
   refine jAb (cB x6) rfl rfl (fun s15 st15 => ?_) ?_
   ·try replace hq14 := hq14.up2 st15
    exact jAq one5 rfl hq14 rfl (jAe)
   refine jAb (cU (ofI32 (x6.toNat : Int))) rfl rfl (fun s16 st16 => ?_) ?_
   ·exact jBz (p := (x6.toNat : Int)) Tryz.underlying5 Tryz.underlying75 rfl rfl (k_as (congrArg (Value.int .u32) (w32 _)) (jAe))
   refine jAb (v1) rfl rfl (fun s17 st17 => ?_) ?_
   ·exact jAc rfl rfl (jAe)
   refine jAb (.int .i64 x4) rfl rfl (fun s18 st18 => ?_) ?_
   ·exact jAc rfl rfl (jAe)
   refine jAb (.int .i64 (i64 (4 * x4))) rfl rfl (fun s19 st19 => ?_) ?_
   ·exact jDi rfl rfl rfl (jAe)
   refine jAb (.int .i64 (i64 ((i64 (4 * x4)) + 1))) rfl rfl (fun s20 st20 => ?_) ?_
   ·exact jBo rfl rfl rfl (jAe)
   obtain ⟨x7, hx7, h⟩ := ob h
   refine jBy rfl (wanted_none rfl) Tryz.underlying43 size5 rfl rfl hp1 (jAk hx7).1 (jAr hx7) rfl ?_
   intro q21 hq21
   refine jAb (cB x7) rfl rfl (fun s22 st22 => ?_) ?_
   ·try replace hq21 := hq21.up2 st22
    exact jAq one5 rfl hq21 rfl (jAe)
   refine jAb (cU (ofI32 (x7.toNat : Int))) rfl rfl (fun s23 st23 => ?_) ?_
   ·exact jBz (p := (x7.toNat : Int)) Tryz.underlying5 Tryz.underlying75 rfl rfl (k_as (congrArg (Value.int .u32) (w32 _)) (jAe))
   refine jAb (cU (ofI32 (256 * ((ofI32 (x7.toNat : Int)).toNat : Int)))) rfl rfl (fun s24 st24 => ?_) ?_
   ·exact jDi rfl rfl rfl (k_as (congrArg (Value.int .u32) (w32 _)) (jAe))
   refine jAb (cU (ofI32 (((ofI32 (x6.toNat : Int)).toNat : Int) + ((ofI32 (256 * ((ofI32 (x7.toNat : Int)).toNat : Int))).toNat : Int)))) rfl rfl (fun s25 st25 => ?_) ?_
   ·exact jBo rfl rfl rfl (k_as (congrArg (Value.int .u32) (w32 _)) (jAe))
   refine jAb (v1) rfl rfl (fun s26 st26 => ?_) ?_
   ·exact jAc rfl rfl (jAe)
   refine jAb (.int .i64 x4) rfl rfl (fun s27 st27 => ?_) ?_
   ·exact jAc rfl rfl (jAe)
   refine jAb (.int .i64 (i64 (4 * x4))) rfl rfl (fun s28 st28 => ?_) ?_
   ·exact jDi rfl rfl rfl (jAe)
   refine jAb (.int .i64 (i64 ((i64 (4 * x4)) + 2))) rfl rfl (fun s29 st29 => ?_) ?_
   ·exact jBo rfl rfl rfl (jAe)
   obtain ⟨x8, hx8, h⟩ := ob h
   refine jBy rfl (wanted_none rfl) Tryz.underlying43 size5 rfl rfl hp1 (jAk hx8).1 (jAr hx8) rfl ?_
   intro q30 hq30
   refine jAb (cB x8) rfl rfl (fun s31 st31 => ?_) ?_
   ·try replace hq30 := hq30.up2 st31
    exact jAq one5 rfl hq30 rfl (jAe)
   refine jAb (cU (ofI32 (x8.toNat : Int))) rfl rfl (fun s32 st32 => ?_) ?_
   ·exact jBz (p := (x8.toNat : Int)) Tryz.underlying5 Tryz.underlying75 rfl rfl (k_as (congrArg (Value.int .u32) (w32 _)) (jAe))
   refine jAb (cU (ofI32 (65536 * ((ofI32 (x8.toNat : Int)).toNat : Int)))) rfl rfl (fun s33 st33 => ?_) ?_
   ·exact jDi rfl rfl rfl (k_as (congrArg (Value.int .u32) (w32 _)) (jAe))
   refine jAb (cU (ofI32 (((ofI32 (((ofI32 (x6.toNat : Int)).toNat : Int) + ((ofI32 (256 * ((ofI32 (x7.toNat : Int)).toNat : Int))).toNat : Int))).toNat : Int) + ((ofI32 (65536 * ((ofI32 (x8.toNat : Int)).toNat : Int))).toNat : Int)))) rfl rfl (fun s34 st34 => ?_) ?_
   ·exact jBo rfl rfl rfl (k_as (congrArg (Value.int .u32) (w32 _)) (jAe))
   refine jAb (v1) rfl rfl (fun s35 st35 => ?_) ?_
   ·exact jAc rfl rfl (jAe)
   refine jAb (.int .i64 x4) rfl rfl (fun s36 st36 => ?_) ?_
   ·exact jAc rfl rfl (jAe)
   refine jAb (.int .i64 (i64 (4 * x4))) rfl rfl (fun s37 st37 => ?_) ?_
   ·exact jDi rfl rfl rfl (jAe)
   refine jAb (.int .i64 (i64 ((i64 (4 * x4)) + 3))) rfl rfl (fun s38 st38 => ?_) ?_
   ·exact jBo rfl rfl rfl (jAe)
   obtain ⟨x9, hx9, h⟩ := ob h
   refine jBy rfl (wanted_none rfl) Tryz.underlying43 size5 rfl rfl hp1 (jAk hx9).1 (jAr hx9) rfl ?_
   intro q39 hq39
   refine jAb (cB x9) rfl rfl (fun s40 st40 => ?_) ?_
   ·try replace hq39 := hq39.up2 st40
    exact jAq one5 rfl hq39 rfl (jAe)
   refine jAb (cU (ofI32 (x9.toNat : Int))) rfl rfl (fun s41 st41 => ?_) ?_
   ·exact jBz (p := (x9.toNat : Int)) Tryz.underlying5 Tryz.underlying75 rfl rfl (k_as (congrArg (Value.int .u32) (w32 _)) (jAe))
   refine jAb (cU (ofI32 (16777216 * ((ofI32 (x9.toNat : Int)).toNat : Int)))) rfl rfl (fun s42 st42 => ?_) ?_
   ·exact jDi rfl rfl rfl (k_as (congrArg (Value.int .u32) (w32 _)) (jAe))
   refine jAb (cU (ofI32 (((ofI32 (((ofI32 (((ofI32 (x6.toNat : Int)).toNat : Int) + ((ofI32 (256 * ((ofI32 (x7.toNat : Int)).toNat : Int))).toNat : Int))).toNat : Int) + ((ofI32 (65536 * ((ofI32 (x8.toNat : Int)).toNat : Int))).toNat : Int))).toNat : Int) + ((ofI32 (16777216 * ((ofI32 (x9.toNat : Int)).toNat : Int))).toNat : Int)))) rfl rfl (fun s43 st43 => ?_) ?_
   ·exact jBo rfl rfl rfl (k_as (congrArg (Value.int .u32) (w32 _)) (jAe))
   refine jBg ?_
   obtain ⟨x10, hx10, h⟩ := ob h
   refine jBe Tryz.underlying119 size75 rfl rfl h3 (jAk hx10).1 (jAr hx10) rfl ?_
   intro qx10 hqx10 heqx10
   refine jBn (dd := dU32 (ofI32 (((ofI32 (((ofI32 (((ofI32 (x6.toNat : Int)).toNat : Int) + ((ofI32 (256 * ((ofI32 (x7.toNat : Int)).toNat : Int))).toNat : Int))).toNat : Int) + ((ofI32 (65536 * ((ofI32 (x8.toNat : Int)).toNat : Int))).toNat : Int))).toNat : Int) + ((ofI32 (16777216 * ((ofI32 (x9.toNat : Int)).toNat : Int))).toNat : Int)))) size75 rfl rfl h3 heqx10 (by rw [List.length_map]; exact (List.getElem?_eq_some_iff.1 (jAk hx10).2.2).1) (R.val rfl) rfl ?_
   intro s44 st44 h3
   rw [← List.map_set] at h3
   have := st44.size
   have hS := hS.c0 st44
   have hE4 := hE4.c0 st44
   have hE5 := hE5.c0 st44
   exact jAi (jCe (jAa (jAc rfl rfl (jBo rfl rfl rfl (jAd rfl rfl (jAi (jAu ⟨(s44, i64 (x4 + 1), x5.set (x4 : Int).toNat (ofI32 (((ofI32 (((ofI32 (((ofI32 (x6.toNat : Int)).toNat : Int) + ((ofI32 (256 * ((ofI32 (x7.toNat : Int)).toNat : Int))).toNat : Int))).toNat : Int) + ((ofI32 (65536 * ((ofI32 (x8.toNat : Int)).toNat : Int))).toNat : Int))).toNat : Int) + ((ofI32 (16777216 * ((ofI32 (x9.toNat : Int)).toNat : Int))).toNat : Int))), j), ⟨lr, trivial⟩, ⟨rfl, rfl, rfl, rfl, rfl, rfl, trivial⟩, ⟨rfl, hE5, h3, h⟩, (by simp)⟩)))))))
  have h := itF h c7
  exact jBq rfl (jAu ⟨(s6, x5), trivial, ⟨rfl, rfl, rfl, rfl, rfl, trivial⟩, ⟨rfl, hE4, h3, h⟩⟩)
 rintro ⟨s45, x3⟩ wL ⟨rfl, hE4, h3, h⟩
 rw [hK4] at h
 have := hE4.size
 have hS := hS.c0 hE4
 replace h1 := h1.up2 hE4
 replace h2 := h2.up2 hE4
 refine jAg (jAa ?_)
 obtain ⟨x11, hx11, h⟩ := ob h
 refine k_makeI2 (dz := dU32 (0 : UInt32)) (p := 16) elem119 rfl rfl (makel_out hx11).1 (RC.val _ rfl) rfl (by have := (makel_out hx11).2.1; omega) (by have := (makel_out hx11).2.1; omega) rfl ?_
 intro s46 v46 b46 st46 ge46 bl46 h46
 rw [← List.map_replicate, ← (makel_out hx11).2.2] at h46
 have := st46.size
 have hS := hS.trans0 st46
 replace h1 := h1.up2 st46
 replace h2 := h2.up2 st46
 replace h3 := h3.up2 st46
 have lt46 := Own.le1 h46
 refine jAd rfl rfl (jAi (jAh [(2, _), (3, _), (4, _), (8, _), (9, _), (11, _)] ⟨rfl, rfl, rfl, rfl, rfl, rfl, trivial⟩ (jAg ?_)))
 obtain ⟨kj12, hK47, h⟩ := jn_out h
 have hE47 := Step.r0 (KC (b46 + 1) 0) s46
 refine jBp (X := St × (List UInt32)) [(2, cW a2), (3, .bool a3), (4, pZ b1), (8, pZ b2), (9, v3), (11, v46)] (fun (xL : St × (List UInt32)) => match xL with | (sl, x13) => []) (fun (xL : St × (List UInt32)) (wL : World) => match xL with | (sl, x13) => sl.w = wL ∧ Step (KC (b46 + 1) 0) s46 sl ∧ (Own sl ⟨b46 + 1, 0⟩ 75 1 v46 (x13.map dU32)) ∧ kj12 x13 = some r) ?_ ?_
 ·
  refine jAg (jAa (jAd rfl rfl (jAi (jAw (jBr (X := St × Int × (List UInt32) × Nat) [(2, _), (3, _), (4, _), (8, _), (9, _), (11, _)] (fun (xL : St × Int × (List UInt32) × Nat) => match xL with | (sl, x14, x15, j) => [(12, .int .i64 x14)]) (fun (xL : St × Int × (List UInt32) × Nat) (wL : World) => match xL with | (sl, x14, x15, j) => sl.w = wL ∧ Step (KC (b46 + 1) 0) s46 sl ∧ (Own sl ⟨b46 + 1, 0⟩ 75 1 v46 (x15.map dU32)) ∧ ref03_Mix_l2 a0 kj12 j x14 x15 = some r) (fun (xL : St × Int × (List UInt32) × Nat) => match xL with | (sl, x14, x15, j) => j) (s46, 0, x11, FU) ⟨rfl, rfl, rfl, rfl, rfl, rfl, trivial⟩ ⟨lr, trivial⟩ ⟨rfl, (Step.refl _).of0 li, h46, h⟩ ?_)))))
  rintro ⟨s49, x14, x15, j⟩ wL ⟨rfl, hE48, h46, h⟩
  cases j with
  | zero => rw [ref03_Mix_l2] at h; exact (noneNe h).elim
  | succ j =>
  rw [ref03_Mix_l2] at h
  have := hE48.size
  have hS := hS.c0 hE48
  have hE47 := hE47.c0 hE48
  replace h1 := h1.up2 hE48
  refine jAg (jAg (jAa (jAc rfl rfl (jBw rfl rfl rfl (jAi (jAh [(2, _), (3, _), (4, _), (8, _), (9, _), (11, _), (12, _), (60, _)] ⟨rfl, rfl, rfl, rfl, rfl, rfl, rfl, rfl, trivial⟩ (jAl rfl (fun c50 => ?_) (fun c50 => ?_))))))))
  ·
   have h := itT h c50
   refine jAv (jAg (jAw (jAg (jAa (jAc rfl rfl (jAc rfl rfl (jAc rfl rfl ?_)))))))
   obtain ⟨x16, hx16, h⟩ := ob h
   refine jBx (m := 0) (xs := (y8 a0)) arr76 rfl rfl rfl hx16 rfl ?_
   obtain ⟨x17, hx17, h⟩ := ob h
   refine jCo cU (pre := []) (post := []) (xs := (y8 a0)) one75 rfl h1 rfl hx17 rfl ?_
   obtain ⟨x18, hx18, h⟩ := ob h
   refine jBe Tryz.underlying119 size75 rfl rfl h46 (jAk hx18).1 (jAr hx18) rfl ?_
   intro qx18 hqx18 heqx18
   refine jBn (dd := dU32 x17) size75 rfl rfl h46 heqx18 (by rw [List.length_map]; exact (List.getElem?_eq_some_iff.1 (jAk hx18).2.2).1) (R.val rfl) rfl ?_
   intro s51 st51 h46
   rw [← List.map_set] at h46
   have := st51.size
   have hS := hS.c0 st51
   have hE47 := hE47.c0 st51
   have hE48 := hE48.c0 st51
   refine jAi (jAh [(2, _), (3, _), (4, _), (8, _), (9, _), (11, _), (12, _)] ⟨rfl, rfl, rfl, rfl, rfl, rfl, rfl, trivial⟩ (jAa (jAc rfl rfl (jAc rfl rfl (jBo rfl rfl rfl (jAc rfl rfl ?_))))))
   obtain ⟨x19, hx19, h⟩ := ob h
   refine jAp cal77 rfl (ref03_IV_w   hx19) rfl ?_
   rintro s52 vr52 st52 rfl
   have := st52.size
   have hS := hS.trans0 st52
   have hE47 := hE47.trans0 st52
   have hE48 := hE48.trans0 st52
   replace h46 := h46.up2 st52
   obtain ⟨x20, hx20, h⟩ := ob h
   refine jBe Tryz.underlying119 size75 rfl rfl h46 (jAk hx20).1 (jAr hx20) rfl ?_
   intro qx20 hqx20 heqx20
   refine jBn (dd := dU32 x19) size75 rfl rfl h46 heqx20 (by rw [List.length_map]; exact (List.getElem?_eq_some_iff.1 (jAk hx20).2.2).1) (R.val rfl) rfl ?_
   intro s53 st53 h46
   rw [← List.map_set] at h46
   have := st53.size
   have hS := hS.c0 st53
   have hE47 := hE47.c0 st53
   have hE48 := hE48.c0 st53
   exact jAi (jCe (jAa (jAc rfl rfl (jBo rfl rfl rfl (jAd rfl rfl (jAi (jAu ⟨(s53, i64 (x14 + 1), (x15.set (x14 : Int).toNat x17).set (i64 (x14 + 8) : Int).toNat x19, j), ⟨lr, trivial⟩, ⟨rfl, rfl, rfl, rfl, rfl, rfl, trivial⟩, ⟨rfl, hE48, h46, h⟩, (by simp)⟩)))))))
  have h := itF h c50
  exact jBq rfl (jAu ⟨(s49, x15), trivial, ⟨rfl, rfl, rfl, rfl, rfl, rfl, trivial⟩, ⟨rfl, hE47, h46, h⟩⟩)
 rintro ⟨s54, x13⟩ wL ⟨rfl, hE47, h46, h⟩
 rw [hK47] at h
 have := hE47.size
 have hS := hS.c0 hE47
 replace h1 := h1.up2 hE47
 replace h2 := h2.up2 hE47
 replace h3 := h3.up2 hE47
 refine jAg (jAa (jAc rfl rfl (jAc rfl rfl ?_)))
 obtain ⟨x21, hx21, h⟩ := ob h
 refine jBe Tryz.underlying119 size75 rfl rfl h46 (jAk hx21).1 (jAr hx21) rfl ?_
 intro qx21 hqx21 heqx21
 refine jAq one75 rfl hqx21 rfl (jAc rfl rfl (k_rem rfl rfl (by decide) rfl (k_as (congrArg (Value.int .u64) (rem64 _ _)) (jBz (p := ((ofI64 ((a2.toNat : Int).tmod 4294967296)).toNat : Int)) Tryz.underlying22 Tryz.underlying75 rfl rfl (k_as (congrArg (Value.int .u32) (w32 _)) (jCm (p := (x21.toNat : Int)) (q := ((ofI32 ((ofI64 ((a2.toNat : Int).tmod 4294967296)).toNat : Int)).toNat : Int)) (.inr (.inr (.inl ⟨rfl, rfl⟩))) rfl rfl rfl (k_as (congrArg (Value.int .u32) (xor32 _ _)) ?_)))))))
 obtain ⟨x22, hx22, h⟩ := ob h
 refine jBe Tryz.underlying119 size75 rfl rfl h46 (jAk hx22).1 (jAr hx22) rfl ?_
 intro qx22 hqx22 heqx22
 refine jBn (dd := dU32 (x21 ^^^ (ofI32 ((ofI64 ((a2.toNat : Int).tmod 4294967296)).toNat : Int)))) size75 rfl rfl h46 heqx22 (by rw [List.length_map]; exact (List.getElem?_eq_some_iff.1 (jAk hx22).2.2).1) (R.val rfl) rfl ?_
 intro s55 st55 h46
 rw [← List.map_set] at h46
 have := st55.size
 have hS := hS.c0 st55
 replace h1 := h1.up2 st55
 replace h2 := h2.up2 st55
 replace h3 := h3.up2 st55
 refine jAi (jAh [(2, _), (3, _), (4, _), (8, _), (9, _), (11, _)] ⟨rfl, rfl, rfl, rfl, rfl, rfl, trivial⟩ (jAg (jAa (jAc rfl rfl (jAc rfl rfl ?_)))))
 obtain ⟨x23, hx23, h⟩ := ob h
 refine jBe Tryz.underlying119 size75 rfl rfl h46 (jAk hx23).1 (jAr hx23) rfl ?_
 intro qx23 hqx23 heqx23
 refine jAq one75 rfl hqx23 rfl (jAc rfl rfl (k_quo rfl rfl (by decide) rfl (k_as (congrArg (Value.int .u64) (w64 _)) (jBz (p := ((ofI64 ((a2.toNat : Int).tdiv 4294967296)).toNat : Int)) Tryz.underlying22 Tryz.underlying75 rfl rfl (k_as (congrArg (Value.int .u32) (w32 _)) (jCm (p := (x23.toNat : Int)) (q := ((ofI32 ((ofI64 ((a2.toNat : Int).tdiv 4294967296)).toNat : Int)).toNat : Int)) (.inr (.inr (.inl ⟨rfl, rfl⟩))) rfl rfl rfl (k_as (congrArg (Value.int .u32) (xor32 _ _)) ?_)))))))
 obtain ⟨x24, hx24, h⟩ := ob h
 refine jBe Tryz.underlying119 size75 rfl rfl h46 (jAk hx24).1 (jAr hx24) rfl ?_
 intro qx24 hqx24 heqx24
 refine jBn (dd := dU32 (x23 ^^^ (ofI32 ((ofI64 ((a2.toNat : Int).tdiv 4294967296)).toNat : Int)))) size75 rfl rfl h46 heqx24 (by rw [List.length_map]; exact (List.getElem?_eq_some_iff.1 (jAk hx24).2.2).1) (R.val rfl) rfl ?_
 intro s56 st56 h46
 rw [← List.map_set] at h46
 have := st56.size
 have hS := hS.c0 st56
 replace h1 := h1.up2 st56
 replace h2 := h2.up2 st56
 replace h3 := h3.up2 st56
 refine jAi (jAh [(3, _), (4, _), (8, _), (9, _), (11, _)] ⟨rfl, rfl, rfl, rfl, rfl, trivial⟩ (jAg ?_))
 obtain ⟨kj25, hK57, h⟩ := jn_out h
 have hE57 := Step.r0 (KC (b46 + 1) 0) s56
 refine jBp (X := St × (List UInt32)) [(4, pZ b1), (8, pZ b2), (9, v3), (11, v46)] (fun (xL : St × (List UInt32)) => match xL with | (sl, x26) => []) (fun (xL : St × (List UInt32)) (wL : World) => match xL with | (sl, x26) => sl.w = wL ∧ Step (KC (b46 + 1) 0) s56 sl ∧ (Own sl ⟨b46 + 1, 0⟩ 75 1 v46 (x26.map dU32)) ∧ kj25 x26 = some r) ?_ ?_
 ·
  refine jAg (jAa (jAc rfl rfl (jAi (jAh [(4, _), (8, _), (9, _), (11, _), (93, _)] ⟨rfl, rfl, rfl, rfl, rfl, trivial⟩ (jCk rfl (fun c58 => ?_) (fun c58 => ?_))))))
  ·
   have h := ibT h c58
   refine jAa (jAc rfl rfl (jAc rfl rfl ?_))
   obtain ⟨x27, hx27, h⟩ := ob h
   refine jBe Tryz.underlying119 size75 rfl rfl h46 (jAk hx27).1 (jAr hx27) rfl ?_
   intro qx27 hqx27 heqx27
   refine jAq one75 rfl hqx27 rfl (jCm (p := (x27.toNat : Int)) (q := ((4294967295 : UInt32).toNat : Int)) (.inr (.inr (.inl ⟨rfl, rfl⟩))) rfl rfl rfl (k_as (congrArg (Value.int .u32) (xor32 _ _)) ?_))
   obtain ⟨x28, hx28, h⟩ := ob h
   refine jBe Tryz.underlying119 size75 rfl rfl h46 (jAk hx28).1 (jAr hx28) rfl ?_
   intro qx28 hqx28 heqx28
   refine jBn (dd := dU32 (x27 ^^^ (4294967295 : UInt32))) size75 rfl rfl h46 heqx28 (by rw [List.length_map]; exact (List.getElem?_eq_some_iff.1 (jAk hx28).2.2).1) (R.val rfl) rfl ?_
   intro s59 st59 h46
   rw [← List.map_set] at h46
   have := st59.size
   have hS := hS.c0 st59
   have hE57 := hE57.c0 st59
   exact jAi (jAu ⟨(s59, ((x13.set (12 : Int).toNat (x21 ^^^ (ofI32 ((ofI64 ((a2.toNat : Int).tmod 4294967296)).toNat : Int)))).set (13 : Int).toNat (x23 ^^^ (ofI32 ((ofI64 ((a2.toNat : Int).tdiv 4294967296)).toNat : Int)))).set (14 : Int).toNat (x27 ^^^ (4294967295 : UInt32))), trivial, ⟨rfl, rfl, rfl, rfl, trivial⟩, ⟨rfl, hE57, h46, h⟩⟩)
  have h := ibF h c58
  exact jAv (jAu ⟨(s56, (x13.set (12 : Int).toNat (x21 ^^^ (ofI32 ((ofI64 ((a2.toNat : Int).tmod 4294967296)).toNat : Int)))).set (13 : Int).toNat (x23 ^^^ (ofI32 ((ofI64 ((a2.toNat : Int).tdiv 4294967296)).toNat : Int)))), trivial, ⟨rfl, rfl, rfl, rfl, trivial⟩, ⟨rfl, hE57, h46, h⟩⟩)
 rintro ⟨s60, x26⟩ wL ⟨rfl, hE57, h46, h⟩
 rw [hK57] at h
 have := hE57.size
 have hS := hS.c0 hE57
 replace h1 := h1.up2 hE57
 replace h2 := h2.up2 hE57
 replace h3 := h3.up2 hE57
 refine jAg (jAa ?_)
 obtain ⟨x29, hx29, h⟩ := ob h
 refine jAp cal98 rfl (ref03_orders_w   hx29) rfl ?_
 rintro s61 v61_0 st61 ⟨_, rfl, h61_0⟩
 have := st61.size
 have hS := hS.trans0 st61
 replace h1 := h1.up2 st61
 replace h2 := h2.up2 st61
 replace h3 := h3.up2 st61
 replace h46 := h46.up2 st61
 refine jAd rfl rfl (jAi (jAh [(4, _), (8, _), (9, _), (11, _), (13, _)] ⟨rfl, rfl, rfl, rfl, rfl, trivial⟩ (jAg ?_)))
 obtain ⟨kj30, hK62, h⟩ := jn_out h
 have hE62 := Step.r0 (KC (b46 + 1) 0) s61
 refine jBp (X := St × (List UInt32)) [(4, pZ b1), (8, pZ b2), (11, v46)] (fun (xL : St × (List UInt32)) => match xL with | (sl, x31) => []) (fun (xL : St × (List UInt32)) (wL : World) => match xL with | (sl, x31) => sl.w = wL ∧ Step (KC (b46 + 1) 0) s61 sl ∧ (Own sl ⟨b46 + 1, 0⟩ 75 1 v46 (x31.map dU32)) ∧ kj30 x31 = some r) ?_ ?_
 ·
  refine jAg (jAa (jAd rfl rfl (jAi (jAw (jBr (X := St × Int × (List UInt32) × Nat) [(4, _), (8, _), (9, _), (11, _), (13, _)] (fun (xL : St × Int × (List UInt32) × Nat) => match xL with | (sl, x32, x33, j) => [(14, .int .i64 x32)]) (fun (xL : St × Int × (List UInt32) × Nat) (wL : World) => match xL with | (sl, x32, x33, j) => sl.w = wL ∧ Step (KC (b46 + 1) 0) s61 sl ∧ (Own sl ⟨b46 + 1, 0⟩ 75 1 v46 (x33.map dU32)) ∧ ref03_Mix_l3 x29 x3 kj30 j x32 x33 = some r) (fun (xL : St × Int × (List UInt32) × Nat) => match xL with | (sl, x32, x33, j) => j) (s61, 0, x26, FU) ⟨rfl, rfl, rfl, rfl, rfl, trivial⟩ ⟨lr, trivial⟩ ⟨rfl, (Step.refl _).of0 li, h46, h⟩ ?_)))))
  rintro ⟨s64, x32, x33, j⟩ wL ⟨rfl, hE63, h46, h⟩
  cases j with
  | zero => rw [ref03_Mix_l3] at h; exact (noneNe h).elim
  | succ j =>
  rw [ref03_Mix_l3] at h
  have := hE63.size
  have hS := hS.c0 hE63
  have hE62 := hE62.c0 hE63
  replace h61_0 := h61_0.up2 hE63
  replace h3 := h3.up2 hE63
  refine jAg (jAg (jAa (jAc rfl rfl (jBw rfl rfl rfl (jAi (jAh [(4, _), (8, _), (9, _), (11, _), (13, _), (14, _), (102, _)] ⟨rfl, rfl, rfl, rfl, rfl, rfl, rfl, trivial⟩ (jAl rfl (fun c65 => ?_) (fun c65 => ?_))))))))
  ·
   have h := itT h c65
   refine jAv (jAg (jAw (jAg (jAa (jAc rfl rfl (jAc rfl rfl ?_))))))
   obtain ⟨x34, hx34, h⟩ := ob h
   refine jCd Tryz.underlying129 size68 rfl rfl (SL.of_R h61_0) (jAk hx34).1 (jAr hx34) rfl ?_
   intro qx34 hqx34
   refine k_load_sl one68 rfl hqx34 rfl ?_
   intro v66 h66
   refine jAd rfl rfl (jAi (jAh [(4, _), (8, _), (9, _), (11, _), (13, _), (14, _), (15, _)] ⟨rfl, rfl, rfl, rfl, rfl, rfl, rfl, trivial⟩ (jAg (jBl (KN s64.n) 13 (.read 0 (.read 1 (.read 2 (.read 3 (.read 4 (.read 5 (.read 6 (.read 7 (.read 8 (.read 9 (.read 10 (.read 11 (.read 12 .fin))))))))))))) mixed lw rfl rfl rfl ?_))))
   intro s67 st67
   have := st67.size
   have hS := hS.trans0 st67
   have hE62 := hE62.trans0 st67
   have hE63 := hE63.trans0 st67
   replace h66 := h66.up2 st67
   replace h3 := h3.up2 st67
   replace h46 := h46.up2 st67
   refine jAb (v46) rfl rfl (fun s68 st68 => ?_) ?_
   ·exact jAc rfl rfl (jAe)
   refine jAb (v3) rfl rfl (fun s69 st69 => ?_) ?_
   ·exact jAc rfl rfl (jAe)
   refine jAb (v66) rfl rfl (fun s70 st70 => ?_) ?_
   ·exact jAc rfl rfl (jAe)
   obtain ⟨x35, hx35, h⟩ := ob h
   refine jBy rfl (wanted_none rfl) Tryz.underlying68 size3 rfl rfl (SL.of_R h66) (jAk hx35).1 (jAr hx35) rfl ?_
   intro q71 hq71
   refine jAb (.int .i64 x35) rfl rfl (fun s72 st72 => ?_) ?_
   ·try replace hq71 := hq71.up2 st72
    exact jAq one3 rfl hq71 rfl (jAe)
   obtain ⟨x36, hx36, h⟩ := ob h
   refine jBy rfl (wanted_none rfl) Tryz.underlying119 size75 rfl rfl (h3.sl) (jAk hx36).1 (jAr hx36) rfl ?_
   intro q73 hq73
   refine jAb (cU x36) rfl rfl (fun s74 st74 => ?_) ?_
   ·try replace hq73 := hq73.up2 st74
    exact jAq one75 rfl hq73 rfl (jAe)
   refine jAb (v3) rfl rfl (fun s75 st75 => ?_) ?_
   ·exact jAc rfl rfl (jAe)
   refine jAb (v66) rfl rfl (fun s76 st76 => ?_) ?_
   ·exact jAc rfl rfl (jAe)
   obtain ⟨x37, hx37, h⟩ := ob h
   refine jBy rfl (wanted_none rfl) Tryz.underlying68 size3 rfl rfl (SL.of_R h66) (jAk hx37).1 (jAr hx37) rfl ?_
   intro q77 hq77
   refine jAb (.int .i64 x37) rfl rfl (fun s78 st78 => ?_) ?_
   ·try replace hq77 := hq77.up2 st78
    exact jAq one3 rfl hq77 rfl (jAe)
   obtain ⟨x38, hx38, h⟩ := ob h
   refine jBy rfl (wanted_none rfl) Tryz.underlying119 size75 rfl rfl (h3.sl) (jAk hx38).1 (jAr hx38) rfl ?_
   intro q79 hq79
   refine jAb (cU x38) rfl rfl (fun s80 st80 => ?_) ?_
   ·try replace hq79 := hq79.up2 st80
    exact jAq one75 rfl hq79 rfl (jAe)
   refine jBg ?_
   obtain ⟨x39, hx39, h⟩ := ob h
   refine jAp cal99 rfl (ref03_stir_w  h46 la hx39) rfl ?_
   rintro s81 vr81 st81 ⟨rfl, h46⟩
   have := st81.size
   have hS := hS.c0 st81
   have hE62 := hE62.c0 st81
   have hE63 := hE63.c0 st81
   replace h66 := h66.up2 st81
   replace h3 := h3.up2 st81
   refine jAi (jAh [(4, _), (8, _), (9, _), (11, _), (13, _), (14, _), (15, _)] ⟨rfl, rfl, rfl, rfl, rfl, rfl, rfl, trivial⟩ (jAg (jBl (KN s81.n) 13 (.read 0 (.read 1 (.read 2 (.read 3 (.read 4 (.read 5 (.read 6 (.read 7 (.read 8 (.read 9 (.read 10 (.read 11 (.read 12 .fin))))))))))))) mixed lw rfl rfl rfl ?_)))
   intro s82 st82
   have := st82.size
   have hS := hS.trans0 st82
   have hE62 := hE62.trans0 st82
   have hE63 := hE63.trans0 st82
   replace h66 := h66.up2 st82
   replace h3 := h3.up2 st82
   replace h46 := h46.up2 st82
   refine jAb (v46) rfl rfl (fun s83 st83 => ?_) ?_
   ·exact jAc rfl rfl (jAe)
   refine jAb (v3) rfl rfl (fun s84 st84 => ?_) ?_
   ·exact jAc rfl rfl (jAe)
   refine jAb (v66) rfl rfl (fun s85 st85 => ?_) ?_
   ·exact jAc rfl rfl (jAe)
   obtain ⟨x40, hx40, h⟩ := ob h
   refine jBy rfl (wanted_none rfl) Tryz.underlying68 size3 rfl rfl (SL.of_R h66) (jAk hx40).1 (jAr hx40) rfl ?_
   intro q86 hq86
   refine jAb (.int .i64 x40) rfl rfl (fun s87 st87 => ?_) ?_
   ·try replace hq86 := hq86.up2 st87
    exact jAq one3 rfl hq86 rfl (jAe)
   obtain ⟨x41, hx41, h⟩ := ob h
   refine jBy rfl (wanted_none rfl) Tryz.underlying119 size75 rfl rfl (h3.sl) (jAk hx41).1 (jAr hx41) rfl ?_
   intro q88 hq88
   refine jAb (cU x41) rfl rfl (fun s89 st89 => ?_) ?_
   ·try replace hq88 := hq88.up2 st89
    exact jAq one75 rfl hq88 rfl (jAe)
   refine jAb (v3) rfl rfl (fun s90 st90 => ?_) ?_
   ·exact jAc rfl rfl (jAe)
   refine jAb (v66) rfl rfl (fun s91 st91 => ?_) ?_
   ·exact jAc rfl rfl (jAe)
   obtain ⟨x42, hx42, h⟩ := ob h
   refine jBy rfl (wanted_none rfl) Tryz.underlying68 size3 rfl rfl (SL.of_R h66) (jAk hx42).1 (jAr hx42) rfl ?_
   intro q92 hq92
   refine jAb (.int .i64 x42) rfl rfl (fun s93 st93 => ?_) ?_
   ·try replace hq92 := hq92.up2 st93
    exact jAq one3 rfl hq92 rfl (jAe)
   obtain ⟨x43, hx43, h⟩ := ob h
   refine jBy rfl (wanted_none rfl) Tryz.underlying119 size75 rfl rfl (h3.sl) (jAk hx43).1 (jAr hx43) rfl ?_
   intro q94 hq94
   refine jAb (cU x43) rfl rfl (fun s95 st95 => ?_) ?_
   ·try replace hq94 := hq94.up2 st95
    exact jAq one75 rfl hq94 rfl (jAe)
   refine jBg ?_
   obtain ⟨x44, hx44, h⟩ := ob h
   refine jAp cal99 rfl (ref03_stir_w  h46 la hx44) rfl ?_
   rintro s96 vr96 st96 ⟨rfl, h46⟩
   have := st96.size
   have hS := hS.c0 st96
   have hE62 := hE62.c0 st96
   have hE63 := hE63.c0 st96
   replace h66 := h66.up2 st96
   replace h3 := h3.up2 st96
   refine jAi (jAh [(4, _), (8, _), (9, _), (11, _), (13, _), (14, _), (15, _)] ⟨rfl, rfl, rfl, rfl, rfl, rfl, rfl, trivial⟩ (jAg (jBl (KN s96.n) 13 (.read 0 (.read 1 (.read 2 (.read 3 (.read 4 (.read 5 (.read 6 (.read 7 (.read 8 (.read 9 (.read 10 (.read 11 (.read 12 .fin))))))))))))) mixed lw rfl rfl rfl ?_)))
   intro s97 st97
   have := st97.size
   have hS := hS.trans0 st97
   have hE62 := hE62.trans0 st97
   have hE63 := hE63.trans0 st97
   replace h66 := h66.up2 st97
   replace h3 := h3.up2 st97
   replace h46 := h46.up2 st97
   refine jAb (v46) rfl rfl (fun s98 st98 => ?_) ?_
   ·exact jAc rfl rfl (jAe)
   refine jAb (v3) rfl rfl (fun s99 st99 => ?_) ?_
   ·exact jAc rfl rfl (jAe)
   refine jAb (v66) rfl rfl (fun s100 st100 => ?_) ?_
   ·exact jAc rfl rfl (jAe)
   obtain ⟨x45, hx45, h⟩ := ob h
   refine jBy rfl (wanted_none rfl) Tryz.underlying68 size3 rfl rfl (SL.of_R h66) (jAk hx45).1 (jAr hx45) rfl ?_
   intro q101 hq101
   refine jAb (.int .i64 x45) rfl rfl (fun s102 st102 => ?_) ?_
   ·try replace hq101 := hq101.up2 st102
    exact jAq one3 rfl hq101 rfl (jAe)
   obtain ⟨x46, hx46, h⟩ := ob h
   refine jBy rfl (wanted_none rfl) Tryz.underlying119 size75 rfl rfl (h3.sl) (jAk hx46).1 (jAr hx46) rfl ?_
   intro q103 hq103
   refine jAb (cU x46) rfl rfl (fun s104 st104 => ?_) ?_
   ·try replace hq103 := hq103.up2 st104
    exact jAq one75 rfl hq103 rfl (jAe)
   refine jAb (v3) rfl rfl (fun s105 st105 => ?_) ?_
   ·exact jAc rfl rfl (jAe)
   refine jAb (v66) rfl rfl (fun s106 st106 => ?_) ?_
   ·exact jAc rfl rfl (jAe)
   obtain ⟨x47, hx47, h⟩ := ob h
   refine jBy rfl (wanted_none rfl) Tryz.underlying68 size3 rfl rfl (SL.of_R h66) (jAk hx47).1 (jAr hx47) rfl ?_
   intro q107 hq107
   refine jAb (.int .i64 x47) rfl rfl (fun s108 st108 => ?_) ?_
   ·try replace hq107 := hq107.up2 st108
    exact jAq one3 rfl hq107 rfl (jAe)
   obtain ⟨x48, hx48, h⟩ := ob h
   refine jBy rfl (wanted_none rfl) Tryz.underlying119 size75 rfl rfl (h3.sl) (jAk hx48).1 (jAr hx48) rfl ?_
   intro q109 hq109
   refine jAb (cU x48) rfl rfl (fun s110 st110 => ?_) ?_
   ·try replace hq109 := hq109.up2 st110
    exact jAq one75 rfl hq109 rfl (jAe)
   refine jBg ?_
   obtain ⟨x49, hx49, h⟩ := ob h
   refine jAp cal99 rfl (ref03_stir_w  h46 la hx49) rfl ?_
   rintro s111 vr111 st111 ⟨rfl, h46⟩
   have := st111.size
   have hS := hS.c0 st111
   have hE62 := hE62.c0 st111
   have hE63 := hE63.c0 st111
   replace h66 := h66.up2 st111
   replace h3 := h3.up2 st111
   refine jAi (jAh [(4, _), (8, _), (9, _), (11, _), (13, _), (14, _), (15, _)] ⟨rfl, rfl, rfl, rfl, rfl, rfl, rfl, trivial⟩ (jAg (jBl (KN s111.n) 13 (.read 0 (.read 1 (.read 2 (.read 3 (.read 4 (.read 5 (.read 6 (.read 7 (.read 8 (.read 9 (.read 10 (.read 11 (.read 12 .fin))))))))))))) mixed lw rfl rfl rfl ?_)))
   intro s112 st112
   have := st112.size
   have hS := hS.trans0 st112
   have hE62 := hE62.trans0 st112
   have hE63 := hE63.trans0 st112
   replace h66 := h66.up2 st112
   replace h3 := h3.up2 st112
   replace h46 := h46.up2 st112
   refine jAb (v46) rfl rfl (fun s113 st113 => ?_) ?_
   ·exact jAc rfl rfl (jAe)
   refine jAb (v3) rfl rfl (fun s114 st114 => ?_) ?_
   ·exact jAc rfl rfl (jAe)
   refine jAb (v66) rfl rfl (fun s115 st115 => ?_) ?_
   ·exact jAc rfl rfl (jAe)
   obtain ⟨x50, hx50, h⟩ := ob h
   refine jBy rfl (wanted_none rfl) Tryz.underlying68 size3 rfl rfl (SL.of_R h66) (jAk hx50).1 (jAr hx50) rfl ?_
   intro q116 hq116
   refine jAb (.int .i64 x50) rfl rfl (fun s117 st117 => ?_) ?_
   ·try replace hq116 := hq116.up2 st117
    exact jAq one3 rfl hq116 rfl (jAe)
   obtain ⟨x51, hx51, h⟩ := ob h
   refine jBy rfl (wanted_none rfl) Tryz.underlying119 size75 rfl rfl (h3.sl) (jAk hx51).1 (jAr hx51) rfl ?_
   intro q118 hq118
   refine jAb (cU x51) rfl rfl (fun s119 st119 => ?_) ?_
   ·try replace hq118 := hq118.up2 st119
    exact jAq one75 rfl hq118 rfl (jAe)
   refine jAb (v3) rfl rfl (fun s120 st120 => ?_) ?_
   ·exact jAc rfl rfl (jAe)
   refine jAb (v66) rfl rfl (fun s121 st121 => ?_) ?_
   ·exact jAc rfl rfl (jAe)
   obtain ⟨x52, hx52, h⟩ := ob h
   refine jBy rfl (wanted_none rfl) Tryz.underlying68 size3 rfl rfl (SL.of_R h66) (jAk hx52).1 (jAr hx52) rfl ?_
   intro q122 hq122
   refine jAb (.int .i64 x52) rfl rfl (fun s123 st123 => ?_) ?_
   ·try replace hq122 := hq122.up2 st123
    exact jAq one3 rfl hq122 rfl (jAe)
   obtain ⟨x53, hx53, h⟩ := ob h
   refine jBy rfl (wanted_none rfl) Tryz.underlying119 size75 rfl rfl (h3.sl) (jAk hx53).1 (jAr hx53) rfl ?_
   intro q124 hq124
   refine jAb (cU x53) rfl rfl (fun s125 st125 => ?_) ?_
   ·try replace hq124 := hq124.up2 st125
    exact jAq one75 rfl hq124 rfl (jAe)
   refine jBg ?_
   obtain ⟨x54, hx54, h⟩ := ob h
   refine jAp cal99 rfl (ref03_stir_w  h46 la hx54) rfl ?_
   rintro s126 vr126 st126 ⟨rfl, h46⟩
   have := st126.size
   have hS := hS.c0 st126
   have hE62 := hE62.c0 st126
   have hE63 := hE63.c0 st126
   replace h66 := h66.up2 st126
   replace h3 := h3.up2 st126
   refine jAi (jAh [(4, _), (8, _), (9, _), (11, _), (13, _), (14, _), (15, _)] ⟨rfl, rfl, rfl, rfl, rfl, rfl, rfl, trivial⟩ (jAg (jBl (KN s126.n) 13 (.read 0 (.read 1 (.read 2 (.read 3 (.read 4 (.read 5 (.read 6 (.read 7 (.read 8 (.read 9 (.read 10 (.read 11 (.read 12 .fin))))))))))))) mixed lw rfl rfl rfl ?_)))
   intro s127 st127
   have := st127.size
   have hS := hS.trans0 st127
   have hE62 := hE62.trans0 st127
   have hE63 := hE63.trans0 st127
   replace h66 := h66.up2 st127
   replace h3 := h3.up2 st127
   replace h46 := h46.up2 st127
   refine jAb (v46) rfl rfl (fun s128 st128 => ?_) ?_
   ·exact jAc rfl rfl (jAe)
   refine jAb (v3) rfl rfl (fun s129 st129 => ?_) ?_
   ·exact jAc rfl rfl (jAe)
   refine jAb (v66) rfl rfl (fun s130 st130 => ?_) ?_
   ·exact jAc rfl rfl (jAe)
   obtain ⟨x55, hx55, h⟩ := ob h
   refine jBy rfl (wanted_none rfl) Tryz.underlying68 size3 rfl rfl (SL.of_R h66) (jAk hx55).1 (jAr hx55) rfl ?_
   intro q131 hq131
   refine jAb (.int .i64 x55) rfl rfl (fun s132 st132 => ?_) ?_
   ·try replace hq131 := hq131.up2 st132
    exact jAq one3 rfl hq131 rfl (jAe)
   obtain ⟨x56, hx56, h⟩ := ob h
   refine jBy rfl (wanted_none rfl) Tryz.underlying119 size75 rfl rfl (h3.sl) (jAk hx56).1 (jAr hx56) rfl ?_
   intro q133 hq133
   refine jAb (cU x56) rfl rfl (fun s134 st134 => ?_) ?_
   ·try replace hq133 := hq133.up2 st134
    exact jAq one75 rfl hq133 rfl (jAe)
   refine jAb (v3) rfl rfl (fun s135 st135 => ?_) ?_
   ·exact jAc rfl rfl (jAe)
   refine jAb (v66) rfl rfl (fun s136 st136 => ?_) ?_
   ·exact jAc rfl rfl (jAe)
   obtain ⟨x57, hx57, h⟩ := ob h
   refine jBy rfl (wanted_none rfl) Tryz.underlying68 size3 rfl rfl (SL.of_R h66) (jAk hx57).1 (jAr hx57) rfl ?_
   intro q137 hq137
   refine jAb (.int .i64 x57) rfl rfl (fun s138 st138 => ?_) ?_
   ·try replace hq137 := hq137.up2 st138
    exact jAq one3 rfl hq137 rfl (jAe)
   obtain ⟨x58, hx58, h⟩ := ob h
   refine jBy rfl (wanted_none rfl) Tryz.underlying119 size75 rfl rfl (h3.sl) (jAk hx58).1 (jAr hx58) rfl ?_
   intro q139 hq139
   refine jAb (cU x58) rfl rfl (fun s140 st140 => ?_) ?_
   ·try replace hq139 := hq139.up2 st140
    exact jAq one75 rfl hq139 rfl (jAe)
   refine jBg ?_
   obtain ⟨x59, hx59, h⟩ := ob h
   refine jAp cal99 rfl (ref03_stir_w  h46 la hx59) rfl ?_
   rintro s141 vr141 st141 ⟨rfl, h46⟩
   have := st141.size
   have hS := hS.c0 st141
   have hE62 := hE62.c0 st141
   have hE63 := hE63.c0 st141
   replace h66 := h66.up2 st141
   replace h3 := h3.up2 st141
   refine jAi (jAh [(4, _), (8, _), (9, _), (11, _), (13, _), (14, _), (15, _)] ⟨rfl, rfl, rfl, rfl, rfl, rfl, rfl, trivial⟩ (jAg (jBl (KN s141.n) 13 (.read 0 (.read 1 (.read 2 (.read 3 (.read 4 (.read 5 (.read 6 (.read 7 (.read 8 (.read 9 (.read 10 (.read 11 (.read 12 .fin))))))))))))) mixed lw rfl rfl rfl ?_)))
   intro s142 st142
   have := st142.size
   have hS := hS.trans0 st142
   have hE62 := hE62.trans0 st142
   have hE63 := hE63.trans0 st142
   replace h66 := h66.up2 st142
   replace h3 := h3.up2 st142
   replace h46 := h46.up2 st142
   refine jAb (v46) rfl rfl (fun s143 st143 => ?_) ?_
   ·exact jAc rfl rfl (jAe)
   refine jAb (v3) rfl rfl (fun s144 st144 => ?_) ?_
   ·exact jAc rfl rfl (jAe)
   refine jAb (v66) rfl rfl (fun s145 st145 => ?_) ?_
   ·exact jAc rfl rfl (jAe)
   obtain ⟨x60, hx60, h⟩ := ob h
   refine jBy rfl (wanted_none rfl) Tryz.underlying68 size3 rfl rfl (SL.of_R h66) (jAk hx60).1 (jAr hx60) rfl ?_
   intro q146 hq146
   refine jAb (.int .i64 x60) rfl rfl (fun s147 st147 => ?_) ?_
   ·try replace hq146 := hq146.up2 st147
    exact jAq one3 rfl hq146 rfl (jAe)
   obtain ⟨x61, hx61, h⟩ := ob h
   refine jBy rfl (wanted_none rfl) Tryz.underlying119 size75 rfl rfl (h3.sl) (jAk hx61).1 (jAr hx61) rfl ?_
   intro q148 hq148
   refine jAb (cU x61) rfl rfl (fun s149 st149 => ?_) ?_
   ·try replace hq148 := hq148.up2 st149
    exact jAq one75 rfl hq148 rfl (jAe)
   refine jAb (v3) rfl rfl (fun s150 st150 => ?_) ?_
   ·exact jAc rfl rfl (jAe)
   refine jAb (v66) rfl rfl (fun s151 st151 => ?_) ?_
   ·exact jAc rfl rfl (jAe)
   obtain ⟨x62, hx62, h⟩ := ob h
   refine jBy rfl (wanted_none rfl) Tryz.underlying68 size3 rfl rfl (SL.of_R h66) (jAk hx62).1 (jAr hx62) rfl ?_
   intro q152 hq152
   refine jAb (.int .i64 x62) rfl rfl (fun s153 st153 => ?_) ?_
   ·try replace hq152 := hq152.up2 st153
    exact jAq one3 rfl hq152 rfl (jAe)
   obtain ⟨x63, hx63, h⟩ := ob h
   refine jBy rfl (wanted_none rfl) Tryz.underlying119 size75 rfl rfl (h3.sl) (jAk hx63).1 (jAr hx63) rfl ?_
   intro q154 hq154
   refine jAb (cU x63) rfl rfl (fun s155 st155 => ?_) ?_
   ·try replace hq154 := hq154.up2 st155
    exact jAq one75 rfl hq154 rfl (jAe)
   refine jBg ?_
   obtain ⟨x64, hx64, h⟩ := ob h
   refine jAp cal99 rfl (ref03_stir_w  h46 la hx64) rfl ?_
   rintro s156 vr156 st156 ⟨rfl, h46⟩
   have := st156.size
   have hS := hS.c0 st156
   have hE62 := hE62.c0 st156
   have hE63 := hE63.c0 st156
   replace h66 := h66.up2 st156
   replace h3 := h3.up2 st156
   refine jAi (jAh [(4, _), (8, _), (9, _), (11, _), (13, _), (14, _), (15, _)] ⟨rfl, rfl, rfl, rfl, rfl, rfl, rfl, trivial⟩ (jAg (jBl (KN s156.n) 13 (.read 0 (.read 1 (.read 2 (.read 3 (.read 4 (.read 5 (.read 6 (.read 7 (.read 8 (.read 9 (.read 10 (.read 11 (.read 12 .fin))))))))))))) mixed lw rfl rfl rfl ?_)))
   intro s157 st157
   have := st157.size
   have hS := hS.trans0 st157
   have hE62 := hE62.trans0 st157
   have hE63 := hE63.trans0 st157
   replace h66 := h66.up2 st157
   replace h3 := h3.up2 st157
   replace h46 := h46.up2 st157
   refine jAb (v46) rfl rfl (fun s158 st158 => ?_) ?_
   ·exact jAc rfl rfl (jAe)
   refine jAb (v3) rfl rfl (fun s159 st159 => ?_) ?_
   ·exact jAc rfl rfl (jAe)
   refine jAb (v66) rfl rfl (fun s160 st160 => ?_) ?_
   ·exact jAc rfl rfl (jAe)
   obtain ⟨x65, hx65, h⟩ := ob h
   refine jBy rfl (wanted_none rfl) Tryz.underlying68 size3 rfl rfl (SL.of_R h66) (jAk hx65).1 (jAr hx65) rfl ?_
   intro q161 hq161
   refine jAb (.int .i64 x65) rfl rfl (fun s162 st162 => ?_) ?_
   ·try replace hq161 := hq161.up2 st162
    exact jAq one3 rfl hq161 rfl (jAe)
   obtain ⟨x66, hx66, h⟩ := ob h
   refine jBy rfl (wanted_none rfl) Tryz.underlying119 size75 rfl rfl (h3.sl) (jAk hx66).1 (jAr hx66) rfl ?_
   intro q163 hq163
   refine jAb (cU x66) rfl rfl (fun s164 st164 => ?_) ?_
   ·try replace hq163 := hq163.up2 st164
    exact jAq one75 rfl hq163 rfl (jAe)
   refine jAb (v3) rfl rfl (fun s165 st165 => ?_) ?_
   ·exact jAc rfl rfl (jAe)
   refine jAb (v66) rfl rfl (fun s166 st166 => ?_) ?_
   ·exact jAc rfl rfl (jAe)
   obtain ⟨x67, hx67, h⟩ := ob h
   refine jBy rfl (wanted_none rfl) Tryz.underlying68 size3 rfl rfl (SL.of_R h66) (jAk hx67).1 (jAr hx67) rfl ?_
   intro q167 hq167
   refine jAb (.int .i64 x67) rfl rfl (fun s168 st168 => ?_) ?_
   ·try replace hq167 := hq167.up2 st168
    exact jAq one3 rfl hq167 rfl (jAe)
   obtain ⟨x68, hx68, h⟩ := ob h
   refine jBy rfl (wanted_none rfl) Tryz.underlying119 size75 rfl rfl (h3.sl) (jAk hx68).1 (jAr hx68) rfl ?_
   intro q169 hq169
   refine jAb (cU x68) rfl rfl (fun s170 st170 => ?_) ?_
   ·try replace hq169 := hq169.up2 st170
    exact jAq one75 rfl hq169 rfl (jAe)
   refine jBg ?_
   obtain ⟨x69, hx69, h⟩ := ob h
   refine jAp cal99 rfl (ref03_stir_w  h46 la hx69) rfl ?_
   rintro s171 vr171 st171 ⟨rfl, h46⟩
   have := st171.size
   have hS := hS.c0 st171
   have hE62 := hE62.c0 st171
   have hE63 := hE63.c0 st171
   replace h66 := h66.up2 st171
   replace h3 := h3.up2 st171
   refine jAi (jAh [(4, _), (8, _), (9, _), (11, _), (13, _), (14, _), (15, _)] ⟨rfl, rfl, rfl, rfl, rfl, rfl, rfl, trivial⟩ (jBl (KN s171.n) 13 (.read 0 (.read 1 (.read 2 (.read 3 (.read 4 (.read 5 (.read 6 (.read 7 (.read 8 (.read 9 (.read 10 (.read 11 (.read 12 .fin))))))))))))) mixed lw rfl rfl rfl ?_))
   intro s172 st172
   have := st172.size
   have hS := hS.trans0 st172
   have hE62 := hE62.trans0 st172
   have hE63 := hE63.trans0 st172
   replace h66 := h66.up2 st172
   replace h3 := h3.up2 st172
   replace h46 := h46.up2 st172
   refine jAb (v46) rfl rfl (fun s173 st173 => ?_) ?_
   ·exact jAc rfl rfl (jAe)
   refine jAb (v3) rfl rfl (fun s174 st174 => ?_) ?_
   ·exact jAc rfl rfl (jAe)
   refine jAb (v66) rfl rfl (fun s175 st175 => ?_) ?_
   ·exact jAc rfl rfl (jAe)
   obtain ⟨x70, hx70, h⟩ := ob h
   refine jBy rfl (wanted_none rfl) Tryz.underlying68 size3 rfl rfl (SL.of_R h66) (jAk hx70).1 (jAr hx70) rfl ?_
   intro q176 hq176
   refine jAb (.int .i64 x70) rfl rfl (fun s177 st177 => ?_) ?_
   ·try replace hq176 := hq176.up2 st177
    exact jAq one3 rfl hq176 rfl (jAe)
   obtain ⟨x71, hx71, h⟩ := ob h
   refine jBy rfl (wanted_none rfl) Tryz.underlying119 size75 rfl rfl (h3.sl) (jAk hx71).1 (jAr hx71) rfl ?_
   intro q178 hq178
   refine jAb (cU x71) rfl rfl (fun s179 st179 => ?_) ?_
   ·try replace hq178 := hq178.up2 st179
    exact jAq one75 rfl hq178 rfl (jAe)
   refine jAb (v3) rfl rfl (fun s180 st180 => ?_) ?_
   ·exact jAc rfl rfl (jAe)
   refine jAb (v66) rfl rfl (fun s181 st181 => ?_) ?_
   ·exact jAc rfl rfl (jAe)
   obtain ⟨x72, hx72, h⟩ := ob h
   refine jBy rfl (wanted_none rfl) Tryz.underlying68 size3 rfl rfl (SL.of_R h66) (jAk hx72).1 (jAr hx72) rfl ?_
   intro q182 hq182
   refine jAb (.int .i64 x72) rfl rfl (fun s183 st183 => ?_) ?_
   ·try replace hq182 := hq182.up2 st183
    exact jAq one3 rfl hq182 rfl (jAe)
   obtain ⟨x73, hx73, h⟩ := ob h
   refine jBy rfl (wanted_none rfl) Tryz.underlying119 size75 rfl rfl (h3.sl) (jAk hx73).1 (jAr hx73) rfl ?_
   intro q184 hq184
   refine jAb (cU x73) rfl rfl (fun s185 st185 => ?_) ?_
   ·try replace hq184 := hq184.up2 st185
    exact jAq one75 rfl hq184 rfl (jAe)
   refine jBg ?_
   obtain ⟨x74, hx74, h⟩ := ob h
   refine jAp cal99 rfl (ref03_stir_w  h46 la hx74) rfl ?_
   rintro s186 vr186 st186 ⟨rfl, h46⟩
   have := st186.size
   have hS := hS.c0 st186
   have hE62 := hE62.c0 st186
   have hE63 := hE63.c0 st186
   exact jAi (jCe (jAa (jAc rfl rfl (jBo rfl rfl rfl (jAd rfl rfl (jAi (jAu ⟨(s186, i64 (x32 + 1), x74, j), ⟨lr, trivial⟩, ⟨rfl, rfl, rfl, rfl, rfl, trivial⟩, ⟨rfl, hE63, h46, h⟩, (by simp)⟩)))))))
  have h := itF h c65
  exact jBq rfl (jAu ⟨(s64, x33), trivial, ⟨rfl, rfl, rfl, trivial⟩, ⟨rfl, hE62, h46, h⟩⟩)
 rintro ⟨s187, x31⟩ wL ⟨rfl, hE62, h46, h⟩
 rw [hK62] at h
 have := hE62.size
 have hS := hS.c0 hE62
 replace h1 := h1.up2 hE62
 replace h2 := h2.up2 hE62
 refine jAg ?_
 obtain ⟨kj75, hK188, h⟩ := jn_out h
 have hE188 := Step.r0 (KC (b1 + 1) 0) s187
 refine jBp (X := St × UInt32 × UInt32 × UInt32 × UInt32 × UInt32 × UInt32 × UInt32 × UInt32) [(4, pZ b1), (8, pZ b2)] (fun (xL : St × UInt32 × UInt32 × UInt32 × UInt32 × UInt32 × UInt32 × UInt32 × UInt32) => match xL with | (sl, x76, x77, x78, x79, x80, x81, x82, x83) => []) (fun (xL : St × UInt32 × UInt32 × UInt32 × UInt32 × UInt32 × UInt32 × UInt32 × UInt32) (wL : World) => match xL with | (sl, x76, x77, x78, x79, x80, x81, x82, x83) => sl.w = wL ∧ Step (KC (b1 + 1) 0) s187 sl ∧ (Blk sl b1 ⟨b1 + 1, 0⟩ [cU x76, cU x77, cU x78, cU x79, cU x80, cU x81, cU x82, cU x83] 76) ∧ kj75 x76 x77 x78 x79 x80 x81 x82 x83 = some r) ?_ ?_
 ·
  refine jAg (jAa (jAd rfl rfl (jAi (jAw (jBr (X := St × Int × UInt32 × UInt32 × UInt32 × UInt32 × UInt32 × UInt32 × UInt32 × UInt32 × Nat) [(4, _), (8, _), (11, _)] (fun (xL : St × Int × UInt32 × UInt32 × UInt32 × UInt32 × UInt32 × UInt32 × UInt32 × UInt32 × Nat) => match xL with | (sl, x84, x85, x86, x87, x88, x89, x90, x91, x92, j) => [(16, .int .i64 x84)]) (fun (xL : St × Int × UInt32 × UInt32 × UInt32 × UInt32 × UInt32 × UInt32 × UInt32 × UInt32 × Nat) (wL : World) => match xL with | (sl, x84, x85, x86, x87, x88, x89, x90, x91, x92, j) => sl.w = wL ∧ Step (KC (b1 + 1) 0) s187 sl ∧ (Blk sl b1 ⟨b1 + 1, 0⟩ [cU x85, cU x86, cU x87, cU x88, cU x89, cU x90, cU x91, cU x92] 76) ∧ ref03_Mix_l4 x31 kj75 j x84 x85 x86 x87 x88 x89 x90 x91 x92 = some r) (fun (xL : St × Int × UInt32 × UInt32 × UInt32 × UInt32 × UInt32 × UInt32 × UInt32 × UInt32 × Nat) => match xL with | (sl, x84, x85, x86, x87, x88, x89, x90, x91, x92, j) => j) (s187, 0, a0.e0, a0.e1, a0.e2, a0.e3, a0.e4, a0.e5, a0.e6, a0.e7, FU) ⟨rfl, rfl, rfl, trivial⟩ ⟨lr, trivial⟩ ⟨rfl, (Step.refl _).of0 li, h1, h⟩ ?_)))))
  rintro ⟨s190, x84, x85, x86, x87, x88, x89, x90, x91, x92, j⟩ wL ⟨rfl, hE189, h1, h⟩
  cases j with
  | zero => rw [ref03_Mix_l4] at h; exact (noneNe h).elim
  | succ j =>
  rw [ref03_Mix_l4] at h
  have := hE189.size
  have hS := hS.c0 hE189
  have hE188 := hE188.c0 hE189
  replace h46 := h46.up2 hE189
  refine jAg (jAg (jAa (jAc rfl rfl (jBw rfl rfl rfl (jAi (jAh [(4, _), (8, _), (11, _), (16, _), (222, _)] ⟨rfl, rfl, rfl, rfl, rfl, trivial⟩ (jAl rfl (fun c191 => ?_) (fun c191 => ?_))))))))
  ·
   have h := itT h c191
   refine jAv (jAg (jAw (jAh [(4, _), (8, _), (11, _), (16, _)] ⟨rfl, rfl, rfl, rfl, trivial⟩ (jBl (KN s190.n) 15 (.read 0 (.read 1 (.read 2 (.read 3 (.read 4 (.read 5 (.read 6 (.read 7 (.read 8 (.read 9 (.read 10 (.read 11 (.read 12 (.read 13 (.read 14 .fin))))))))))))))) mixed lw rfl rfl rfl ?_))))
   intro s192 st192
   have := st192.size
   have hS := hS.trans0 st192
   have hE188 := hE188.trans0 st192
   have hE189 := hE189.trans0 st192
   replace h1 := h1.up2 st192
   replace h46 := h46.up2 st192
   refine jAb (.int .i64 x84) rfl rfl (fun s193 st193 => ?_) ?_
   ·exact jAc rfl rfl (jAe)
   refine jAb (.int .i64 x84) rfl rfl (fun s194 st194 => ?_) ?_
   ·exact jAc rfl rfl (jAe)
   obtain ⟨x93, hx93, h⟩ := ob h
   refine jAb (.pointer (some ⟨b1, 0 + (x84 : Int).toNat, none⟩)) rfl rfl (fun s195 st195 => ?_) ?_
   ·exact jBx (m := 0) (xs := ([x85, x86, x87, x88, x89, x90, x91, x92] : List UInt32)) arr76 rfl rfl rfl hx93 rfl (jAe)
   obtain ⟨x94, hx94, h⟩ := ob h
   refine jAb (cU x94) rfl rfl (fun s196 st196 => ?_) ?_
   ·try replace h1 := h1.up2 st196
    exact jCo cU (pre := []) (post := []) (xs := ([x85, x86, x87, x88, x89, x90, x91, x92] : List UInt32)) one75 rfl h1 rfl hx94 rfl (jAe)
   refine jAb (v46) rfl rfl (fun s197 st197 => ?_) ?_
   ·exact jAc rfl rfl (jAe)
   refine jAb (.int .i64 x84) rfl rfl (fun s198 st198 => ?_) ?_
   ·exact jAc rfl rfl (jAe)
   obtain ⟨x95, hx95, h⟩ := ob h
   refine jBy rfl (wanted_none rfl) Tryz.underlying119 size75 rfl rfl (h46.sl) (jAk hx95).1 (jAr hx95) rfl ?_
   intro q199 hq199
   refine jAb (cU x95) rfl rfl (fun s200 st200 => ?_) ?_
   ·try replace hq199 := hq199.up2 st200
    exact jAq one75 rfl hq199 rfl (jAe)
   refine jAb (cU (x94 ^^^ x95)) rfl rfl (fun s201 st201 => ?_) ?_
   ·exact jCm (p := (x94.toNat : Int)) (q := (x95.toNat : Int)) (.inr (.inr (.inl ⟨rfl, rfl⟩))) rfl rfl rfl (k_as (congrArg (Value.int .u32) (xor32 _ _)) (jAe))
   refine jAb (v46) rfl rfl (fun s202 st202 => ?_) ?_
   ·exact jAc rfl rfl (jAe)
   refine jAb (.int .i64 x84) rfl rfl (fun s203 st203 => ?_) ?_
   ·exact jAc rfl rfl (jAe)
   refine jAb (.int .i64 (i64 (x84 + 8))) rfl rfl (fun s204 st204 => ?_) ?_
   ·exact jBo rfl rfl rfl (jAe)
   obtain ⟨x96, hx96, h⟩ := ob h
   refine jBy rfl (wanted_none rfl) Tryz.underlying119 size75 rfl rfl (h46.sl) (jAk hx96).1 (jAr hx96) rfl ?_
   intro q205 hq205
   refine jAb (cU x96) rfl rfl (fun s206 st206 => ?_) ?_
   ·try replace hq205 := hq205.up2 st206
    exact jAq one75 rfl hq205 rfl (jAe)
   refine jAb (cU ((x94 ^^^ x95) ^^^ x96)) rfl rfl (fun s207 st207 => ?_) ?_
   ·exact jCm (p := ((x94 ^^^ x95).toNat : Int)) (q := (x96.toNat : Int)) (.inr (.inr (.inl ⟨rfl, rfl⟩))) rfl rfl rfl (k_as (congrArg (Value.int .u32) (xor32 _ _)) (jAe))
   refine jBg ?_
   obtain ⟨x97, hx97, h⟩ := ob h
   refine jBx (m := 0) (xs := ([x85, x86, x87, x88, x89, x90, x91, x92] : List UInt32)) arr76 rfl rfl rfl hx97 rfl ?_
   obtain ⟨x98, hx98, h⟩ := ob h
   refine jDc cU (fun _ => rfl) (v := (x94 ^^^ x95) ^^^ x96) (pre := []) (post := []) (xs := ([x85, x86, x87, x88, x89, x90, x91, x92] : List UInt32)) size75 rfl rfl h1 lz rfl hx98 ?_
   intro s208 st208 h1
   replace h1 := h1.litE (lit8 (show x98.length = 8 by rw [(seti_out hx98).2.2.2]; rfl) (0 : UInt32))
   have := st208.size
   have hS := hS.c0 st208
   have hE188 := hE188.c0 st208
   have hE189 := hE189.c0 st208
   exact jAi (jCe (jAa (jAc rfl rfl (jBo rfl rfl rfl (jAd rfl rfl (jAi (jAu ⟨(s208, i64 (x84 + 1), (x98.getD 0 0), (x98.getD 1 0), (x98.getD 2 0), (x98.getD 3 0), (x98.getD 4 0), (x98.getD 5 0), (x98.getD 6 0), (x98.getD 7 0), j), ⟨lr, trivial⟩, ⟨rfl, rfl, rfl, trivial⟩, ⟨rfl, hE189, h1, h⟩, (by simp)⟩)))))))
  have h := itF h c191
  exact jBq rfl (jAu ⟨(s190, x85, x86, x87, x88, x89, x90, x91, x92), trivial, ⟨rfl, rfl, trivial⟩, ⟨rfl, hE188, h1, h⟩⟩)
 rintro ⟨s209, x76, x77, x78, x79, x80, x81, x82, x83⟩ wL ⟨rfl, hE188, h1, h⟩
 rw [hK188] at h
 have := hE188.size
 have hS := hS.c0 hE188
 replace h2 := h2.up2 hE188
 refine jAg (jAa (jAs (cs := [cU x76, cU x77, cU x78, cU x79, cU x80, cU x81, cU x82, cU x83]) agg76 rfl h1 rfl (jAo (cs' := [cU x76, cU x77, cU x78, cU x79, cU x80, cU x81, cU x82, cU x83]) size76 rfl rfl h2 lz (CellsOf.lit rfl rfl) rfl lq rfl ?_)))
 intro s210 st210 h2
 have := st210.size
 have hS := hS.c0 st210
 refine jAi (jAh [(8, _)] ⟨rfl, trivial⟩ (jAx ?_))
 obtain rfl := Option.some.inj h
 refine ⟨[.agg [cU x76, cU x77, cU x78, cU x79, cU x80, cU x81, cU x82, cU x83].toArray], ⟨res_blk (cs := [cU x76, cU x77, cU x78, cU x79, cU x80, cU x81, cU x82, cU x83]) rfl agg76 h2, trivial⟩, Ret.mk hS ?_⟩
 exact ⟨_, rfl, (clsSt76 (⟨x76, x77, x78, x79, x80, x81, x82, x83⟩ : St76))⟩
theorem ref03_Write_w {s : St} {l0 : Lab} {v0 : Value} {a0 : ApiDigest} {l1 : Lab} {v1 : Value} {a1 : (List UInt8)} {r : ApiDigest} (hp0 : SL s l0 v0 1 (a0.Rest.map bD)) (hp1 : SL s l1 v1 1 (a1.map bD)) (h : ref03_Write a0 a1 = some r) : Calls Tryz.prog 52 #[.agg #[cU a0.H.e0, cU a0.H.e1, cU a0.H.e2, cU a0.H.e3, cU a0.H.e4, cU a0.H.e5, cU a0.H.e6, cU a0.H.e7, v0, cW a0.N, .int .i64 a0.Size], v1] s.w (Ret s K0 (fun s1 v => ∃ (u0 : List Value), v = .agg u0.toArray ∧ RC s1 u0 (dApiDigest r))) := by
 unfold ref03_Write at h
 obtain ⟨lf0, lf0le, lf0ne, hp0⟩ := hp0.fix
 obtain ⟨lf1, lf1le, lf1ne, hp1⟩ := hp1.fix
 have hS := Step.r0 K0 s
 refine jCy (rs := [.cell 4 78]) (args := [.agg #[cU a0.H.e0, cU a0.H.e1, cU a0.H.e2, cU a0.H.e3, cU a0.H.e4, cU a0.H.e5, cU a0.H.e6, cU a0.H.e7, v0, cW a0.N, .int .i64 a0.Size], v1]) Tryz.func52 rfl rfl rfl rfl (jAg (jAa (jCp rfl rfl ?_)))
 intro s1 b1 st1 h1 ge1
 have := st1.size
 have hS := hS.trans0 st1
 replace hp0 := hp0.up2 st1
 replace hp1 := hp1.up2 st1
 have lt1 := h1.lt
 refine jBj zero78 rfl ?_
 intro s2 b2 st2 h2 ge2
 have := st2.size
 have hS := hS.trans0 st2
 replace hp0 := hp0.up2 st2
 replace hp1 := hp1.up2 st2
 replace h1 := h1.up2 st2
 have lt2 := h2.lt
 refine jAi (jAh [(1, _), (2, _), (4, _)] ⟨rfl, rfl, rfl, trivial⟩ (jAg (jAa (k_bslice2 (ds := ([] : List UInt8).map bD) slc43 rfl RVs.nil (by rfl) (by rfl) rfl rfl ?_))))
 intro s3 v3 b3 st3 ge3 bl3 h3
 have := st3.size
 have hS := hS.trans0 st3
 replace hp1 := hp1.up2 st3
 replace hp0 := hp0.up2 st3
 replace h1 := h1.up2 st3
 replace h2 := h2.up2 st3
 have lt3 := Own.le1 h3
 refine jAf fld78_1 rfl rfl (jAj one43 rfl h1 rfl rfl ?_)
 obtain ⟨x1, hx1, h⟩ := ob h
 refine k_append (es := a0.Rest.map bD) elem43 rfl rfl h3 hp0 (by have := (jAm hx1).1; simp only [List.length_map] at *; omega) (by have := (jAm hx1).1; simp only [List.length_map] at *; omega) rfl ?_
 intro s4 v4 st4 h4
 rw [← List.map_append, ← (jAm hx1).2] at h4
 have := st4.size
 have hS := hS.c0 st4
 replace hp1 := hp1.up2 st4
 replace h1 := h1.up2 st4
 replace h2 := h2.up2 st4
 refine jAc rfl rfl ?_
 obtain ⟨x2, hx2, h⟩ := ob h
 refine k_append (es := a1.map bD) elem43 rfl rfl h4 hp1 (by have := (jAm hx2).1; simp only [List.length_map] at *; omega) (by have := (jAm hx2).1; simp only [List.length_map] at *; omega) rfl ?_
 intro s5 v5 st5 h5
 rw [← List.map_append, ← (jAm hx2).2] at h5
 have := st5.size
 have hS := hS.c0 st5
 replace h1 := h1.up2 st5
 replace h2 := h2.up2 st5
 refine jAf fld78_1 rfl rfl (jAo (cs' := [cU a0.H.e0, cU a0.H.e1, cU a0.H.e2, cU a0.H.e3, cU a0.H.e4, cU a0.H.e5, cU a0.H.e6, cU a0.H.e7, v5, cW a0.N, .int .i64 a0.Size]) size43 rfl rfl h1 lz (CellsOf.sl (h5.sl)) rfl lq rfl ?_)
 intro s6 st6 h1
 have := st6.size
 have hS := hS.c0 st6
 replace h2 := h2.up2 st6
 replace h5 := h5.up2 st6
 refine jAi (jAh [(2, _), (4, _)] ⟨rfl, rfl, trivial⟩ (jAg ?_))
 obtain ⟨kj3, hK7, h⟩ := jn_out h
 have hE7 := Step.r0 (KU (KC (b3 + 1) 0) (KC (b1 + 1) 0)) s6
 refine jBp (X := St × UInt32 × UInt32 × UInt32 × UInt32 × UInt32 × UInt32 × UInt32 × UInt32 × (List UInt8) × Value × UInt64) [(2, pZ b1), (4, pZ b2)] (fun (xL : St × UInt32 × UInt32 × UInt32 × UInt32 × UInt32 × UInt32 × UInt32 × UInt32 × (List UInt8) × Value × UInt64) => match xL with | (sl, x4, x5, x6, x7, x8, x9, x10, x11, x12, v8, x13) => []) (fun (xL : St × UInt32 × UInt32 × UInt32 × UInt32 × UInt32 × UInt32 × UInt32 × UInt32 × (List UInt8) × Value × UInt64) (wL : World) => match xL with | (sl, x4, x5, x6, x7, x8, x9, x10, x11, x12, v8, x13) => sl.w = wL ∧ Step (KU (KC (b3 + 1) 0) (KC (b1 + 1) 0)) s6 sl ∧ (Own sl ⟨b1 + 1, 71⟩ 5 1 v8 (x12.map bD)) ∧ (Blk sl b1 ⟨b1 + 1, 0⟩ [cU x4, cU x5, cU x6, cU x7, cU x8, cU x9, cU x10, cU x11, v8, cW x13, .int .i64 a0.Size] 78) ∧ kj3 x4 x5 x6 x7 x8 x9 x10 x11 x12 x13 = some r) ?_ ?_
 ·
  refine jAw ?_
  obtain ⟨s9, e9, st9, h9⟩ := Own.relabel (b1) 71 h5 (by first | omega | (dsimp only; omega)) (by omega)
  rw [← e9]
  have := st9.size
  have hS := hS.c0 st9
  have hE7 := hE7.c0 st9
  replace h1 := h1.up2 st9
  refine jBr (X := St × UInt32 × UInt32 × UInt32 × UInt32 × UInt32 × UInt32 × UInt32 × UInt32 × (List UInt8) × Value × UInt64 × Nat) [(2, _), (4, _)] (fun (xL : St × UInt32 × UInt32 × UInt32 × UInt32 × UInt32 × UInt32 × UInt32 × UInt32 × (List UInt8) × Value × UInt64 × Nat) => match xL with | (sl, x14, x15, x16, x17, x18, x19, x20, x21, x22, v11, x23, j) => []) (fun (xL : St × UInt32 × UInt32 × UInt32 × UInt32 × UInt32 × UInt32 × UInt32 × UInt32 × (List UInt8) × Value × UInt64 × Nat) (wL : World) => match xL with | (sl, x14, x15, x16, x17, x18, x19, x20, x21, x22, v11, x23, j) => sl.w = wL ∧ Step (KC (b1 + 1) 0) s9 sl ∧ (Own sl ⟨b1 + 1, 71⟩ 5 1 v11 (x22.map bD)) ∧ (Blk sl b1 ⟨b1 + 1, 0⟩ [cU x14, cU x15, cU x16, cU x17, cU x18, cU x19, cU x20, cU x21, v11, cW x23, .int .i64 a0.Size] 78) ∧ ref03_Write_l1 kj3 j x14 x15 x16 x17 x18 x19 x20 x21 x22 x23 = some r) (fun (xL : St × UInt32 × UInt32 × UInt32 × UInt32 × UInt32 × UInt32 × UInt32 × UInt32 × (List UInt8) × Value × UInt64 × Nat) => match xL with | (sl, x14, x15, x16, x17, x18, x19, x20, x21, x22, v11, x23, j) => j) (s9, a0.H.e0, a0.H.e1, a0.H.e2, a0.H.e3, a0.H.e4, a0.H.e5, a0.H.e6, a0.H.e7, x2, v5, a0.N, FU) ⟨rfl, rfl, trivial⟩ trivial ⟨rfl, (Step.refl _).of0 li, h9, h1, h⟩ ?_
  rintro ⟨s12, x14, x15, x16, x17, x18, x19, x20, x21, x22, v11, x23, j⟩ wL ⟨rfl, hE10, h11, h1, h⟩
  cases j with
  | zero => rw [ref03_Write_l1] at h; exact (noneNe h).elim
  | succ j =>
  rw [ref03_Write_l1] at h
  have := hE10.size
  have hS := hS.c0 hE10
  have hE7 := hE7.c0 hE10
  refine jAg (jAg (jAa (jAf fld78_1 rfl rfl (jAj one43 rfl h1 rfl rfl (jCj Tryz.underlying43 rfl (h11.sl).hasLen rfl (k_as (v := .int .i64 (x22.length : Int)) (by simp only [List.length_map]) (jCu rfl rfl rfl (jAi (jAh [(2, _), (4, _), (15, _)] ⟨rfl, rfl, rfl, trivial⟩ (jAl rfl (fun c13 => ?_) (fun c13 => ?_)))))))))))
  ·
   have h := itT h c13
   refine jAv (jAw (jAg (jAa (jAf fld78_2 rfl rfl (jAj one22 rfl h1 rfl rfl (jBo rfl rfl rfl (k_as (congrArg (Value.int .u64) (w64 _)) (jAf fld78_2 rfl rfl (jAo (cs' := [cU x14, cU x15, cU x16, cU x17, cU x18, cU x19, cU x20, cU x21, v11, cW (ofI64 ((x23.toNat : Int) + 64)), .int .i64 a0.Size]) size22 rfl rfl h1 lz (CellsOf.lit rfl rfl) rfl lq rfl ?_)))))))))
   intro s14 st14 h1
   have := st14.size
   have hS := hS.c0 st14
   have hE7 := hE7.c0 st14
   have hE10 := hE10.c0 st14
   replace h11 := h11.up2 st14
   refine jAi (jAh [(2, _), (4, _)] ⟨rfl, rfl, trivial⟩ (jAg (jBl (KN s14.n) 7 (.read 0 (.read 1 (.read 2 (.read 3 (.read 5 (.read 6 (.alt 4 .fin .no))))))) mixed lw rfl rfl rfl ?_)))
   intro s15 st15
   have := st15.size
   have hS := hS.trans0 st15
   have hE7 := hE7.trans0 st15
   have hE10 := hE10.trans0 st15
   replace h1 := h1.up2 st15
   replace h11 := h11.up2 st15
   refine jAb (pZ b1) rfl rfl (fun s16 st16 => ?_) ?_
   ·exact jAf fld78_0 rfl rfl (jAe)
   refine jAb (.agg #[cU x14, cU x15, cU x16, cU x17, cU x18, cU x19, cU x20, cU x21]) rfl rfl (fun s17 st17 => ?_) ?_
   ·try replace h1 := h1.up2 st17
    exact jDb (cs' := [cU x14, cU x15, cU x16, cU x17, cU x18, cU x19, cU x20, cU x21]) agg76 rfl h1 rfl rfl rfl (jAe)
   refine jAb (.pointer (some ⟨b1, 8, none⟩)) rfl rfl (fun s18 st18 => ?_) ?_
   ·exact jAf fld78_1 rfl rfl (jAe)
   refine jAb (v11) rfl rfl (fun s19 st19 => ?_) ?_
   ·try replace h1 := h1.up2 st19
    exact jAj one43 rfl h1 rfl rfl (jAe)
   refine jAb (.pointer (some ⟨b1, 9, none⟩)) rfl rfl (fun s20 st20 => ?_) ?_
   ·exact jAf fld78_2 rfl rfl (jAe)
   refine jAb (cW (ofI64 ((x23.toNat : Int) + 64))) rfl rfl (fun s21 st21 => ?_) ?_
   ·try replace h1 := h1.up2 st21
    exact jAj one22 rfl h1 rfl rfl (jAe)
   refine jBa rfl rfl ?_
   have hA22 := Step.r0 (KN s14.n) s15
   obtain ⟨x24, hx24, h⟩ := ob h
   refine k_cut_sl (i := (0 : Int).toNat) (j := (64 : Int).toNat) Tryz.underlying43 size5 rfl (h11.sl) CutAt.none (CutAt.int rfl (Int.le_trans (subl_out hx24).1 (subl_out hx24).2.1)) (subl_ij hx24) (by rw [List.length_map]; exact subl_j hx24) rfl ?_
   intro vx24 hcx24
   rw [← List.map_drop, ← List.map_take, ← (subl_out hx24).2.2.2] at hcx24
   refine jAt hA22 (jBg ?_)
   obtain ⟨x25, hx25, h⟩ := ob h
   refine jAp cal76 rfl (ref03_Mix_w  (clsSt76 (⟨x14, x15, x16, x17, x18, x19, x20, x21⟩ : St76)) hcx24 hx25) rfl ?_
   rintro s23 vr23 st23 ⟨cs23_0, rfl, h23_0⟩
   have := st23.size
   have hS := hS.trans0 st23
   have hE7 := hE7.trans0 st23
   have hE10 := hE10.trans0 st23
   replace h1 := h1.up2 st23
   replace h11 := h11.up2 st23
   obtain rfl := opnSt76 h23_0
   refine jAf fld78_0 rfl rfl (jAo (cs' := [cU x25.e0, cU x25.e1, cU x25.e2, cU x25.e3, cU x25.e4, cU x25.e5, cU x25.e6, cU x25.e7, v11, cW (ofI64 ((x23.toNat : Int) + 64)), .int .i64 a0.Size]) size76 rfl rfl h1 lz (CellsOf.lit rfl rfl) rfl lq rfl ?_)
   intro s24 st24 h1
   have := st24.size
   have hS := hS.c0 st24
   have hE7 := hE7.c0 st24
   have hE10 := hE10.c0 st24
   replace h11 := h11.up2 st24
   refine jAi (jAh [(2, _), (4, _)] ⟨rfl, rfl, trivial⟩ (jAa (jAf fld78_1 rfl rfl (jAj one43 rfl h1 rfl rfl ?_))))
   obtain ⟨x26, hx26, h⟩ := ob h
   by_cases c25 : 64 < (x22.length : Int)
   case neg => exact (noneNe (itF h c25)).elim
   replace h := itT h c25
   refine k_cut_tail (i := (64 : Int).toNat) Tryz.underlying43 size5 rfl h11 (CutAt.int rfl (subl_out hx26).1) (by have := (subl_out hx26).1; have := c25; rw [List.length_map]; omega) rfl ?_
   intro v26 h26
   rw [← List.map_drop, ← subl_tail_ hx26] at h26
   refine jAf fld78_1 rfl rfl (jAo (cs' := [cU x25.e0, cU x25.e1, cU x25.e2, cU x25.e3, cU x25.e4, cU x25.e5, cU x25.e6, cU x25.e7, v26, cW (ofI64 ((x23.toNat : Int) + 64)), .int .i64 a0.Size]) size43 rfl rfl h1 lz (CellsOf.sl (h26.sl)) rfl lq rfl ?_)
   intro s27 st27 h1
   have := st27.size
   have hS := hS.c0 st27
   have hE7 := hE7.c0 st27
   have hE10 := hE10.c0 st27
   replace h26 := h26.up2 st27
   exact jAi (jCe (jAu ⟨(s27, x25.e0, x25.e1, x25.e2, x25.e3, x25.e4, x25.e5, x25.e6, x25.e7, x26, v26, ofI64 ((x23.toNat : Int) + 64), j), trivial, ⟨rfl, rfl, trivial⟩, ⟨rfl, hE10, h26, h1, h⟩, (by simp)⟩))
  have h := itF h c13
  exact jBq rfl (jAu ⟨(s12, x14, x15, x16, x17, x18, x19, x20, x21, x22, v11, x23), trivial, ⟨rfl, rfl, trivial⟩, ⟨rfl, hE7, h11, h1, h⟩⟩)
 rintro ⟨s28, x4, x5, x6, x7, x8, x9, x10, x11, x12, v8, x13⟩ wL ⟨rfl, hE7, h8, h1, h⟩
 rw [hK7] at h
 have := hE7.size
 have hS := hS.c0 hE7
 replace h2 := h2.up2 hE7
 refine jAg (jAa (jAs (cs := [cU x4, cU x5, cU x6, cU x7, cU x8, cU x9, cU x10, cU x11, v8, cW x13, .int .i64 a0.Size]) agg78 rfl h1 rfl (jAo (cs' := [cU x4, cU x5, cU x6, cU x7, cU x8, cU x9, cU x10, cU x11, v8, cW x13, .int .i64 a0.Size]) size78 rfl rfl h2 lz (CellsOf.lit (vs := [cU x4, cU x5, cU x6, cU x7, cU x8, cU x9, cU x10, cU x11, v8, cW x13, .int .i64 a0.Size]) rfl (ones.cons rfl (ones.cons rfl (ones.cons rfl (ones.cons rfl (ones.cons rfl (ones.cons rfl (ones.cons rfl (ones.cons rfl (ones.cons ((h8.sl)).one1 (ones.cons rfl (ones.cons rfl ones.nil)))))))))))) rfl lq rfl ?_)))
 intro s29 st29 h2
 have := st29.size
 have hS := hS.c0 st29
 replace h8 := h8.up2 st29
 refine jAi (jAh [(4, _)] ⟨rfl, trivial⟩ (jAx ?_))
 obtain ⟨s30, e30, st30, h30⟩ := h8.freeze
 rw [← e30]
 have := st30.size
 have hS := hS.c0 st30
 replace h2 := h2.up2 st30
 obtain rfl := Option.some.inj h
 refine ⟨[.agg [cU x4, cU x5, cU x6, cU x7, cU x8, cU x9, cU x10, cU x11, v8, cW x13, .int .i64 a0.Size].toArray], ⟨res_blk (cs := [cU x4, cU x5, cU x6, cU x7, cU x8, cU x9, cU x10, cU x11, v8, cW x13, .int .i64 a0.Size]) rfl agg78 h2, trivial⟩, Ret.mk hS ?_⟩
 exact ⟨_, rfl, (clsApiDigest (⟨(⟨x4, x5, x6, x7, x8, x9, x10, x11⟩ : St76), x12, x13, a0.Size⟩ : ApiDigest) h30)⟩
theorem ref03_Write_own_w {s : St} {l0 : Lab} {v0 : Value} {a0 : ApiDigest} {l1 : Lab} {v1 : Value} {a1 : (List UInt8)} {r : ApiDigest} (hp0 : SL s l0 v0 1 (a0.Rest.map bD)) (hp1 : SL s l1 v1 1 (a1.map bD)) (h : ref03_Write a0 a1 = some r) : Calls Tryz.prog 52 #[.agg #[cU a0.H.e0, cU a0.H.e1, cU a0.H.e2, cU a0.H.e3, cU a0.H.e4, cU a0.H.e5, cU a0.H.e6, cU a0.H.e7, v0, cW a0.N, .int .i64 a0.Size], v1] s.w (Ret s K0 (fun s1 v => ∃ (u0 : Value), ∃ (lu0 : Lab), v = .agg #[cU r.H.e0, cU r.H.e1, cU r.H.e2, cU r.H.e3, cU r.H.e4, cU r.H.e5, cU r.H.e6, cU r.H.e7, u0, cW r.N, .int .i64 r.Size] ∧ (s.n < lu0.o ∧ lu0.c = 0) ∧ Own s1 lu0 5 1 u0 (r.Rest.map bD))) := by
 unfold ref03_Write at h
 obtain ⟨lf0, lf0le, lf0ne, hp0⟩ := hp0.fix
 obtain ⟨lf1, lf1le, lf1ne, hp1⟩ := hp1.fix
 have hS := Step.r0 K0 s
 refine jCy (rs := [.cell 4 78]) (args := [.agg #[cU a0.H.e0, cU a0.H.e1, cU a0.H.e2, cU a0.H.e3, cU a0.H.e4, cU a0.H.e5, cU a0.H.e6, cU a0.H.e7, v0, cW a0.N, .int .i64 a0.Size], v1]) Tryz.func52 rfl rfl rfl rfl (jAg (jAa (jCp rfl rfl ?_)))
 intro s1 b1 st1 h1 ge1
 have := st1.size
 have hS := hS.trans0 st1
 replace hp0 := hp0.up2 st1
 replace hp1 := hp1.up2 st1
 have lt1 := h1.lt
 refine jBj zero78 rfl ?_
 intro s2 b2 st2 h2 ge2
 have := st2.size
 have hS := hS.trans0 st2
 replace hp0 := hp0.up2 st2
 replace hp1 := hp1.up2 st2
 replace h1 := h1.up2 st2
 have lt2 := h2.lt
 refine jAi (jAh [(1, _), (2, _), (4, _)] ⟨rfl, rfl, rfl, trivial⟩ (jAg (jAa (k_bslice2 (ds := ([] : List UInt8).map bD) slc43 rfl RVs.nil (by rfl) (by rfl) rfl rfl ?_))))
 intro s3 v3 b3 st3 ge3 bl3 h3
 have := st3.size
 have hS := hS.trans0 st3
 replace hp1 := hp1.up2 st3
 replace hp0 := hp0.up2 st3
 replace h1 := h1.up2 st3
 replace h2 := h2.up2 st3
 have lt3 := Own.le1 h3
 refine jAf fld78_1 rfl rfl (jAj one43 rfl h1 rfl rfl ?_)
 obtain ⟨x1, hx1, h⟩ := ob h
 refine k_append (es := a0.Rest.map bD) elem43 rfl rfl h3 hp0 (by have := (jAm hx1).1; simp only [List.length_map] at *; omega) (by have := (jAm hx1).1; simp only [List.length_map] at *; omega) rfl ?_
 intro s4 v4 st4 h4
 rw [← List.map_append, ← (jAm hx1).2] at h4
 have := st4.size
 have hS := hS.c0 st4
 replace hp1 := hp1.up2 st4
 replace h1 := h1.up2 st4
 replace h2 := h2.up2 st4
 refine jAc rfl rfl ?_
 obtain ⟨x2, hx2, h⟩ := ob h
 refine k_append (es := a1.map bD) elem43 rfl rfl h4 hp1 (by have := (jAm hx2).1; simp only [List.length_map] at *; omega) (by have := (jAm hx2).1; simp only [List.length_map] at *; omega) rfl ?_
 intro s5 v5 st5 h5
 rw [← List.map_append, ← (jAm hx2).2] at h5
 have := st5.size
 have hS := hS.c0 st5
 replace h1 := h1.up2 st5
 replace h2 := h2.up2 st5
 refine jAf fld78_1 rfl rfl (jAo (cs' := [cU a0.H.e0, cU a0.H.e1, cU a0.H.e2, cU a0.H.e3, cU a0.H.e4, cU a0.H.e5, cU a0.H.e6, cU a0.H.e7, v5, cW a0.N, .int .i64 a0.Size]) size43 rfl rfl h1 lz (CellsOf.sl (h5.sl)) rfl lq rfl ?_)
 intro s6 st6 h1
 have := st6.size
 have hS := hS.c0 st6
 replace h2 := h2.up2 st6
 replace h5 := h5.up2 st6
 refine jAi (jAh [(2, _), (4, _)] ⟨rfl, rfl, trivial⟩ (jAg ?_))
 obtain ⟨kj3, hK7, h⟩ := jn_out h
 have hE7 := Step.r0 (KU (KC (b3 + 1) 0) (KC (b1 + 1) 0)) s6
 refine jBp (X := St × UInt32 × UInt32 × UInt32 × UInt32 × UInt32 × UInt32 × UInt32 × UInt32 × (List UInt8) × Value × UInt64) [(2, pZ b1), (4, pZ b2)] (fun (xL : St × UInt32 × UInt32 × UInt32 × UInt32 × UInt32 × UInt32 × UInt32 × UInt32 × (List UInt8) × Value × UInt64) => match xL with | (sl, x4, x5, x6, x7, x8, x9, x10, x11, x12, v8, x13) => []) (fun (xL : St × UInt32 × UInt32 × UInt32 × UInt32 × UInt32 × UInt32 × UInt32 × UInt32 × (List UInt8) × Value × UInt64) (wL : World) => match xL with | (sl, x4, x5, x6, x7, x8, x9, x10, x11, x12, v8, x13) => sl.w = wL ∧ Step (KU (KC (b3 + 1) 0) (KC (b1 + 1) 0)) s6 sl ∧ (Own sl ⟨b1 + 1, 71⟩ 5 1 v8 (x12.map bD)) ∧ (Blk sl b1 ⟨b1 + 1, 0⟩ [cU x4, cU x5, cU x6, cU x7, cU x8, cU x9, cU x10, cU x11, v8, cW x13, .int .i64 a0.Size] 78) ∧ kj3 x4 x5 x6 x7 x8 x9 x10 x11 x12 x13 = some r) ?_ ?_
 ·
  refine jAw ?_
  obtain ⟨s9, e9, st9, h9⟩ := Own.relabel (b1) 71 h5 (by first | omega | (dsimp only; omega)) (by omega)
  rw [← e9]
  have := st9.size
  have hS := hS.c0 st9
  have hE7 := hE7.c0 st9
  replace h1 := h1.up2 st9
  refine jBr (X := St × UInt32 × UInt32 × UInt32 × UInt32 × UInt32 × UInt32 × UInt32 × UInt32 × (List UInt8) × Value × UInt64 × Nat) [(2, _), (4, _)] (fun (xL : St × UInt32 × UInt32 × UInt32 × UInt32 × UInt32 × UInt32 × UInt32 × UInt32 × (List UInt8) × Value × UInt64 × Nat) => match xL with | (sl, x14, x15, x16, x17, x18, x19, x20, x21, x22, v11, x23, j) => []) (fun (xL : St × UInt32 × UInt32 × UInt32 × UInt32 × UInt32 × UInt32 × UInt32 × UInt32 × (List UInt8) × Value × UInt64 × Nat) (wL : World) => match xL with | (sl, x14, x15, x16, x17, x18, x19, x20, x21, x22, v11, x23, j) => sl.w = wL ∧ Step (KC (b1 + 1) 0) s9 sl ∧ (Own sl ⟨b1 + 1, 71⟩ 5 1 v11 (x22.map bD)) ∧ (Blk sl b1 ⟨b1 + 1, 0⟩ [cU x14, cU x15, cU x16, cU x17, cU x18, cU x19, cU x20, cU x21, v11, cW x23, .int .i64 a0.Size] 78) ∧ ref03_Write_l1 kj3 j x14 x15 x16 x17 x18 x19 x20 x21 x22 x23 = some r) (fun (xL : St × UInt32 × UInt32 × UInt32 × UInt32 × UInt32 × UInt32 × UInt32 × UInt32 × (List UInt8) × Value × UInt64 × Nat) => match xL with | (sl, x14, x15, x16, x17, x18, x19, x20, x21, x22, v11, x23, j) => j) (s9, a0.H.e0, a0.H.e1, a0.H.e2, a0.H.e3, a0.H.e4, a0.H.e5, a0.H.e6, a0.H.e7, x2, v5, a0.N, FU) ⟨rfl, rfl, trivial⟩ trivial ⟨rfl, (Step.refl _).of0 li, h9, h1, h⟩ ?_
  rintro ⟨s12, x14, x15, x16, x17, x18, x19, x20, x21, x22, v11, x23, j⟩ wL ⟨rfl, hE10, h11, h1, h⟩
  cases j with
  | zero => rw [ref03_Write_l1] at h; exact (noneNe h).elim
  | succ j =>
  rw [ref03_Write_l1] at h
  have := hE10.size
  have hS := hS.c0 hE10
  have hE7 := hE7.c0 hE10
  refine jAg (jAg (jAa (jAf fld78_1 rfl rfl (jAj one43 rfl h1 rfl rfl (jCj Tryz.underlying43 rfl (h11.sl).hasLen rfl (k_as (v := .int .i64 (x22.length : Int)) (by simp only [List.length_map]) (jCu rfl rfl rfl (jAi (jAh [(2, _), (4, _), (15, _)] ⟨rfl, rfl, rfl, trivial⟩ (jAl rfl (fun c13 => ?_) (fun c13 => ?_)))))))))))
  ·
   have h := itT h c13
   refine jAv (jAw (jAg (jAa (jAf fld78_2 rfl rfl (jAj one22 rfl h1 rfl rfl (jBo rfl rfl rfl (k_as (congrArg (Value.int .u64) (w64 _)) (jAf fld78_2 rfl rfl (jAo (cs' := [cU x14, cU x15, cU x16, cU x17, cU x18, cU x19, cU x20, cU x21, v11, cW (ofI64 ((x23.toNat : Int) + 64)), .int .i64 a0.Size]) size22 rfl rfl h1 lz (CellsOf.lit rfl rfl) rfl lq rfl ?_)))))))))
   intro s14 st14 h1
   have := st14.size
   have hS := hS.c0 st14
   have hE7 := hE7.c0 st14
   have hE10 := hE10.c0 st14
   replace h11 := h11.up2 st14
   refine jAi (jAh [(2, _), (4, _)] ⟨rfl, rfl, trivial⟩ (jAg (jBl (KN s14.n) 7 (.read 0 (.read 1 (.read 2 (.read 3 (.read 5 (.read 6 (.alt 4 .fin .no))))))) mixed lw rfl rfl rfl ?_)))
   intro s15 st15
   have := st15.size
   have hS := hS.trans0 st15
   have hE7 := hE7.trans0 st15
   have hE10 := hE10.trans0 st15
   replace h1 := h1.up2 st15
   replace h11 := h11.up2 st15
   refine jAb (pZ b1) rfl rfl (fun s16 st16 => ?_) ?_
   ·exact jAf fld78_0 rfl rfl (jAe)
   refine jAb (.agg #[cU x14, cU x15, cU x16, cU x17, cU x18, cU x19, cU x20, cU x21]) rfl rfl (fun s17 st17 => ?_) ?_
   ·try replace h1 := h1.up2 st17
    exact jDb (cs' := [cU x14, cU x15, cU x16, cU x17, cU x18, cU x19, cU x20, cU x21]) agg76 rfl h1 rfl rfl rfl (jAe)
   refine jAb (.pointer (some ⟨b1, 8, none⟩)) rfl rfl (fun s18 st18 => ?_) ?_
   ·exact jAf fld78_1 rfl rfl (jAe)
   refine jAb (v11) rfl rfl (fun s19 st19 => ?_) ?_
   ·try replace h1 := h1.up2 st19
    exact jAj one43 rfl h1 rfl rfl (jAe)
   refine jAb (.pointer (some ⟨b1, 9, none⟩)) rfl rfl (fun s20 st20 => ?_) ?_
   ·exact jAf fld78_2 rfl rfl (jAe)
   refine jAb (cW (ofI64 ((x23.toNat : Int) + 64))) rfl rfl (fun s21 st21 => ?_) ?_
   ·try replace h1 := h1.up2 st21
    exact jAj one22 rfl h1 rfl rfl (jAe)
   refine jBa rfl rfl ?_
   have hA22 := Step.r0 (KN s14.n) s15
   obtain ⟨x24, hx24, h⟩ := ob h
   refine k_cut_sl (i := (0 : Int).toNat) (j := (64 : Int).toNat) Tryz.underlying43 size5 rfl (h11.sl) CutAt.none (CutAt.int rfl (Int.le_trans (subl_out hx24).1 (subl_out hx24).2.1)) (subl_ij hx24) (by rw [List.length_map]; exact subl_j hx24) rfl ?_
   intro vx24 hcx24
   rw [← List.map_drop, ← List.map_take, ← (subl_out hx24).2.2.2] at hcx24
   refine jAt hA22 (jBg ?_)
   obtain ⟨x25, hx25, h⟩ := ob h
   refine jAp cal76 rfl (ref03_Mix_w  (clsSt76 (⟨x14, x15, x16, x17, x18, x19, x20, x21⟩ : St76)) hcx24 hx25) rfl ?_
   rintro s23 vr23 st23 ⟨cs23_0, rfl, h23_0⟩
   have := st23.size
   have hS := hS.trans0 st23
   have hE7 := hE7.trans0 st23
   have hE10 := hE10.trans0 st23
   replace h1 := h1.up2 st23
   replace h11 := h11.up2 st23
   obtain rfl := opnSt76 h23_0
   refine jAf fld78_0 rfl rfl (jAo (cs' := [cU x25.e0, cU x25.e1, cU x25.e2, cU x25.e3, cU x25.e4, cU x25.e5, cU x25.e6, cU x25.e7, v11, cW (ofI64 ((x23.toNat : Int) + 64)), .int .i64 a0.Size]) size76 rfl rfl h1 lz (CellsOf.lit rfl rfl) rfl lq rfl ?_)
   intro s24 st24 h1
   have := st24.size
   have hS := hS.c0 st24
   have hE7 := hE7.c0 st24
   have hE10 := hE10.c0 st24
   replace h11 := h11.up2 st24
   refine jAi (jAh [(2, _), (4, _)] ⟨rfl, rfl, trivial⟩ (jAa (jAf fld78_1 rfl rfl (jAj one43 rfl h1 rfl rfl ?_))))
   obtain ⟨x26, hx26, h⟩ := ob h
   by_cases c25 : 64 < (x22.length : Int)
   case neg => exact (noneNe (itF h c25)).elim
   replace h := itT h c25
   refine k_cut_tail (i := (64 : Int).toNat) Tryz.underlying43 size5 rfl h11 (CutAt.int rfl (subl_out hx26).1) (by have := (subl_out hx26).1; have := c25; rw [List.length_map]; omega) rfl ?_
   intro v26 h26
   rw [← List.map_drop, ← subl_tail_ hx26] at h26
   refine jAf fld78_1 rfl rfl (jAo (cs' := [cU x25.e0, cU x25.e1, cU x25.e2, cU x25.e3, cU x25.e4, cU x25.e5, cU x25.e6, cU x25.e7, v26, cW (ofI64 ((x23.toNat : Int) + 64)), .int .i64 a0.Size]) size43 rfl rfl h1 lz (CellsOf.sl (h26.sl)) rfl lq rfl ?_)
   intro s27 st27 h1
   have := st27.size
   have hS := hS.c0 st27
   have hE7 := hE7.c0 st27
   have hE10 := hE10.c0 st27
   replace h26 := h26.up2 st27
   exact jAi (jCe (jAu ⟨(s27, x25.e0, x25.e1, x25.e2, x25.e3, x25.e4, x25.e5, x25.e6, x25.e7, x26, v26, ofI64 ((x23.toNat : Int) + 64), j), trivial, ⟨rfl, rfl, trivial⟩, ⟨rfl, hE10, h26, h1, h⟩, (by simp)⟩))
  have h := itF h c13
  exact jBq rfl (jAu ⟨(s12, x14, x15, x16, x17, x18, x19, x20, x21, x22, v11, x23), trivial, ⟨rfl, rfl, trivial⟩, ⟨rfl, hE7, h11, h1, h⟩⟩)
 rintro ⟨s28, x4, x5, x6, x7, x8, x9, x10, x11, x12, v8, x13⟩ wL ⟨rfl, hE7, h8, h1, h⟩
 rw [hK7] at h
 have := hE7.size
 have hS := hS.c0 hE7
 replace h2 := h2.up2 hE7
 refine jAg (jAa (jAs (cs := [cU x4, cU x5, cU x6, cU x7, cU x8, cU x9, cU x10, cU x11, v8, cW x13, .int .i64 a0.Size]) agg78 rfl h1 rfl (jAo (cs' := [cU x4, cU x5, cU x6, cU x7, cU x8, cU x9, cU x10, cU x11, v8, cW x13, .int .i64 a0.Size]) size78 rfl rfl h2 lz (CellsOf.lit (vs := [cU x4, cU x5, cU x6, cU x7, cU x8, cU x9, cU x10, cU x11, v8, cW x13, .int .i64 a0.Size]) rfl (ones.cons rfl (ones.cons rfl (ones.cons rfl (ones.cons rfl (ones.cons rfl (ones.cons rfl (ones.cons rfl (ones.cons rfl (ones.cons ((h8.sl)).one1 (ones.cons rfl (ones.cons rfl ones.nil)))))))))))) rfl lq rfl ?_)))
 intro s29 st29 h2
 have := st29.size
 have hS := hS.c0 st29
 replace h8 := h8.up2 st29
 refine jAi (jAh [(4, _)] ⟨rfl, trivial⟩ (jAx ?_))
 obtain ⟨s30, e30, st30, h8⟩ := h8.zero
 rw [← e30]
 have := st30.size
 have hS := hS.c0 st30
 replace h2 := h2.up2 st30
 obtain rfl := Option.some.inj h
 refine ⟨[.agg [cU x4, cU x5, cU x6, cU x7, cU x8, cU x9, cU x10, cU x11, v8, cW x13, .int .i64 a0.Size].toArray], ⟨res_blk (cs := [cU x4, cU x5, cU x6, cU x7, cU x8, cU x9, cU x10, cU x11, v8, cW x13, .int .i64 a0.Size]) rfl agg78 h2, trivial⟩, Ret.mk hS ?_⟩
 exact ⟨_, ⟨b1 + 1, 0⟩, rfl, ⟨by (try dsimp only); omega, rfl⟩, h8⟩
theorem ref03_Sum_w {s : St} {l0 : Lab} {v0 : Value} {a0 : ApiDigest} {r : (List UInt8)} (hp0 : SL s l0 v0 1 (a0.Rest.map bD)) (h : ref03_Sum a0 = some r) : Calls Tryz.prog 51 #[.agg #[cU a0.H.e0, cU a0.H.e1, cU a0.H.e2, cU a0.H.e3, cU a0.H.e4, cU a0.H.e5, cU a0.H.e6, cU a0.H.e7, v0, cW a0.N, .int .i64 a0.Size]] s.w (Ret s K0 (fun s1 v => ∃ (u0 : Value), v = u0 ∧ R s1 u0 (.sl 1 (r.map bD)))) := by
 unfold ref03_Sum at h
 obtain ⟨lf0, lf0le, lf0ne, hp0⟩ := hp0.fix
 have hS := Step.r0 K0 s
 refine k_fn (rs := [2]) (args := [.agg #[cU a0.H.e0, cU a0.H.e1, cU a0.H.e2, cU a0.H.e3, cU a0.H.e4, cU a0.H.e5, cU a0.H.e6, cU a0.H.e7, v0, cW a0.N, .int .i64 a0.Size]]) Tryz.func51 rfl rfl rfl rfl (jAg (jAa (jCp rfl rfl ?_)))
 intro s1 b1 st1 h1 ge1
 have := st1.size
 have hS := hS.trans0 st1
 replace hp0 := hp0.up2 st1
 have lt1 := h1.lt
 refine jAd rfl rfl (jAi (jAh [(1, _), (2, _)] ⟨rfl, rfl, trivial⟩ (jAg (jAa (jAs (cs := [cU a0.H.e0, cU a0.H.e1, cU a0.H.e2, cU a0.H.e3, cU a0.H.e4, cU a0.H.e5, cU a0.H.e6, cU a0.H.e7, v0, cW a0.N, .int .i64 a0.Size]) agg78 rfl h1 rfl ?_)))))
 obtain ⟨x1, hx1, h⟩ := ob h
 refine jAp cal52 rfl (ref03_Write_own_w (a0 := a0) hp0 (show SL s1 L0 _ 1 (([] : List UInt8).map bD) from SL.of_R (R.of_SL (.inl ⟨rfl, none, 0, rfl, fun _ => rfl⟩))) hx1) rfl ?_
 rintro s2 vr2 st2 ⟨v2_0, l2_0, rfl, hl2_0, h2_0⟩
 have szs2 := st2.size
 have hS := hS.trans0 st2
 replace h1 := h1.up2 st2
 obtain ⟨l2_0, hl2_0, h2_0⟩ := Own.anew 2020 h2_0 hl2_0 szs2
 have lt2_0 := Own.le1 h2_0
 refine jAo (cs' := [cU x1.H.e0, cU x1.H.e1, cU x1.H.e2, cU x1.H.e3, cU x1.H.e4, cU x1.H.e5, cU x1.H.e6, cU x1.H.e7, v2_0, cW x1.N, .int .i64 x1.Size]) size78 rfl rfl h1 lz (CellsOf.lit (vs := [cU x1.H.e0, cU x1.H.e1, cU x1.H.e2, cU x1.H.e3, cU x1.H.e4, cU x1.H.e5, cU x1.H.e6, cU x1.H.e7, v2_0, cW x1.N, .int .i64 x1.Size]) rfl (ones.cons rfl (ones.cons rfl (ones.cons rfl (ones.cons rfl (ones.cons rfl (ones.cons rfl (ones.cons rfl (ones.cons rfl (ones.cons ((h2_0.sl)).one1 (ones.cons rfl (ones.cons rfl ones.nil)))))))))))) rfl lq rfl ?_
 intro s3 st3 h1
 have := st3.size
 have hS := hS.c0 st3
 replace h2_0 := h2_0.up2 st3
 refine jAi (jAh [(1, _), (2, _)] ⟨rfl, rfl, trivial⟩ (jAg (jAa (jAd rfl rfl (jAi (jAg (jAg (jAa (jAf fld78_3 rfl rfl (jAj one3 rfl h1 rfl rfl (jBw rfl rfl rfl (jAc rfl rfl ?_))))))))))))
 have hE4 := Step.r0 K0 s3
 refine jBm (X := St) 4 [(1, pZ b1), (2, .slice none 0 0), (3, .slice none 0 0), (12, .pointer (some ⟨b1, 10, none⟩)), (13, .int .i64 x1.Size), (14, .bool (decide (x1.Size < 1)))] (fun _ => [(19, .bool (decide ((x1.Size < 1) ∨ (32 < x1.Size))))]) (fun sl wL => sl.w = wL ∧ Step K0 s3 sl) ?_ ?_
 ·
  refine jBb 15 rfl (jBh (fun c5 => ?_) (fun c5 => ?_))
  ·
   exact k_no rfl rfl rfl rfl (k_no rfl rfl rfl rfl (k_no rfl rfl rfl rfl (jAz rfl rfl rfl rfl (jBc ⟨s3, ⟨lb, trivial⟩, ⟨rfl, rfl, rfl, rfl, rfl, rfl, trivial⟩, rfl, hE4⟩))))
  exact jAn rfl rfl (jAf fld78_3 rfl rfl (jAn rfl rfl (jAj one3 rfl h1 rfl rfl (jAn rfl rfl (jCu rfl rfl rfl (jAy rfl rfl rfl rfl (jBc ⟨s3, ⟨lb, trivial⟩, ⟨rfl, rfl, rfl, rfl, rfl, rfl, trivial⟩, rfl, hE4⟩)))))))
 rintro s6 wL ⟨rfl, hE4⟩
 have := hE4.size
 have hS := hS.trans0 hE4
 replace h1 := h1.up2 hE4
 replace h2_0 := h2_0.up2 hE4
 refine jAi (jAh [(1, _), (2, _), (3, _), (19, _)] ⟨rfl, rfl, rfl, rfl, trivial⟩ (jAl rfl (fun c7 => ?_) (fun c7 => ?_)))
 ·
  have h := itT h c7
  refine jAg (jAa (jAd rfl rfl (jAi (jAh [(1, _), (2, _), (3, _)] ⟨rfl, rfl, rfl, trivial⟩ (jAx ?_)))))
  obtain rfl := Option.some.inj h
  refine ⟨_, rfl, Ret.mk hS ?_⟩
  exact ⟨_, rfl, (R.of_SL (.inl ⟨rfl, none, 0, rfl, fun _ => rfl⟩))⟩
 have h := itF h c7
 refine jAv (jAg (jAa (jAf fld78_2 rfl rfl (jAj one22 rfl h1 rfl rfl (jAf fld78_1 rfl rfl (jAj one43 rfl h1 rfl rfl (jCj Tryz.underlying43 rfl (h2_0.sl).hasLen rfl (k_as (v := .int .i64 (x1.Rest.length : Int)) (by simp only [List.length_map]) (jBz (p := (x1.Rest.length : Int)) Tryz.underlying3 Tryz.underlying22 rfl rfl (k_as (congrArg (Value.int .u64) (w64 _)) (jBo rfl rfl rfl (k_as (congrArg (Value.int .u64) (w64 _)) (jAd rfl rfl (jAi (jAh [(1, _), (2, _), (3, _), (4, _)] ⟨rfl, rfl, rfl, rfl, trivial⟩ (jAg (jAa (jAf fld78_1 rfl rfl (jAj one43 rfl h1 rfl rfl (jAd rfl rfl (jAi (jAh [(1, _), (2, _), (3, _), (4, _), (5, _)] ⟨rfl, rfl, rfl, rfl, rfl, trivial⟩ (jAg ?_)))))))))))))))))))))))
 obtain ⟨kj2, hK8, h⟩ := jn_out h
 have hE8 := Step.r0 (KC l2_0.o l2_0.c) s6
 refine jBp (X := St × (List UInt8) × Value) [(1, pZ b1), (2, .slice none 0 0), (3, .slice none 0 0), (4, cW (ofI64 ((x1.N.toNat : Int) + ((ofI64 (x1.Rest.length : Int)).toNat : Int))))] (fun (xL : St × (List UInt8) × Value) => match xL with | (sl, x3, v9) => [(5, v9)]) (fun (xL : St × (List UInt8) × Value) (wL : World) => match xL with | (sl, x3, v9) => sl.w = wL ∧ Step (KC l2_0.o l2_0.c) s6 sl ∧ (Own sl ⟨l2_0.o, l2_0.c⟩ 5 1 v9 (x3.map bD)) ∧ kj2 x3 = some r) ?_ ?_
 ·
  refine jAw (jBr (X := St × (List UInt8) × Value × Nat) [(1, _), (2, _), (3, _), (4, _)] (fun (xL : St × (List UInt8) × Value × Nat) => match xL with | (sl, x4, v11, j) => [(5, v11)]) (fun (xL : St × (List UInt8) × Value × Nat) (wL : World) => match xL with | (sl, x4, v11, j) => sl.w = wL ∧ Step (KC l2_0.o l2_0.c) s6 sl ∧ (Own sl ⟨l2_0.o, l2_0.c⟩ 5 1 v11 (x4.map bD)) ∧ ref03_Sum_l1 kj2 j x4 = some r) (fun (xL : St × (List UInt8) × Value × Nat) => match xL with | (sl, x4, v11, j) => j) (s6, x1.Rest, v2_0, FU) ⟨rfl, rfl, rfl, rfl, trivial⟩ ⟨lr, trivial⟩ ⟨rfl, (Step.refl _).of0 li, h2_0, h⟩ ?_)
  rintro ⟨s12, x4, v11, j⟩ wL ⟨rfl, hE10, h11, h⟩
  cases j with
  | zero => rw [ref03_Sum_l1] at h; exact (noneNe h).elim
  | succ j =>
  rw [ref03_Sum_l1] at h
  have := hE10.size
  have hS := hS.c0 hE10
  have hE8 := hE8.c0 hE10
  refine jAg (jAg (jAa (jAc rfl rfl (jCj Tryz.underlying43 rfl (h11.sl).hasLen rfl (k_as (v := .int .i64 (x4.length : Int)) (by simp only [List.length_map]) (jBw rfl rfl rfl (jAi (jAh [(1, _), (2, _), (3, _), (4, _), (5, _), (31, _)] ⟨rfl, rfl, rfl, rfl, rfl, rfl, trivial⟩ (jAl rfl (fun c13 => ?_) (fun c13 => ?_))))))))))
  ·
   have h := itT h c13
   refine jAv (jAw (jAa (jAc rfl rfl (k_bslice2 (ds := ([(0 : UInt8)] : List UInt8).map bD) slc43 rfl (RVs.cons (R.val rfl) RVs.nil) (by rfl) (by rfl) rfl rfl ?_))))
   intro s14 v14 b14 st14 ge14 bl14 h14
   have := st14.size
   have hS := hS.trans0 st14
   have hE8 := hE8.trans0 st14
   have hE10 := hE10.trans0 st14
   replace h11 := h11.up2 st14
   have lt14 := Own.le1 h14
   obtain ⟨x5, hx5, h⟩ := ob h
   refine k_append (es := ([(0 : UInt8)] : List UInt8).map bD) elem43 rfl rfl h11 (h14.sl) (by have := (jAm hx5).1; simp only [List.length_map] at *; omega) (by have := (jAm hx5).1; simp only [List.length_map] at *; omega) rfl ?_
   intro s15 v15 st15 h15
   rw [← List.map_append, ← (jAm hx5).2] at h15
   have := st15.size
   have hS := hS.c0 st15
   have hE8 := hE8.c0 st15
   have hE10 := hE10.c0 st15
   exact jAd rfl rfl (jAi (jCe (jAu ⟨(s15, x5, v15, j), ⟨lr, trivial⟩, ⟨rfl, rfl, rfl, rfl, trivial⟩, ⟨rfl, hE10, h15, h⟩, (by simp)⟩)))
  have h := itF h c13
  exact jBq rfl (jAu ⟨(s12, x4, v11), ⟨lr, trivial⟩, ⟨rfl, rfl, rfl, rfl, trivial⟩, ⟨rfl, hE8, h11, h⟩⟩)
 rintro ⟨s16, x3, v9⟩ wL ⟨rfl, hE8, h9, h⟩
 rw [hK8] at h
 have := hE8.size
 have hS := hS.c0 hE8
 replace h1 := h1.up2 hE8
 refine jAg (jAa (jAf fld78_0 rfl rfl (jDb (cs' := (a8 x1.H)) agg76 rfl h1 rfl rfl rfl (jAc rfl rfl (jAc rfl rfl ?_)))))
 obtain ⟨x6, hx6, h⟩ := ob h
 refine jAp cal76 rfl (ref03_Mix_w  (clsSt76 x1.H) (h9.sl) hx6) rfl ?_
 rintro s17 vr17 st17 ⟨cs17_0, rfl, h17_0⟩
 have := st17.size
 have hS := hS.trans0 st17
 replace h1 := h1.up2 st17
 obtain rfl := opnSt76 h17_0
 refine jBj zero76 rfl ?_
 intro s18 b18 st18 h18 ge18
 have := st18.size
 have hS := hS.trans0 st18
 replace h1 := h1.up2 st18
 have lt18 := h18.lt
 refine jAo (cs' := (a8 x6)) size76 rfl rfl h18 lz (CellsOf.lit rfl rfl) rfl lq rfl ?_
 intro s19 st19 h18
 have := st19.size
 have hS := hS.c0 st19
 replace h1 := h1.up2 st19
 refine jAi (jAh [(1, _), (2, _), (3, _), (6, _)] ⟨rfl, rfl, rfl, rfl, trivial⟩ (jAg ?_))
 obtain ⟨kj7, hK20, h⟩ := jn_out h
 have hE20 := Step.r0 K0 s19
 refine jBp (X := St × (List UInt8) × Value) [(2, .slice none 0 0)] (fun (xL : St × (List UInt8) × Value) => match xL with | (sl, x8, v21) => [(3, v21)]) (fun (xL : St × (List UInt8) × Value) (wL : World) => match xL with | (sl, x8, v21) => sl.w = wL ∧ Step K0 s19 sl ∧ (Own sl ⟨s19.n + 1, 3003⟩ 5 1 v21 (x8.map bD)) ∧ kj7 x8 = some r) ?_ ?_
 ·
  refine jAg (jAa (jAd rfl rfl (jAi (jAw ?_))))
  have h22 : Own s19 ⟨s19.n + 1, 3003⟩ 5 1 (.slice none 0 0) (([] : List UInt8).map bD) := Own.nil lz lz
  refine jBr (X := St × (List UInt8) × Value × Int × Nat) [(1, _), (2, _), (6, _)] (fun (xL : St × (List UInt8) × Value × Int × Nat) => match xL with | (sl, x9, v24, x10, j) => [(3, v24), (7, .int .i64 x10)]) (fun (xL : St × (List UInt8) × Value × Int × Nat) (wL : World) => match xL with | (sl, x9, v24, x10, j) => sl.w = wL ∧ Step (KC (s19.n + 1) 3003) s19 sl ∧ (Own sl ⟨s19.n + 1, 3003⟩ 5 1 v24 (x9.map bD)) ∧ ref03_Sum_l2 x6 x1 kj7 j x9 x10 = some r) (fun (xL : St × (List UInt8) × Value × Int × Nat) => match xL with | (sl, x9, v24, x10, j) => j) (s19, [], (.slice none 0 0), 0, FU) ⟨rfl, rfl, rfl, trivial⟩ ⟨lr, lr, trivial⟩ ⟨rfl, (Step.refl _).of0 li, h22, h⟩ ?_
  rintro ⟨s25, x9, v24, x10, j⟩ wL ⟨rfl, hE23, h24, h⟩
  cases j with
  | zero => rw [ref03_Sum_l2] at h; exact (noneNe h).elim
  | succ j =>
  rw [ref03_Sum_l2] at h
  have := hE23.size
  have hS := hS.c0 hE23
  have hE20 := hE20.c0 hE23
  replace h1 := h1.up2 hE23
  replace h18 := h18.up2 hE23
  obtain ⟨kj11, hkj11, h⟩ := jn_out h
  refine jAg (jAg (jAa (jAc rfl rfl (jBw rfl rfl rfl (jAi (jAh [(1, _), (2, _), (3, _), (6, _), (7, _), (41, _)] ⟨rfl, rfl, rfl, rfl, rfl, rfl, trivial⟩ (jAl rfl (fun c26 => ?_) (fun c26 => ?_))))))))
  ·
   have h := itT h c26
   refine jAv (jAg (jAh [(1, _), (2, _), (3, _), (6, _), (7, _)] ⟨rfl, rfl, rfl, rfl, rfl, trivial⟩ ?_))
   obtain ⟨kj12, hK27, h⟩ := jn_out h
   have hE27 := Step.r0 (KC (s19.n + 1) 3003) s25
   refine jBp (X := St × (List UInt8) × Value) [(1, pZ b1), (2, .slice none 0 0), (6, pZ b18), (7, .int .i64 x10)] (fun (xL : St × (List UInt8) × Value) => match xL with | (sl, x13, v28) => [(3, v28)]) (fun (xL : St × (List UInt8) × Value) (wL : World) => match xL with | (sl, x13, v28) => sl.w = wL ∧ Step (KC (s19.n + 1) 3003) s25 sl ∧ (Own sl ⟨s19.n + 1, 3003⟩ 5 1 v28 (x13.map bD)) ∧ kj12 x13 = some r) ?_ ?_
   ·
    refine jAw (jAg (jAa (jAc rfl rfl ?_)))
    obtain ⟨x14, hx14, h⟩ := ob h
    refine jBx (m := 0) (xs := (y8 x6)) arr76 rfl rfl rfl hx14 rfl ?_
    obtain ⟨x15, hx15, h⟩ := ob h
    refine jCo cU (pre := []) (post := []) (xs := (y8 x6)) one75 rfl h18 rfl hx15 rfl (jAd rfl rfl (jAi (jAh [(1, _), (2, _), (3, _), (6, _), (7, _), (8, _)] ⟨rfl, rfl, rfl, rfl, rfl, rfl, trivial⟩ (jAg (jAa (jAd rfl rfl (jAi (jAw (jBr (X := St × (List UInt8) × Value × UInt32 × Int × Nat) [(1, _), (2, _), (6, _), (7, _)] (fun (xL : St × (List UInt8) × Value × UInt32 × Int × Nat) => match xL with | (sl, x16, v30, x17, x18, j) => [(3, v30), (8, cU x17), (9, .int .i64 x18)]) (fun (xL : St × (List UInt8) × Value × UInt32 × Int × Nat) (wL : World) => match xL with | (sl, x16, v30, x17, x18, j) => sl.w = wL ∧ Step (KC (s19.n + 1) 3003) s25 sl ∧ (Own sl ⟨s19.n + 1, 3003⟩ 5 1 v30 (x16.map bD)) ∧ ref03_Sum_l3 x1 kj12 j x16 x17 x18 = some r) (fun (xL : St × (List UInt8) × Value × UInt32 × Int × Nat) => match xL with | (sl, x16, v30, x17, x18, j) => j) (s25, x9, v24, x15, 0, FU) ⟨rfl, rfl, rfl, rfl, trivial⟩ ⟨lr, lr, lr, trivial⟩ ⟨rfl, (Step.refl _).of0 li, h24, h⟩ ?_)))))))))
    rintro ⟨s31, x16, v30, x17, x18, j⟩ wL ⟨rfl, hE29, h30, h⟩
    cases j with
    | zero => rw [ref03_Sum_l3] at h; exact (noneNe h).elim
    | succ j =>
    rw [ref03_Sum_l3] at h
    have := hE29.size
    have hS := hS.c0 hE29
    have hE20 := hE20.c0 hE29
    have hE23 := hE23.c0 hE29
    have hE27 := hE27.c0 hE29
    replace h1 := h1.up2 hE29
    refine jAg (jAg (jAa (jAc rfl rfl (jBw rfl rfl rfl (jAi (jAh [(1, _), (2, _), (3, _), (6, _), (7, _), (8, _), (9, _), (48, _)] ⟨rfl, rfl, rfl, rfl, rfl, rfl, rfl, rfl, trivial⟩ (jAl rfl (fun c32 => ?_) (fun c32 => ?_))))))))
    ·
     have h := itT h c32
     refine jAv (jAg (jAw (jAg (jAg (jAa (jAc rfl rfl (jCj Tryz.underlying43 rfl (h30.sl).hasLen rfl (k_as (v := .int .i64 (x16.length : Int)) (by simp only [List.length_map]) (jAf fld78_3 rfl rfl (jAj one3 rfl h1 rfl rfl (jBw rfl rfl rfl (jAi (jAh [(1, _), (2, _), (3, _), (6, _), (7, _), (8, _), (9, _), (55, _)] ⟨rfl, rfl, rfl, rfl, rfl, rfl, rfl, rfl, trivial⟩ (jAl rfl (fun c33 => ?_) (fun c33 => ?_)))))))))))))))
     ·
      have h := itT h c33
      refine jAa (jAc rfl rfl (jAc rfl rfl (k_rem rfl rfl (by decide) rfl (k_as (congrArg (Value.int .u32) (rem32 _ _)) (jBz (p := ((ofI32 ((x17.toNat : Int).tmod 256)).toNat : Int)) Tryz.underlying75 Tryz.underlying5 rfl rfl (k_as (congrArg (Value.int .u8) (w8 _)) (k_bslice2 (ds := ([ofI8 ((ofI32 ((x17.toNat : Int).tmod 256)).toNat : Int)] : List UInt8).map bD) slc43 rfl (RVs.cons (R.val rfl) RVs.nil) (by rfl) (by rfl) rfl rfl ?_)))))))
      intro s34 v34 b34 st34 ge34 bl34 h34
      have := st34.size
      have hS := hS.trans0 st34
      have hE20 := hE20.trans0 st34
      have hE23 := hE23.trans0 st34
      have hE27 := hE27.trans0 st34
      have hE29 := hE29.trans0 st34
      replace h30 := h30.up2 st34
      have lt34 := Own.le1 h34
      obtain ⟨x19, hx19, h⟩ := ob h
      refine k_append (es := ([ofI8 ((ofI32 ((x17.toNat : Int).tmod 256)).toNat : Int)] : List UInt8).map bD) elem43 rfl rfl h30 (h34.sl) (by have := (jAm hx19).1; simp only [List.length_map] at *; omega) (by have := (jAm hx19).1; simp only [List.length_map] at *; omega) rfl ?_
      intro s35 v35 st35 h35
      rw [← List.map_append, ← (jAm hx19).2] at h35
      have := st35.size
      have hS := hS.c0 st35
      have hE20 := hE20.c0 st35
      have hE23 := hE23.c0 st35
      have hE27 := hE27.c0 st35
      have hE29 := hE29.c0 st35
      exact jAd rfl rfl (jAi (jAh [(1, _), (2, _), (3, _), (6, _), (7, _), (8, _), (9, _)] ⟨rfl, rfl, rfl, rfl, rfl, rfl, rfl, trivial⟩ (jAa (jAc rfl rfl (k_quo rfl rfl (by decide) rfl (k_as (congrArg (Value.int .u32) (w32 _)) (jAd rfl rfl (jAi (jCe (jAa (jAc rfl rfl (jBo rfl rfl rfl (jAd rfl rfl (jAi (jAu ⟨(s35, x19, v35, ofI32 ((x17.toNat : Int).tdiv 256), i64 (x18 + 1), j), ⟨lr, lr, lr, trivial⟩, ⟨rfl, rfl, rfl, rfl, trivial⟩, ⟨rfl, hE29, h35, h⟩, (by simp)⟩)))))))))))))))
     have h := itF h c33
     exact jAv (jAa (jAc rfl rfl (k_quo rfl rfl (by decide) rfl (k_as (congrArg (Value.int .u32) (w32 _)) (jAd rfl rfl (jAi (jCe (jAa (jAc rfl rfl (jBo rfl rfl rfl (jAd rfl rfl (jAi (jAu ⟨(s31, x16, v30, ofI32 ((x17.toNat : Int).tdiv 256), i64 (x18 + 1), j), ⟨lr, lr, lr, trivial⟩, ⟨rfl, rfl, rfl, rfl, trivial⟩, ⟨rfl, hE29, h30, h⟩, (by simp)⟩)))))))))))))
    have h := itF h c32
    exact jBq rfl (jCe (jAu ⟨(s31, x16, v30), ⟨lr, trivial⟩, ⟨rfl, rfl, rfl, rfl, trivial⟩, ⟨rfl, hE27, h30, h⟩⟩))
   rintro ⟨s36, x13, v28⟩ wL ⟨rfl, hE27, h28, h⟩
   rw [hK27] at h
   have := hE27.size
   have hS := hS.c0 hE27
   have hE20 := hE20.c0 hE27
   have hE23 := hE23.c0 hE27
   refine jAa (jAc rfl rfl (jBo rfl rfl rfl (jAd rfl rfl (jAi ?_))))
   rw [hkj11] at h
   exact jAu ⟨(s36, x13, v28, i64 (x10 + 1), j), ⟨lr, lr, trivial⟩, ⟨rfl, rfl, rfl, trivial⟩, ⟨rfl, hE23, h28, h⟩, (by simp)⟩
  have h := itF h c26
  exact jBq rfl (jAu ⟨(s25, x9, v24), ⟨lr, trivial⟩, ⟨rfl, trivial⟩, ⟨rfl, hE20, h24, h⟩⟩)
 rintro ⟨s37, x8, v21⟩ wL ⟨rfl, hE20, h21, h⟩
 rw [hK20] at h
 have := hE20.size
 have hS := hS.trans0 hE20
 refine jAg (jAa (jAc rfl rfl (jAd rfl rfl (jAi (jAh [(2, _)] ⟨rfl, trivial⟩ (jAx ?_))))))
 obtain ⟨s38, e38, st38, h38⟩ := h21.freeze
 rw [← e38]
 have := st38.size
 have hS := hS.c0 st38
 obtain rfl := Option.some.inj h
 refine ⟨_, rfl, Ret.mk hS ?_⟩
 exact ⟨_, rfl, h38⟩
theorem ref03_Of_w {s : St} {a0 : Int} {l1 : Lab} {v1 : Value} {a1 : (List UInt8)} {r : (List UInt8)} (hp1 : SL s l1 v1 1 (a1.map bD)) (h : ref03_Of a0 a1 = some r) : Calls Tryz.prog 35 #[.int .i64 a0, v1] s.w (Ret s K0 (fun s1 v => ∃ (u0 : Value), v = u0 ∧ R s1 u0 (.sl 1 (r.map bD)))) := by
 unfold ref03_Of at h
 obtain ⟨lf1, lf1le, lf1ne, hp1⟩ := hp1.fix
 have hS := Step.r0 K0 s
 refine k_fn (rs := [4]) (args := [.int .i64 a0, v1]) Tryz.func35 rfl rfl rfl rfl (jAg (jAa (jAd rfl rfl (jAi (jAg (jAa (jAc rfl rfl ?_)))))))
 obtain ⟨x1, hx1, h⟩ := ob h
 refine jAp cal53 rfl (ref03_Begin_w   hx1) rfl ?_
 rintro s1 vr1 st1 ⟨cs1_0, rfl, h1_0⟩
 have := st1.size
 have hS := hS.trans0 st1
 replace hp1 := hp1.up2 st1
 obtain ⟨q1_0_0, rfl, hq1_0_0⟩ := opnApiDigest h1_0
 refine jAc rfl rfl ?_
 obtain ⟨x2, hx2, h⟩ := ob h
 refine jAp cal52 rfl (ref03_Write_w (a0 := x1) (SL.of_R hq1_0_0) hp1 hx2) rfl ?_
 rintro s2 vr2 st2 ⟨cs2_0, rfl, h2_0⟩
 have := st2.size
 have hS := hS.trans0 st2
 obtain ⟨q2_0_0, rfl, hq2_0_0⟩ := opnApiDigest h2_0
 obtain ⟨x3, hx3, h⟩ := ob h
 refine jAp cal51 rfl (ref03_Sum_w (a0 := x2) (SL.of_R hq2_0_0) hx3) rfl ?_
 rintro s3 v3_0 st3 ⟨_, rfl, h3_0⟩
 have := st3.size
 have hS := hS.trans0 st3
 refine jAd rfl rfl (jAi (jAh [(4, _)] ⟨rfl, trivial⟩ (jAx ?_)))
 obtain rfl := Option.some.inj h
 refine ⟨_, rfl, Ret.mk hS ?_⟩
 exact ⟨_, rfl, h3_0⟩
theorem ref03_Short_w {s : St} {l0 : Lab} {v0 : Value} {a0 : (List UInt8)} {r : St23} (hp0 : SL s l0 v0 1 (a0.map bD)) (h : ref03_Short a0 = some r) : Calls Tryz.prog 19 #[v0] s.w (Ret s K0 (fun s1 v => ∃ (u0 : List Value), v = .agg u0.toArray ∧ RC s1 u0 (dSt23 r))) := by
 unfold ref03_Short at h
 obtain ⟨lf0, lf0le, lf0ne, hp0⟩ := hp0.fix
 have hS := Step.r0 K0 s
 refine jCy (rs := [.cell 2 23]) (args := [v0]) Tryz.func19 rfl rfl rfl rfl (jAg (jAa (jBj zero23 rfl ?_)))
 intro s1 b1 st1 h1 ge1
 have := st1.size
 have hS := hS.trans0 st1
 replace hp0 := hp0.up2 st1
 have lt1 := h1.lt
 refine jAi (jAg (jAa (jBj zero23 rfl ?_)))
 intro s2 b2 st2 h2 ge2
 have := st2.size
 have hS := hS.trans0 st2
 replace hp0 := hp0.up2 st2
 replace h1 := h1.up2 st2
 have lt2 := h2.lt
 refine jAi (jAg ?_)
 obtain ⟨x1, hx1, h⟩ := ob h
 refine jBl (KN s2.n) 3 (.read 1 (.alt 0 (.alt 2 .fin .no) (.alt 2 (.alt 0 .fin .no) .no))) mixed lw rfl rfl rfl ?_
 intro s3 st3
 have := st3.size
 have hS := hS.trans0 st3
 replace hp0 := hp0.up2 st3
 replace h1 := h1.up2 st3
 replace h2 := h2.up2 st3
 refine jAb (v0) rfl rfl (fun s4 st4 => ?_) ?_
 ·exact jAc rfl rfl (jAe)
 refine jCl rfl rfl ?_ ?_
 ·
  have hA5 := Step.r0 (KN s2.n) s3
  refine jBt (g := bD) (i := 0) (j := 16) (pre := []) (post := []) (xs := z16) cB (fun _ => rfl) (fun _ => rfl) arr23 rfl h2 rfl rfl CutAt.none CutAt.none (by decide) (by decide) (by decide) rfl ?_
  intro h6
  replace h6 : SL s3 ⟨b2 + 1, 0⟩ (.slice (some ⟨b2, 0 + 0, none⟩) (16 - 0) (16 - 0)) 1 (z16.map bD) := h6
  refine jAt hA5 (jBa rfl rfl ?_)
  have hA7 := Step.r0 (KN s2.n) s3
  refine jAp cal35 rfl (ref03_Of_w  hp0 hx1) rfl ?_
  rintro s8 v8_0 st8 ⟨_, rfl, h8_0⟩
  have := st8.size
  have hS := hS.trans0 st8
  have hA7 := hA7.trans0 st8
  replace h1 := h1.up2 st8
  replace h2 := h2.up2 st8
  refine jAt hA7 (jBg ?_)
  obtain ⟨x2, hx2, h⟩ := ob h
  refine jDf (i := 0) (j := 16) (q := 16) (g := bD) cB (fun _ => rfl) (fun _ => rfl) (pre := []) (post := []) (xs := z16) (ys := x1) elem43 rfl rfl h2 lz rfl rfl (by decide) (by decide) (SL.of_R h8_0) rfl ?_
  intro s9 st9 h2
  rw [Option.some.inj hx2] at h2
  replace h2 := h2.litE (lit16 (show x2.length = 16 by rw [← Option.some.inj hx2]; exact cpyAt_len rfl (by decide) (by decide)) (0 : UInt8))
  have := st9.size
  have hS := hS.c0 st9
  replace h1 := h1.up2 st9
  refine jAi (jAh [(2, _), (3, _)] ⟨rfl, rfl, trivial⟩ (jAg (jAa (jAs (cs := [cB (x2.getD 0 0), cB (x2.getD 1 0), cB (x2.getD 2 0), cB (x2.getD 3 0), cB (x2.getD 4 0), cB (x2.getD 5 0), cB (x2.getD 6 0), cB (x2.getD 7 0), cB (x2.getD 8 0), cB (x2.getD 9 0), cB (x2.getD 10 0), cB (x2.getD 11 0), cB (x2.getD 12 0), cB (x2.getD 13 0), cB (x2.getD 14 0), cB (x2.getD 15 0)]) agg23 rfl h2 rfl (jAo (cs' := [cB (x2.getD 0 0), cB (x2.getD 1 0), cB (x2.getD 2 0), cB (x2.getD 3 0), cB (x2.getD 4 0), cB (x2.getD 5 0), cB (x2.getD 6 0), cB (x2.getD 7 0), cB (x2.getD 8 0), cB (x2.getD 9 0), cB (x2.getD 10 0), cB (x2.getD 11 0), cB (x2.getD 12 0), cB (x2.getD 13 0), cB (x2.getD 14 0), cB (x2.getD 15 0)]) size23 rfl rfl h1 lz (CellsOf.lit rfl rfl) rfl lq rfl ?_)))))
  intro s10 st10 h1
  have := st10.size
  have hS := hS.c0 st10
  refine jAi (jAh [(2, _)] ⟨rfl, trivial⟩ (jAx ?_))
  obtain rfl := Option.some.inj h
  refine ⟨[.agg [cB (x2.getD 0 0), cB (x2.getD 1 0), cB (x2.getD 2 0), cB (x2.getD 3 0), cB (x2.getD 4 0), cB (x2.getD 5 0), cB (x2.getD 6 0), cB (x2.getD 7 0), cB (x2.getD 8 0), cB (x2.getD 9 0), cB (x2.getD 10 0), cB (x2.getD 11 0), cB (x2.getD 12 0), cB (x2.getD 13 0), cB (x2.getD 14 0), cB (x2.getD 15 0)].toArray], ⟨res_blk (cs := [cB (x2.getD 0 0), cB (x2.getD 1 0), cB (x2.getD 2 0), cB (x2.getD 3 0), cB (x2.getD 4 0), cB (x2.getD 5 0), cB (x2.getD 6 0), cB (x2.getD 7 0), cB (x2.getD 8 0), cB (x2.getD 9 0), cB (x2.getD 10 0), cB (x2.getD 11 0), cB (x2.getD 12 0), cB (x2.getD 13 0), cB (x2.getD 14 0), cB (x2.getD 15 0)]) rfl agg23 h1, trivial⟩, Ret.mk hS ?_⟩
  exact ⟨_, rfl, (clsSt23 (⟨(x2.getD 0 0), (x2.getD 1 0), (x2.getD 2 0), (x2.getD 3 0), (x2.getD 4 0), (x2.getD 5 0), (x2.getD 6 0), (x2.getD 7 0), (x2.getD 8 0), (x2.getD 9 0), (x2.getD 10 0), (x2.getD 11 0), (x2.getD 12 0), (x2.getD 13 0), (x2.getD 14 0), (x2.getD 15 0)⟩ : St23))⟩
 refine jBa rfl rfl ?_
 have hA11 := Step.r0 (KN s2.n) s3
 refine jAp cal35 rfl (ref03_Of_w  hp0 hx1) rfl ?_
 rintro s12 v12_0 st12 ⟨_, rfl, h12_0⟩
 have := st12.size
 have hS := hS.trans0 st12
 have hA11 := hA11.trans0 st12
 replace h1 := h1.up2 st12
 replace h2 := h2.up2 st12
 refine jAt hA11 (jBa rfl rfl ?_)
 have hA13 := Step.r0 (KN s2.n) s12
 refine jBt (g := bD) (i := 0) (j := 16) (pre := []) (post := []) (xs := z16) cB (fun _ => rfl) (fun _ => rfl) arr23 rfl h2 rfl rfl CutAt.none CutAt.none (by decide) (by decide) (by decide) rfl ?_
 intro h14
 replace h14 : SL s12 ⟨b2 + 1, 0⟩ (.slice (some ⟨b2, 0 + 0, none⟩) (16 - 0) (16 - 0)) 1 (z16.map bD) := h14
 refine jAt hA13 (jBg ?_)
 obtain ⟨x3, hx3, h⟩ := ob h
 refine jDf (i := 0) (j := 16) (q := 16) (g := bD) cB (fun _ => rfl) (fun _ => rfl) (pre := []) (post := []) (xs := z16) (ys := x1) elem43 rfl rfl h2 lz rfl rfl (by decide) (by decide) (SL.of_R h12_0) rfl ?_
 intro s15 st15 h2
 rw [Option.some.inj hx3] at h2
 replace h2 := h2.litE (lit16 (show x3.length = 16 by rw [← Option.some.inj hx3]; exact cpyAt_len rfl (by decide) (by decide)) (0 : UInt8))
 have := st15.size
 have hS := hS.c0 st15
 replace h1 := h1.up2 st15
 refine jAi (jAh [(2, _), (3, _)] ⟨rfl, rfl, trivial⟩ (jAg (jAa (jAs (cs := [cB (x3.getD 0 0), cB (x3.getD 1 0), cB (x3.getD 2 0), cB (x3.getD 3 0), cB (x3.getD 4 0), cB (x3.getD 5 0), cB (x3.getD 6 0), cB (x3.getD 7 0), cB (x3.getD 8 0), cB (x3.getD 9 0), cB (x3.getD 10 0), cB (x3.getD 11 0), cB (x3.getD 12 0), cB (x3.getD 13 0), cB (x3.getD 14 0), cB (x3.getD 15 0)]) agg23 rfl h2 rfl (jAo (cs' := [cB (x3.getD 0 0), cB (x3.getD 1 0), cB (x3.getD 2 0), cB (x3.getD 3 0), cB (x3.getD 4 0), cB (x3.getD 5 0), cB (x3.getD 6 0), cB (x3.getD 7 0), cB (x3.getD 8 0), cB (x3.getD 9 0), cB (x3.getD 10 0), cB (x3.getD 11 0), cB (x3.getD 12 0), cB (x3.getD 13 0), cB (x3.getD 14 0), cB (x3.getD 15 0)]) size23 rfl rfl h1 lz (CellsOf.lit rfl rfl) rfl lq rfl ?_)))))
 intro s16 st16 h1
 have := st16.size
 have hS := hS.c0 st16
 refine jAi (jAh [(2, _)] ⟨rfl, trivial⟩ (jAx ?_))
 obtain rfl := Option.some.inj h
 refine ⟨[.agg [cB (x3.getD 0 0), cB (x3.getD 1 0), cB (x3.getD 2 0), cB (x3.getD 3 0), cB (x3.getD 4 0), cB (x3.getD 5 0), cB (x3.getD 6 0), cB (x3.getD 7 0), cB (x3.getD 8 0), cB (x3.getD 9 0), cB (x3.getD 10 0), cB (x3.getD 11 0), cB (x3.getD 12 0), cB (x3.getD 13 0), cB (x3.getD 14 0), cB (x3.getD 15 0)].toArray], ⟨res_blk (cs := [cB (x3.getD 0 0), cB (x3.getD 1 0), cB (x3.getD 2 0), cB (x3.getD 3 0), cB (x3.getD 4 0), cB (x3.getD 5 0), cB (x3.getD 6 0), cB (x3.getD 7 0), cB (x3.getD 8 0), cB (x3.getD 9 0), cB (x3.getD 10 0), cB (x3.getD 11 0), cB (x3.getD 12 0), cB (x3.getD 13 0), cB (x3.getD 14 0), cB (x3.getD 15 0)]) rfl agg23 h1, trivial⟩, Ret.mk hS ?_⟩
 exact ⟨_, rfl, (clsSt23 (⟨(x3.getD 0 0), (x3.getD 1 0), (x3.getD 2 0), (x3.getD 3 0), (x3.getD 4 0), (x3.getD 5 0), (x3.getD 6 0), (x3.getD 7 0), (x3.getD 8 0), (x3.getD 9 0), (x3.getD 10 0), (x3.getD 11 0), (x3.getD 12 0), (x3.getD 13 0), (x3.getD 14 0), (x3.getD 15 0)⟩ : St23))⟩
theorem ref06_Make_w {s : St} {cs0 : List Value} {a0 : ApiRev} {a1 : Int} {cs2 : List Value} {a2 : ApiValue} {r : (ApiRev × Int)} (hp0 : RC s cs0 (dApiRev a0)) (hp2 : RC s cs2 (dApiValue a2)) (h : ref06_Make a0 a1 a2 = some r) : Calls Tryz.prog 7 #[.agg cs0.toArray, .int .i64 a1, .agg cs2.toArray] s.w (Ret s K0 (fun s1 v => ∃ (u0 : List Value), v = .tuple #[.agg u0.toArray, .int .i64 r.2] ∧ RC s1 u0 (dApiRev r.1))) := by
 unfold ref06_Make at h
 obtain rfl := opnApiRev hp0
 obtain ⟨q2_0, q2_1, rfl, hq2_0, hq2_1⟩ := opnApiValue hp2
 have hS := Step.r0 K0 s
 refine jCy (rs := [.cell 6 25, .tmp 7]) (args := [.agg (a17 a0.Gen a0.Sum).toArray, .int .i64 a1, .agg #[.int .i64 a2.Kind, .int .i64 a2.Num, S a2.Text, q2_0, q2_1]]) Tryz.func7 rfl rfl rfl rfl (jAg (jAa (jCp rfl rfl ?_)))
 intro s1 b1 st1 h1 ge1
 have := st1.size
 have hS := hS.trans0 st1
 replace hq2_0 := hq2_0.up2 st1
 replace hq2_1 := hq2_1.up2 st1
 have lt1 := h1.lt
 refine jCp rfl rfl ?_
 intro s2 b2 st2 h2 ge2
 have := st2.size
 have hS := hS.trans0 st2
 replace hq2_0 := hq2_0.up2 st2
 replace hq2_1 := hq2_1.up2 st2
 replace h1 := h1.up2 st2
 have lt2 := h2.lt
 refine jBj zero25 rfl ?_
 intro s3 b3 st3 h3 ge3
 have := st3.size
 have hS := hS.trans0 st3
 replace hq2_0 := hq2_0.up2 st3
 replace hq2_1 := hq2_1.up2 st3
 replace h1 := h1.up2 st3
 replace h2 := h2.up2 st3
 have lt3 := h3.lt
 refine jAd rfl rfl (jAi (jAh [(1, _), (3, _), (5, _), (6, _), (7, _)] ⟨rfl, rfl, rfl, rfl, rfl, trivial⟩ (jAg (jAg (jAa (jAs (cs := (a17 a0.Gen a0.Sum)) agg25 rfl h1 rfl (jCa plc25 zero25 rfl Parts.nil (by rfl) rfl (k_as (v := .agg z17.toArray) rfl (k_neq_fb (a := (a0.Gen.toNat : Int)) (b := 0) (xs := (y16 a0.Sum)) (ys := z16) flatB25 rfl rfl rfl rfl rfl (jAc rfl rfl ?_))))))))))
 obtain ⟨x1, hx1, h⟩ := ob h
 have hE4 := Step.r0 K0 s3
 refine jBm (X := St) 4 [(1, .int .i64 a1), (3, pZ b1), (5, pZ b2), (6, pZ b3), (7, .int .i64 0), (9, .agg (a17 a0.Gen a0.Sum).toArray), (10, .agg z17.toArray), (11, .bool (decide (¬ ((a0.Gen.toNat : Int) = 0 ∧ (y16 a0.Sum) = z16))))] (fun _ => [(16, .bool x1)]) (fun sl wL => sl.w = wL ∧ Step K0 s3 sl) ?_ ?_
 ·
  refine jBb 12 rfl (jBh (fun c5 => ?_) (fun c5 => ?_))
  ·
   have hx1 := itT hx1 c5
   refine jAn rfl rfl (jAs (cs := (a17 a0.Gen a0.Sum)) agg25 rfl h1 rfl (jAn rfl rfl ?_))
   obtain ⟨x2, hx2, hx1⟩ := ob hx1
   refine jAp cal9 rfl (ref06_May_w  (clsApiRev a0) hx2) rfl ?_
   rintro s6 vr6 st6 rfl
   have := st6.size
   have hS := hS.trans0 st6
   have hE4 := hE4.trans0 st6
   exact jAn rfl rfl (jDd rfl rfl (jAz rfl rfl rfl rfl (jBc ⟨s6, ⟨(congrArg (fun b => some (Value.bool b)) (Option.some.inj hx1)), trivial⟩, ⟨rfl, rfl, rfl, rfl, rfl, rfl, rfl, rfl, trivial⟩, rfl, hE4⟩)))
  have hx1 := itF hx1 c5
  exact k_no rfl rfl rfl rfl (k_no rfl rfl rfl rfl (k_no rfl rfl rfl rfl (jAy rfl rfl rfl rfl (jBc ⟨s3, ⟨(congrArg (fun b => some (Value.bool b)) (Option.some.inj hx1)), trivial⟩, ⟨rfl, rfl, rfl, rfl, rfl, rfl, rfl, rfl, trivial⟩, rfl, hE4⟩))))
 rintro s7 wL ⟨rfl, hE4⟩
 have := hE4.size
 have hS := hS.trans0 hE4
 replace h1 := h1.up2 hE4
 replace hq2_0 := hq2_0.up2 hE4
 replace hq2_1 := hq2_1.up2 hE4
 replace h2 := h2.up2 hE4
 replace h3 := h3.up2 hE4
 refine jAc rfl rfl ?_
 have hE8 := Step.r0 K0 s7
 refine jBm (X := St) 3 [(1, .int .i64 a1), (3, pZ b1), (5, pZ b2), (6, pZ b3), (7, .int .i64 0), (9, .agg (a17 a0.Gen a0.Sum).toArray), (10, .agg z17.toArray), (11, .bool (decide (¬ ((a0.Gen.toNat : Int) = 0 ∧ (y16 a0.Sum) = z16)))), (16, .bool x1)] (fun _ => [(20, .bool (decide ((x1 = true) ∨ (a1 < 0))))]) (fun sl wL => sl.w = wL ∧ Step K0 s7 sl) ?_ ?_
 ·
  refine jBb 17 rfl (jCn (fun c9 => ?_) (fun c9 => ?_))
  ·
   exact k_no rfl rfl rfl rfl (k_no rfl rfl rfl rfl (jAz rfl rfl rfl rfl (jBc ⟨s7, ⟨lb, trivial⟩, ⟨rfl, rfl, rfl, rfl, rfl, rfl, rfl, rfl, rfl, trivial⟩, rfl, hE8⟩)))
  exact jAn rfl rfl (jAc rfl rfl (jAn rfl rfl (jBw rfl rfl rfl (jAy rfl rfl rfl rfl (jBc ⟨s7, ⟨lb, trivial⟩, ⟨rfl, rfl, rfl, rfl, rfl, rfl, rfl, rfl, rfl, trivial⟩, rfl, hE8⟩)))))
 rintro s10 wL ⟨rfl, hE8⟩
 have := hE8.size
 have hS := hS.trans0 hE8
 replace h1 := h1.up2 hE8
 replace hq2_0 := hq2_0.up2 hE8
 replace hq2_1 := hq2_1.up2 hE8
 replace h2 := h2.up2 hE8
 replace h3 := h3.up2 hE8
 refine jAc rfl rfl ?_
 have hE11 := Step.r0 K0 s10
 refine jBm (X := St) 3 [(1, .int .i64 a1), (3, pZ b1), (5, pZ b2), (6, pZ b3), (7, .int .i64 0), (9, .agg (a17 a0.Gen a0.Sum).toArray), (10, .agg z17.toArray), (11, .bool (decide (¬ ((a0.Gen.toNat : Int) = 0 ∧ (y16 a0.Sum) = z16)))), (16, .bool x1), (20, .bool (decide ((x1 = true) ∨ (a1 < 0))))] (fun _ => [(24, .bool (decide (((x1 = true) ∨ (a1 < 0)) ∨ (1 < a1))))]) (fun sl wL => sl.w = wL ∧ Step K0 s10 sl) ?_ ?_
 ·
  refine jBb 21 rfl (jBh (fun c12 => ?_) (fun c12 => ?_))
  ·
   exact k_no rfl rfl rfl rfl (k_no rfl rfl rfl rfl (jAz rfl rfl rfl rfl (jBc ⟨s10, ⟨lb, trivial⟩, ⟨rfl, rfl, rfl, rfl, rfl, rfl, rfl, rfl, rfl, rfl, trivial⟩, rfl, hE11⟩)))
  exact jAn rfl rfl (jAc rfl rfl (jAn rfl rfl (jCu rfl rfl rfl (jAy rfl rfl rfl rfl (jBc ⟨s10, ⟨lb, trivial⟩, ⟨rfl, rfl, rfl, rfl, rfl, rfl, rfl, rfl, rfl, rfl, trivial⟩, rfl, hE11⟩)))))
 rintro s13 wL ⟨rfl, hE11⟩
 have := hE11.size
 have hS := hS.trans0 hE11
 replace h1 := h1.up2 hE11
 replace hq2_0 := hq2_0.up2 hE11
 replace hq2_1 := hq2_1.up2 hE11
 replace h2 := h2.up2 hE11
 replace h3 := h3.up2 hE11
 refine jAc rfl rfl ?_
 obtain ⟨x3, hx3, h⟩ := ob h
 have hE14 := Step.r0 K0 s13
 refine jBm (X := St) 4 [(1, .int .i64 a1), (3, pZ b1), (5, pZ b2), (6, pZ b3), (7, .int .i64 0), (9, .agg (a17 a0.Gen a0.Sum).toArray), (10, .agg z17.toArray), (11, .bool (decide (¬ ((a0.Gen.toNat : Int) = 0 ∧ (y16 a0.Sum) = z16)))), (16, .bool x1), (20, .bool (decide ((x1 = true) ∨ (a1 < 0)))), (24, .bool (decide (((x1 = true) ∨ (a1 < 0)) ∨ (1 < a1))))] (fun _ => [(29, .bool x3)]) (fun sl wL => sl.w = wL ∧ Step K0 s13 sl) ?_ ?_
 ·
  refine jBb 25 rfl (jBh (fun c15 => ?_) (fun c15 => ?_))
  ·
   have hx3 := itT hx3 c15
   exact k_no rfl rfl rfl rfl (k_no rfl rfl rfl rfl (k_no rfl rfl rfl rfl (jAz rfl rfl rfl rfl (jBc ⟨s13, ⟨(congrArg (fun b => some (Value.bool b)) (Option.some.inj hx3)), trivial⟩, ⟨rfl, rfl, rfl, rfl, rfl, rfl, rfl, rfl, rfl, rfl, rfl, trivial⟩, rfl, hE14⟩))))
  have hx3 := itF hx3 c15
  refine jAn rfl rfl (jAs (cs := [.int .i64 a2.Kind, .int .i64 a2.Num, S a2.Text, q2_0, q2_1]) agg29 rfl h2 rfl (jAn rfl rfl ?_))
  obtain ⟨x4, hx4, hx3⟩ := ob hx3
  refine jAp cal17 rfl (ref01_May_w  (clsApiValue a2 hq2_0 hq2_1) hx4) rfl ?_
  rintro s16 vr16 st16 rfl
  have := st16.size
  have hS := hS.trans0 st16
  have hE14 := hE14.trans0 st16
  exact jAn rfl rfl (jDd rfl rfl (jAy rfl rfl rfl rfl (jBc ⟨s16, ⟨(congrArg (fun b => some (Value.bool b)) (Option.some.inj hx3)), trivial⟩, ⟨rfl, rfl, rfl, rfl, rfl, rfl, rfl, rfl, rfl, rfl, rfl, trivial⟩, rfl, hE14⟩)))
 rintro s17 wL ⟨rfl, hE14⟩
 have := hE14.size
 have hS := hS.trans0 hE14
 replace h1 := h1.up2 hE14
 replace hq2_0 := hq2_0.up2 hE14
 replace hq2_1 := hq2_1.up2 hE14
 replace h2 := h2.up2 hE14
 replace h3 := h3.up2 hE14
 refine jAi (jAh [(1, _), (3, _), (5, _), (6, _), (7, _), (29, _)] ⟨rfl, rfl, rfl, rfl, rfl, rfl, trivial⟩ (jCk rfl (fun c18 => ?_) (fun c18 => ?_)))
 ·
  have h := ibT h c18
  refine jAg (jAa (jCa plc25 zero25 rfl Parts.nil (by rfl) rfl (k_as (v := .agg z17.toArray) rfl (jAo (cs' := z17) size25 rfl rfl h3 lz (CellsOf.lit rfl rfl) rfl lq rfl ?_))))
  intro s19 st19 h3
  have := st19.size
  have hS := hS.c0 st19
  refine jAd rfl rfl (jAi (jAh [(1, _), (3, _), (5, _), (6, _), (7, _)] ⟨rfl, rfl, rfl, rfl, rfl, trivial⟩ (jAx ?_)))
  obtain rfl := Option.some.inj h
  refine ⟨[.agg z17.toArray, .int .i64 1], ⟨res_blk (cs := z17) rfl agg25 h3, rfl, trivial⟩, Ret.mk hS ?_⟩
  exact ⟨_, rfl, (clsApiRev (⟨(0 : UInt64), (⟨(0 : UInt8), (0 : UInt8), (0 : UInt8), (0 : UInt8), (0 : UInt8), (0 : UInt8), (0 : UInt8), (0 : UInt8), (0 : UInt8), (0 : UInt8), (0 : UInt8), (0 : UInt8), (0 : UInt8), (0 : UInt8), (0 : UInt8), (0 : UInt8)⟩ : St23)⟩ : ApiRev))⟩
 have h := ibF h c18
 refine jAv (jAg (jAg (jAa (jAf fld25_0 rfl rfl (jAj one22 rfl h1 rfl rfl (jCc rfl rfl rfl (jAi (jAh [(1, _), (3, _), (5, _), (6, _), (7, _), (33, _)] ⟨rfl, rfl, rfl, rfl, rfl, rfl, trivial⟩ (jAl rfl (fun c20 => ?_) (fun c20 => ?_))))))))))
 ·
  have h := itT h c20
  refine jAg (jAa (jCa plc25 zero25 rfl Parts.nil (by rfl) rfl (k_as (v := .agg z17.toArray) rfl (jAo (cs' := z17) size25 rfl rfl h3 lz (CellsOf.lit rfl rfl) rfl lq rfl ?_))))
  intro s21 st21 h3
  have := st21.size
  have hS := hS.c0 st21
  refine jAd rfl rfl (jAi (jAh [(1, _), (3, _), (5, _), (6, _), (7, _)] ⟨rfl, rfl, rfl, rfl, rfl, trivial⟩ (jAx ?_)))
  obtain rfl := Option.some.inj h
  refine ⟨[.agg z17.toArray, .int .i64 11], ⟨res_blk (cs := z17) rfl agg25 h3, rfl, trivial⟩, Ret.mk hS ?_⟩
  exact ⟨_, rfl, (clsApiRev (⟨(0 : UInt64), (⟨(0 : UInt8), (0 : UInt8), (0 : UInt8), (0 : UInt8), (0 : UInt8), (0 : UInt8), (0 : UInt8), (0 : UInt8), (0 : UInt8), (0 : UInt8), (0 : UInt8), (0 : UInt8), (0 : UInt8), (0 : UInt8), (0 : UInt8), (0 : UInt8)⟩ : St23)⟩ : ApiRev))⟩
 have h := itF h c20
 refine jAv (jAg (jAa (jAc rfl rfl (jBz (p := a1) Tryz.underlying3 Tryz.underlying5 rfl rfl (k_as (congrArg (Value.int .u8) (w8 _)) (jAf fld25_0 rfl rfl (jAj one22 rfl h1 rfl rfl (k_shr (p := (a0.Gen.toNat : Int)) rfl rfl (by decide) rfl (k_as (congrArg (Value.int .u64) (shr64_eq _ _)) (jBz (p := ((shr64 a0.Gen 56).toNat : Int)) Tryz.underlying22 Tryz.underlying5 rfl rfl (k_as (congrArg (Value.int .u8) (w8 _)) (jAf fld25_0 rfl rfl (jAj one22 rfl h1 rfl rfl (k_shr (p := (a0.Gen.toNat : Int)) rfl rfl (by decide) rfl (k_as (congrArg (Value.int .u64) (shr64_eq _ _)) (jBz (p := ((shr64 a0.Gen 48).toNat : Int)) Tryz.underlying22 Tryz.underlying5 rfl rfl (k_as (congrArg (Value.int .u8) (w8 _)) (jAf fld25_0 rfl rfl (jAj one22 rfl h1 rfl rfl (k_shr (p := (a0.Gen.toNat : Int)) rfl rfl (by decide) rfl (k_as (congrArg (Value.int .u64) (shr64_eq _ _)) (jBz (p := ((shr64 a0.Gen 40).toNat : Int)) Tryz.underlying22 Tryz.underlying5 rfl rfl (k_as (congrArg (Value.int .u8) (w8 _)) (jAf fld25_0 rfl rfl (jAj one22 rfl h1 rfl rfl (k_shr (p := (a0.Gen.toNat : Int)) rfl rfl (by decide) rfl (k_as (congrArg (Value.int .u64) (shr64_eq _ _)) (jBz (p := ((shr64 a0.Gen 32).toNat : Int)) Tryz.underlying22 Tryz.underlying5 rfl rfl (k_as (congrArg (Value.int .u8) (w8 _)) (jAf fld25_0 rfl rfl (jAj one22 rfl h1 rfl rfl (k_shr (p := (a0.Gen.toNat : Int)) rfl rfl (by decide) rfl (k_as (congrArg (Value.int .u64) (shr64_eq _ _)) (jBz (p := ((shr64 a0.Gen 24).toNat : Int)) Tryz.underlying22 Tryz.underlying5 rfl rfl (k_as (congrArg (Value.int .u8) (w8 _)) (jAf fld25_0 rfl rfl (jAj one22 rfl h1 rfl rfl (k_shr (p := (a0.Gen.toNat : Int)) rfl rfl (by decide) rfl (k_as (congrArg (Value.int .u64) (shr64_eq _ _)) (jBz (p := ((shr64 a0.Gen 16).toNat : Int)) Tryz.underlying22 Tryz.underlying5 rfl rfl ?_))))))))))))))))))))))))))))))))))))))))
 refine k_as (congrArg (Value.int .u8) (w8 _)) (jAf fld25_0 rfl rfl (jAj one22 rfl h1 rfl rfl (k_shr (p := (a0.Gen.toNat : Int)) rfl rfl (by decide) rfl (k_as (congrArg (Value.int .u64) (shr64_eq _ _)) (jBz (p := ((shr64 a0.Gen 8).toNat : Int)) Tryz.underlying22 Tryz.underlying5 rfl rfl (k_as (congrArg (Value.int .u8) (w8 _)) (jAf fld25_0 rfl rfl (jAj one22 rfl h1 rfl rfl (jBz (p := (a0.Gen.toNat : Int)) Tryz.underlying22 Tryz.underlying5 rfl rfl (k_as (congrArg (Value.int .u8) (w8 _)) (k_bslice2 (ds := ([ofI8 a1, ofI8 ((shr64 a0.Gen 56).toNat : Int), ofI8 ((shr64 a0.Gen 48).toNat : Int), ofI8 ((shr64 a0.Gen 40).toNat : Int), ofI8 ((shr64 a0.Gen 32).toNat : Int), ofI8 ((shr64 a0.Gen 24).toNat : Int), ofI8 ((shr64 a0.Gen 16).toNat : Int), ofI8 ((shr64 a0.Gen 8).toNat : Int), ofI8 (a0.Gen.toNat : Int)] : List UInt8).map bD) slc43 rfl (RVs.cons (R.val rfl) (RVs.cons (R.val rfl) (RVs.cons (R.val rfl) (RVs.cons (R.val rfl) (RVs.cons (R.val rfl) (RVs.cons (R.val rfl) (RVs.cons (R.val rfl) (RVs.cons (R.val rfl) (RVs.cons (R.val rfl) RVs.nil))))))))) (by rfl) (by rfl) rfl rfl ?_)))))))))))
 intro s22 v22 b22 st22 ge22 bl22 h22
 have := st22.size
 have hS := hS.trans0 st22
 replace h1 := h1.up2 st22
 replace hq2_0 := hq2_0.up2 st22
 replace hq2_1 := hq2_1.up2 st22
 replace h2 := h2.up2 st22
 replace h3 := h3.up2 st22
 have lt22 := Own.le1 h22
 refine jAd rfl rfl (jAi (jAh [(3, _), (5, _), (6, _), (7, _), (8, _)] ⟨rfl, rfl, rfl, rfl, rfl, trivial⟩ (jAg (jAa (jAc rfl rfl (jAf fld25_1 rfl rfl (jBt (g := bD) (i := 0) (j := 16) (pre := [cW a0.Gen]) (post := []) (xs := (y16 a0.Sum)) cB (fun _ => rfl) (fun _ => rfl) arr23 rfl h1 rfl rfl CutAt.none CutAt.none (by decide) (by decide) (by decide) rfl ?_)))))))
 intro h23
 replace h23 : SL s22 ⟨b1 + 1, 0⟩ (.slice (some ⟨b1, 1 + 0, none⟩) (16 - 0) (16 - 0)) 1 ((y16 a0.Sum).map bD) := h23
 obtain ⟨x5, hx5, h⟩ := ob h
 refine k_append (es := ([a0.Sum.e0, a0.Sum.e1, a0.Sum.e2, a0.Sum.e3, a0.Sum.e4, a0.Sum.e5, a0.Sum.e6, a0.Sum.e7, a0.Sum.e8, a0.Sum.e9, a0.Sum.e10, a0.Sum.e11, a0.Sum.e12, a0.Sum.e13, a0.Sum.e14, a0.Sum.e15] : List UInt8).map bD) elem43 rfl rfl h22 h23 (by have := (jAm hx5).1; simp only [List.length_map] at *; omega) (by have := (jAm hx5).1; simp only [List.length_map] at *; omega) rfl ?_
 intro s24 v24 st24 h24
 rw [← List.map_append, ← (jAm hx5).2] at h24
 have := st24.size
 have hS := hS.c0 st24
 replace h1 := h1.up2 st24
 replace hq2_0 := hq2_0.up2 st24
 replace hq2_1 := hq2_1.up2 st24
 replace h2 := h2.up2 st24
 replace h3 := h3.up2 st24
 refine jAd rfl rfl (jAi (jAh [(3, _), (5, _), (6, _), (7, _), (8, _)] ⟨rfl, rfl, rfl, rfl, rfl, trivial⟩ (jAg (jAa (jAc rfl rfl (jAs (cs := [.int .i64 a2.Kind, .int .i64 a2.Num, S a2.Text, q2_0, q2_1]) agg29 rfl h2 rfl ?_))))))
 obtain ⟨x6, hx6, h⟩ := ob h
 refine jAp cal18 rfl (ref01_Print_w  (clsApiValue a2 hq2_0 hq2_1) hx6) rfl ?_
 rintro s25 vr25 st25 rfl
 have := st25.size
 have hS := hS.trans0 st25
 replace h1 := h1.up2 st25
 replace h3 := h3.up2 st25
 replace h24 := h24.up2 st25
 obtain ⟨x7, hx7, h⟩ := ob h
 refine k_append_str elem43 rfl rfl Tryz.underlying9 rfl rfl h24 (by have := (jAm hx7).1; simp only [List.length_map]; omega) rfl ?_
 intro s26 v26 st26 h26
 rw [← List.map_append, ← (jAm hx7).2] at h26
 have := st26.size
 have hS := hS.c0 st26
 replace h1 := h1.up2 st26
 replace h3 := h3.up2 st26
 refine jAd rfl rfl (jAi (jAh [(3, _), (6, _), (7, _), (8, _)] ⟨rfl, rfl, rfl, rfl, trivial⟩ (jAg (jBl (KN s26.n) 5 (.read 0 (.read 1 (.read 2 (.read 3 (.alt 4 .fin .no))))) mixed lw rfl rfl rfl ?_))))
 intro s27 st27
 have := st27.size
 have hS := hS.trans0 st27
 replace h1 := h1.up2 st27
 replace h3 := h3.up2 st27
 replace h26 := h26.up2 st27
 refine jAb (pZ b1) rfl rfl (fun s28 st28 => ?_) ?_
 ·exact jAf fld25_0 rfl rfl (jAe)
 refine jAb (cW a0.Gen) rfl rfl (fun s29 st29 => ?_) ?_
 ·try replace h1 := h1.up2 st29
  exact jAj one22 rfl h1 rfl rfl (jAe)
 refine jAb (cW (ofI64 ((a0.Gen.toNat : Int) + 1))) rfl rfl (fun s30 st30 => ?_) ?_
 ·exact jBo rfl rfl rfl (k_as (congrArg (Value.int .u64) (w64 _)) (jAe))
 refine jAb (v26) rfl rfl (fun s31 st31 => ?_) ?_
 ·exact jAc rfl rfl (jAe)
 refine jBa rfl rfl ?_
 have hA32 := Step.r0 (KN s26.n) s27
 obtain ⟨x8, hx8, h⟩ := ob h
 refine jAp cal19 rfl (ref03_Short_w  (h26.sl) hx8) rfl ?_
 rintro s33 vr33 st33 ⟨cs33_0, rfl, h33_0⟩
 have := st33.size
 have hS := hS.trans0 st33
 have hA32 := hA32.trans0 st33
 replace h3 := h3.up2 st33
 obtain rfl := opnSt23 h33_0
 refine jAt hA32 (jBg (jCa plc25 zero25 rfl (Parts.cons (CellsOf.lit rfl rfl).1 (Parts.cons (CellsOf.lit rfl rfl).1 Parts.nil)) (by rfl) rfl (k_as (v := .agg (a17 (ofI64 ((a0.Gen.toNat : Int) + 1)) x8).toArray) rfl (jAo (cs' := (a17 (ofI64 ((a0.Gen.toNat : Int) + 1)) x8)) size25 rfl rfl h3 lz (CellsOf.lit rfl rfl) rfl lq rfl ?_))))
 intro s34 st34 h3
 have := st34.size
 have hS := hS.c0 st34
 refine jAd rfl rfl (jAi (jAh [(6, _), (7, _)] ⟨rfl, rfl, trivial⟩ (jAx ?_)))
 obtain rfl := Option.some.inj h
 refine ⟨[.agg (a17 (ofI64 ((a0.Gen.toNat : Int) + 1)) x8).toArray, .int .i64 0], ⟨res_blk (cs := (a17 (ofI64 ((a0.Gen.toNat : Int) + 1)) x8)) rfl agg25 h3, rfl, trivial⟩, Ret.mk hS ?_⟩
 exact ⟨_, rfl, (clsApiRev (⟨ofI64 ((a0.Gen.toNat : Int) + 1), x8⟩ : ApiRev))⟩
theorem ref06_Cmp_w {s : St} {cs0 : List Value} {a0 : ApiRev} {cs1 : List Value} {a1 : ApiRev} {r : Int} (hp0 : RC s cs0 (dApiRev a0)) (hp1 : RC s cs1 (dApiRev a1)) (h : ref06_Cmp a0 a1 = some r) : Calls Tryz.prog 11 #[.agg cs0.toArray, .agg cs1.toArray] s.w (Ret s K0 (fun s1 v => v = .int .i64 r)) := by
 unfold ref06_Cmp at h
 obtain rfl := opnApiRev hp0
 obtain rfl := opnApiRev hp1
 have hS := Step.r0 K0 s
 refine k_fn (rs := [4]) (args := [.agg (a17 a0.Gen a0.Sum).toArray, .agg (a17 a1.Gen a1.Sum).toArray]) Tryz.func11 rfl rfl rfl rfl (jAg (jAa (jCp rfl rfl ?_)))
 intro s1 b1 st1 h1 ge1
 have := st1.size
 have hS := hS.trans0 st1
 have lt1 := h1.lt
 refine jCp rfl rfl ?_
 intro s2 b2 st2 h2 ge2
 have := st2.size
 have hS := hS.trans0 st2
 replace h1 := h1.up2 st2
 have lt2 := h2.lt
 refine jAd rfl rfl (jAi (jAh [(2, _), (3, _), (4, _)] ⟨rfl, rfl, rfl, trivial⟩ (jAg (jAg (jAa (jAf fld25_0 rfl rfl (jAj one22 rfl h1 rfl rfl (jAf fld25_0 rfl rfl (jAj one22 rfl h2 rfl rfl (jDe rfl rfl rfl (jAi (jAh [(2, _), (3, _), (4, _), (10, _)] ⟨rfl, rfl, rfl, rfl, trivial⟩ (jAl rfl (fun c3 => ?_) (fun c3 => ?_))))))))))))))
 ·
  have h := itT h c3
  refine jAg (jAg (jAa (jAf fld25_0 rfl rfl (jAj one22 rfl h1 rfl rfl (jAf fld25_0 rfl rfl (jAj one22 rfl h2 rfl rfl (jBw rfl rfl rfl (jAi (jAh [(2, _), (3, _), (4, _), (15, _)] ⟨rfl, rfl, rfl, rfl, trivial⟩ (jAl rfl (fun c4 => ?_) (fun c4 => ?_)))))))))))
  ·
   have h := itT h c4
   refine jAg (jAa (jAd rfl rfl (jAi (jAh [(2, _), (3, _), (4, _)] ⟨rfl, rfl, rfl, trivial⟩ (jAx ?_)))))
   obtain rfl := Option.some.inj h
   refine ⟨_, rfl, Ret.mk hS ?_⟩
   exact rfl
  have h := itF h c4
  refine jAv (jAg (jAa (jAd rfl rfl (jAi (jAh [(2, _), (3, _), (4, _)] ⟨rfl, rfl, rfl, trivial⟩ (jAx ?_))))))
  obtain rfl := Option.some.inj h
  refine ⟨_, rfl, Ret.mk hS ?_⟩
  exact rfl
 have h := itF h c3
 refine jAv (jAg (jAh [(2, _), (3, _), (4, _)] ⟨rfl, rfl, rfl, trivial⟩ ?_))
 obtain ⟨kj1, hK5, h⟩ := jn_out h
 have hE5 := Step.r0 K0 s2
 refine jBp (X := St) [(4, .int .i64 0)] (fun (xL : St) => match xL with | sl => []) (fun (xL : St) (wL : World) => match xL with | sl => sl.w = wL ∧ Step K0 s2 sl ∧ kj1 () = some r) ?_ ?_
 ·
  refine jAg (jAa (jAd rfl rfl (jAi (jAw (jBr (X := St × Int × Nat) [(2, _), (3, _), (4, _)] (fun (xL : St × Int × Nat) => match xL with | (sl, x2, j) => [(5, .int .i64 x2)]) (fun (xL : St × Int × Nat) (wL : World) => match xL with | (sl, x2, j) => sl.w = wL ∧ Step K0 s2 sl ∧ ref06_Cmp_l1 a0 a1 kj1 j x2 = some r) (fun (xL : St × Int × Nat) => match xL with | (sl, x2, j) => j) (s2, 0, FU) ⟨rfl, rfl, rfl, trivial⟩ ⟨lr, trivial⟩ ⟨rfl, (Step.refl _).of0 li, h⟩ ?_)))))
  rintro ⟨s7, x2, j⟩ wL ⟨rfl, hE6, h⟩
  cases j with
  | zero => rw [ref06_Cmp_l1] at h; exact (noneNe h).elim
  | succ j =>
  rw [ref06_Cmp_l1] at h
  have := hE6.size
  have hS := hS.trans0 hE6
  have hE5 := hE5.trans0 hE6
  replace h1 := h1.up2 hE6
  replace h2 := h2.up2 hE6
  refine jAg (jAg (jAa (jAc rfl rfl (jBw rfl rfl rfl (jAi (jAh [(2, _), (3, _), (4, _), (5, _), (17, _)] ⟨rfl, rfl, rfl, rfl, rfl, trivial⟩ (jAl rfl (fun c8 => ?_) (fun c8 => ?_))))))))
  ·
   have h := itT h c8
   refine jAv (jAg (jAw (jAg (jAg (jAh [(2, _), (3, _), (4, _), (5, _)] ⟨rfl, rfl, rfl, rfl, trivial⟩ (jBl (KN s7.n) 8 (.read 0 (.read 1 (.read 2 (.read 3 (.read 4 (.read 5 (.read 6 (.read 7 .fin)))))))) mixed lw rfl rfl rfl ?_))))))
   intro s9 st9
   have := st9.size
   have hS := hS.trans0 st9
   have hE5 := hE5.trans0 st9
   have hE6 := hE6.trans0 st9
   replace h1 := h1.up2 st9
   replace h2 := h2.up2 st9
   refine jAb (.int .i64 x2) rfl rfl (fun s10 st10 => ?_) ?_
   ·exact jAc rfl rfl (jAe)
   refine jAb (.pointer (some ⟨b1, 1, none⟩)) rfl rfl (fun s11 st11 => ?_) ?_
   ·exact jAf fld25_1 rfl rfl (jAe)
   obtain ⟨x3, hx3, h⟩ := ob h
   refine jAb (.pointer (some ⟨b1, 1 + (x2 : Int).toNat, none⟩)) rfl rfl (fun s12 st12 => ?_) ?_
   ·exact jBx (m := 1) (xs := (y16 a0.Sum)) arr23 rfl rfl rfl hx3 rfl (jAe)
   obtain ⟨x4, hx4, h⟩ := ob h
   refine jAb (cB x4) rfl rfl (fun s13 st13 => ?_) ?_
   ·try replace h1 := h1.up2 st13
    exact jCo cB (pre := [cW a0.Gen]) (post := []) (xs := (y16 a0.Sum)) one5 rfl h1 rfl hx4 rfl (jAe)
   refine jAb (.int .i64 x2) rfl rfl (fun s14 st14 => ?_) ?_
   ·exact jAc rfl rfl (jAe)
   refine jAb (.pointer (some ⟨b2, 1, none⟩)) rfl rfl (fun s15 st15 => ?_) ?_
   ·exact jAf fld25_1 rfl rfl (jAe)
   obtain ⟨x5, hx5, h⟩ := ob h
   refine jAb (.pointer (some ⟨b2, 1 + (x2 : Int).toNat, none⟩)) rfl rfl (fun s16 st16 => ?_) ?_
   ·exact jBx (m := 1) (xs := (y16 a1.Sum)) arr23 rfl rfl rfl hx5 rfl (jAe)
   obtain ⟨x6, hx6, h⟩ := ob h
   refine jAb (cB x6) rfl rfl (fun s17 st17 => ?_) ?_
   ·try replace h2 := h2.up2 st17
    exact jCo cB (pre := [cW a1.Gen]) (post := []) (xs := (y16 a1.Sum)) one5 rfl h2 rfl hx6 rfl (jAe)
   refine jBg (jBw rfl rfl rfl (jAi (jAh [(2, _), (3, _), (4, _), (5, _), (28, _)] ⟨rfl, rfl, rfl, rfl, rfl, trivial⟩ (jAl rfl (fun c18 => ?_) (fun c18 => ?_)))))
   ·
    have h := itT h c18
    refine jAg (jAa (jAd rfl rfl (jAi (jAh [(2, _), (3, _), (4, _), (5, _)] ⟨rfl, rfl, rfl, rfl, trivial⟩ (jAx ?_)))))
    obtain rfl := Option.some.inj h
    refine ⟨_, rfl, Ret.mk hS ?_⟩
    exact rfl
   have h := itF h c18
   refine jAv (jAg (jAh [(2, _), (3, _), (4, _), (5, _)] ⟨rfl, rfl, rfl, rfl, trivial⟩ (jBl (KN s9.n) 8 (.read 0 (.read 1 (.read 2 (.read 3 (.read 4 (.read 5 (.read 6 (.read 7 .fin)))))))) mixed lw rfl rfl rfl ?_)))
   intro s19 st19
   have := st19.size
   have hS := hS.trans0 st19
   have hE5 := hE5.trans0 st19
   have hE6 := hE6.trans0 st19
   replace h1 := h1.up2 st19
   replace h2 := h2.up2 st19
   refine jAb (.int .i64 x2) rfl rfl (fun s20 st20 => ?_) ?_
   ·exact jAc rfl rfl (jAe)
   refine jAb (.pointer (some ⟨b1, 1, none⟩)) rfl rfl (fun s21 st21 => ?_) ?_
   ·exact jAf fld25_1 rfl rfl (jAe)
   obtain ⟨x7, hx7, h⟩ := ob h
   refine jAb (.pointer (some ⟨b1, 1 + (x2 : Int).toNat, none⟩)) rfl rfl (fun s22 st22 => ?_) ?_
   ·exact jBx (m := 1) (xs := (y16 a0.Sum)) arr23 rfl rfl rfl hx7 rfl (jAe)
   obtain ⟨x8, hx8, h⟩ := ob h
   refine jAb (cB x8) rfl rfl (fun s23 st23 => ?_) ?_
   ·try replace h1 := h1.up2 st23
    exact jCo cB (pre := [cW a0.Gen]) (post := []) (xs := (y16 a0.Sum)) one5 rfl h1 rfl hx8 rfl (jAe)
   refine jAb (.int .i64 x2) rfl rfl (fun s24 st24 => ?_) ?_
   ·exact jAc rfl rfl (jAe)
   refine jAb (.pointer (some ⟨b2, 1, none⟩)) rfl rfl (fun s25 st25 => ?_) ?_
   ·exact jAf fld25_1 rfl rfl (jAe)
   obtain ⟨x9, hx9, h⟩ := ob h
   refine jAb (.pointer (some ⟨b2, 1 + (x2 : Int).toNat, none⟩)) rfl rfl (fun s26 st26 => ?_) ?_
   ·exact jBx (m := 1) (xs := (y16 a1.Sum)) arr23 rfl rfl rfl hx9 rfl (jAe)
   obtain ⟨x10, hx10, h⟩ := ob h
   refine jAb (cB x10) rfl rfl (fun s27 st27 => ?_) ?_
   ·try replace h2 := h2.up2 st27
    exact jCo cB (pre := [cW a1.Gen]) (post := []) (xs := (y16 a1.Sum)) one5 rfl h2 rfl hx10 rfl (jAe)
   refine jBg (jCu rfl rfl rfl (jAi (jAh [(2, _), (3, _), (4, _), (5, _), (37, _)] ⟨rfl, rfl, rfl, rfl, rfl, trivial⟩ (jAl rfl (fun c28 => ?_) (fun c28 => ?_)))))
   ·
    have h := itT h c28
    refine jAg (jAa (jAd rfl rfl (jAi (jAh [(2, _), (3, _), (4, _), (5, _)] ⟨rfl, rfl, rfl, rfl, trivial⟩ (jAx ?_)))))
    obtain rfl := Option.some.inj h
    refine ⟨_, rfl, Ret.mk hS ?_⟩
    exact rfl
   have h := itF h c28
   exact jAv (jCe (jAa (jAc rfl rfl (jBo rfl rfl rfl (jAd rfl rfl (jAi (jAu ⟨(s19, i64 (x2 + 1), j), ⟨lr, trivial⟩, ⟨rfl, rfl, rfl, trivial⟩, ⟨rfl, hE6, h⟩, (by simp)⟩)))))))
  have h := itF h c8
  exact jBq rfl (jAu ⟨s7, trivial, ⟨rfl, trivial⟩, ⟨rfl, hE5, h⟩⟩)
 rintro s29 wL ⟨rfl, hE5, h⟩
 rw [hK5] at h
 have := hE5.size
 have hS := hS.trans0 hE5
 refine jAg (jAa (jAd rfl rfl (jAi (jAx ?_))))
 obtain rfl := Option.some.inj h
 refine ⟨_, rfl, Ret.mk hS ?_⟩
 exact rfl
end Go.Proofs
