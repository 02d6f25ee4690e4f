import Derived.Test.YtdofbkomeadjgaaGreatDoorF06Z
import Derived.Test.YtdofbkomeadjgaaGreatDoorFwShort
set_option linter.unusedSimpArgs false
set_option linter.unusedVariables false
set_option maxHeartbeats 20000000
set_option maxRecDepth 100000
namespace Go.Proofs
open Go.Fw hiding Own k_append k_append_nil k_append_str k_append_str_nil k_bslice2 k_cut_row0 Elt jBe jBn k_makeI2
open Go.FwT
abbrev y16 (x : St23) : List UInt8 := [x.e0, x.e1, x.e2, x.e3, x.e4, x.e5, x.e6, x.e7, x.e8, x.e9, x.e10, x.e11, x.e12, x.e13, x.e14, x.e15]
abbrev a16 (x : St23) : List Value := [cB x.e0, cB x.e1, cB x.e2, cB x.e3, cB x.e4, cB x.e5, cB x.e6, cB x.e7, cB x.e8, cB x.e9, cB x.e10, cB x.e11, cB x.e12, cB x.e13, cB x.e14, cB x.e15]
abbrev a17 (g : UInt64) (x : St23) : List Value := [cW g, cB x.e0, cB x.e1, cB x.e2, cB x.e3, cB x.e4, cB x.e5, cB x.e6, cB x.e7, cB x.e8, cB x.e9, cB x.e10, cB x.e11, cB x.e12, cB x.e13, cB x.e14, cB x.e15]
abbrev z16 : List UInt8 := [(0 : UInt8), (0 : UInt8), (0 : UInt8), (0 : UInt8), (0 : UInt8), (0 : UInt8), (0 : UInt8), (0 : UInt8), (0 : UInt8), (0 : UInt8), (0 : UInt8), (0 : UInt8), (0 : UInt8), (0 : UInt8), (0 : UInt8), (0 : UInt8)]
abbrev z17 : List Value := [.int .u64 0, .int .u8 0, .int .u8 0, .int .u8 0, .int .u8 0, .int .u8 0, .int .u8 0, .int .u8 0, .int .u8 0, .int .u8 0, .int .u8 0, .int .u8 0, .int .u8 0, .int .u8 0, .int .u8 0, .int .u8 0, .int .u8 0]
abbrev y8 (x : St76) : List UInt32 := [x.e0, x.e1, x.e2, x.e3, x.e4, x.e5, x.e6, x.e7]
abbrev a8 (x : St76) : List Value := [cU x.e0, cU x.e1, cU x.e2, cU x.e3, cU x.e4, cU x.e5, cU x.e6, cU x.e7]
abbrev pZ (b : Nat) : Value := .pointer (some ⟨b, 0, none⟩)
theorem law01_parts_s_w {s : St} {cs0 : List Value} {a0 : ApiValue} {a1 : Int} {a70 : (ApiValue → Int → Option Int)} {r : Int} (hp0 : RC s cs0 (dApiValue a0)) (ih70 : ∀ {s : St} {cs0 : List Value} {a0 : ApiValue} {a1 : Int} {r : Int} (hp0 : RC s cs0 (dApiValue a0)) (h : a70 a0 a1 = some r), Calls Tryz.prog 12 #[.agg cs0.toArray, .int .i64 a1] s.w (Ret s K0 (fun s1 v => v = .int .i64 r))) (h : law01_parts_s a70 a0 a1 = some r) : Calls Tryz.prog 12 #[.agg cs0.toArray, .int .i64 a1] s.w (Ret s K0 (fun s1 v => v = .int .i64 r)) := by
 unfold law01_parts_s at h
 obtain ⟨q0_0, q0_1, rfl, hq0_0, hq0_1⟩ := opnApiValue hp0
 have hS := Step.r0 K0 s
 refine k_fn (rs := [4]) (args := [.agg #[.int .i64 a0.Kind, .int .i64 a0.Num, S a0.Text, q0_0, q0_1], .int .i64 a1]) Tryz.func12 rfl rfl rfl rfl (jAg (jAa (jCp rfl rfl ?_)))
 intro s1 b1 st1 h1 ge1
 have := st1.size
 have hS := hS.trans0 st1
 replace hq0_0 := hq0_0.up2 st1
 replace hq0_1 := hq0_1.up2 st1
 have lt1 := h1.lt
 refine jAd rfl rfl (jAi (jAh [(1, _), (2, _), (4, _)] ⟨rfl, rfl, rfl, trivial⟩ (jAg (jAg (jAa (jAc rfl rfl (jBw rfl rfl rfl (jAc rfl rfl ?_))))))))
 have hE2 := Step.r0 K0 s1
 refine jBm (X := St) 5 [(1, .int .i64 a1), (2, pZ b1), (4, .int .i64 0), (8, .int .i64 a1), (9, .bool (decide (a1 < 1)))] (fun _ => [(15, .bool (decide ((a1 < 1) ∨ (3000 < (a0.List_.length : Int)))))]) (fun sl wL => sl.w = wL ∧ Step K0 s1 sl) ?_ ?_
 ·
  refine jBb 10 rfl (jBh (fun c3 => ?_) (fun c3 => ?_))
  ·
   exact k_no rfl rfl rfl rfl (k_no rfl rfl rfl rfl (k_no rfl rfl rfl rfl (k_no rfl rfl rfl rfl (jAz rfl rfl rfl rfl (jBc ⟨s1, ⟨lb, trivial⟩, ⟨rfl, rfl, rfl, rfl, rfl, trivial⟩, rfl, hE2⟩)))))
  exact jAn rfl rfl (jAf fld29_3 rfl rfl (jAn rfl rfl (jAj one26 rfl h1 rfl rfl (jAn rfl rfl (jCj Tryz.underlying26 rfl (SL.of_R hq0_0).hasLen rfl (k_as (v := .int .i64 (a0.List_.length : Int)) (by simp only [List.length_map]) (jAn rfl rfl (jCu rfl rfl rfl (jAy rfl rfl rfl rfl (jBc ⟨s1, ⟨lb, trivial⟩, ⟨rfl, rfl, rfl, rfl, rfl, trivial⟩, rfl, hE2⟩))))))))))
 rintro s4 wL ⟨rfl, hE2⟩
 have := hE2.size
 have hS := hS.trans0 hE2
 replace hq0_0 := hq0_0.up2 hE2
 replace hq0_1 := hq0_1.up2 hE2
 replace h1 := h1.up2 hE2
 refine jAc rfl rfl ?_
 have hE5 := Step.r0 K0 s4
 refine jBm (X := St) 5 [(1, .int .i64 a1), (2, pZ b1), (4, .int .i64 0), (8, .int .i64 a1), (9, .bool (decide (a1 < 1))), (15, .bool (decide ((a1 < 1) ∨ (3000 < (a0.List_.length : Int)))))] (fun _ => [(21, .bool (decide (((a1 < 1) ∨ (3000 < (a0.List_.length : Int))) ∨ (3000 < (a0.Keys.length : Int)))))]) (fun sl wL => sl.w = wL ∧ Step K0 s4 sl) ?_ ?_
 ·
  refine jBb 16 rfl (jBh (fun c6 => ?_) (fun c6 => ?_))
  ·
   exact k_no rfl rfl rfl rfl (k_no rfl rfl rfl rfl (k_no rfl rfl rfl rfl (k_no rfl rfl rfl rfl (jAz rfl rfl rfl rfl (jBc ⟨s4, ⟨lb, trivial⟩, ⟨rfl, rfl, rfl, rfl, rfl, rfl, trivial⟩, rfl, hE5⟩)))))
  exact jAn rfl rfl (jAf fld29_4 rfl rfl (jAn rfl rfl (jAj one27 rfl h1 rfl rfl (jAn rfl rfl (jCj Tryz.underlying27 rfl (SL.of_R hq0_1).hasLen rfl (k_as (v := .int .i64 (a0.Keys.length : Int)) (by simp only [List.length_map]) (jAn rfl rfl (jCu rfl rfl rfl (jAy rfl rfl rfl rfl (jBc ⟨s4, ⟨lb, trivial⟩, ⟨rfl, rfl, rfl, rfl, rfl, rfl, trivial⟩, rfl, hE5⟩))))))))))
 rintro s7 wL ⟨rfl, hE5⟩
 have := hE5.size
 have hS := hS.trans0 hE5
 replace hq0_0 := hq0_0.up2 hE5
 replace hq0_1 := hq0_1.up2 hE5
 replace h1 := h1.up2 hE5
 refine jAc rfl rfl ?_
 have hE8 := Step.r0 K0 s7
 refine jBm (X := St) 5 [(1, .int .i64 a1), (2, pZ b1), (4, .int .i64 0), (8, .int .i64 a1), (9, .bool (decide (a1 < 1))), (15, .bool (decide ((a1 < 1) ∨ (3000 < (a0.List_.length : Int))))), (21, .bool (decide (((a1 < 1) ∨ (3000 < (a0.List_.length : Int))) ∨ (3000 < (a0.Keys.length : Int)))))] (fun _ => [(27, .bool (decide ((((a1 < 1) ∨ (3000 < (a0.List_.length : Int))) ∨ (3000 < (a0.Keys.length : Int))) ∨ (4000 < (a0.Text.length : Int)))))]) (fun sl wL => sl.w = wL ∧ Step K0 s7 sl) ?_ ?_
 ·
  refine jBb 22 rfl (jBh (fun c9 => ?_) (fun c9 => ?_))
  ·
   exact k_no rfl rfl rfl rfl (k_no rfl rfl rfl rfl (k_no rfl rfl rfl rfl (k_no rfl rfl rfl rfl (jAz rfl rfl rfl rfl (jBc ⟨s7, ⟨lb, trivial⟩, ⟨rfl, rfl, rfl, rfl, rfl, rfl, rfl, trivial⟩, rfl, hE8⟩)))))
  exact jAn rfl rfl (jAf fld29_2 rfl rfl (jAn rfl rfl (jAj one9 rfl h1 rfl rfl (jAn rfl rfl (jCf Tryz.underlying9 rfl rfl (jAn rfl rfl (jCu rfl rfl rfl (jAy rfl rfl rfl rfl (jBc ⟨s7, ⟨lb, trivial⟩, ⟨rfl, rfl, rfl, rfl, rfl, rfl, rfl, trivial⟩, rfl, hE8⟩)))))))))
 rintro s10 wL ⟨rfl, hE8⟩
 have := hE8.size
 have hS := hS.trans0 hE8
 replace hq0_0 := hq0_0.up2 hE8
 replace hq0_1 := hq0_1.up2 hE8
 replace h1 := h1.up2 hE8
 refine jAi (jAh [(1, _), (2, _), (4, _), (27, _)] ⟨rfl, rfl, rfl, rfl, trivial⟩ (jAl rfl (fun c11 => ?_) (fun c11 => ?_)))
 ·
  have h := itT h c11
  refine jAg (jAa (jAd rfl rfl (jAi (jAh [(1, _), (2, _), (4, _)] ⟨rfl, rfl, rfl, trivial⟩ (jAx ?_)))))
  obtain rfl := Option.some.inj h
  refine ⟨_, rfl, Ret.mk hS ?_⟩
  exact rfl
 have h := itF h c11
 refine jAv (jAg (jAa (jAf fld29_2 rfl rfl (jAj one9 rfl h1 rfl rfl (jCf Tryz.underlying9 rfl rfl (k_quo rfl rfl (by decide) rfl (jBo rfl rfl rfl (jAd rfl rfl (jAi (jAh [(1, _), (2, _), (4, _), (5, _)] ⟨rfl, rfl, rfl, rfl, trivial⟩ (jAg ?_)))))))))))
 obtain ⟨kj1, hK12, h⟩ := jn_out h
 have hE12 := Step.r0 K0 s10
 refine jBp (X := St × Int) [(1, .int .i64 a1), (2, pZ b1), (4, .int .i64 0)] (fun (xL : St × Int) => match xL with | (sl, x2) => [(5, .int .i64 x2)]) (fun (xL : St × Int) (wL : World) => match xL with | (sl, x2) => sl.w = wL ∧ Step K0 s10 sl ∧ kj1 x2 = some r) ?_ ?_
 ·
  refine jAg (jAa (jAd rfl rfl (jAi (jAw (jBr (X := St × Int × Int × Nat) [(1, _), (2, _), (4, _)] (fun (xL : St × Int × Int × Nat) => match xL with | (sl, x3, x4, j) => [(5, .int .i64 x3), (6, .int .i64 x4)]) (fun (xL : St × Int × Int × Nat) (wL : World) => match xL with | (sl, x3, x4, j) => sl.w = wL ∧ Step K0 s10 sl ∧ law01_parts_s_l1 a0 kj1 j x3 x4 = some r) (fun (xL : St × Int × Int × Nat) => match xL with | (sl, x3, x4, j) => j) (s10, i64 (1 + (i64 ((a0.Text.length : Int).tdiv 100))), 0, FU) ⟨rfl, rfl, rfl, trivial⟩ ⟨lr, lr, trivial⟩ ⟨rfl, (Step.refl _).of0 li, h⟩ ?_)))))
  rintro ⟨s14, x3, x4, j⟩ wL ⟨rfl, hE13, h⟩
  cases j with
  | zero => rw [law01_parts_s_l1] at h; exact (noneNe h).elim
  | succ j =>
  rw [law01_parts_s_l1] at h
  have := hE13.size
  have hS := hS.trans0 hE13
  have hE12 := hE12.trans0 hE13
  replace hq0_1 := hq0_1.up2 hE13
  replace h1 := h1.up2 hE13
  refine jAg (jAg (jAa (jAc rfl rfl (jAf fld29_4 rfl rfl (jAj one27 rfl h1 rfl rfl (jCj Tryz.underlying27 rfl (SL.of_R hq0_1).hasLen rfl (k_as (v := .int .i64 (a0.Keys.length : Int)) (by simp only [List.length_map]) (jBw rfl rfl rfl (jAi (jAh [(1, _), (2, _), (4, _), (5, _), (6, _), (37, _)] ⟨rfl, rfl, rfl, rfl, rfl, rfl, trivial⟩ (jAl rfl (fun c15 => ?_) (fun c15 => ?_))))))))))))
  ·
   have h := itT h c15
   refine jAv (jAg (jAw (jAa (jAc rfl rfl (jBo rfl rfl rfl (jAf fld29_4 rfl rfl (jAj one27 rfl h1 rfl rfl (jAc rfl rfl ?_))))))))
   obtain ⟨x5, hx5, h⟩ := ob h
   refine jCd Tryz.underlying27 size9 rfl rfl (SL.of_R hq0_1) (jAk hx5).1 (jAr hx5) rfl ?_
   intro qx5 hqx5
   exact jAq one9 rfl hqx5 rfl (jCf Tryz.underlying9 rfl rfl (k_quo rfl rfl (by decide) rfl (jBo rfl rfl rfl (jAd rfl rfl (jAi (jCe (jAa (jAc rfl rfl (jBo rfl rfl rfl (jAd rfl rfl (jAi (jAu ⟨(s14, i64 ((i64 (x3 + 1)) + (i64 ((x5.length : Int).tdiv 100))), i64 (x4 + 1), j), ⟨lr, lr, trivial⟩, ⟨rfl, rfl, rfl, trivial⟩, ⟨rfl, hE13, h⟩, (by simp)⟩))))))))))))
  have h := itF h c15
  exact jBq rfl (jAu ⟨(s14, x3), ⟨lr, trivial⟩, ⟨rfl, rfl, rfl, trivial⟩, ⟨rfl, hE12, h⟩⟩)
 rintro ⟨s16, x2⟩ wL ⟨rfl, hE12, h⟩
 rw [hK12] at h
 have := hE12.size
 have hS := hS.trans0 hE12
 replace hq0_0 := hq0_0.up2 hE12
 replace h1 := h1.up2 hE12
 refine jAg ?_
 obtain ⟨kj6, hK17, h⟩ := jn_out h
 have hE17 := Step.r0 K0 s16
 refine jBp (X := St × Int) [(4, .int .i64 0)] (fun (xL : St × Int) => match xL with | (sl, x7) => [(5, .int .i64 x7)]) (fun (xL : St × Int) (wL : World) => match xL with | (sl, x7) => sl.w = wL ∧ Step K0 s16 sl ∧ kj6 x7 = some r) ?_ ?_
 ·
  refine jAg (jAa (jAd rfl rfl (jAi (jAw (jBr (X := St × Int × Int × Nat) [(1, _), (2, _), (4, _)] (fun (xL : St × Int × Int × Nat) => match xL with | (sl, x8, x9, j) => [(5, .int .i64 x8), (7, .int .i64 x9)]) (fun (xL : St × Int × Int × Nat) (wL : World) => match xL with | (sl, x8, x9, j) => sl.w = wL ∧ Step K0 s16 sl ∧ law01_parts_s_l2 a0 a70 a1 kj6 j x8 x9 = some r) (fun (xL : St × Int × Int × Nat) => match xL with | (sl, x8, x9, j) => j) (s16, x2, 0, FU) ⟨rfl, rfl, rfl, trivial⟩ ⟨lr, lr, trivial⟩ ⟨rfl, (Step.refl _).of0 li, h⟩ ?_)))))
  rintro ⟨s19, x8, x9, j⟩ wL ⟨rfl, hE18, h⟩
  cases j with
  | zero => rw [law01_parts_s_l2] at h; exact (noneNe h).elim
  | succ j =>
  rw [law01_parts_s_l2] at h
  have := hE18.size
  have hS := hS.trans0 hE18
  have hE17 := hE17.trans0 hE18
  replace hq0_0 := hq0_0.up2 hE18
  replace h1 := h1.up2 hE18
  refine jAg (jAg (jAa (jAc rfl rfl (jAf fld29_3 rfl rfl (jAj one26 rfl h1 rfl rfl (jCj Tryz.underlying26 rfl (SL.of_R hq0_0).hasLen rfl (k_as (v := .int .i64 (a0.List_.length : Int)) (by simp only [List.length_map]) (jBw rfl rfl rfl (jAc rfl rfl ?_)))))))))
  have hE20 := Step.r0 K0 s19
  refine jBm (X := St) 3 [(1, .int .i64 a1), (2, pZ b1), (4, .int .i64 0), (5, .int .i64 x8), (7, .int .i64 x9), (50, .int .i64 x9), (51, .pointer (some ⟨b1, 3, none⟩)), (52, q0_0), (53, .int .i64 (a0.List_.length : Int)), (54, .bool (decide (x9 < (a0.List_.length : Int))))] (fun _ => [(58, .bool (decide ((x9 < (a0.List_.length : Int)) ∧ (x8 < 100000))))]) (fun sl wL => sl.w = wL ∧ Step K0 s19 sl) ?_ ?_
  ·
   refine jBb 55 rfl (jBh (fun c21 => ?_) (fun c21 => ?_))
   ·
    exact jAn rfl rfl (jAc rfl rfl (jAn rfl rfl (jBw rfl rfl rfl (jAz rfl rfl rfl rfl (jBc ⟨s19, ⟨lb, trivial⟩, ⟨rfl, rfl, rfl, rfl, rfl, rfl, rfl, rfl, rfl, rfl, trivial⟩, rfl, hE20⟩)))))
   exact k_no rfl rfl rfl rfl (k_no rfl rfl rfl rfl (jAy rfl rfl rfl rfl (jBc ⟨s19, ⟨lb, trivial⟩, ⟨rfl, rfl, rfl, rfl, rfl, rfl, rfl, rfl, rfl, rfl, trivial⟩, rfl, hE20⟩)))
  rintro s22 wL ⟨rfl, hE20⟩
  have := hE20.size
  have hS := hS.trans0 hE20
  have hE17 := hE17.trans0 hE20
  have hE18 := hE18.trans0 hE20
  replace hq0_0 := hq0_0.up2 hE20
  replace h1 := h1.up2 hE20
  refine jAi (jAh [(1, _), (2, _), (4, _), (5, _), (7, _), (58, _)] ⟨rfl, rfl, rfl, rfl, rfl, rfl, trivial⟩ (jAl rfl (fun c23 => ?_) (fun c23 => ?_)))
  ·
   have h := itT h c23
   refine jAv (jAg (jAw (jAa (jAc rfl rfl (jAf fld29_3 rfl rfl (jAj one26 rfl h1 rfl rfl (jAc rfl rfl ?_)))))))
   obtain ⟨x10, hx10, h⟩ := ob h
   refine jCd Tryz.underlying26 size29 rfl rfl (SL.of_R hq0_0) (jAk hx10).1 (jAr hx10) rfl ?_
   intro qx10 hqx10
   refine jCr (by exact agg29) rfl hqx10 rfl ?_
   intro cs24 h24
   obtain ⟨q24_0, q24_1, rfl, hq24_0, hq24_1⟩ := opnApiValue h24
   refine jAc rfl rfl (jDa rfl rfl rfl ?_)
   obtain ⟨x11, hx11, h⟩ := ob h
   refine jAp cal12 rfl (ih70  (clsApiValue x10 hq24_0 hq24_1) hx11) rfl ?_
   rintro s25 vr25 st25 rfl
   have := st25.size
   have hS := hS.trans0 st25
   have hE17 := hE17.trans0 st25
   have hE18 := hE18.trans0 st25
   exact jBo rfl rfl rfl (jAd rfl rfl (jAi (jCe (jAa (jAc rfl rfl (jBo rfl rfl rfl (jAd rfl rfl (jAi (jAu ⟨(s25, i64 (x8 + x11), i64 (x9 + 1), j), ⟨lr, lr, trivial⟩, ⟨rfl, rfl, rfl, trivial⟩, ⟨rfl, hE18, h⟩, (by simp)⟩)))))))))
  have h := itF h c23
  exact jBq rfl (jAu ⟨(s22, x8), ⟨lr, trivial⟩, ⟨rfl, trivial⟩, ⟨rfl, hE17, h⟩⟩)
 rintro ⟨s26, x7⟩ wL ⟨rfl, hE17, h⟩
 rw [hK17] at h
 have := hE17.size
 have hS := hS.trans0 hE17
 refine jAg (jAa (jAc rfl rfl (jAd rfl rfl (jAi (jAh [(4, _)] ⟨rfl, trivial⟩ (jAx ?_))))))
 obtain rfl := Option.some.inj h
 refine ⟨_, rfl, Ret.mk hS ?_⟩
 exact rfl
theorem law01_parts_rw (j : Nat) : ∀ {s : St} {cs0 : List Value} {a0 : ApiValue} {a1 : Int} {r : Int} (hp0 : RC s cs0 (dApiValue a0)) (h : law01_parts_r j a0 a1 = some r), Calls Tryz.prog 12 #[.agg cs0.toArray, .int .i64 a1] s.w (Ret s K0 (fun s1 v => v = .int .i64 r)) := by
 induction j with
 | zero => intro s cs0 a0 a1 r hp0 h; rw [law01_parts_r] at h; exact (noneNe h).elim
 | succ j ih => intro s cs0 a0 a1 r hp0 h; rw [law01_parts_r] at h; exact law01_parts_s_w hp0 ih h
theorem law01_parts_w {s : St} {cs0 : List Value} {a0 : ApiValue} {a1 : Int} {r : Int} (hp0 : RC s cs0 (dApiValue a0)) (h : law01_parts a0 a1 = some r) : Calls Tryz.prog 12 #[.agg cs0.toArray, .int .i64 a1] s.w (Ret s K0 (fun s1 v => v = .int .i64 r)) := law01_parts_rw (FU + (dpApiValue a0)) hp0 h
theorem law01_Long_w {s : St} {cs0 : List Value} {a0 : ApiValue} {r : Bool} (hp0 : RC s cs0 (dApiValue a0)) (h : law01_Long a0 = some r) : Calls Tryz.prog 4 #[.agg cs0.toArray] s.w (Ret s K0 (fun s1 v => v = .bool r)) := by
 unfold law01_Long at h
 obtain ⟨q0_0, q0_1, rfl, hq0_0, hq0_1⟩ := opnApiValue hp0
 have hS := Step.r0 K0 s
 refine k_fn (rs := [2]) (args := [.agg #[.int .i64 a0.Kind, .int .i64 a0.Num, S a0.Text, q0_0, q0_1]]) Tryz.func4 rfl rfl rfl rfl (jAg (jAa (jCp rfl rfl ?_)))
 intro s1 b1 st1 h1 ge1
 have := st1.size
 have hS := hS.trans0 st1
 replace hq0_0 := hq0_0.up2 st1
 replace hq0_1 := hq0_1.up2 st1
 have lt1 := h1.lt
 refine jAd rfl rfl (jAi (jAh [(1, _), (2, _)] ⟨rfl, rfl, trivial⟩ (jAg (jAa (jAs (cs := [.int .i64 a0.Kind, .int .i64 a0.Num, S a0.Text, q0_0, q0_1]) agg29 rfl h1 rfl ?_)))))
 obtain ⟨x1, hx1, h⟩ := ob h
 refine jAp cal12 rfl (law01_parts_w  (clsApiValue a0 hq0_0 hq0_1) hx1) rfl ?_
 rintro s2 vr2 st2 rfl
 have := st2.size
 have hS := hS.trans0 st2
 refine jCu rfl rfl rfl (jAd rfl rfl (jAi (jAh [(2, _)] ⟨rfl, trivial⟩ (jAx ?_))))
 obtain rfl := Option.some.inj h
 refine ⟨_, rfl, Ret.mk hS ?_⟩
 exact rfl
theorem value_plain_w {s : St} {a0 : (List UInt8)} {r : Bool}  (h : value_plain a0 = some r) : Calls Tryz.prog 66 #[S a0] s.w (Ret s K0 (fun s1 v => v = .bool r)) := by
 unfold value_plain at h
 have hS := Step.r0 K0 s
 refine k_fn (rs := [2]) (args := [S a0]) Tryz.func66 rfl rfl rfl rfl (jAg (jAa (jAd rfl rfl (jAi (jAg ?_)))))
 obtain ⟨kj1, hK1, h⟩ := jn_out h
 have hE1 := Step.r0 K0 s
 refine jBp (X := St) [(2, .bool false)] (fun (xL : St) => match xL with | sl => []) (fun (xL : St) (wL : World) => match xL with | sl => sl.w = wL ∧ Step K0 s sl ∧ kj1 () = some r) ?_ ?_
 ·
  refine jAg (jAa (jAc rfl rfl (jCf Tryz.underlying9 rfl rfl (jAc rfl rfl (jAi (jAh [(0, _), (2, _), (5, _), (6, _)] ⟨rfl, rfl, rfl, rfl, trivial⟩ (jAw (jBr (X := St × Int × Nat) [(0, _), (2, _), (5, _)] (fun (xL : St × Int × Nat) => match xL with | (sl, x2, j) => [(6, .int .i64 x2)]) (fun (xL : St × Int × Nat) (wL : World) => match xL with | (sl, x2, j) => sl.w = wL ∧ Step K0 s sl ∧ value_plain_l1 a0 kj1 j x2 = some r) (fun (xL : St × Int × Nat) => match xL with | (sl, x2, j) => j) (s, 0, FU) ⟨rfl, rfl, rfl, trivial⟩ ⟨lr, trivial⟩ ⟨rfl, (Step.refl _).of0 li, h⟩ ?_))))))))
  rintro ⟨s3, x2, j⟩ wL ⟨rfl, hE2, h⟩
  cases j with
  | zero => rw [value_plain_l1] at h; exact (noneNe h).elim
  | succ j =>
  rw [value_plain_l1] at h
  have := hE2.size
  have hS := hS.trans0 hE2
  have hE1 := hE1.trans0 hE2
  refine jAg (jAa (jBw rfl rfl rfl (jAi (jAg (jAl rfl (fun c4 => ?_) (fun c4 => ?_))))))
  ·
   have h := itT h c4
   refine jAv (jAg (jAw (jAg (jAa (jAc rfl rfl (jAd rfl rfl (jAi (jAh [(0, _), (2, _), (3, _), (5, _), (6, _)] ⟨rfl, rfl, rfl, rfl, rfl, trivial⟩ (jAg (jAa (jAc rfl rfl (jAc rfl rfl ?_))))))))))))
   obtain ⟨x3, hx3, h⟩ := ob h
   refine jBi Tryz.underlying9 rfl rfl (jAk hx3).1 (jAk hx3).2.1 rfl (k_as (congrArg (fun c : UInt8 => cB c) (jBs hx3)) (jBw rfl rfl rfl (jAc rfl rfl ?_)))
   obtain ⟨x4, hx4, h⟩ := ob h
   have hE5 := Step.r0 K0 s3
   refine jBm (X := St) 5 [(0, S a0), (2, .bool false), (3, .int .i64 x2), (5, .int .i64 (a0.length : Int)), (6, .int .i64 x2), (9, S a0), (10, .int .i64 x2), (11, cB x3), (12, .bool (decide ((x3.toNat : Int) < 32)))] (fun _ => [(18, .bool x4)]) (fun sl wL => sl.w = wL ∧ Step K0 s3 sl) ?_ ?_
   ·
    refine jBb 13 rfl (jBh (fun c6 => ?_) (fun c6 => ?_))
    ·
     have hx4 := itT hx4 c6
     exact k_no rfl rfl rfl rfl (k_no rfl rfl rfl rfl (k_no rfl rfl rfl rfl (k_no rfl rfl rfl rfl (jAz rfl rfl rfl rfl (jBc ⟨s3, ⟨(congrArg (fun b => some (Value.bool b)) (Option.some.inj hx4)), trivial⟩, ⟨rfl, rfl, rfl, rfl, rfl, rfl, rfl, rfl, rfl, trivial⟩, rfl, hE5⟩)))))
    have hx4 := itF hx4 c6
    refine jAn rfl rfl (jAc rfl rfl (jAn rfl rfl (jAc rfl rfl (jAn rfl rfl ?_))))
    obtain ⟨x5, hx5, hx4⟩ := ob hx4
    exact jBi Tryz.underlying9 rfl rfl (jAk hx5).1 (jAk hx5).2.1 rfl (k_as (congrArg (fun c : UInt8 => cB c) (jBs hx5)) (jAn rfl rfl (jCu rfl rfl rfl (jAy rfl rfl rfl rfl (jBc ⟨s3, ⟨(congrArg (fun b => some (Value.bool b)) (Option.some.inj hx4)), trivial⟩, ⟨rfl, rfl, rfl, rfl, rfl, rfl, rfl, rfl, rfl, trivial⟩, rfl, hE5⟩)))))
   rintro s7 wL ⟨rfl, hE5⟩
   have := hE5.size
   have hS := hS.trans0 hE5
   have hE1 := hE1.trans0 hE5
   have hE2 := hE2.trans0 hE5
   refine jAi (jAh [(0, _), (2, _), (5, _), (6, _), (18, _)] ⟨rfl, rfl, rfl, rfl, rfl, trivial⟩ (jCk rfl (fun c8 => ?_) (fun c8 => ?_)))
   ·
    have h := ibT h c8
    refine jAg (jAa (jAd rfl rfl (jAi (jAh [(0, _), (2, _), (5, _), (6, _)] ⟨rfl, rfl, rfl, rfl, trivial⟩ (jAx ?_)))))
    obtain rfl := Option.some.inj h
    refine ⟨_, rfl, Ret.mk hS ?_⟩
    exact rfl
   have h := ibF h c8
   exact jAv (jCe (jAa (jBo rfl rfl rfl (jAc rfl rfl (jAi (jAu ⟨(s7, i64 (x2 + 1), j), ⟨lr, trivial⟩, ⟨rfl, rfl, rfl, trivial⟩, ⟨rfl, hE2, h⟩, (by simp)⟩))))))
  have h := itF h c4
  exact jBq rfl (jAu ⟨s3, trivial, ⟨rfl, trivial⟩, ⟨rfl, hE1, h⟩⟩)
 rintro s9 wL ⟨rfl, hE1, h⟩
 rw [hK1] at h
 have := hE1.size
 have hS := hS.trans0 hE1
 refine jAg (jAa (jAd rfl rfl (jAi (jAx ?_))))
 obtain rfl := Option.some.inj h
 refine ⟨_, rfl, Ret.mk hS ?_⟩
 exact rfl
theorem value_key_w {s : St} {a0 : (List UInt8)} {r : Bool}  (h : value_key a0 = some r) : Calls Tryz.prog 67 #[S a0] s.w (Ret s K0 (fun s1 v => v = .bool r)) := by
 unfold value_key at h
 have hS := Step.r0 K0 s
 refine k_fn (rs := [2]) (args := [S a0]) Tryz.func67 rfl rfl rfl rfl (jAg (jAa (jAd rfl rfl (jAi (jAg (jAa (jAc rfl rfl (jCf Tryz.underlying9 rfl rfl (k_geq rfl rfl rfl (jAc rfl rfl ?_))))))))))
 have hE1 := Step.r0 K0 s
 refine jBm (X := St) 4 [(0, S a0), (2, .bool false), (3, S a0), (4, .int .i64 (a0.length : Int)), (5, .bool (decide (1 ≤ (a0.length : Int))))] (fun _ => [(10, .bool (decide ((1 ≤ (a0.length : Int)) ∧ ((a0.length : Int) ≤ 24))))]) (fun sl wL => sl.w = wL ∧ Step K0 s sl) ?_ ?_
 ·
  refine jBb 6 rfl (jBh (fun c2 => ?_) (fun c2 => ?_))
  ·
   exact jAn rfl rfl (jAc rfl rfl (jAn rfl rfl (jCf Tryz.underlying9 rfl rfl (jAn rfl rfl (k_leq rfl rfl rfl (jAz rfl rfl rfl rfl (jBc ⟨s, ⟨lb, trivial⟩, ⟨rfl, rfl, rfl, rfl, rfl, trivial⟩, rfl, hE1⟩)))))))
  exact k_no rfl rfl rfl rfl (k_no rfl rfl rfl rfl (k_no rfl rfl rfl rfl (jAy rfl rfl rfl rfl (jBc ⟨s, ⟨lb, trivial⟩, ⟨rfl, rfl, rfl, rfl, rfl, trivial⟩, rfl, hE1⟩))))
 rintro s3 wL ⟨rfl, hE1⟩
 have := hE1.size
 have hS := hS.trans0 hE1
 refine jAc rfl rfl ?_
 obtain ⟨x1, hx1, h⟩ := ob h
 have hE4 := Step.r0 K0 s3
 refine jBm (X := St) 3 [(0, S a0), (2, .bool false), (3, S a0), (4, .int .i64 (a0.length : Int)), (5, .bool (decide (1 ≤ (a0.length : Int)))), (10, .bool (decide ((1 ≤ (a0.length : Int)) ∧ ((a0.length : Int) ≤ 24))))] (fun _ => [(14, .bool x1)]) (fun sl wL => sl.w = wL ∧ Step K0 s3 sl) ?_ ?_
 ·
  refine jBb 11 rfl (jBh (fun c5 => ?_) (fun c5 => ?_))
  ·
   have hx1 := itT hx1 c5
   refine jAn rfl rfl (jAc rfl rfl (jAn rfl rfl ?_))
   obtain ⟨x2, hx2, hx1⟩ := ob hx1
   refine jAp cal66 rfl (value_plain_w   hx2) rfl ?_
   rintro s6 vr6 st6 rfl
   have := st6.size
   have hS := hS.trans0 st6
   have hE4 := hE4.trans0 st6
   exact jAz rfl rfl rfl rfl (jBc ⟨s6, ⟨(congrArg (fun b => some (Value.bool b)) (Option.some.inj hx1)), trivial⟩, ⟨rfl, rfl, rfl, rfl, rfl, rfl, trivial⟩, rfl, hE4⟩)
  have hx1 := itF hx1 c5
  exact k_no rfl rfl rfl rfl (k_no rfl rfl rfl rfl (jAy rfl rfl rfl rfl (jBc ⟨s3, ⟨(congrArg (fun b => some (Value.bool b)) (Option.some.inj hx1)), trivial⟩, ⟨rfl, rfl, rfl, rfl, rfl, rfl, trivial⟩, rfl, hE4⟩)))
 rintro s7 wL ⟨rfl, hE4⟩
 have := hE4.size
 have hS := hS.trans0 hE4
 refine jAc rfl rfl ?_
 obtain ⟨x3, hx3, h⟩ := ob h
 have hE8 := Step.r0 K0 s7
 refine jBm (X := St) 4 [(0, S a0), (2, .bool false), (3, S a0), (4, .int .i64 (a0.length : Int)), (5, .bool (decide (1 ≤ (a0.length : Int)))), (10, .bool (decide ((1 ≤ (a0.length : Int)) ∧ ((a0.length : Int) ≤ 24)))), (14, .bool x1)] (fun _ => [(19, .bool x3)]) (fun sl wL => sl.w = wL ∧ Step K0 s7 sl) ?_ ?_
 ·
  refine jBb 15 rfl (jCn (fun c9 => ?_) (fun c9 => ?_))
  ·
   have hx3 := ibT hx3 c9
   refine jAn rfl rfl (jAc rfl rfl (jAn rfl rfl ?_))
   by_cases c10 : a0.all (fun b => decide (b.toNat < 128)) = true ∧ ([32, 46, 34] : List UInt8).all (fun b => decide (b.toNat < 128)) = true ∧ a0.length ≤ 1000000 ∧ ([32, 46, 34] : List UInt8).length ≤ 1000000
   case neg => exact (noneNe (itF hx3 c10)).elim
   replace hx3 := itT hx3 c10
   refine jAp cal89 rfl (containsAny_w (a0 := a0) (a1 := ([32, 46, 34] : List UInt8)) c10) rfl ?_
   rintro s11 _ st11 rfl
   have := st11.size
   have hS := hS.trans0 st11
   have hE8 := hE8.trans0 st11
   exact jAn rfl rfl (jDd rfl rfl (jAz rfl rfl rfl rfl (jBc ⟨s11, ⟨(congrArg (fun b => some (Value.bool b)) (Option.some.inj hx3)), trivial⟩, ⟨rfl, rfl, rfl, rfl, rfl, rfl, rfl, trivial⟩, rfl, hE8⟩)))
  have hx3 := ibF hx3 c9
  exact k_no rfl rfl rfl rfl (k_no rfl rfl rfl rfl (k_no rfl rfl rfl rfl (jAy rfl rfl rfl rfl (jBc ⟨s7, ⟨(congrArg (fun b => some (Value.bool b)) (Option.some.inj hx3)), trivial⟩, ⟨rfl, rfl, rfl, rfl, rfl, rfl, rfl, trivial⟩, rfl, hE8⟩))))
 rintro s12 wL ⟨rfl, hE8⟩
 have := hE8.size
 have hS := hS.trans0 hE8
 refine jAd rfl rfl (jAi (jAh [(2, _)] ⟨rfl, trivial⟩ (jAx ?_)))
 obtain rfl := Option.some.inj h
 refine ⟨_, rfl, Ret.mk hS ?_⟩
 exact rfl
theorem value_shaped_1_w {s : St} {cs0 : List Value} {a0 : ApiValue} {ub1 : Nat} {a1 : Int} {a70 : (ApiValue → Int → Option Bool)} {r : Bool} (hp0 : RC s cs0 (dApiValue a0)) (hp1 : BoxR s ub1 3 (dI64 a1)) (ih70 : ∀ {s : St} {cs0 : List Value} {a0 : ApiValue} {a1 : Int} {r : Bool} (hp0 : RC s cs0 (dApiValue a0)) (h : a70 a0 a1 = some r), Calls Tryz.prog 43 #[.agg cs0.toArray, .int .i64 a1] s.w (Ret s K0 (fun s1 v => v = .bool r))) (h : value_shaped_1 a70 a0 a1 = some r) : Calls Tryz.prog 69 #[.agg cs0.toArray, pZ ub1] s.w (Ret s K0 (fun s1 v => v = .bool r)) := by
 unfold value_shaped_1 at h
 obtain ⟨q0_0, q0_1, rfl, hq0_0, hq0_1⟩ := opnApiValue hp0
 obtain ⟨cs1, hb_b1, hp1⟩ := hp1
 obtain rfl := hp1.val_inv
 have lt1 := hb_b1.lt
 have hS := Step.r0 K0 s
 refine k_fn (rs := [3]) (args := [.agg #[.int .i64 a0.Kind, .int .i64 a0.Num, S a0.Text, q0_0, q0_1], pZ ub1]) Tryz.func69 rfl rfl rfl rfl (jAg (jAa (jCp rfl rfl ?_)))
 intro s2 b2 st2 h2 ge2
 have := st2.size
 have hS := hS.trans0 st2
 replace hq0_0 := hq0_0.up2 st2
 replace hq0_1 := hq0_1.up2 st2
 replace hb_b1 := hb_b1.up2 st2
 have lt2 := h2.lt
 refine jAd rfl rfl (jAi (jAh [(1, _), (2, _), (3, _)] ⟨rfl, rfl, rfl, trivial⟩ (jAg (jAa (jAs (cs := [.int .i64 a0.Kind, .int .i64 a0.Num, S a0.Text, q0_0, q0_1]) agg29 rfl h2 rfl (jAj one3 rfl hb_b1 rfl rfl (jDa rfl rfl rfl ?_)))))))
 obtain ⟨x1, hx1, h⟩ := ob h
 refine jAp cal43 rfl (ih70  (clsApiValue a0 hq0_0 hq0_1) hx1) rfl ?_
 rintro s3 vr3 st3 rfl
 have := st3.size
 have hS := hS.trans0 st3
 refine jDd rfl rfl (jAd rfl rfl (jAi (jAh [(3, _)] ⟨rfl, trivial⟩ (jAx ?_))))
 obtain rfl := Option.some.inj h
 refine ⟨_, rfl, Ret.mk hS ?_⟩
 exact rfl
theorem slices_IndexFunc_api_Value_api_Value_c69_w {s : St} {l0 : Lab} {v0 : Value} {a0 : (List ApiValue)} {ub1_0 : Nat} {a1_0 : Int} {a70 : (ApiValue → Int → Option Bool)} {r : Int} (hp0 : SL s l0 v0 5 (a0.map dApiValue)) (hp1_0 : BoxR s ub1_0 3 (dI64 a1_0)) (ih70 : ∀ {s : St} {cs0 : List Value} {a0 : ApiValue} {a1 : Int} {r : Bool} (hp0 : RC s cs0 (dApiValue a0)) (h : a70 a0 a1 = some r), Calls Tryz.prog 43 #[.agg cs0.toArray, .int .i64 a1] s.w (Ret s K0 (fun s1 v => v = .bool r))) (h : slices_IndexFunc_api_Value_api_Value_c69 a70 a0 a1_0 = some r) : Calls Tryz.prog 90 #[v0, .func (.func 69) #[] #[pZ ub1_0]] s.w (Ret s K0 (fun s1 v => v = .int .i64 r)) := by
 unfold slices_IndexFunc_api_Value_api_Value_c69 at h
 obtain ⟨lf0, lf0le, lf0ne, hp0⟩ := hp0.fix
 have lt1_0 := hp1_0.lt
 have hS := Step.r0 K0 s
 refine k_fn (rs := [4]) (args := [v0, .func (.func 69) #[] #[pZ ub1_0]]) Tryz.func90 rfl rfl rfl rfl (jAg (jAa (jAd rfl rfl (jAi (jAg ?_)))))
 obtain ⟨kj1, hK1, h⟩ := jn_out h
 have hE1 := Step.r0 K0 s
 refine jBp (X := St) [(4, .int .i64 0)] (fun (xL : St) => match xL with | sl => []) (fun (xL : St) (wL : World) => match xL with | sl => sl.w = wL ∧ Step K0 s sl ∧ kj1 () = some r) ?_ ?_
 ·
  refine jAg (jAa (jAc rfl rfl (jCj Tryz.underlying26 rfl hp0.hasLen rfl (k_as (v := .int .i64 (a0.length : Int)) (by simp only [List.length_map]) (jAc rfl rfl (jAi (jAh [(0, _), (1, _), (4, _), (7, _), (8, _)] ⟨rfl, rfl, rfl, rfl, rfl, trivial⟩ (jAw (jBr (X := St × Int × Nat) [(0, _), (1, _), (4, _), (7, _)] (fun (xL : St × Int × Nat) => match xL with | (sl, x2, j) => [(8, .int .i64 x2)]) (fun (xL : St × Int × Nat) (wL : World) => match xL with | (sl, x2, j) => sl.w = wL ∧ Step K0 s sl ∧ slices_IndexFunc_api_Value_api_Value_c69_l1 a0 a70 a1_0 kj1 j x2 = some r) (fun (xL : St × Int × Nat) => match xL with | (sl, x2, j) => j) (s, 0, FU) ⟨rfl, rfl, rfl, rfl, trivial⟩ ⟨lr, trivial⟩ ⟨rfl, (Step.refl _).of0 li, h⟩ ?_)))))))))
  rintro ⟨s3, x2, j⟩ wL ⟨rfl, hE2, h⟩
  cases j with
  | zero => rw [slices_IndexFunc_api_Value_api_Value_c69_l1] at h; exact (noneNe h).elim
  | succ j =>
  rw [slices_IndexFunc_api_Value_api_Value_c69_l1] at h
  have := hE2.size
  have hS := hS.trans0 hE2
  have hE1 := hE1.trans0 hE2
  replace hp0 := hp0.up2 hE2
  replace hp1_0 := hp1_0.up2 hE2
  refine jAg (jAa (jBw rfl rfl rfl (jAi (jAg (jAl rfl (fun c4 => ?_) (fun c4 => ?_))))))
  ·
   have h := itT h c4
   refine jAv (jAg (jAw (jAg (jAa (jAc rfl rfl (jAd rfl rfl (jAi (jAh [(0, _), (1, _), (4, _), (5, _), (7, _), (8, _)] ⟨rfl, rfl, rfl, rfl, rfl, rfl, trivial⟩ (jAg (jAa (jAc rfl rfl (jAc rfl rfl (jAc rfl rfl ?_)))))))))))))
   obtain ⟨x3, hx3, h⟩ := ob h
   refine jCd Tryz.underlying26 size29 rfl rfl hp0 (jAk hx3).1 (jAr hx3) rfl ?_
   intro qx3 hqx3
   refine jCr (by exact agg29) rfl hqx3 rfl ?_
   intro cs5 h5
   obtain ⟨q5_0, q5_1, rfl, hq5_0, hq5_1⟩ := opnApiValue h5
   obtain ⟨x4, hx4, h⟩ := ob h
   refine k_callv cal69 rfl rfl (value_shaped_1_w  (clsApiValue x3 hq5_0 hq5_1) hp1_0 ih70 hx4) rfl ?_
   rintro s6 vr6 st6 rfl
   have := st6.size
   have hS := hS.trans0 st6
   have hE1 := hE1.trans0 st6
   have hE2 := hE2.trans0 st6
   refine jAi (jAh [(0, _), (1, _), (4, _), (5, _), (7, _), (8, _), (16, _)] ⟨rfl, rfl, rfl, rfl, rfl, rfl, rfl, trivial⟩ (jCk rfl (fun c7 => ?_) (fun c7 => ?_)))
   ·
    have h := ibT h c7
    refine jAg (jAa (jAc rfl rfl (jAd rfl rfl (jAi (jAh [(0, _), (1, _), (4, _), (7, _), (8, _)] ⟨rfl, rfl, rfl, rfl, rfl, trivial⟩ (jAx ?_))))))
    obtain rfl := Option.some.inj h
    refine ⟨_, rfl, Ret.mk hS ?_⟩
    exact rfl
   have h := ibF h c7
   exact jAv (jCe (jAa (jBo rfl rfl rfl (jAc rfl rfl (jAi (jAu ⟨(s6, i64 (x2 + 1), j), ⟨lr, trivial⟩, ⟨rfl, rfl, rfl, rfl, trivial⟩, ⟨rfl, hE2, h⟩, (by simp)⟩))))))
  have h := itF h c4
  exact jBq rfl (jAu ⟨s3, trivial, ⟨rfl, trivial⟩, ⟨rfl, hE1, h⟩⟩)
 rintro s8 wL ⟨rfl, hE1, h⟩
 rw [hK1] at h
 have := hE1.size
 have hS := hS.trans0 hE1
 refine jAg (jAa (jAd rfl rfl (jAi (jAx ?_))))
 obtain rfl := Option.some.inj h
 refine ⟨_, rfl, Ret.mk hS ?_⟩
 exact rfl
theorem slices_ContainsFunc_api_Value_api_Value_c69_w {s : St} {l0 : Lab} {v0 : Value} {a0 : (List ApiValue)} {ub1_0 : Nat} {a1_0 : Int} {a70 : (ApiValue → Int → Option Bool)} {r : Bool} (hp0 : SL s l0 v0 5 (a0.map dApiValue)) (hp1_0 : BoxR s ub1_0 3 (dI64 a1_0)) (ih70 : ∀ {s : St} {cs0 : List Value} {a0 : ApiValue} {a1 : Int} {r : Bool} (hp0 : RC s cs0 (dApiValue a0)) (h : a70 a0 a1 = some r), Calls Tryz.prog 43 #[.agg cs0.toArray, .int .i64 a1] s.w (Ret s K0 (fun s1 v => v = .bool r))) (h : slices_ContainsFunc_api_Value_api_Value_c69 a70 a0 a1_0 = some r) : Calls Tryz.prog 68 #[v0, .func (.func 69) #[] #[pZ ub1_0]] s.w (Ret s K0 (fun s1 v => v = .bool r)) := by
 unfold slices_ContainsFunc_api_Value_api_Value_c69 at h
 obtain ⟨lf0, lf0le, lf0ne, hp0⟩ := hp0.fix
 have lt1_0 := hp1_0.lt
 have hS := Step.r0 K0 s
 refine k_fn (rs := [4]) (args := [v0, .func (.func 69) #[] #[pZ ub1_0]]) Tryz.func68 rfl rfl rfl rfl (jAg (jAa (jAd rfl rfl (jAi (jAg (jAa (jAc rfl rfl (jAc rfl rfl ?_))))))))
 obtain ⟨x1, hx1, h⟩ := ob h
 refine jAp cal90 rfl (slices_IndexFunc_api_Value_api_Value_c69_w  hp0 hp1_0 ih70 hx1) rfl ?_
 rintro s1 vr1 st1 rfl
 have := st1.size
 have hS := hS.trans0 st1
 refine k_geq rfl rfl rfl (jAd rfl rfl (jAi (jAh [(4, _)] ⟨rfl, trivial⟩ (jAx ?_))))
 obtain rfl := Option.some.inj h
 refine ⟨_, rfl, Ret.mk hS ?_⟩
 exact rfl
theorem value_shaped_s_w {s : St} {cs0 : List Value} {a0 : ApiValue} {a1 : Int} {a70 : (ApiValue → Int → Option Bool)} {r : Bool} (hp0 : RC s cs0 (dApiValue a0)) (ih70 : ∀ {s : St} {cs0 : List Value} {a0 : ApiValue} {a1 : Int} {r : Bool} (hp0 : RC s cs0 (dApiValue a0)) (h : a70 a0 a1 = some r), Calls Tryz.prog 43 #[.agg cs0.toArray, .int .i64 a1] s.w (Ret s K0 (fun s1 v => v = .bool r))) (h : value_shaped_s a70 a0 a1 = some r) : Calls Tryz.prog 43 #[.agg cs0.toArray, .int .i64 a1] s.w (Ret s K0 (fun s1 v => v = .bool r)) := by
 unfold value_shaped_s at h
 obtain ⟨q0_0, q0_1, rfl, hq0_0, hq0_1⟩ := opnApiValue hp0
 have hS := Step.r0 K0 s
 refine k_fn (rs := [4]) (args := [.agg #[.int .i64 a0.Kind, .int .i64 a0.Num, S a0.Text, q0_0, q0_1], .int .i64 a1]) Tryz.func43 rfl rfl rfl rfl (jAg (jAa (jCp rfl rfl ?_)))
 intro s1 b1 st1 h1 ge1
 have := st1.size
 have hS := hS.trans0 st1
 replace hq0_0 := hq0_0.up2 st1
 replace hq0_1 := hq0_1.up2 st1
 have lt1 := h1.lt
 refine jCp rfl rfl ?_
 intro s2 b2 st2 h2 ge2
 have := st2.size
 have hS := hS.trans0 st2
 replace hq0_0 := hq0_0.up2 st2
 replace hq0_1 := hq0_1.up2 st2
 replace h1 := h1.up2 st2
 have lt2 := h2.lt
 refine jAd rfl rfl (jAi (jAh [(2, _), (3, _), (4, _)] ⟨rfl, rfl, rfl, trivial⟩ (jAg (jAg (jAa (jAj one3 rfl h2 rfl rfl (jBw rfl rfl rfl (jAi (jAh [(2, _), (3, _), (4, _), (9, _)] ⟨rfl, rfl, rfl, rfl, trivial⟩ (jAl rfl (fun c3 => ?_) (fun c3 => ?_)))))))))))
 ·
  have h := itT h c3
  refine jAg (jAa (jAd rfl rfl (jAi (jAh [(2, _), (3, _), (4, _)] ⟨rfl, rfl, rfl, trivial⟩ (jAx ?_)))))
  obtain rfl := Option.some.inj h
  refine ⟨_, rfl, Ret.mk hS ?_⟩
  exact rfl
 have h := itF h c3
 refine jAv (jAg (jAa (jAf fld29_0 rfl rfl (jAj one3 rfl h1 rfl rfl (jCa plc29 zero29 rfl (Parts.cons (CellsOf.lit rfl rfl).1 Parts.nil) (by rfl) rfl (k_as (v := .agg #[.int .i64 a0.Kind, .int .i64 0, S ([] : List UInt8), .slice none 0 0, .slice none 0 0]) rfl (jBj zero29 rfl ?_)))))))
 intro s4 b4 st4 h4 ge4
 have := st4.size
 have hS := hS.trans0 st4
 replace hq0_0 := hq0_0.up2 st4
 replace hq0_1 := hq0_1.up2 st4
 replace h1 := h1.up2 st4
 replace h2 := h2.up2 st4
 have lt4 := h4.lt
 refine jAo (cs' := [.int .i64 a0.Kind, .int .i64 0, S ([] : List UInt8), .slice none 0 0, .slice none 0 0]) size29 rfl rfl h4 lz (CellsOf.lit rfl rfl) rfl lq rfl ?_
 intro s5 st5 h4
 have := st5.size
 have hS := hS.c0 st5
 replace hq0_0 := hq0_0.up2 st5
 replace hq0_1 := hq0_1.up2 st5
 replace h1 := h1.up2 st5
 replace h2 := h2.up2 st5
 refine jAi (jAh [(2, _), (3, _), (4, _), (5, _)] ⟨rfl, rfl, rfl, rfl, trivial⟩ (jAg ?_))
 obtain ⟨kj1, hK6, h⟩ := jn_out h
 have hE6 := Step.r0 (KC (b4 + 1) 0) s5
 refine jBp (X := St × Int × (List UInt8) × (List ApiValue) × Value × (List (List UInt8)) × Value) [(2, pZ b1), (3, pZ b2), (4, .bool false), (5, pZ b4)] (fun (xL : St × Int × (List UInt8) × (List ApiValue) × Value × (List (List UInt8)) × Value) => match xL with | (sl, x2, x3, x4, v7, x5, v8) => []) (fun (xL : St × Int × (List UInt8) × (List ApiValue) × Value × (List (List UInt8)) × Value) (wL : World) => match xL with | (sl, x2, x3, x4, v7, x5, v8) => sl.w = wL ∧ Step (KC (b4 + 1) 0) s5 sl ∧ (R sl v7 (.sl 5 (x4.map dApiValue))) ∧ (R sl v8 (.sl 1 (x5.map dS))) ∧ (Blk sl b4 ⟨b4 + 1, 0⟩ [.int .i64 a0.Kind, .int .i64 x2, S x3, v7, v8] 29) ∧ kj1 x2 x3 x4 x5 = some r) ?_ ?_
 ·
  refine jAg (jAa (jAf fld29_0 rfl rfl (jAj one3 rfl h1 rfl rfl (jAi (jAh [(2, _), (3, _), (4, _), (5, _), (14, _)] ⟨rfl, rfl, rfl, rfl, rfl, trivial⟩ (jAw (jAg (jAw (jAg (jAw (jAg (jAw (jAg (jAw (jAg (jAw (jAg (jAw (jAg (jAg ?_))))))))))))))))))))
  obtain ⟨kj6, hK9, h⟩ := jn_out h
  have hE9 := Step.r0 K0 s5
  refine jBp (X := St) [(2, pZ b1), (3, pZ b2), (4, .bool false), (5, pZ b4), (14, .int .i64 a0.Kind)] (fun (xL : St) => match xL with | sl => []) (fun (xL : St) (wL : World) => match xL with | sl => sl.w = wL ∧ Step K0 s5 sl ∧ kj6 () = some r) ?_ ?_
  ·
   refine jAg (jAg (jAa (jCc rfl rfl rfl (jAd rfl rfl (jAi (jAh [(2, _), (3, _), (4, _), (5, _), (14, _), (15, _)] ⟨rfl, rfl, rfl, rfl, rfl, rfl, trivial⟩ (jAl rfl (fun c10 => ?_) (fun c10 => ?_))))))))
   ·
    have h := itT h c10
    refine jAv (jAl rfl (fun c11 => ?_) (fun c11 => ?_))
    ·
     have h := itT h c11
     exact jBq rfl (jBq rfl (jAu ⟨(s5, 0, ([] : List UInt8), [], .slice none 0 0, [], .slice none 0 0), trivial, ⟨rfl, rfl, rfl, rfl, trivial⟩, ⟨rfl, hE6, (R.of_SL (.inl ⟨rfl, none, 0, rfl, fun _ => rfl⟩)), (R.of_SL (.inl ⟨rfl, none, 0, rfl, fun _ => rfl⟩)), h4, h⟩⟩))
    have h := itF h c11
    exact jAv (jAu ⟨s5, trivial, ⟨rfl, rfl, rfl, rfl, rfl, trivial⟩, ⟨rfl, hE9, h⟩⟩)
   have h := itF h c10
   refine jAg (jAa (jCc rfl rfl rfl (jAd rfl rfl (jAi (jAh [(2, _), (3, _), (4, _), (5, _), (14, _), (15, _)] ⟨rfl, rfl, rfl, rfl, rfl, rfl, trivial⟩ (jAl rfl (fun c12 => ?_) (fun c12 => ?_)))))))
   ·
    have h := itT h c12
    refine jAv (jAl rfl (fun c13 => ?_) (fun c13 => ?_))
    ·
     have h := itT h c13
     exact jBq rfl (jBq rfl (jAu ⟨(s5, 0, ([] : List UInt8), [], .slice none 0 0, [], .slice none 0 0), trivial, ⟨rfl, rfl, rfl, rfl, trivial⟩, ⟨rfl, hE6, (R.of_SL (.inl ⟨rfl, none, 0, rfl, fun _ => rfl⟩)), (R.of_SL (.inl ⟨rfl, none, 0, rfl, fun _ => rfl⟩)), h4, h⟩⟩))
    have h := itF h c13
    exact jAv (jAu ⟨s5, trivial, ⟨rfl, rfl, rfl, rfl, rfl, trivial⟩, ⟨rfl, hE9, h⟩⟩)
   have h := itF h c12
   refine jAa (jCc rfl rfl rfl (jAd rfl rfl (jAi (jAh [(2, _), (3, _), (4, _), (5, _), (14, _), (15, _)] ⟨rfl, rfl, rfl, rfl, rfl, rfl, trivial⟩ (jAl rfl (fun c14 => ?_) (fun c14 => ?_))))))
   ·
    have h := itT h c14
    exact jBq rfl (jBq rfl (jAu ⟨(s5, 0, ([] : List UInt8), [], .slice none 0 0, [], .slice none 0 0), trivial, ⟨rfl, rfl, rfl, rfl, trivial⟩, ⟨rfl, hE6, (R.of_SL (.inl ⟨rfl, none, 0, rfl, fun _ => rfl⟩)), (R.of_SL (.inl ⟨rfl, none, 0, rfl, fun _ => rfl⟩)), h4, h⟩⟩))
   have h := itF h c14
   exact jAv (jAu ⟨s5, trivial, ⟨rfl, rfl, rfl, rfl, rfl, trivial⟩, ⟨rfl, hE9, h⟩⟩)
  rintro s15 wL ⟨rfl, hE9, h⟩
  rw [hK9] at h
  have := hE9.size
  have hS := hS.trans0 hE9
  have hE6 := hE6.trans0 hE9
  replace hq0_0 := hq0_0.up2 hE9
  replace hq0_1 := hq0_1.up2 hE9
  replace h1 := h1.up2 hE9
  replace h4 := h4.up2 hE9
  refine jAg (jAg (jAa (jCc rfl rfl rfl (jAd rfl rfl (jAi (jAh [(2, _), (3, _), (4, _), (5, _), (14, _), (19, _)] ⟨rfl, rfl, rfl, rfl, rfl, rfl, trivial⟩ (jAl rfl (fun c16 => ?_) (fun c16 => ?_))))))))
  ·
   have h := itT h c16
   refine jBq rfl (jAg (jAa (jAf fld29_1 rfl rfl (jAj one2 rfl h1 rfl rfl (jAf fld29_1 rfl rfl (jAo (cs' := [.int .i64 a0.Kind, .int .i64 a0.Num, S ([] : List UInt8), .slice none 0 0, .slice none 0 0]) size2 rfl rfl h4 lz (CellsOf.lit rfl rfl) rfl lq rfl ?_))))))
   intro s17 st17 h4
   have := st17.size
   have hS := hS.c0 st17
   have hE6 := hE6.c0 st17
   exact jAi (jAh [(2, _), (3, _), (4, _), (5, _)] ⟨rfl, rfl, rfl, rfl, trivial⟩ (jBq rfl (jAu ⟨(s17, a0.Num, ([] : List UInt8), [], .slice none 0 0, [], .slice none 0 0), trivial, ⟨rfl, rfl, rfl, rfl, trivial⟩, ⟨rfl, hE6, (R.of_SL (.inl ⟨rfl, none, 0, rfl, fun _ => rfl⟩)), (R.of_SL (.inl ⟨rfl, none, 0, rfl, fun _ => rfl⟩)), h4, h⟩⟩)))
  have h := itF h c16
  refine jAv (jAg (jAg (jAa (jCc rfl rfl rfl (jAd rfl rfl (jAi (jAh [(2, _), (3, _), (4, _), (5, _), (14, _), (21, _)] ⟨rfl, rfl, rfl, rfl, rfl, rfl, trivial⟩ (jAl rfl (fun c18 => ?_) (fun c18 => ?_)))))))))
  ·
   have h := itT h c18
   refine jBq rfl (jAg (jAa (jAf fld29_2 rfl rfl (jAj one9 rfl h1 rfl rfl (jAf fld29_2 rfl rfl (jAo (cs' := [.int .i64 a0.Kind, .int .i64 0, S a0.Text, .slice none 0 0, .slice none 0 0]) size9 rfl rfl h4 lz (CellsOf.lit rfl rfl) rfl lq rfl ?_))))))
   intro s19 st19 h4
   have := st19.size
   have hS := hS.c0 st19
   have hE6 := hE6.c0 st19
   exact jAi (jAh [(2, _), (3, _), (4, _), (5, _)] ⟨rfl, rfl, rfl, rfl, trivial⟩ (jBq rfl (jAu ⟨(s19, 0, a0.Text, [], .slice none 0 0, [], .slice none 0 0), trivial, ⟨rfl, rfl, rfl, rfl, trivial⟩, ⟨rfl, hE6, (R.of_SL (.inl ⟨rfl, none, 0, rfl, fun _ => rfl⟩)), (R.of_SL (.inl ⟨rfl, none, 0, rfl, fun _ => rfl⟩)), h4, h⟩⟩)))
  have h := itF h c18
  refine jAv (jAg (jAg (jAa (jCc rfl rfl rfl (jAd rfl rfl (jAi (jAh [(2, _), (3, _), (4, _), (5, _), (14, _), (23, _)] ⟨rfl, rfl, rfl, rfl, rfl, rfl, trivial⟩ (jAl rfl (fun c20 => ?_) (fun c20 => ?_)))))))))
  ·
   have h := itT h c20
   refine jBq rfl (jAg (jAa (jAf fld29_4 rfl rfl (jAj one27 rfl h1 rfl rfl (jAf fld29_4 rfl rfl (jAo (cs' := [.int .i64 a0.Kind, .int .i64 0, S ([] : List UInt8), .slice none 0 0, q0_1]) size27 rfl rfl h4 lz (CellsOf.sl (SL.of_R hq0_1)) rfl lq rfl ?_))))))
   intro s21 st21 h4
   have := st21.size
   have hS := hS.c0 st21
   have hE6 := hE6.c0 st21
   replace hq0_1 := hq0_1.up2 st21
   replace hq0_0 := hq0_0.up2 st21
   replace h1 := h1.up2 st21
   refine jAi (jAh [(2, _), (3, _), (4, _), (5, _)] ⟨rfl, rfl, rfl, rfl, trivial⟩ (jAg (jAa (jAf fld29_4 rfl rfl (jAj one27 rfl h1 rfl rfl (jCj Tryz.underlying27 rfl (SL.of_R hq0_1).hasLen rfl (k_as (v := .int .i64 (a0.Keys.length : Int)) (by simp only [List.length_map]) (jAf fld29_3 rfl rfl (jAj one26 rfl h1 rfl rfl (jCj Tryz.underlying26 rfl (SL.of_R hq0_0).hasLen rfl (k_as (v := .int .i64 (a0.List_.length : Int)) (by simp only [List.length_map]) (jDe rfl rfl rfl (jAi (jAh [(2, _), (3, _), (4, _), (5, _), (42, _)] ⟨rfl, rfl, rfl, rfl, rfl, trivial⟩ (jAl rfl (fun c22 => ?_) (fun c22 => ?_))))))))))))))))
   ·
    have h := itT h c22
    refine jAg (jAa (jAd rfl rfl (jAi (jAh [(2, _), (3, _), (4, _), (5, _)] ⟨rfl, rfl, rfl, rfl, trivial⟩ (jAx ?_)))))
    obtain rfl := Option.some.inj h
    refine ⟨_, rfl, Ret.mk hS ?_⟩
    exact rfl
   have h := itF h c22
   refine jAv (jCe (jAg (jAa (jAf fld29_3 rfl rfl (jAj one26 rfl h1 rfl rfl (jAf fld29_3 rfl rfl (jAo (cs' := [.int .i64 a0.Kind, .int .i64 0, S ([] : List UInt8), q0_0, q0_1]) size26 rfl rfl h4 lz (CellsOf.sl (SL.of_R hq0_0)) rfl lq rfl ?_)))))))
   intro s23 st23 h4
   have := st23.size
   have hS := hS.c0 st23
   have hE6 := hE6.c0 st23
   replace hq0_0 := hq0_0.up2 st23
   replace hq0_1 := hq0_1.up2 st23
   exact jAi (jAh [(2, _), (3, _), (4, _), (5, _)] ⟨rfl, rfl, rfl, rfl, trivial⟩ (jBq rfl (jAu ⟨(s23, 0, ([] : List UInt8), a0.List_, q0_0, a0.Keys, q0_1), trivial, ⟨rfl, rfl, rfl, rfl, trivial⟩, ⟨rfl, hE6, hq0_0, hq0_1, h4, h⟩⟩)))
  have h := itF h c20
  refine jAv (jAg (jAa (jCc rfl rfl rfl (jAd rfl rfl (jAi (jAh [(2, _), (3, _), (4, _), (5, _), (25, _)] ⟨rfl, rfl, rfl, rfl, rfl, trivial⟩ (jAl rfl (fun c24 => ?_) (fun c24 => ?_))))))))
  ·
   have h := itT h c24
   refine jBq rfl (jAg (jAa (jAf fld29_3 rfl rfl (jAj one26 rfl h1 rfl rfl (jAf fld29_3 rfl rfl (jAo (cs' := [.int .i64 a0.Kind, .int .i64 0, S ([] : List UInt8), q0_0, .slice none 0 0]) size26 rfl rfl h4 lz (CellsOf.sl (SL.of_R hq0_0)) rfl lq rfl ?_))))))
   intro s25 st25 h4
   have := st25.size
   have hS := hS.c0 st25
   have hE6 := hE6.c0 st25
   replace hq0_0 := hq0_0.up2 st25
   exact jAi (jAh [(2, _), (3, _), (4, _), (5, _)] ⟨rfl, rfl, rfl, rfl, trivial⟩ (jBq rfl (jAu ⟨(s25, 0, ([] : List UInt8), a0.List_, q0_0, [], .slice none 0 0), trivial, ⟨rfl, rfl, rfl, rfl, trivial⟩, ⟨rfl, hE6, hq0_0, (R.of_SL (.inl ⟨rfl, none, 0, rfl, fun _ => rfl⟩)), h4, h⟩⟩)))
  have h := itF h c24
  refine jAv (jBq rfl (jAg (jAg (jAa (jAd rfl rfl (jAi (jAh [(2, _), (3, _), (4, _), (5, _)] ⟨rfl, rfl, rfl, rfl, trivial⟩ (jAx ?_))))))))
  obtain rfl := Option.some.inj h
  refine ⟨_, rfl, Ret.mk hS ?_⟩
  exact rfl
 rintro ⟨s26, x2, x3, x4, v7, x5, v8⟩ wL ⟨rfl, hE6, h7, h8, h4, h⟩
 rw [hK6] at h
 have := hE6.size
 have hS := hS.c0 hE6
 replace hq0_0 := hq0_0.up2 hE6
 replace hq0_1 := hq0_1.up2 hE6
 replace h1 := h1.up2 hE6
 replace h2 := h2.up2 hE6
 refine jAg (jAg (jAa (jAf fld29_1 rfl rfl (jAj one2 rfl h1 rfl rfl (jAf fld29_1 rfl rfl (jAj one2 rfl h4 rfl rfl (jDe rfl rfl rfl (jAc rfl rfl ?_))))))))
 have hE27 := Step.r0 K0 s26
 refine jBm (X := St) 6 [(2, pZ b1), (3, pZ b2), (4, .bool false), (5, pZ b4), (46, .pointer (some ⟨b1, 1, none⟩)), (47, .int .i64 a0.Num), (48, .pointer (some ⟨b4, 1, none⟩)), (49, .int .i64 x2), (50, .bool (decide (a0.Num ≠ x2)))] (fun _ => [(57, .bool (decide ((a0.Num ≠ x2) ∨ (a0.Text ≠ x3))))]) (fun sl wL => sl.w = wL ∧ Step K0 s26 sl) ?_ ?_
 ·
  refine jBb 51 rfl (jBh (fun c28 => ?_) (fun c28 => ?_))
  ·
   exact k_no rfl rfl rfl rfl (k_no rfl rfl rfl rfl (k_no rfl rfl rfl rfl (k_no rfl rfl rfl rfl (k_no rfl rfl rfl rfl (jAz rfl rfl rfl rfl (jBc ⟨s26, ⟨lb, trivial⟩, ⟨rfl, rfl, rfl, rfl, rfl, rfl, rfl, rfl, rfl, trivial⟩, rfl, hE27⟩))))))
  exact jAn rfl rfl (jAf fld29_2 rfl rfl (jAn rfl rfl (jAj one9 rfl h1 rfl rfl (jAn rfl rfl (jAf fld29_2 rfl rfl (jAn rfl rfl (jAj one9 rfl h4 rfl rfl (jAn rfl rfl (k_neq_str rfl rfl rfl (jAy rfl rfl rfl rfl (jBc ⟨s26, ⟨lb, trivial⟩, ⟨rfl, rfl, rfl, rfl, rfl, rfl, rfl, rfl, rfl, trivial⟩, rfl, hE27⟩)))))))))))
 rintro s29 wL ⟨rfl, hE27⟩
 have := hE27.size
 have hS := hS.trans0 hE27
 replace hq0_0 := hq0_0.up2 hE27
 replace hq0_1 := hq0_1.up2 hE27
 replace h1 := h1.up2 hE27
 replace h2 := h2.up2 hE27
 replace h7 := h7.up2 hE27
 replace h8 := h8.up2 hE27
 replace h4 := h4.up2 hE27
 refine jAc rfl rfl ?_
 have hE30 := Step.r0 K0 s29
 refine jBm (X := St) 8 [(2, pZ b1), (3, pZ b2), (4, .bool false), (5, pZ b4), (46, .pointer (some ⟨b1, 1, none⟩)), (47, .int .i64 a0.Num), (48, .pointer (some ⟨b4, 1, none⟩)), (49, .int .i64 x2), (50, .bool (decide (a0.Num ≠ x2))), (57, .bool (decide ((a0.Num ≠ x2) ∨ (a0.Text ≠ x3))))] (fun _ => [(66, .bool (decide (((a0.Num ≠ x2) ∨ (a0.Text ≠ x3)) ∨ ((a0.Keys.length : Int) ≠ (x5.length : Int)))))]) (fun sl wL => sl.w = wL ∧ Step K0 s29 sl) ?_ ?_
 ·
  refine jBb 58 rfl (jBh (fun c31 => ?_) (fun c31 => ?_))
  ·
   exact k_no rfl rfl rfl rfl (k_no rfl rfl rfl rfl (k_no rfl rfl rfl rfl (k_no rfl rfl rfl rfl (k_no rfl rfl rfl rfl (k_no rfl rfl rfl rfl (k_no rfl rfl rfl rfl (jAz rfl rfl rfl rfl (jBc ⟨s29, ⟨lb, trivial⟩, ⟨rfl, rfl, rfl, rfl, rfl, rfl, rfl, rfl, rfl, rfl, trivial⟩, rfl, hE30⟩))))))))
  exact jAn rfl rfl (jAf fld29_4 rfl rfl (jAn rfl rfl (jAj one27 rfl h1 rfl rfl (jAn rfl rfl (jCj Tryz.underlying27 rfl (SL.of_R hq0_1).hasLen rfl (k_as (v := .int .i64 (a0.Keys.length : Int)) (by simp only [List.length_map]) (jAn rfl rfl (jAf fld29_4 rfl rfl (jAn rfl rfl (jAj one27 rfl h4 rfl rfl (jAn rfl rfl (jCj Tryz.underlying27 rfl (SL.of_R h8).hasLen rfl (k_as (v := .int .i64 (x5.length : Int)) (by simp only [List.length_map]) (jAn rfl rfl (jDe rfl rfl rfl (jAy rfl rfl rfl rfl (jBc ⟨s29, ⟨lb, trivial⟩, ⟨rfl, rfl, rfl, rfl, rfl, rfl, rfl, rfl, rfl, rfl, trivial⟩, rfl, hE30⟩)))))))))))))))))
 rintro s32 wL ⟨rfl, hE30⟩
 have := hE30.size
 have hS := hS.trans0 hE30
 replace hq0_0 := hq0_0.up2 hE30
 replace hq0_1 := hq0_1.up2 hE30
 replace h1 := h1.up2 hE30
 replace h2 := h2.up2 hE30
 replace h7 := h7.up2 hE30
 replace h4 := h4.up2 hE30
 refine jAc rfl rfl ?_
 have hE33 := Step.r0 K0 s32
 refine jBm (X := St) 8 [(2, pZ b1), (3, pZ b2), (4, .bool false), (5, pZ b4), (46, .pointer (some ⟨b1, 1, none⟩)), (47, .int .i64 a0.Num), (48, .pointer (some ⟨b4, 1, none⟩)), (49, .int .i64 x2), (50, .bool (decide (a0.Num ≠ x2))), (57, .bool (decide ((a0.Num ≠ x2) ∨ (a0.Text ≠ x3)))), (66, .bool (decide (((a0.Num ≠ x2) ∨ (a0.Text ≠ x3)) ∨ ((a0.Keys.length : Int) ≠ (x5.length : Int)))))] (fun _ => [(75, .bool (decide ((((a0.Num ≠ x2) ∨ (a0.Text ≠ x3)) ∨ ((a0.Keys.length : Int) ≠ (x5.length : Int))) ∨ ((a0.List_.length : Int) ≠ (x4.length : Int)))))]) (fun sl wL => sl.w = wL ∧ Step K0 s32 sl) ?_ ?_
 ·
  refine jBb 67 rfl (jBh (fun c34 => ?_) (fun c34 => ?_))
  ·
   exact k_no rfl rfl rfl rfl (k_no rfl rfl rfl rfl (k_no rfl rfl rfl rfl (k_no rfl rfl rfl rfl (k_no rfl rfl rfl rfl (k_no rfl rfl rfl rfl (k_no rfl rfl rfl rfl (jAz rfl rfl rfl rfl (jBc ⟨s32, ⟨lb, trivial⟩, ⟨rfl, rfl, rfl, rfl, rfl, rfl, rfl, rfl, rfl, rfl, rfl, trivial⟩, rfl, hE33⟩))))))))
  exact jAn rfl rfl (jAf fld29_3 rfl rfl (jAn rfl rfl (jAj one26 rfl h1 rfl rfl (jAn rfl rfl (jCj Tryz.underlying26 rfl (SL.of_R hq0_0).hasLen rfl (k_as (v := .int .i64 (a0.List_.length : Int)) (by simp only [List.length_map]) (jAn rfl rfl (jAf fld29_3 rfl rfl (jAn rfl rfl (jAj one26 rfl h4 rfl rfl (jAn rfl rfl (jCj Tryz.underlying26 rfl (SL.of_R h7).hasLen rfl (k_as (v := .int .i64 (x4.length : Int)) (by simp only [List.length_map]) (jAn rfl rfl (jDe rfl rfl rfl (jAy rfl rfl rfl rfl (jBc ⟨s32, ⟨lb, trivial⟩, ⟨rfl, rfl, rfl, rfl, rfl, rfl, rfl, rfl, rfl, rfl, rfl, trivial⟩, rfl, hE33⟩)))))))))))))))))
 rintro s35 wL ⟨rfl, hE33⟩
 have := hE33.size
 have hS := hS.trans0 hE33
 replace hq0_0 := hq0_0.up2 hE33
 replace hq0_1 := hq0_1.up2 hE33
 replace h1 := h1.up2 hE33
 replace h2 := h2.up2 hE33
 refine jAc rfl rfl ?_
 obtain ⟨x7, hx7, h⟩ := ob h
 have hE36 := Step.r0 K0 s35
 refine jBm (X := St) 5 [(2, pZ b1), (3, pZ b2), (4, .bool false), (5, pZ b4), (46, .pointer (some ⟨b1, 1, none⟩)), (47, .int .i64 a0.Num), (48, .pointer (some ⟨b4, 1, none⟩)), (49, .int .i64 x2), (50, .bool (decide (a0.Num ≠ x2))), (57, .bool (decide ((a0.Num ≠ x2) ∨ (a0.Text ≠ x3)))), (66, .bool (decide (((a0.Num ≠ x2) ∨ (a0.Text ≠ x3)) ∨ ((a0.Keys.length : Int) ≠ (x5.length : Int))))), (75, .bool (decide ((((a0.Num ≠ x2) ∨ (a0.Text ≠ x3)) ∨ ((a0.Keys.length : Int) ≠ (x5.length : Int))) ∨ ((a0.List_.length : Int) ≠ (x4.length : Int)))))] (fun _ => [(81, .bool x7)]) (fun sl wL => sl.w = wL ∧ Step K0 s35 sl) ?_ ?_
 ·
  refine jBb 76 rfl (jBh (fun c37 => ?_) (fun c37 => ?_))
  ·
   have hx7 := itT hx7 c37
   exact k_no rfl rfl rfl rfl (k_no rfl rfl rfl rfl (k_no rfl rfl rfl rfl (k_no rfl rfl rfl rfl (jAz rfl rfl rfl rfl (jBc ⟨s35, ⟨(congrArg (fun b => some (Value.bool b)) (Option.some.inj hx7)), trivial⟩, ⟨rfl, rfl, rfl, rfl, rfl, rfl, rfl, rfl, rfl, rfl, rfl, rfl, trivial⟩, rfl, hE36⟩)))))
  have hx7 := itF hx7 c37
  refine jAn rfl rfl (jAf fld29_2 rfl rfl (jAn rfl rfl (jAj one9 rfl h1 rfl rfl (jAn rfl rfl ?_))))
  obtain ⟨x8, hx8, hx7⟩ := ob hx7
  refine jAp cal66 rfl (value_plain_w   hx8) rfl ?_
  rintro s38 vr38 st38 rfl
  have := st38.size
  have hS := hS.trans0 st38
  have hE36 := hE36.trans0 st38
  exact jAn rfl rfl (jDd rfl rfl (jAy rfl rfl rfl rfl (jBc ⟨s38, ⟨(congrArg (fun b => some (Value.bool b)) (Option.some.inj hx7)), trivial⟩, ⟨rfl, rfl, rfl, rfl, rfl, rfl, rfl, rfl, rfl, rfl, rfl, rfl, trivial⟩, rfl, hE36⟩)))
 rintro s39 wL ⟨rfl, hE36⟩
 have := hE36.size
 have hS := hS.trans0 hE36
 replace hq0_0 := hq0_0.up2 hE36
 replace hq0_1 := hq0_1.up2 hE36
 replace h1 := h1.up2 hE36
 replace h2 := h2.up2 hE36
 refine jAi (jAh [(2, _), (3, _), (4, _), (81, _)] ⟨rfl, rfl, rfl, rfl, trivial⟩ (jCk rfl (fun c40 => ?_) (fun c40 => ?_)))
 ·
  have h := ibT h c40
  refine jAg (jAa (jAd rfl rfl (jAi (jAh [(2, _), (3, _), (4, _)] ⟨rfl, rfl, rfl, trivial⟩ (jAx ?_)))))
  obtain rfl := Option.some.inj h
  refine ⟨_, rfl, Ret.mk hS ?_⟩
  exact rfl
 have h := ibF h c40
 refine jAv (jAg (jAh [(2, _), (3, _), (4, _)] ⟨rfl, rfl, rfl, trivial⟩ ?_))
 obtain ⟨kj9, hK41, h⟩ := jn_out h
 have hE41 := Step.r0 K0 s39
 refine jBp (X := St) [(2, pZ b1), (3, pZ b2), (4, .bool false)] (fun (xL : St) => match xL with | sl => []) (fun (xL : St) (wL : World) => match xL with | sl => sl.w = wL ∧ Step K0 s39 sl ∧ kj9 () = some r) ?_ ?_
 ·
  refine jAg (jAa (jAf fld29_4 rfl rfl (jAj one27 rfl h1 rfl rfl (jCj Tryz.underlying27 rfl (SL.of_R hq0_1).hasLen rfl (k_as (v := .int .i64 (a0.Keys.length : Int)) (by simp only [List.length_map]) (jAc rfl rfl (jAi (jAh [(2, _), (3, _), (4, _), (83, _), (84, _), (85, _)] ⟨rfl, rfl, rfl, rfl, rfl, rfl, trivial⟩ (jAw (jBr (X := St × Int × Nat) [(2, _), (3, _), (4, _), (83, _), (84, _)] (fun (xL : St × Int × Nat) => match xL with | (sl, x10, j) => [(85, .int .i64 x10)]) (fun (xL : St × Int × Nat) (wL : World) => match xL with | (sl, x10, j) => sl.w = wL ∧ Step K0 s39 sl ∧ value_shaped_s_l1 a0 kj9 j x10 = some r) (fun (xL : St × Int × Nat) => match xL with | (sl, x10, j) => j) (s39, 0, FU) ⟨rfl, rfl, rfl, rfl, rfl, trivial⟩ ⟨lr, trivial⟩ ⟨rfl, (Step.refl _).of0 li, h⟩ ?_))))))))))
  rintro ⟨s43, x10, j⟩ wL ⟨rfl, hE42, h⟩
  cases j with
  | zero => rw [value_shaped_s_l1] at h; exact (noneNe h).elim
  | succ j =>
  rw [value_shaped_s_l1] at h
  have := hE42.size
  have hS := hS.trans0 hE42
  have hE41 := hE41.trans0 hE42
  replace hq0_1 := hq0_1.up2 hE42
  replace h1 := h1.up2 hE42
  refine jAg (jAa (jBw rfl rfl rfl (jAi (jAg (jAl rfl (fun c44 => ?_) (fun c44 => ?_))))))
  ·
   have h := itT h c44
   refine jAv (jAg (jAw (jAg (jAa (jAc rfl rfl ?_)))))
   obtain ⟨x11, hx11, h⟩ := ob h
   refine jCd Tryz.underlying27 size9 rfl rfl (SL.of_R hq0_1) (jAk hx11).1 (jAr hx11) rfl ?_
   intro qx11 hqx11
   refine jAq one9 rfl hqx11 rfl (jAd rfl rfl (jAd rfl rfl (jAi (jAh [(2, _), (3, _), (4, _), (6, _), (7, _), (83, _), (84, _), (85, _)] ⟨rfl, rfl, rfl, rfl, rfl, rfl, rfl, rfl, trivial⟩ (jAg (jAa (jAc rfl rfl ?_)))))))
   obtain ⟨x12, hx12, h⟩ := ob h
   refine jAp cal67 rfl (value_key_w   hx12) rfl ?_
   rintro s45 vr45 st45 rfl
   have := st45.size
   have hS := hS.trans0 st45
   have hE41 := hE41.trans0 st45
   have hE42 := hE42.trans0 st45
   replace hq0_1 := hq0_1.up2 st45
   replace h1 := h1.up2 st45
   refine jDd rfl rfl (jAc rfl rfl ?_)
   obtain ⟨x13, hx13, h⟩ := ob h
   have hE46 := Step.r0 K0 s45
   refine jBm (X := St) 13 [(2, pZ b1), (3, pZ b2), (4, .bool false), (6, .int .i64 x10), (7, S x11), (83, q0_1), (84, .int .i64 (a0.Keys.length : Int)), (85, .int .i64 x10), (90, S x11), (91, .bool x12), (92, .bool (!x12))] (fun _ => [(106, .bool x13)]) (fun sl wL => sl.w = wL ∧ Step K0 s45 sl) ?_ ?_
   ·
    refine jBb 93 rfl (jCn (fun c47 => ?_) (fun c47 => ?_))
    ·
     have hx13 := ibT hx13 c47
     exact k_no rfl rfl rfl rfl (k_no rfl rfl rfl rfl (k_no rfl rfl rfl rfl (jCb rfl rfl rfl rfl (jCb rfl rfl rfl rfl (jCb rfl rfl rfl rfl (jCb rfl rfl rfl rfl (jCb rfl rfl rfl rfl (jCb rfl rfl rfl rfl (jCb rfl rfl rfl rfl (jCb rfl rfl rfl rfl (k_no rfl rfl rfl rfl (jAz rfl rfl rfl rfl (jBc ⟨s45, ⟨(congrArg (fun b => some (Value.bool b)) (Option.some.inj hx13)), trivial⟩, ⟨rfl, rfl, rfl, rfl, rfl, rfl, rfl, rfl, rfl, rfl, rfl, trivial⟩, rfl, hE46⟩)))))))))))))
    have hx13 := ibF hx13 c47
    refine jAn rfl rfl (jAc rfl rfl (jAn rfl rfl (jCu rfl rfl rfl (jAn rfl rfl (jAc rfl rfl ?_)))))
    obtain ⟨x14, hx14, hx13⟩ := ob hx13
    have hE48 := Step.r0 K0 s45
    refine jBm (X := St) 9 [(2, pZ b1), (3, pZ b2), (4, .bool false), (6, .int .i64 x10), (7, S x11), (83, q0_1), (84, .int .i64 (a0.Keys.length : Int)), (85, .int .i64 x10), (90, S x11), (91, .bool x12), (92, .bool (!x12)), (93, .bool false), (94, .int .i64 x10), (95, .bool (decide (0 < x10)))] (fun _ => [(105, .bool x14)]) (fun sl wL => sl.w = wL ∧ Step K0 s45 sl) ?_ ?_
    ·
     refine jBb 96 rfl (jBh (fun c49 => ?_) (fun c49 => ?_))
     ·
      have hx14 := itT hx14 c49
      refine jAn rfl rfl (jAf fld29_4 rfl rfl (jAn rfl rfl (jAj one27 rfl h1 rfl rfl (jAn rfl rfl (jAc rfl rfl (jAn rfl rfl (jDa rfl rfl rfl (jAn rfl rfl ?_))))))))
      obtain ⟨x15, hx15, hx14⟩ := ob hx14
      refine jCd Tryz.underlying27 size9 rfl rfl (SL.of_R hq0_1) (jAk hx15).1 (jAr hx15) rfl ?_
      intro qx15 hqx15
      exact jAn rfl rfl (jAq one9 rfl hqx15 rfl (jAn rfl rfl (jAc rfl rfl (jAn rfl rfl (k_geq_str rfl rfl rfl (jAn rfl rfl (jAz rfl rfl rfl rfl (jBc ⟨s45, ⟨(congrArg (fun b => some (Value.bool b)) (Option.some.inj hx14)), trivial⟩, ⟨rfl, rfl, rfl, rfl, rfl, rfl, rfl, rfl, rfl, rfl, rfl, rfl, rfl, rfl, trivial⟩, rfl, hE48⟩))))))))
     have hx14 := itF hx14 c49
     exact k_no rfl rfl rfl rfl (k_no rfl rfl rfl rfl (k_no rfl rfl rfl rfl (k_no rfl rfl rfl rfl (k_no rfl rfl rfl rfl (k_no rfl rfl rfl rfl (k_no rfl rfl rfl rfl (k_no rfl rfl rfl rfl (jAn rfl rfl (jAy rfl rfl rfl rfl (jBc ⟨s45, ⟨(congrArg (fun b => some (Value.bool b)) (Option.some.inj hx14)), trivial⟩, ⟨rfl, rfl, rfl, rfl, rfl, rfl, rfl, rfl, rfl, rfl, rfl, rfl, rfl, rfl, trivial⟩, rfl, hE48⟩))))))))))
    rintro s50 wL ⟨rfl, hE48⟩
    have := hE48.size
    have hS := hS.trans0 hE48
    have hE41 := hE41.trans0 hE48
    have hE42 := hE42.trans0 hE48
    have hE46 := hE46.trans0 hE48
    exact jAy rfl rfl rfl rfl (jBc ⟨s50, ⟨(congrArg (fun b => some (Value.bool b)) (Option.some.inj hx13)), trivial⟩, ⟨rfl, rfl, rfl, rfl, rfl, rfl, rfl, rfl, rfl, rfl, rfl, trivial⟩, rfl, hE46⟩)
   rintro s51 wL ⟨rfl, hE46⟩
   have := hE46.size
   have hS := hS.trans0 hE46
   have hE41 := hE41.trans0 hE46
   have hE42 := hE42.trans0 hE46
   refine jAi (jAh [(2, _), (3, _), (4, _), (83, _), (84, _), (85, _), (106, _)] ⟨rfl, rfl, rfl, rfl, rfl, rfl, rfl, trivial⟩ (jCk rfl (fun c52 => ?_) (fun c52 => ?_)))
   ·
    have h := ibT h c52
    refine jAg (jAa (jAd rfl rfl (jAi (jAh [(2, _), (3, _), (4, _), (83, _), (84, _), (85, _)] ⟨rfl, rfl, rfl, rfl, rfl, rfl, trivial⟩ (jAx ?_)))))
    obtain rfl := Option.some.inj h
    refine ⟨_, rfl, Ret.mk hS ?_⟩
    exact rfl
   have h := ibF h c52
   exact jAv (jCe (jAa (jBo rfl rfl rfl (jAc rfl rfl (jAi (jAu ⟨(s51, i64 (x10 + 1), j), ⟨lr, trivial⟩, ⟨rfl, rfl, rfl, rfl, rfl, trivial⟩, ⟨rfl, hE42, h⟩, (by simp)⟩))))))
  have h := itF h c44
  exact jBq rfl (jAu ⟨s43, trivial, ⟨rfl, rfl, rfl, trivial⟩, ⟨rfl, hE41, h⟩⟩)
 rintro s53 wL ⟨rfl, hE41, h⟩
 rw [hK41] at h
 have := hE41.size
 have hS := hS.trans0 hE41
 replace hq0_0 := hq0_0.up2 hE41
 replace h1 := h1.up2 hE41
 replace h2 := h2.up2 hE41
 refine jAg (jAa (jAf fld29_3 rfl rfl (jAj one26 rfl h1 rfl rfl (jDg rfl rfl rfl ?_))))
 obtain ⟨x16, hx16, h⟩ := ob h
 refine jAp cal68 rfl (slices_ContainsFunc_api_Value_api_Value_c69_w  (SL.of_R hq0_0) (show BoxR s53 b2 3 (dI64 a1) from ⟨_, h2, RC.val _ rfl⟩) ih70 hx16) rfl ?_
 rintro s54 vr54 st54 rfl
 have := st54.size
 have hS := hS.trans0 st54
 refine jDd rfl rfl (jAd rfl rfl (jAi (jAh [(4, _)] ⟨rfl, trivial⟩ (jAx ?_))))
 obtain rfl := Option.some.inj h
 refine ⟨_, rfl, Ret.mk hS ?_⟩
 exact rfl
theorem value_shaped_rw (j : Nat) : ∀ {s : St} {cs0 : List Value} {a0 : ApiValue} {a1 : Int} {r : Bool} (hp0 : RC s cs0 (dApiValue a0)) (h : value_shaped_r j a0 a1 = some r), Calls Tryz.prog 43 #[.agg cs0.toArray, .int .i64 a1] s.w (Ret s K0 (fun s1 v => v = .bool r)) := by
 induction j with
 | zero => intro s cs0 a0 a1 r hp0 h; rw [value_shaped_r] at h; exact (noneNe h).elim
 | succ j ih => intro s cs0 a0 a1 r hp0 h; rw [value_shaped_r] at h; exact value_shaped_s_w hp0 ih h
theorem value_shaped_w {s : St} {cs0 : List Value} {a0 : ApiValue} {a1 : Int} {r : Bool} (hp0 : RC s cs0 (dApiValue a0)) (h : value_shaped a0 a1 = some r) : Calls Tryz.prog 43 #[.agg cs0.toArray, .int .i64 a1] s.w (Ret s K0 (fun s1 v => v = .bool r)) := value_shaped_rw (FU + (dpApiValue a0)) hp0 h
theorem strconv_AppendUint_w {s : St} {l0 : Lab} {v0 : Value} {a0 : (List UInt8)} {a1 : UInt64} {a2 : Int} {r : (List UInt8)} (hp0 : Own s l0 5 1 v0 (a0.map bD)) (hlle0 : l0.o ≤ s.n) (tb2 : Tab2 s) (h : strconv_AppendUint a0 a1 a2 = some r) : Calls Tryz.prog 91 #[v0, cW a1, .int .i64 a2] s.w (Ret s (KC l0.o l0.c) (fun s1 v => ∃ (u0 : Value), v = u0 ∧ R s1 u0 (.sl 1 (r.map bD)))) := by
 unfold strconv_AppendUint at h
 have lp0 := Own.le1 hp0
 have hS := Step.r0 (KC l0.o l0.c) s
 refine k_fn (rs := [6]) (args := [v0, cW a1, .int .i64 a2]) Tryz.func91 rfl rfl rfl rfl (jAg (jAa (jAd rfl rfl (jAi (jAg (jAg (jAa (jAc rfl rfl (jCc rfl rfl rfl (jAi (jAh [(0, _), (1, _), (2, _), (6, _), (10, _)] ⟨rfl, rfl, rfl, rfl, rfl, trivial⟩ (jAl rfl (fun c1 => ?_) (fun c1 => ?_)))))))))))))
 ·
  have h := itT h c1
  refine jAg (jAg (jAa (jAc rfl rfl (jBw rfl rfl rfl (jAi (jAh [(0, _), (1, _), (2, _), (6, _), (12, _)] ⟨rfl, rfl, rfl, rfl, rfl, trivial⟩ (jAl rfl (fun c2 => ?_) (fun c2 => ?_))))))))
  ·
   have h := itT h c2
   refine jAg (jAa (jAc rfl rfl (jAc rfl rfl (jBz (p := (a1.toNat : Int)) Tryz.underlying22 Tryz.underlying3 rfl rfl ?_))))
   by_cases c3 : 0 ≤ i64 (a1.toNat : Int) ∧ i64 (a1.toNat : Int) < 100
   case neg => exact (noneNe (itF h c3)).elim
   replace h := itT h c3
   refine jAp cal61 rfl (small_w (a0 := (i64 (a1.toNat : Int))) c3) rfl ?_
   rintro s4 _ st4 rfl
   have := st4.size
   have hS := hS.trans0 st4
   replace hp0 := hp0.up2 st4
   obtain ⟨x1, hx1, h⟩ := ob h
   refine k_append_str elem43 rfl rfl Tryz.underlying9 rfl rfl hp0 (by have := (jAm hx1).1; simp only [List.length_map]; omega) rfl ?_
   intro s5 v5 st5 h5
   rw [← List.map_append, ← (jAm hx1).2] at h5
   have := st5.size
   have hS := hS.c0 st5
   refine jAd rfl rfl (jAi (jAh [(0, _), (1, _), (2, _), (6, _)] ⟨rfl, rfl, rfl, rfl, trivial⟩ (jAx ?_)))
   obtain ⟨s6, e6, st6, h6⟩ := h5.freeze
   rw [← e6]
   have := st6.size
   have hS := hS.c0 st6
   obtain rfl := Option.some.inj h
   refine ⟨_, rfl, Ret.mk hS ?_⟩
   exact ⟨_, rfl, h6⟩
  have h := itF h c2
  refine jAv (jAg (jAa (jBj zero92 rfl ?_)))
  intro s7 b7 st7 h7 ge7
  have := st7.size
  have hS := hS.trans0 st7
  replace hp0 := hp0.up2 st7
  replace tb2 := tb2.up2 st7
  have lt7 := h7.lt
  refine jAi (jAh [(0, _), (1, _), (2, _), (6, _), (7, _)] ⟨rfl, rfl, rfl, rfl, rfl, trivial⟩ (jAg (jAa (jAc rfl rfl ?_))))
  by_cases c8 : 1 ≤ a1.toNat
  case neg => exact (noneNe (itF h c8)).elim
  replace h := itT h c8
  refine jAp cal62 rfl (numDigits_w (a0 := a1) tb2 c8) rfl ?_
  rintro s9 _ st9 rfl
  have := st9.size
  have hS := hS.trans0 st9
  replace hp0 := hp0.up2 st9
  replace h7 := h7.up2 st9
  refine jAd rfl rfl (jAi (jAh [(0, _), (1, _), (2, _), (6, _), (7, _), (8, _)] ⟨rfl, rfl, rfl, rfl, rfl, rfl, trivial⟩ (jAg (jAa (jAc rfl rfl ?_)))))
  by_cases c11 : 0 ≤ ((decF 30 a1.toNat).length : Int) ∧ ((decF 30 a1.toNat).length : Int) ≤ 24
  case neg => exact (noneNe (itF h c11)).elim
  replace h := itT h c11
  have hj10 : (((decF 30 a1.toNat).length : Int) : Int).toNat ≤ (List.replicate 24 (0 : UInt8)).length := by have hq : (List.replicate 24 (0 : UInt8)).length = 24 := (List.length_replicate); omega
  refine jCs (g := bD) (xs := (List.replicate 24 (0 : UInt8))) (j := (((decF 30 a1.toNat).length : Int) : Int).toNat) cB (fun _ => rfl) (fun _ => rfl) arr92 rfl h7 (List.length_replicate) (CutAt.int rfl c11.1) (by omega) rfl ?_
  intro h12
  refine jAc rfl rfl ?_
  by_cases c14 : (decF 30 a1.toNat).length = (((decF 30 a1.toNat).length : Int) : Int).toNat ∧ (((decF 30 a1.toNat).length : Int) : Int).toNat < 1000
  case neg => exact (noneNe (itF h c14)).elim
  replace h := itT h c14
  refine jAp cal63 rfl (fmt10_w (xs := (List.replicate 24 (0 : UInt8))) (a1 := a1) h7 lz hj10 c14) rfl ?_
  rintro s13 _ st13 ⟨rfl, h7⟩
  have hl13 : (decF 30 a1.toNat ++ (List.replicate 24 (0 : UInt8)).drop (((decF 30 a1.toNat).length : Int) : Int).toNat).length = 24 := by have hq := hj10; have hq2 : (List.replicate 24 (0 : UInt8)).length = 24 := (List.length_replicate); rw [List.length_append, List.length_drop, c14.1]; omega
  have := st13.size
  have hS := hS.c0 st13
  replace hp0 := hp0.up2 st13
  refine jAi (jAh [(0, _), (1, _), (2, _), (6, _), (7, _), (8, _)] ⟨rfl, rfl, rfl, rfl, rfl, rfl, trivial⟩ (jAg (jAa (jAc rfl rfl (jAc rfl rfl ?_)))))
  by_cases c16 : 0 ≤ ((decF 30 a1.toNat).length : Int) ∧ ((decF 30 a1.toNat).length : Int) ≤ 24
  case neg => exact (noneNe (itF h c16)).elim
  replace h := itT h c16
  have hj15 : (((decF 30 a1.toNat).length : Int) : Int).toNat ≤ (decF 30 a1.toNat ++ (List.replicate 24 (0 : UInt8)).drop (((decF 30 a1.toNat).length : Int) : Int).toNat).length := by have hq : (decF 30 a1.toNat ++ (List.replicate 24 (0 : UInt8)).drop (((decF 30 a1.toNat).length : Int) : Int).toNat).length = 24 := hl13; omega
  refine jCs (g := bD) (xs := (decF 30 a1.toNat ++ (List.replicate 24 (0 : UInt8)).drop (((decF 30 a1.toNat).length : Int) : Int).toNat)) (j := (((decF 30 a1.toNat).length : Int) : Int).toNat) cB (fun _ => rfl) (fun _ => rfl) arr92 rfl h7 hl13 (CutAt.int rfl c16.1) (by omega) rfl ?_
  intro h17
  obtain ⟨x2, hx2, h⟩ := ob h
  refine k_append (es := ((decF 30 a1.toNat ++ (List.replicate 24 (0 : UInt8)).drop (((decF 30 a1.toNat).length : Int) : Int).toNat).take (((decF 30 a1.toNat).length : Int) : Int).toNat).map bD) elem43 rfl rfl hp0 h17 (by have := (jAm hx2).1; simp only [List.length_map] at *; omega) (by have := (jAm hx2).1; simp only [List.length_map] at *; omega) rfl ?_
  intro s18 v18 st18 h18
  rw [← List.map_append, ← (jAm hx2).2] at h18
  have := st18.size
  have hS := hS.c0 st18
  refine jAd rfl rfl (jAi (jAh [(0, _), (1, _), (2, _), (6, _)] ⟨rfl, rfl, rfl, rfl, trivial⟩ (jAx ?_)))
  obtain ⟨s19, e19, st19, h19⟩ := h18.freeze
  rw [← e19]
  have := st19.size
  have hS := hS.c0 st19
  obtain rfl := Option.some.inj h
  refine ⟨_, rfl, Ret.mk hS ?_⟩
  exact ⟨_, rfl, h19⟩
 have h := itF h c1
 refine jAv (jAg (jAa (jAc rfl rfl (jAc rfl rfl (jAc rfl rfl ?_)))))
 by_cases c20 : (0 : Nat) = 1
 case neg => exact (noneNe (itF h c20)).elim
 replace h := itT h c20
 refine jAp cal64 rfl (show Calls Tryz.prog 64 #[v0, cW a1, .int .i64 a2, .bool false, .bool true] s.w (Ret s K0 (fun _ v => v = .tuple #[v0, S ([] : List UInt8)])) from absurd c20 (by decide)) rfl ?_
 rintro s21 _ st21 rfl
 have := st21.size
 have hS := hS.trans0 st21
 replace hp0 := hp0.up2 st21
 refine jAc rfl rfl (jBd rfl rfl rfl (jBd rfl rfl rfl (jAd rfl rfl (jAi (jAh [(0, _), (6, _)] ⟨rfl, rfl, trivial⟩ (jAg (jAa (jAc rfl rfl (jAd rfl rfl (jAi (jAh [(6, _)] ⟨rfl, trivial⟩ (jAx ?_))))))))))))
 obtain ⟨s22, e22, st22, h22⟩ := hp0.freeze
 rw [← e22]
 have := st22.size
 have hS := hS.c0 st22
 obtain rfl := Option.some.inj h
 refine ⟨_, rfl, Ret.mk hS ?_⟩
 exact ⟨_, rfl, h22⟩
theorem value_quoted_own_w {s : St} {l0 : Lab} {v0 : Value} {a0 : (List UInt8)} {a1 : (List UInt8)} {r : (List UInt8)} (hp0 : Own s l0 5 1 v0 (a0.map bD)) (hlle0 : l0.o ≤ s.n) (h : value_quoted a0 a1 = some r) : Calls Tryz.prog 45 #[v0, S a1] s.w (Ret s (KC l0.o l0.c) (fun s1 v => ∃ (u0 : Value), v = u0 ∧ Own s1 l0 5 1 u0 (r.map bD))) := by
 unfold value_quoted at h
 have lp0 := Own.le1 hp0
 have hS := Step.r0 (KC l0.o l0.c) s
 refine k_fn (rs := [4]) (args := [v0, S a1]) Tryz.func45 rfl rfl rfl rfl (jAg (jAa (jAd rfl rfl (jAi (jAg (jAa (jAc rfl rfl (k_bslice2 (ds := ([(34 : UInt8)] : List UInt8).map bD) slc43 rfl (RVs.cons (R.val rfl) RVs.nil) (by rfl) (by rfl) rfl rfl ?_))))))))
 intro s1 v1 b1 st1 ge1 bl1 h1
 have := st1.size
 have hS := hS.trans0 st1
 replace hp0 := hp0.up2 st1
 have lt1 := Own.le1 h1
 obtain ⟨x1, hx1, h⟩ := ob h
 refine k_append (es := ([(34 : UInt8)] : List UInt8).map bD) elem43 rfl rfl hp0 (h1.sl) (by have := (jAm hx1).1; simp only [List.length_map] at *; omega) (by have := (jAm hx1).1; simp only [List.length_map] at *; omega) rfl ?_
 intro s2 v2 st2 h2
 rw [← List.map_append, ← (jAm hx1).2] at h2
 have := st2.size
 have hS := hS.c0 st2
 refine jAd rfl rfl (jAi (jAh [(0, _), (1, _), (4, _)] ⟨rfl, rfl, rfl, trivial⟩ (jAg ?_)))
 obtain ⟨kj2, hK3, h⟩ := jn_out h
 have hE3 := Step.r0 (KC l0.o l0.c) s2
 refine jBp (X := St × (List UInt8) × Value) [(4, .slice none 0 0)] (fun (xL : St × (List UInt8) × Value) => match xL with | (sl, x3, v4) => [(0, v4)]) (fun (xL : St × (List UInt8) × Value) (wL : World) => match xL with | (sl, x3, v4) => sl.w = wL ∧ Step (KC l0.o l0.c) s2 sl ∧ (Own sl ⟨l0.o, l0.c⟩ 5 1 v4 (x3.map bD)) ∧ kj2 x3 = some r) ?_ ?_
 ·
  refine jAg (jAa (jAc rfl rfl (jCf Tryz.underlying9 rfl rfl (jAc rfl rfl (jAi (jAh [(0, _), (1, _), (4, _), (10, _), (11, _)] ⟨rfl, rfl, rfl, rfl, rfl, trivial⟩ (jAw (jBr (X := St × (List UInt8) × Value × Int × Nat) [(1, _), (4, _), (10, _)] (fun (xL : St × (List UInt8) × Value × Int × Nat) => match xL with | (sl, x4, v6, x5, j) => [(0, v6), (11, .int .i64 x5)]) (fun (xL : St × (List UInt8) × Value × Int × Nat) (wL : World) => match xL with | (sl, x4, v6, x5, j) => sl.w = wL ∧ Step (KC l0.o l0.c) s2 sl ∧ (Own sl ⟨l0.o, l0.c⟩ 5 1 v6 (x4.map bD)) ∧ value_quoted_l1 a1 kj2 j x4 x5 = some r) (fun (xL : St × (List UInt8) × Value × Int × Nat) => match xL with | (sl, x4, v6, x5, j) => j) (s2, x1, v2, 0, FU) ⟨rfl, rfl, rfl, trivial⟩ ⟨lr, lr, trivial⟩ ⟨rfl, (Step.refl _).of0 li, h2, h⟩ ?_))))))))
  rintro ⟨s7, x4, v6, x5, j⟩ wL ⟨rfl, hE5, h6, h⟩
  cases j with
  | zero => rw [value_quoted_l1] at h; exact (noneNe h).elim
  | succ j =>
  rw [value_quoted_l1] at h
  have := hE5.size
  have hS := hS.c0 hE5
  have hE3 := hE3.c0 hE5
  refine jAg (jAa (jBw rfl rfl rfl (jAi (jAg (jAl rfl (fun c8 => ?_) (fun c8 => ?_))))))
  ·
   have h := itT h c8
   refine jAv (jAg (jAw (jAg (jAa (jAc rfl rfl (jAd rfl rfl (jAi (jAh [(0, _), (1, _), (4, _), (5, _), (10, _), (11, _)] ⟨rfl, rfl, rfl, rfl, rfl, rfl, trivial⟩ (jAg ?_)))))))))
   obtain ⟨kj6, hK9, h⟩ := jn_out h
   have hE9 := Step.r0 (KC l0.o l0.c) s7
   refine jBp (X := St × (List UInt8) × Value) [(1, S a1), (4, .slice none 0 0), (5, .int .i64 x5), (10, .int .i64 (a1.length : Int)), (11, .int .i64 x5)] (fun (xL : St × (List UInt8) × Value) => match xL with | (sl, x7, v10) => [(0, v10)]) (fun (xL : St × (List UInt8) × Value) (wL : World) => match xL with | (sl, x7, v10) => sl.w = wL ∧ Step (KC l0.o l0.c) s7 sl ∧ (Own sl ⟨l0.o, l0.c⟩ 5 1 v10 (x7.map bD)) ∧ kj6 x7 = some r) ?_ ?_
   ·
    refine jAg (jAa (jAc rfl rfl (jAc rfl rfl ?_)))
    obtain ⟨x8, hx8, h⟩ := ob h
    refine jBi Tryz.underlying9 rfl rfl (jAk hx8).1 (jAk hx8).2.1 rfl (k_as (congrArg (fun c : UInt8 => cB c) (jBs hx8)) (jCc rfl rfl rfl (jAc rfl rfl ?_)))
    obtain ⟨x9, hx9, h⟩ := ob h
    have hE11 := Step.r0 K0 s7
    refine jBm (X := St) 5 [(0, v6), (1, S a1), (4, .slice none 0 0), (5, .int .i64 x5), (10, .int .i64 (a1.length : Int)), (11, .int .i64 x5), (14, S a1), (15, .int .i64 x5), (16, cB x8), (17, .bool (decide ((x8.toNat : Int) = 34)))] (fun _ => [(23, .bool x9)]) (fun sl wL => sl.w = wL ∧ Step K0 s7 sl) ?_ ?_
    ·
     refine jBb 18 rfl (jBh (fun c12 => ?_) (fun c12 => ?_))
     ·
      have hx9 := itT hx9 c12
      exact k_no rfl rfl rfl rfl (k_no rfl rfl rfl rfl (k_no rfl rfl rfl rfl (k_no rfl rfl rfl rfl (jAz rfl rfl rfl rfl (jBc ⟨s7, ⟨(congrArg (fun b => some (Value.bool b)) (Option.some.inj hx9)), trivial⟩, ⟨rfl, rfl, rfl, rfl, rfl, rfl, rfl, rfl, rfl, rfl, trivial⟩, rfl, hE11⟩)))))
     have hx9 := itF hx9 c12
     refine jAn rfl rfl (jAc rfl rfl (jAn rfl rfl (jAc rfl rfl (jAn rfl rfl ?_))))
     obtain ⟨x10, hx10, hx9⟩ := ob hx9
     exact jBi Tryz.underlying9 rfl rfl (jAk hx10).1 (jAk hx10).2.1 rfl (k_as (congrArg (fun c : UInt8 => cB c) (jBs hx10)) (jAn rfl rfl (jCc rfl rfl rfl (jAy rfl rfl rfl rfl (jBc ⟨s7, ⟨(congrArg (fun b => some (Value.bool b)) (Option.some.inj hx9)), trivial⟩, ⟨rfl, rfl, rfl, rfl, rfl, rfl, rfl, rfl, rfl, rfl, trivial⟩, rfl, hE11⟩)))))
    rintro s13 wL ⟨rfl, hE11⟩
    have := hE11.size
    have hS := hS.trans0 hE11
    have hE3 := hE3.trans0 hE11
    have hE5 := hE5.trans0 hE11
    have hE9 := hE9.trans0 hE11
    replace h6 := h6.up2 hE11
    refine jAi (jAh [(0, _), (1, _), (4, _), (5, _), (10, _), (11, _), (23, _)] ⟨rfl, rfl, rfl, rfl, rfl, rfl, rfl, trivial⟩ (jCk rfl (fun c14 => ?_) (fun c14 => ?_)))
    ·
     have h := ibT h c14
     refine jAa (jAc rfl rfl (k_bslice2 (ds := ([(92 : UInt8)] : List UInt8).map bD) slc43 rfl (RVs.cons (R.val rfl) RVs.nil) (by rfl) (by rfl) rfl rfl ?_))
     intro s15 v15 b15 st15 ge15 bl15 h15
     have := st15.size
     have hS := hS.trans0 st15
     have hE3 := hE3.trans0 st15
     have hE5 := hE5.trans0 st15
     have hE9 := hE9.trans0 st15
     replace h6 := h6.up2 st15
     have lt15 := Own.le1 h15
     obtain ⟨x11, hx11, h⟩ := ob h
     refine k_append (es := ([(92 : UInt8)] : List UInt8).map bD) elem43 rfl rfl h6 (h15.sl) (by have := (jAm hx11).1; simp only [List.length_map] at *; omega) (by have := (jAm hx11).1; simp only [List.length_map] at *; omega) rfl ?_
     intro s16 v16 st16 h16
     rw [← List.map_append, ← (jAm hx11).2] at h16
     have := st16.size
     have hS := hS.c0 st16
     have hE3 := hE3.c0 st16
     have hE5 := hE5.c0 st16
     have hE9 := hE9.c0 st16
     exact jAd rfl rfl (jAi (jAu ⟨(s16, x11, v16), ⟨lr, trivial⟩, ⟨rfl, rfl, rfl, rfl, rfl, trivial⟩, ⟨rfl, hE9, h16, h⟩⟩))
    have h := ibF h c14
    exact jAv (jAu ⟨(s13, x4, v6), ⟨lr, trivial⟩, ⟨rfl, rfl, rfl, rfl, rfl, trivial⟩, ⟨rfl, hE9, h6, h⟩⟩)
   rintro ⟨s17, x7, v10⟩ wL ⟨rfl, hE9, h10, h⟩
   rw [hK9] at h
   have := hE9.size
   have hS := hS.c0 hE9
   have hE3 := hE3.c0 hE9
   have hE5 := hE5.c0 hE9
   refine jAa (jAc rfl rfl (jAc rfl rfl (jAc rfl rfl ?_)))
   obtain ⟨x12, hx12, h⟩ := ob h
   refine jBi Tryz.underlying9 rfl rfl (jAk hx12).1 (jAk hx12).2.1 rfl (k_as (congrArg (fun c : UInt8 => cB c) (jBs hx12)) (k_bslice2 (ds := ([x12] : List UInt8).map bD) slc43 rfl (RVs.cons (R.val rfl) RVs.nil) (by rfl) (by rfl) rfl rfl ?_))
   intro s18 v18 b18 st18 ge18 bl18 h18
   have := st18.size
   have hS := hS.trans0 st18
   have hE3 := hE3.trans0 st18
   have hE5 := hE5.trans0 st18
   replace h10 := h10.up2 st18
   have lt18 := Own.le1 h18
   obtain ⟨x13, hx13, h⟩ := ob h
   refine k_append (es := ([x12] : List UInt8).map bD) elem43 rfl rfl h10 (h18.sl) (by have := (jAm hx13).1; simp only [List.length_map] at *; omega) (by have := (jAm hx13).1; simp only [List.length_map] at *; omega) rfl ?_
   intro s19 v19 st19 h19
   rw [← List.map_append, ← (jAm hx13).2] at h19
   have := st19.size
   have hS := hS.c0 st19
   have hE3 := hE3.c0 st19
   have hE5 := hE5.c0 st19
   exact jAd rfl rfl (jAi (jCe (jAa (jBo rfl rfl rfl (jAc rfl rfl (jAi (jAu ⟨(s19, x13, v19, i64 (x5 + 1), j), ⟨lr, lr, trivial⟩, ⟨rfl, rfl, rfl, trivial⟩, ⟨rfl, hE5, h19, h⟩, (by simp)⟩)))))))
  have h := itF h c8
  exact jBq rfl (jAu ⟨(s7, x4, v6), ⟨lr, trivial⟩, ⟨rfl, trivial⟩, ⟨rfl, hE3, h6, h⟩⟩)
 rintro ⟨s20, x3, v4⟩ wL ⟨rfl, hE3, h4, h⟩
 rw [hK3] at h
 have := hE3.size
 have hS := hS.c0 hE3
 refine jAg (jAa (jAc rfl rfl (k_bslice2 (ds := ([(34 : UInt8)] : List UInt8).map bD) slc43 rfl (RVs.cons (R.val rfl) RVs.nil) (by rfl) (by rfl) rfl rfl ?_)))
 intro s21 v21 b21 st21 ge21 bl21 h21
 have := st21.size
 have hS := hS.trans0 st21
 replace h4 := h4.up2 st21
 have lt21 := Own.le1 h21
 obtain ⟨x14, hx14, h⟩ := ob h
 refine k_append (es := ([(34 : UInt8)] : List UInt8).map bD) elem43 rfl rfl h4 (h21.sl) (by have := (jAm hx14).1; simp only [List.length_map] at *; omega) (by have := (jAm hx14).1; simp only [List.length_map] at *; omega) rfl ?_
 intro s22 v22 st22 h22
 rw [← List.map_append, ← (jAm hx14).2] at h22
 have := st22.size
 have hS := hS.c0 st22
 refine jAd rfl rfl (jAi (jAh [(4, _)] ⟨rfl, trivial⟩ (jAx ?_)))
 obtain rfl := Option.some.inj h
 refine ⟨_, rfl, Ret.mk hS ?_⟩
 exact ⟨_, rfl, h22⟩
theorem strconv_AppendUint_own_w {s : St} {l0 : Lab} {v0 : Value} {a0 : (List UInt8)} {a1 : UInt64} {a2 : Int} {r : (List UInt8)} (hp0 : Own s l0 5 1 v0 (a0.map bD)) (hlle0 : l0.o ≤ s.n) (tb2 : Tab2 s) (h : strconv_AppendUint a0 a1 a2 = some r) : Calls Tryz.prog 91 #[v0, cW a1, .int .i64 a2] s.w (Ret s (KC l0.o l0.c) (fun s1 v => ∃ (u0 : Value), v = u0 ∧ Own s1 l0 5 1 u0 (r.map bD))) := by
 unfold strconv_AppendUint at h
 have lp0 := Own.le1 hp0
 have hS := Step.r0 (KC l0.o l0.c) s
 refine k_fn (rs := [6]) (args := [v0, cW a1, .int .i64 a2]) Tryz.func91 rfl rfl rfl rfl (jAg (jAa (jAd rfl rfl (jAi (jAg (jAg (jAa (jAc rfl rfl (jCc rfl rfl rfl (jAi (jAh [(0, _), (1, _), (2, _), (6, _), (10, _)] ⟨rfl, rfl, rfl, rfl, rfl, trivial⟩ (jAl rfl (fun c1 => ?_) (fun c1 => ?_)))))))))))))
 ·
  have h := itT h c1
  refine jAg (jAg (jAa (jAc rfl rfl (jBw rfl rfl rfl (jAi (jAh [(0, _), (1, _), (2, _), (6, _), (12, _)] ⟨rfl, rfl, rfl, rfl, rfl, trivial⟩ (jAl rfl (fun c2 => ?_) (fun c2 => ?_))))))))
  ·
   have h := itT h c2
   refine jAg (jAa (jAc rfl rfl (jAc rfl rfl (jBz (p := (a1.toNat : Int)) Tryz.underlying22 Tryz.underlying3 rfl rfl ?_))))
   by_cases c3 : 0 ≤ i64 (a1.toNat : Int) ∧ i64 (a1.toNat : Int) < 100
   case neg => exact (noneNe (itF h c3)).elim
   replace h := itT h c3
   refine jAp cal61 rfl (small_w (a0 := (i64 (a1.toNat : Int))) c3) rfl ?_
   rintro s4 _ st4 rfl
   have := st4.size
   have hS := hS.trans0 st4
   replace hp0 := hp0.up2 st4
   obtain ⟨x1, hx1, h⟩ := ob h
   refine k_append_str elem43 rfl rfl Tryz.underlying9 rfl rfl hp0 (by have := (jAm hx1).1; simp only [List.length_map]; omega) rfl ?_
   intro s5 v5 st5 h5
   rw [← List.map_append, ← (jAm hx1).2] at h5
   have := st5.size
   have hS := hS.c0 st5
   refine jAd rfl rfl (jAi (jAh [(0, _), (1, _), (2, _), (6, _)] ⟨rfl, rfl, rfl, rfl, trivial⟩ (jAx ?_)))
   obtain rfl := Option.some.inj h
   refine ⟨_, rfl, Ret.mk hS ?_⟩
   exact ⟨_, rfl, h5⟩
  have h := itF h c2
  refine jAv (jAg (jAa (jBj zero92 rfl ?_)))
  intro s6 b6 st6 h6 ge6
  have := st6.size
  have hS := hS.trans0 st6
  replace hp0 := hp0.up2 st6
  replace tb2 := tb2.up2 st6
  have lt6 := h6.lt
  refine jAi (jAh [(0, _), (1, _), (2, _), (6, _), (7, _)] ⟨rfl, rfl, rfl, rfl, rfl, trivial⟩ (jAg (jAa (jAc rfl rfl ?_))))
  by_cases c7 : 1 ≤ a1.toNat
  case neg => exact (noneNe (itF h c7)).elim
  replace h := itT h c7
  refine jAp cal62 rfl (numDigits_w (a0 := a1) tb2 c7) rfl ?_
  rintro s8 _ st8 rfl
  have := st8.size
  have hS := hS.trans0 st8
  replace hp0 := hp0.up2 st8
  replace h6 := h6.up2 st8
  refine jAd rfl rfl (jAi (jAh [(0, _), (1, _), (2, _), (6, _), (7, _), (8, _)] ⟨rfl, rfl, rfl, rfl, rfl, rfl, trivial⟩ (jAg (jAa (jAc rfl rfl ?_)))))
  by_cases c10 : 0 ≤ ((decF 30 a1.toNat).length : Int) ∧ ((decF 30 a1.toNat).length : Int) ≤ 24
  case neg => exact (noneNe (itF h c10)).elim
  replace h := itT h c10
  have hj9 : (((decF 30 a1.toNat).length : Int) : Int).toNat ≤ (List.replicate 24 (0 : UInt8)).length := by have hq : (List.replicate 24 (0 : UInt8)).length = 24 := (List.length_replicate); omega
  refine jCs (g := bD) (xs := (List.replicate 24 (0 : UInt8))) (j := (((decF 30 a1.toNat).length : Int) : Int).toNat) cB (fun _ => rfl) (fun _ => rfl) arr92 rfl h6 (List.length_replicate) (CutAt.int rfl c10.1) (by omega) rfl ?_
  intro h11
  refine jAc rfl rfl ?_
  by_cases c13 : (decF 30 a1.toNat).length = (((decF 30 a1.toNat).length : Int) : Int).toNat ∧ (((decF 30 a1.toNat).length : Int) : Int).toNat < 1000
  case neg => exact (noneNe (itF h c13)).elim
  replace h := itT h c13
  refine jAp cal63 rfl (fmt10_w (xs := (List.replicate 24 (0 : UInt8))) (a1 := a1) h6 lz hj9 c13) rfl ?_
  rintro s12 _ st12 ⟨rfl, h6⟩
  have hl12 : (decF 30 a1.toNat ++ (List.replicate 24 (0 : UInt8)).drop (((decF 30 a1.toNat).length : Int) : Int).toNat).length = 24 := by have hq := hj9; have hq2 : (List.replicate 24 (0 : UInt8)).length = 24 := (List.length_replicate); rw [List.length_append, List.length_drop, c13.1]; omega
  have := st12.size
  have hS := hS.c0 st12
  replace hp0 := hp0.up2 st12
  refine jAi (jAh [(0, _), (1, _), (2, _), (6, _), (7, _), (8, _)] ⟨rfl, rfl, rfl, rfl, rfl, rfl, trivial⟩ (jAg (jAa (jAc rfl rfl (jAc rfl rfl ?_)))))
  by_cases c15 : 0 ≤ ((decF 30 a1.toNat).length : Int) ∧ ((decF 30 a1.toNat).length : Int) ≤ 24
  case neg => exact (noneNe (itF h c15)).elim
  replace h := itT h c15
  have hj14 : (((decF 30 a1.toNat).length : Int) : Int).toNat ≤ (decF 30 a1.toNat ++ (List.replicate 24 (0 : UInt8)).drop (((decF 30 a1.toNat).length : Int) : Int).toNat).length := by have hq : (decF 30 a1.toNat ++ (List.replicate 24 (0 : UInt8)).drop (((decF 30 a1.toNat).length : Int) : Int).toNat).length = 24 := hl12; omega
  refine jCs (g := bD) (xs := (decF 30 a1.toNat ++ (List.replicate 24 (0 : UInt8)).drop (((decF 30 a1.toNat).length : Int) : Int).toNat)) (j := (((decF 30 a1.toNat).length : Int) : Int).toNat) cB (fun _ => rfl) (fun _ => rfl) arr92 rfl h6 hl12 (CutAt.int rfl c15.1) (by omega) rfl ?_
  intro h16
  obtain ⟨x2, hx2, h⟩ := ob h
  refine k_append (es := ((decF 30 a1.toNat ++ (List.replicate 24 (0 : UInt8)).drop (((decF 30 a1.toNat).length : Int) : Int).toNat).take (((decF 30 a1.toNat).length : Int) : Int).toNat).map bD) elem43 rfl rfl hp0 h16 (by have := (jAm hx2).1; simp only [List.length_map] at *; omega) (by have := (jAm hx2).1; simp only [List.length_map] at *; omega) rfl ?_
  intro s17 v17 st17 h17
  rw [← List.map_append, ← (jAm hx2).2] at h17
  have := st17.size
  have hS := hS.c0 st17
  refine jAd rfl rfl (jAi (jAh [(0, _), (1, _), (2, _), (6, _)] ⟨rfl, rfl, rfl, rfl, trivial⟩ (jAx ?_)))
  obtain rfl := Option.some.inj h
  refine ⟨_, rfl, Ret.mk hS ?_⟩
  exact ⟨_, rfl, h17⟩
 have h := itF h c1
 refine jAv (jAg (jAa (jAc rfl rfl (jAc rfl rfl (jAc rfl rfl ?_)))))
 by_cases c18 : (0 : Nat) = 1
 case neg => exact (noneNe (itF h c18)).elim
 replace h := itT h c18
 refine jAp cal64 rfl (show Calls Tryz.prog 64 #[v0, cW a1, .int .i64 a2, .bool false, .bool true] s.w (Ret s K0 (fun _ v => v = .tuple #[v0, S ([] : List UInt8)])) from absurd c18 (by decide)) rfl ?_
 rintro s19 _ st19 rfl
 have := st19.size
 have hS := hS.trans0 st19
 replace hp0 := hp0.up2 st19
 refine jAc rfl rfl (jBd rfl rfl rfl (jBd rfl rfl rfl (jAd rfl rfl (jAi (jAh [(0, _), (6, _)] ⟨rfl, rfl, trivial⟩ (jAg (jAa (jAc rfl rfl (jAd rfl rfl (jAi (jAh [(6, _)] ⟨rfl, trivial⟩ (jAx ?_))))))))))))
 obtain rfl := Option.some.inj h
 refine ⟨_, rfl, Ret.mk hS ?_⟩
 exact ⟨_, rfl, hp0⟩
theorem strconv_AppendInt_own_w {s : St} {l0 : Lab} {v0 : Value} {a0 : (List UInt8)} {a1 : Int} {a2 : Int} {r : (List UInt8)} (hp0 : Own s l0 5 1 v0 (a0.map bD)) (hlle0 : l0.o ≤ s.n) (tb2 : Tab2 s) (h : strconv_AppendInt a0 a1 a2 = some r) : Calls Tryz.prog 70 #[v0, .int .i64 a1, .int .i64 a2] s.w (Ret s (KC l0.o l0.c) (fun s1 v => ∃ (u0 : Value), v = u0 ∧ Own s1 l0 5 1 u0 (r.map bD))) := by
 unfold strconv_AppendInt at h
 have lp0 := Own.le1 hp0
 have hS := Step.r0 (KC l0.o l0.c) s
 refine k_fn (rs := [6]) (args := [v0, .int .i64 a1, .int .i64 a2]) Tryz.func70 rfl rfl rfl rfl (jAg (jAa (jAd rfl rfl (jAi (jAg (jAa (jAc rfl rfl (jBz (p := a1) Tryz.underlying2 Tryz.underlying22 rfl rfl (k_as (congrArg (Value.int .u64) (w64 _)) (jAd rfl rfl (jAi (jAh [(0, _), (1, _), (2, _), (6, _), (7, _)] ⟨rfl, rfl, rfl, rfl, rfl, trivial⟩ (jAg (jAg (jAa (jAc rfl rfl (jBw rfl rfl rfl (jAi (jAh [(0, _), (2, _), (6, _), (7, _), (11, _)] ⟨rfl, rfl, rfl, rfl, rfl, trivial⟩ (jAl rfl (fun c1 => ?_) (fun c1 => ?_)))))))))))))))))))))
 ·
  have h := itT h c1
  refine jAg (jAa (jAc rfl rfl (k_bslice2 (ds := ([(45 : UInt8)] : List UInt8).map bD) slc43 rfl (RVs.cons (R.val rfl) RVs.nil) (by rfl) (by rfl) rfl rfl ?_)))
  intro s2 v2 b2 st2 ge2 bl2 h2
  have := st2.size
  have hS := hS.trans0 st2
  replace hp0 := hp0.up2 st2
  replace tb2 := tb2.up2 st2
  have lt2 := Own.le1 h2
  obtain ⟨x1, hx1, h⟩ := ob h
  refine k_append (es := ([(45 : UInt8)] : List UInt8).map bD) elem43 rfl rfl hp0 (h2.sl) (by have := (jAm hx1).1; simp only [List.length_map] at *; omega) (by have := (jAm hx1).1; simp only [List.length_map] at *; omega) rfl ?_
  intro s3 v3 st3 h3
  rw [← List.map_append, ← (jAm hx1).2] at h3
  have := st3.size
  have hS := hS.c0 st3
  replace tb2 := tb2.up2 st3
  refine jAd rfl rfl (jAi (jAh [(0, _), (2, _), (6, _), (7, _)] ⟨rfl, rfl, rfl, rfl, trivial⟩ (jAa (jAc rfl rfl (k_neg rfl rfl (k_as (congrArg (Value.int .u64) (w64 _)) (jAd rfl rfl (jAi (jAh [(0, _), (2, _), (6, _), (7, _)] ⟨rfl, rfl, rfl, rfl, trivial⟩ (jAg (jAa (jAc rfl rfl (jAc rfl rfl (jAc rfl rfl ?_))))))))))))))
  obtain ⟨x2, hx2, h⟩ := ob h
  refine jAp cal91 rfl (strconv_AppendUint_own_w  h3 la tb2 hx2) rfl ?_
  rintro s4 v4_0 st4 ⟨_, rfl, h4_0⟩
  have := st4.size
  have hS := hS.c0 st4
  refine jAd rfl rfl (jAi (jAh [(6, _)] ⟨rfl, trivial⟩ (jAx ?_)))
  obtain rfl := Option.some.inj h
  refine ⟨_, rfl, Ret.mk hS ?_⟩
  exact ⟨_, rfl, h4_0⟩
 have h := itF h c1
 refine jAv (jAg (jAa (jAc rfl rfl (jAc rfl rfl (jAc rfl rfl ?_)))))
 obtain ⟨x3, hx3, h⟩ := ob h
 refine jAp cal91 rfl (strconv_AppendUint_own_w  hp0 la tb2 hx3) rfl ?_
 rintro s5 v5_0 st5 ⟨_, rfl, h5_0⟩
 have := st5.size
 have hS := hS.c0 st5
 refine jAd rfl rfl (jAi (jAh [(6, _)] ⟨rfl, trivial⟩ (jAx ?_)))
 obtain rfl := Option.some.inj h
 refine ⟨_, rfl, Ret.mk hS ?_⟩
 exact ⟨_, rfl, h5_0⟩
theorem strconv_AppendInt_o_own_w {s : St} {l0 : Lab} {v0 : Value} {a0 : (List UInt8)} {a1 : Int} {a2 : Int} {r : (List UInt8)} (hp0 : Own s l0 5 1 v0 (a0.map bD)) (hlle0 : l0.o ≤ s.n) (tb2 : Tab2 s) (h : strconv_AppendInt_o a0 a1 a2 = some r) : Calls Tryz.prog 44 #[v0, .int .i64 a1, .int .i64 a2] s.w (Ret s (KC l0.o l0.c) (fun s1 v => ∃ (u0 : Value), v = u0 ∧ Own s1 l0 5 1 u0 (r.map bD))) := by
 unfold strconv_AppendInt_o at h
 have lp0 := Own.le1 hp0
 have hS := Step.r0 (KC l0.o l0.c) s
 refine k_fn (rs := [6]) (args := [v0, .int .i64 a1, .int .i64 a2]) Tryz.func44 rfl rfl rfl rfl (jAg (jAa (jAd rfl rfl (jAi (jAg (jAa (jAc rfl rfl (jAc rfl rfl (jAc rfl rfl ?_)))))))))
 obtain ⟨x1, hx1, h⟩ := ob h
 refine jAp cal70 rfl (strconv_AppendInt_own_w  hp0 la tb2 hx1) rfl ?_
 rintro s1 v1_0 st1 ⟨_, rfl, h1_0⟩
 have := st1.size
 have hS := hS.c0 st1
 refine jAd rfl rfl (jAi (jAh [(6, _)] ⟨rfl, trivial⟩ (jAx ?_)))
 obtain rfl := Option.some.inj h
 refine ⟨_, rfl, Ret.mk hS ?_⟩
 exact ⟨_, rfl, h1_0⟩
theorem value_text_own_s_w {s : St} {l0 : Lab} {v0 : Value} {a0 : (List UInt8)} {cs1 : List Value} {a1 : ApiValue} {a70 : ((List UInt8) → ApiValue → Option (List UInt8))} {r : (List UInt8)} (hp0 : Own s l0 5 1 v0 (a0.map bD)) (hlle0 : l0.o ≤ s.n) (hp1 : RC s cs1 (dApiValue a1)) (tb2 : Tab2 s) (ih70 : ∀ {s : St} {l0 : Lab} {v0 : Value} {a0 : (List UInt8)} {cs1 : List Value} {a1 : ApiValue} {r : (List UInt8)} (hp0 : Own s l0 5 1 v0 (a0.map bD)) (hlle0 : l0.o ≤ s.n) (hp1 : RC s cs1 (dApiValue a1)) (tb2 : Tab2 s) (h : a70 a0 a1 = some r), Calls Tryz.prog 29 #[v0, .agg cs1.toArray] s.w (Ret s (KC l0.o l0.c) (fun s1 v => ∃ (u0 : Value), v = u0 ∧ Own s1 l0 5 1 u0 (r.map bD)))) (h : value_text_s a70 a0 a1 = some r) : Calls Tryz.prog 29 #[v0, .agg cs1.toArray] s.w (Ret s (KC l0.o l0.c) (fun s1 v => ∃ (u0 : Value), v = u0 ∧ Own s1 l0 5 1 u0 (r.map bD))) := by
 unfold value_text_s at h
 have lp0 := Own.le1 hp0
 obtain ⟨q1_0, q1_1, rfl, hq1_0, hq1_1⟩ := opnApiValue hp1
 have hS := Step.r0 (KC l0.o l0.c) s
 refine k_fn (rs := [4]) (args := [v0, .agg #[.int .i64 a1.Kind, .int .i64 a1.Num, S a1.Text, q1_0, q1_1]]) Tryz.func29 rfl rfl rfl rfl (jAg (jAa (jCp rfl rfl ?_)))
 intro s1 b1 st1 h1 ge1
 have := st1.size
 have hS := hS.trans0 st1
 replace hq1_0 := hq1_0.up2 st1
 replace hq1_1 := hq1_1.up2 st1
 replace hp0 := hp0.up2 st1
 replace tb2 := tb2.up2 st1
 have lt1 := h1.lt
 refine jAd rfl rfl (jAi (jAh [(0, _), (3, _), (4, _)] ⟨rfl, rfl, rfl, trivial⟩ (jAg ?_)))
 obtain ⟨kj1, hK2, h⟩ := jn_out h
 have hE2 := Step.r0 K0 s1
 refine jBp (X := St) [(0, v0), (4, .slice none 0 0)] (fun (xL : St) => match xL with | sl => []) (fun (xL : St) (wL : World) => match xL with | sl => sl.w = wL ∧ Step K0 s1 sl ∧ kj1 () = some r) ?_ ?_
 ·
  refine jAg (jAa (jAf fld29_0 rfl rfl (jAj one3 rfl h1 rfl rfl (jAi (jAh [(0, _), (3, _), (4, _), (9, _)] ⟨rfl, rfl, rfl, rfl, trivial⟩ (jAw (jAg (jAa (jCc rfl rfl rfl (jAd rfl rfl (jAi (jAh [(0, _), (3, _), (4, _), (9, _), (10, _)] ⟨rfl, rfl, rfl, rfl, rfl, trivial⟩ (jAl rfl (fun c3 => ?_) (fun c3 => ?_))))))))))))))
  ·
   have h := itT h c3
   refine jAg (jAa (jAc rfl rfl ?_))
   obtain ⟨x2, hx2, h⟩ := ob h
   refine k_append_str elem43 rfl rfl Tryz.underlying9 rfl rfl hp0 (by have := (jAm hx2).1; simp only [List.length_map]; omega) rfl ?_
   intro s4 v4 st4 h4
   rw [← List.map_append, ← (jAm hx2).2] at h4
   have := st4.size
   have hS := hS.c0 st4
   refine jAd rfl rfl (jAi (jAh [(0, _), (4, _)] ⟨rfl, rfl, trivial⟩ (jAx ?_)))
   obtain rfl := Option.some.inj h
   refine ⟨_, rfl, Ret.mk hS ?_⟩
   exact ⟨_, rfl, h4⟩
  have h := itF h c3
  refine jAg (jAa (jCc rfl rfl rfl (jAd rfl rfl (jAi (jAh [(0, _), (3, _), (4, _), (9, _), (14, _)] ⟨rfl, rfl, rfl, rfl, rfl, trivial⟩ (jAl rfl (fun c5 => ?_) (fun c5 => ?_)))))))
  ·
   have h := itT h c5
   refine jAg (jAa (jAc rfl rfl ?_))
   obtain ⟨x3, hx3, h⟩ := ob h
   refine k_append_str elem43 rfl rfl Tryz.underlying9 rfl rfl hp0 (by have := (jAm hx3).1; simp only [List.length_map]; omega) rfl ?_
   intro s6 v6 st6 h6
   rw [← List.map_append, ← (jAm hx3).2] at h6
   have := st6.size
   have hS := hS.c0 st6
   refine jAd rfl rfl (jAi (jAh [(0, _), (4, _)] ⟨rfl, rfl, trivial⟩ (jAx ?_)))
   obtain rfl := Option.some.inj h
   refine ⟨_, rfl, Ret.mk hS ?_⟩
   exact ⟨_, rfl, h6⟩
  have h := itF h c5
  refine jAg (jAa (jCc rfl rfl rfl (jAd rfl rfl (jAi (jAh [(0, _), (3, _), (4, _), (9, _), (18, _)] ⟨rfl, rfl, rfl, rfl, rfl, trivial⟩ (jAl rfl (fun c7 => ?_) (fun c7 => ?_)))))))
  ·
   have h := itT h c7
   refine jAg (jAa (jAc rfl rfl (jAf fld29_1 rfl rfl (jAj one2 rfl h1 rfl rfl ?_))))
   obtain ⟨x4, hx4, h⟩ := ob h
   refine jAp cal44 rfl (strconv_AppendInt_o_own_w  hp0 la tb2 hx4) rfl ?_
   rintro s8 v8_0 st8 ⟨_, rfl, h8_0⟩
   have := st8.size
   have hS := hS.c0 st8
   refine jAd rfl rfl (jAi (jAh [(0, _), (4, _)] ⟨rfl, rfl, trivial⟩ (jAx ?_)))
   obtain rfl := Option.some.inj h
   refine ⟨_, rfl, Ret.mk hS ?_⟩
   exact ⟨_, rfl, h8_0⟩
  have h := itF h c7
  refine jAg (jAa (jCc rfl rfl rfl (jAd rfl rfl (jAi (jAh [(0, _), (3, _), (4, _), (9, _), (24, _)] ⟨rfl, rfl, rfl, rfl, rfl, trivial⟩ (jAl rfl (fun c9 => ?_) (fun c9 => ?_)))))))
  ·
   have h := itT h c9
   refine jAg (jAa (jAc rfl rfl (jAf fld29_2 rfl rfl (jAj one9 rfl h1 rfl rfl ?_))))
   obtain ⟨x5, hx5, h⟩ := ob h
   refine jAp cal45 rfl (value_quoted_own_w  hp0 la hx5) rfl ?_
   rintro s10 v10_0 st10 ⟨_, rfl, h10_0⟩
   have := st10.size
   have hS := hS.c0 st10
   refine jAd rfl rfl (jAi (jAh [(0, _), (4, _)] ⟨rfl, rfl, trivial⟩ (jAx ?_)))
   obtain rfl := Option.some.inj h
   refine ⟨_, rfl, Ret.mk hS ?_⟩
   exact ⟨_, rfl, h10_0⟩
  have h := itF h c9
  refine jAg (jAh [(0, _), (3, _), (4, _), (9, _)] ⟨rfl, rfl, rfl, rfl, trivial⟩ ?_)
  obtain ⟨kj6, hK11, h⟩ := jn_out h
  have hE11 := Step.r0 K0 s1
  refine jBp (X := St × Bool) [(0, v0), (3, pZ b1), (4, .slice none 0 0)] (fun (xL : St × Bool) => match xL with | (sl, x7) => [(30, .bool x7)]) (fun (xL : St × Bool) (wL : World) => match xL with | (sl, x7) => sl.w = wL ∧ Step K0 s1 sl ∧ kj6 x7 = some r) ?_ ?_
  ·
   refine jAg (jAa (jCc rfl rfl rfl (jAd rfl rfl (jAi (jAh [(0, _), (3, _), (4, _), (9, _), (30, _)] ⟨rfl, rfl, rfl, rfl, rfl, trivial⟩ (jAl rfl (fun c12 => ?_) (fun c12 => ?_)))))))
   ·
    have h := itT h c12
    exact jAv (jAu ⟨(s1, decide (a1.Kind = 5)), ⟨lr, trivial⟩, ⟨rfl, rfl, rfl, trivial⟩, ⟨rfl, hE11, h⟩⟩)
   have h := itF h c12
   exact jAa (jCc rfl rfl rfl (jAd rfl rfl (jAi (jAu ⟨(s1, decide (a1.Kind = 6)), ⟨lr, trivial⟩, ⟨rfl, rfl, rfl, trivial⟩, ⟨rfl, hE11, h⟩⟩))))
  rintro ⟨s13, x7⟩ wL ⟨rfl, hE11, h⟩
  rw [hK11] at h
  have := hE11.size
  have hS := hS.trans0 hE11
  have hE2 := hE2.trans0 hE11
  replace hp0 := hp0.up2 hE11
  replace hq1_0 := hq1_0.up2 hE11
  replace hq1_1 := hq1_1.up2 hE11
  replace h1 := h1.up2 hE11
  replace tb2 := tb2.up2 hE11
  refine jCk rfl (fun c14 => ?_) (fun c14 => ?_)
  ·
   have h := ibT h c14
   refine jAg (jAa (jCx arr74 zero74 rfl (Parts.cons (CellsOf.lit rfl rfl).1 (Parts.cons (CellsOf.lit rfl rfl).1 Parts.nil)) (by rfl) rfl (k_as (v := .agg (([] : List Value) ++ ([([] : List UInt8), ([] : List UInt8), ([] : List UInt8), ([] : List UInt8), ([] : List UInt8), ([91, 93] : List UInt8), ([123, 125] : List UInt8)] : List (List UInt8)).map S).toArray) rfl (jAf fld29_0 rfl rfl (jAj one3 rfl h1 rfl rfl ?_)))))
   obtain ⟨x8, hx8, h⟩ := ob h
   refine jDl S (xs := ([([] : List UInt8), ([] : List UInt8), ([] : List UInt8), ([] : List UInt8), ([] : List UInt8), ([91, 93] : List UInt8), ([123, 125] : List UInt8)] : List (List UInt8))) arr74 one9 rfl rfl (rfl) hx8 rfl (jAd rfl rfl (jAi (jAh [(0, _), (3, _), (4, _), (5, _)] ⟨rfl, rfl, rfl, rfl, trivial⟩ (jAg (jAa (jAc rfl rfl (jAc rfl rfl ?_)))))))
   obtain ⟨x9, hx9, h⟩ := ob h
   refine jBi Tryz.underlying9 rfl rfl (jAk hx9).1 (jAk hx9).2.1 rfl (k_as (congrArg (fun c : UInt8 => cB c) (jBs hx9)) (k_bslice2 (ds := ([x9] : List UInt8).map bD) slc43 rfl (RVs.cons (R.val rfl) RVs.nil) (by rfl) (by rfl) rfl rfl ?_))
   intro s15 v15 b15 st15 ge15 bl15 h15
   have := st15.size
   have hS := hS.trans0 st15
   have hE2 := hE2.trans0 st15
   replace hp0 := hp0.up2 st15
   replace hq1_0 := hq1_0.up2 st15
   replace hq1_1 := hq1_1.up2 st15
   replace h1 := h1.up2 st15
   replace tb2 := tb2.up2 st15
   have lt15 := Own.le1 h15
   obtain ⟨x10, hx10, h⟩ := ob h
   refine k_append (es := ([x9] : List UInt8).map bD) elem43 rfl rfl hp0 (h15.sl) (by have := (jAm hx10).1; simp only [List.length_map] at *; omega) (by have := (jAm hx10).1; simp only [List.length_map] at *; omega) rfl ?_
   intro s16 v16 st16 h16
   rw [← List.map_append, ← (jAm hx10).2] at h16
   have := st16.size
   have hS := hS.c0 st16
   replace hq1_0 := hq1_0.up2 st16
   replace hq1_1 := hq1_1.up2 st16
   replace h1 := h1.up2 st16
   replace tb2 := tb2.up2 st16
   refine jAd rfl rfl (jAi (jAh [(0, _), (3, _), (4, _), (5, _)] ⟨rfl, rfl, rfl, rfl, trivial⟩ (jAg ?_)))
   obtain ⟨kj11, hK17, h⟩ := jn_out h
   have hE17 := Step.r0 (KC l0.o l0.c) s16
   refine jBp (X := St × (List UInt8) × Value) [(4, .slice none 0 0), (5, S x8)] (fun (xL : St × (List UInt8) × Value) => match xL with | (sl, x12, v18) => [(0, v18)]) (fun (xL : St × (List UInt8) × Value) (wL : World) => match xL with | (sl, x12, v18) => sl.w = wL ∧ Step (KC l0.o l0.c) s16 sl ∧ (Own sl ⟨l0.o, l0.c⟩ 5 1 v18 (x12.map bD)) ∧ kj11 x12 = some r) ?_ ?_
   ·
    refine jAg (jAa (jAf fld29_3 rfl rfl (jAj one26 rfl h1 rfl rfl (jCj Tryz.underlying26 rfl (SL.of_R hq1_0).hasLen rfl (k_as (v := .int .i64 (a1.List_.length : Int)) (by simp only [List.length_map]) (jAc rfl rfl (jAi (jAh [(0, _), (3, _), (4, _), (5, _), (43, _), (44, _), (45, _)] ⟨rfl, rfl, rfl, rfl, rfl, rfl, rfl, trivial⟩ (jAw (jBr (X := St × (List UInt8) × Value × Int × Nat) [(3, _), (4, _), (5, _), (43, _), (44, _)] (fun (xL : St × (List UInt8) × Value × Int × Nat) => match xL with | (sl, x13, v20, x14, j) => [(0, v20), (45, .int .i64 x14)]) (fun (xL : St × (List UInt8) × Value × Int × Nat) (wL : World) => match xL with | (sl, x13, v20, x14, j) => sl.w = wL ∧ Step (KC l0.o l0.c) s16 sl ∧ (Own sl ⟨l0.o, l0.c⟩ 5 1 v20 (x13.map bD)) ∧ value_text_s_l1 a1 a70 kj11 j x13 x14 = some r) (fun (xL : St × (List UInt8) × Value × Int × Nat) => match xL with | (sl, x13, v20, x14, j) => j) (s16, x10, v16, 0, FU) ⟨rfl, rfl, rfl, rfl, rfl, trivial⟩ ⟨lr, lr, trivial⟩ ⟨rfl, (Step.refl _).of0 li, h16, h⟩ ?_))))))))))
    rintro ⟨s21, x13, v20, x14, j⟩ wL ⟨rfl, hE19, h20, h⟩
    cases j with
    | zero => rw [value_text_s_l1] at h; exact (noneNe h).elim
    | succ j =>
    rw [value_text_s_l1] at h
    have := hE19.size
    have hS := hS.c0 hE19
    have hE17 := hE17.c0 hE19
    replace hq1_0 := hq1_0.up2 hE19
    replace hq1_1 := hq1_1.up2 hE19
    replace h1 := h1.up2 hE19
    replace tb2 := tb2.up2 hE19
    refine jAg (jAa (jBw rfl rfl rfl (jAi (jAg (jAl rfl (fun c22 => ?_) (fun c22 => ?_))))))
    ·
     have h := itT h c22
     refine jAv (jAg (jAw (jAg (jAa (jAc rfl rfl ?_)))))
     obtain ⟨x15, hx15, h⟩ := ob h
     refine jCd Tryz.underlying26 size29 rfl rfl (SL.of_R hq1_0) (jAk hx15).1 (jAr hx15) rfl ?_
     intro qx15 hqx15
     refine jCr (by exact agg29) rfl hqx15 rfl ?_
     intro cs23 h23
     obtain ⟨q23_0, q23_1, rfl, hq23_0, hq23_1⟩ := opnApiValue h23
     refine jBj zero29 rfl ?_
     intro s24 b24 st24 h24 ge24
     have := st24.size
     have hS := hS.trans0 st24
     have hE17 := hE17.trans0 st24
     have hE19 := hE19.trans0 st24
     replace hq23_0 := hq23_0.up2 st24
     replace hq23_1 := hq23_1.up2 st24
     replace hq1_1 := hq1_1.up2 st24
     replace h1 := h1.up2 st24
     replace h20 := h20.up2 st24
     replace tb2 := tb2.up2 st24
     have lt24 := h24.lt
     refine jAd rfl rfl (jAo (cs' := [.int .i64 x15.Kind, .int .i64 x15.Num, S x15.Text, q23_0, q23_1]) size29 rfl rfl h24 lz (CellsOf.lit (vs := [.int .i64 x15.Kind, .int .i64 x15.Num, S x15.Text, q23_0, q23_1]) rfl (ones.cons rfl (ones.cons rfl (ones.cons rfl (ones.cons ((SL.of_R hq23_0)).one1 (ones.cons ((SL.of_R hq23_1)).one1 ones.nil)))))) rfl lq rfl ?_)
     intro s25 st25 h24
     have := st25.size
     have hS := hS.c0 st25
     have hE17 := hE17.c0 st25
     have hE19 := hE19.c0 st25
     replace hq23_0 := hq23_0.up2 st25
     replace hq23_1 := hq23_1.up2 st25
     replace hq1_1 := hq1_1.up2 st25
     replace h1 := h1.up2 st25
     replace h20 := h20.up2 st25
     replace tb2 := tb2.up2 st25
     refine jAi (jAh [(0, _), (3, _), (4, _), (5, _), (6, _), (7, _), (43, _), (44, _), (45, _)] ⟨rfl, rfl, rfl, rfl, rfl, rfl, rfl, rfl, rfl, trivial⟩ (jAg ?_))
     obtain ⟨kj16, hK26, h⟩ := jn_out h
     have hE26 := Step.r0 (KC l0.o l0.c) s25
     refine jBp (X := St × (List UInt8) × Value) [(3, pZ b1), (4, .slice none 0 0), (5, S x8), (6, .int .i64 x14), (7, pZ b24), (43, q1_0), (44, .int .i64 (a1.List_.length : Int)), (45, .int .i64 x14)] (fun (xL : St × (List UInt8) × Value) => match xL with | (sl, x17, v27) => [(0, v27)]) (fun (xL : St × (List UInt8) × Value) (wL : World) => match xL with | (sl, x17, v27) => sl.w = wL ∧ Step (KC l0.o l0.c) s25 sl ∧ (Own sl ⟨l0.o, l0.c⟩ 5 1 v27 (x17.map bD)) ∧ kj16 x17 = some r) ?_ ?_
     ·
      refine jAg (jAa (jAc rfl rfl (jCu rfl rfl rfl (jAi (jAh [(0, _), (3, _), (4, _), (5, _), (6, _), (7, _), (43, _), (44, _), (45, _), (51, _)] ⟨rfl, rfl, rfl, rfl, rfl, rfl, rfl, rfl, rfl, rfl, trivial⟩ (jAl rfl (fun c28 => ?_) (fun c28 => ?_)))))))
      ·
       have h := itT h c28
       refine jAa (jAc rfl rfl (k_bslice2 (ds := ([(44 : UInt8)] : List UInt8).map bD) slc43 rfl (RVs.cons (R.val rfl) RVs.nil) (by rfl) (by rfl) rfl rfl ?_))
       intro s29 v29 b29 st29 ge29 bl29 h29
       have := st29.size
       have hS := hS.trans0 st29
       have hE17 := hE17.trans0 st29
       have hE19 := hE19.trans0 st29
       have hE26 := hE26.trans0 st29
       replace h20 := h20.up2 st29
       have lt29 := Own.le1 h29
       obtain ⟨x18, hx18, h⟩ := ob h
       refine k_append (es := ([(44 : UInt8)] : List UInt8).map bD) elem43 rfl rfl h20 (h29.sl) (by have := (jAm hx18).1; simp only [List.length_map] at *; omega) (by have := (jAm hx18).1; simp only [List.length_map] at *; omega) rfl ?_
       intro s30 v30 st30 h30
       rw [← List.map_append, ← (jAm hx18).2] at h30
       have := st30.size
       have hS := hS.c0 st30
       have hE17 := hE17.c0 st30
       have hE19 := hE19.c0 st30
       have hE26 := hE26.c0 st30
       exact jAd rfl rfl (jAi (jAu ⟨(s30, x18, v30), ⟨lr, trivial⟩, ⟨rfl, rfl, rfl, rfl, rfl, rfl, rfl, rfl, trivial⟩, ⟨rfl, hE26, h30, h⟩⟩))
      have h := itF h c28
      exact jAv (jAu ⟨(s25, x13, v20), ⟨lr, trivial⟩, ⟨rfl, rfl, rfl, rfl, rfl, rfl, rfl, rfl, trivial⟩, ⟨rfl, hE26, h20, h⟩⟩)
     rintro ⟨s31, x17, v27⟩ wL ⟨rfl, hE26, h27, h⟩
     rw [hK26] at h
     have := hE26.size
     have hS := hS.c0 hE26
     have hE17 := hE17.c0 hE26
     have hE19 := hE19.c0 hE26
     replace hq1_1 := hq1_1.up2 hE26
     replace h1 := h1.up2 hE26
     replace hq23_0 := hq23_0.up2 hE26
     replace hq23_1 := hq23_1.up2 hE26
     replace h24 := h24.up2 hE26
     replace tb2 := tb2.up2 hE26
     refine jAg (jAg (jAa (jAf fld29_0 rfl rfl (jAj one3 rfl h1 rfl rfl (jCc rfl rfl rfl (jAi (jAh [(0, _), (3, _), (4, _), (5, _), (6, _), (7, _), (43, _), (44, _), (45, _), (57, _)] ⟨rfl, rfl, rfl, rfl, rfl, rfl, rfl, rfl, rfl, rfl, trivial⟩ (jAl rfl (fun c32 => ?_) (fun c32 => ?_)))))))))
     ·
      have h := itT h c32
      refine jAa (jAc rfl rfl (jAf fld29_4 rfl rfl (jAj one27 rfl h1 rfl rfl (jAc rfl rfl ?_))))
      obtain ⟨x19, hx19, h⟩ := ob h
      refine jCd Tryz.underlying27 size9 rfl rfl (SL.of_R hq1_1) (jAk hx19).1 (jAr hx19) rfl ?_
      intro qx19 hqx19
      refine jAq one9 rfl hqx19 rfl ?_
      obtain ⟨x20, hx20, h⟩ := ob h
      refine jAp cal45 rfl (value_quoted_own_w  h27 la hx20) rfl ?_
      rintro s33 v33_0 st33 ⟨_, rfl, h33_0⟩
      have := st33.size
      have hS := hS.c0 st33
      have hE17 := hE17.c0 st33
      have hE19 := hE19.c0 st33
      replace hq23_0 := hq23_0.up2 st33
      replace hq23_1 := hq23_1.up2 st33
      replace h24 := h24.up2 st33
      replace tb2 := tb2.up2 st33
      refine k_bslice2 (ds := ([(58 : UInt8)] : List UInt8).map bD) slc43 rfl (RVs.cons (R.val rfl) RVs.nil) (by rfl) (by rfl) rfl rfl ?_
      intro s34 v34 b34 st34 ge34 bl34 h34
      have := st34.size
      have hS := hS.trans0 st34
      have hE17 := hE17.trans0 st34
      have hE19 := hE19.trans0 st34
      replace hq23_0 := hq23_0.up2 st34
      replace hq23_1 := hq23_1.up2 st34
      replace h24 := h24.up2 st34
      replace h33_0 := h33_0.up2 st34
      replace tb2 := tb2.up2 st34
      have lt34 := Own.le1 h34
      obtain ⟨x21, hx21, h⟩ := ob h
      refine k_append (es := ([(58 : UInt8)] : List UInt8).map bD) elem43 rfl rfl h33_0 (h34.sl) (by have := (jAm hx21).1; simp only [List.length_map] at *; omega) (by have := (jAm hx21).1; simp only [List.length_map] at *; omega) rfl ?_
      intro s35 v35 st35 h35
      rw [← List.map_append, ← (jAm hx21).2] at h35
      have := st35.size
      have hS := hS.c0 st35
      have hE17 := hE17.c0 st35
      have hE19 := hE19.c0 st35
      replace hq23_0 := hq23_0.up2 st35
      replace hq23_1 := hq23_1.up2 st35
      replace h24 := h24.up2 st35
      replace tb2 := tb2.up2 st35
      refine jAd rfl rfl (jAi (jAh [(0, _), (3, _), (4, _), (5, _), (7, _), (43, _), (44, _), (45, _)] ⟨rfl, rfl, rfl, rfl, rfl, rfl, rfl, rfl, trivial⟩ (jAa (jAc rfl rfl (jAs (cs := [.int .i64 x15.Kind, .int .i64 x15.Num, S x15.Text, q23_0, q23_1]) agg29 rfl h24 rfl ?_)))))
      obtain ⟨x22, hx22, h⟩ := ob h
      refine jAp cal29 rfl (ih70  h35 la (clsApiValue x15 hq23_0 hq23_1) tb2 hx22) rfl ?_
      rintro s36 v36_0 st36 ⟨_, rfl, h36_0⟩
      have := st36.size
      have hS := hS.c0 st36
      have hE17 := hE17.c0 st36
      have hE19 := hE19.c0 st36
      exact jAd rfl rfl (jAi (jCe (jAa (jBo rfl rfl rfl (jAc rfl rfl (jAi (jAu ⟨(s36, x22, v36_0, i64 (x14 + 1), j), ⟨lr, lr, trivial⟩, ⟨rfl, rfl, rfl, rfl, rfl, trivial⟩, ⟨rfl, hE19, h36_0, h⟩, (by simp)⟩)))))))
     have h := itF h c32
     refine jAv (jAa (jAc rfl rfl (jAs (cs := [.int .i64 x15.Kind, .int .i64 x15.Num, S x15.Text, q23_0, q23_1]) agg29 rfl h24 rfl ?_)))
     obtain ⟨x23, hx23, h⟩ := ob h
     refine jAp cal29 rfl (ih70  h27 la (clsApiValue x15 hq23_0 hq23_1) tb2 hx23) rfl ?_
     rintro s37 v37_0 st37 ⟨_, rfl, h37_0⟩
     have := st37.size
     have hS := hS.c0 st37
     have hE17 := hE17.c0 st37
     have hE19 := hE19.c0 st37
     exact jAd rfl rfl (jAi (jCe (jAa (jBo rfl rfl rfl (jAc rfl rfl (jAi (jAu ⟨(s37, x23, v37_0, i64 (x14 + 1), j), ⟨lr, lr, trivial⟩, ⟨rfl, rfl, rfl, rfl, rfl, trivial⟩, ⟨rfl, hE19, h37_0, h⟩, (by simp)⟩)))))))
    have h := itF h c22
    exact jBq rfl (jAu ⟨(s21, x13, v20), ⟨lr, trivial⟩, ⟨rfl, rfl, trivial⟩, ⟨rfl, hE17, h20, h⟩⟩)
   rintro ⟨s38, x12, v18⟩ wL ⟨rfl, hE17, h18, h⟩
   rw [hK17] at h
   have := hE17.size
   have hS := hS.c0 hE17
   refine jAg (jAa (jAc rfl rfl (jAc rfl rfl ?_)))
   obtain ⟨x24, hx24, h⟩ := ob h
   refine jBi Tryz.underlying9 rfl rfl (jAk hx24).1 (jAk hx24).2.1 rfl (k_as (congrArg (fun c : UInt8 => cB c) (jBs hx24)) (k_bslice2 (ds := ([x24] : List UInt8).map bD) slc43 rfl (RVs.cons (R.val rfl) RVs.nil) (by rfl) (by rfl) rfl rfl ?_))
   intro s39 v39 b39 st39 ge39 bl39 h39
   have := st39.size
   have hS := hS.trans0 st39
   replace h18 := h18.up2 st39
   have lt39 := Own.le1 h39
   obtain ⟨x25, hx25, h⟩ := ob h
   refine k_append (es := ([x24] : List UInt8).map bD) elem43 rfl rfl h18 (h39.sl) (by have := (jAm hx25).1; simp only [List.length_map] at *; omega) (by have := (jAm hx25).1; simp only [List.length_map] at *; omega) rfl ?_
   intro s40 v40 st40 h40
   rw [← List.map_append, ← (jAm hx25).2] at h40
   have := st40.size
   have hS := hS.c0 st40
   refine jAd rfl rfl (jAi (jAh [(0, _), (4, _)] ⟨rfl, rfl, trivial⟩ (jAx ?_)))
   obtain rfl := Option.some.inj h
   refine ⟨_, rfl, Ret.mk hS ?_⟩
   exact ⟨_, rfl, h40⟩
  have h := ibF h c14
  exact jAv (jCe (jAu ⟨s13, trivial, ⟨rfl, rfl, trivial⟩, ⟨rfl, hE2, h⟩⟩))
 rintro s41 wL ⟨rfl, hE2, h⟩
 rw [hK2] at h
 have := hE2.size
 have hS := hS.trans0 hE2
 replace hp0 := hp0.up2 hE2
 refine jAg (jAa (jAc rfl rfl ?_))
 obtain ⟨x26, hx26, h⟩ := ob h
 refine k_append_str elem43 rfl rfl Tryz.underlying9 rfl rfl hp0 (by have := (jAm hx26).1; simp only [List.length_map]; omega) rfl ?_
 intro s42 v42 st42 h42
 rw [← List.map_append, ← (jAm hx26).2] at h42
 have := st42.size
 have hS := hS.c0 st42
 refine jAd rfl rfl (jAi (jAh [(4, _)] ⟨rfl, trivial⟩ (jAx ?_)))
 obtain rfl := Option.some.inj h
 refine ⟨_, rfl, Ret.mk hS ?_⟩
 exact ⟨_, rfl, h42⟩
theorem value_text_rw (j : Nat) : ∀ {s : St} {l0 : Lab} {v0 : Value} {a0 : (List UInt8)} {cs1 : List Value} {a1 : ApiValue} {r : (List UInt8)} (hp0 : Own s l0 5 1 v0 (a0.map bD)) (hlle0 : l0.o ≤ s.n) (hp1 : RC s cs1 (dApiValue a1)) (tb2 : Tab2 s) (h : value_text_r j a0 a1 = some r), Calls Tryz.prog 29 #[v0, .agg cs1.toArray] s.w (Ret s (KC l0.o l0.c) (fun s1 v => ∃ (u0 : Value), v = u0 ∧ Own s1 l0 5 1 u0 (r.map bD))) := by
 induction j with
 | zero => intro s l0 v0 a0 cs1 a1 r hp0 hlle0 hp1 tb2 h; rw [value_text_r] at h; exact (noneNe h).elim
 | succ j ih => intro s l0 v0 a0 cs1 a1 r hp0 hlle0 hp1 tb2 h; rw [value_text_r] at h; exact value_text_own_s_w hp0 hlle0 hp1 tb2 ih h
theorem value_text_own_w {s : St} {l0 : Lab} {v0 : Value} {a0 : (List UInt8)} {cs1 : List Value} {a1 : ApiValue} {r : (List UInt8)} (hp0 : Own s l0 5 1 v0 (a0.map bD)) (hlle0 : l0.o ≤ s.n) (hp1 : RC s cs1 (dApiValue a1)) (tb2 : Tab2 s) (h : value_text a0 a1 = some r) : Calls Tryz.prog 29 #[v0, .agg cs1.toArray] s.w (Ret s (KC l0.o l0.c) (fun s1 v => ∃ (u0 : Value), v = u0 ∧ Own s1 l0 5 1 u0 (r.map bD))) := value_text_rw (FU + (dpApiValue a1)) hp0 hlle0 hp1 tb2 h
theorem strconv_AppendUint_nl_w {s : St} {a1 : UInt64} {a2 : Int} {r : (List UInt8)} (tb2 : Tab2 s) (h : strconv_AppendUint_nl a1 a2 = some r) : Calls Tryz.prog 91 #[.slice none 0 0, cW a1, .int .i64 a2] s.w (Ret s K0 (fun s1 v => ∃ (u0 : Value), v = u0 ∧ R s1 u0 (.sl 1 (r.map bD)))) := by
 unfold strconv_AppendUint_nl at h
 have hS := Step.r0 K0 s
 refine k_fn (rs := [6]) (args := [.slice none 0 0, cW a1, .int .i64 a2]) Tryz.func91 rfl rfl rfl rfl (jAg (jAa (jAd rfl rfl (jAi (jAg (jAg (jAa (jAc rfl rfl (jCc rfl rfl rfl (jAi (jAh [(0, _), (1, _), (2, _), (6, _), (10, _)] ⟨rfl, rfl, rfl, rfl, rfl, trivial⟩ (jAl rfl (fun c1 => ?_) (fun c1 => ?_)))))))))))))
 ·
  have h := itT h c1
  refine jAg (jAg (jAa (jAc rfl rfl (jBw rfl rfl rfl (jAi (jAh [(0, _), (1, _), (2, _), (6, _), (12, _)] ⟨rfl, rfl, rfl, rfl, rfl, trivial⟩ (jAl rfl (fun c2 => ?_) (fun c2 => ?_))))))))
  ·
   have h := itT h c2
   refine jAg (jAa (jAc rfl rfl (jAc rfl rfl (jBz (p := (a1.toNat : Int)) Tryz.underlying22 Tryz.underlying3 rfl rfl ?_))))
   by_cases c3 : 0 ≤ i64 (a1.toNat : Int) ∧ i64 (a1.toNat : Int) < 100
   case neg => exact (noneNe (itF h c3)).elim
   replace h := itT h c3
   refine jAp cal61 rfl (small_w (a0 := (i64 (a1.toNat : Int))) c3) rfl ?_
   rintro s4 _ st4 rfl
   have := st4.size
   have hS := hS.trans0 st4
   obtain ⟨x1, hx1, h⟩ := ob h
   refine k_append_str_nil 1017 elem43 rfl rfl Tryz.underlying9 rfl rfl (by have := (jAm hx1).1; omega) rfl ?_
   intro s5 v5 st5 h5
   rw [← List.nil_append (decF 30 (i64 (a1.toNat : Int)).toNat), ← (jAm hx1).2] at h5
   have := st5.size
   have hS := hS.trans0 st5
   refine jAd rfl rfl (jAi (jAh [(0, _), (1, _), (2, _), (6, _)] ⟨rfl, rfl, rfl, rfl, trivial⟩ (jAx ?_)))
   obtain ⟨s6, e6, st6, h6⟩ := h5.freeze
   rw [← e6]
   have := st6.size
   have hS := hS.c0 st6
   obtain rfl := Option.some.inj h
   refine ⟨_, rfl, Ret.mk hS ?_⟩
   exact ⟨_, rfl, h6⟩
  have h := itF h c2
  refine jAv (jAg (jAa (jBj zero92 rfl ?_)))
  intro s7 b7 st7 h7 ge7
  have := st7.size
  have hS := hS.trans0 st7
  replace tb2 := tb2.up2 st7
  have lt7 := h7.lt
  refine jAi (jAh [(0, _), (1, _), (2, _), (6, _), (7, _)] ⟨rfl, rfl, rfl, rfl, rfl, trivial⟩ (jAg (jAa (jAc rfl rfl ?_))))
  by_cases c8 : 1 ≤ a1.toNat
  case neg => exact (noneNe (itF h c8)).elim
  replace h := itT h c8
  refine jAp cal62 rfl (numDigits_w (a0 := a1) tb2 c8) rfl ?_
  rintro s9 _ st9 rfl
  have := st9.size
  have hS := hS.trans0 st9
  replace h7 := h7.up2 st9
  refine jAd rfl rfl (jAi (jAh [(0, _), (1, _), (2, _), (6, _), (7, _), (8, _)] ⟨rfl, rfl, rfl, rfl, rfl, rfl, trivial⟩ (jAg (jAa (jAc rfl rfl ?_)))))
  by_cases c11 : 0 ≤ ((decF 30 a1.toNat).length : Int) ∧ ((decF 30 a1.toNat).length : Int) ≤ 24
  case neg => exact (noneNe (itF h c11)).elim
  replace h := itT h c11
  have hj10 : (((decF 30 a1.toNat).length : Int) : Int).toNat ≤ (List.replicate 24 (0 : UInt8)).length := by have hq : (List.replicate 24 (0 : UInt8)).length = 24 := (List.length_replicate); omega
  refine jCs (g := bD) (xs := (List.replicate 24 (0 : UInt8))) (j := (((decF 30 a1.toNat).length : Int) : Int).toNat) cB (fun _ => rfl) (fun _ => rfl) arr92 rfl h7 (List.length_replicate) (CutAt.int rfl c11.1) (by omega) rfl ?_
  intro h12
  refine jAc rfl rfl ?_
  by_cases c14 : (decF 30 a1.toNat).length = (((decF 30 a1.toNat).length : Int) : Int).toNat ∧ (((decF 30 a1.toNat).length : Int) : Int).toNat < 1000
  case neg => exact (noneNe (itF h c14)).elim
  replace h := itT h c14
  refine jAp cal63 rfl (fmt10_w (xs := (List.replicate 24 (0 : UInt8))) (a1 := a1) h7 lz hj10 c14) rfl ?_
  rintro s13 _ st13 ⟨rfl, h7⟩
  have hl13 : (decF 30 a1.toNat ++ (List.replicate 24 (0 : UInt8)).drop (((decF 30 a1.toNat).length : Int) : Int).toNat).length = 24 := by have hq := hj10; have hq2 : (List.replicate 24 (0 : UInt8)).length = 24 := (List.length_replicate); rw [List.length_append, List.length_drop, c14.1]; omega
  have := st13.size
  have hS := hS.c0 st13
  refine jAi (jAh [(0, _), (1, _), (2, _), (6, _), (7, _), (8, _)] ⟨rfl, rfl, rfl, rfl, rfl, rfl, trivial⟩ (jAg (jAa (jAc rfl rfl (jAc rfl rfl ?_)))))
  by_cases c16 : 0 ≤ ((decF 30 a1.toNat).length : Int) ∧ ((decF 30 a1.toNat).length : Int) ≤ 24
  case neg => exact (noneNe (itF h c16)).elim
  replace h := itT h c16
  have hj15 : (((decF 30 a1.toNat).length : Int) : Int).toNat ≤ (decF 30 a1.toNat ++ (List.replicate 24 (0 : UInt8)).drop (((decF 30 a1.toNat).length : Int) : Int).toNat).length := by have hq : (decF 30 a1.toNat ++ (List.replicate 24 (0 : UInt8)).drop (((decF 30 a1.toNat).length : Int) : Int).toNat).length = 24 := hl13; omega
  refine jCs (g := bD) (xs := (decF 30 a1.toNat ++ (List.replicate 24 (0 : UInt8)).drop (((decF 30 a1.toNat).length : Int) : Int).toNat)) (j := (((decF 30 a1.toNat).length : Int) : Int).toNat) cB (fun _ => rfl) (fun _ => rfl) arr92 rfl h7 hl13 (CutAt.int rfl c16.1) (by omega) rfl ?_
  intro h17
  obtain ⟨x2, hx2, h⟩ := ob h
  refine k_append_nil (es := ((decF 30 a1.toNat ++ (List.replicate 24 (0 : UInt8)).drop (((decF 30 a1.toNat).length : Int) : Int).toNat).take (((decF 30 a1.toNat).length : Int) : Int).toNat).map bD) 1027 elem43 rfl rfl h17 (by have := (jAm hx2).1; simp only [List.length_map, List.length_nil] at *; omega) (by have := (jAm hx2).1; simp only [List.length_map, List.length_nil] at *; omega) rfl ?_
  intro s18 v18 st18 h18
  rw [← List.nil_append (((decF 30 a1.toNat ++ (List.replicate 24 (0 : UInt8)).drop (((decF 30 a1.toNat).length : Int) : Int).toNat).take (((decF 30 a1.toNat).length : Int) : Int).toNat)), ← (jAm hx2).2] at h18
  have := st18.size
  have hS := hS.trans0 st18
  refine jAd rfl rfl (jAi (jAh [(0, _), (1, _), (2, _), (6, _)] ⟨rfl, rfl, rfl, rfl, trivial⟩ (jAx ?_)))
  obtain ⟨s19, e19, st19, h19⟩ := h18.freeze
  rw [← e19]
  have := st19.size
  have hS := hS.c0 st19
  obtain rfl := Option.some.inj h
  refine ⟨_, rfl, Ret.mk hS ?_⟩
  exact ⟨_, rfl, h19⟩
 have h := itF h c1
 refine jAv (jAg (jAa (jAc rfl rfl (jAc rfl rfl (jAc rfl rfl ?_)))))
 by_cases c20 : (0 : Nat) = 1
 case neg => exact (noneNe (itF h c20)).elim
 replace h := itT h c20
 refine jAp cal64 rfl (show Calls Tryz.prog 64 #[.slice none 0 0, cW a1, .int .i64 a2, .bool false, .bool true] s.w (Ret s K0 (fun _ v => v = .tuple #[.slice none 0 0, S ([] : List UInt8)])) from absurd c20 (by decide)) rfl ?_
 rintro s21 _ st21 rfl
 have := st21.size
 have hS := hS.trans0 st21
 refine jAc rfl rfl (jBd rfl rfl rfl (jBd rfl rfl rfl (jAd rfl rfl (jAi (jAh [(0, _), (6, _)] ⟨rfl, rfl, trivial⟩ (jAg (jAa (jAc rfl rfl (jAd rfl rfl (jAi (jAh [(6, _)] ⟨rfl, trivial⟩ (jAx ?_))))))))))))
 obtain rfl := Option.some.inj h
 refine ⟨_, rfl, Ret.mk hS ?_⟩
 exact ⟨_, rfl, (R.of_SL (.inl ⟨rfl, none, 0, rfl, fun _ => rfl⟩))⟩
theorem strconv_AppendInt_nl_w {s : St} {a1 : Int} {a2 : Int} {r : (List UInt8)} (tb2 : Tab2 s) (h : strconv_AppendInt_nl a1 a2 = some r) : Calls Tryz.prog 70 #[.slice none 0 0, .int .i64 a1, .int .i64 a2] s.w (Ret s K0 (fun s1 v => ∃ (u0 : Value), v = u0 ∧ R s1 u0 (.sl 1 (r.map bD)))) := by
 unfold strconv_AppendInt_nl at h
 have hS := Step.r0 K0 s
 refine k_fn (rs := [6]) (args := [.slice none 0 0, .int .i64 a1, .int .i64 a2]) Tryz.func70 rfl rfl rfl rfl (jAg (jAa (jAd rfl rfl (jAi (jAg (jAa (jAc rfl rfl (jBz (p := a1) Tryz.underlying2 Tryz.underlying22 rfl rfl (k_as (congrArg (Value.int .u64) (w64 _)) (jAd rfl rfl (jAi (jAh [(0, _), (1, _), (2, _), (6, _), (7, _)] ⟨rfl, rfl, rfl, rfl, rfl, trivial⟩ (jAg (jAg (jAa (jAc rfl rfl (jBw rfl rfl rfl (jAi (jAh [(0, _), (2, _), (6, _), (7, _), (11, _)] ⟨rfl, rfl, rfl, rfl, rfl, trivial⟩ (jAl rfl (fun c1 => ?_) (fun c1 => ?_)))))))))))))))))))))
 ·
  have h := itT h c1
  refine jAg (jAa (jAc rfl rfl (k_bslice2 (ds := ([(45 : UInt8)] : List UInt8).map bD) slc43 rfl (RVs.cons (R.val rfl) RVs.nil) (by rfl) (by rfl) rfl rfl ?_)))
  intro s2 v2 b2 st2 ge2 bl2 h2
  have := st2.size
  have hS := hS.trans0 st2
  replace tb2 := tb2.up2 st2
  have lt2 := Own.le1 h2
  obtain ⟨x1, hx1, h⟩ := ob h
  refine k_append_nil (es := ([(45 : UInt8)] : List UInt8).map bD) 1014 elem43 rfl rfl (h2.sl) (by have := (jAm hx1).1; simp only [List.length_map, List.length_nil] at *; omega) (by have := (jAm hx1).1; simp only [List.length_map, List.length_nil] at *; omega) rfl ?_
  intro s3 v3 st3 h3
  rw [← List.nil_append (([(45 : UInt8)] : List UInt8)), ← (jAm hx1).2] at h3
  have := st3.size
  have hS := hS.trans0 st3
  replace tb2 := tb2.up2 st3
  have lq3 : s2.n + 1 ≤ s3.n := Own.le_ne h3 (fun e_ => app_ne hx1 (by simp) (List.map_eq_nil_iff.1 e_))
  refine jAd rfl rfl (jAi (jAh [(0, _), (2, _), (6, _), (7, _)] ⟨rfl, rfl, rfl, rfl, trivial⟩ (jAa (jAc rfl rfl (k_neg rfl rfl (k_as (congrArg (Value.int .u64) (w64 _)) (jAd rfl rfl (jAi (jAh [(0, _), (2, _), (6, _), (7, _)] ⟨rfl, rfl, rfl, rfl, trivial⟩ (jAg (jAa (jAc rfl rfl (jAc rfl rfl (jAc rfl rfl ?_))))))))))))))
  obtain ⟨x2, hx2, h⟩ := ob h
  refine jAp cal91 rfl (strconv_AppendUint_w  h3 la tb2 hx2) rfl ?_
  rintro s4 v4_0 st4 ⟨_, rfl, h4_0⟩
  have := st4.size
  have hS := hS.c0 st4
  refine jAd rfl rfl (jAi (jAh [(6, _)] ⟨rfl, trivial⟩ (jAx ?_)))
  obtain rfl := Option.some.inj h
  refine ⟨_, rfl, Ret.mk hS ?_⟩
  exact ⟨_, rfl, h4_0⟩
 have h := itF h c1
 refine jAv (jAg (jAa (jAc rfl rfl (jAc rfl rfl (jAc rfl rfl ?_)))))
 obtain ⟨x3, hx3, h⟩ := ob h
 refine jAp cal91 rfl (strconv_AppendUint_nl_w  tb2 hx3) rfl ?_
 rintro s5 v5_0 st5 ⟨_, rfl, h5_0⟩
 have := st5.size
 have hS := hS.trans0 st5
 refine jAd rfl rfl (jAi (jAh [(6, _)] ⟨rfl, trivial⟩ (jAx ?_)))
 obtain rfl := Option.some.inj h
 refine ⟨_, rfl, Ret.mk hS ?_⟩
 exact ⟨_, rfl, h5_0⟩
theorem strconv_AppendInt_nl_p_w {s : St} {a1 : Int} {a2 : Int} {r : (List UInt8)} (tb2 : Tab2 s) (h : strconv_AppendInt_nl_p a1 a2 = some r) : Calls Tryz.prog 44 #[.slice none 0 0, .int .i64 a1, .int .i64 a2] s.w (Ret s K0 (fun s1 v => ∃ (u0 : Value), v = u0 ∧ R s1 u0 (.sl 1 (r.map bD)))) := by
 unfold strconv_AppendInt_nl_p at h
 have hS := Step.r0 K0 s
 refine k_fn (rs := [6]) (args := [.slice none 0 0, .int .i64 a1, .int .i64 a2]) Tryz.func44 rfl rfl rfl rfl (jAg (jAa (jAd rfl rfl (jAi (jAg (jAa (jAc rfl rfl (jAc rfl rfl (jAc rfl rfl ?_)))))))))
 obtain ⟨x1, hx1, h⟩ := ob h
 refine jAp cal70 rfl (strconv_AppendInt_nl_w  tb2 hx1) rfl ?_
 rintro s1 v1_0 st1 ⟨_, rfl, h1_0⟩
 have := st1.size
 have hS := hS.trans0 st1
 refine jAd rfl rfl (jAi (jAh [(6, _)] ⟨rfl, trivial⟩ (jAx ?_)))
 obtain rfl := Option.some.inj h
 refine ⟨_, rfl, Ret.mk hS ?_⟩
 exact ⟨_, rfl, h1_0⟩
theorem value_quoted_nl_w {s : St} {a1 : (List UInt8)} {r : (List UInt8)}  (h : value_quoted_nl a1 = some r) : Calls Tryz.prog 45 #[.slice none 0 0, S a1] s.w (Ret s K0 (fun s1 v => ∃ (u0 : Value), v = u0 ∧ R s1 u0 (.sl 1 (r.map bD)))) := by
 unfold value_quoted_nl at h
 have hS := Step.r0 K0 s
 refine k_fn (rs := [4]) (args := [.slice none 0 0, S a1]) Tryz.func45 rfl rfl rfl rfl (jAg (jAa (jAd rfl rfl (jAi (jAg (jAa (jAc rfl rfl (k_bslice2 (ds := ([(34 : UInt8)] : List UInt8).map bD) slc43 rfl (RVs.cons (R.val rfl) RVs.nil) (by rfl) (by rfl) rfl rfl ?_))))))))
 intro s1 v1 b1 st1 ge1 bl1 h1
 have := st1.size
 have hS := hS.trans0 st1
 have lt1 := Own.le1 h1
 obtain ⟨x1, hx1, h⟩ := ob h
 refine k_append_nil (es := ([(34 : UInt8)] : List UInt8).map bD) 1008 elem43 rfl rfl (h1.sl) (by have := (jAm hx1).1; simp only [List.length_map, List.length_nil] at *; omega) (by have := (jAm hx1).1; simp only [List.length_map, List.length_nil] at *; omega) rfl ?_
 intro s2 v2 st2 h2
 rw [← List.nil_append (([(34 : UInt8)] : List UInt8)), ← (jAm hx1).2] at h2
 have := st2.size
 have hS := hS.trans0 st2
 have lq2 : s1.n + 1 ≤ s2.n := Own.le_ne h2 (fun e_ => app_ne hx1 (by simp) (List.map_eq_nil_iff.1 e_))
 refine jAd rfl rfl (jAi (jAh [(0, _), (1, _), (4, _)] ⟨rfl, rfl, rfl, trivial⟩ (jAg ?_)))
 obtain ⟨kj2, hK3, h⟩ := jn_out h
 have hE3 := Step.r0 (KC (s1.n + 1) 1008) s2
 refine jBp (X := St × (List UInt8) × Value) [(4, .slice none 0 0)] (fun (xL : St × (List UInt8) × Value) => match xL with | (sl, x3, v4) => [(0, v4)]) (fun (xL : St × (List UInt8) × Value) (wL : World) => match xL with | (sl, x3, v4) => sl.w = wL ∧ Step (KC (s1.n + 1) 1008) s2 sl ∧ (Own sl ⟨s1.n + 1, 1008⟩ 5 1 v4 (x3.map bD)) ∧ kj2 x3 = some r) ?_ ?_
 ·
  refine jAg (jAa (jAc rfl rfl (jCf Tryz.underlying9 rfl rfl (jAc rfl rfl (jAi (jAh [(0, _), (1, _), (4, _), (10, _), (11, _)] ⟨rfl, rfl, rfl, rfl, rfl, trivial⟩ (jAw (jBr (X := St × (List UInt8) × Value × Int × Nat) [(1, _), (4, _), (10, _)] (fun (xL : St × (List UInt8) × Value × Int × Nat) => match xL with | (sl, x4, v6, x5, j) => [(0, v6), (11, .int .i64 x5)]) (fun (xL : St × (List UInt8) × Value × Int × Nat) (wL : World) => match xL with | (sl, x4, v6, x5, j) => sl.w = wL ∧ Step (KC (s1.n + 1) 1008) s2 sl ∧ (Own sl ⟨s1.n + 1, 1008⟩ 5 1 v6 (x4.map bD)) ∧ value_quoted_nl_l1 a1 kj2 j x4 x5 = some r) (fun (xL : St × (List UInt8) × Value × Int × Nat) => match xL with | (sl, x4, v6, x5, j) => j) (s2, x1, v2, 0, FU) ⟨rfl, rfl, rfl, trivial⟩ ⟨lr, lr, trivial⟩ ⟨rfl, (Step.refl _).of0 li, h2, h⟩ ?_))))))))
  rintro ⟨s7, x4, v6, x5, j⟩ wL ⟨rfl, hE5, h6, h⟩
  cases j with
  | zero => rw [value_quoted_nl_l1] at h; exact (noneNe h).elim
  | succ j =>
  rw [value_quoted_nl_l1] at h
  have := hE5.size
  have hS := hS.c0 hE5
  have hE3 := hE3.c0 hE5
  refine jAg (jAa (jBw rfl rfl rfl (jAi (jAg (jAl rfl (fun c8 => ?_) (fun c8 => ?_))))))
  ·
   have h := itT h c8
   refine jAv (jAg (jAw (jAg (jAa (jAc rfl rfl (jAd rfl rfl (jAi (jAh [(0, _), (1, _), (4, _), (5, _), (10, _), (11, _)] ⟨rfl, rfl, rfl, rfl, rfl, rfl, trivial⟩ (jAg ?_)))))))))
   obtain ⟨kj6, hK9, h⟩ := jn_out h
   have hE9 := Step.r0 (KC (s1.n + 1) 1008) s7
   refine jBp (X := St × (List UInt8) × Value) [(1, S a1), (4, .slice none 0 0), (5, .int .i64 x5), (10, .int .i64 (a1.length : Int)), (11, .int .i64 x5)] (fun (xL : St × (List UInt8) × Value) => match xL with | (sl, x7, v10) => [(0, v10)]) (fun (xL : St × (List UInt8) × Value) (wL : World) => match xL with | (sl, x7, v10) => sl.w = wL ∧ Step (KC (s1.n + 1) 1008) s7 sl ∧ (Own sl ⟨s1.n + 1, 1008⟩ 5 1 v10 (x7.map bD)) ∧ kj6 x7 = some r) ?_ ?_
   ·
    refine jAg (jAa (jAc rfl rfl (jAc rfl rfl ?_)))
    obtain ⟨x8, hx8, h⟩ := ob h
    refine jBi Tryz.underlying9 rfl rfl (jAk hx8).1 (jAk hx8).2.1 rfl (k_as (congrArg (fun c : UInt8 => cB c) (jBs hx8)) (jCc rfl rfl rfl (jAc rfl rfl ?_)))
    obtain ⟨x9, hx9, h⟩ := ob h
    have hE11 := Step.r0 K0 s7
    refine jBm (X := St) 5 [(0, v6), (1, S a1), (4, .slice none 0 0), (5, .int .i64 x5), (10, .int .i64 (a1.length : Int)), (11, .int .i64 x5), (14, S a1), (15, .int .i64 x5), (16, cB x8), (17, .bool (decide ((x8.toNat : Int) = 34)))] (fun _ => [(23, .bool x9)]) (fun sl wL => sl.w = wL ∧ Step K0 s7 sl) ?_ ?_
    ·
     refine jBb 18 rfl (jBh (fun c12 => ?_) (fun c12 => ?_))
     ·
      have hx9 := itT hx9 c12
      exact k_no rfl rfl rfl rfl (k_no rfl rfl rfl rfl (k_no rfl rfl rfl rfl (k_no rfl rfl rfl rfl (jAz rfl rfl rfl rfl (jBc ⟨s7, ⟨(congrArg (fun b => some (Value.bool b)) (Option.some.inj hx9)), trivial⟩, ⟨rfl, rfl, rfl, rfl, rfl, rfl, rfl, rfl, rfl, rfl, trivial⟩, rfl, hE11⟩)))))
     have hx9 := itF hx9 c12
     refine jAn rfl rfl (jAc rfl rfl (jAn rfl rfl (jAc rfl rfl (jAn rfl rfl ?_))))
     obtain ⟨x10, hx10, hx9⟩ := ob hx9
     exact jBi Tryz.underlying9 rfl rfl (jAk hx10).1 (jAk hx10).2.1 rfl (k_as (congrArg (fun c : UInt8 => cB c) (jBs hx10)) (jAn rfl rfl (jCc rfl rfl rfl (jAy rfl rfl rfl rfl (jBc ⟨s7, ⟨(congrArg (fun b => some (Value.bool b)) (Option.some.inj hx9)), trivial⟩, ⟨rfl, rfl, rfl, rfl, rfl, rfl, rfl, rfl, rfl, rfl, trivial⟩, rfl, hE11⟩)))))
    rintro s13 wL ⟨rfl, hE11⟩
    have := hE11.size
    have hS := hS.trans0 hE11
    have hE3 := hE3.trans0 hE11
    have hE5 := hE5.trans0 hE11
    have hE9 := hE9.trans0 hE11
    replace h6 := h6.up2 hE11
    refine jAi (jAh [(0, _), (1, _), (4, _), (5, _), (10, _), (11, _), (23, _)] ⟨rfl, rfl, rfl, rfl, rfl, rfl, rfl, trivial⟩ (jCk rfl (fun c14 => ?_) (fun c14 => ?_)))
    ·
     have h := ibT h c14
     refine jAa (jAc rfl rfl (k_bslice2 (ds := ([(92 : UInt8)] : List UInt8).map bD) slc43 rfl (RVs.cons (R.val rfl) RVs.nil) (by rfl) (by rfl) rfl rfl ?_))
     intro s15 v15 b15 st15 ge15 bl15 h15
     have := st15.size
     have hS := hS.trans0 st15
     have hE3 := hE3.trans0 st15
     have hE5 := hE5.trans0 st15
     have hE9 := hE9.trans0 st15
     replace h6 := h6.up2 st15
     have lt15 := Own.le1 h15
     obtain ⟨x11, hx11, h⟩ := ob h
     refine k_append (es := ([(92 : UInt8)] : List UInt8).map bD) elem43 rfl rfl h6 (h15.sl) (by have := (jAm hx11).1; simp only [List.length_map] at *; omega) (by have := (jAm hx11).1; simp only [List.length_map] at *; omega) rfl ?_
     intro s16 v16 st16 h16
     rw [← List.map_append, ← (jAm hx11).2] at h16
     have := st16.size
     have hS := hS.c0 st16
     have hE3 := hE3.c0 st16
     have hE5 := hE5.c0 st16
     have hE9 := hE9.c0 st16
     exact jAd rfl rfl (jAi (jAu ⟨(s16, x11, v16), ⟨lr, trivial⟩, ⟨rfl, rfl, rfl, rfl, rfl, trivial⟩, ⟨rfl, hE9, h16, h⟩⟩))
    have h := ibF h c14
    exact jAv (jAu ⟨(s13, x4, v6), ⟨lr, trivial⟩, ⟨rfl, rfl, rfl, rfl, rfl, trivial⟩, ⟨rfl, hE9, h6, h⟩⟩)
   rintro ⟨s17, x7, v10⟩ wL ⟨rfl, hE9, h10, h⟩
   rw [hK9] at h
   have := hE9.size
   have hS := hS.c0 hE9
   have hE3 := hE3.c0 hE9
   have hE5 := hE5.c0 hE9
   refine jAa (jAc rfl rfl (jAc rfl rfl (jAc rfl rfl ?_)))
   obtain ⟨x12, hx12, h⟩ := ob h
   refine jBi Tryz.underlying9 rfl rfl (jAk hx12).1 (jAk hx12).2.1 rfl (k_as (congrArg (fun c : UInt8 => cB c) (jBs hx12)) (k_bslice2 (ds := ([x12] : List UInt8).map bD) slc43 rfl (RVs.cons (R.val rfl) RVs.nil) (by rfl) (by rfl) rfl rfl ?_))
   intro s18 v18 b18 st18 ge18 bl18 h18
   have := st18.size
   have hS := hS.trans0 st18
   have hE3 := hE3.trans0 st18
   have hE5 := hE5.trans0 st18
   replace h10 := h10.up2 st18
   have lt18 := Own.le1 h18
   obtain ⟨x13, hx13, h⟩ := ob h
   refine k_append (es := ([x12] : List UInt8).map bD) elem43 rfl rfl h10 (h18.sl) (by have := (jAm hx13).1; simp only [List.length_map] at *; omega) (by have := (jAm hx13).1; simp only [List.length_map] at *; omega) rfl ?_
   intro s19 v19 st19 h19
   rw [← List.map_append, ← (jAm hx13).2] at h19
   have := st19.size
   have hS := hS.c0 st19
   have hE3 := hE3.c0 st19
   have hE5 := hE5.c0 st19
   exact jAd rfl rfl (jAi (jCe (jAa (jBo rfl rfl rfl (jAc rfl rfl (jAi (jAu ⟨(s19, x13, v19, i64 (x5 + 1), j), ⟨lr, lr, trivial⟩, ⟨rfl, rfl, rfl, trivial⟩, ⟨rfl, hE5, h19, h⟩, (by simp)⟩)))))))
  have h := itF h c8
  exact jBq rfl (jAu ⟨(s7, x4, v6), ⟨lr, trivial⟩, ⟨rfl, trivial⟩, ⟨rfl, hE3, h6, h⟩⟩)
 rintro ⟨s20, x3, v4⟩ wL ⟨rfl, hE3, h4, h⟩
 rw [hK3] at h
 have := hE3.size
 have hS := hS.c0 hE3
 refine jAg (jAa (jAc rfl rfl (k_bslice2 (ds := ([(34 : UInt8)] : List UInt8).map bD) slc43 rfl (RVs.cons (R.val rfl) RVs.nil) (by rfl) (by rfl) rfl rfl ?_)))
 intro s21 v21 b21 st21 ge21 bl21 h21
 have := st21.size
 have hS := hS.trans0 st21
 replace h4 := h4.up2 st21
 have lt21 := Own.le1 h21
 obtain ⟨x14, hx14, h⟩ := ob h
 refine k_append (es := ([(34 : UInt8)] : List UInt8).map bD) elem43 rfl rfl h4 (h21.sl) (by have := (jAm hx14).1; simp only [List.length_map] at *; omega) (by have := (jAm hx14).1; simp only [List.length_map] at *; omega) rfl ?_
 intro s22 v22 st22 h22
 rw [← List.map_append, ← (jAm hx14).2] at h22
 have := st22.size
 have hS := hS.c0 st22
 refine jAd rfl rfl (jAi (jAh [(4, _)] ⟨rfl, trivial⟩ (jAx ?_)))
 obtain ⟨s23, e23, st23, h23⟩ := h22.freeze
 rw [← e23]
 have := st23.size
 have hS := hS.c0 st23
 obtain rfl := Option.some.inj h
 refine ⟨_, rfl, Ret.mk hS ?_⟩
 exact ⟨_, rfl, h23⟩
theorem value_text_nl_w {s : St} {cs1 : List Value} {a1 : ApiValue} {r : (List UInt8)} (hp1 : RC s cs1 (dApiValue a1)) (tb2 : Tab2 s) (h : value_text_nl a1 = some r) : Calls Tryz.prog 29 #[.slice none 0 0, .agg cs1.toArray] s.w (Ret s K0 (fun s1 v => ∃ (u0 : Value), v = u0 ∧ R s1 u0 (.sl 1 (r.map bD)))) := by
 unfold value_text_nl at h
 obtain ⟨q1_0, q1_1, rfl, hq1_0, hq1_1⟩ := opnApiValue hp1
 have hS := Step.r0 K0 s
 refine k_fn (rs := [4]) (args := [.slice none 0 0, .agg #[.int .i64 a1.Kind, .int .i64 a1.Num, S a1.Text, q1_0, q1_1]]) Tryz.func29 rfl rfl rfl rfl (jAg (jAa (jCp rfl rfl ?_)))
 intro s1 b1 st1 h1 ge1
 have := st1.size
 have hS := hS.trans0 st1
 replace hq1_0 := hq1_0.up2 st1
 replace hq1_1 := hq1_1.up2 st1
 replace tb2 := tb2.up2 st1
 have lt1 := h1.lt
 refine jAd rfl rfl (jAi (jAh [(0, _), (3, _), (4, _)] ⟨rfl, rfl, rfl, trivial⟩ (jAg ?_)))
 obtain ⟨kj1, hK2, h⟩ := jn_out h
 have hE2 := Step.r0 K0 s1
 refine jBp (X := St) [(0, .slice none 0 0), (4, .slice none 0 0)] (fun (xL : St) => match xL with | sl => []) (fun (xL : St) (wL : World) => match xL with | sl => sl.w = wL ∧ Step K0 s1 sl ∧ kj1 () = some r) ?_ ?_
 ·
  refine jAg (jAa (jAf fld29_0 rfl rfl (jAj one3 rfl h1 rfl rfl (jAi (jAh [(0, _), (3, _), (4, _), (9, _)] ⟨rfl, rfl, rfl, rfl, trivial⟩ (jAw (jAg (jAa (jCc rfl rfl rfl (jAd rfl rfl (jAi (jAh [(0, _), (3, _), (4, _), (9, _), (10, _)] ⟨rfl, rfl, rfl, rfl, rfl, trivial⟩ (jAl rfl (fun c3 => ?_) (fun c3 => ?_))))))))))))))
  ·
   have h := itT h c3
   refine jAg (jAa (jAc rfl rfl ?_))
   obtain ⟨x2, hx2, h⟩ := ob h
   refine k_append_str_nil 1013 elem43 rfl rfl Tryz.underlying9 rfl rfl (by have := (jAm hx2).1; omega) rfl ?_
   intro s4 v4 st4 h4
   rw [← List.nil_append ([102, 97, 108, 115, 101] : List UInt8), ← (jAm hx2).2] at h4
   have := st4.size
   have hS := hS.trans0 st4
   have hE2 := hE2.trans0 st4
   have lq4 : s1.n + 1 ≤ s4.n := Own.le_ne h4 (fun e_ => app_ne hx2 (by simp) (List.map_eq_nil_iff.1 e_))
   refine jAd rfl rfl (jAi (jAh [(0, _), (4, _)] ⟨rfl, rfl, trivial⟩ (jAx ?_)))
   obtain ⟨s5, e5, st5, h5⟩ := h4.freeze
   rw [← e5]
   have := st5.size
   have hS := hS.c0 st5
   have hE2 := hE2.c0 st5
   obtain rfl := Option.some.inj h
   refine ⟨_, rfl, Ret.mk hS ?_⟩
   exact ⟨_, rfl, h5⟩
  have h := itF h c3
  refine jAg (jAa (jCc rfl rfl rfl (jAd rfl rfl (jAi (jAh [(0, _), (3, _), (4, _), (9, _), (14, _)] ⟨rfl, rfl, rfl, rfl, rfl, trivial⟩ (jAl rfl (fun c6 => ?_) (fun c6 => ?_)))))))
  ·
   have h := itT h c6
   refine jAg (jAa (jAc rfl rfl ?_))
   obtain ⟨x3, hx3, h⟩ := ob h
   refine k_append_str_nil 1017 elem43 rfl rfl Tryz.underlying9 rfl rfl (by have := (jAm hx3).1; omega) rfl ?_
   intro s7 v7 st7 h7
   rw [← List.nil_append ([116, 114, 117, 101] : List UInt8), ← (jAm hx3).2] at h7
   have := st7.size
   have hS := hS.trans0 st7
   have hE2 := hE2.trans0 st7
   have lq7 : s1.n + 1 ≤ s7.n := Own.le_ne h7 (fun e_ => app_ne hx3 (by simp) (List.map_eq_nil_iff.1 e_))
   refine jAd rfl rfl (jAi (jAh [(0, _), (4, _)] ⟨rfl, rfl, trivial⟩ (jAx ?_)))
   obtain ⟨s8, e8, st8, h8⟩ := h7.freeze
   rw [← e8]
   have := st8.size
   have hS := hS.c0 st8
   have hE2 := hE2.c0 st8
   obtain rfl := Option.some.inj h
   refine ⟨_, rfl, Ret.mk hS ?_⟩
   exact ⟨_, rfl, h8⟩
  have h := itF h c6
  refine jAg (jAa (jCc rfl rfl rfl (jAd rfl rfl (jAi (jAh [(0, _), (3, _), (4, _), (9, _), (18, _)] ⟨rfl, rfl, rfl, rfl, rfl, trivial⟩ (jAl rfl (fun c9 => ?_) (fun c9 => ?_)))))))
  ·
   have h := itT h c9
   refine jAg (jAa (jAc rfl rfl (jAf fld29_1 rfl rfl (jAj one2 rfl h1 rfl rfl ?_))))
   obtain ⟨x4, hx4, h⟩ := ob h
   refine jAp cal44 rfl (strconv_AppendInt_nl_p_w  tb2 hx4) rfl ?_
   rintro s10 v10_0 st10 ⟨_, rfl, h10_0⟩
   have := st10.size
   have hS := hS.trans0 st10
   have hE2 := hE2.trans0 st10
   refine jAd rfl rfl (jAi (jAh [(0, _), (4, _)] ⟨rfl, rfl, trivial⟩ (jAx ?_)))
   obtain rfl := Option.some.inj h
   refine ⟨_, rfl, Ret.mk hS ?_⟩
   exact ⟨_, rfl, h10_0⟩
  have h := itF h c9
  refine jAg (jAa (jCc rfl rfl rfl (jAd rfl rfl (jAi (jAh [(0, _), (3, _), (4, _), (9, _), (24, _)] ⟨rfl, rfl, rfl, rfl, rfl, trivial⟩ (jAl rfl (fun c11 => ?_) (fun c11 => ?_)))))))
  ·
   have h := itT h c11
   refine jAg (jAa (jAc rfl rfl (jAf fld29_2 rfl rfl (jAj one9 rfl h1 rfl rfl ?_))))
   obtain ⟨x5, hx5, h⟩ := ob h
   refine jAp cal45 rfl (value_quoted_nl_w   hx5) rfl ?_
   rintro s12 v12_0 st12 ⟨_, rfl, h12_0⟩
   have := st12.size
   have hS := hS.trans0 st12
   have hE2 := hE2.trans0 st12
   refine jAd rfl rfl (jAi (jAh [(0, _), (4, _)] ⟨rfl, rfl, trivial⟩ (jAx ?_)))
   obtain rfl := Option.some.inj h
   refine ⟨_, rfl, Ret.mk hS ?_⟩
   exact ⟨_, rfl, h12_0⟩
  have h := itF h c11
  refine jAg (jAh [(0, _), (3, _), (4, _), (9, _)] ⟨rfl, rfl, rfl, rfl, trivial⟩ ?_)
  obtain ⟨kj6, hK13, h⟩ := jn_out h
  have hE13 := Step.r0 K0 s1
  refine jBp (X := St × Bool) [(0, .slice none 0 0), (3, pZ b1), (4, .slice none 0 0)] (fun (xL : St × Bool) => match xL with | (sl, x7) => [(30, .bool x7)]) (fun (xL : St × Bool) (wL : World) => match xL with | (sl, x7) => sl.w = wL ∧ Step K0 s1 sl ∧ kj6 x7 = some r) ?_ ?_
  ·
   refine jAg (jAa (jCc rfl rfl rfl (jAd rfl rfl (jAi (jAh [(0, _), (3, _), (4, _), (9, _), (30, _)] ⟨rfl, rfl, rfl, rfl, rfl, trivial⟩ (jAl rfl (fun c14 => ?_) (fun c14 => ?_)))))))
   ·
    have h := itT h c14
    exact jAv (jAu ⟨(s1, decide (a1.Kind = 5)), ⟨lr, trivial⟩, ⟨rfl, rfl, rfl, trivial⟩, ⟨rfl, hE13, h⟩⟩)
   have h := itF h c14
   exact jAa (jCc rfl rfl rfl (jAd rfl rfl (jAi (jAu ⟨(s1, decide (a1.Kind = 6)), ⟨lr, trivial⟩, ⟨rfl, rfl, rfl, trivial⟩, ⟨rfl, hE13, h⟩⟩))))
  rintro ⟨s15, x7⟩ wL ⟨rfl, hE13, h⟩
  rw [hK13] at h
  have := hE13.size
  have hS := hS.trans0 hE13
  have hE2 := hE2.trans0 hE13
  replace hq1_0 := hq1_0.up2 hE13
  replace hq1_1 := hq1_1.up2 hE13
  replace h1 := h1.up2 hE13
  replace tb2 := tb2.up2 hE13
  refine jCk rfl (fun c16 => ?_) (fun c16 => ?_)
  ·
   have h := ibT h c16
   refine jAg (jAa (jCx arr74 zero74 rfl (Parts.cons (CellsOf.lit rfl rfl).1 (Parts.cons (CellsOf.lit rfl rfl).1 Parts.nil)) (by rfl) rfl (k_as (v := .agg (([] : List Value) ++ ([([] : List UInt8), ([] : List UInt8), ([] : List UInt8), ([] : List UInt8), ([] : List UInt8), ([91, 93] : List UInt8), ([123, 125] : List UInt8)] : List (List UInt8)).map S).toArray) rfl (jAf fld29_0 rfl rfl (jAj one3 rfl h1 rfl rfl ?_)))))
   obtain ⟨x8, hx8, h⟩ := ob h
   refine jDl S (xs := ([([] : List UInt8), ([] : List UInt8), ([] : List UInt8), ([] : List UInt8), ([] : List UInt8), ([91, 93] : List UInt8), ([123, 125] : List UInt8)] : List (List UInt8))) arr74 one9 rfl rfl (rfl) hx8 rfl (jAd rfl rfl (jAi (jAh [(0, _), (3, _), (4, _), (5, _)] ⟨rfl, rfl, rfl, rfl, trivial⟩ (jAg (jAa (jAc rfl rfl (jAc rfl rfl ?_)))))))
   obtain ⟨x9, hx9, h⟩ := ob h
   refine jBi Tryz.underlying9 rfl rfl (jAk hx9).1 (jAk hx9).2.1 rfl (k_as (congrArg (fun c : UInt8 => cB c) (jBs hx9)) (k_bslice2 (ds := ([x9] : List UInt8).map bD) slc43 rfl (RVs.cons (R.val rfl) RVs.nil) (by rfl) (by rfl) rfl rfl ?_))
   intro s17 v17 b17 st17 ge17 bl17 h17
   have := st17.size
   have hS := hS.trans0 st17
   have hE2 := hE2.trans0 st17
   replace hq1_0 := hq1_0.up2 st17
   replace hq1_1 := hq1_1.up2 st17
   replace h1 := h1.up2 st17
   replace tb2 := tb2.up2 st17
   have lt17 := Own.le1 h17
   obtain ⟨x10, hx10, h⟩ := ob h
   refine k_append_nil (es := ([x9] : List UInt8).map bD) 1041 elem43 rfl rfl (h17.sl) (by have := (jAm hx10).1; simp only [List.length_map, List.length_nil] at *; omega) (by have := (jAm hx10).1; simp only [List.length_map, List.length_nil] at *; omega) rfl ?_
   intro s18 v18 st18 h18
   rw [← List.nil_append (([x9] : List UInt8)), ← (jAm hx10).2] at h18
   have := st18.size
   have hS := hS.trans0 st18
   have hE2 := hE2.trans0 st18
   replace hq1_0 := hq1_0.up2 st18
   replace hq1_1 := hq1_1.up2 st18
   replace h1 := h1.up2 st18
   replace tb2 := tb2.up2 st18
   have lq18 : s17.n + 1 ≤ s18.n := Own.le_ne h18 (fun e_ => app_ne hx10 (by simp) (List.map_eq_nil_iff.1 e_))
   refine jAd rfl rfl (jAi (jAh [(0, _), (3, _), (4, _), (5, _)] ⟨rfl, rfl, rfl, rfl, trivial⟩ (jAg ?_)))
   obtain ⟨kj11, hK19, h⟩ := jn_out h
   have hE19 := Step.r0 (KC (s17.n + 1) 1041) s18
   refine jBp (X := St × (List UInt8) × Value) [(4, .slice none 0 0), (5, S x8)] (fun (xL : St × (List UInt8) × Value) => match xL with | (sl, x12, v20) => [(0, v20)]) (fun (xL : St × (List UInt8) × Value) (wL : World) => match xL with | (sl, x12, v20) => sl.w = wL ∧ Step (KC (s17.n + 1) 1041) s18 sl ∧ (Own sl ⟨s17.n + 1, 1041⟩ 5 1 v20 (x12.map bD)) ∧ kj11 x12 = some r) ?_ ?_
   ·
    refine jAg (jAa (jAf fld29_3 rfl rfl (jAj one26 rfl h1 rfl rfl (jCj Tryz.underlying26 rfl (SL.of_R hq1_0).hasLen rfl (k_as (v := .int .i64 (a1.List_.length : Int)) (by simp only [List.length_map]) (jAc rfl rfl (jAi (jAh [(0, _), (3, _), (4, _), (5, _), (43, _), (44, _), (45, _)] ⟨rfl, rfl, rfl, rfl, rfl, rfl, rfl, trivial⟩ (jAw (jBr (X := St × (List UInt8) × Value × Int × Nat) [(3, _), (4, _), (5, _), (43, _), (44, _)] (fun (xL : St × (List UInt8) × Value × Int × Nat) => match xL with | (sl, x13, v22, x14, j) => [(0, v22), (45, .int .i64 x14)]) (fun (xL : St × (List UInt8) × Value × Int × Nat) (wL : World) => match xL with | (sl, x13, v22, x14, j) => sl.w = wL ∧ Step (KC (s17.n + 1) 1041) s18 sl ∧ (Own sl ⟨s17.n + 1, 1041⟩ 5 1 v22 (x13.map bD)) ∧ value_text_nl_l1 a1 kj11 j x13 x14 = some r) (fun (xL : St × (List UInt8) × Value × Int × Nat) => match xL with | (sl, x13, v22, x14, j) => j) (s18, x10, v18, 0, FU) ⟨rfl, rfl, rfl, rfl, rfl, trivial⟩ ⟨lr, lr, trivial⟩ ⟨rfl, (Step.refl _).of0 li, h18, h⟩ ?_))))))))))
    rintro ⟨s23, x13, v22, x14, j⟩ wL ⟨rfl, hE21, h22, h⟩
    cases j with
    | zero => rw [value_text_nl_l1] at h; exact (noneNe h).elim
    | succ j =>
    rw [value_text_nl_l1] at h
    have := hE21.size
    have hS := hS.c0 hE21
    have hE2 := hE2.c0 hE21
    have hE19 := hE19.c0 hE21
    replace hq1_0 := hq1_0.up2 hE21
    replace hq1_1 := hq1_1.up2 hE21
    replace h1 := h1.up2 hE21
    replace tb2 := tb2.up2 hE21
    refine jAg (jAa (jBw rfl rfl rfl (jAi (jAg (jAl rfl (fun c24 => ?_) (fun c24 => ?_))))))
    ·
     have h := itT h c24
     refine jAv (jAg (jAw (jAg (jAa (jAc rfl rfl ?_)))))
     obtain ⟨x15, hx15, h⟩ := ob h
     refine jCd Tryz.underlying26 size29 rfl rfl (SL.of_R hq1_0) (jAk hx15).1 (jAr hx15) rfl ?_
     intro qx15 hqx15
     refine jCr (by exact agg29) rfl hqx15 rfl ?_
     intro cs25 h25
     obtain ⟨q25_0, q25_1, rfl, hq25_0, hq25_1⟩ := opnApiValue h25
     refine jBj zero29 rfl ?_
     intro s26 b26 st26 h26 ge26
     have := st26.size
     have hS := hS.trans0 st26
     have hE2 := hE2.trans0 st26
     have hE19 := hE19.trans0 st26
     have hE21 := hE21.trans0 st26
     replace hq25_0 := hq25_0.up2 st26
     replace hq25_1 := hq25_1.up2 st26
     replace hq1_1 := hq1_1.up2 st26
     replace h1 := h1.up2 st26
     replace h22 := h22.up2 st26
     replace tb2 := tb2.up2 st26
     have lt26 := h26.lt
     refine jAd rfl rfl (jAo (cs' := [.int .i64 x15.Kind, .int .i64 x15.Num, S x15.Text, q25_0, q25_1]) size29 rfl rfl h26 lz (CellsOf.lit (vs := [.int .i64 x15.Kind, .int .i64 x15.Num, S x15.Text, q25_0, q25_1]) rfl (ones.cons rfl (ones.cons rfl (ones.cons rfl (ones.cons ((SL.of_R hq25_0)).one1 (ones.cons ((SL.of_R hq25_1)).one1 ones.nil)))))) rfl lq rfl ?_)
     intro s27 st27 h26
     have := st27.size
     have hS := hS.c0 st27
     have hE2 := hE2.c0 st27
     have hE19 := hE19.c0 st27
     have hE21 := hE21.c0 st27
     replace hq25_0 := hq25_0.up2 st27
     replace hq25_1 := hq25_1.up2 st27
     replace hq1_1 := hq1_1.up2 st27
     replace h1 := h1.up2 st27
     replace h22 := h22.up2 st27
     replace tb2 := tb2.up2 st27
     refine jAi (jAh [(0, _), (3, _), (4, _), (5, _), (6, _), (7, _), (43, _), (44, _), (45, _)] ⟨rfl, rfl, rfl, rfl, rfl, rfl, rfl, rfl, rfl, trivial⟩ (jAg ?_))
     obtain ⟨kj16, hK28, h⟩ := jn_out h
     have hE28 := Step.r0 (KC (s17.n + 1) 1041) s27
     refine jBp (X := St × (List UInt8) × Value) [(3, pZ b1), (4, .slice none 0 0), (5, S x8), (6, .int .i64 x14), (7, pZ b26), (43, q1_0), (44, .int .i64 (a1.List_.length : Int)), (45, .int .i64 x14)] (fun (xL : St × (List UInt8) × Value) => match xL with | (sl, x17, v29) => [(0, v29)]) (fun (xL : St × (List UInt8) × Value) (wL : World) => match xL with | (sl, x17, v29) => sl.w = wL ∧ Step (KC (s17.n + 1) 1041) s27 sl ∧ (Own sl ⟨s17.n + 1, 1041⟩ 5 1 v29 (x17.map bD)) ∧ kj16 x17 = some r) ?_ ?_
     ·
      refine jAg (jAa (jAc rfl rfl (jCu rfl rfl rfl (jAi (jAh [(0, _), (3, _), (4, _), (5, _), (6, _), (7, _), (43, _), (44, _), (45, _), (51, _)] ⟨rfl, rfl, rfl, rfl, rfl, rfl, rfl, rfl, rfl, rfl, trivial⟩ (jAl rfl (fun c30 => ?_) (fun c30 => ?_)))))))
      ·
       have h := itT h c30
       refine jAa (jAc rfl rfl (k_bslice2 (ds := ([(44 : UInt8)] : List UInt8).map bD) slc43 rfl (RVs.cons (R.val rfl) RVs.nil) (by rfl) (by rfl) rfl rfl ?_))
       intro s31 v31 b31 st31 ge31 bl31 h31
       have := st31.size
       have hS := hS.trans0 st31
       have hE2 := hE2.trans0 st31
       have hE19 := hE19.trans0 st31
       have hE21 := hE21.trans0 st31
       have hE28 := hE28.trans0 st31
       replace h22 := h22.up2 st31
       have lt31 := Own.le1 h31
       obtain ⟨x18, hx18, h⟩ := ob h
       refine k_append (es := ([(44 : UInt8)] : List UInt8).map bD) elem43 rfl rfl h22 (h31.sl) (by have := (jAm hx18).1; simp only [List.length_map] at *; omega) (by have := (jAm hx18).1; simp only [List.length_map] at *; omega) rfl ?_
       intro s32 v32 st32 h32
       rw [← List.map_append, ← (jAm hx18).2] at h32
       have := st32.size
       have hS := hS.c0 st32
       have hE2 := hE2.c0 st32
       have hE19 := hE19.c0 st32
       have hE21 := hE21.c0 st32
       have hE28 := hE28.c0 st32
       exact jAd rfl rfl (jAi (jAu ⟨(s32, x18, v32), ⟨lr, trivial⟩, ⟨rfl, rfl, rfl, rfl, rfl, rfl, rfl, rfl, trivial⟩, ⟨rfl, hE28, h32, h⟩⟩))
      have h := itF h c30
      exact jAv (jAu ⟨(s27, x13, v22), ⟨lr, trivial⟩, ⟨rfl, rfl, rfl, rfl, rfl, rfl, rfl, rfl, trivial⟩, ⟨rfl, hE28, h22, h⟩⟩)
     rintro ⟨s33, x17, v29⟩ wL ⟨rfl, hE28, h29, h⟩
     rw [hK28] at h
     have := hE28.size
     have hS := hS.c0 hE28
     have hE2 := hE2.c0 hE28
     have hE19 := hE19.c0 hE28
     have hE21 := hE21.c0 hE28
     replace hq1_1 := hq1_1.up2 hE28
     replace h1 := h1.up2 hE28
     replace hq25_0 := hq25_0.up2 hE28
     replace hq25_1 := hq25_1.up2 hE28
     replace h26 := h26.up2 hE28
     replace tb2 := tb2.up2 hE28
     refine jAg (jAg (jAa (jAf fld29_0 rfl rfl (jAj one3 rfl h1 rfl rfl (jCc rfl rfl rfl (jAi (jAh [(0, _), (3, _), (4, _), (5, _), (6, _), (7, _), (43, _), (44, _), (45, _), (57, _)] ⟨rfl, rfl, rfl, rfl, rfl, rfl, rfl, rfl, rfl, rfl, trivial⟩ (jAl rfl (fun c34 => ?_) (fun c34 => ?_)))))))))
     ·
      have h := itT h c34
      refine jAa (jAc rfl rfl (jAf fld29_4 rfl rfl (jAj one27 rfl h1 rfl rfl (jAc rfl rfl ?_))))
      obtain ⟨x19, hx19, h⟩ := ob h
      refine jCd Tryz.underlying27 size9 rfl rfl (SL.of_R hq1_1) (jAk hx19).1 (jAr hx19) rfl ?_
      intro qx19 hqx19
      refine jAq one9 rfl hqx19 rfl ?_
      obtain ⟨x20, hx20, h⟩ := ob h
      refine jAp cal45 rfl (value_quoted_own_w  h29 la hx20) rfl ?_
      rintro s35 v35_0 st35 ⟨_, rfl, h35_0⟩
      have := st35.size
      have hS := hS.c0 st35
      have hE2 := hE2.c0 st35
      have hE19 := hE19.c0 st35
      have hE21 := hE21.c0 st35
      replace hq25_0 := hq25_0.up2 st35
      replace hq25_1 := hq25_1.up2 st35
      replace h26 := h26.up2 st35
      replace tb2 := tb2.up2 st35
      refine k_bslice2 (ds := ([(58 : UInt8)] : List UInt8).map bD) slc43 rfl (RVs.cons (R.val rfl) RVs.nil) (by rfl) (by rfl) rfl rfl ?_
      intro s36 v36 b36 st36 ge36 bl36 h36
      have := st36.size
      have hS := hS.trans0 st36
      have hE2 := hE2.trans0 st36
      have hE19 := hE19.trans0 st36
      have hE21 := hE21.trans0 st36
      replace hq25_0 := hq25_0.up2 st36
      replace hq25_1 := hq25_1.up2 st36
      replace h26 := h26.up2 st36
      replace h35_0 := h35_0.up2 st36
      replace tb2 := tb2.up2 st36
      have lt36 := Own.le1 h36
      obtain ⟨x21, hx21, h⟩ := ob h
      refine k_append (es := ([(58 : UInt8)] : List UInt8).map bD) elem43 rfl rfl h35_0 (h36.sl) (by have := (jAm hx21).1; simp only [List.length_map] at *; omega) (by have := (jAm hx21).1; simp only [List.length_map] at *; omega) rfl ?_
      intro s37 v37 st37 h37
      rw [← List.map_append, ← (jAm hx21).2] at h37
      have := st37.size
      have hS := hS.c0 st37
      have hE2 := hE2.c0 st37
      have hE19 := hE19.c0 st37
      have hE21 := hE21.c0 st37
      replace hq25_0 := hq25_0.up2 st37
      replace hq25_1 := hq25_1.up2 st37
      replace h26 := h26.up2 st37
      replace tb2 := tb2.up2 st37
      refine jAd rfl rfl (jAi (jAh [(0, _), (3, _), (4, _), (5, _), (7, _), (43, _), (44, _), (45, _)] ⟨rfl, rfl, rfl, rfl, rfl, rfl, rfl, rfl, trivial⟩ (jAa (jAc rfl rfl (jAs (cs := [.int .i64 x15.Kind, .int .i64 x15.Num, S x15.Text, q25_0, q25_1]) agg29 rfl h26 rfl ?_)))))
      obtain ⟨x22, hx22, h⟩ := ob h
      refine jAp cal29 rfl (value_text_own_w  h37 la (clsApiValue x15 hq25_0 hq25_1) tb2 hx22) rfl ?_
      rintro s38 v38_0 st38 ⟨_, rfl, h38_0⟩
      have := st38.size
      have hS := hS.c0 st38
      have hE2 := hE2.c0 st38
      have hE19 := hE19.c0 st38
      have hE21 := hE21.c0 st38
      exact jAd rfl rfl (jAi (jCe (jAa (jBo rfl rfl rfl (jAc rfl rfl (jAi (jAu ⟨(s38, x22, v38_0, i64 (x14 + 1), j), ⟨lr, lr, trivial⟩, ⟨rfl, rfl, rfl, rfl, rfl, trivial⟩, ⟨rfl, hE21, h38_0, h⟩, (by simp)⟩)))))))
     have h := itF h c34
     refine jAv (jAa (jAc rfl rfl (jAs (cs := [.int .i64 x15.Kind, .int .i64 x15.Num, S x15.Text, q25_0, q25_1]) agg29 rfl h26 rfl ?_)))
     obtain ⟨x23, hx23, h⟩ := ob h
     refine jAp cal29 rfl (value_text_own_w  h29 la (clsApiValue x15 hq25_0 hq25_1) tb2 hx23) rfl ?_
     rintro s39 v39_0 st39 ⟨_, rfl, h39_0⟩
     have := st39.size
     have hS := hS.c0 st39
     have hE2 := hE2.c0 st39
     have hE19 := hE19.c0 st39
     have hE21 := hE21.c0 st39
     exact jAd rfl rfl (jAi (jCe (jAa (jBo rfl rfl rfl (jAc rfl rfl (jAi (jAu ⟨(s39, x23, v39_0, i64 (x14 + 1), j), ⟨lr, lr, trivial⟩, ⟨rfl, rfl, rfl, rfl, rfl, trivial⟩, ⟨rfl, hE21, h39_0, h⟩, (by simp)⟩)))))))
    have h := itF h c24
    exact jBq rfl (jAu ⟨(s23, x13, v22), ⟨lr, trivial⟩, ⟨rfl, rfl, trivial⟩, ⟨rfl, hE19, h22, h⟩⟩)
   rintro ⟨s40, x12, v20⟩ wL ⟨rfl, hE19, h20, h⟩
   rw [hK19] at h
   have := hE19.size
   have hS := hS.c0 hE19
   have hE2 := hE2.c0 hE19
   refine jAg (jAa (jAc rfl rfl (jAc rfl rfl ?_)))
   obtain ⟨x24, hx24, h⟩ := ob h
   refine jBi Tryz.underlying9 rfl rfl (jAk hx24).1 (jAk hx24).2.1 rfl (k_as (congrArg (fun c : UInt8 => cB c) (jBs hx24)) (k_bslice2 (ds := ([x24] : List UInt8).map bD) slc43 rfl (RVs.cons (R.val rfl) RVs.nil) (by rfl) (by rfl) rfl rfl ?_))
   intro s41 v41 b41 st41 ge41 bl41 h41
   have := st41.size
   have hS := hS.trans0 st41
   have hE2 := hE2.trans0 st41
   replace h20 := h20.up2 st41
   have lt41 := Own.le1 h41
   obtain ⟨x25, hx25, h⟩ := ob h
   refine k_append (es := ([x24] : List UInt8).map bD) elem43 rfl rfl h20 (h41.sl) (by have := (jAm hx25).1; simp only [List.length_map] at *; omega) (by have := (jAm hx25).1; simp only [List.length_map] at *; omega) rfl ?_
   intro s42 v42 st42 h42
   rw [← List.map_append, ← (jAm hx25).2] at h42
   have := st42.size
   have hS := hS.c0 st42
   have hE2 := hE2.c0 st42
   refine jAd rfl rfl (jAi (jAh [(0, _), (4, _)] ⟨rfl, rfl, trivial⟩ (jAx ?_)))
   obtain ⟨s43, e43, st43, h43⟩ := h42.freeze
   rw [← e43]
   have := st43.size
   have hS := hS.c0 st43
   have hE2 := hE2.c0 st43
   obtain rfl := Option.some.inj h
   refine ⟨_, rfl, Ret.mk hS ?_⟩
   exact ⟨_, rfl, h43⟩
  have h := ibF h c16
  exact jAv (jCe (jAu ⟨s15, trivial, ⟨rfl, rfl, trivial⟩, ⟨rfl, hE2, h⟩⟩))
 rintro s44 wL ⟨rfl, hE2, h⟩
 rw [hK2] at h
 have := hE2.size
 have hS := hS.trans0 hE2
 refine jAg (jAa (jAc rfl rfl ?_))
 obtain ⟨x26, hx26, h⟩ := ob h
 refine k_append_str_nil 1077 elem43 rfl rfl Tryz.underlying9 rfl rfl (by have := (jAm hx26).1; omega) rfl ?_
 intro s45 v45 st45 h45
 rw [← List.nil_append ([110, 117, 108, 108] : List UInt8), ← (jAm hx26).2] at h45
 have := st45.size
 have hS := hS.trans0 st45
 have lq45 : s44.n + 1 ≤ s45.n := Own.le_ne h45 (fun e_ => app_ne hx26 (by simp) (List.map_eq_nil_iff.1 e_))
 refine jAd rfl rfl (jAi (jAh [(4, _)] ⟨rfl, trivial⟩ (jAx ?_)))
 obtain ⟨s46, e46, st46, h46⟩ := h45.freeze
 rw [← e46]
 have := st46.size
 have hS := hS.c0 st46
 obtain rfl := Option.some.inj h
 refine ⟨_, rfl, Ret.mk hS ?_⟩
 exact ⟨_, rfl, h46⟩
theorem value_May_w {s : St} {cs0 : List Value} {a0 : ApiValue} {r : Bool} (hp0 : RC s cs0 (dApiValue a0)) (tb2 : Tab2 s) (h : value_May a0 = some r) : Calls Tryz.prog 28 #[.agg cs0.toArray] s.w (Ret s K0 (fun s1 v => v = .bool r)) := by
 unfold value_May at h
 obtain ⟨q0_0, q0_1, rfl, hq0_0, hq0_1⟩ := opnApiValue hp0
 have hS := Step.r0 K0 s
 refine k_fn (rs := [2]) (args := [.agg #[.int .i64 a0.Kind, .int .i64 a0.Num, S a0.Text, q0_0, q0_1]]) Tryz.func28 rfl rfl rfl rfl (jAg (jAa (jCp rfl rfl ?_)))
 intro s1 b1 st1 h1 ge1
 have := st1.size
 have hS := hS.trans0 st1
 replace hq0_0 := hq0_0.up2 st1
 replace hq0_1 := hq0_1.up2 st1
 replace tb2 := tb2.up2 st1
 have lt1 := h1.lt
 refine jAd rfl rfl (jAi (jAh [(1, _), (2, _)] ⟨rfl, rfl, trivial⟩ (jAg (jAa (jAs (cs := [.int .i64 a0.Kind, .int .i64 a0.Num, S a0.Text, q0_0, q0_1]) agg29 rfl h1 rfl ?_)))))
 obtain ⟨x1, hx1, h⟩ := ob h
 refine jAp cal43 rfl (value_shaped_w  (clsApiValue a0 hq0_0 hq0_1) hx1) rfl ?_
 rintro s2 vr2 st2 rfl
 have := st2.size
 have hS := hS.trans0 st2
 replace hq0_0 := hq0_0.up2 st2
 replace hq0_1 := hq0_1.up2 st2
 replace h1 := h1.up2 st2
 replace tb2 := tb2.up2 st2
 refine jAc rfl rfl ?_
 obtain ⟨x2, hx2, h⟩ := ob h
 have hE3 := Step.r0 K0 s2
 refine jBm (X := St) 5 [(1, pZ b1), (2, .bool false), (3, .agg #[.int .i64 a0.Kind, .int .i64 a0.Num, S a0.Text, q0_0, q0_1]), (4, .bool x1)] (fun _ => [(10, .bool x2)]) (fun sl wL => sl.w = wL ∧ Step K0 s2 sl) ?_ ?_
 ·
  refine jBb 5 rfl (jCn (fun c4 => ?_) (fun c4 => ?_))
  ·
   have hx2 := ibT hx2 c4
   refine jAn rfl rfl (jAs (cs := [.int .i64 a0.Kind, .int .i64 a0.Num, S a0.Text, q0_0, q0_1]) agg29 rfl h1 rfl (jAn rfl rfl ?_))
   obtain ⟨x3, hx3, hx2⟩ := ob hx2
   refine jAp cal29 rfl (value_text_nl_w  (clsApiValue a0 hq0_0 hq0_1) tb2 hx3) rfl ?_
   rintro s5 v5_0 st5 ⟨_, rfl, h5_0⟩
   have := st5.size
   have hS := hS.trans0 st5
   have hE3 := hE3.trans0 st5
   exact jAn rfl rfl (jCj Tryz.underlying43 rfl (SL.of_R h5_0).hasLen rfl (k_as (v := .int .i64 (x3.length : Int)) (by simp only [List.length_map]) (jAn rfl rfl (k_leq rfl rfl rfl (jAz rfl rfl rfl rfl (jBc ⟨s5, ⟨(congrArg (fun b => some (Value.bool b)) (Option.some.inj hx2)), trivial⟩, ⟨rfl, rfl, rfl, rfl, trivial⟩, rfl, hE3⟩))))))
  have hx2 := ibF hx2 c4
  exact k_no rfl rfl rfl rfl (k_no rfl rfl rfl rfl (k_no rfl rfl rfl rfl (k_no rfl rfl rfl rfl (jAy rfl rfl rfl rfl (jBc ⟨s2, ⟨(congrArg (fun b => some (Value.bool b)) (Option.some.inj hx2)), trivial⟩, ⟨rfl, rfl, rfl, rfl, trivial⟩, rfl, hE3⟩)))))
 rintro s6 wL ⟨rfl, hE3⟩
 have := hE3.size
 have hS := hS.trans0 hE3
 refine jAd rfl rfl (jAi (jAh [(2, _)] ⟨rfl, trivial⟩ (jAx ?_)))
 obtain rfl := Option.some.inj h
 refine ⟨_, rfl, Ret.mk hS ?_⟩
 exact rfl
theorem value_Print_w {s : St} {cs0 : List Value} {a0 : ApiValue} {r : ((List UInt8) × Int)} (hp0 : RC s cs0 (dApiValue a0)) (tb2 : Tab2 s) (h : value_Print a0 = some r) : Calls Tryz.prog 15 #[.agg cs0.toArray] s.w (Ret s K0 (fun s1 v => v = .tuple #[S r.1, .int .i64 r.2])) := by
 unfold value_Print at h
 obtain ⟨q0_0, q0_1, rfl, hq0_0, hq0_1⟩ := opnApiValue hp0
 have hS := Step.r0 K0 s
 refine k_fn (rs := [2, 3]) (args := [.agg #[.int .i64 a0.Kind, .int .i64 a0.Num, S a0.Text, q0_0, q0_1]]) Tryz.func15 rfl rfl rfl rfl (jAg (jAa (jCp rfl rfl ?_)))
 intro s1 b1 st1 h1 ge1
 have := st1.size
 have hS := hS.trans0 st1
 replace hq0_0 := hq0_0.up2 st1
 replace hq0_1 := hq0_1.up2 st1
 replace tb2 := tb2.up2 st1
 have lt1 := h1.lt
 refine jAd rfl rfl (jAd rfl rfl (jAi (jAh [(1, _), (2, _), (3, _)] ⟨rfl, rfl, rfl, trivial⟩ (jAg (jAg (jAa (jAs (cs := [.int .i64 a0.Kind, .int .i64 a0.Num, S a0.Text, q0_0, q0_1]) agg29 rfl h1 rfl ?_)))))))
 obtain ⟨x1, hx1, h⟩ := ob h
 refine jAp cal28 rfl (value_May_w  (clsApiValue a0 hq0_0 hq0_1) tb2 hx1) rfl ?_
 rintro s2 vr2 st2 rfl
 have := st2.size
 have hS := hS.trans0 st2
 replace hq0_0 := hq0_0.up2 st2
 replace hq0_1 := hq0_1.up2 st2
 replace h1 := h1.up2 st2
 replace tb2 := tb2.up2 st2
 refine jDd rfl rfl (jAi (jAh [(1, _), (2, _), (3, _), (6, _)] ⟨rfl, rfl, rfl, rfl, trivial⟩ (jCk rfl (fun c3 => ?_) (fun c3 => ?_))))
 ·
  have h := ibT h c3
  refine jAg (jAa (jAd rfl rfl (jAd rfl rfl (jAi (jAh [(1, _), (2, _), (3, _)] ⟨rfl, rfl, rfl, trivial⟩ (jAx ?_))))))
  obtain rfl := Option.some.inj h
  refine ⟨_, rfl, Ret.mk hS ?_⟩
  exact rfl
 have h := ibF h c3
 refine jAv (jAg (jAa (jAs (cs := [.int .i64 a0.Kind, .int .i64 a0.Num, S a0.Text, q0_0, q0_1]) agg29 rfl h1 rfl ?_)))
 obtain ⟨x2, hx2, h⟩ := ob h
 refine jAp cal29 rfl (value_text_nl_w  (clsApiValue a0 hq0_0 hq0_1) tb2 hx2) rfl ?_
 rintro s4 v4_0 st4 ⟨_, rfl, h4_0⟩
 have := st4.size
 have hS := hS.trans0 st4
 refine k_bts (m := x2) Tryz.underlying43 Tryz.underlying5 Tryz.underlying9 rfl (SL.of_R h4_0) rfl (jAd rfl rfl (jAd rfl rfl (jAi (jAh [(2, _), (3, _)] ⟨rfl, rfl, trivial⟩ (jAx ?_)))))
 obtain rfl := Option.some.inj h
 refine ⟨_, rfl, Ret.mk hS ?_⟩
 exact rfl
theorem rev_May_w {s : St} {cs0 : List Value} {a0 : ApiRev} {r : Bool} (hp0 : RC s cs0 (dApiRev a0)) (h : rev_May a0 = some r) : Calls Tryz.prog 8 #[.agg cs0.toArray] s.w (Ret s K0 (fun s1 v => v = .bool r)) := by
 unfold rev_May at h
 obtain rfl := opnApiRev hp0
 have hS := Step.r0 K0 s
 refine k_fn (rs := [2]) (args := [.agg (a17 a0.Gen a0.Sum).toArray]) Tryz.func8 rfl rfl rfl rfl (jAg (jAa (jCp rfl rfl ?_)))
 intro s1 b1 st1 h1 ge1
 have := st1.size
 have hS := hS.trans0 st1
 have lt1 := h1.lt
 refine jAd rfl rfl (jAi (jAh [(1, _), (2, _)] ⟨rfl, rfl, trivial⟩ (jAg (jAa (jAf fld25_0 rfl rfl (jAj one22 rfl h1 rfl rfl (k_geq rfl rfl rfl (jAc rfl rfl ?_))))))))
 have hE2 := Step.r0 K0 s1
 refine jBm (X := St) 4 [(1, pZ b1), (2, .bool false), (3, pZ b1), (4, cW a0.Gen), (5, .bool (decide (1 ≤ (a0.Gen.toNat : Int))))] (fun _ => [(10, .bool (decide ((1 ≤ (a0.Gen.toNat : Int)) ∧ ((a0.Gen.toNat : Int) ≤ 4611686018427387903))))]) (fun sl wL => sl.w = wL ∧ Step K0 s1 sl) ?_ ?_
 ·
  refine jBb 6 rfl (jBh (fun c3 => ?_) (fun c3 => ?_))
  ·
   exact jAn rfl rfl (jAf fld25_0 rfl rfl (jAn rfl rfl (jAj one22 rfl h1 rfl rfl (jAn rfl rfl (k_leq rfl rfl rfl (jAz rfl rfl rfl rfl (jBc ⟨s1, ⟨lb, trivial⟩, ⟨rfl, rfl, rfl, rfl, rfl, trivial⟩, rfl, hE2⟩)))))))
  exact k_no rfl rfl rfl rfl (k_no rfl rfl rfl rfl (k_no rfl rfl rfl rfl (jAy rfl rfl rfl rfl (jBc ⟨s1, ⟨lb, trivial⟩, ⟨rfl, rfl, rfl, rfl, rfl, trivial⟩, rfl, hE2⟩))))
 rintro s4 wL ⟨rfl, hE2⟩
 have := hE2.size
 have hS := hS.trans0 hE2
 refine jAd rfl rfl (jAi (jAh [(2, _)] ⟨rfl, trivial⟩ (jAx ?_)))
 obtain rfl := Option.some.inj h
 refine ⟨_, rfl, Ret.mk hS ?_⟩
 exact rfl
theorem digest_sized_w {s : St} {a0 : Int} {r : Bool}  (h : digest_sized a0 = some r) : Calls Tryz.prog 71 #[.int .i64 a0] s.w (Ret s K0 (fun s1 v => v = .bool r)) := by
 unfold digest_sized at h
 have hS := Step.r0 K0 s
 refine k_fn (rs := [2]) (args := [.int .i64 a0]) Tryz.func71 rfl rfl rfl rfl (jAg (jAa (jAd rfl rfl (jAi (jAg (jAa (jAc rfl rfl (k_geq rfl rfl rfl (jAc rfl rfl ?_)))))))))
 have hE1 := Step.r0 K0 s
 refine jBm (X := St) 3 [(0, .int .i64 a0), (2, .bool false), (3, .int .i64 a0), (4, .bool (decide (1 ≤ a0)))] (fun _ => [(8, .bool (decide ((1 ≤ a0) ∧ (a0 ≤ 32))))]) (fun sl wL => sl.w = wL ∧ Step K0 s sl) ?_ ?_
 ·
  refine jBb 5 rfl (jBh (fun c2 => ?_) (fun c2 => ?_))
  ·
   exact jAn rfl rfl (jAc rfl rfl (jAn rfl rfl (k_leq rfl rfl rfl (jAz rfl rfl rfl rfl (jBc ⟨s, ⟨lb, trivial⟩, ⟨rfl, rfl, rfl, rfl, trivial⟩, rfl, hE1⟩)))))
  exact k_no rfl rfl rfl rfl (k_no rfl rfl rfl rfl (jAy rfl rfl rfl rfl (jBc ⟨s, ⟨lb, trivial⟩, ⟨rfl, rfl, rfl, rfl, trivial⟩, rfl, hE1⟩)))
 rintro s3 wL ⟨rfl, hE1⟩
 have := hE1.size
 have hS := hS.trans0 hE1
 refine jAd rfl rfl (jAi (jAh [(2, _)] ⟨rfl, trivial⟩ (jAx ?_)))
 obtain rfl := Option.some.inj h
 refine ⟨_, rfl, Ret.mk hS ?_⟩
 exact rfl
theorem digest_first_w {s : St}  {r : St76}  (h : digest_first = some r) : Calls Tryz.prog 72 #[] s.w (Ret s K0 (fun s1 v => ∃ (u0 : List Value), v = .agg u0.toArray ∧ RC s1 u0 (dSt76 r))) := by
 unfold digest_first at h
 have hS := Step.r0 K0 s
 refine jCy (rs := [.cell 0 76]) (args := []) Tryz.func72 rfl rfl rfl rfl (jAg (jAa (jBj zero76 rfl ?_)))
 intro s1 b1 st1 h1 ge1
 have := st1.size
 have hS := hS.trans0 st1
 have lt1 := h1.lt
 refine jAi (jAg (jAa (jCx arr76 zero76 rfl (Parts.cons (CellsOf.lit rfl rfl).1 (Parts.cons (CellsOf.lit rfl rfl).1 (Parts.cons (CellsOf.lit rfl rfl).1 (Parts.cons (CellsOf.lit rfl rfl).1 (Parts.cons (CellsOf.lit rfl rfl).1 (Parts.cons (CellsOf.lit rfl rfl).1 (Parts.cons (CellsOf.lit rfl rfl).1 (Parts.cons (CellsOf.lit rfl rfl).1 Parts.nil)))))))) (by rfl) rfl (k_as (v := .agg #[.int .u32 1779033703, .int .u32 3144134277, .int .u32 1013904242, .int .u32 2773480762, .int .u32 1359893119, .int .u32 2600822924, .int .u32 528734635, .int .u32 1541459225]) rfl (jAo (cs' := [.int .u32 1779033703, .int .u32 3144134277, .int .u32 1013904242, .int .u32 2773480762, .int .u32 1359893119, .int .u32 2600822924, .int .u32 528734635, .int .u32 1541459225]) size76 rfl rfl h1 lz (CellsOf.lit rfl rfl) rfl lq rfl ?_)))))
 intro s2 st2 h1
 have := st2.size
 have hS := hS.c0 st2
 refine jAi (jAh [(0, _)] ⟨rfl, trivial⟩ (jAx ?_))
 obtain rfl := Option.some.inj h
 refine ⟨[.agg [.int .u32 1779033703, .int .u32 3144134277, .int .u32 1013904242, .int .u32 2773480762, .int .u32 1359893119, .int .u32 2600822924, .int .u32 528734635, .int .u32 1541459225].toArray], ⟨res_blk (cs := [.int .u32 1779033703, .int .u32 3144134277, .int .u32 1013904242, .int .u32 2773480762, .int .u32 1359893119, .int .u32 2600822924, .int .u32 528734635, .int .u32 1541459225]) rfl agg76 h1, trivial⟩, Ret.mk hS ?_⟩
 exact ⟨_, rfl, (clsSt76 (⟨(1779033703 : UInt32), (3144134277 : UInt32), (1013904242 : UInt32), (2773480762 : UInt32), (1359893119 : UInt32), (2600822924 : UInt32), (528734635 : UInt32), (1541459225 : UInt32)⟩ : St76))⟩
theorem digest_Begin_w {s : St} {a0 : Int} {r : (ApiDigest × Int)}  (h : digest_Begin a0 = some r) : Calls Tryz.prog 46 #[.int .i64 a0] s.w (Ret s K0 (fun s1 v => ∃ (u0 : List Value), v = .tuple #[.agg u0.toArray, .int .i64 r.2] ∧ RC s1 u0 (dApiDigest r.1))) := by
 unfold digest_Begin at h
 have hS := Step.r0 K0 s
 refine jCy (rs := [.cell 2 78, .tmp 3]) (args := [.int .i64 a0]) Tryz.func46 rfl rfl rfl rfl (jAg (jAa (jBj zero78 rfl ?_)))
 intro s1 b1 st1 h1 ge1
 have := st1.size
 have hS := hS.trans0 st1
 have lt1 := h1.lt
 refine jAd rfl rfl (jAi (jAg (jAg (jAa (jAc rfl rfl ?_)))))
 obtain ⟨x1, hx1, h⟩ := ob h
 refine jAp cal71 rfl (digest_sized_w   hx1) rfl ?_
 rintro s2 vr2 st2 rfl
 have := st2.size
 have hS := hS.trans0 st2
 replace h1 := h1.up2 st2
 refine jDd rfl rfl (jAi (jAh [(0, _), (2, _), (3, _), (7, _)] ⟨rfl, rfl, rfl, rfl, trivial⟩ (jCk rfl (fun c3 => ?_) (fun c3 => ?_))))
 ·
  have h := ibT h c3
  refine jAg (jAa (jCa plc78 zero78 rfl Parts.nil (by rfl) rfl (k_as (v := .agg #[.int .u32 0, .int .u32 0, .int .u32 0, .int .u32 0, .int .u32 0, .int .u32 0, .int .u32 0, .int .u32 0, .slice none 0 0, .int .u64 0, .int .i64 0]) rfl (jAo (cs' := [.int .u32 0, .int .u32 0, .int .u32 0, .int .u32 0, .int .u32 0, .int .u32 0, .int .u32 0, .int .u32 0, .slice none 0 0, .int .u64 0, .int .i64 0]) size78 rfl rfl h1 lz (CellsOf.lit rfl rfl) rfl lq rfl ?_))))
  intro s4 st4 h1
  have := st4.size
  have hS := hS.c0 st4
  refine jAd rfl rfl (jAi (jAh [(0, _), (2, _), (3, _)] ⟨rfl, rfl, rfl, trivial⟩ (jAx ?_)))
  obtain rfl := Option.some.inj h
  refine ⟨[.agg [.int .u32 0, .int .u32 0, .int .u32 0, .int .u32 0, .int .u32 0, .int .u32 0, .int .u32 0, .int .u32 0, .slice none 0 0, .int .u64 0, .int .i64 0].toArray, .int .i64 1], ⟨res_blk (cs := [.int .u32 0, .int .u32 0, .int .u32 0, .int .u32 0, .int .u32 0, .int .u32 0, .int .u32 0, .int .u32 0, .slice none 0 0, .int .u64 0, .int .i64 0]) rfl agg78 h1, rfl, trivial⟩, Ret.mk hS ?_⟩
  exact ⟨_, rfl, (clsApiDigest (⟨(⟨(0 : UInt32), (0 : UInt32), (0 : UInt32), (0 : UInt32), (0 : UInt32), (0 : UInt32), (0 : UInt32), (0 : UInt32)⟩ : St76), [], (0 : UInt64), 0⟩ : ApiDigest) (R.of_SL (.inl ⟨rfl, none, 0, rfl, fun _ => rfl⟩)))⟩
 have h := ibF h c3
 refine jAv (jAg (jAa ?_))
 obtain ⟨x2, hx2, h⟩ := ob h
 refine jAp cal72 rfl (digest_first_w   hx2) rfl ?_
 rintro s5 vr5 st5 ⟨cs5_0, rfl, h5_0⟩
 have := st5.size
 have hS := hS.trans0 st5
 replace h1 := h1.up2 st5
 obtain rfl := opnSt76 h5_0
 refine jAc rfl rfl (jCa plc78 zero78 rfl (Parts.cons (CellsOf.lit rfl rfl).1 (Parts.cons (CellsOf.lit rfl rfl).1 Parts.nil)) (by rfl) rfl (k_as (v := .agg #[cU x2.e0, cU x2.e1, cU x2.e2, cU x2.e3, cU x2.e4, cU x2.e5, cU x2.e6, cU x2.e7, .slice none 0 0, .int .u64 0, .int .i64 a0]) rfl (jBj zero78 rfl ?_)))
 intro s6 b6 st6 h6 ge6
 have := st6.size
 have hS := hS.trans0 st6
 replace h1 := h1.up2 st6
 have lt6 := h6.lt
 refine jAo (cs' := [cU x2.e0, cU x2.e1, cU x2.e2, cU x2.e3, cU x2.e4, cU x2.e5, cU x2.e6, cU x2.e7, .slice none 0 0, .int .u64 0, .int .i64 a0]) size78 rfl rfl h6 lz (CellsOf.lit rfl rfl) rfl lq rfl ?_
 intro s7 st7 h6
 have := st7.size
 have hS := hS.c0 st7
 replace h1 := h1.up2 st7
 refine jAi (jAh [(0, _), (2, _), (3, _), (4, _)] ⟨rfl, rfl, rfl, rfl, trivial⟩ (jAg (jAa (jAf fld78_0 rfl rfl (jCh arr76 rfl rfl (by decide) (by decide) rfl (k_as (v := pZ b6) rfl (jAj one75 rfl h6 rfl rfl (jAc rfl rfl (jBz (p := a0) Tryz.underlying3 Tryz.underlying75 rfl rfl (k_as (congrArg (Value.int .u32) (w32 _)) (jCm (p := ((16842752 : UInt32).toNat : Int)) (q := ((ofI32 a0).toNat : Int)) (.inr (.inr (.inl ⟨rfl, rfl⟩))) rfl rfl rfl (k_as (congrArg (Value.int .u32) (xor32 _ _)) (jCm (p := (x2.e0.toNat : Int)) (q := (((16842752 : UInt32) ^^^ (ofI32 a0)).toNat : Int)) (.inr (.inr (.inl ⟨rfl, rfl⟩))) rfl rfl rfl (k_as (congrArg (Value.int .u32) (xor32 _ _)) (jAf fld78_0 rfl rfl (jCh arr76 rfl rfl (by decide) (by decide) rfl (k_as (v := pZ b6) rfl (jAo (cs' := [cU (x2.e0 ^^^ ((16842752 : UInt32) ^^^ (ofI32 a0))), cU x2.e1, cU x2.e2, cU x2.e3, cU x2.e4, cU x2.e5, cU x2.e6, cU x2.e7, .slice none 0 0, .int .u64 0, .int .i64 a0]) size75 rfl rfl h6 lz (CellsOf.lit rfl rfl) rfl lq rfl ?_))))))))))))))))))
 intro s8 st8 h6
 have := st8.size
 have hS := hS.c0 st8
 replace h1 := h1.up2 st8
 refine jAi (jAh [(2, _), (3, _), (4, _)] ⟨rfl, rfl, rfl, trivial⟩ (jAg (jAa (jAs (cs := [cU (x2.e0 ^^^ ((16842752 : UInt32) ^^^ (ofI32 a0))), cU x2.e1, cU x2.e2, cU x2.e3, cU x2.e4, cU x2.e5, cU x2.e6, cU x2.e7, .slice none 0 0, .int .u64 0, .int .i64 a0]) agg78 rfl h6 rfl (jAo (cs' := [cU (x2.e0 ^^^ ((16842752 : UInt32) ^^^ (ofI32 a0))), cU x2.e1, cU x2.e2, cU x2.e3, cU x2.e4, cU x2.e5, cU x2.e6, cU x2.e7, .slice none 0 0, .int .u64 0, .int .i64 a0]) size78 rfl rfl h1 lz (CellsOf.lit rfl rfl) rfl lq rfl ?_)))))
 intro s9 st9 h1
 have := st9.size
 have hS := hS.c0 st9
 refine jAd rfl rfl (jAi (jAh [(2, _), (3, _)] ⟨rfl, rfl, trivial⟩ (jAx ?_)))
 obtain rfl := Option.some.inj h
 refine ⟨[.agg [cU (x2.e0 ^^^ ((16842752 : UInt32) ^^^ (ofI32 a0))), cU x2.e1, cU x2.e2, cU x2.e3, cU x2.e4, cU x2.e5, cU x2.e6, cU x2.e7, .slice none 0 0, .int .u64 0, .int .i64 a0].toArray, .int .i64 0], ⟨res_blk (cs := [cU (x2.e0 ^^^ ((16842752 : UInt32) ^^^ (ofI32 a0))), cU x2.e1, cU x2.e2, cU x2.e3, cU x2.e4, cU x2.e5, cU x2.e6, cU x2.e7, .slice none 0 0, .int .u64 0, .int .i64 a0]) rfl agg78 h1, rfl, trivial⟩, Ret.mk hS ?_⟩
 exact ⟨_, rfl, (clsApiDigest (⟨(⟨x2.e0 ^^^ ((16842752 : UInt32) ^^^ (ofI32 a0)), x2.e1, x2.e2, x2.e3, x2.e4, x2.e5, x2.e6, x2.e7⟩ : St76), [], (0 : UInt64), a0⟩ : ApiDigest) (R.of_SL (.inl ⟨rfl, none, 0, rfl, fun _ => rfl⟩)))⟩
theorem slices_Grow_byte_byte_nl_own_w {s : St} {a1 : Int} {r : (List UInt8)}  (h : slices_Grow_byte_byte_nl a1 = some r) : Calls Tryz.prog 92 #[.slice none 0 0, .int .i64 a1] s.w (Ret s K0 (fun s1 v => ∃ (u0 : Value), ∃ (lu0 : Lab), v = u0 ∧ (s.n < lu0.o ∧ lu0.c = 0) ∧ Own s1 lu0 5 1 u0 (r.map bD))) := by
 unfold slices_Grow_byte_byte_nl at h
 have hS := Step.r0 K0 s
 refine k_fn (rs := [4]) (args := [.slice none 0 0, .int .i64 a1]) Tryz.func92 rfl rfl rfl rfl (jAg (jAa (jAd rfl rfl (jAi (jAg (jAg (jAa (jAc rfl rfl (jBw rfl rfl rfl (jAi (jAh [(0, _), (1, _), (4, _), (6, _)] ⟨rfl, rfl, rfl, rfl, trivial⟩ (jAl rfl (fun c1 => ?_) (fun c1 => ?_)))))))))))))
 ·
  have h := itT h c1
  exact jAa ((noneNe h).elim)
 have h := itF h c1
 refine jAv (jAg (jAg (jAa (jAc rfl rfl (jAc rfl rfl (k_cap_nil Tryz.underlying43 rfl rfl (jAc rfl rfl (jCj Tryz.underlying43 rfl ⟨_, _, rfl⟩ rfl (jDa rfl rfl rfl (k_as (v := .int .i64 0) (by first | rfl | decide) (jDa rfl rfl rfl (jAd rfl rfl (jAi (jAh [(0, _), (1, _), (4, _)] ⟨rfl, rfl, rfl, trivial⟩ (jAg (jAa (jAc rfl rfl (jCu rfl rfl rfl (jAi (jAh [(0, _), (1, _), (4, _), (16, _)] ⟨rfl, rfl, rfl, rfl, trivial⟩ (jAl rfl (fun c2 => ?_) (fun c2 => ?_))))))))))))))))))))))
 ·
  have h := itT h c2
  refine jAa (jAc rfl rfl (jAc rfl rfl (k_cap_nil Tryz.underlying43 rfl rfl (k_cut_nil Tryz.underlying43 size5 rfl rfl rfl (jAc rfl rfl ?_)))))
  by_cases c3 : 0 < i64 (a1 - 0)
  case neg => exact (noneNe (itF h c3)).elim
  replace h := itT h c3
  by_cases c4 : i64 (a1 - 0) ≤ 140737488355328
  case neg => exact (noneNe (itF h c4)).elim
  replace h := itT h c4
  obtain ⟨m5, em5⟩ : ∃ m : Nat, i64 (a1 - 0) = (m : Int) := ⟨(i64 (a1 - 0)).toNat, by omega⟩
  refine k_append_zeros (m := m5) elem43 Tryz.underlying3 rfl (congrArg (fun z => some (Value.int .i64 z)) em5) (by omega) (by omega) (by omega) rfl ?_
  intro s5 v5 st5 h5
  have := st5.size
  have hS := hS.trans0 st5
  refine jAc rfl rfl (jCj Tryz.underlying43 rfl ⟨_, _, rfl⟩ rfl (k_cut_row0 Tryz.underlying43 size5 rfl h5 rfl rfl ?_))
  intro v6 h6
  replace h6 : Own s5 ⟨s.n + 1, 0⟩ 5 1 v6 (([] : List UInt8).map bD) := h6
  have lt6 := Own.le1 h6
  refine jAd rfl rfl (jAi (jAh [(0, _), (4, _)] ⟨rfl, rfl, trivial⟩ (jAg (jAa (jAc rfl rfl (jAd rfl rfl (jAi (jAh [(4, _)] ⟨rfl, trivial⟩ (jAx ?_)))))))))
  obtain rfl := Option.some.inj h
  refine ⟨_, rfl, Ret.mk hS ?_⟩
  exact ⟨_, ⟨s.n + 1, 0⟩, rfl, ⟨by (try dsimp only); omega, rfl⟩, h6⟩
 have h := itF h c2
 refine jAv (jAg (jAa (jAc rfl rfl (jAd rfl rfl (jAi (jAh [(4, _)] ⟨rfl, trivial⟩ (jAx ?_)))))))
 obtain rfl := Option.some.inj h
 refine ⟨_, rfl, Ret.mk hS ?_⟩
 exact ⟨_, ⟨s.n + 1, 0⟩, rfl, ⟨by show s.n < s.n + 1; omega, rfl⟩, Own.nil (by simp) (Nat.le_refl _)⟩
theorem slices_Concat_byte_byte_w {s : St} {l0 : Lab} {v0 : Value} {a0 : (List (List UInt8))} {r : (List UInt8)} (hp0 : SL s l0 v0 1 (a0.map (dL 1 bD))) (h : slices_Concat_byte_byte a0 = some r) : Calls Tryz.prog 73 #[v0] s.w (Ret s K0 (fun s1 v => ∃ (u0 : Value), v = u0 ∧ R s1 u0 (.sl 1 (r.map bD)))) := by
 unfold slices_Concat_byte_byte at h
 obtain ⟨lf0, lf0le, lf0ne, hp0⟩ := hp0.fix
 have hS := Step.r0 K0 s
 refine k_fn (rs := [2]) (args := [v0]) Tryz.func73 rfl rfl rfl rfl (jAg (jAa (jAd rfl rfl (jAi (jAg (jAa (jAd rfl rfl (jAi (jAg ?_)))))))))
 obtain ⟨kj1, hK1, h⟩ := jn_out h
 have hE1 := Step.r0 K0 s
 refine jBp (X := St × Int) [(0, v0), (2, .slice none 0 0)] (fun (xL : St × Int) => match xL with | (sl, x2) => [(3, .int .i64 x2)]) (fun (xL : St × Int) (wL : World) => match xL with | (sl, x2) => sl.w = wL ∧ Step K0 s sl ∧ kj1 x2 = some r) ?_ ?_
 ·
  refine jAg (jAa (jAc rfl rfl (jCj Tryz.underlying62 rfl hp0.hasLen rfl (k_as (v := .int .i64 (a0.length : Int)) (by simp only [List.length_map]) (jAc rfl rfl (jAi (jAw (jBr (X := St × Int × Int × Nat) [(0, _), (2, _), (9, _), (10, _)] (fun (xL : St × Int × Int × Nat) => match xL with | (sl, x3, x4, j) => [(3, .int .i64 x3), (11, .int .i64 x4)]) (fun (xL : St × Int × Int × Nat) (wL : World) => match xL with | (sl, x3, x4, j) => sl.w = wL ∧ Step K0 s sl ∧ slices_Concat_byte_byte_l1 a0 kj1 j x3 x4 = some r) (fun (xL : St × Int × Int × Nat) => match xL with | (sl, x3, x4, j) => j) (s, 0, 0, FU) ⟨rfl, rfl, rfl, rfl, trivial⟩ ⟨lr, lr, trivial⟩ ⟨rfl, (Step.refl _).of0 li, h⟩ ?_))))))))
  rintro ⟨s3, x3, x4, j⟩ wL ⟨rfl, hE2, h⟩
  cases j with
  | zero => rw [slices_Concat_byte_byte_l1] at h; exact (noneNe h).elim
  | succ j =>
  rw [slices_Concat_byte_byte_l1] at h
  have := hE2.size
  have hS := hS.trans0 hE2
  have hE1 := hE1.trans0 hE2
  replace hp0 := hp0.up2 hE2
  refine jAg (jAa (jBw rfl rfl rfl (jAi (jAg (jAl rfl (fun c4 => ?_) (fun c4 => ?_))))))
  ·
   have h := itT h c4
   refine jAv (jAg (jAw (jAg (jAa ?_))))
   obtain ⟨x5, hx5, h⟩ := ob h
   refine jCd Tryz.underlying62 size43 rfl rfl hp0 (jAk hx5).1 (jAr hx5) rfl ?_
   intro qx5 hqx5
   refine k_load_sl one43 rfl hqx5 rfl ?_
   intro v5 h5
   refine jAd rfl rfl (jAi (jAh [(0, _), (2, _), (3, _), (5, _), (9, _), (10, _), (11, _)] ⟨rfl, rfl, rfl, rfl, rfl, rfl, rfl, trivial⟩ (jAg (jAa (jAc rfl rfl (jAc rfl rfl (jCj Tryz.underlying43 rfl (SL.of_R h5).hasLen rfl (k_as (v := .int .i64 (x5.length : Int)) (by simp only [List.length_map]) (jBo rfl rfl rfl (jAd rfl rfl (jAi (jAh [(0, _), (2, _), (3, _), (9, _), (10, _), (11, _)] ⟨rfl, rfl, rfl, rfl, rfl, rfl, trivial⟩ (jAg (jAa (jAc rfl rfl (jBw rfl rfl rfl (jAi (jAh [(0, _), (2, _), (3, _), (9, _), (10, _), (11, _), (20, _)] ⟨rfl, rfl, rfl, rfl, rfl, rfl, rfl, trivial⟩ (jAl rfl (fun c6 => ?_) (fun c6 => ?_))))))))))))))))))))
   ·
    have h := itT h c6
    exact jAa ((noneNe h).elim)
   have h := itF h c6
   exact jAv (jCe (jAa (jBo rfl rfl rfl (jAc rfl rfl (jAi (jAu ⟨(s3, i64 (x3 + (x5.length : Int)), i64 (x4 + 1), j), ⟨lr, lr, trivial⟩, ⟨rfl, rfl, rfl, rfl, trivial⟩, ⟨rfl, hE2, h⟩, (by simp)⟩))))))
  have h := itF h c4
  exact jBq rfl (jAu ⟨(s3, x3), ⟨lr, trivial⟩, ⟨rfl, rfl, trivial⟩, ⟨rfl, hE1, h⟩⟩)
 rintro ⟨s7, x2⟩ wL ⟨rfl, hE1, h⟩
 rw [hK1] at h
 have := hE1.size
 have hS := hS.trans0 hE1
 replace hp0 := hp0.up2 hE1
 refine jAg (jAa (jAc rfl rfl ?_))
 obtain ⟨x6, hx6, h⟩ := ob h
 refine jAp cal92 rfl (slices_Grow_byte_byte_nl_own_w   hx6) rfl ?_
 rintro s8 v8_0 st8 ⟨_, l8_0, rfl, hl8_0, h8_0⟩
 have szs8 := st8.size
 have hS := hS.trans0 st8
 replace hp0 := hp0.up2 st8
 obtain ⟨l8_0, hl8_0, h8_0⟩ := Own.anew 2080 h8_0 hl8_0 szs8
 have lt8_0 := Own.le1 h8_0
 refine jAd rfl rfl (jAi (jAh [(0, _), (2, _), (6, _)] ⟨rfl, rfl, rfl, trivial⟩ (jAg ?_)))
 obtain ⟨kj7, hK9, h⟩ := jn_out h
 have hE9 := Step.r0 (KC l8_0.o l8_0.c) s8
 refine jBp (X := St × (List UInt8) × Value) [(2, .slice none 0 0)] (fun (xL : St × (List UInt8) × Value) => match xL with | (sl, x8, v10) => [(6, v10)]) (fun (xL : St × (List UInt8) × Value) (wL : World) => match xL with | (sl, x8, v10) => sl.w = wL ∧ Step (KC l8_0.o l8_0.c) s8 sl ∧ (Own sl ⟨l8_0.o, l8_0.c⟩ 5 1 v10 (x8.map bD)) ∧ kj7 x8 = some r) ?_ ?_
 ·
  refine jAg (jAa (jAc rfl rfl (jCj Tryz.underlying62 rfl hp0.hasLen rfl (k_as (v := .int .i64 (a0.length : Int)) (by simp only [List.length_map]) (jAc rfl rfl (jAi (jAh [(2, _), (6, _), (25, _), (26, _), (27, _)] ⟨rfl, rfl, rfl, rfl, rfl, trivial⟩ (jAw (jBr (X := St × (List UInt8) × Value × Int × Nat) [(2, _), (25, _), (26, _)] (fun (xL : St × (List UInt8) × Value × Int × Nat) => match xL with | (sl, x9, v12, x10, j) => [(6, v12), (27, .int .i64 x10)]) (fun (xL : St × (List UInt8) × Value × Int × Nat) (wL : World) => match xL with | (sl, x9, v12, x10, j) => sl.w = wL ∧ Step (KC l8_0.o l8_0.c) s8 sl ∧ (Own sl ⟨l8_0.o, l8_0.c⟩ 5 1 v12 (x9.map bD)) ∧ slices_Concat_byte_byte_l2 a0 kj7 j x9 x10 = some r) (fun (xL : St × (List UInt8) × Value × Int × Nat) => match xL with | (sl, x9, v12, x10, j) => j) (s8, x6, v8_0, 0, FU) ⟨rfl, rfl, rfl, trivial⟩ ⟨lr, lr, trivial⟩ ⟨rfl, (Step.refl _).of0 li, h8_0, h⟩ ?_)))))))))
  rintro ⟨s13, x9, v12, x10, j⟩ wL ⟨rfl, hE11, h12, h⟩
  cases j with
  | zero => rw [slices_Concat_byte_byte_l2] at h; exact (noneNe h).elim
  | succ j =>
  rw [slices_Concat_byte_byte_l2] at h
  have := hE11.size
  have hS := hS.c0 hE11
  have hE9 := hE9.c0 hE11
  replace hp0 := hp0.up2 hE11
  refine jAg (jAa (jBw rfl rfl rfl (jAi (jAg (jAl rfl (fun c14 => ?_) (fun c14 => ?_))))))
  ·
   have h := itT h c14
   refine jAv (jAg (jAw (jAg (jAa ?_))))
   obtain ⟨x11, hx11, h⟩ := ob h
   refine jCd Tryz.underlying62 size43 rfl rfl hp0 (jAk hx11).1 (jAr hx11) rfl ?_
   intro qx11 hqx11
   refine k_load_sl one43 rfl hqx11 rfl ?_
   intro v15 h15
   refine jAd rfl rfl (jAi (jAh [(2, _), (6, _), (8, _), (25, _), (26, _), (27, _)] ⟨rfl, rfl, rfl, rfl, rfl, rfl, trivial⟩ (jAa (jAc rfl rfl (jAc rfl rfl ?_)))))
   obtain ⟨x12, hx12, h⟩ := ob h
   refine k_append (es := x11.map bD) elem43 rfl rfl h12 (SL.of_R h15) (by have := (jAm hx12).1; simp only [List.length_map] at *; omega) (by have := (jAm hx12).1; simp only [List.length_map] at *; omega) rfl ?_
   intro s16 v16 st16 h16
   rw [← List.map_append, ← (jAm hx12).2] at h16
   have := st16.size
   have hS := hS.c0 st16
   have hE9 := hE9.c0 st16
   have hE11 := hE11.c0 st16
   exact jAd rfl rfl (jAi (jCe (jAa (jBo rfl rfl rfl (jAc rfl rfl (jAi (jAu ⟨(s16, x12, v16, i64 (x10 + 1), j), ⟨lr, lr, trivial⟩, ⟨rfl, rfl, rfl, trivial⟩, ⟨rfl, hE11, h16, h⟩, (by simp)⟩)))))))
  have h := itF h c14
  exact jBq rfl (jAu ⟨(s13, x9, v12), ⟨lr, trivial⟩, ⟨rfl, trivial⟩, ⟨rfl, hE9, h12, h⟩⟩)
 rintro ⟨s17, x8, v10⟩ wL ⟨rfl, hE9, h10, h⟩
 rw [hK9] at h
 have := hE9.size
 have hS := hS.c0 hE9
 refine jAg (jAa (jAc rfl rfl (jAd rfl rfl (jAi (jAh [(2, _)] ⟨rfl, trivial⟩ (jAx ?_))))))
 obtain ⟨s18, e18, st18, h18⟩ := h10.freeze
 rw [← e18]
 have := st18.size
 have hS := hS.c0 st18
 obtain rfl := Option.some.inj h
 refine ⟨_, rfl, Ret.mk hS ?_⟩
 exact ⟨_, rfl, h18⟩
theorem digest_words_w {s : St} {l0 : Lab} {v0 : Value} {a0 : (List UInt8)} {r : (List UInt32)} (hp0 : SL s l0 v0 1 (a0.map bD)) (h : digest_words a0 = some r) : Calls Tryz.prog 93 #[v0] s.w (Ret s K0 (fun s1 v => v = .agg ([] ++ r.map cU).toArray ∧ r.length = 16)) := by
 unfold digest_words at h
 obtain ⟨lf0, lf0le, lf0ne, hp0⟩ := hp0.fix
 have hS := Step.r0 K0 s
 refine jCy (rs := [.cell 2 117]) (args := [v0]) Tryz.func93 rfl rfl rfl rfl (jAg (jAa (jBj zero117 rfl ?_)))
 intro s1 b1 st1 h1 ge1
 have := st1.size
 have hS := hS.trans0 st1
 replace hp0 := hp0.up2 st1
 have lt1 := h1.lt
 refine jAi (jAg ?_)
 obtain ⟨kj1, hK2, h⟩ := jn_out h
 have hE2 := Step.r0 (KC (b1 + 1) 0) s1
 refine jBp (X := St × (List UInt32)) [(2, pZ b1)] (fun (xL : St × (List UInt32)) => match xL with | (sl, x2) => []) (fun (xL : St × (List UInt32)) (wL : World) => match xL with | (sl, x2) => sl.w = wL ∧ Step (KC (b1 + 1) 0) s1 sl ∧ (x2.length = 16) ∧ (Blk sl b1 ⟨b1 + 1, 0⟩ (([] : List Value) ++ x2.map cU) 117) ∧ kj1 x2 = some r) ?_ ?_
 ·
  refine jAg (jAa (jAc rfl rfl (jCj Tryz.underlying43 rfl hp0.hasLen rfl (k_as (v := .int .i64 (a0.length : Int)) (by simp only [List.length_map]) (jAc rfl rfl (jAi (jAh [(2, _), (5, _), (6, _), (7, _)] ⟨rfl, rfl, rfl, rfl, trivial⟩ (jAw (jBr (X := St × Int × (List UInt32) × Nat) [(2, _), (5, _), (6, _)] (fun (xL : St × Int × (List UInt32) × Nat) => match xL with | (sl, x3, x4, j) => [(7, .int .i64 x3)]) (fun (xL : St × Int × (List UInt32) × Nat) (wL : World) => match xL with | (sl, x3, x4, j) => sl.w = wL ∧ Step (KC (b1 + 1) 0) s1 sl ∧ (x4.length = 16) ∧ (Blk sl b1 ⟨b1 + 1, 0⟩ (([] : List Value) ++ x4.map cU) 117) ∧ digest_words_l1 a0 kj1 j x3 x4 = some r) (fun (xL : St × Int × (List UInt32) × Nat) => match xL with | (sl, x3, x4, j) => j) (s1, 0, (List.replicate 16 (0 : UInt32)), FU) ⟨rfl, rfl, rfl, trivial⟩ ⟨lr, trivial⟩ ⟨rfl, (Step.refl _).of0 li, (List.length_replicate), h1, h⟩ ?_)))))))))
  rintro ⟨s6, x3, x4, j⟩ wL ⟨rfl, hE4, h5, h1, h⟩
  cases j with
  | zero => rw [digest_words_l1] at h; exact (noneNe h).elim
  | succ j =>
  rw [digest_words_l1] at h
  have := hE4.size
  have hS := hS.c0 hE4
  have hE2 := hE2.c0 hE4
  replace hp0 := hp0.up2 hE4
  refine jAg (jAa (jBw rfl rfl rfl (jAi (jAg (jAl rfl (fun c7 => ?_) (fun c7 => ?_))))))
  ·
   have h := itT h c7
   refine jAv (jAg (jAw (jAg (jAa (jAc rfl rfl ?_)))))
   obtain ⟨x5, hx5, h⟩ := ob h
   refine jCd Tryz.underlying43 size5 rfl rfl hp0 (jAk hx5).1 (jAr hx5) rfl ?_
   intro qx5 hqx5
   refine jAq one5 rfl hqx5 rfl (jAd rfl rfl (jAd rfl rfl (jAi (jAh [(2, _), (3, _), (4, _), (5, _), (6, _), (7, _)] ⟨rfl, rfl, rfl, rfl, rfl, rfl, trivial⟩ (jBl (KN s6.n) 10 (.read 0 (.read 1 (.read 2 (.read 3 (.read 4 (.read 5 (.read 6 (.read 7 (.read 8 (.read 9 .fin)))))))))) mixed lw rfl rfl rfl ?_)))))
   intro s8 st8
   have := st8.size
   have hS := hS.trans0 st8
   have hE2 := hE2.trans0 st8
   have hE4 := hE4.trans0 st8
   replace h1 := h1.up2 st8
   refine jAb (.int .i64 x3) rfl rfl (fun s9 st9 => ?_) ?_
   ·exact jAc rfl rfl (jAe)
   refine jAb (.int .i64 (i64 (x3.tdiv 4))) rfl rfl (fun s10 st10 => ?_) ?_
   ·exact k_quo rfl rfl (by decide) rfl (jAe)
   obtain ⟨x6, hx6, h⟩ := ob h
   refine jAb (.pointer (some ⟨b1, 0 + (i64 (x3.tdiv 4) : Int).toNat, none⟩)) rfl rfl (fun s11 st11 => ?_) ?_
   ·exact jBx (m := 0) arr117 rfl rfl h5 hx6 rfl (jAe)
   obtain ⟨x7, hx7, h⟩ := ob h
   refine jAb (cU x7) rfl rfl (fun s12 st12 => ?_) ?_
   ·try replace h1 := h1.up2 st12
    exact jBv cU (pre := []) (xs := x4) one75 rfl h1 rfl hx7 rfl (jAe)
   refine jAb (cB x5) rfl rfl (fun s13 st13 => ?_) ?_
   ·exact jAc rfl rfl (jAe)
   refine jAb (cU (ofI32 (x5.toNat : Int))) rfl rfl (fun s14 st14 => ?_) ?_
   ·exact jBz (p := (x5.toNat : Int)) Tryz.underlying5 Tryz.underlying75 rfl rfl (k_as (congrArg (Value.int .u32) (w32 _)) (jAe))
   refine jAb (.int .i64 x3) rfl rfl (fun s15 st15 => ?_) ?_
   ·exact jAc rfl rfl (jAe)
   refine jAb (.int .i64 (x3.tmod 4)) rfl rfl (fun s16 st16 => ?_) ?_
   ·exact k_rem rfl rfl (by decide) rfl (jAe)
   refine jAb (.int .i64 (i64 (8 * (x3.tmod 4)))) rfl rfl (fun s17 st17 => ?_) ?_
   ·exact jDi rfl rfl rfl (jAe)
   by_cases c19 : 0 ≤ i64 (8 * (x3.tmod 4))
   case neg => exact (noneNe (itF h c19)).elim
   replace h := itT h c19
   refine jAb (cU (ofI32 (((ofI32 (x5.toNat : Int)).toNat : Int) * 2 ^ (min (i64 (8 * (x3.tmod 4))).toNat 32)))) rfl rfl (fun s18 st18 => ?_) ?_
   ·exact k_shl rfl rfl c19 rfl (k_as (congrArg (Value.int .u32) (w32 _)) (jAe))
   refine jBg (jCm (p := (x7.toNat : Int)) (q := ((ofI32 (((ofI32 (x5.toNat : Int)).toNat : Int) * 2 ^ (min (i64 (8 * (x3.tmod 4))).toNat 32))).toNat : Int)) (.inr (.inl ⟨rfl, rfl⟩)) rfl rfl rfl (k_as (congrArg (Value.int .u32) (or32 _ _)) ?_))
   obtain ⟨x8, hx8, h⟩ := ob h
   refine jBx (m := 0) arr117 rfl rfl h5 hx8 rfl ?_
   obtain ⟨x9, hx9, h⟩ := ob h
   refine jCg cU (fun _ => rfl) (v := x7 ||| (ofI32 (((ofI32 (x5.toNat : Int)).toNat : Int) * 2 ^ (min (i64 (8 * (x3.tmod 4))).toNat 32)))) (pre := []) (xs := x4) size75 rfl rfl h1 lz rfl hx9 ?_
   intro s20 st20 h1
   have hl20 : (x4.set (i64 (x3.tdiv 4) : Int).toNat (x7 ||| (ofI32 (((ofI32 (x5.toNat : Int)).toNat : Int) * 2 ^ (min (i64 (8 * (x3.tmod 4))).toNat 32))))).length = 16 := by rw [List.length_set]; exact h5
   have := st20.size
   have hS := hS.c0 st20
   have hE2 := hE2.c0 st20
   have hE4 := hE4.c0 st20
   exact jAi (jCe (jAa (jBo rfl rfl rfl (jAc rfl rfl (jAi (jAu ⟨(s20, i64 (x3 + 1), (x4.set (i64 (x3.tdiv 4) : Int).toNat (x7 ||| (ofI32 (((ofI32 (x5.toNat : Int)).toNat : Int) * 2 ^ (min (i64 (8 * (x3.tmod 4))).toNat 32))))), j), ⟨lr, trivial⟩, ⟨rfl, rfl, rfl, trivial⟩, ⟨rfl, hE4, hl20, h1, h⟩, (by simp)⟩))))))
  have h := itF h c7
  exact jBq rfl (jAu ⟨(s6, x4), trivial, ⟨rfl, trivial⟩, ⟨rfl, hE2, h5, h1, h⟩⟩)
 rintro ⟨s21, x2⟩ wL ⟨rfl, hE2, h3, h1, h⟩
 rw [hK2] at h
 have := hE2.size
 have hS := hS.c0 hE2
 refine jAg (jAa (jAs (cs := (([] : List Value) ++ x2.map cU)) (by simp only [List.length_append, List.length_map, h3]; exact agg117) rfl h1 rfl (jDj (cs' := (([] : List Value) ++ x2.map cU)) size117 rfl rfl h1 lz (CellsOf.lit (vs := (([] : List Value) ++ x2.map cU)) rfl (ones.arrF (f := cU) _ (fun _ => rfl) rfl)) (by first | rfl | (simp only [List.length_append, List.length_map, List.length_replicate, h3, h3]; rfl)) (by first | rfl | (simp only [List.length_append, List.length_map, List.length_replicate, h3, h3]; rfl)) ?_)))
 intro s22 st22 h1
 have := st22.size
 have hS := hS.c0 st22
 refine jAi (jAh [(2, _)] ⟨rfl, trivial⟩ (jAx ?_))
 obtain rfl := Option.some.inj h
 refine ⟨[.agg (([] : List Value) ++ x2.map cU).toArray], ⟨res_blk (cs := (([] : List Value) ++ x2.map cU)) rfl (by simp only [List.length_append, List.length_map, h3]; exact agg117) h1, trivial⟩, Ret.mk hS ?_⟩
 exact ⟨rfl, h3⟩
theorem digest_orders_w {s : St}  {r : (List (List UInt8))}  (h : digest_orders = some r) : Calls Tryz.prog 94 #[] s.w (Ret s K0 (fun s1 v => v = .agg ([] ++ r.map S).toArray ∧ r.length = 10)) := by
 unfold digest_orders at h
 have hS := Step.r0 K0 s
 refine jCy (rs := [.cell 0 120]) (args := []) Tryz.func94 rfl rfl rfl rfl (jAg (jAa (jBj zero120 rfl ?_)))
 intro s1 b1 st1 h1 ge1
 have := st1.size
 have hS := hS.trans0 st1
 have lt1 := h1.lt
 refine jAi (jAg (jAa (jCx arr120 zero120 rfl (Parts.cons (CellsOf.lit rfl rfl).1 (Parts.cons (CellsOf.lit rfl rfl).1 (Parts.cons (CellsOf.lit rfl rfl).1 (Parts.cons (CellsOf.lit rfl rfl).1 (Parts.cons (CellsOf.lit rfl rfl).1 (Parts.cons (CellsOf.lit rfl rfl).1 (Parts.cons (CellsOf.lit rfl rfl).1 (Parts.cons (CellsOf.lit rfl rfl).1 (Parts.cons (CellsOf.lit rfl rfl).1 (Parts.cons (CellsOf.lit rfl rfl).1 Parts.nil)))))))))) (by rfl) rfl (k_as (v := .agg (([] : List Value) ++ ([([48, 49, 50, 51, 52, 53, 54, 55, 56, 57, 97, 98, 99, 100, 101, 102] : List UInt8), ([101, 97, 52, 56, 57, 102, 100, 54, 49, 99, 48, 50, 98, 55, 53, 51] : List UInt8), ([98, 56, 99, 48, 53, 50, 102, 100, 97, 101, 51, 54, 55, 49, 57, 52] : List UInt8), ([55, 57, 51, 49, 100, 99, 98, 101, 50, 54, 53, 97, 52, 48, 102, 56] : List UInt8), ([57, 48, 53, 55, 50, 52, 97, 102, 101, 49, 98, 99, 54, 56, 51, 100] : List UInt8), ([50, 99, 54, 97, 48, 98, 56, 51, 52, 100, 55, 53, 102, 101, 49, 57] : List UInt8), ([99, 53, 49, 102, 101, 100, 52, 97, 48, 55, 54, 51, 57, 50, 56, 98] : List UInt8), ([100, 98, 55, 101, 99, 49, 51, 57, 53, 48, 102, 52, 56, 54, 50, 97] : List UInt8), ([54, 102, 101, 57, 98, 51, 48, 56, 99, 50, 100, 55, 49, 52, 97, 53] : List UInt8), ([97, 50, 56, 52, 55, 54, 49, 53, 102, 98, 57, 101, 51, 99, 100, 48] : List UInt8)] : List (List UInt8)).map S).toArray) rfl (jDj (cs' := (([] : List Value) ++ ([([48, 49, 50, 51, 52, 53, 54, 55, 56, 57, 97, 98, 99, 100, 101, 102] : List UInt8), ([101, 97, 52, 56, 57, 102, 100, 54, 49, 99, 48, 50, 98, 55, 53, 51] : List UInt8), ([98, 56, 99, 48, 53, 50, 102, 100, 97, 101, 51, 54, 55, 49, 57, 52] : List UInt8), ([55, 57, 51, 49, 100, 99, 98, 101, 50, 54, 53, 97, 52, 48, 102, 56] : List UInt8), ([57, 48, 53, 55, 50, 52, 97, 102, 101, 49, 98, 99, 54, 56, 51, 100] : List UInt8), ([50, 99, 54, 97, 48, 98, 56, 51, 52, 100, 55, 53, 102, 101, 49, 57] : List UInt8), ([99, 53, 49, 102, 101, 100, 52, 97, 48, 55, 54, 51, 57, 50, 56, 98] : List UInt8), ([100, 98, 55, 101, 99, 49, 51, 57, 53, 48, 102, 52, 56, 54, 50, 97] : List UInt8), ([54, 102, 101, 57, 98, 51, 48, 56, 99, 50, 100, 55, 49, 52, 97, 53] : List UInt8), ([97, 50, 56, 52, 55, 54, 49, 53, 102, 98, 57, 101, 51, 99, 100, 48] : List UInt8)] : List (List UInt8)).map S)) size120 rfl rfl h1 lz (CellsOf.lit (vs := (([] : List Value) ++ ([([48, 49, 50, 51, 52, 53, 54, 55, 56, 57, 97, 98, 99, 100, 101, 102] : List UInt8), ([101, 97, 52, 56, 57, 102, 100, 54, 49, 99, 48, 50, 98, 55, 53, 51] : List UInt8), ([98, 56, 99, 48, 53, 50, 102, 100, 97, 101, 51, 54, 55, 49, 57, 52] : List UInt8), ([55, 57, 51, 49, 100, 99, 98, 101, 50, 54, 53, 97, 52, 48, 102, 56] : List UInt8), ([57, 48, 53, 55, 50, 52, 97, 102, 101, 49, 98, 99, 54, 56, 51, 100] : List UInt8), ([50, 99, 54, 97, 48, 98, 56, 51, 52, 100, 55, 53, 102, 101, 49, 57] : List UInt8), ([99, 53, 49, 102, 101, 100, 52, 97, 48, 55, 54, 51, 57, 50, 56, 98] : List UInt8), ([100, 98, 55, 101, 99, 49, 51, 57, 53, 48, 102, 52, 56, 54, 50, 97] : List UInt8), ([54, 102, 101, 57, 98, 51, 48, 56, 99, 50, 100, 55, 49, 52, 97, 53] : List UInt8), ([97, 50, 56, 52, 55, 54, 49, 53, 102, 98, 57, 101, 51, 99, 100, 48] : List UInt8)] : List (List UInt8)).map S)) rfl (ones.arrF (f := S) _ (fun _ => rfl) rfl)) (by first | rfl | (simp only [List.length_append, List.length_map, List.length_replicate, List.length_replicate, (rfl)]; rfl)) (by first | rfl | (simp only [List.length_append, List.length_map, List.length_replicate, List.length_replicate, (rfl)]; rfl)) ?_)))))
 intro s2 st2 h1
 have := st2.size
 have hS := hS.c0 st2
 refine jAi (jAh [(0, _)] ⟨rfl, trivial⟩ (jAx ?_))
 obtain rfl := Option.some.inj h
 refine ⟨[.agg (([] : List Value) ++ ([([48, 49, 50, 51, 52, 53, 54, 55, 56, 57, 97, 98, 99, 100, 101, 102] : List UInt8), ([101, 97, 52, 56, 57, 102, 100, 54, 49, 99, 48, 50, 98, 55, 53, 51] : List UInt8), ([98, 56, 99, 48, 53, 50, 102, 100, 97, 101, 51, 54, 55, 49, 57, 52] : List UInt8), ([55, 57, 51, 49, 100, 99, 98, 101, 50, 54, 53, 97, 52, 48, 102, 56] : List UInt8), ([57, 48, 53, 55, 50, 52, 97, 102, 101, 49, 98, 99, 54, 56, 51, 100] : List UInt8), ([50, 99, 54, 97, 48, 98, 56, 51, 52, 100, 55, 53, 102, 101, 49, 57] : List UInt8), ([99, 53, 49, 102, 101, 100, 52, 97, 48, 55, 54, 51, 57, 50, 56, 98] : List UInt8), ([100, 98, 55, 101, 99, 49, 51, 57, 53, 48, 102, 52, 56, 54, 50, 97] : List UInt8), ([54, 102, 101, 57, 98, 51, 48, 56, 99, 50, 100, 55, 49, 52, 97, 53] : List UInt8), ([97, 50, 56, 52, 55, 54, 49, 53, 102, 98, 57, 101, 51, 99, 100, 48] : List UInt8)] : List (List UInt8)).map S).toArray], ⟨res_blk (cs := (([] : List Value) ++ ([([48, 49, 50, 51, 52, 53, 54, 55, 56, 57, 97, 98, 99, 100, 101, 102] : List UInt8), ([101, 97, 52, 56, 57, 102, 100, 54, 49, 99, 48, 50, 98, 55, 53, 51] : List UInt8), ([98, 56, 99, 48, 53, 50, 102, 100, 97, 101, 51, 54, 55, 49, 57, 52] : List UInt8), ([55, 57, 51, 49, 100, 99, 98, 101, 50, 54, 53, 97, 52, 48, 102, 56] : List UInt8), ([57, 48, 53, 55, 50, 52, 97, 102, 101, 49, 98, 99, 54, 56, 51, 100] : List UInt8), ([50, 99, 54, 97, 48, 98, 56, 51, 52, 100, 55, 53, 102, 101, 49, 57] : List UInt8), ([99, 53, 49, 102, 101, 100, 52, 97, 48, 55, 54, 51, 57, 50, 56, 98] : List UInt8), ([100, 98, 55, 101, 99, 49, 51, 57, 53, 48, 102, 52, 56, 54, 50, 97] : List UInt8), ([54, 102, 101, 57, 98, 51, 48, 56, 99, 50, 100, 55, 49, 52, 97, 53] : List UInt8), ([97, 50, 56, 52, 55, 54, 49, 53, 102, 98, 57, 101, 51, 99, 100, 48] : List UInt8)] : List (List UInt8)).map S)) rfl (by simp only [List.length_append, List.length_map, (rfl)]; exact agg120) h1, trivial⟩, Ret.mk hS ?_⟩
 exact ⟨rfl, (rfl)⟩
theorem digest_quads_w {s : St}  {r : Unit}  (h : digest_quads = some r) : Calls Tryz.prog 95 #[] s.w (Ret s K0 (fun s1 v => v = .func (.func 105) #[] #[])) := by
 unfold digest_quads at h
 have hS := Step.r0 K0 s
 refine k_fn (rs := [0]) (args := []) Tryz.func95 rfl rfl rfl rfl (jAg (jAa (jAd rfl rfl (jAi (jAg (jAa (jAd rfl rfl (jAi (jAx ?_)))))))))
 obtain rfl := Option.some.inj h
 refine ⟨_, rfl, Ret.mk hS ?_⟩
 exact rfl
theorem digest_quads_1_1_w {s : St} {a0 : Int} {ub1 : Nat} {a1 : Int} {r : Int} (hp1 : BoxR s ub1 3 (dI64 a1)) (h : digest_quads_1_1 a0 a1 = some r) : Calls Tryz.prog 106 #[.int .i64 a0, pZ ub1] s.w (Ret s K0 (fun s1 v => v = .int .i64 r)) := by
 unfold digest_quads_1_1 at h
 obtain ⟨cs1, hb_b1, hp1⟩ := hp1
 obtain rfl := hp1.val_inv
 have lt1 := hb_b1.lt
 have hS := Step.r0 K0 s
 refine k_fn (rs := [3]) (args := [.int .i64 a0, pZ ub1]) Tryz.func106 rfl rfl rfl rfl (jAg (jAa (jAd rfl rfl (jAi (jAg (jAa (jAc rfl rfl (jDi rfl rfl rfl (jAj one3 rfl hb_b1 rfl rfl (jAc rfl rfl (jAj one3 rfl hb_b1 rfl rfl (k_quo rfl rfl (by decide) rfl (jDi rfl rfl rfl (jBo rfl rfl rfl (k_rem rfl rfl (by decide) rfl (jBo rfl rfl rfl (jAd rfl rfl (jAi (jAh [(3, _)] ⟨rfl, trivial⟩ (jAx ?_))))))))))))))))))))
 obtain rfl := Option.some.inj h
 refine ⟨_, rfl, Ret.mk hS ?_⟩
 exact rfl
theorem digest_quads_1_w {s : St} {l : Nat} {XT : Type} {a0 : XT → (Int × St125) → Option (Bool × XT)} {I : XT → St → Prop} {Ky : Lab → Prop} {a50 : XT} {r : XT} (hY : Yielder Tryz.prog s.n l (fun (sl : St) (y : Int × St125) (vs : List Value) => ∃ (u1 : List Value), vs = [.int .i64 y.1, .agg u1.toArray] ∧ RC sl u1 (dSt125 y.2)) a0 I Ky) (hI : I a50 s) (h : digest_quads_1 a0 a50 = some r) : Calls Tryz.prog 105 #[.func (.yield l) #[] #[]] s.w (Ret s (KB s.n Ky) (fun s1 v => v = .tuple #[] ∧ I r s1)) := by
 unfold digest_quads_1 at h
 replace hI := Cons.of hY hI (Nat.le_refl _)
 have hS := Step.r0 (KB s.n Ky) s
 refine k_fn (rs := []) (args := [.func (.yield l) #[] #[]]) Tryz.func105 rfl rfl rfl rfl (jAg (jAa (jAc rfl rfl (jAi (jAw (jBr (X := St × Int × XT × Nat) [(0, _)] (fun (xL : St × Int × XT × Nat) => match xL with | (sl, x1, x2, j) => [(4, .int .i64 x1)]) (fun (xL : St × Int × XT × Nat) (wL : World) => match xL with | (sl, x1, x2, j) => sl.w = wL ∧ Step (KB s.n Ky) s sl ∧ (Cons I s.n sl x2) ∧ digest_quads_1_l1 a0 j x1 x2 = some r) (fun (xL : St × Int × XT × Nat) => match xL with | (sl, x1, x2, j) => j) (s, 0, a50, FU) ⟨rfl, trivial⟩ ⟨lr, trivial⟩ ⟨rfl, (Step.refl _).of0 li, hI, h⟩ ?_))))))
 rintro ⟨s2, x1, x2, j⟩ wL ⟨rfl, hE1, hI, h⟩
 cases j with
 | zero => rw [digest_quads_1_l1] at h; exact (noneNe h).elim
 | succ j =>
 rw [digest_quads_1_l1] at h
 have := hE1.size
 have hS : Step (KB s.n Ky) s s2 := hS.comp hE1 (by intro l hl hk; (try simp only [KC, KO, KU, KN, K0, KB] at hk ⊢); (repeat' (refine Or.elim hk (fun hk => ?_) (fun hk => ?_))) <;> first | exact hk | exact .inl hk | exact .inr hk | exact .inr (.inl hk) | exact .inr (.inr hk) | omega)
 refine jAg (jAa (jBw rfl rfl rfl (jAi (jAg (jAl rfl (fun c3 => ?_) (fun c3 => ?_))))))
 ·
  have h := itT h c3
  refine jAv (jAg (jAw (jAg (jAa (jAc rfl rfl (jBj zero3 rfl ?_))))))
  intro s4 b4 st4 h4 ge4
  have := st4.size
  have hS := hS.trans0 st4
  have hE1 := hE1.trans0 st4
  replace hI := hI.up2 st4
  have lt4 := h4.lt
  refine jAo (cs' := [.int .i64 x1]) size3 rfl rfl h4 lz (CellsOf.lit rfl rfl) rfl lq rfl ?_
  intro s5 st5 h4
  have := st5.size
  have hS : Step (KB s.n Ky) s s5 := hS.comp st5 (by intro l hl hk; (try simp only [KC, KO, KU, KN, K0, KB] at hk ⊢); (repeat' (refine Or.elim hk (fun hk => ?_) (fun hk => ?_))) <;> first | exact hk | exact .inl hk | exact .inr hk | exact .inr (.inl hk) | exact .inr (.inr hk) | omega)
  have hE1 : Step (KB s.n Ky) s s5 := hE1.comp st5 (by intro l hl hk; (try simp only [KC, KO, KU, KN, K0, KB] at hk ⊢); (repeat' (refine Or.elim hk (fun hk => ?_) (fun hk => ?_))) <;> first | exact hk | exact .inl hk | exact .inr hk | exact .inr (.inl hk) | exact .inr (.inr hk) | omega)
  replace hI := hI.up2 st5
  refine jAi (jAh [(0, _), (2, _), (4, _)] ⟨rfl, rfl, rfl, trivial⟩ (jAg (jAa (jDg rfl rfl rfl (jAd rfl rfl (jAi (jAh [(0, _), (2, _), (3, _), (4, _)] ⟨rfl, rfl, rfl, rfl, trivial⟩ (jAg (jBl (KN s5.n) 11 (.read 0 (.read 1 (.read 2 (.read 4 (.read 6 (.read 8 (.alt 3 (.alt 5 (.alt 7 (.alt 9 (.read 10 .fin) .no) .no) .no) .no))))))) mixed lw rfl rfl rfl ?_)))))))))
  intro s6 st6
  have := st6.size
  have hS := hS.trans0 st6
  have hE1 := hE1.trans0 st6
  replace hI := hI.up2 st6
  replace h4 := h4.up2 st6
  refine jAb (.func (.yield l) #[] #[]) rfl rfl (fun s7 st7 => ?_) ?_
  ·exact jAc rfl rfl (jAe)
  refine jAb (.int .i64 x1) rfl rfl (fun s8 st8 => ?_) ?_
  ·try replace h4 := h4.up2 st8
   exact jAj one3 rfl h4 rfl rfl (jAe)
  refine jAb (.func (.func 106) #[] #[pZ b4]) rfl rfl (fun s9 st9 => ?_) ?_
  ·exact jAc rfl rfl (jAe)
  refine jAb (.func (.func 106) #[] #[pZ b4]) rfl rfl (fun s10 st10 => ?_) ?_
  ·exact jAc rfl rfl (jAe)
  refine jAb (.func (.func 106) #[] #[pZ b4]) rfl rfl (fun s11 st11 => ?_) ?_
  ·exact jAc rfl rfl (jAe)
  refine jAb (.func (.func 106) #[] #[pZ b4]) rfl rfl (fun s12 st12 => ?_) ?_
  ·exact jAc rfl rfl (jAe)
  refine jBa rfl rfl ?_
  have hA13 := Step.r0 (KN s5.n) s6
  obtain ⟨x3, hx3, h⟩ := ob h
  refine k_callv cal106 rfl rfl (digest_quads_1_1_w  (show BoxR s6 b4 3 (dI64 x1) from ⟨_, h4, RC.val _ rfl⟩) hx3) rfl ?_
  rintro s14 vr14 st14 rfl
  have := st14.size
  have hS := hS.trans0 st14
  have hE1 := hE1.trans0 st14
  have hA13 := hA13.trans0 st14
  replace hI := hI.up2 st14
  replace h4 := h4.up2 st14
  refine jAt hA13 (jBa rfl rfl ?_)
  have hA15 := Step.r0 (KN s5.n) s14
  obtain ⟨x4, hx4, h⟩ := ob h
  refine k_callv cal106 rfl rfl (digest_quads_1_1_w  (show BoxR s14 b4 3 (dI64 x1) from ⟨_, h4, RC.val _ rfl⟩) hx4) rfl ?_
  rintro s16 vr16 st16 rfl
  have := st16.size
  have hS := hS.trans0 st16
  have hE1 := hE1.trans0 st16
  have hA15 := hA15.trans0 st16
  replace hI := hI.up2 st16
  replace h4 := h4.up2 st16
  refine jAt hA15 (jBa rfl rfl ?_)
  have hA17 := Step.r0 (KN s5.n) s16
  obtain ⟨x5, hx5, h⟩ := ob h
  refine k_callv cal106 rfl rfl (digest_quads_1_1_w  (show BoxR s16 b4 3 (dI64 x1) from ⟨_, h4, RC.val _ rfl⟩) hx5) rfl ?_
  rintro s18 vr18 st18 rfl
  have := st18.size
  have hS := hS.trans0 st18
  have hE1 := hE1.trans0 st18
  have hA17 := hA17.trans0 st18
  replace hI := hI.up2 st18
  replace h4 := h4.up2 st18
  refine jAt hA17 (jBa rfl rfl ?_)
  have hA19 := Step.r0 (KN s5.n) s18
  obtain ⟨x6, hx6, h⟩ := ob h
  refine k_callv cal106 rfl rfl (digest_quads_1_1_w  (show BoxR s18 b4 3 (dI64 x1) from ⟨_, h4, RC.val _ rfl⟩) hx6) rfl ?_
  rintro s20 vr20 st20 rfl
  have := st20.size
  have hS := hS.trans0 st20
  have hE1 := hE1.trans0 st20
  have hA19 := hA19.trans0 st20
  replace hI := hI.up2 st20
  refine jAt hA19 (jAb (.agg #[.int .i64 x3, .int .i64 x4, .int .i64 x5, .int .i64 x6]) rfl rfl (fun s21 st21 => ?_) ?_)
  ·exact jCx arr125 zero125 rfl (Parts.cons (CellsOf.lit rfl rfl).1 (Parts.cons (CellsOf.lit rfl rfl).1 (Parts.cons (CellsOf.lit rfl rfl).1 (Parts.cons (CellsOf.lit rfl rfl).1 Parts.nil)))) (by rfl) rfl (k_as (v := .agg #[.int .i64 x3, .int .i64 x4, .int .i64 x5, .int .i64 x6]) rfl (jAe))
  refine jBg ?_
  obtain ⟨x7, hx7, h⟩ := ob h
  refine k_yield rfl rfl (hY.yield _ _ _ _ _ hI.2.1 hI.1 ⟨_, rfl, (clsSt125 (⟨x3, x4, x5, x6⟩ : St125))⟩ hx7) rfl ?_
  rintro s22 _ st22 ⟨rfl, hI⟩
  replace hI := Cons.of hY hI (Nat.le_trans (by omega) st22.size)
  have := st22.size
  have hS : Step (KB s.n Ky) s s22 := hS.comp st22 (by intro l hl hk; (try simp only [KC, KO, KU, KN, K0, KB] at hk ⊢); (repeat' (refine Or.elim hk (fun hk => ?_) (fun hk => ?_))) <;> first | exact hk | exact .inl hk | exact .inr hk | exact .inr (.inl hk) | exact .inr (.inr hk) | omega)
  have hE1 : Step (KB s.n Ky) s s22 := hE1.comp st22 (by intro l hl hk; (try simp only [KC, KO, KU, KN, K0, KB] at hk ⊢); (repeat' (refine Or.elim hk (fun hk => ?_) (fun hk => ?_))) <;> first | exact hk | exact .inl hk | exact .inr hk | exact .inr (.inl hk) | exact .inr (.inr hk) | omega)
  refine jDd rfl rfl (jAi (jAh [(0, _), (4, _), (20, _)] ⟨rfl, rfl, rfl, trivial⟩ (jCk rfl (fun c23 => ?_) (fun c23 => ?_))))
  ·
   have h := ibT h c23
   refine jAx ?_
   obtain rfl := Option.some.inj h
   refine ⟨_, rfl, Ret.mk hS ?_⟩
   exact ⟨rfl, hI.1⟩
  have h := ibF h c23
  exact jAv (jCe (jAa (jBo rfl rfl rfl (jAc rfl rfl (jAi (jAu ⟨(s22, i64 (x1 + 1), x7.2, j), ⟨lr, trivial⟩, ⟨rfl, trivial⟩, ⟨rfl, hE1, hI, h⟩, (by simp)⟩))))))
 have h := itF h c3
 refine jBq rfl (k_end ?_)
 obtain rfl := Option.some.inj h
 refine ⟨_, rfl, Ret.mk hS ?_⟩
 exact ⟨rfl, hI.1⟩
theorem digest_number_w {s : St} {a0 : UInt8} {r : Int}  (h : digest_number a0 = some r) : Calls Tryz.prog 97 #[cB a0] s.w (Ret s K0 (fun s1 v => v = .int .i64 r)) := by
 unfold digest_number at h
 have hS := Step.r0 K0 s
 refine k_fn (rs := [2]) (args := [cB a0]) Tryz.func97 rfl rfl rfl rfl (jAg (jAa (jAd rfl rfl (jAi (jAg (jAg (jAa (jAc rfl rfl (k_geq rfl rfl rfl (jAi (jAh [(0, _), (2, _), (4, _)] ⟨rfl, rfl, rfl, trivial⟩ (jAl rfl (fun c1 => ?_) (fun c1 => ?_)))))))))))))
 ·
  have h := itT h c1
  refine jAg (jAa (jAc rfl rfl (jDa rfl rfl rfl (k_as (congrArg (Value.int .u8) (w8 _)) (jBz (p := ((ofI8 ((a0.toNat : Int) - 97)).toNat : Int)) Tryz.underlying5 Tryz.underlying3 rfl rfl (k_as (congrArg (Value.int .i64) (i64_b8 _)) (jBo rfl rfl rfl (jAd rfl rfl (jAi (jAh [(0, _), (2, _)] ⟨rfl, rfl, trivial⟩ (jAx ?_)))))))))))
  obtain rfl := Option.some.inj h
  refine ⟨_, rfl, Ret.mk hS ?_⟩
  exact rfl
 have h := itF h c1
 refine jAv (jAg (jAa (jAc rfl rfl (jDa rfl rfl rfl (k_as (congrArg (Value.int .u8) (w8 _)) (jBz (p := ((ofI8 ((a0.toNat : Int) - 48)).toNat : Int)) Tryz.underlying5 Tryz.underlying3 rfl rfl (k_as (congrArg (Value.int .i64) (i64_b8 _)) (jAd rfl rfl (jAi (jAh [(2, _)] ⟨rfl, trivial⟩ (jAx ?_)))))))))))
 obtain rfl := Option.some.inj h
 refine ⟨_, rfl, Ret.mk hS ?_⟩
 exact rfl
theorem bits_RotateLeft32_w {s : St} {a0 : UInt32} {a1 : Int} {r : UInt32}  (h : bits_RotateLeft32 a0 a1 = some r) : Calls Tryz.prog 108 #[cU a0, .int .i64 a1] s.w (Ret s K0 (fun s1 v => v = cU r)) := by
 unfold bits_RotateLeft32 at h
 have hS := Step.r0 K0 s
 refine k_fn (rs := [4]) (args := [cU a0, .int .i64 a1]) Tryz.func108 rfl rfl rfl rfl (jAg (jAa (jAd rfl rfl (jAi (jAg (jAa (jAc rfl rfl (jBz (p := a1) Tryz.underlying3 Tryz.underlying45 rfl rfl (k_as (congrArg (Value.int .u64) (w64 _)) (jCm (p := ((ofI64 a1).toNat : Int)) (q := ((31 : UInt64).toNat : Int)) (.inl ⟨rfl, rfl⟩) rfl rfl rfl (k_as (congrArg (Value.int .u64) (and64 _ _)) (jAd rfl rfl (jAi (jAh [(0, _), (4, _), (5, _)] ⟨rfl, rfl, rfl, trivial⟩ (jAg (jAa (jAc rfl rfl (jAc rfl rfl (k_shl rfl rfl (by omega) rfl (k_as (congrArg (Value.int .u32) (w32 _)) (jAc rfl rfl (jAc rfl rfl (jDa rfl rfl rfl (k_as (congrArg (Value.int .u64) (w64 _)) (k_shr (p := (a0.toNat : Int)) rfl rfl (by omega) rfl (k_as (congrArg (Value.int .u32) (shr32_eq _ _)) (jCm (p := ((ofI32 ((a0.toNat : Int) * 2 ^ (min ((((ofI64 a1) &&& (31 : UInt64)).toNat : Int)).toNat 32))).toNat : Int)) (q := ((shr32 a0 ((ofI64 (32 - (((ofI64 a1) &&& (31 : UInt64)).toNat : Int))).toNat : Int)).toNat : Int)) (.inr (.inl ⟨rfl, rfl⟩)) rfl rfl rfl (k_as (congrArg (Value.int .u32) (or32 _ _)) (jAd rfl rfl (jAi (jAh [(4, _)] ⟨rfl, trivial⟩ (jAx ?_))))))))))))))))))))))))))))))))
 obtain rfl := Option.some.inj h
 refine ⟨_, rfl, Ret.mk hS ?_⟩
 exact rfl
end Go.Proofs
