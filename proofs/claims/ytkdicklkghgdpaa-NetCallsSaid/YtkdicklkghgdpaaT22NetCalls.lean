/-
  PROVED: NetCalls: for every input the law returns true, and its arguments read behind the call as before. No conditions.
-/
import Derived.Test.YtkdicklkghgdpaaFwT
import Derived.Test.YtkdicklkghgdpaaQ22J
import Derived.Test.YtkdicklkghgdpaaW22NetCalls1
import Derived.Test.YtkdicklkghgdpaaRows
import Derived.WalkKit
import Derived.ProofKit
import Derived.OpenShut
import Derived.ShutString
import Derived.ChangeOld
import Derived.Below
namespace Go.Proofs.Ytkdicklkghgdpaa
open Go.Fw Go.Proofs
open Go.ChangeShapes Go.WideShapes Go.ChangeAt Go.RowKit
open Go.ChangeMaps (open_string shut_string)
set_option linter.unusedVariables false
theorem own : ownKnob Try.prog.godebug = none := by kernel_rfl
theorem laidOut : laidOutB Try.prog = true := by kernel_rfl
theorem full : closedB Try.prog [3, 22, 32, 30, 23, 5] = true := by kernel_rfl
theorem ty3 {d : D} (h : Typed Try.prog 3 d) : ∃ x : Int, d = dI64 x ∧ (-9223372036854775808 ≤ x ∧ x ≤ 9223372036854775807) := by
  obtain ⟨n, rfl, hw⟩ := h.inv_int Try.underlying3
  exact ⟨n, rfl, bounds_i64 hw⟩
theorem ty30 {d : D} (h : Typed Try.prog 30 d) : ∃ x : UInt64, d = dU64 x ∧ True := by
  obtain ⟨n, rfl, hw⟩ := h.inv_int Try.underlying30
  have hb := bounds_u64 hw
  refine ⟨UInt64.ofNat n.toNat, ?_, trivial⟩
  show D.val (.int .u64 n) = D.val (.int .u64 ((UInt64.ofNat n.toNat).toNat : Int))
  rw [UInt64.toNat_ofNat', Nat.mod_eq_of_lt (by omega)]; congr 2; omega
theorem ty5 {d : D} (h : Typed Try.prog 5 d) : ∃ x : UInt8, d = bD x ∧ True := by
  obtain ⟨n, rfl, hw⟩ := h.inv_int Try.underlying5
  have hb := bounds_u8 hw
  refine ⟨UInt8.ofNat n.toNat, ?_, trivial⟩
  show D.val (.int .u8 n) = D.val (.int .u8 ((UInt8.ofNat n.toNat).toNat : Int))
  rw [UInt8.toNat_ofNat', Nat.mod_eq_of_lt (by omega)]; congr 2; omega
theorem cells5 : Try.prog.cellsOf 5 = 1 := by kernel_rfl
theorem ty23 {d : D} (h : Typed Try.prog 23 d) : ∃ x : (List UInt8), d = (dL 1 bD) x ∧ (x.length ≤ 9223372036854775807 ∧ ∀ y ∈ x, True) := by
  obtain ⟨l, rfl, hl, hx⟩ := h.inv_sl Try.underlying23
  obtain ⟨m, rfl, hm⟩ := all_of (f := bD) (ok := (fun y : UInt8 => True)) (l := l) (fun x hx' => ty5 (hx x hx'))
  have e : maxLen = 9223372036854775807 := by decide
  rw [List.length_map, e] at hl
  rw [cells5]
  exact ⟨m, rfl, hl, hm⟩
def okLaw22Call (x : Law22Call) : Prop := (-9223372036854775808 ≤ x.Do ∧ x.Do ≤ 9223372036854775807) ∧ (-9223372036854775808 ≤ x.A ∧ x.A ≤ 9223372036854775807) ∧ (-9223372036854775808 ≤ x.B ∧ x.B ≤ 9223372036854775807) ∧ True ∧ (x.Bytes.length ≤ 9223372036854775807 ∧ ∀ y ∈ x.Bytes, True)
theorem ty32 {d : D} (h : Typed Try.prog 32 d) : ∃ x : Law22Call, d = dLaw22Call x ∧ okLaw22Call x := by
  obtain ⟨l, rfl, hl, hx⟩ := h.inv_agg Try.underlying32
  match l, hl with
  | [d0, d1, d2, d3, d4], _ =>
    have t0 : Typed Try.prog 3 d0 := hx 0 _ d0 rfl rfl
    obtain ⟨x0, rfl, k0⟩ := ty3 t0
    have t1 : Typed Try.prog 3 d1 := hx 1 _ d1 rfl rfl
    obtain ⟨x1, rfl, k1⟩ := ty3 t1
    have t2 : Typed Try.prog 3 d2 := hx 2 _ d2 rfl rfl
    obtain ⟨x2, rfl, k2⟩ := ty3 t2
    have t3 : Typed Try.prog 30 d3 := hx 3 _ d3 rfl rfl
    obtain ⟨x3, rfl, k3⟩ := ty30 t3
    have t4 : Typed Try.prog 23 d4 := hx 4 _ d4 rfl rfl
    obtain ⟨x4, rfl, k4⟩ := ty23 t4
    exact ⟨⟨x0, x1, x2, x3, x4⟩, rfl, k0, k1, k2, k3, k4⟩
theorem cells32 : Try.prog.cellsOf 32 = 5 := by kernel_rfl
theorem ty22 {d : D} (h : Typed Try.prog 22 d) : ∃ x : (List Law22Call), d = (dL 5 dLaw22Call) x ∧ (x.length ≤ 9223372036854775807 ∧ ∀ y ∈ x, okLaw22Call y) := by
  obtain ⟨l, rfl, hl, hx⟩ := h.inv_sl Try.underlying22
  obtain ⟨m, rfl, hm⟩ := all_of (f := dLaw22Call) (ok := (fun y : Law22Call => okLaw22Call y)) (l := l) (fun x hx' => ty32 (hx x hx'))
  have e : maxLen = 9223372036854775807 := by decide
  rw [List.length_map, e] at hl
  rw [cells32]
  exact ⟨m, rfl, hl, hm⟩
set_option maxRecDepth 100000 in
theorem lifted (os : Os) (started : os.Started) (H : Type) (enc : TypeId × Value → H) :
    ReturnsInHanded {} Try.checked os 5 .any (Rows.netCallsSpec.pre6 enc Try.prog Try.f5 Rows.netCallsRow.domain false) (Rows.netCallsSpec.post enc Try.prog Try.f5 false true false false) := by
  refine returnsInHanded_of_change (C := Try.checked) own started (by kernel_rfl) Try.func5
    (ChangeSpec.witness6 (enc := enc) (C := Try.checked) false ⟨#[], #[.int .i64 0, .slice none 0 0, .slice none 0 0], []⟩ 8 (by kernel_rfl) (by kernel_rfl) (by kernel_rfl) (by kernel_rfl)) ?_
  intro W base args ds gs before hval0 hW hcnd _
  have hval : ∀ (j : Nat) t v, Try.f5.params[j]? = some t → args[j]? = some v → Value.okWide Try.prog W .any base t v := hval0
  have hW' := hW
  obtain ⟨p, q, hA0, hV, rfl, hfz, hnd⟩ := hW
  have hA : DataW.TrodAll enc Try.prog W 0 (fun _ => true) true Try.f5.params.toList args.toList ds p := hA0
  rw [Try.params5] at hA hval
  obtain ⟨v0, vs0, d0, ds0, p0, q0, hargs, rfl, rfl, h0, r0⟩ := trodAll_cons hA
  obtain ⟨v1, vs1, d1, ds1, p1, q1, rfl, rfl, rfl, h1, r1⟩ := trodAll_cons r0
  obtain ⟨v2, vs2, d2, ds2, p2, q2, rfl, rfl, rfl, h2, r2⟩ := trodAll_cons r1
  obtain ⟨rfl, rfl, rfl⟩ := trodAll_nil r2
  obtain rfl : args = #[v0, v1, v2] := by cases args; simp_all
  obtain ⟨rfl, rfl⟩ := trodVars_none hV
  have k0 := h0
  have k1 := h1
  have k2 := h2
  have lt0 : ∀ x ∈ p0, x.block < W.heap.size := by obtain ⟨m, hm⟩ := k0; exact DataW.trod_lt m _ _ _ hm
  have lt1 : ∀ x ∈ p1, x.block < W.heap.size := by obtain ⟨m, hm⟩ := k1; exact DataW.trod_lt m _ _ _ hm
  have lt2 : ∀ x ∈ p2, x.block < W.heap.size := by obtain ⟨m, hm⟩ := k2; exact DataW.trod_lt m _ _ _ hm
  obtain ⟨n0, rfl⟩ := okWide_int Try.underlying3 (hval 0 3 v0 rfl rfl)
  obtain ⟨x0, c0, t0⟩ := open_R laidOut full (by kernel_rfl) rfl k0
  obtain ⟨a0, rfl, o0⟩ := ty3 t0
  have e0 := c0.val_inv
  injection e0 with e0 _
  obtain ⟨s1, len1, cap1, rfl⟩ := okWide_slice Try.underlying22 (hval 1 22 v1 rfl rfl)
  obtain ⟨x1, c1, t1⟩ := open_R laidOut full (by kernel_rfl) rfl k1
  obtain ⟨a1, rfl, o1⟩ := ty22 t1
  obtain ⟨s2, len2, cap2, rfl⟩ := okWide_slice Try.underlying22 (hval 2 22 v2 rfl rfl)
  obtain ⟨x2, c2, t2⟩ := open_R laidOut full (by kernel_rfl) rfl k2
  obtain ⟨a2, rfl, o2⟩ := ty22 t2
  clear hA0 hval0
  have hw := law22_NetCalls_w (s := St.init W) (SL.of_R c1) (SL.of_R c2) (show law22_NetCalls a0 a1 a2 = some true from NetCalls_pure a0 a1 a2 o1.1 (fun x hx => (o1.2 x hx).2.2.2.2.1) o2.1 (fun x hx => (o2.2 x hx).2.2.2.2.1))
  rw [← e0] at hw
  refine (below_of hw).mono fun e W' ⟨he, bel⟩ => ?_
  subst he
  exact ⟨_, rfl, _, _, _, [], _, [], hW', trodAll_mk1 (shut_bool Try.underlying4 _), (trodAll_cons_mk (Below.trod laidOut (by kernel_rfl) (of_decide_eq_true (by kernel_rfl)) k0 bel lt0) (trodAll_cons_mk (Below.trod laidOut (by kernel_rfl) (of_decide_eq_true (by kernel_rfl)) k1 bel lt1) (trodAll_cons_mk (Below.trod laidOut (by kernel_rfl) (of_decide_eq_true (by kernel_rfl)) k2 bel lt2) trodAll_mk0))), rfl, bel.frame _, fun h => by cases h⟩

theorem over : Rows.netCallsRow.holds Try.pinned (OpenSpec.ofChange Rows.netCallsSpec) :=
  OpenClaim.holds_of_wide 5 Try.f5 rfl rfl rfl rfl rfl rfl rfl ⟨rfl, rfl, rfl, rfl, rfl⟩ rfl rfl rfl rfl rfl (by kernel_rfl) Try.func5 (by kernel_rfl)
    (of_decide_eq_true (by kernel_rfl)) (by unfold Func.isWrapper; first | (rw [if_pos (by decide +kernel)]; kernel_rfl) | (rw [if_neg (by decide +kernel)]; exact ⟨rfl, rfl⟩))
    (fun os started H enc _ => lifted os started H enc)
theorem netCalls_holds : Rows.NetCallsSaid := over
#print axioms netCalls_holds
end Go.Proofs.Ytkdicklkghgdpaa
