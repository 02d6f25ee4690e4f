/-
  PROVED: CodeChanged: for every input the law returns true, and its arguments read behind the call as before. No conditions.
-/
import Derived.Test.YtcagpghggohoiaaFwT
import Derived.Test.YtcagpghggohoiaaW021
import Derived.Test.YtcagpghggohoiaaQ02F
import Derived.Test.YtcagpghggohoiaaRows
import Derived.WalkKit
import Derived.ProofKit
import Derived.OpenShut
import Derived.ShutString
import Derived.ChangeOld
import Derived.Below
namespace Go.Proofs.Ytcagpghggohoiaa
open Go.Fw Go.Proofs
open Go.ChangeShapes Go.WideShapes Go.ChangeAt Go.RowKit
open Go.ChangeMaps (open_string shut_string)
set_option linter.unusedVariables false
theorem own : ownKnob Try.prog.godebug = none := by kernel_rfl
theorem laidOut : laidOutB Try.prog = true := by kernel_rfl
theorem full : closedB Try.prog [29, 3, 5] = true := by kernel_rfl
theorem ty29 {d : D} (h : Typed Try.prog 29 d) : ∃ x : UInt64, d = dU64 x ∧ True := by
  obtain ⟨n, rfl, hw⟩ := h.inv_int Try.underlying29
  have hb := bounds_u64 hw
  refine ⟨UInt64.ofNat n.toNat, ?_, trivial⟩
  show D.val (.int .u64 n) = D.val (.int .u64 ((UInt64.ofNat n.toNat).toNat : Int))
  rw [UInt64.toNat_ofNat', Nat.mod_eq_of_lt (by omega)]; congr 2; omega
theorem ty3 {d : D} (h : Typed Try.prog 3 d) : ∃ x : Int, d = dI64 x ∧ (-9223372036854775808 ≤ x ∧ x ≤ 9223372036854775807) := by
  obtain ⟨n, rfl, hw⟩ := h.inv_int Try.underlying3
  exact ⟨n, rfl, bounds_i64 hw⟩
theorem ty5 {d : D} (h : Typed Try.prog 5 d) : ∃ x : UInt8, d = bD x ∧ True := by
  obtain ⟨n, rfl, hw⟩ := h.inv_int Try.underlying5
  have hb := bounds_u8 hw
  refine ⟨UInt8.ofNat n.toNat, ?_, trivial⟩
  show D.val (.int .u8 n) = D.val (.int .u8 ((UInt8.ofNat n.toNat).toNat : Int))
  rw [UInt8.toNat_ofNat', Nat.mod_eq_of_lt (by omega)]; congr 2; omega
set_option maxRecDepth 100000 in
theorem lifted (os : Os) (started : os.Started) (H : Type) (enc : TypeId × Value → H) :
    ReturnsInHanded {} Try.checked os 5 .any (Rows.codeChangedSpec.pre6 enc Try.prog Try.f5 Rows.codeChangedRow.domain false) (Rows.codeChangedSpec.post enc Try.prog Try.f5 false true false false) := by
  refine returnsInHanded_of_change (C := Try.checked) own started (by kernel_rfl) Try.func5
    (ChangeSpec.witness6 (enc := enc) (C := Try.checked) false ⟨#[], #[.int .u64 0, .int .i64 0, .int .u8 0], []⟩ 8 (by kernel_rfl) (by kernel_rfl) (by kernel_rfl) (by kernel_rfl)) ?_
  intro W base args ds gs before hval0 hW hcnd _
  have hval : ∀ (j : Nat) t v, Try.f5.params[j]? = some t → args[j]? = some v → Value.okWide Try.prog W .any base t v := hval0
  have hW' := hW
  obtain ⟨p, q, hA0, hV, rfl, hfz, hnd⟩ := hW
  have hA : DataW.TrodAll enc Try.prog W 0 (fun _ => true) true Try.f5.params.toList args.toList ds p := hA0
  rw [Try.params5] at hA hval
  obtain ⟨v0, vs0, d0, ds0, p0, q0, hargs, rfl, rfl, h0, r0⟩ := trodAll_cons hA
  obtain ⟨v1, vs1, d1, ds1, p1, q1, rfl, rfl, rfl, h1, r1⟩ := trodAll_cons r0
  obtain ⟨v2, vs2, d2, ds2, p2, q2, rfl, rfl, rfl, h2, r2⟩ := trodAll_cons r1
  obtain ⟨rfl, rfl, rfl⟩ := trodAll_nil r2
  obtain rfl : args = #[v0, v1, v2] := by cases args; simp_all
  obtain ⟨rfl, rfl⟩ := trodVars_none hV
  have k0 := h0
  have k1 := h1
  have k2 := h2
  have lt0 : ∀ x ∈ p0, x.block < W.heap.size := by obtain ⟨m, hm⟩ := k0; exact DataW.trod_lt m _ _ _ hm
  have lt1 : ∀ x ∈ p1, x.block < W.heap.size := by obtain ⟨m, hm⟩ := k1; exact DataW.trod_lt m _ _ _ hm
  have lt2 : ∀ x ∈ p2, x.block < W.heap.size := by obtain ⟨m, hm⟩ := k2; exact DataW.trod_lt m _ _ _ hm
  obtain ⟨n0, rfl⟩ := okWide_int Try.underlying29 (hval 0 29 v0 rfl rfl)
  obtain ⟨x0, c0, t0⟩ := open_R laidOut full (by kernel_rfl) rfl k0
  obtain ⟨a0, rfl, o0⟩ := ty29 t0
  have e0 := c0.val_inv
  injection e0 with e0 _
  obtain ⟨n1, rfl⟩ := okWide_int Try.underlying3 (hval 1 3 v1 rfl rfl)
  obtain ⟨x1, c1, t1⟩ := open_R laidOut full (by kernel_rfl) rfl k1
  obtain ⟨a1, rfl, o1⟩ := ty3 t1
  have e1 := c1.val_inv
  injection e1 with e1 _
  obtain ⟨n2, rfl⟩ := okWide_int Try.underlying5 (hval 2 5 v2 rfl rfl)
  obtain ⟨x2, c2, t2⟩ := open_R laidOut full (by kernel_rfl) rfl k2
  obtain ⟨a2, rfl, o2⟩ := ty5 t2
  have e2 := c2.val_inv
  injection e2 with e2 _
  clear hA0 hval0
  have hw := law02_CodeChanged_w (s := St.init W)  (show law02_CodeChanged a0 a1 a2 = some true from CodeChanged_pure a0 a1 a2 o1.2)
  rw [← e0] at hw
  rw [← e1] at hw
  rw [← e2] at hw
  refine (below_of hw).mono fun e W' ⟨he, bel⟩ => ?_
  subst he
  exact ⟨_, rfl, _, _, _, [], _, [], hW', trodAll_mk1 (shut_bool Try.underlying4 _), (trodAll_cons_mk (Below.trod laidOut (by kernel_rfl) (of_decide_eq_true (by kernel_rfl)) k0 bel lt0) (trodAll_cons_mk (Below.trod laidOut (by kernel_rfl) (of_decide_eq_true (by kernel_rfl)) k1 bel lt1) (trodAll_cons_mk (Below.trod laidOut (by kernel_rfl) (of_decide_eq_true (by kernel_rfl)) k2 bel lt2) trodAll_mk0))), rfl, bel.frame _, fun h => by cases h⟩

theorem over : Rows.codeChangedRow.holds Try.pinned (OpenSpec.ofChange Rows.codeChangedSpec) :=
  OpenClaim.holds_of_wide 5 Try.f5 rfl rfl rfl rfl rfl rfl rfl ⟨rfl, rfl, rfl, rfl, rfl⟩ rfl rfl rfl rfl rfl (by kernel_rfl) Try.func5 (by kernel_rfl)
    (of_decide_eq_true (by kernel_rfl)) (by unfold Func.isWrapper; first | (rw [if_pos (by decide +kernel)]; kernel_rfl) | (rw [if_neg (by decide +kernel)]; exact ⟨rfl, rfl⟩))
    (fun os started H enc _ => lifted os started H enc)
theorem codeChanged_holds : Rows.CodeChangedSaid := over
#print axioms codeChanged_holds
end Go.Proofs.Ytcagpghggohoiaa
