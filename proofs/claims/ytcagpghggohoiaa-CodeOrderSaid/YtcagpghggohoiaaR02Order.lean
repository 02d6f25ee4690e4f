/-
  PROVED: CodeOrder: for every input the law returns true, and its arguments read behind the call as before. No conditions.
-/
import Derived.Test.YtcagpghggohoiaaFwT
import Derived.Test.YtcagpghggohoiaaY02M
import Derived.Test.YtcagpghggohoiaaRows
import Derived.WalkKit
import Derived.ProofKit
import Derived.OpenShut
import Derived.ShutString
import Derived.ChangeOld
import Derived.Below
namespace Go.Proofs.Ytcagpghggohoiaa
open Go.Fw Go.Proofs
open Go.ChangeShapes Go.WideShapes Go.ChangeAt Go.RowKit
open Go.ChangeMaps (open_string shut_string)
set_option linter.unusedVariables false
theorem own : ownKnob Try.prog.godebug = none := by kernel_rfl
theorem laidOut : laidOutB Try.prog = true := by kernel_rfl
theorem full : closedB Try.prog [22, 29] = true := by kernel_rfl
theorem cells29 : Try.prog.cellsOf 29 = 1 := by kernel_rfl
theorem nums (W : World) {v : Value} {d : D} (h : RC (St.init W) [v] d) (ht : Typed Try.prog 22 d) : ∃ l : List Nat, R (St.init W) v (.sl 1 (l.map uD)) ∧ (∀ x ∈ l, x < 18446744073709551616) ∧ l.length ≤ 9223372036854775807 := by
  obtain ⟨l, rfl, hl, hx⟩ := ht.inv_sl Try.underlying22
  obtain ⟨m, rfl, hm⟩ := all_of (f := uD) (ok := fun n => n < 18446744073709551616) (l := l) (fun x hx' => by
    obtain ⟨n, rfl, hw⟩ := (hx x hx').inv_int Try.underlying29
    have := bounds_u64 hw
    exact ⟨n.toNat, by unfold uD; congr 2; omega, by omega⟩)
  rw [cells29] at h
  refine ⟨m, h, hm, ?_⟩
  have : maxLen = 9223372036854775807 := by decide
  rw [List.length_map, this] at hl
  exact hl
set_option maxRecDepth 100000 in
theorem lifted (os : Os) (started : os.Started) (H : Type) (enc : TypeId × Value → H) :
    ReturnsInHanded {} Try.checked os 3 .any (Rows.codeOrderSpec.pre6 enc Try.prog Try.f3 Rows.codeOrderRow.domain false) (Rows.codeOrderSpec.post enc Try.prog Try.f3 false true false false) := by
  refine returnsInHanded_of_change (C := Try.checked) own started (by kernel_rfl) Try.func3
    (ChangeSpec.witness6 (enc := enc) (C := Try.checked) false ⟨#[], #[.slice none 0 0, .slice none 0 0], []⟩ 8 (by kernel_rfl) (by kernel_rfl) (by kernel_rfl) (by kernel_rfl)) ?_
  intro W base args ds gs before hval0 hW hcnd _
  have hval : ∀ (j : Nat) t v, Try.f3.params[j]? = some t → args[j]? = some v → Value.okWide Try.prog W .any base t v := hval0
  have hW' := hW
  obtain ⟨p, q, hA0, hV, rfl, hfz, hnd⟩ := hW
  have hA : DataW.TrodAll enc Try.prog W 0 (fun _ => true) true Try.f3.params.toList args.toList ds p := hA0
  rw [Try.params3] at hA hval
  obtain ⟨v0, vs0, d0, ds0, p0, q0, hargs, rfl, rfl, h0, r0⟩ := trodAll_cons hA
  obtain ⟨v1, vs1, d1, ds1, p1, q1, rfl, rfl, rfl, h1, r1⟩ := trodAll_cons r0
  obtain ⟨rfl, rfl, rfl⟩ := trodAll_nil r1
  obtain rfl : args = #[v0, v1] := by cases args; simp_all
  obtain ⟨rfl, rfl⟩ := trodVars_none hV
  have k0 := h0
  have k1 := h1
  have lt0 : ∀ x ∈ p0, x.block < W.heap.size := by obtain ⟨m, hm⟩ := k0; exact DataW.trod_lt m _ _ _ hm
  have lt1 : ∀ x ∈ p1, x.block < W.heap.size := by obtain ⟨m, hm⟩ := k1; exact DataW.trod_lt m _ _ _ hm
  obtain ⟨a0, len0, cap0, rfl⟩ := okWide_slice Try.underlying22 (hval 0 22 v0 rfl rfl)
  obtain ⟨a1, len1, cap1, rfl⟩ := okWide_slice Try.underlying22 (hval 1 22 v1 rfl rfl)
  obtain ⟨x0, c0, t0⟩ := open_R laidOut full (by kernel_rfl) rfl k0
  obtain ⟨x1, c1, t1⟩ := open_R laidOut full (by kernel_rfl) rfl k1
  clear hA0 hval0
  obtain ⟨l, g0, g1, g2⟩ := nums W c0 t0
  obtain ⟨m, g3, g4, g5⟩ := nums W c1 t1
  refine (below_of (CodeOrder_c g0 g3 g1 g4 g2 g5)).mono fun e W' ⟨he, bel⟩ => ?_
  subst he
  exact ⟨_, rfl, _, _, _, [], _, [], hW', trodAll_mk1 (shut_bool Try.underlying4 _), (trodAll_cons_mk (Below.trod laidOut (by kernel_rfl) (of_decide_eq_true (by kernel_rfl)) k0 bel lt0) (trodAll_cons_mk (Below.trod laidOut (by kernel_rfl) (of_decide_eq_true (by kernel_rfl)) k1 bel lt1) trodAll_mk0)), rfl, bel.frame _, fun h => by cases h⟩

theorem over : Rows.codeOrderRow.holds Try.pinned (OpenSpec.ofChange Rows.codeOrderSpec) :=
  OpenClaim.holds_of_wide 3 Try.f3 rfl rfl rfl rfl rfl rfl rfl ⟨rfl, rfl, rfl, rfl, rfl⟩ rfl rfl rfl rfl rfl (by kernel_rfl) Try.func3 (by kernel_rfl)
    (of_decide_eq_true (by kernel_rfl)) (by unfold Func.isWrapper; first | (rw [if_pos (by decide +kernel)]; kernel_rfl) | (rw [if_neg (by decide +kernel)]; exact ⟨rfl, rfl⟩))
    (fun os started H enc _ => lifted os started H enc)
theorem codeOrder_holds : Rows.CodeOrderSaid := over
#print axioms codeOrder_holds
end Go.Proofs.Ytcagpghggohoiaa
