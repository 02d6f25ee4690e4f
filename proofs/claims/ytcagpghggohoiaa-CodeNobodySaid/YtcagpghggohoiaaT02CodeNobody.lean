/-
  PROVED: CodeNobody: for every input the law returns true, and its arguments read behind the call as before. No conditions.
-/
import Derived.Test.YtcagpghggohoiaaFwT
import Derived.Test.YtcagpghggohoiaaW021
import Derived.Test.YtcagpghggohoiaaQ02F
import Derived.Test.YtcagpghggohoiaaRows
import Derived.WalkKit
import Derived.ProofKit
import Derived.OpenShut
import Derived.ShutString
import Derived.ChangeOld
import Derived.Below
namespace Go.Proofs.Ytcagpghggohoiaa
open Go.Fw Go.Proofs
open Go.ChangeShapes Go.WideShapes Go.ChangeAt Go.RowKit
open Go.ChangeMaps (open_string shut_string)
set_option linter.unusedVariables false
theorem own : ownKnob Try.prog.godebug = none := by kernel_rfl
theorem laidOut : laidOutB Try.prog = true := by kernel_rfl
theorem full : closedB Try.prog [32, 36, 3, 29, 9] = true := by kernel_rfl
theorem ty3 {d : D} (h : Typed Try.prog 3 d) : ∃ x : Int, d = dI64 x ∧ (-9223372036854775808 ≤ x ∧ x ≤ 9223372036854775807) := by
  obtain ⟨n, rfl, hw⟩ := h.inv_int Try.underlying3
  exact ⟨n, rfl, bounds_i64 hw⟩
theorem ty29 {d : D} (h : Typed Try.prog 29 d) : ∃ x : UInt64, d = dU64 x ∧ True := by
  obtain ⟨n, rfl, hw⟩ := h.inv_int Try.underlying29
  have hb := bounds_u64 hw
  refine ⟨UInt64.ofNat n.toNat, ?_, trivial⟩
  show D.val (.int .u64 n) = D.val (.int .u64 ((UInt64.ofNat n.toNat).toNat : Int))
  rw [UInt64.toNat_ofNat', Nat.mod_eq_of_lt (by omega)]; congr 2; omega
theorem ty9 {d : D} (h : Typed Try.prog 9 d) : ∃ x : (List UInt8), d = dS x ∧ x.length ≤ 9223372036854775807 := by
  obtain ⟨l, rfl, hl⟩ := h.inv_str Try.underlying9
  have e : maxLen = 9223372036854775807 := by decide
  rw [e] at hl
  exact ⟨l, rfl, hl⟩
def okLaw02Item (x : Law02Item) : Prop := (-9223372036854775808 ≤ x.Kind ∧ x.Kind ≤ 9223372036854775807) ∧ (-9223372036854775808 ≤ x.Most ∧ x.Most ≤ 9223372036854775807) ∧ True ∧ x.S.length ≤ 9223372036854775807
theorem ty36 {d : D} (h : Typed Try.prog 36 d) : ∃ x : Law02Item, d = dLaw02Item x ∧ okLaw02Item x := by
  obtain ⟨l, rfl, hl, hx⟩ := h.inv_agg Try.underlying36
  match l, hl with
  | [d0, d1, d2, d3], _ =>
    have t0 : Typed Try.prog 3 d0 := hx 0 _ d0 rfl rfl
    obtain ⟨x0, rfl, k0⟩ := ty3 t0
    have t1 : Typed Try.prog 3 d1 := hx 1 _ d1 rfl rfl
    obtain ⟨x1, rfl, k1⟩ := ty3 t1
    have t2 : Typed Try.prog 29 d2 := hx 2 _ d2 rfl rfl
    obtain ⟨x2, rfl, k2⟩ := ty29 t2
    have t3 : Typed Try.prog 9 d3 := hx 3 _ d3 rfl rfl
    obtain ⟨x3, rfl, k3⟩ := ty9 t3
    exact ⟨⟨x0, x1, x2, x3⟩, rfl, k0, k1, k2, k3⟩
theorem cells36 : Try.prog.cellsOf 36 = 4 := by kernel_rfl
theorem ty32 {d : D} (h : Typed Try.prog 32 d) : ∃ x : (List Law02Item), d = (dL 4 dLaw02Item) x ∧ (x.length ≤ 9223372036854775807 ∧ ∀ y ∈ x, okLaw02Item y) := by
  obtain ⟨l, rfl, hl, hx⟩ := h.inv_sl Try.underlying32
  obtain ⟨m, rfl, hm⟩ := all_of (f := dLaw02Item) (ok := (fun y : Law02Item => okLaw02Item y)) (l := l) (fun x hx' => ty36 (hx x hx'))
  have e : maxLen = 9223372036854775807 := by decide
  rw [List.length_map, e] at hl
  rw [cells36]
  exact ⟨m, rfl, hl, hm⟩
set_option maxRecDepth 100000 in
theorem lifted (os : Os) (started : os.Started) (H : Type) (enc : TypeId × Value → H) :
    ReturnsInHanded {} Try.checked os 7 .any (Rows.codeNobodySpec.pre6 enc Try.prog Try.f7 Rows.codeNobodyRow.domain false) (Rows.codeNobodySpec.post enc Try.prog Try.f7 false true false false) := by
  refine returnsInHanded_of_change (C := Try.checked) own started (by kernel_rfl) Try.func7
    (ChangeSpec.witness6 (enc := enc) (C := Try.checked) false ⟨#[], #[.slice none 0 0], []⟩ 8 (by kernel_rfl) (by kernel_rfl) (by kernel_rfl) (by kernel_rfl)) ?_
  intro W base args ds gs before hval0 hW hcnd _
  have hval : ∀ (j : Nat) t v, Try.f7.params[j]? = some t → args[j]? = some v → Value.okWide Try.prog W .any base t v := hval0
  have hW' := hW
  obtain ⟨p, q, hA0, hV, rfl, hfz, hnd⟩ := hW
  have hA : DataW.TrodAll enc Try.prog W 0 (fun _ => true) true Try.f7.params.toList args.toList ds p := hA0
  rw [Try.params7] at hA hval
  obtain ⟨v0, vs0, d0, ds0, p0, q0, hargs, rfl, rfl, h0, r0⟩ := trodAll_cons hA
  obtain ⟨rfl, rfl, rfl⟩ := trodAll_nil r0
  obtain rfl : args = #[v0] := by cases args; simp_all
  obtain ⟨rfl, rfl⟩ := trodVars_none hV
  have k0 := h0
  have lt0 : ∀ x ∈ p0, x.block < W.heap.size := by obtain ⟨m, hm⟩ := k0; exact DataW.trod_lt m _ _ _ hm
  obtain ⟨s0, len0, cap0, rfl⟩ := okWide_slice Try.underlying32 (hval 0 32 v0 rfl rfl)
  obtain ⟨x0, c0, t0⟩ := open_R laidOut full (by kernel_rfl) rfl k0
  obtain ⟨a0, rfl, o0⟩ := ty32 t0
  clear hA0 hval0
  have hw := law02_CodeNobody_w (s := St.init W) (SL.of_R c0) (show law02_CodeNobody a0 = some true from CodeNobody_pure a0 (fun x hx => (o0.2 x hx).2.2.2) (fun x hx => by have := (o0.2 x hx).2.1; omega) o0.1)
  refine (below_of hw).mono fun e W' ⟨he, bel⟩ => ?_
  subst he
  exact ⟨_, rfl, _, _, _, [], _, [], hW', trodAll_mk1 (shut_bool Try.underlying4 _), (trodAll_cons_mk (Below.trod laidOut (by kernel_rfl) (of_decide_eq_true (by kernel_rfl)) k0 bel lt0) trodAll_mk0), rfl, bel.frame _, fun h => by cases h⟩

theorem over : Rows.codeNobodyRow.holds Try.pinned (OpenSpec.ofChange Rows.codeNobodySpec) :=
  OpenClaim.holds_of_wide 7 Try.f7 rfl rfl rfl rfl rfl rfl rfl ⟨rfl, rfl, rfl, rfl, rfl⟩ rfl rfl rfl rfl rfl (by kernel_rfl) Try.func7 (by kernel_rfl)
    (of_decide_eq_true (by kernel_rfl)) (by unfold Func.isWrapper; first | (rw [if_pos (by decide +kernel)]; kernel_rfl) | (rw [if_neg (by decide +kernel)]; exact ⟨rfl, rfl⟩))
    (fun os started H enc _ => lifted os started H enc)
theorem codeNobody_holds : Rows.CodeNobodySaid := over
#print axioms codeNobody_holds
end Go.Proofs.Ytcagpghggohoiaa
