/-
  PROVED: KeysNobody: for every input the law returns true, and its arguments read behind the call as before. No conditions beyond the row's own.
-/
import Derived.Test.YtepifllifhikiaaDoorFwLaid
import Derived.Test.YtepifllifhikiaaDoorQ12G
import Derived.Test.YtepifllifhikiaaDoorW12KeysNobody1
import Derived.Test.YtepifllifhikiaaDoorCards
import Derived.Test.YtepifllifhikiaaDoorTie
import Derived.WalkKit
import Derived.ProofKit
import Derived.OpenShut
import Derived.ShutString
import Derived.ChangeOld
import Derived.Below
import Derived.ChangeSame
import Derived.ChangeVars
import Derived.JoinedOf
import Derived.RowKit
import Derived.RowKitTokens
import Derived.LaidLaws
import Derived.LaidHandle
import Derived.Lib.LaidIn
import Derived.Stop.Joined
import Derived.SevenTiedAt
namespace Go.Proofs.YtepifllifhikiaaDoor
open Go.Fw Go.Proofs
open Go.ChangeShapes Go.WideShapes Go.ChangeAt Go.RowKit
open Go.ChangeMaps (open_string shut_string)
set_option linter.unusedVariables false
theorem own : ownKnob Tryd.prog.godebug = none := by kernel_rfl
theorem laidOut : laidOutB Tryd.prog = true := by kernel_rfl
theorem full : closedB Tryd.prog [47, 3, 9] = true := by kernel_rfl
theorem ty3 {d : D} (h : Typed Tryd.prog 3 d) : ∃ x : Int, d = dI64 x ∧ (-9223372036854775808 ≤ x ∧ x ≤ 9223372036854775807) := by
  obtain ⟨n, rfl, hw⟩ := h.inv_int Tryd.underlying3
  exact ⟨n, rfl, bounds_i64 hw⟩
theorem ty9 {d : D} (h : Typed Tryd.prog 9 d) : ∃ x : (List UInt8), d = dS x ∧ x.length ≤ 140737488351232 := by
  obtain ⟨l, rfl, hl⟩ := h.inv_str Tryd.underlying9
  have e : reachBytes = 140737488351232 := by decide
  rw [e] at hl
  exact ⟨l, rfl, hl⟩
def okLaw12Act (x : Law12Act) : Prop := (-9223372036854775808 ≤ x.Do ∧ x.Do ≤ 9223372036854775807) ∧ (-9223372036854775808 ≤ x.V ∧ x.V ≤ 9223372036854775807) ∧ x.Key.length ≤ 140737488351232 ∧ x.To.length ≤ 140737488351232
theorem ty47 {d : D} (h : Typed Tryd.prog 47 d) : ∃ x : Law12Act, d = dLaw12Act x ∧ okLaw12Act x := by
  obtain ⟨l, rfl, hl, hx⟩ := h.inv_agg Tryd.underlying47
  match l, hl with
  | [d0, d1, d2, d3], _ =>
    have t0 : Typed Tryd.prog 3 d0 := hx 0 _ d0 rfl rfl
    obtain ⟨x0, rfl, k0⟩ := ty3 t0
    have t1 : Typed Tryd.prog 3 d1 := hx 1 _ d1 rfl rfl
    obtain ⟨x1, rfl, k1⟩ := ty3 t1
    have t2 : Typed Tryd.prog 9 d2 := hx 2 _ d2 rfl rfl
    obtain ⟨x2, rfl, k2⟩ := ty9 t2
    have t3 : Typed Tryd.prog 9 d3 := hx 3 _ d3 rfl rfl
    obtain ⟨x3, rfl, k3⟩ := ty9 t3
    exact ⟨⟨x0, x1, x2, x3⟩, rfl, k0, k1, k2, k3⟩
/-- A world in which the listed tables are laid: the witness. -/
noncomputable def laidWorld (os : Os) : World :=
  let w0 := World.holding Tryd.prog os ⟨#[], #[], []⟩
  let put (h : Array Obj) (g : Nat) (cs : Array Value) : Array Obj := h.modify g fun
    | .cells _ t frozen => .cells cs t frozen
    | o => o
  let h1 := put w0.heap 2 #[.int .u8 0, .int .u8 1, .int .u8 28, .int .u8 2, .int .u8 29, .int .u8 14, .int .u8 24, .int .u8 3, .int .u8 30, .int .u8 22, .int .u8 20, .int .u8 15, .int .u8 25, .int .u8 17, .int .u8 4, .int .u8 8, .int .u8 31, .int .u8 27, .int .u8 13, .int .u8 23, .int .u8 21, .int .u8 19, .int .u8 16, .int .u8 7, .int .u8 26, .int .u8 12, .int .u8 18, .int .u8 6, .int .u8 11, .int .u8 5, .int .u8 10, .int .u8 9]
  let h2 := put h1 3 #[.int .u8 0, .int .u8 1, .int .u8 56, .int .u8 2, .int .u8 57, .int .u8 49, .int .u8 28, .int .u8 3, .int .u8 61, .int .u8 58, .int .u8 42, .int .u8 50, .int .u8 38, .int .u8 29, .int .u8 17, .int .u8 4, .int .u8 62, .int .u8 47, .int .u8 59, .int .u8 36, .int .u8 45, .int .u8 43, .int .u8 51, .int .u8 22, .int .u8 53, .int .u8 39, .int .u8 33, .int .u8 30, .int .u8 24, .int .u8 18, .int .u8 12, .int .u8 5, .int .u8 63, .int .u8 55, .int .u8 48, .int .u8 27, .int .u8 60, .int .u8 41, .int .u8 37, .int .u8 16, .int .u8 46, .int .u8 35, .int .u8 44, .int .u8 21, .int .u8 52, .int .u8 32, .int .u8 23, .int .u8 11, .int .u8 54, .int .u8 26, .int .u8 40, .int .u8 15, .int .u8 34, .int .u8 20, .int .u8 31, .int .u8 10, .int .u8 25, .int .u8 14, .int .u8 19, .int .u8 9, .int .u8 13, .int .u8 8, .int .u8 7, .int .u8 6]
  let h3 := put h2 1 #[.int .u64 1, .int .u64 10, .int .u64 100, .int .u64 1000, .int .u64 10000, .int .u64 100000, .int .u64 1000000, .int .u64 10000000, .int .u64 100000000, .int .u64 1000000000, .int .u64 10000000000, .int .u64 100000000000, .int .u64 1000000000000, .int .u64 10000000000000, .int .u64 100000000000000, .int .u64 1000000000000000, .int .u64 10000000000000000, .int .u64 100000000000000000, .int .u64 1000000000000000000, .int .u64 10000000000000000000]
  { w0 with heap := h3 }
theorem laid_met (os : Os) (args : Array Value) : laidMetH Tryd.prog Rows.keysNobodyRow.laid ((laidWorld os).forCall (fun _ _ => 0) ⟨#[], args, []⟩).memory :=
  (LaidIn.of_run (l := Rows.keysNobodyRow.laid) [2, 3, 1] 8 (by kernel_rfl) (by kernel_rfl) (by kernel_rfl) (by kernel_rfl)).met
set_option maxRecDepth 100000 in
theorem lifted (os : Os) (started : os.Started) (H : Type) (enc : TypeId × Value → H) :
    ReturnsInHanded {} Tryd.checked os 8 .any (fun w args => (Rows.keysNobodySpec.pre enc Tryd.prog Tryd.f8 Rows.keysNobodyRow.domain false w args ∧ laidMetH Tryd.prog Rows.keysNobodyRow.laid w) ∧ sizedMet enc Tryd.prog Tryd.f8 (OpenSpec.ofChange Rows.keysNobodySpec) false w args) (Rows.keysNobodySpec.post enc Tryd.prog Tryd.f8 false true false false) := by
  refine returnsInHanded_of_change_and (C := Tryd.checked) (X := fun w _ => laidMetH Tryd.prog Rows.keysNobodyRow.laid w) (fun _ _ _ hh h => h.of_heap hh) own started (by kernel_rfl) Tryd.func8
    (ChangeSpec.witness_at (enc := enc) (C := Tryd.checked) (os := os) (X := fun w _ => laidMetH Tryd.prog Rows.keysNobodyRow.laid w) false (laidWorld os) #[.agg #[.int .i64 0, .int .i64 0, .string ⟨#[]⟩, .string ⟨#[]⟩]] 8 rfl (by kernel_rfl) (by kernel_rfl) (by kernel_rfl) (by kernel_rfl) (by kernel_rfl) (laid_met os _)) ?_
  intro W base args ds gs before hval0 hW hcnd hsz0 hlaid _
  have hval : ∀ (j : Nat) t v, Tryd.f8.params[j]? = some t → args[j]? = some v → Value.okWide Tryd.prog W .any base t v := hval0
  have hW' := hW
  obtain ⟨p, q, hA0, hV, rfl, hfz, hnd⟩ := hW
  have hA : DataW.TrodAll enc Tryd.prog W 0 (fun _ => true) true Tryd.f8.params.toList args.toList ds p := hA0
  have hsz : (DataW.weightsEach Tryd.prog Tryd.f8.params.toList ds).all (· ≤ reachBytes) = true := by
    refine List.all_eq_true.2 fun q hq => List.all_eq_true.1 hsz0 q ?_
    exact weights_app hq
  rw [Tryd.params8] at hA hval hsz
  obtain ⟨v0, vs0, d0, ds0, p0, q0, hargs, rfl, rfl, h0, r0⟩ := trodAll_cons hA
  obtain ⟨rfl, rfl, rfl⟩ := trodAll_nil r0
  obtain rfl : args = #[v0] := by cases args; simp_all
  obtain ⟨rfl, rfl⟩ := trodVars_none hV
  have k0 := h0
  have lt0 : ∀ x ∈ p0, x.block < W.heap.size := by obtain ⟨m, hm⟩ := k0; exact DataW.trod_lt m _ _ _ hm
  obtain ⟨s0, rfl, z0⟩ := okWide_struct Tryd.underlying47 (hval 0 47 v0 rfl rfl)
  obtain ⟨x0, c0, t0⟩ := open_Ragg laidOut full (by kernel_rfl) k0 (wt_mem hsz (j := 0) rfl rfl)
  obtain ⟨a0, rfl, o0⟩ := ty47 t0
  clear hA0 hval0
  have tb0 : Tab0 (St.init W) := tab_of_laid (P := Tryd.prog) (zs := Lib.pow10Tab) (g := 1) (t := 128) (e := 113) (n := 20) (laidMet_of hlaid (by rfl)) (show _ ∈ Rows.keysNobodyRow.laid from List.mem_cons_of_mem _ (List.mem_cons_of_mem _ (List.mem_cons.2 (Or.inl (by kernel_rfl))))) (by kernel_rfl) (by kernel_rfl) Tryd.underlying128 Tryd.underlying113 (by kernel_rfl) (by kernel_rfl)
  have hw := law12_KeysNobody_w (s := St.init W) c0 tb0 (show law12_KeysNobody a0 = some true from (KeysNobody_pure a0))
  refine (below_of hw).mono fun e W' ⟨he, bel⟩ => ?_
  subst he
  exact ⟨_, rfl, _, _, _, [], _, [], hW', trodAll_mk1 (shut_bool Tryd.underlying4 _), (trodAll_cons_mk (Below.trod laidOut (by kernel_rfl) (of_decide_eq_true (by kernel_rfl)) k0 bel lt0) trodAll_mk0), rfl, bel.frame _, fun h => by cases h⟩

theorem over : Rows.keysNobodyRow.holds Tryd.pinned (OpenSpec.ofChange Rows.keysNobodySpec) :=
  OpenClaim.holds_of_wide 8 Tryd.f8 rfl rfl rfl rfl rfl rfl rfl ⟨rfl, rfl, rfl, rfl, rfl⟩ rfl rfl rfl rfl rfl (by kernel_rfl) Tryd.func8 (by kernel_rfl)
    (of_decide_eq_true (by kernel_rfl)) (by unfold Func.isWrapper; first | (rw [if_pos (by decide +kernel)]; kernel_rfl) | (rw [if_neg (by decide +kernel)]; exact ⟨rfl, rfl⟩))
    (fun os started H enc _ => lifted os started H enc)
set_option maxRecDepth 100000 in
theorem keysNobody_holds : Rows.KeysNobodyCardSaid :=
  Claim7.holds_tied_plain_at .later [] [.data, .data, .data] true (true, "17c89551121150fd3f37a608dbce316191d0f4695282c4c6a2da63b5ea02cadc") false
    over (fun _ h => by cases h) (by kernel_rfl) (fun _ h => by cases h) keysNobody_row_tie rfl ⟨rfl, rfl⟩ (by kernel_rfl) rfl
    (fun f fn hf hfn => by
      obtain rfl : f = 8 := Option.some.inj ((show Tryd.prog.funcNamed "tidewrack/tidewracklaw12.KeysNobody" = some 8 by kernel_rfl).symm.trans hf) |>.symm
      obtain rfl : fn = Tryd.f8 := (Option.some.inj (Tryd.func8.symm.trans hfn)).symm
      exact ⟨by kernel_rfl, fun j t ht => by
        rw [Tryd.params8] at ht
        have hm : t ∈ [47] := by
          have := List.mem_of_getElem? (l := [47]) (i := j) (a := t) (by simpa using ht)
          exact this
        have hall : [47].all (fun t => Tryd.prog.wantsStandIn t == false) = true := by kernel_rfl
        exact eq_of_beq (List.all_eq_true.1 hall t hm)⟩)
    (by kernel_rfl)
#print axioms keysNobody_holds
end Go.Proofs.YtepifllifhikiaaDoor
