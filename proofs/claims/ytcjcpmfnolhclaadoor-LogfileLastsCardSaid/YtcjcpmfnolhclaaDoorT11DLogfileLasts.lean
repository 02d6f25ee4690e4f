/-
  PROVED: LogfileLasts: for every input the law returns true, and its arguments read behind the call as before. No conditions beyond the row's own.
-/
import Derived.Test.YtcjcpmfnolhclaaDoorFwTabFwVW
import Derived.Test.YtcjcpmfnolhclaaDoorQ11AQ11J
import Derived.Test.YtcjcpmfnolhclaaDoorW11DLogfileLasts2
import Derived.Test.YtcjcpmfnolhclaaDoorCards
import Derived.Test.YtcjcpmfnolhclaaDoorTie
import Derived.WalkKit
import Derived.ProofKit
import Derived.OpenShut
import Derived.ShutString
import Derived.ChangeOld
import Derived.Below
import Derived.ChangeSame
import Derived.ChangeVars
import Derived.JoinedOf
import Derived.RowKit
import Derived.RowKitTokens
import Derived.LaidLaws
import Derived.LaidHandle
import Derived.Lib.LaidIn
import Derived.Stop.Joined
import Derived.SevenTiedAt
namespace Go.Proofs.YtcjcpmfnolhclaaDoor
open Go.Fw Go.Proofs
open Go.ChangeShapes Go.WideShapes Go.ChangeAt Go.RowKit
open Go.ChangeMaps (open_string shut_string)
set_option linter.unusedVariables false
theorem own : ownKnob Tryd.prog.godebug = none := by kernel_rfl
theorem laidOut : laidOutB Tryd.prog = true := by kernel_rfl
theorem full : closedB Tryd.prog [3, 22, 35, 33, 5] = true := by kernel_rfl
theorem ty3 {d : D} (h : Typed Tryd.prog 3 d) : ∃ x : Int, d = dI64 x ∧ (-9223372036854775808 ≤ x ∧ x ≤ 9223372036854775807) := by
  obtain ⟨n, rfl, hw⟩ := h.inv_int Tryd.underlying3
  exact ⟨n, rfl, bounds_i64 hw⟩
theorem ty5 {d : D} (h : Typed Tryd.prog 5 d) : ∃ x : UInt8, d = bD x ∧ True := by
  obtain ⟨n, rfl, hw⟩ := h.inv_int Tryd.underlying5
  have hb := bounds_u8 hw
  refine ⟨UInt8.ofNat n.toNat, ?_, trivial⟩
  show D.val (.int .u8 n) = D.val (.int .u8 ((UInt8.ofNat n.toNat).toNat : Int))
  rw [UInt8.toNat_ofNat', Nat.mod_eq_of_lt (by omega)]; congr 2; omega
theorem cells5 : Tryd.prog.cellsOf 5 = 1 := by kernel_rfl
theorem bytes5 : Tryd.prog.bytesOf 5 = 1 := by kernel_rfl
theorem ty33 {d : D} (h : Typed Tryd.prog 33 d) : ∃ x : (List UInt8), d = (dL 1 bD) x ∧ (x.length ≤ 140737488351232 ∧ ∀ y ∈ x, True) := by
  obtain ⟨l, rfl, hl, hx⟩ := h.inv_sl Tryd.underlying33
  obtain ⟨m, rfl, hm⟩ := all_of (f := bD) (ok := (fun y : UInt8 => True)) (l := l) (fun x hx' => ty5 (hx x hx'))
  have e : reachBytes = 140737488351232 := by decide
  rw [List.length_map, e, bytes5] at hl
  rw [cells5]
  exact ⟨m, rfl, by omega, hm⟩
def okLaw11Act (x : Law11Act) : Prop := (-9223372036854775808 ≤ x.Do ∧ x.Do ≤ 9223372036854775807) ∧ (-9223372036854775808 ≤ x.N ∧ x.N ≤ 9223372036854775807) ∧ (-9223372036854775808 ≤ x.Keep ∧ x.Keep ≤ 9223372036854775807) ∧ (-9223372036854775808 ≤ x.Torn ∧ x.Torn ≤ 9223372036854775807) ∧ (x.Bytes.length ≤ 140737488351232 ∧ ∀ y ∈ x.Bytes, True)
theorem ty35 {d : D} (h : Typed Tryd.prog 35 d) : ∃ x : Law11Act, d = dLaw11Act x ∧ okLaw11Act x := by
  obtain ⟨l, rfl, hl, hx⟩ := h.inv_agg Tryd.underlying35
  match l, hl with
  | [d0, d1, d2, d3, d4], _ =>
    have t0 : Typed Tryd.prog 3 d0 := hx 0 _ d0 rfl rfl
    obtain ⟨x0, rfl, k0⟩ := ty3 t0
    have t1 : Typed Tryd.prog 3 d1 := hx 1 _ d1 rfl rfl
    obtain ⟨x1, rfl, k1⟩ := ty3 t1
    have t2 : Typed Tryd.prog 3 d2 := hx 2 _ d2 rfl rfl
    obtain ⟨x2, rfl, k2⟩ := ty3 t2
    have t3 : Typed Tryd.prog 3 d3 := hx 3 _ d3 rfl rfl
    obtain ⟨x3, rfl, k3⟩ := ty3 t3
    have t4 : Typed Tryd.prog 33 d4 := hx 4 _ d4 rfl rfl
    obtain ⟨x4, rfl, k4⟩ := ty33 t4
    exact ⟨⟨x0, x1, x2, x3, x4⟩, rfl, k0, k1, k2, k3, k4⟩
theorem cells35 : Tryd.prog.cellsOf 35 = 5 := by kernel_rfl
theorem bytes35 : Tryd.prog.bytesOf 35 = 56 := by kernel_rfl
theorem ty22 {d : D} (h : Typed Tryd.prog 22 d) : ∃ x : (List Law11Act), d = (dL 5 dLaw11Act) x ∧ (x.length ≤ 140737488351232 ∧ ∀ y ∈ x, okLaw11Act y) := by
  obtain ⟨l, rfl, hl, hx⟩ := h.inv_sl Tryd.underlying22
  obtain ⟨m, rfl, hm⟩ := all_of (f := dLaw11Act) (ok := (fun y : Law11Act => okLaw11Act y)) (l := l) (fun x hx' => ty35 (hx x hx'))
  have e : reachBytes = 140737488351232 := by decide
  rw [List.length_map, e, bytes35] at hl
  rw [cells35]
  exact ⟨m, rfl, by omega, hm⟩
/-- A world in which the listed tables are laid: the witness. -/
noncomputable def low : Nat := (World.holding Tryd.prog default ⟨#[], #[], []⟩).heap.size
noncomputable def laidWorld (os : Os) : World :=
  let w0 := World.holding Tryd.prog os ⟨#[], #[], []⟩
  let put (h : Array Obj) (g : Nat) (cs : Array Value) : Array Obj := h.modify g fun
    | .cells _ t frozen => .cells cs t frozen
    | o => o
  let h1 := put w0.heap 2 #[.int .u8 128, .int .u8 191, .int .u8 160, .int .u8 191, .int .u8 128, .int .u8 159, .int .u8 144, .int .u8 191, .int .u8 128, .int .u8 143, .int .u8 0, .int .u8 0, .int .u8 0, .int .u8 0, .int .u8 0, .int .u8 0, .int .u8 0, .int .u8 0, .int .u8 0, .int .u8 0, .int .u8 0, .int .u8 0, .int .u8 0, .int .u8 0, .int .u8 0, .int .u8 0, .int .u8 0, .int .u8 0, .int .u8 0, .int .u8 0, .int .u8 0, .int .u8 0]
  let h2 := put h1 1 (Go.Pinned.utf8FirstZ.map fun (z : Nat) => Value.int .u8 z).toArray
  { w0 with heap := h2 }
theorem laid_met (os : Os) (args : Array Value) : laidMetH Tryd.prog Rows.logfileLastsRow.laid ((laidWorld os).forCall (fun _ _ => 0) ⟨#[], args, []⟩).memory :=
  (LaidIn.of_run (l := Rows.logfileLastsRow.laid) [2, 1] 8 (by kernel_rfl) (by kernel_rfl) (by kernel_rfl) (by kernel_rfl)).met
set_option maxRecDepth 100000 in
theorem lifted (os : Os) (started : os.Started) (H : Type) (enc : TypeId × Value → H) :
    ReturnsInHanded {} Tryd.checked os 3 .any (fun w args => (Rows.logfileLastsSpec.pre enc Tryd.prog Tryd.f3 Rows.logfileLastsRow.domain false w args ∧ laidMetH Tryd.prog Rows.logfileLastsRow.laid w) ∧ sizedMet enc Tryd.prog Tryd.f3 (OpenSpec.ofChange Rows.logfileLastsSpec) false w args) (Rows.logfileLastsSpec.post enc Tryd.prog Tryd.f3 false true false false) := by
  refine returnsInHanded_of_change_and (C := Tryd.checked) (X := fun w _ => laidMetH Tryd.prog Rows.logfileLastsRow.laid w) (fun _ _ _ hh h => h.of_heap hh) own started (by kernel_rfl) Tryd.func3
    (ChangeSpec.witness_at (enc := enc) (C := Tryd.checked) (os := os) (X := fun w _ => laidMetH Tryd.prog Rows.logfileLastsRow.laid w) false (laidWorld os) #[.int .i64 0, .slice none 0 0] 8 rfl (by kernel_rfl) (by kernel_rfl) (by kernel_rfl) (by kernel_rfl) (by kernel_rfl) (laid_met os _)) ?_
  intro W base args ds gs before hval0 hW hcnd hsz0 hlaid _
  have hval : ∀ (j : Nat) t v, Tryd.f3.params[j]? = some t → args[j]? = some v → Value.okWide Tryd.prog W .any base t v := hval0
  have hW' := hW
  obtain ⟨p, q, hA0, hV, rfl, hfz, hnd⟩ := hW
  have hA : DataW.TrodAll enc Tryd.prog W 0 (fun _ => true) true Tryd.f3.params.toList args.toList ds p := hA0
  have hsz : (DataW.weightsEach Tryd.prog Tryd.f3.params.toList ds).all (· ≤ reachBytes) = true := by
    refine List.all_eq_true.2 fun q hq => List.all_eq_true.1 hsz0 q ?_
    exact weights_app hq
  rw [Tryd.params3] at hA hval hsz
  obtain ⟨v0, vs0, d0, ds0, p0, q0, hargs, rfl, rfl, h0, r0⟩ := trodAll_cons hA
  obtain ⟨v1, vs1, d1, ds1, p1, q1, rfl, rfl, rfl, h1, r1⟩ := trodAll_cons r0
  obtain ⟨rfl, rfl, rfl⟩ := trodAll_nil r1
  obtain rfl : args = #[v0, v1] := by cases args; simp_all
  obtain ⟨rfl, rfl⟩ := trodVars_none hV
  have k0 := h0
  have k1 := h1
  have lt0 : ∀ x ∈ p0, x.block < W.heap.size := by obtain ⟨m, hm⟩ := k0; exact DataW.trod_lt m _ _ _ hm
  have lt1 : ∀ x ∈ p1, x.block < W.heap.size := by obtain ⟨m, hm⟩ := k1; exact DataW.trod_lt m _ _ _ hm
  obtain ⟨n0, rfl⟩ := okWide_int Tryd.underlying3 (hval 0 3 v0 rfl rfl)
  obtain ⟨x0, c0, t0⟩ := open_R laidOut full (by kernel_rfl) rfl k0 (wt_mem hsz (j := 0) rfl rfl)
  obtain ⟨a0, rfl, o0⟩ := ty3 t0
  have e0 := c0.val_inv
  injection e0 with e0 _
  obtain ⟨s1, len1, cap1, rfl⟩ := okWide_slice Tryd.underlying22 (hval 1 22 v1 rfl rfl)
  obtain ⟨x1, c1, t1⟩ := open_R laidOut full (by kernel_rfl) rfl k1 (wt_mem hsz (j := 1) rfl rfl)
  obtain ⟨a1, rfl, o1⟩ := ty22 t1
  clear hA0 hval0
  have hw := law11_LogfileLasts_w (s := St.init W) (SL.of_R c1) (show law11_LogfileLasts a0 a1 = some true from (LogfileLasts_pure a0 a1 o1.1 (fun x hx => (o1.2 x hx).2.2.2.2.1) (fun x hx => (o1.2 x hx).2.1.2)))
  rw [← e0] at hw
  refine (below_of hw).mono fun e W' ⟨he, bel⟩ => ?_
  subst he
  exact ⟨_, rfl, _, _, _, [], _, [], hW', trodAll_mk1 (shut_bool Tryd.underlying4 _), (trodAll_cons_mk (Below.trod laidOut (by kernel_rfl) (of_decide_eq_true (by kernel_rfl)) k0 bel lt0) (trodAll_cons_mk (Below.trod laidOut (by kernel_rfl) (of_decide_eq_true (by kernel_rfl)) k1 bel lt1) trodAll_mk0)), rfl, bel.frame _, fun h => by cases h⟩

theorem over : Rows.logfileLastsRow.holds Tryd.pinned (OpenSpec.ofChange Rows.logfileLastsSpec) :=
  OpenClaim.holds_of_wide 3 Tryd.f3 rfl rfl rfl rfl rfl rfl rfl ⟨rfl, rfl, rfl, rfl, rfl⟩ rfl rfl rfl rfl rfl (by kernel_rfl) Tryd.func3 (by kernel_rfl)
    (of_decide_eq_true (by kernel_rfl)) (by unfold Func.isWrapper; first | (rw [if_pos (by decide +kernel)]; kernel_rfl) | (rw [if_neg (by decide +kernel)]; exact ⟨rfl, rfl⟩))
    (fun os started H enc _ => lifted os started H enc)
set_option maxRecDepth 100000 in
theorem logfileLasts_holds : Rows.LogfileLastsCardSaid :=
  Claim7.holds_tied_plain_at .later [] [.data, .pinned] true (true, "9f0e28b82cb8461b1f7b5f2aee13f45476dd6904ff4c244154ac762b0360f175") true
    over (fun _ h => by cases h) (by kernel_rfl) (fun _ h => by cases h) logfileLasts_row_tie rfl ⟨rfl, rfl⟩ (by kernel_rfl) rfl
    (fun f fn hf hfn => by
      obtain rfl : f = 3 := Option.some.inj ((show Tryd.prog.funcNamed "tidewrack/tidewracklaw11.LogfileLasts" = some 3 by kernel_rfl).symm.trans hf) |>.symm
      obtain rfl : fn = Tryd.f3 := (Option.some.inj (Tryd.func3.symm.trans hfn)).symm
      exact ⟨by kernel_rfl, fun j t ht => by
        rw [Tryd.params3] at ht
        have hm : t ∈ [3, 22] := by
          have := List.mem_of_getElem? (l := [3, 22]) (i := j) (a := t) (by simpa using ht)
          exact this
        have hall : [3, 22].all (fun t => Tryd.prog.wantsStandIn t == false) = true := by kernel_rfl
        exact eq_of_beq (List.all_eq_true.1 hall t hm)⟩)
    (by kernel_rfl)
#print axioms logfileLasts_holds
end Go.Proofs.YtcjcpmfnolhclaaDoor
