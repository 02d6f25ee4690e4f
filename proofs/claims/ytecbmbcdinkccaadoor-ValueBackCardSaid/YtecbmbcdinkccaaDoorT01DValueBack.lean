/-
  PROVED: ValueBack: for every input the law returns true, and its arguments read behind the call as before. No conditions beyond the row's own.
-/
import Derived.Test.YtecbmbcdinkccaaDoorFwTabFwVW
import Derived.Test.YtecbmbcdinkccaaDoorQ01DAQ01DM
import Derived.Test.YtecbmbcdinkccaaDoorW01DValueBack1
import Derived.Test.YtecbmbcdinkccaaDoorCards
import Derived.Test.YtecbmbcdinkccaaDoorTie
import Derived.WalkKit
import Derived.ProofKit
import Derived.OpenShut
import Derived.ShutString
import Derived.ChangeOld
import Derived.Below
import Derived.ChangeSame
import Derived.ChangeVars
import Derived.JoinedOf
import Derived.RowKit
import Derived.RowKitTokens
import Derived.LaidLaws
import Derived.LaidHandle
import Derived.Lib.LaidIn
import Derived.Stop.Joined
import Derived.SevenTiedAt
namespace Go.Proofs.YtecbmbcdinkccaaDoor
open Go.Fw Go.Proofs
open Go.ChangeShapes Go.WideShapes Go.ChangeAt Go.RowKit
open Go.ChangeMaps (open_string shut_string)
set_option linter.unusedVariables false
theorem own : ownKnob Tryd.prog.godebug = none := by kernel_rfl
theorem laidOut : laidOutB Tryd.prog = true := by kernel_rfl
theorem full : closedB Tryd.prog [25, 3, 2, 9, 22, 23] = true := by kernel_rfl
theorem ty3 {d : D} (h : Typed Tryd.prog 3 d) : ∃ x : Int, d = dI64 x ∧ (-9223372036854775808 ≤ x ∧ x ≤ 9223372036854775807) := by
  obtain ⟨n, rfl, hw⟩ := h.inv_int Tryd.underlying3
  exact ⟨n, rfl, bounds_i64 hw⟩
theorem ty2 {d : D} (h : Typed Tryd.prog 2 d) : ∃ x : Int, d = dI64 x ∧ (-9223372036854775808 ≤ x ∧ x ≤ 9223372036854775807) := by
  obtain ⟨n, rfl, hw⟩ := h.inv_int Tryd.underlying2
  exact ⟨n, rfl, bounds_i64 hw⟩
theorem ty9 {d : D} (h : Typed Tryd.prog 9 d) : ∃ x : (List UInt8), d = dS x ∧ x.length ≤ 140737488351232 := by
  obtain ⟨l, rfl, hl⟩ := h.inv_str Tryd.underlying9
  have e : reachBytes = 140737488351232 := by decide
  rw [e] at hl
  exact ⟨l, rfl, hl⟩
theorem cells9 : Tryd.prog.cellsOf 9 = 1 := by kernel_rfl
theorem bytes9 : Tryd.prog.bytesOf 9 = 16 := by kernel_rfl
theorem ty23 {d : D} (h : Typed Tryd.prog 23 d) : ∃ x : (List (List UInt8)), d = (dL 1 dS) x ∧ (x.length ≤ 140737488351232 ∧ ∀ y ∈ x, y.length ≤ 140737488351232) := by
  obtain ⟨l, rfl, hl, hx⟩ := h.inv_sl Tryd.underlying23
  obtain ⟨m, rfl, hm⟩ := all_of (f := dS) (ok := (fun y : (List UInt8) => y.length ≤ 140737488351232)) (l := l) (fun x hx' => ty9 (hx x hx'))
  have e : reachBytes = 140737488351232 := by decide
  rw [List.length_map, e, bytes9] at hl
  rw [cells9]
  exact ⟨m, rfl, by omega, hm⟩
theorem cells25 : Tryd.prog.cellsOf 25 = 5 := by kernel_rfl
theorem bytes25 : Tryd.prog.bytesOf 25 = 80 := by kernel_rfl
theorem ty25n : ∀ (n : Nat) {d : D}, SizeOf.sizeOf d ≤ n → Typed Tryd.prog 25 d → ∃ x : ApiValue, d = dApiValue x ∧ TV x
  | 0, d, hn, _ => by cases d <;> simp at hn
  | n + 1, d, hn, h => by
    obtain ⟨l, rfl, hl, hx⟩ := h.inv_agg Tryd.underlying25
    match l, hl with
    | [d0, d1, d2, d3, d4], _ =>
      have t0 : Typed Tryd.prog 3 d0 := hx 0 _ d0 rfl rfl
      have t1 : Typed Tryd.prog 2 d1 := hx 1 _ d1 rfl rfl
      have t2 : Typed Tryd.prog 9 d2 := hx 2 _ d2 rfl rfl
      have t3 : Typed Tryd.prog 22 d3 := hx 3 _ d3 rfl rfl
      have t4 : Typed Tryd.prog 23 d4 := hx 4 _ d4 rfl rfl
      obtain ⟨x0, rfl, k0⟩ := ty3 t0
      obtain ⟨x1, rfl, k1⟩ := ty2 t1
      obtain ⟨x2, rfl, k2⟩ := ty9 t2
      obtain ⟨x4, rfl, k4⟩ := ty23 t4
      obtain ⟨l3, rfl, hl3, hx3⟩ := t3.inv_sl Tryd.underlying22
      have hs : ∀ x ∈ l3, SizeOf.sizeOf x ≤ n := fun x hx => by
        have := List.sizeOf_lt_of_mem hx
        simp at hn; omega
      obtain ⟨m3, rfl, hm3⟩ := all_of (f := dApiValue) (ok := TV) (l := l3) (fun x hx => ty25n n (hs x hx) (hx3 x hx))
      have e : reachBytes = 140737488351232 := by decide
      rw [List.length_map, e, bytes25] at hl3
      rw [cells25]
      refine ⟨⟨x0, x1, x2, m3, x4⟩, ?_, TV.mk k0 k1 (Nat.le_trans k2 (by decide)) (Nat.le_trans (show m3.length ≤ 140737488351232 by omega) (by decide)) (Nat.le_trans k4.1 (by decide)) (fun k hk => Nat.le_trans (k4.2 k hk) (by decide)) hm3⟩
      rw [← dsApiValue_eq]
theorem ty25 {d : D} (h : Typed Tryd.prog 25 d) : ∃ x : ApiValue, d = dApiValue x ∧ TV x := ty25n _ (Nat.le_refl _) h
/-- A world in which the listed tables are laid: the witness. -/
noncomputable def low : Nat := (World.holding Tryd.prog default ⟨#[], #[], []⟩).heap.size
noncomputable def laidWorld (os : Os) : World :=
  let w0 := World.holding Tryd.prog os ⟨#[.cells #[.string ⟨#[118, 97, 108, 117, 101, 32, 111, 117, 116, 32, 111, 102, 32, 114, 97, 110, 103, 101]⟩] 128, .cells #[.string ⟨#[105, 110, 118, 97, 108, 105, 100, 32, 115, 121, 110, 116, 97, 120]⟩] 128], #[], []⟩
  let put (h : Array Obj) (g : Nat) (cs : Array Value) : Array Obj := h.modify g fun
    | .cells _ t frozen => .cells cs t frozen
    | o => o
  let h1 := put w0.heap 6 #[.int .u8 0, .int .u8 1, .int .u8 28, .int .u8 2, .int .u8 29, .int .u8 14, .int .u8 24, .int .u8 3, .int .u8 30, .int .u8 22, .int .u8 20, .int .u8 15, .int .u8 25, .int .u8 17, .int .u8 4, .int .u8 8, .int .u8 31, .int .u8 27, .int .u8 13, .int .u8 23, .int .u8 21, .int .u8 19, .int .u8 16, .int .u8 7, .int .u8 26, .int .u8 12, .int .u8 18, .int .u8 6, .int .u8 11, .int .u8 5, .int .u8 10, .int .u8 9]
  let h2 := put h1 7 #[.int .u8 0, .int .u8 1, .int .u8 56, .int .u8 2, .int .u8 57, .int .u8 49, .int .u8 28, .int .u8 3, .int .u8 61, .int .u8 58, .int .u8 42, .int .u8 50, .int .u8 38, .int .u8 29, .int .u8 17, .int .u8 4, .int .u8 62, .int .u8 47, .int .u8 59, .int .u8 36, .int .u8 45, .int .u8 43, .int .u8 51, .int .u8 22, .int .u8 53, .int .u8 39, .int .u8 33, .int .u8 30, .int .u8 24, .int .u8 18, .int .u8 12, .int .u8 5, .int .u8 63, .int .u8 55, .int .u8 48, .int .u8 27, .int .u8 60, .int .u8 41, .int .u8 37, .int .u8 16, .int .u8 46, .int .u8 35, .int .u8 44, .int .u8 21, .int .u8 52, .int .u8 32, .int .u8 23, .int .u8 11, .int .u8 54, .int .u8 26, .int .u8 40, .int .u8 15, .int .u8 34, .int .u8 20, .int .u8 31, .int .u8 10, .int .u8 25, .int .u8 14, .int .u8 19, .int .u8 9, .int .u8 13, .int .u8 8, .int .u8 7, .int .u8 6]
  let h3 := put h2 5 #[.int .u64 1, .int .u64 10, .int .u64 100, .int .u64 1000, .int .u64 10000, .int .u64 100000, .int .u64 1000000, .int .u64 10000000, .int .u64 100000000, .int .u64 1000000000, .int .u64 10000000000, .int .u64 100000000000, .int .u64 1000000000000, .int .u64 10000000000000, .int .u64 100000000000000, .int .u64 1000000000000000, .int .u64 10000000000000000, .int .u64 100000000000000000, .int .u64 1000000000000000000, .int .u64 10000000000000000000]
  let h4 := put h3 1 #[.int .u8 128, .int .u8 191, .int .u8 160, .int .u8 191, .int .u8 128, .int .u8 159, .int .u8 144, .int .u8 191, .int .u8 128, .int .u8 143, .int .u8 0, .int .u8 0, .int .u8 0, .int .u8 0, .int .u8 0, .int .u8 0, .int .u8 0, .int .u8 0, .int .u8 0, .int .u8 0, .int .u8 0, .int .u8 0, .int .u8 0, .int .u8 0, .int .u8 0, .int .u8 0, .int .u8 0, .int .u8 0, .int .u8 0, .int .u8 0, .int .u8 0, .int .u8 0]
  let h5 := put h4 4 #[.iface 126 (.pointer (some ⟨low + 0, 0, none⟩))]
  let h6 := put h5 3 #[.iface 126 (.pointer (some ⟨low + 1, 0, none⟩))]
  let h7 := put h6 0 (Go.Pinned.utf8FirstZ.map fun (z : Nat) => Value.int .u8 z).toArray
  { w0 with heap := h7 }
theorem laid_met (os : Os) (args : Array Value) : laidMetH Tryd.prog Rows.valueBackRow.laid ((laidWorld os).forCall (fun _ _ => 0) ⟨#[], args, []⟩).memory :=
  (LaidIn.of_run (l := Rows.valueBackRow.laid) [6, 7, 5, 1, 4, 3, 0, low + 0, low + 1] 8 (by kernel_rfl) (by kernel_rfl) (by kernel_rfl) (by kernel_rfl)).met
set_option maxRecDepth 100000 in
theorem lifted (os : Os) (started : os.Started) (H : Type) (enc : TypeId × Value → H) :
    ReturnsInHanded {} Tryd.checked os 3 .any (fun w args => (Rows.valueBackSpec.pre enc Tryd.prog Tryd.f3 Rows.valueBackRow.domain false w args ∧ laidMetH Tryd.prog Rows.valueBackRow.laid w) ∧ sizedMet enc Tryd.prog Tryd.f3 (OpenSpec.ofChange Rows.valueBackSpec) false w args) (Rows.valueBackSpec.post enc Tryd.prog Tryd.f3 false true false false) := by
  refine returnsInHanded_of_change_and (C := Tryd.checked) (X := fun w _ => laidMetH Tryd.prog Rows.valueBackRow.laid w) (fun _ _ _ hh h => h.of_heap hh) own started (by kernel_rfl) Tryd.func3
    (ChangeSpec.witness_at (enc := enc) (C := Tryd.checked) (os := os) (X := fun w _ => laidMetH Tryd.prog Rows.valueBackRow.laid w) false (laidWorld os) #[.agg #[.int .i64 0, .int .i64 0, .string ⟨#[]⟩, .slice none 0 0, .slice none 0 0], .agg #[.int .i64 0, .int .i64 0, .string ⟨#[]⟩, .slice none 0 0, .slice none 0 0], .string ⟨#[]⟩] 8 rfl (by kernel_rfl) (by kernel_rfl) (by kernel_rfl) (by kernel_rfl) (by kernel_rfl) (laid_met os _)) ?_
  intro W base args ds gs before hval0 hW hcnd hsz0 hlaid _
  have hval : ∀ (j : Nat) t v, Tryd.f3.params[j]? = some t → args[j]? = some v → Value.okWide Tryd.prog W .any base t v := hval0
  have hW' := hW
  obtain ⟨p, q, hA0, hV, rfl, hfz, hnd⟩ := hW
  have hA : DataW.TrodAll enc Tryd.prog W 0 (fun _ => true) true Tryd.f3.params.toList args.toList ds p := hA0
  have hsz : (DataW.weightsEach Tryd.prog Tryd.f3.params.toList ds).all (· ≤ reachBytes) = true := by
    refine List.all_eq_true.2 fun q hq => List.all_eq_true.1 hsz0 q ?_
    exact weights_app hq
  rw [Tryd.params3] at hA hval hsz
  obtain ⟨v0, vs0, d0, ds0, p0, q0, hargs, rfl, rfl, h0, r0⟩ := trodAll_cons hA
  obtain ⟨v1, vs1, d1, ds1, p1, q1, rfl, rfl, rfl, h1, r1⟩ := trodAll_cons r0
  obtain ⟨v2, vs2, d2, ds2, p2, q2, rfl, rfl, rfl, h2, r2⟩ := trodAll_cons r1
  obtain ⟨rfl, rfl, rfl⟩ := trodAll_nil r2
  obtain rfl : args = #[v0, v1, v2] := by cases args; simp_all
  obtain ⟨rfl, rfl⟩ := trodVars_none hV
  have k0 := h0
  have k1 := h1
  have k2 := h2
  have lt0 : ∀ x ∈ p0, x.block < W.heap.size := by obtain ⟨m, hm⟩ := k0; exact DataW.trod_lt m _ _ _ hm
  have lt1 : ∀ x ∈ p1, x.block < W.heap.size := by obtain ⟨m, hm⟩ := k1; exact DataW.trod_lt m _ _ _ hm
  have lt2 : ∀ x ∈ p2, x.block < W.heap.size := by obtain ⟨m, hm⟩ := k2; exact DataW.trod_lt m _ _ _ hm
  obtain ⟨s0, rfl, z0⟩ := okWide_struct Tryd.underlying25 (hval 0 25 v0 rfl rfl)
  obtain ⟨x0, c0, t0⟩ := open_Ragg laidOut full (by kernel_rfl) k0 (wt_mem hsz (j := 0) rfl rfl)
  obtain ⟨a0, rfl, o0⟩ := ty25 t0
  obtain ⟨s1, rfl, z1⟩ := okWide_struct Tryd.underlying25 (hval 1 25 v1 rfl rfl)
  obtain ⟨x1, c1, t1⟩ := open_Ragg laidOut full (by kernel_rfl) k1 (wt_mem hsz (j := 1) rfl rfl)
  obtain ⟨a1, rfl, o1⟩ := ty25 t1
  obtain ⟨s2, rfl⟩ := okWide_string Tryd.underlying9 (hval 2 9 v2 rfl rfl)
  obtain ⟨x2, c2, t2⟩ := open_R laidOut full (by kernel_rfl) rfl k2 (wt_mem hsz (j := 2) rfl rfl)
  obtain ⟨a2, rfl, o2⟩ := ty9 t2
  have e2 := c2.val_inv
  injection e2 with e2 _
  clear hA0 hval0
  have tb0 : Tab0 (St.init W) := ev_of_laid (P := Tryd.prog) (name := "strconv.ErrSyntax") (d := Rows.laid_strconv_ErrSyntax) (g := 3) (t := 62) (laidMet_of hlaid (by rfl)) (show _ ∈ Rows.valueBackRow.laid from List.mem_cons_of_mem _ (List.mem_cons_of_mem _ (List.mem_cons_of_mem _ (List.mem_cons_of_mem _ (List.mem_cons_of_mem _ (List.mem_cons.2 (Or.inl (by kernel_rfl)))))))) (by kernel_rfl) (by kernel_rfl) Tryd.underlying62
  have tb1 : Tab1 (St.init W) := ev_of_laid (P := Tryd.prog) (name := "strconv.ErrRange") (d := Rows.laid_strconv_ErrRange) (g := 4) (t := 62) (laidMet_of hlaid (by rfl)) (show _ ∈ Rows.valueBackRow.laid from List.mem_cons_of_mem _ (List.mem_cons_of_mem _ (List.mem_cons_of_mem _ (List.mem_cons_of_mem _ (List.mem_cons.2 (Or.inl (by kernel_rfl))))))) (by kernel_rfl) (by kernel_rfl) Tryd.underlying62
  have tb2 : Tab2 (St.init W) := tab_of_laid (P := Tryd.prog) (zs := Lib.pow10Tab) (g := 5) (t := 117) (e := 81) (n := 20) (laidMet_of hlaid (by rfl)) (show _ ∈ Rows.valueBackRow.laid from List.mem_cons_of_mem _ (List.mem_cons_of_mem _ (List.mem_cons.2 (Or.inl (by kernel_rfl))))) (by kernel_rfl) (by kernel_rfl) Tryd.underlying117 Tryd.underlying81 (by kernel_rfl) (by kernel_rfl)
  have hw := law01_ValueBack_w (s := St.init W) c0 c1 tb0 tb1 tb2 (show law01_ValueBack a0 a1 a2 = some true from (ValueBack_pure a0 a1 a2 o0 o1))
  rw [← e2] at hw
  refine (below_of hw).mono fun e W' ⟨he, bel⟩ => ?_
  subst he
  exact ⟨_, rfl, _, _, _, [], _, [], hW', trodAll_mk1 (shut_bool Tryd.underlying4 _), (trodAll_cons_mk (Below.trod laidOut (by kernel_rfl) (of_decide_eq_true (by kernel_rfl)) k0 bel lt0) (trodAll_cons_mk (Below.trod laidOut (by kernel_rfl) (of_decide_eq_true (by kernel_rfl)) k1 bel lt1) (trodAll_cons_mk (Below.trod laidOut (by kernel_rfl) (of_decide_eq_true (by kernel_rfl)) k2 bel lt2) trodAll_mk0))), rfl, bel.frame _, fun h => by cases h⟩

theorem over : Rows.valueBackRow.holds Tryd.pinned (OpenSpec.ofChange Rows.valueBackSpec) :=
  OpenClaim.holds_of_wide 3 Tryd.f3 rfl rfl rfl rfl rfl rfl rfl ⟨rfl, rfl, rfl, rfl, rfl⟩ rfl rfl rfl rfl rfl (by kernel_rfl) Tryd.func3 (by kernel_rfl)
    (of_decide_eq_true (by kernel_rfl)) (by unfold Func.isWrapper; first | (rw [if_pos (by decide +kernel)]; kernel_rfl) | (rw [if_neg (by decide +kernel)]; exact ⟨rfl, rfl⟩))
    (fun os started H enc _ => lifted os started H enc)
set_option maxRecDepth 100000 in
theorem valueBack_holds : Rows.ValueBackCardSaid :=
  Claim7.holds_tied_plain_at .later [] [.data, .data, .data, .data, .sentinel, .sentinel, .pinned] true (true, "88b650243b71bb4a4d0e4b6159444c5d7801f6fbed89768c7057eb4407036d13") true
    over (fun _ h => by cases h) (by kernel_rfl) (fun _ h => by cases h) valueBack_row_tie rfl ⟨rfl, rfl⟩ (by kernel_rfl) rfl
    (fun f fn hf hfn => by
      obtain rfl : f = 3 := Option.some.inj ((show Tryd.prog.funcNamed "tidewrack/tidewracklaw01.ValueBack" = some 3 by kernel_rfl).symm.trans hf) |>.symm
      obtain rfl : fn = Tryd.f3 := (Option.some.inj (Tryd.func3.symm.trans hfn)).symm
      exact ⟨by kernel_rfl, fun j t ht => by
        rw [Tryd.params3] at ht
        have hm : t ∈ [25, 25, 9] := by
          have := List.mem_of_getElem? (l := [25, 25, 9]) (i := j) (a := t) (by simpa using ht)
          exact this
        have hall : [25, 25, 9].all (fun t => Tryd.prog.wantsStandIn t == false) = true := by kernel_rfl
        exact eq_of_beq (List.all_eq_true.1 hall t hm)⟩)
    (by kernel_rfl)
#print axioms valueBack_holds
end Go.Proofs.YtecbmbcdinkccaaDoor
