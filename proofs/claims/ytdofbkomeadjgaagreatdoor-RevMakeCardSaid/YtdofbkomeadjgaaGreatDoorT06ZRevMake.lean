/-
  PROVED: RevMake: for every input the law returns true, and its arguments read behind the call as before. No conditions beyond the row's own.
-/
import Derived.Test.YtdofbkomeadjgaaGreatDoorFwTabFwVW
import Derived.Test.YtdofbkomeadjgaaGreatDoorQ6ZAQ6ZQ
import Derived.Test.YtdofbkomeadjgaaGreatDoorW06ZRevMake4
import Derived.Test.YtdofbkomeadjgaaGreatDoorCards
import Derived.Test.YtdofbkomeadjgaaGreatDoorTie
import Derived.WalkKit
import Derived.ProofKit
import Derived.OpenShut
import Derived.ShutString
import Derived.ChangeOld
import Derived.Below
import Derived.ChangeSame
import Derived.ChangeVars
import Derived.JoinedOf
import Derived.RowKit
import Derived.RowKitTokens
import Derived.LaidLaws
import Derived.LaidHandle
import Derived.Lib.LaidIn
import Derived.Stop.Joined
import Derived.SevenTiedAt
namespace Go.Proofs.YtdofbkomeadjgaaGreatDoor
open Go.Fw Go.Proofs
open Go.ChangeShapes Go.WideShapes Go.ChangeAt Go.RowKit
open Go.ChangeMaps (open_string shut_string)
set_option linter.unusedVariables false
theorem own : ownKnob Tryz.prog.godebug = none := by kernel_rfl
theorem laidOut : laidOutB Tryz.prog = true := by kernel_rfl
theorem full : closedB Tryz.prog [25, 22, 23, 5, 3, 29, 2, 9, 26, 27] = true := by kernel_rfl
theorem ty22 {d : D} (h : Typed Tryz.prog 22 d) : ∃ x : UInt64, d = dU64 x ∧ True := by
  obtain ⟨n, rfl, hw⟩ := h.inv_int Tryz.underlying22
  have hb := bounds_u64 hw
  refine ⟨UInt64.ofNat n.toNat, ?_, trivial⟩
  show D.val (.int .u64 n) = D.val (.int .u64 ((UInt64.ofNat n.toNat).toNat : Int))
  rw [UInt64.toNat_ofNat', Nat.mod_eq_of_lt (by omega)]; congr 2; omega
theorem ty5 {d : D} (h : Typed Tryz.prog 5 d) : ∃ x : UInt8, d = bD x ∧ True := by
  obtain ⟨n, rfl, hw⟩ := h.inv_int Tryz.underlying5
  have hb := bounds_u8 hw
  refine ⟨UInt8.ofNat n.toNat, ?_, trivial⟩
  show D.val (.int .u8 n) = D.val (.int .u8 ((UInt8.ofNat n.toNat).toNat : Int))
  rw [UInt8.toNat_ofNat', Nat.mod_eq_of_lt (by omega)]; congr 2; omega
def okSt23 (x : St23) : Prop := True
theorem ty23 {d : D} (h : Typed Tryz.prog 23 d) : ∃ x : St23, d = dSt23 x ∧ okSt23 x := by
  obtain ⟨l, rfl, hl, hx⟩ := h.inv_arr Tryz.underlying23
  match l, hl with
  | [d0, d1, d2, d3, d4, d5, d6, d7, d8, d9, d10, d11, d12, d13, d14, d15], _ =>
    obtain ⟨x0, rfl, k0⟩ := ty5 (hx d0 (by simp))
    obtain ⟨x1, rfl, k1⟩ := ty5 (hx d1 (by simp))
    obtain ⟨x2, rfl, k2⟩ := ty5 (hx d2 (by simp))
    obtain ⟨x3, rfl, k3⟩ := ty5 (hx d3 (by simp))
    obtain ⟨x4, rfl, k4⟩ := ty5 (hx d4 (by simp))
    obtain ⟨x5, rfl, k5⟩ := ty5 (hx d5 (by simp))
    obtain ⟨x6, rfl, k6⟩ := ty5 (hx d6 (by simp))
    obtain ⟨x7, rfl, k7⟩ := ty5 (hx d7 (by simp))
    obtain ⟨x8, rfl, k8⟩ := ty5 (hx d8 (by simp))
    obtain ⟨x9, rfl, k9⟩ := ty5 (hx d9 (by simp))
    obtain ⟨x10, rfl, k10⟩ := ty5 (hx d10 (by simp))
    obtain ⟨x11, rfl, k11⟩ := ty5 (hx d11 (by simp))
    obtain ⟨x12, rfl, k12⟩ := ty5 (hx d12 (by simp))
    obtain ⟨x13, rfl, k13⟩ := ty5 (hx d13 (by simp))
    obtain ⟨x14, rfl, k14⟩ := ty5 (hx d14 (by simp))
    obtain ⟨x15, rfl, k15⟩ := ty5 (hx d15 (by simp))
    exact ⟨⟨x0, x1, x2, x3, x4, x5, x6, x7, x8, x9, x10, x11, x12, x13, x14, x15⟩, rfl, trivial⟩
def okApiRev (x : ApiRev) : Prop := True ∧ okSt23 x.Sum
theorem ty25 {d : D} (h : Typed Tryz.prog 25 d) : ∃ x : ApiRev, d = dApiRev x ∧ okApiRev x := by
  obtain ⟨l, rfl, hl, hx⟩ := h.inv_agg Tryz.underlying25
  match l, hl with
  | [d0, d1], _ =>
    have t0 : Typed Tryz.prog 22 d0 := hx 0 _ d0 rfl rfl
    obtain ⟨x0, rfl, k0⟩ := ty22 t0
    have t1 : Typed Tryz.prog 23 d1 := hx 1 _ d1 rfl rfl
    obtain ⟨x1, rfl, k1⟩ := ty23 t1
    exact ⟨⟨x0, x1⟩, rfl, k0, k1⟩
theorem ty3 {d : D} (h : Typed Tryz.prog 3 d) : ∃ x : Int, d = dI64 x ∧ (-9223372036854775808 ≤ x ∧ x ≤ 9223372036854775807) := by
  obtain ⟨n, rfl, hw⟩ := h.inv_int Tryz.underlying3
  exact ⟨n, rfl, bounds_i64 hw⟩
theorem ty2 {d : D} (h : Typed Tryz.prog 2 d) : ∃ x : Int, d = dI64 x ∧ (-9223372036854775808 ≤ x ∧ x ≤ 9223372036854775807) := by
  obtain ⟨n, rfl, hw⟩ := h.inv_int Tryz.underlying2
  exact ⟨n, rfl, bounds_i64 hw⟩
theorem ty9 {d : D} (h : Typed Tryz.prog 9 d) : ∃ x : (List UInt8), d = dS x ∧ x.length ≤ 140737488351232 := by
  obtain ⟨l, rfl, hl⟩ := h.inv_str Tryz.underlying9
  have e : reachBytes = 140737488351232 := by decide
  rw [e] at hl
  exact ⟨l, rfl, hl⟩
theorem cells9 : Tryz.prog.cellsOf 9 = 1 := by kernel_rfl
theorem bytes9 : Tryz.prog.bytesOf 9 = 16 := by kernel_rfl
theorem ty27 {d : D} (h : Typed Tryz.prog 27 d) : ∃ x : (List (List UInt8)), d = (dL 1 dS) x ∧ (x.length ≤ 140737488351232 ∧ ∀ y ∈ x, y.length ≤ 140737488351232) := by
  obtain ⟨l, rfl, hl, hx⟩ := h.inv_sl Tryz.underlying27
  obtain ⟨m, rfl, hm⟩ := all_of (f := dS) (ok := (fun y : (List UInt8) => y.length ≤ 140737488351232)) (l := l) (fun x hx' => ty9 (hx x hx'))
  have e : reachBytes = 140737488351232 := by decide
  rw [List.length_map, e, bytes9] at hl
  rw [cells9]
  exact ⟨m, rfl, by omega, hm⟩
theorem cells29 : Tryz.prog.cellsOf 29 = 5 := by kernel_rfl
theorem bytes29 : Tryz.prog.bytesOf 29 = 80 := by kernel_rfl
theorem ty29n : ∀ (n : Nat) {d : D}, SizeOf.sizeOf d ≤ n → Typed Tryz.prog 29 d → ∃ x : ApiValue, d = dApiValue x ∧ TV x
  | 0, d, hn, _ => by cases d <;> simp at hn
  | n + 1, d, hn, h => by
    obtain ⟨l, rfl, hl, hx⟩ := h.inv_agg Tryz.underlying29
    match l, hl with
    | [d0, d1, d2, d3, d4], _ =>
      have t0 : Typed Tryz.prog 3 d0 := hx 0 _ d0 rfl rfl
      have t1 : Typed Tryz.prog 2 d1 := hx 1 _ d1 rfl rfl
      have t2 : Typed Tryz.prog 9 d2 := hx 2 _ d2 rfl rfl
      have t3 : Typed Tryz.prog 26 d3 := hx 3 _ d3 rfl rfl
      have t4 : Typed Tryz.prog 27 d4 := hx 4 _ d4 rfl rfl
      obtain ⟨x0, rfl, k0⟩ := ty3 t0
      obtain ⟨x1, rfl, k1⟩ := ty2 t1
      obtain ⟨x2, rfl, k2⟩ := ty9 t2
      obtain ⟨x4, rfl, k4⟩ := ty27 t4
      obtain ⟨l3, rfl, hl3, hx3⟩ := t3.inv_sl Tryz.underlying26
      have hs : ∀ x ∈ l3, SizeOf.sizeOf x ≤ n := fun x hx => by
        have := List.sizeOf_lt_of_mem hx
        simp at hn; omega
      obtain ⟨m3, rfl, hm3⟩ := all_of (f := dApiValue) (ok := TV) (l := l3) (fun x hx => ty29n n (hs x hx) (hx3 x hx))
      have e : reachBytes = 140737488351232 := by decide
      rw [List.length_map, e, bytes29] at hl3
      rw [cells29]
      refine ⟨⟨x0, x1, x2, m3, x4⟩, ?_, TV.mk k0 k1 (Nat.le_trans k2 (by decide)) (Nat.le_trans (show m3.length ≤ 140737488351232 by omega) (by decide)) (Nat.le_trans k4.1 (by decide)) (fun k hk => Nat.le_trans (k4.2 k hk) (by decide)) hm3⟩
      rw [← dsApiValue_eq]
theorem ty29 {d : D} (h : Typed Tryz.prog 29 d) : ∃ x : ApiValue, d = dApiValue x ∧ TV x := ty29n _ (Nat.le_refl _) h
/-- A world in which the listed tables are laid: the witness. -/
noncomputable def low : Nat := (World.holding Tryz.prog default ⟨#[], #[], []⟩).heap.size
noncomputable def laidWorld (os : Os) : World :=
  let w0 := World.holding Tryz.prog os ⟨#[.cells #[.string ⟨#[118, 97, 108, 117, 101, 32, 111, 117, 116, 32, 111, 102, 32, 114, 97, 110, 103, 101]⟩] 137, .cells #[.string ⟨#[105, 110, 118, 97, 108, 105, 100, 32, 115, 121, 110, 116, 97, 120]⟩] 137], #[], []⟩
  let put (h : Array Obj) (g : Nat) (cs : Array Value) : Array Obj := h.modify g fun
    | .cells _ t frozen => .cells cs t frozen
    | o => o
  let h1 := put w0.heap 4 #[.int .u8 0, .int .u8 1, .int .u8 28, .int .u8 2, .int .u8 29, .int .u8 14, .int .u8 24, .int .u8 3, .int .u8 30, .int .u8 22, .int .u8 20, .int .u8 15, .int .u8 25, .int .u8 17, .int .u8 4, .int .u8 8, .int .u8 31, .int .u8 27, .int .u8 13, .int .u8 23, .int .u8 21, .int .u8 19, .int .u8 16, .int .u8 7, .int .u8 26, .int .u8 12, .int .u8 18, .int .u8 6, .int .u8 11, .int .u8 5, .int .u8 10, .int .u8 9]
  let h2 := put h1 5 #[.int .u8 0, .int .u8 1, .int .u8 56, .int .u8 2, .int .u8 57, .int .u8 49, .int .u8 28, .int .u8 3, .int .u8 61, .int .u8 58, .int .u8 42, .int .u8 50, .int .u8 38, .int .u8 29, .int .u8 17, .int .u8 4, .int .u8 62, .int .u8 47, .int .u8 59, .int .u8 36, .int .u8 45, .int .u8 43, .int .u8 51, .int .u8 22, .int .u8 53, .int .u8 39, .int .u8 33, .int .u8 30, .int .u8 24, .int .u8 18, .int .u8 12, .int .u8 5, .int .u8 63, .int .u8 55, .int .u8 48, .int .u8 27, .int .u8 60, .int .u8 41, .int .u8 37, .int .u8 16, .int .u8 46, .int .u8 35, .int .u8 44, .int .u8 21, .int .u8 52, .int .u8 32, .int .u8 23, .int .u8 11, .int .u8 54, .int .u8 26, .int .u8 40, .int .u8 15, .int .u8 34, .int .u8 20, .int .u8 31, .int .u8 10, .int .u8 25, .int .u8 14, .int .u8 19, .int .u8 9, .int .u8 13, .int .u8 8, .int .u8 7, .int .u8 6]
  let h3 := put h2 3 #[.int .u64 1, .int .u64 10, .int .u64 100, .int .u64 1000, .int .u64 10000, .int .u64 100000, .int .u64 1000000, .int .u64 10000000, .int .u64 100000000, .int .u64 1000000000, .int .u64 10000000000, .int .u64 100000000000, .int .u64 1000000000000, .int .u64 10000000000000, .int .u64 100000000000000, .int .u64 1000000000000000, .int .u64 10000000000000000, .int .u64 100000000000000000, .int .u64 1000000000000000000, .int .u64 10000000000000000000]
  let h4 := put h3 2 #[.iface 135 (.pointer (some ⟨low + 0, 0, none⟩))]
  let h5 := put h4 1 #[.iface 135 (.pointer (some ⟨low + 1, 0, none⟩))]
  { w0 with heap := h5 }
theorem laid_met (os : Os) (args : Array Value) : laidMetH Tryz.prog Rows.revMakeRow.laid ((laidWorld os).forCall (fun _ _ => 0) ⟨#[], args, []⟩).memory :=
  (LaidIn.of_run (l := Rows.revMakeRow.laid) [4, 5, 3, 2, 1, low + 0, low + 1] 8 (by kernel_rfl) (by kernel_rfl) (by kernel_rfl) (by kernel_rfl)).met
set_option maxRecDepth 100000 in
theorem lifted (os : Os) (started : os.Started) (H : Type) (enc : TypeId × Value → H) :
    ReturnsInHanded {} Tryz.checked os 3 .any (fun w args => (Rows.revMakeSpec.pre enc Tryz.prog Tryz.f3 Rows.revMakeRow.domain false w args ∧ laidMetH Tryz.prog Rows.revMakeRow.laid w) ∧ sizedMet enc Tryz.prog Tryz.f3 (OpenSpec.ofChange Rows.revMakeSpec) false w args) (Rows.revMakeSpec.post enc Tryz.prog Tryz.f3 false true false false) := by
  refine returnsInHanded_of_change_and (C := Tryz.checked) (X := fun w _ => laidMetH Tryz.prog Rows.revMakeRow.laid w) (fun _ _ _ hh h => h.of_heap hh) own started (by kernel_rfl) Tryz.func3
    (ChangeSpec.witness_at (enc := enc) (C := Tryz.checked) (os := os) (X := fun w _ => laidMetH Tryz.prog Rows.revMakeRow.laid w) false (laidWorld os) #[.agg #[.int .u64 0, .int .u8 0, .int .u8 0, .int .u8 0, .int .u8 0, .int .u8 0, .int .u8 0, .int .u8 0, .int .u8 0, .int .u8 0, .int .u8 0, .int .u8 0, .int .u8 0, .int .u8 0, .int .u8 0, .int .u8 0, .int .u8 0], .agg #[.int .u64 0, .int .u8 0, .int .u8 0, .int .u8 0, .int .u8 0, .int .u8 0, .int .u8 0, .int .u8 0, .int .u8 0, .int .u8 0, .int .u8 0, .int .u8 0, .int .u8 0, .int .u8 0, .int .u8 0, .int .u8 0, .int .u8 0], .int .i64 0, .agg #[.int .i64 0, .int .i64 0, .string ⟨#[]⟩, .slice none 0 0, .slice none 0 0]] 8 rfl (by kernel_rfl) (by kernel_rfl) (by kernel_rfl) (by kernel_rfl) (by kernel_rfl) (laid_met os _)) ?_
  intro W base args ds gs before hval0 hW hcnd hsz0 hlaid _
  have hval : ∀ (j : Nat) t v, Tryz.f3.params[j]? = some t → args[j]? = some v → Value.okWide Tryz.prog W .any base t v := hval0
  have hW' := hW
  obtain ⟨p, q, hA0, hV, rfl, hfz, hnd⟩ := hW
  have hA : DataW.TrodAll enc Tryz.prog W 0 (fun _ => true) true Tryz.f3.params.toList args.toList ds p := hA0
  have hsz : (DataW.weightsEach Tryz.prog Tryz.f3.params.toList ds).all (· ≤ reachBytes) = true := by
    refine List.all_eq_true.2 fun q hq => List.all_eq_true.1 hsz0 q ?_
    exact weights_app hq
  rw [Tryz.params3] at hA hval hsz
  obtain ⟨v0, vs0, d0, ds0, p0, q0, hargs, rfl, rfl, h0, r0⟩ := trodAll_cons hA
  obtain ⟨v1, vs1, d1, ds1, p1, q1, rfl, rfl, rfl, h1, r1⟩ := trodAll_cons r0
  obtain ⟨v2, vs2, d2, ds2, p2, q2, rfl, rfl, rfl, h2, r2⟩ := trodAll_cons r1
  obtain ⟨v3, vs3, d3, ds3, p3, q3, rfl, rfl, rfl, h3, r3⟩ := trodAll_cons r2
  obtain ⟨rfl, rfl, rfl⟩ := trodAll_nil r3
  obtain rfl : args = #[v0, v1, v2, v3] := by cases args; simp_all
  obtain ⟨rfl, rfl⟩ := trodVars_none hV
  have k0 := h0
  have k1 := h1
  have k2 := h2
  have k3 := h3
  have lt0 : ∀ x ∈ p0, x.block < W.heap.size := by obtain ⟨m, hm⟩ := k0; exact DataW.trod_lt m _ _ _ hm
  have lt1 : ∀ x ∈ p1, x.block < W.heap.size := by obtain ⟨m, hm⟩ := k1; exact DataW.trod_lt m _ _ _ hm
  have lt2 : ∀ x ∈ p2, x.block < W.heap.size := by obtain ⟨m, hm⟩ := k2; exact DataW.trod_lt m _ _ _ hm
  have lt3 : ∀ x ∈ p3, x.block < W.heap.size := by obtain ⟨m, hm⟩ := k3; exact DataW.trod_lt m _ _ _ hm
  obtain ⟨s0, rfl, z0⟩ := okWide_struct Tryz.underlying25 (hval 0 25 v0 rfl rfl)
  obtain ⟨x0, c0, t0⟩ := open_Ragg laidOut full (by kernel_rfl) k0 (wt_mem hsz (j := 0) rfl rfl)
  obtain ⟨a0, rfl, o0⟩ := ty25 t0
  obtain ⟨s1, rfl, z1⟩ := okWide_struct Tryz.underlying25 (hval 1 25 v1 rfl rfl)
  obtain ⟨x1, c1, t1⟩ := open_Ragg laidOut full (by kernel_rfl) k1 (wt_mem hsz (j := 1) rfl rfl)
  obtain ⟨a1, rfl, o1⟩ := ty25 t1
  obtain ⟨n2, rfl⟩ := okWide_int Tryz.underlying3 (hval 2 3 v2 rfl rfl)
  obtain ⟨x2, c2, t2⟩ := open_R laidOut full (by kernel_rfl) rfl k2 (wt_mem hsz (j := 2) rfl rfl)
  obtain ⟨a2, rfl, o2⟩ := ty3 t2
  have e2 := c2.val_inv
  injection e2 with e2 _
  obtain ⟨s3, rfl, z3⟩ := okWide_struct Tryz.underlying29 (hval 3 29 v3 rfl rfl)
  obtain ⟨x3, c3, t3⟩ := open_Ragg laidOut full (by kernel_rfl) k3 (wt_mem hsz (j := 3) rfl rfl)
  obtain ⟨a3, rfl, o3⟩ := ty29 t3
  clear hA0 hval0
  have tb2 : Tab2 (St.init W) := tab_of_laid (P := Tryz.prog) (zs := Lib.pow10Tab) (g := 3) (t := 110) (e := 22) (n := 20) (laidMet_of hlaid (by rfl)) (show _ ∈ Rows.revMakeRow.laid from List.mem_cons_of_mem _ (List.mem_cons_of_mem _ (List.mem_cons.2 (Or.inl (by kernel_rfl))))) (by kernel_rfl) (by kernel_rfl) Tryz.underlying110 Tryz.underlying22 (by kernel_rfl) (by kernel_rfl)
  have tb0 : Tab0 (St.init W) := ev_of_laid (P := Tryz.prog) (name := "strconv.ErrSyntax") (d := Rows.laid_strconv_ErrSyntax) (g := 1) (t := 54) (laidMet_of hlaid (by rfl)) (show _ ∈ Rows.revMakeRow.laid from List.mem_cons_of_mem _ (List.mem_cons_of_mem _ (List.mem_cons_of_mem _ (List.mem_cons_of_mem _ (List.mem_cons.2 (Or.inl (by kernel_rfl))))))) (by kernel_rfl) (by kernel_rfl) Tryz.underlying54
  have tb1 : Tab1 (St.init W) := ev_of_laid (P := Tryz.prog) (name := "strconv.ErrRange") (d := Rows.laid_strconv_ErrRange) (g := 2) (t := 54) (laidMet_of hlaid (by rfl)) (show _ ∈ Rows.revMakeRow.laid from List.mem_cons_of_mem _ (List.mem_cons_of_mem _ (List.mem_cons_of_mem _ (List.mem_cons.2 (Or.inl (by kernel_rfl)))))) (by kernel_rfl) (by kernel_rfl) Tryz.underlying54
  have hw := law06_RevMake_w (s := St.init W) c0 c1 c3 tb2 tb0 tb1 (show law06_RevMake a0 a1 a2 a3 = some true from (RevMake_pure a0 a1 a2 a3 o3))
  rw [← e2] at hw
  refine (below_of hw).mono fun e W' ⟨he, bel⟩ => ?_
  subst he
  exact ⟨_, rfl, _, _, _, [], _, [], hW', trodAll_mk1 (shut_bool Tryz.underlying4 _), (trodAll_cons_mk (Below.trod laidOut (by kernel_rfl) (of_decide_eq_true (by kernel_rfl)) k0 bel lt0) (trodAll_cons_mk (Below.trod laidOut (by kernel_rfl) (of_decide_eq_true (by kernel_rfl)) k1 bel lt1) (trodAll_cons_mk (Below.trod laidOut (by kernel_rfl) (of_decide_eq_true (by kernel_rfl)) k2 bel lt2) (trodAll_cons_mk (Below.trod laidOut (by kernel_rfl) (of_decide_eq_true (by kernel_rfl)) k3 bel lt3) trodAll_mk0)))), rfl, bel.frame _, fun h => by cases h⟩

theorem over : Rows.revMakeRow.holds Tryz.pinned (OpenSpec.ofChange Rows.revMakeSpec) :=
  OpenClaim.holds_of_wide 3 Tryz.f3 rfl rfl rfl rfl rfl rfl rfl ⟨rfl, rfl, rfl, rfl, rfl⟩ rfl rfl rfl rfl rfl (by kernel_rfl) Tryz.func3 (by kernel_rfl)
    (of_decide_eq_true (by kernel_rfl)) (by unfold Func.isWrapper; first | (rw [if_pos (by decide +kernel)]; kernel_rfl) | (rw [if_neg (by decide +kernel)]; exact ⟨rfl, rfl⟩))
    (fun os started H enc _ => lifted os started H enc)
set_option maxRecDepth 100000 in
theorem revMake_holds : Rows.RevMakeCardSaid :=
  Claim7.holds_tied_plain_at .later [] [.data, .data, .data, .sentinel, .sentinel] true (true, "cef43a09c4241c052e3db160a932ad5fbd630d79b67a947119b04550012437f6") true
    over (fun _ h => by cases h) (by kernel_rfl) (fun _ h => by cases h) revMake_row_tie rfl ⟨rfl, rfl⟩ (by kernel_rfl) rfl
    (fun f fn hf hfn => by
      obtain rfl : f = 3 := Option.some.inj ((show Tryz.prog.funcNamed "tidewrack/tidewracklaw06.RevMake" = some 3 by kernel_rfl).symm.trans hf) |>.symm
      obtain rfl : fn = Tryz.f3 := (Option.some.inj (Tryz.func3.symm.trans hfn)).symm
      exact ⟨by kernel_rfl, fun j t ht => by
        rw [Tryz.params3] at ht
        have hm : t ∈ [25, 25, 3, 29] := by
          have := List.mem_of_getElem? (l := [25, 25, 3, 29]) (i := j) (a := t) (by simpa using ht)
          exact this
        have hall : [25, 25, 3, 29].all (fun t => Tryz.prog.wantsStandIn t == false) = true := by kernel_rfl
        exact eq_of_beq (List.all_eq_true.1 hall t hm)⟩)
    (by kernel_rfl)
#print axioms revMake_holds
end Go.Proofs.YtdofbkomeadjgaaGreatDoor
