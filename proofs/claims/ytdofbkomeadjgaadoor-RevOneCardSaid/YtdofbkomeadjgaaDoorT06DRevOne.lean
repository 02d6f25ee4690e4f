/-
  PROVED: RevOne: for every input the law returns true, and its arguments read behind the call as before. No conditions beyond the row's own.
-/
import Derived.Test.YtdofbkomeadjgaaDoorFwTabFwVW
import Derived.Test.YtdofbkomeadjgaaDoorQ06AQ06L
import Derived.Test.YtdofbkomeadjgaaDoorW06DRevOne3
import Derived.Test.YtdofbkomeadjgaaDoorCards
import Derived.Test.YtdofbkomeadjgaaDoorTie
import Derived.WalkKit
import Derived.ProofKit
import Derived.OpenShut
import Derived.ShutString
import Derived.ChangeOld
import Derived.Below
import Derived.ChangeSame
import Derived.ChangeVars
import Derived.JoinedOf
import Derived.RowKit
import Derived.RowKitTokens
import Derived.LaidLaws
import Derived.LaidHandle
import Derived.Lib.LaidIn
import Derived.Stop.Joined
import Derived.SevenTiedAt
namespace Go.Proofs.YtdofbkomeadjgaaDoor
open Go.Fw Go.Proofs
open Go.ChangeShapes Go.WideShapes Go.ChangeAt Go.RowKit
open Go.ChangeMaps (open_string shut_string)
set_option linter.unusedVariables false
theorem own : ownKnob Tryd.prog.godebug = none := by kernel_rfl
theorem laidOut : laidOutB Tryd.prog = true := by kernel_rfl
theorem full : closedB Tryd.prog [29, 26, 27, 5, 30, 34, 3, 2, 9, 32] = true := by kernel_rfl
theorem ty26 {d : D} (h : Typed Tryd.prog 26 d) : ∃ x : UInt64, d = dU64 x ∧ True := by
  obtain ⟨n, rfl, hw⟩ := h.inv_int Tryd.underlying26
  have hb := bounds_u64 hw
  refine ⟨UInt64.ofNat n.toNat, ?_, trivial⟩
  show D.val (.int .u64 n) = D.val (.int .u64 ((UInt64.ofNat n.toNat).toNat : Int))
  rw [UInt64.toNat_ofNat', Nat.mod_eq_of_lt (by omega)]; congr 2; omega
theorem ty5 {d : D} (h : Typed Tryd.prog 5 d) : ∃ x : UInt8, d = bD x ∧ True := by
  obtain ⟨n, rfl, hw⟩ := h.inv_int Tryd.underlying5
  have hb := bounds_u8 hw
  refine ⟨UInt8.ofNat n.toNat, ?_, trivial⟩
  show D.val (.int .u8 n) = D.val (.int .u8 ((UInt8.ofNat n.toNat).toNat : Int))
  rw [UInt8.toNat_ofNat', Nat.mod_eq_of_lt (by omega)]; congr 2; omega
def okSt27 (x : St27) : Prop := True
theorem ty27 {d : D} (h : Typed Tryd.prog 27 d) : ∃ x : St27, d = dSt27 x ∧ okSt27 x := by
  obtain ⟨l, rfl, hl, hx⟩ := h.inv_arr Tryd.underlying27
  match l, hl with
  | [d0, d1, d2, d3, d4, d5, d6, d7, d8, d9, d10, d11, d12, d13, d14, d15], _ =>
    obtain ⟨x0, rfl, k0⟩ := ty5 (hx d0 (by simp))
    obtain ⟨x1, rfl, k1⟩ := ty5 (hx d1 (by simp))
    obtain ⟨x2, rfl, k2⟩ := ty5 (hx d2 (by simp))
    obtain ⟨x3, rfl, k3⟩ := ty5 (hx d3 (by simp))
    obtain ⟨x4, rfl, k4⟩ := ty5 (hx d4 (by simp))
    obtain ⟨x5, rfl, k5⟩ := ty5 (hx d5 (by simp))
    obtain ⟨x6, rfl, k6⟩ := ty5 (hx d6 (by simp))
    obtain ⟨x7, rfl, k7⟩ := ty5 (hx d7 (by simp))
    obtain ⟨x8, rfl, k8⟩ := ty5 (hx d8 (by simp))
    obtain ⟨x9, rfl, k9⟩ := ty5 (hx d9 (by simp))
    obtain ⟨x10, rfl, k10⟩ := ty5 (hx d10 (by simp))
    obtain ⟨x11, rfl, k11⟩ := ty5 (hx d11 (by simp))
    obtain ⟨x12, rfl, k12⟩ := ty5 (hx d12 (by simp))
    obtain ⟨x13, rfl, k13⟩ := ty5 (hx d13 (by simp))
    obtain ⟨x14, rfl, k14⟩ := ty5 (hx d14 (by simp))
    obtain ⟨x15, rfl, k15⟩ := ty5 (hx d15 (by simp))
    exact ⟨⟨x0, x1, x2, x3, x4, x5, x6, x7, x8, x9, x10, x11, x12, x13, x14, x15⟩, rfl, trivial⟩
def okApiRev (x : ApiRev) : Prop := True ∧ okSt27 x.Sum
theorem ty29 {d : D} (h : Typed Tryd.prog 29 d) : ∃ x : ApiRev, d = dApiRev x ∧ okApiRev x := by
  obtain ⟨l, rfl, hl, hx⟩ := h.inv_agg Tryd.underlying29
  match l, hl with
  | [d0, d1], _ =>
    have t0 : Typed Tryd.prog 26 d0 := hx 0 _ d0 rfl rfl
    obtain ⟨x0, rfl, k0⟩ := ty26 t0
    have t1 : Typed Tryd.prog 27 d1 := hx 1 _ d1 rfl rfl
    obtain ⟨x1, rfl, k1⟩ := ty27 t1
    exact ⟨⟨x0, x1⟩, rfl, k0, k1⟩
theorem ty3 {d : D} (h : Typed Tryd.prog 3 d) : ∃ x : Int, d = dI64 x ∧ (-9223372036854775808 ≤ x ∧ x ≤ 9223372036854775807) := by
  obtain ⟨n, rfl, hw⟩ := h.inv_int Tryd.underlying3
  exact ⟨n, rfl, bounds_i64 hw⟩
theorem ty2 {d : D} (h : Typed Tryd.prog 2 d) : ∃ x : Int, d = dI64 x ∧ (-9223372036854775808 ≤ x ∧ x ≤ 9223372036854775807) := by
  obtain ⟨n, rfl, hw⟩ := h.inv_int Tryd.underlying2
  exact ⟨n, rfl, bounds_i64 hw⟩
theorem ty9 {d : D} (h : Typed Tryd.prog 9 d) : ∃ x : (List UInt8), d = dS x ∧ x.length ≤ 140737488351232 := by
  obtain ⟨l, rfl, hl⟩ := h.inv_str Tryd.underlying9
  have e : reachBytes = 140737488351232 := by decide
  rw [e] at hl
  exact ⟨l, rfl, hl⟩
theorem cells9 : Tryd.prog.cellsOf 9 = 1 := by kernel_rfl
theorem bytes9 : Tryd.prog.bytesOf 9 = 16 := by kernel_rfl
theorem ty32 {d : D} (h : Typed Tryd.prog 32 d) : ∃ x : (List (List UInt8)), d = (dL 1 dS) x ∧ (x.length ≤ 140737488351232 ∧ ∀ y ∈ x, y.length ≤ 140737488351232) := by
  obtain ⟨l, rfl, hl, hx⟩ := h.inv_sl Tryd.underlying32
  obtain ⟨m, rfl, hm⟩ := all_of (f := dS) (ok := (fun y : (List UInt8) => y.length ≤ 140737488351232)) (l := l) (fun x hx' => ty9 (hx x hx'))
  have e : reachBytes = 140737488351232 := by decide
  rw [List.length_map, e, bytes9] at hl
  rw [cells9]
  exact ⟨m, rfl, by omega, hm⟩
theorem cells34 : Tryd.prog.cellsOf 34 = 5 := by kernel_rfl
theorem bytes34 : Tryd.prog.bytesOf 34 = 80 := by kernel_rfl
theorem ty34n : ∀ (n : Nat) {d : D}, SizeOf.sizeOf d ≤ n → Typed Tryd.prog 34 d → ∃ x : ApiValue, d = dApiValue x ∧ TV x
  | 0, d, hn, _ => by cases d <;> simp at hn
  | n + 1, d, hn, h => by
    obtain ⟨l, rfl, hl, hx⟩ := h.inv_agg Tryd.underlying34
    match l, hl with
    | [d0, d1, d2, d3, d4], _ =>
      have t0 : Typed Tryd.prog 3 d0 := hx 0 _ d0 rfl rfl
      have t1 : Typed Tryd.prog 2 d1 := hx 1 _ d1 rfl rfl
      have t2 : Typed Tryd.prog 9 d2 := hx 2 _ d2 rfl rfl
      have t3 : Typed Tryd.prog 30 d3 := hx 3 _ d3 rfl rfl
      have t4 : Typed Tryd.prog 32 d4 := hx 4 _ d4 rfl rfl
      obtain ⟨x0, rfl, k0⟩ := ty3 t0
      obtain ⟨x1, rfl, k1⟩ := ty2 t1
      obtain ⟨x2, rfl, k2⟩ := ty9 t2
      obtain ⟨x4, rfl, k4⟩ := ty32 t4
      obtain ⟨l3, rfl, hl3, hx3⟩ := t3.inv_sl Tryd.underlying30
      have hs : ∀ x ∈ l3, SizeOf.sizeOf x ≤ n := fun x hx => by
        have := List.sizeOf_lt_of_mem hx
        simp at hn; omega
      obtain ⟨m3, rfl, hm3⟩ := all_of (f := dApiValue) (ok := TV) (l := l3) (fun x hx => ty34n n (hs x hx) (hx3 x hx))
      have e : reachBytes = 140737488351232 := by decide
      rw [List.length_map, e, bytes34] at hl3
      rw [cells34]
      refine ⟨⟨x0, x1, x2, m3, x4⟩, ?_, TV.mk k0 k1 (Nat.le_trans k2 (by decide)) (Nat.le_trans (show m3.length ≤ 140737488351232 by omega) (by decide)) (Nat.le_trans k4.1 (by decide)) (fun k hk => Nat.le_trans (k4.2 k hk) (by decide)) hm3⟩
      rw [← dsApiValue_eq]
theorem ty34 {d : D} (h : Typed Tryd.prog 34 d) : ∃ x : ApiValue, d = dApiValue x ∧ TV x := ty34n _ (Nat.le_refl _) h
theorem ty30 {d : D} (h : Typed Tryd.prog 30 d) : ∃ x : (List ApiValue), d = (dL 5 dApiValue) x ∧ (x.length ≤ 140737488351232 ∧ ∀ y ∈ x, TV y) := by
  obtain ⟨l, rfl, hl, hx⟩ := h.inv_sl Tryd.underlying30
  obtain ⟨m, rfl, hm⟩ := all_of (f := dApiValue) (ok := (fun y : ApiValue => TV y)) (l := l) (fun x hx' => ty34 (hx x hx'))
  have e : reachBytes = 140737488351232 := by decide
  rw [List.length_map, e, bytes34] at hl
  rw [cells34]
  exact ⟨m, rfl, by omega, hm⟩
/-- A world in which the listed tables are laid: the witness. -/
noncomputable def low : Nat := (World.holding Tryd.prog default ⟨#[], #[], []⟩).heap.size
noncomputable def laidWorld (os : Os) : World :=
  let w0 := World.holding Tryd.prog os ⟨#[.cells #[.string ⟨#[118, 97, 108, 117, 101, 32, 111, 117, 116, 32, 111, 102, 32, 114, 97, 110, 103, 101]⟩] 136, .cells #[.string ⟨#[105, 110, 118, 97, 108, 105, 100, 32, 115, 121, 110, 116, 97, 120]⟩] 136], #[], []⟩
  let put (h : Array Obj) (g : Nat) (cs : Array Value) : Array Obj := h.modify g fun
    | .cells _ t frozen => .cells cs t frozen
    | o => o
  let h1 := put w0.heap 4 #[.int .u8 0, .int .u8 1, .int .u8 28, .int .u8 2, .int .u8 29, .int .u8 14, .int .u8 24, .int .u8 3, .int .u8 30, .int .u8 22, .int .u8 20, .int .u8 15, .int .u8 25, .int .u8 17, .int .u8 4, .int .u8 8, .int .u8 31, .int .u8 27, .int .u8 13, .int .u8 23, .int .u8 21, .int .u8 19, .int .u8 16, .int .u8 7, .int .u8 26, .int .u8 12, .int .u8 18, .int .u8 6, .int .u8 11, .int .u8 5, .int .u8 10, .int .u8 9]
  let h2 := put h1 5 #[.int .u8 0, .int .u8 1, .int .u8 56, .int .u8 2, .int .u8 57, .int .u8 49, .int .u8 28, .int .u8 3, .int .u8 61, .int .u8 58, .int .u8 42, .int .u8 50, .int .u8 38, .int .u8 29, .int .u8 17, .int .u8 4, .int .u8 62, .int .u8 47, .int .u8 59, .int .u8 36, .int .u8 45, .int .u8 43, .int .u8 51, .int .u8 22, .int .u8 53, .int .u8 39, .int .u8 33, .int .u8 30, .int .u8 24, .int .u8 18, .int .u8 12, .int .u8 5, .int .u8 63, .int .u8 55, .int .u8 48, .int .u8 27, .int .u8 60, .int .u8 41, .int .u8 37, .int .u8 16, .int .u8 46, .int .u8 35, .int .u8 44, .int .u8 21, .int .u8 52, .int .u8 32, .int .u8 23, .int .u8 11, .int .u8 54, .int .u8 26, .int .u8 40, .int .u8 15, .int .u8 34, .int .u8 20, .int .u8 31, .int .u8 10, .int .u8 25, .int .u8 14, .int .u8 19, .int .u8 9, .int .u8 13, .int .u8 8, .int .u8 7, .int .u8 6]
  let h3 := put h2 1 #[.int .u64 1, .int .u64 10, .int .u64 100, .int .u64 1000, .int .u64 10000, .int .u64 100000, .int .u64 1000000, .int .u64 10000000, .int .u64 100000000, .int .u64 1000000000, .int .u64 10000000000, .int .u64 100000000000, .int .u64 1000000000000, .int .u64 10000000000000, .int .u64 100000000000000, .int .u64 1000000000000000, .int .u64 10000000000000000, .int .u64 100000000000000000, .int .u64 1000000000000000000, .int .u64 10000000000000000000]
  let h4 := put h3 3 #[.iface 134 (.pointer (some ⟨low + 0, 0, none⟩))]
  let h5 := put h4 2 #[.iface 134 (.pointer (some ⟨low + 1, 0, none⟩))]
  { w0 with heap := h5 }
theorem laid_met (os : Os) (args : Array Value) : laidMetH Tryd.prog Rows.revOneRow.laid ((laidWorld os).forCall (fun _ _ => 0) ⟨#[], args, []⟩).memory :=
  (LaidIn.of_run (l := Rows.revOneRow.laid) [4, 5, 1, 3, 2, low + 0, low + 1] 8 (by kernel_rfl) (by kernel_rfl) (by kernel_rfl) (by kernel_rfl)).met
set_option maxRecDepth 100000 in
theorem lifted (os : Os) (started : os.Started) (H : Type) (enc : TypeId × Value → H) :
    ReturnsInHanded {} Tryd.checked os 4 .any (fun w args => (Rows.revOneSpec.pre enc Tryd.prog Tryd.f4 Rows.revOneRow.domain false w args ∧ laidMetH Tryd.prog Rows.revOneRow.laid w) ∧ sizedMet enc Tryd.prog Tryd.f4 (OpenSpec.ofChange Rows.revOneSpec) false w args) (Rows.revOneSpec.post enc Tryd.prog Tryd.f4 false true false false) := by
  refine returnsInHanded_of_change_and (C := Tryd.checked) (X := fun w _ => laidMetH Tryd.prog Rows.revOneRow.laid w) (fun _ _ _ hh h => h.of_heap hh) own started (by kernel_rfl) Tryd.func4
    (ChangeSpec.witness_at (enc := enc) (C := Tryd.checked) (os := os) (X := fun w _ => laidMetH Tryd.prog Rows.revOneRow.laid w) false (laidWorld os) #[.agg #[.int .u64 0, .int .u8 0, .int .u8 0, .int .u8 0, .int .u8 0, .int .u8 0, .int .u8 0, .int .u8 0, .int .u8 0, .int .u8 0, .int .u8 0, .int .u8 0, .int .u8 0, .int .u8 0, .int .u8 0, .int .u8 0, .int .u8 0], .slice none 0 0, .int .i64 0] 8 rfl (by kernel_rfl) (by kernel_rfl) (by kernel_rfl) (by kernel_rfl) (by kernel_rfl) (laid_met os _)) ?_
  intro W base args ds gs before hval0 hW hcnd hsz0 hlaid _
  have hval : ∀ (j : Nat) t v, Tryd.f4.params[j]? = some t → args[j]? = some v → Value.okWide Tryd.prog W .any base t v := hval0
  have hW' := hW
  obtain ⟨p, q, hA0, hV, rfl, hfz, hnd⟩ := hW
  have hA : DataW.TrodAll enc Tryd.prog W 0 (fun _ => true) true Tryd.f4.params.toList args.toList ds p := hA0
  have hsz : (DataW.weightsEach Tryd.prog Tryd.f4.params.toList ds).all (· ≤ reachBytes) = true := by
    refine List.all_eq_true.2 fun q hq => List.all_eq_true.1 hsz0 q ?_
    exact weights_app hq
  rw [Tryd.params4] at hA hval hsz
  obtain ⟨v0, vs0, d0, ds0, p0, q0, hargs, rfl, rfl, h0, r0⟩ := trodAll_cons hA
  obtain ⟨v1, vs1, d1, ds1, p1, q1, rfl, rfl, rfl, h1, r1⟩ := trodAll_cons r0
  obtain ⟨v2, vs2, d2, ds2, p2, q2, rfl, rfl, rfl, h2, r2⟩ := trodAll_cons r1
  obtain ⟨rfl, rfl, rfl⟩ := trodAll_nil r2
  obtain rfl : args = #[v0, v1, v2] := by cases args; simp_all
  obtain ⟨rfl, rfl⟩ := trodVars_none hV
  have k0 := h0
  have k1 := h1
  have k2 := h2
  have lt0 : ∀ x ∈ p0, x.block < W.heap.size := by obtain ⟨m, hm⟩ := k0; exact DataW.trod_lt m _ _ _ hm
  have lt1 : ∀ x ∈ p1, x.block < W.heap.size := by obtain ⟨m, hm⟩ := k1; exact DataW.trod_lt m _ _ _ hm
  have lt2 : ∀ x ∈ p2, x.block < W.heap.size := by obtain ⟨m, hm⟩ := k2; exact DataW.trod_lt m _ _ _ hm
  obtain ⟨s0, rfl, z0⟩ := okWide_struct Tryd.underlying29 (hval 0 29 v0 rfl rfl)
  obtain ⟨x0, c0, t0⟩ := open_Ragg laidOut full (by kernel_rfl) k0 (wt_mem hsz (j := 0) rfl rfl)
  obtain ⟨a0, rfl, o0⟩ := ty29 t0
  obtain ⟨s1, len1, cap1, rfl⟩ := okWide_slice Tryd.underlying30 (hval 1 30 v1 rfl rfl)
  obtain ⟨x1, c1, t1⟩ := open_R laidOut full (by kernel_rfl) rfl k1 (wt_mem hsz (j := 1) rfl rfl)
  obtain ⟨a1, rfl, o1⟩ := ty30 t1
  obtain ⟨n2, rfl⟩ := okWide_int Tryd.underlying3 (hval 2 3 v2 rfl rfl)
  obtain ⟨x2, c2, t2⟩ := open_R laidOut full (by kernel_rfl) rfl k2 (wt_mem hsz (j := 2) rfl rfl)
  obtain ⟨a2, rfl, o2⟩ := ty3 t2
  have e2 := c2.val_inv
  injection e2 with e2 _
  clear hA0 hval0
  have tb2 : Tab2 (St.init W) := tab_of_laid (P := Tryd.prog) (zs := Lib.pow10Tab) (g := 1) (t := 108) (e := 26) (n := 20) (laidMet_of hlaid (by rfl)) (show _ ∈ Rows.revOneRow.laid from List.mem_cons_of_mem _ (List.mem_cons_of_mem _ (List.mem_cons.2 (Or.inl (by kernel_rfl))))) (by kernel_rfl) (by kernel_rfl) Tryd.underlying108 Tryd.underlying26 (by kernel_rfl) (by kernel_rfl)
  have tb0 : Tab0 (St.init W) := ev_of_laid (P := Tryd.prog) (name := "strconv.ErrSyntax") (d := Rows.laid_strconv_ErrSyntax) (g := 2) (t := 61) (laidMet_of hlaid (by rfl)) (show _ ∈ Rows.revOneRow.laid from List.mem_cons_of_mem _ (List.mem_cons_of_mem _ (List.mem_cons_of_mem _ (List.mem_cons_of_mem _ (List.mem_cons.2 (Or.inl (by kernel_rfl))))))) (by kernel_rfl) (by kernel_rfl) Tryd.underlying61
  have tb1 : Tab1 (St.init W) := ev_of_laid (P := Tryd.prog) (name := "strconv.ErrRange") (d := Rows.laid_strconv_ErrRange) (g := 3) (t := 61) (laidMet_of hlaid (by rfl)) (show _ ∈ Rows.revOneRow.laid from List.mem_cons_of_mem _ (List.mem_cons_of_mem _ (List.mem_cons_of_mem _ (List.mem_cons.2 (Or.inl (by kernel_rfl)))))) (by kernel_rfl) (by kernel_rfl) Tryd.underlying61
  have hw := law06_RevOne_w (s := St.init W) c0 c1 tb2 tb0 tb1 (show law06_RevOne a0 a1 a2 = some true from (RevOne_pure a0 a1 a2 o1.2))
  rw [← e2] at hw
  refine (below_of hw).mono fun e W' ⟨he, bel⟩ => ?_
  subst he
  exact ⟨_, rfl, _, _, _, [], _, [], hW', trodAll_mk1 (shut_bool Tryd.underlying4 _), (trodAll_cons_mk (Below.trod laidOut (by kernel_rfl) (of_decide_eq_true (by kernel_rfl)) k0 bel lt0) (trodAll_cons_mk (Below.trod laidOut (by kernel_rfl) (of_decide_eq_true (by kernel_rfl)) k1 bel lt1) (trodAll_cons_mk (Below.trod laidOut (by kernel_rfl) (of_decide_eq_true (by kernel_rfl)) k2 bel lt2) trodAll_mk0))), rfl, bel.frame _, fun h => by cases h⟩

theorem over : Rows.revOneRow.holds Tryd.pinned (OpenSpec.ofChange Rows.revOneSpec) :=
  OpenClaim.holds_of_wide 4 Tryd.f4 rfl rfl rfl rfl rfl rfl rfl ⟨rfl, rfl, rfl, rfl, rfl⟩ rfl rfl rfl rfl rfl (by kernel_rfl) Tryd.func4 (by kernel_rfl)
    (of_decide_eq_true (by kernel_rfl)) (by unfold Func.isWrapper; first | (rw [if_pos (by decide +kernel)]; kernel_rfl) | (rw [if_neg (by decide +kernel)]; exact ⟨rfl, rfl⟩))
    (fun os started H enc _ => lifted os started H enc)
set_option maxRecDepth 100000 in
theorem revOne_holds : Rows.RevOneCardSaid :=
  Claim7.holds_tied_plain_at .later [] [.data, .data, .data, .sentinel, .sentinel] true (true, "80b6ddcdb3b8b93d9073793964af6713ae74cec538d0d358a43fc4f0a2157b4e") true
    over (fun _ h => by cases h) (by kernel_rfl) (fun _ h => by cases h) revOne_row_tie rfl ⟨rfl, rfl⟩ (by kernel_rfl) rfl
    (fun f fn hf hfn => by
      obtain rfl : f = 4 := Option.some.inj ((show Tryd.prog.funcNamed "tidewrack/tidewracklaw06.RevOne" = some 4 by kernel_rfl).symm.trans hf) |>.symm
      obtain rfl : fn = Tryd.f4 := (Option.some.inj (Tryd.func4.symm.trans hfn)).symm
      exact ⟨by kernel_rfl, fun j t ht => by
        rw [Tryd.params4] at ht
        have hm : t ∈ [29, 30, 3] := by
          have := List.mem_of_getElem? (l := [29, 30, 3]) (i := j) (a := t) (by simpa using ht)
          exact this
        have hall : [29, 30, 3].all (fun t => Tryd.prog.wantsStandIn t == false) = true := by kernel_rfl
        exact eq_of_beq (List.all_eq_true.1 hall t hm)⟩)
    (by kernel_rfl)
#print axioms revOne_holds
end Go.Proofs.YtdofbkomeadjgaaDoor
