import Derived.Test.YtepifllifhikiaaDoorFwN
import Derived.IntWalk
set_option linter.unusedSimpArgs false
set_option linter.unusedVariables false
namespace Go.Fw

theorem wrap_i64 {p : Int} (h0 : -9223372036854775808 ≤ p) (h1 : p ≤ 9223372036854775807) : IntKind.i64.wrap p = p := IntWalk.i64_in p ⟨h0, h1⟩
theorem wrap_u {k : IntKind} (hk : k.signed = false) {p : Int} (h0 : 0 ≤ p) (h1 : p < 2 ^ k.bits) : k.wrap p = p := by
  simp [IntKind.wrap, hk]; exact Int.emod_eq_of_lt h0 h1
theorem wrap_u64 {p : Int} (h0 : 0 ≤ p) (h1 : p ≤ 18446744073709551615) : IntKind.u64.wrap p = p := wrap_u rfl h0 (by show p < 2 ^ 64; omega)
theorem wrap_u32 {p : Int} (h0 : 0 ≤ p) (h1 : p ≤ 4294967295) : IntKind.u32.wrap p = p := wrap_u rfl h0 (by show p < 2 ^ 32; omega)
theorem wrap_u8 {p : Int} (h0 : 0 ≤ p) (h1 : p ≤ 255) : IntKind.u8.wrap p = p := wrap_u rfl h0 (by show p < 2 ^ 8; omega)
theorem wrap_u64_mod (p : Int) : IntKind.u64.wrap p = p % 18446744073709551616 := by simp [IntKind.wrap, IntKind.signed, IntKind.bits]
theorem wrap_u32_mod (p : Int) : IntKind.u32.wrap p = p % 4294967296 := by simp [IntKind.wrap, IntKind.signed, IntKind.bits]
theorem wrap_u8_mod (p : Int) : IntKind.u8.wrap p = p % 256 := by simp [IntKind.wrap, IntKind.signed, IntKind.bits]

theorem R.val {s : St} {v : Value} (h : v.oneCell' = true) : R s v (.val v) := RC.val v h
theorem RVs.cons {s : St} {v : Value} {d : D} {vs : List Value} {ds : List D} (h : R s v d) (hr : RVs s vs ds) : RVs s (v :: vs) (d :: ds) := ⟨h, hr⟩
theorem RVs.nil {s : St} : RVs s [] [] := trivial
theorem Parts.cons {i : Nat} {v : Value} {cs : List Value} {r : List (Nat × Value)} {q : List (Nat × List Value)} (h : v.cells.toList = cs) (hr : Parts r q) : Parts ((i, v) :: r) ((i, cs) :: q) := ⟨rfl, h, hr⟩
theorem Parts.nil : Parts [] [] := trivial

def nilS : Value → Bool
  | .slice none _ _ => true
  | _ => false

def bytesT (P : Program) (t : TypeId) (m : Nat) : Bool := match P.info? t with | some i => i.bytes == m | none => false
theorem elemT_of {P : Program} {t e w b : Nat} {z : Value} (h1 : P.underlying t = some (.slice e)) (h2 : sizeT P e w = true) (h3 : bytesT P e b = true) (h4 : zeroT P e = some z) (h5 : z.cells.size = w) (h6 : 0 < w) : elemT P t e w b z := by
  unfold sizeT at h2
  unfold bytesT at h3
  unfold zeroT at h4
  cases hi : P.info? e with
  | none => rw [hi] at h2; simp at h2
  | some i =>
    rw [hi] at h2 h3 h4
    exact ⟨i, h1, hi, h4, by simpa using h2, by simpa using h3, h5, h6⟩

theorem all_bytes (l : List UInt8) : (l.map fun b => Value.int .u8 b.toNat).all Value.oneCell' = true := by simp [Value.oneCell']

theorem at_map {α : Type} [Inhabited α] {l : List α} {f : α → D} {i : Nat} (h : i < l.length) : (l.map f)[i]? = some (f (l.getD i default)) := by
  simp [List.getD, h]
theorem at_map' {α : Type} [Inhabited α] {l : List α} {f : α → D} {p : Int} (h0 : 0 ≤ p) (h : p < l.length) : (l.map f)[p.toNat]? = some (f (l.getD p.toNat default)) := at_map (by omega)

section
variable {P : Program} {n : Nat} {Df : Md} {ops : Array Oper} {Q : Post} {rest : List Oper} {ρ : Env} {s : St} {w : World}
variable {d : Nat} {ty : TypeId} {pos : String} {aft : Array Edge} {x y : Operand} {tx tyy : TypeId} {p q : Int} {k : IntKind}

theorem k_pickT {c : Operand} {v : Value} (hc : ev ρ c = some (.bool true)) (hx : ev ρ x = some v) (hy : (ev ρ y).isSome = true) (hd : Nat.blt d n = true)
    (hK : KL P n Df ops Q rest ((d, v) :: ρ) w) : KL P n Df ops Q (⟨some d, .pick c x y, ty, pos, aft, none⟩ :: rest) ρ w := by
  obtain ⟨u, hu⟩ := Option.isSome_iff_exists.1 hy
  exact k_pick (b := true) hc hx hu hd hK
theorem k_pickF {c : Operand} {v : Value} (hc : ev ρ c = some (.bool false)) (hx : (ev ρ x).isSome = true) (hy : ev ρ y = some v) (hd : Nat.blt d n = true)
    (hK : KL P n Df ops Q rest ((d, v) :: ρ) w) : KL P n Df ops Q (⟨some d, .pick c x y, ty, pos, aft, none⟩ :: rest) ρ w := by
  obtain ⟨u, hu⟩ := Option.isSome_iff_exists.1 hx
  exact k_pick (b := false) hc hu hy hd hK
theorem k_notd {pr : Prop} [inst : Decidable pr] (hx : ev ρ x = some (.bool (decide pr))) (hd : Nat.blt d n = true)
    (hK : KL P n Df ops Q rest ((d, .bool (decide (¬ pr))) :: ρ) w) : KL P n Df ops Q (⟨some d, .unOp .not tx x, ty, pos, aft, none⟩ :: rest) ρ w :=
  k_not hx hd (by rw [← decide_not]; exact hK)

/-! sums that fit -/
theorem k_addN (hx : ev ρ x = some (.int .i64 p)) (hy : ev ρ y = some (.int .i64 q)) (h0 : -9223372036854775808 ≤ p + q) (h1 : p + q ≤ 9223372036854775807) (hd : Nat.blt d n = true)
    (hK : KL P n Df ops Q rest ((d, .int .i64 (p + q)) :: ρ) w) : KL P n Df ops Q (⟨some d, .binOp .add tx x y tyy, ty, pos, aft, none⟩ :: rest) ρ w :=
  k_add hx hy hd (by rw [wrap_i64 h0 h1]; exact hK)
theorem k_subN (hx : ev ρ x = some (.int .i64 p)) (hy : ev ρ y = some (.int .i64 q)) (h0 : -9223372036854775808 ≤ p - q) (h1 : p - q ≤ 9223372036854775807) (hd : Nat.blt d n = true)
    (hK : KL P n Df ops Q rest ((d, .int .i64 (p - q)) :: ρ) w) : KL P n Df ops Q (⟨some d, .binOp .sub tx x y tyy, ty, pos, aft, none⟩ :: rest) ρ w :=
  k_sub_ hx hy hd (by rw [wrap_i64 h0 h1]; exact hK)
theorem k_mulN (hx : ev ρ x = some (.int .i64 p)) (hy : ev ρ y = some (.int .i64 q)) (h0 : -9223372036854775808 ≤ p * q) (h1 : p * q ≤ 9223372036854775807) (hd : Nat.blt d n = true)
    (hK : KL P n Df ops Q rest ((d, .int .i64 (p * q)) :: ρ) w) : KL P n Df ops Q (⟨some d, .binOp .mul tx x y tyy, ty, pos, aft, none⟩ :: rest) ρ w :=
  k_mul hx hy hd (by rw [wrap_i64 h0 h1]; exact hK)
theorem k_addU (hx : ev ρ x = some (.int .u64 p)) (hy : ev ρ y = some (.int .u64 q)) (h0 : 0 ≤ p + q) (h1 : p + q ≤ 18446744073709551615) (hd : Nat.blt d n = true)
    (hK : KL P n Df ops Q rest ((d, .int .u64 (p + q)) :: ρ) w) : KL P n Df ops Q (⟨some d, .binOp .add tx x y tyy, ty, pos, aft, none⟩ :: rest) ρ w :=
  k_add hx hy hd (by rw [wrap_u64 h0 h1]; exact hK)
theorem k_subU (hx : ev ρ x = some (.int .u64 p)) (hy : ev ρ y = some (.int .u64 q)) (h0 : 0 ≤ p - q) (h1 : p - q ≤ 18446744073709551615) (hd : Nat.blt d n = true)
    (hK : KL P n Df ops Q rest ((d, .int .u64 (p - q)) :: ρ) w) : KL P n Df ops Q (⟨some d, .binOp .sub tx x y tyy, ty, pos, aft, none⟩ :: rest) ρ w :=
  k_sub_ hx hy hd (by rw [wrap_u64 h0 h1]; exact hK)
theorem k_quoN (hx : ev ρ x = some (.int .i64 p)) (hy : ev ρ y = some (.int .i64 q)) (h0 : 0 ≤ p) (hp : p ≤ 9223372036854775807) (hq : 0 < q) (hd : Nat.blt d n = true)
    (hK : KL P n Df ops Q rest ((d, .int .i64 (p / q)) :: ρ) w) : KL P n Df ops Q (⟨some d, .binOp .quo tx x y tyy, ty, pos, aft, none⟩ :: rest) ρ w :=
  k_quo hx hy (by omega) hd (by
    have h1 : 0 ≤ p / q := Int.ediv_nonneg h0 (by omega)
    have h2 : p / q ≤ p := Int.ediv_le_self q h0
    rw [Int.tdiv_eq_ediv_of_nonneg h0, wrap_i64 (by omega) (by omega)]; exact hK)
theorem k_remN (hx : ev ρ x = some (.int k p)) (hy : ev ρ y = some (.int k q)) (h0 : 0 ≤ p) (hq : 0 < q) (hd : Nat.blt d n = true)
    (hK : KL P n Df ops Q rest ((d, .int k (p % q)) :: ρ) w) : KL P n Df ops Q (⟨some d, .binOp .rem tx x y tyy, ty, pos, aft, none⟩ :: rest) ρ w :=
  k_rem hx hy (by omega) hd (by rw [Int.tmod_eq_emod_of_nonneg h0]; exact hK)
/-- A shift to the right by a number that is written there. -/
theorem k_shrC {k' : IntKind} {m : Int} (hx : ev ρ x = some (.int k p)) (hy : ev ρ y = some (.int k' q)) (hq : decide (0 ≤ q) = true) (hm : decide ((2 : Int) ^ (min q.toNat k.bits) = m) = true) (h0 : 0 ≤ p) (hd : Nat.blt d n = true)
    (hK : KL P n Df ops Q rest ((d, .int k (p / m)) :: ρ) w) : KL P n Df ops Q (⟨some d, .binOp .shr tx x y tyy, ty, pos, aft, none⟩ :: rest) ρ w := by
  refine k_shr hx hy (of_decide_eq_true hq) hd ?_
  rw [of_decide_eq_true hm, Int.fdiv_eq_ediv_of_nonneg _ (by rw [← of_decide_eq_true hm]; exact Int.pow_nonneg (by omega))]
  exact hK
theorem k_shlC {k' : IntKind} {m : Int} (hx : ev ρ x = some (.int k p)) (hy : ev ρ y = some (.int k' q)) (hq : decide (0 ≤ q) = true) (hm : decide ((2 : Int) ^ (min q.toNat k.bits) = m) = true) (hd : Nat.blt d n = true)
    (hK : KL P n Df ops Q rest ((d, .int k (k.wrap (p * m))) :: ρ) w) : KL P n Df ops Q (⟨some d, .binOp .shl tx x y tyy, ty, pos, aft, none⟩ :: rest) ρ w := by
  refine k_shl hx hy (of_decide_eq_true hq) hd ?_
  rw [of_decide_eq_true hm]
  exact hK
theorem k_convN {k' : IntKind} {ts td : TypeId} {u : TypeDesc} (hs : P.underlying ts = some u) (ht : P.underlying td = some (.int k')) (hx : ev ρ x = some (.int k p)) (hw : k'.wrap p = p) (hd : Nat.blt d n = true)
    (hK : KL P n Df ops Q rest ((d, .int k' p) :: ρ) w) : KL P n Df ops Q (⟨some d, .convert ts td x, ty, pos, aft, none⟩ :: rest) ρ w :=
  k_conv hs ht hx hd (by rw [hw]; exact hK)

theorem k_shrCN {k' : IntKind} {m a : Nat} (hx : ev ρ x = some (.int k (a : Int))) (hy : ev ρ y = some (.int k' q)) (hq : decide (0 ≤ q) = true) (hm : decide ((2 : Int) ^ (min q.toNat k.bits) = (m : Int)) = true) (hd : Nat.blt d n = true)
    (hK : KL P n Df ops Q rest ((d, .int k ((a / m : Nat) : Int)) :: ρ) w) : KL P n Df ops Q (⟨some d, .binOp .shr tx x y tyy, ty, pos, aft, none⟩ :: rest) ρ w :=
  k_shrC (m := (m : Int)) hx hy hq hm (by omega) hd (by simpa using hK)
theorem k_quoNN {a b : Nat} (hx : ev ρ x = some (.int .i64 (a : Int))) (hy : ev ρ y = some (.int .i64 q)) (hq : 0 < q) (ha : (a : Int) ≤ 9223372036854775807) (hd : Nat.blt d n = true)
    (hK : KL P n Df ops Q rest ((d, .int .i64 ((a / q.toNat : Nat) : Int)) :: ρ) w) : KL P n Df ops Q (⟨some d, .binOp .quo tx x y tyy, ty, pos, aft, none⟩ :: rest) ρ w :=
  k_quoN hx hy (by omega) ha hq hd (by
    have : ((a / q.toNat : Nat) : Int) = (a : Int) / q := by rw [Int.natCast_ediv, Int.toNat_of_nonneg (by omega)]
    rw [← this]; exact hK)
theorem k_remNN {a : Nat} (hx : ev ρ x = some (.int k (a : Int))) (hy : ev ρ y = some (.int k q)) (hq : 0 < q) (hd : Nat.blt d n = true)
    (hK : KL P n Df ops Q rest ((d, .int k ((a % q.toNat : Nat) : Int)) :: ρ) w) : KL P n Df ops Q (⟨some d, .binOp .rem tx x y tyy, ty, pos, aft, none⟩ :: rest) ρ w :=
  k_remN hx hy (by omega) hq hd (by
    have : ((a % q.toNat : Nat) : Int) = (a : Int) % q := by rw [Int.natCast_emod, Int.toNat_of_nonneg (by omega)]
    rw [← this]; exact hK)
theorem k_conv_u8 {a : Nat} {ts td : TypeId} {u : TypeDesc} (hs : P.underlying ts = some u) (ht : P.underlying td = some (.int .u8)) (hx : ev ρ x = some (.int k (a : Int))) (hd : Nat.blt d n = true)
    (hK : KL P n Df ops Q rest ((d, .int .u8 ((a % 256 : Nat) : Int)) :: ρ) w) : KL P n Df ops Q (⟨some d, .convert ts td x, ty, pos, aft, none⟩ :: rest) ρ w :=
  k_conv hs ht hx hd (by rw [wrap_u8_mod]; simpa using hK)
theorem k_conv_u32 {a : Nat} {ts td : TypeId} {u : TypeDesc} (hs : P.underlying ts = some u) (ht : P.underlying td = some (.int .u32)) (hx : ev ρ x = some (.int k (a : Int))) (hd : Nat.blt d n = true)
    (hK : KL P n Df ops Q rest ((d, .int .u32 ((a % 4294967296 : Nat) : Int)) :: ρ) w) : KL P n Df ops Q (⟨some d, .convert ts td x, ty, pos, aft, none⟩ :: rest) ρ w :=
  k_conv hs ht hx hd (by rw [wrap_u32_mod]; simpa using hK)
theorem k_conv_u64 {a : Nat} {ts td : TypeId} {u : TypeDesc} (hs : P.underlying ts = some u) (ht : P.underlying td = some (.int .u64)) (hx : ev ρ x = some (.int k (a : Int))) (hd : Nat.blt d n = true)
    (hK : KL P n Df ops Q rest ((d, .int .u64 ((a % 18446744073709551616 : Nat) : Int)) :: ρ) w) : KL P n Df ops Q (⟨some d, .convert ts td x, ty, pos, aft, none⟩ :: rest) ρ w :=
  k_conv hs ht hx hd (by rw [wrap_u64_mod]; simpa using hK)

/-! slices that are opaque -/
theorem k_eql_snilv {l : Lab} {v : Value} {w0 : Nat} {ds : List D} {e : TypeId} (hT : P.underlying tx = some (.slice e)) (hx : ev ρ x = some v) (hy : ev ρ y = some (.slice none 0 0)) (h : SL s l v w0 ds) (hd : Nat.blt d n = true)
    (hK : KL P n Df ops Q rest ((d, .bool (nilS v)) :: ρ) s.w) : KL P n Df ops Q (⟨some d, .binOp .eql tx x y tyy, ty, pos, aft, none⟩ :: rest) ρ s.w := by
  obtain ⟨a, c, rfl, _⟩ := h.val
  refine k_eql_snil hT hx hy hd ?_
  cases a <;> exact hK
theorem SL.nilS_nil {l : Lab} {v : Value} {w0 : Nat} {ds : List D} (h : SL s l v w0 ds) (hn : nilS v = true) : ds = [] := by
  obtain ⟨a, c, rfl, ha⟩ := h.val
  cases a with
  | none => exact List.eq_nil_of_length_eq_zero (ha rfl).1
  | some a => simp [nilS] at hn
theorem k_nilCheck_at {l : Lab} {pv : Value} {dd : D} (hx : ev ρ x = some pv) (h : At s l pv dd) (hd : Nat.blt d n = true)
    (hK : KL P n Df ops Q rest ((d, pv) :: ρ) s.w) : KL P n Df ops Q (⟨some d, .nilCheck x, ty, pos, aft, none⟩ :: rest) ρ s.w := by
  obtain ⟨b, off, cs, rfl, _⟩ := h
  exact k_nilCheck hx hd hK

theorem k_ixaddrN {l : Lab} {v : Value} {w0 : Nat} {ds : List D} {dd : D} {e : TypeId} {i : Nat} (hT : P.underlying tx = some (.slice e)) (hs : sizeT P e w0 = true) (hx : ev ρ x = some v) (hy : ev ρ y = some (.int k (i : Int))) (h : SL s l v w0 ds)
    (hdd : ds[i]? = some dd) (hd : Nat.blt d n = true) (hK : ∀ q, At s l q dd → KL P n Df ops Q rest ((d, q) :: ρ) s.w) :
    KL P n Df ops Q (⟨some d, .indexAddr tx x y, ty, pos, aft, none⟩ :: rest) ρ s.w :=
  k_ixaddr hT hs hx hy h (by omega) (by simpa using hdd) hd hK
theorem k_ixaddr_ownN {l : Lab} {v : Value} {w0 : Nat} {ds : List D} {dd : D} {e e' : TypeId} {i : Nat} (hT : P.underlying tx = some (.slice e)) (hs : sizeT P e w0 = true) (hx : ev ρ x = some v) (hy : ev ρ y = some (.int k (i : Int))) (h : Own s l e' w0 v ds)
    (hdd : ds[i]? = some dd) (hd : Nat.blt d n = true) (hK : ∀ q, At s l q dd → Elt w0 v i q → KL P n Df ops Q rest ((d, q) :: ρ) s.w) :
    KL P n Df ops Q (⟨some d, .indexAddr tx x y, ty, pos, aft, none⟩ :: rest) ρ s.w :=
  k_ixaddr_own hT hs hx hy h (by omega) (by simpa using hdd) hd (fun q h1 h2 => hK q h1 (by simpa using h2))
theorem k_index_strN {l : List UInt8} {i : Nat} (hT : P.underlying tx = some .string) (hx : ev ρ x = some (S l)) (hy : ev ρ y = some (.int k (i : Int))) (h1 : i < l.length) (hd : Nat.blt d n = true)
    (hK : KL P n Df ops Q rest ((d, .int .u8 (l.getD i 0).toNat) :: ρ) w) : KL P n Df ops Q (⟨some d, .index tx x y, ty, pos, aft, none⟩ :: rest) ρ w :=
  k_index_str hT hx hy (by omega) (by omega) hd (by simpa using hK)

/-- Where a cut begins, where it ends. -/
def CutAt (ρ : Env) (dflt : Nat) : Option Operand → Nat → Prop
  | none, i => i = dflt
  | some z, i => ∃ k p, ev ρ z = some (.int k p) ∧ 0 ≤ p ∧ p.toNat = i
theorem CutAt.none {dflt : Nat} : CutAt ρ dflt none dflt := rfl
theorem CutAt.int {dflt : Nat} {z : Operand} (h : ev ρ z = some (.int k p)) (h0 : 0 ≤ p) : CutAt ρ dflt (some z) p.toNat := ⟨k, p, h, h0, rfl⟩
theorem CutAt.nat {dflt i : Nat} {z : Operand} (h : ev ρ z = some (.int k (i : Int))) : CutAt ρ dflt (some z) i := ⟨k, i, h, by omega, by simp⟩
theorem CutAt.lo {z : Option Operand} {i : Nat} (h : CutAt ρ 0 z i) : match (generalizing := false) z with | Option.none => i = 0 | some z => ∃ k, ev ρ z = some (.int k i) := by
  cases z with
  | none => exact h
  | some z => obtain ⟨k, p, h1, h2, rfl⟩ := h; exact ⟨k, by rw [h1]; congr 2; omega⟩
theorem CutAt.hi {z : Option Operand} {i m : Nat} (h : CutAt ρ m z i) : match (generalizing := false) z with | Option.none => i = m | some z => ∃ k, ev ρ z = some (.int k i) := by
  cases z with
  | none => exact h
  | some z => obtain ⟨k, p, h1, h2, rfl⟩ := h; exact ⟨k, by rw [h1]; congr 2; omega⟩
theorem k_cut_sl {l : Lab} {v : Value} {w0 : Nat} {ds : List D} {e : TypeId} {lo hi : Option Operand} {i j : Nat} (hT : P.underlying tx = some (.slice e)) (hs : sizeT P e w0 = true) (hx : ev ρ x = some v) (h : SL s l v w0 ds)
    (hlo : CutAt ρ 0 lo i) (hhi : CutAt ρ ds.length hi j) (hij : i ≤ j) (hj : j ≤ ds.length) (hd : Nat.blt d n = true)
    (hK : ∀ v', SL s l v' w0 ((ds.drop i).take (j - i)) → KL P n Df ops Q rest ((d, v') :: ρ) s.w) :
    KL P n Df ops Q (⟨some d, .slice tx x lo hi none, ty, pos, aft, none⟩ :: rest) ρ s.w := k_slice_sl hT hs hx h hlo.lo hhi.hi hij hj hd hK
theorem k_cut_str {l : List UInt8} {lo hi : Option Operand} {i j : Nat} (hT : P.underlying tx = some .string) (hx : ev ρ x = some (S l))
    (hlo : CutAt ρ 0 lo i) (hhi : CutAt ρ l.length hi j) (hij : i ≤ j) (hj : j ≤ l.length) (hd : Nat.blt d n = true)
    (hK : KL P n Df ops Q rest ((d, S ((l.drop i).take (j - i))) :: ρ) w) : KL P n Df ops Q (⟨some d, .slice tx x lo hi none, ty, pos, aft, none⟩ :: rest) ρ w := k_slice_str hT hx hlo.lo hhi.hi hij hj hd hK
theorem k_cut_arr {t e m b : Nat} {l : Lab} {cs : List Value} {T : TypeId} {lo hi : Option Operand} {i j : Nat} (hT : arrT P t e m 1) (hx : ev ρ x = some (.pointer (some ⟨b, 0, none⟩))) (hb : Blk s b l cs T) (hlen : cs.length = m) (hone : cs.all Value.oneCell' = true)
    (hlo : CutAt ρ 0 lo i) (hhi : CutAt ρ m hi j) (hij : i ≤ j) (hj : j ≤ m) (hd : Nat.blt d n = true)
    (hK : ∀ v, SL s l v 1 (((cs.drop i).take (j - i)).map .val) → KL P n Df ops Q rest ((d, v) :: ρ) s.w) :
    KL P n Df ops Q (⟨some d, .slice t x lo hi none, ty, pos, aft, none⟩ :: rest) ρ s.w := k_slice_arr hT hb hlen hone hx hlo.lo hhi.hi hij hj hd hK

/-- A call of a closure. -/
theorem k_callv {K : Lab → Prop} {φ : St → Value → Prop} {f : FuncId} {xs : List Operand} {ats : Array TypeId} {vs caps : List Value} (hf : Callable P f) (hx : evs ρ xs = some vs) (hv : ev ρ x = some (.func (.func f) #[] caps.toArray))
    (hc : Calls P f (vs ++ caps).toArray s.w (Ret s K φ)) (hd : Nat.blt d n = true)
    (hK : ∀ s' v, Step K s s' → φ s' v → KL P n Df ops Q rest ((d, v) :: ρ) s'.w) :
    KL P n Df ops Q (⟨some d, .call { callee := .value x, args := xs.toArray, argTypes := ats }, ty, pos, aft, none⟩ :: rest) ρ s.w := by
  intro a ha
  refine wpListIn_plain rfl fun K' hk => ?_
  obtain ⟨fn, h1, h2, h3⟩ := hf
  have hr : (execOp a.eval ⟨some d, .call { callee := .value x, args := xs.toArray, argTypes := ats }, ty, pos, aft, none⟩).run P s.w = .ok (.enter f (vs ++ caps).toArray) s.w := by
    have hx' := Agr.evs (η := a.eval) (fun _ _ e => ha.ev e) hx
    have h2' : ¬ fn.name = "runtime.NumGoroutine" := by intro e; rw [e] at h2; simp at h2
    have h3' : ¬ fn.body = none := by intro e; rw [e] at h3; simp at h3
    unfold execOp
    simp only [resolve, Deferred.ofValue, ha.ev hv]
    simp [invoke, callFunc, h1, h2', h3', hx', program, Sem.run, go_sem]
  refine op_in (x := .enter f (vs ++ caps).toArray) (by intro d e; cases e) hr ?_
  rw [Oper.uponIn_enter]
  refine ⟨fun h => absurd h (by simp), calls_in (hc.mono ?_)⟩
  rintro e w' ⟨s', v, rfl, rfl, st, h⟩
  exact hk _ _ (hK s' v st h _ (ha.put hd v))

theorem k_append_nil {lx : Lab} (c : Nat) {t e w0 bytes : Nat} {z : Value} {vx : Value} {es : List D} (hT : elemT P t e w0 bytes z) (hx : ev ρ x = some (.slice none 0 0)) (hy : ev ρ y = some vx) (h' : SL s lx vx w0 es)
    (hsz : es.length * bytes ≤ 140737488355328) (hmx : es.length ≤ 9223372036854775807) (hd : Nat.blt d n = true)
    (hK : ∀ s' v', Step K0 s s' → Own s' ⟨s.n + 1, c⟩ e w0 v' es → KL P n Df ops Q rest ((d, v') :: ρ) s'.w) :
    KL P n Df ops Q (⟨some d, .call { callee := .builtin .append, args := [x, y].toArray, argTypes := [t, t].toArray }, ty, pos, aft, none⟩ :: rest) ρ s.w :=
  k_append hT hx hy (Own.nil (l := ⟨s.n + 1, c⟩) (by simp) (Nat.le_refl _)) h' (by simpa using hsz) (by simpa using hmx) hd (fun s' v' st ho =>
    hK s' v' ((Step.refl s).transNew st (fun l hl => by have h1 : l.o = s.n + 1 := hl.1; omega)) (by simpa using ho))

end

/-! facts in a later state -/
theorem SL.up' {K : Lab → Prop} {s s' : St} {l : Lab} {v : Value} {w : Nat} {ds : List D} (h : SL s l v w ds) (st : Step K s s') (hk : ¬ K l := by first | exact id | (simp [KC, KO] <;> omega)) : SL s' l v w ds := h.up st hk
theorem Own.up' {K : Lab → Prop} {s s' : St} {l : Lab} {e : TypeId} {v : Value} {w : Nat} {ds : List D} (h : Own s l e w v ds) (st : Step K s s') (hk : ¬ K l := by first | exact id | (simp [KC, KO] <;> omega)) : Own s' l e w v ds := h.up st hk
theorem Blk.up' {K : Lab → Prop} {s s' : St} {b : Nat} {l : Lab} {cs : List Value} {T : TypeId} (h : Blk s b l cs T) (st : Step K s s') (hk : ¬ K l := by first | exact id | (simp [KC, KO] <;> omega)) : Blk s' b l cs T := h.up st hk
theorem At.up' {K : Lab → Prop} {s s' : St} {l : Lab} {p : Value} {d : D} (h : At s l p d) (st : Step K s s') (hk : ¬ K l := by first | exact id | (simp [KC, KO] <;> omega)) : At s' l p d := h.up st hk
theorem R.up' {K : Lab → Prop} {s s' : St} {v : Value} {d : D} (h : R s v d) (st : Step K s s') : R s' v d := h.up st

end Go.Fw
