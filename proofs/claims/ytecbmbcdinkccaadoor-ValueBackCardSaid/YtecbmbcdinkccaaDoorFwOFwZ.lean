import Derived.Test.YtecbmbcdinkccaaDoorFwHFwN
import Derived.IntWalk
import Derived.Defers
import Derived.Laws.IdiomCopy
set_option linter.unusedSimpArgs false
set_option linter.unusedVariables false
namespace Go.Fw

theorem wrap_i64 {p : Int} (h0 : -9223372036854775808 ≤ p) (h1 : p ≤ 9223372036854775807) : IntKind.i64.wrap p = p := IntWalk.i64_in p ⟨h0, h1⟩
theorem wrap_u {k : IntKind} (hk : k.signed = false) {p : Int} (h0 : 0 ≤ p) (h1 : p < 2 ^ k.bits) : k.wrap p = p := by
  simp [IntKind.wrap, hk]; exact Int.emod_eq_of_lt h0 h1
theorem wrap_u64 {p : Int} (h0 : 0 ≤ p) (h1 : p ≤ 18446744073709551615) : IntKind.u64.wrap p = p := wrap_u rfl h0 (by show p < 2 ^ 64; omega)
theorem wrap_u32 {p : Int} (h0 : 0 ≤ p) (h1 : p ≤ 4294967295) : IntKind.u32.wrap p = p := wrap_u rfl h0 (by show p < 2 ^ 32; omega)
theorem wrap_u8 {p : Int} (h0 : 0 ≤ p) (h1 : p ≤ 255) : IntKind.u8.wrap p = p := wrap_u rfl h0 (by show p < 2 ^ 8; omega)
theorem wrap_u64_mod (p : Int) : IntKind.u64.wrap p = p % 18446744073709551616 := by simp [IntKind.wrap, IntKind.signed, IntKind.bits]
theorem wrap_u32_mod (p : Int) : IntKind.u32.wrap p = p % 4294967296 := by simp [IntKind.wrap, IntKind.signed, IntKind.bits]
theorem wrap_u8_mod (p : Int) : IntKind.u8.wrap p = p % 256 := by simp [IntKind.wrap, IntKind.signed, IntKind.bits]

theorem R.val {s : St} {v : Value} (h : v.oneCell' = true) : R s v (.val v) := RC.val v h
theorem RVs.cons {s : St} {v : Value} {d : D} {vs : List Value} {ds : List D} (h : R s v d) (hr : RVs s vs ds) : RVs s (v :: vs) (d :: ds) := ⟨h, hr⟩
theorem RVs.nil {s : St} : RVs s [] [] := trivial
theorem Parts.cons {i : Nat} {v : Value} {cs : List Value} {r : List (Nat × Value)} {q : List (Nat × List Value)} (h : v.cells.toList = cs) (hr : Parts r q) : Parts ((i, v) :: r) ((i, cs) :: q) := ⟨rfl, h, hr⟩
theorem Parts.nil : Parts [] [] := trivial

def nilS : Value → Bool
  | .slice none _ _ => true
  | _ => false

def bytesT (P : Program) (t : TypeId) (m : Nat) : Bool := match P.info? t with | some i => i.bytes == m | none => false
theorem elemT_of {P : Program} {t e w b : Nat} {z : Value} (h1 : P.underlying t = some (.slice e)) (h2 : sizeT P e w = true) (h3 : bytesT P e b = true) (h4 : zeroT P e = some z) (h5 : z.cells.size = w) (h6 : 0 < w) : elemT P t e w b z := by
  unfold sizeT at h2
  unfold bytesT at h3
  unfold zeroT at h4
  cases hi : P.info? e with
  | none => rw [hi] at h2; simp at h2
  | some i =>
    rw [hi] at h2 h3 h4
    exact ⟨i, h1, hi, h4, by simpa using h2, by simpa using h3, h5, h6⟩

theorem all_bytes (l : List UInt8) : (l.map fun b => Value.int .u8 b.toNat).all Value.oneCell' = true := by simp [Value.oneCell']

theorem at_map {α : Type} [Inhabited α] {l : List α} {f : α → D} {i : Nat} (h : i < l.length) : (l.map f)[i]? = some (f (l.getD i default)) := by
  simp [List.getD, h]
theorem at_map' {α : Type} [Inhabited α] {l : List α} {f : α → D} {p : Int} (h0 : 0 ≤ p) (h : p < l.length) : (l.map f)[p.toNat]? = some (f (l.getD p.toNat default)) := at_map (by omega)

section
variable {P : Program} {n : Nat} {Df : Md} {ops : Array Oper} {Q : Post} {rest : List Oper} {ρ : Env} {s : St} {w : World}
variable {d : Nat} {ty : TypeId} {pos : String} {aft : Array Edge} {x y : Operand} {tx tyy : TypeId} {p q : Int} {k : IntKind}

theorem k_pickT {c : Operand} {v : Value} (hc : ev ρ c = some (.bool true)) (hx : ev ρ x = some v) (hy : (ev ρ y).isSome = true) (hd : Nat.blt d n = true)
    (hK : KL P n Df ops Q rest ((d, v) :: ρ) w) : KL P n Df ops Q (⟨some d, .pick c x y, ty, pos, aft, none⟩ :: rest) ρ w := by
  obtain ⟨u, hu⟩ := Option.isSome_iff_exists.1 hy
  exact k_pick (b := true) hc hx hu hd hK
theorem k_pickF {c : Operand} {v : Value} (hc : ev ρ c = some (.bool false)) (hx : (ev ρ x).isSome = true) (hy : ev ρ y = some v) (hd : Nat.blt d n = true)
    (hK : KL P n Df ops Q rest ((d, v) :: ρ) w) : KL P n Df ops Q (⟨some d, .pick c x y, ty, pos, aft, none⟩ :: rest) ρ w := by
  obtain ⟨u, hu⟩ := Option.isSome_iff_exists.1 hx
  exact k_pick (b := false) hc hu hy hd hK
theorem k_notd {pr : Prop} [inst : Decidable pr] (hx : ev ρ x = some (.bool (decide pr))) (hd : Nat.blt d n = true)
    (hK : KL P n Df ops Q rest ((d, .bool (decide (¬ pr))) :: ρ) w) : KL P n Df ops Q (⟨some d, .unOp .not tx x, ty, pos, aft, none⟩ :: rest) ρ w :=
  k_not hx hd (by rw [← decide_not]; exact hK)

/-! sums that fit -/
theorem k_addN (hx : ev ρ x = some (.int .i64 p)) (hy : ev ρ y = some (.int .i64 q)) (h0 : -9223372036854775808 ≤ p + q) (h1 : p + q ≤ 9223372036854775807) (hd : Nat.blt d n = true)
    (hK : KL P n Df ops Q rest ((d, .int .i64 (p + q)) :: ρ) w) : KL P n Df ops Q (⟨some d, .binOp .add tx x y tyy, ty, pos, aft, none⟩ :: rest) ρ w :=
  k_add hx hy hd (by rw [wrap_i64 h0 h1]; exact hK)
theorem k_subN (hx : ev ρ x = some (.int .i64 p)) (hy : ev ρ y = some (.int .i64 q)) (h0 : -9223372036854775808 ≤ p - q) (h1 : p - q ≤ 9223372036854775807) (hd : Nat.blt d n = true)
    (hK : KL P n Df ops Q rest ((d, .int .i64 (p - q)) :: ρ) w) : KL P n Df ops Q (⟨some d, .binOp .sub tx x y tyy, ty, pos, aft, none⟩ :: rest) ρ w :=
  k_sub_ hx hy hd (by rw [wrap_i64 h0 h1]; exact hK)
theorem k_mulN (hx : ev ρ x = some (.int .i64 p)) (hy : ev ρ y = some (.int .i64 q)) (h0 : -9223372036854775808 ≤ p * q) (h1 : p * q ≤ 9223372036854775807) (hd : Nat.blt d n = true)
    (hK : KL P n Df ops Q rest ((d, .int .i64 (p * q)) :: ρ) w) : KL P n Df ops Q (⟨some d, .binOp .mul tx x y tyy, ty, pos, aft, none⟩ :: rest) ρ w :=
  k_mul hx hy hd (by rw [wrap_i64 h0 h1]; exact hK)
theorem k_addU (hx : ev ρ x = some (.int .u64 p)) (hy : ev ρ y = some (.int .u64 q)) (h0 : 0 ≤ p + q) (h1 : p + q ≤ 18446744073709551615) (hd : Nat.blt d n = true)
    (hK : KL P n Df ops Q rest ((d, .int .u64 (p + q)) :: ρ) w) : KL P n Df ops Q (⟨some d, .binOp .add tx x y tyy, ty, pos, aft, none⟩ :: rest) ρ w :=
  k_add hx hy hd (by rw [wrap_u64 h0 h1]; exact hK)
theorem k_subU (hx : ev ρ x = some (.int .u64 p)) (hy : ev ρ y = some (.int .u64 q)) (h0 : 0 ≤ p - q) (h1 : p - q ≤ 18446744073709551615) (hd : Nat.blt d n = true)
    (hK : KL P n Df ops Q rest ((d, .int .u64 (p - q)) :: ρ) w) : KL P n Df ops Q (⟨some d, .binOp .sub tx x y tyy, ty, pos, aft, none⟩ :: rest) ρ w :=
  k_sub_ hx hy hd (by rw [wrap_u64 h0 h1]; exact hK)
theorem k_quoN (hx : ev ρ x = some (.int .i64 p)) (hy : ev ρ y = some (.int .i64 q)) (h0 : 0 ≤ p) (hp : p ≤ 9223372036854775807) (hq : 0 < q) (hd : Nat.blt d n = true)
    (hK : KL P n Df ops Q rest ((d, .int .i64 (p / q)) :: ρ) w) : KL P n Df ops Q (⟨some d, .binOp .quo tx x y tyy, ty, pos, aft, none⟩ :: rest) ρ w :=
  k_quo hx hy (by omega) hd (by
    have h1 : 0 ≤ p / q := Int.ediv_nonneg h0 (by omega)
    have h2 : p / q ≤ p := Int.ediv_le_self q h0
    rw [Int.tdiv_eq_ediv_of_nonneg h0, wrap_i64 (by omega) (by omega)]; exact hK)
theorem k_remN (hx : ev ρ x = some (.int k p)) (hy : ev ρ y = some (.int k q)) (h0 : 0 ≤ p) (hq : 0 < q) (hd : Nat.blt d n = true)
    (hK : KL P n Df ops Q rest ((d, .int k (p % q)) :: ρ) w) : KL P n Df ops Q (⟨some d, .binOp .rem tx x y tyy, ty, pos, aft, none⟩ :: rest) ρ w :=
  k_rem hx hy (by omega) hd (by rw [Int.tmod_eq_emod_of_nonneg h0]; exact hK)
/-- A shift to the right by a number that is written there. -/
theorem k_shrC {k' : IntKind} {m : Int} (hx : ev ρ x = some (.int k p)) (hy : ev ρ y = some (.int k' q)) (hq : decide (0 ≤ q) = true) (hm : decide ((2 : Int) ^ (min q.toNat k.bits) = m) = true) (h0 : 0 ≤ p) (hd : Nat.blt d n = true)
    (hK : KL P n Df ops Q rest ((d, .int k (p / m)) :: ρ) w) : KL P n Df ops Q (⟨some d, .binOp .shr tx x y tyy, ty, pos, aft, none⟩ :: rest) ρ w := by
  refine k_shr hx hy (of_decide_eq_true hq) hd ?_
  rw [of_decide_eq_true hm, Int.fdiv_eq_ediv_of_nonneg _ (by rw [← of_decide_eq_true hm]; exact Int.pow_nonneg (by omega))]
  exact hK
theorem k_shlC {k' : IntKind} {m : Int} (hx : ev ρ x = some (.int k p)) (hy : ev ρ y = some (.int k' q)) (hq : decide (0 ≤ q) = true) (hm : decide ((2 : Int) ^ (min q.toNat k.bits) = m) = true) (hd : Nat.blt d n = true)
    (hK : KL P n Df ops Q rest ((d, .int k (k.wrap (p * m))) :: ρ) w) : KL P n Df ops Q (⟨some d, .binOp .shl tx x y tyy, ty, pos, aft, none⟩ :: rest) ρ w := by
  refine k_shl hx hy (of_decide_eq_true hq) hd ?_
  rw [of_decide_eq_true hm]
  exact hK
theorem k_convN {k' : IntKind} {ts td : TypeId} {u : TypeDesc} (hs : P.underlying ts = some u) (ht : P.underlying td = some (.int k')) (hx : ev ρ x = some (.int k p)) (hw : k'.wrap p = p) (hd : Nat.blt d n = true)
    (hK : KL P n Df ops Q rest ((d, .int k' p) :: ρ) w) : KL P n Df ops Q (⟨some d, .convert ts td x, ty, pos, aft, none⟩ :: rest) ρ w :=
  k_conv hs ht hx hd (by rw [hw]; exact hK)

theorem k_shrCN {k' : IntKind} {m a : Nat} (hx : ev ρ x = some (.int k (a : Int))) (hy : ev ρ y = some (.int k' q)) (hq : decide (0 ≤ q) = true) (hm : decide ((2 : Int) ^ (min q.toNat k.bits) = (m : Int)) = true) (hd : Nat.blt d n = true)
    (hK : KL P n Df ops Q rest ((d, .int k ((a / m : Nat) : Int)) :: ρ) w) : KL P n Df ops Q (⟨some d, .binOp .shr tx x y tyy, ty, pos, aft, none⟩ :: rest) ρ w :=
  k_shrC (m := (m : Int)) hx hy hq hm (by omega) hd (by simpa using hK)
theorem k_quoNN {a b : Nat} (hx : ev ρ x = some (.int .i64 (a : Int))) (hy : ev ρ y = some (.int .i64 q)) (hq : 0 < q) (ha : (a : Int) ≤ 9223372036854775807) (hd : Nat.blt d n = true)
    (hK : KL P n Df ops Q rest ((d, .int .i64 ((a / q.toNat : Nat) : Int)) :: ρ) w) : KL P n Df ops Q (⟨some d, .binOp .quo tx x y tyy, ty, pos, aft, none⟩ :: rest) ρ w :=
  k_quoN hx hy (by omega) ha hq hd (by
    have : ((a / q.toNat : Nat) : Int) = (a : Int) / q := by rw [Int.natCast_ediv, Int.toNat_of_nonneg (by omega)]
    rw [← this]; exact hK)
theorem k_remNN {a : Nat} (hx : ev ρ x = some (.int k (a : Int))) (hy : ev ρ y = some (.int k q)) (hq : 0 < q) (hd : Nat.blt d n = true)
    (hK : KL P n Df ops Q rest ((d, .int k ((a % q.toNat : Nat) : Int)) :: ρ) w) : KL P n Df ops Q (⟨some d, .binOp .rem tx x y tyy, ty, pos, aft, none⟩ :: rest) ρ w :=
  k_remN hx hy (by omega) hq hd (by
    have : ((a % q.toNat : Nat) : Int) = (a : Int) % q := by rw [Int.natCast_emod, Int.toNat_of_nonneg (by omega)]
    rw [← this]; exact hK)
theorem k_conv_u8 {a : Nat} {ts td : TypeId} {u : TypeDesc} (hs : P.underlying ts = some u) (ht : P.underlying td = some (.int .u8)) (hx : ev ρ x = some (.int k (a : Int))) (hd : Nat.blt d n = true)
    (hK : KL P n Df ops Q rest ((d, .int .u8 ((a % 256 : Nat) : Int)) :: ρ) w) : KL P n Df ops Q (⟨some d, .convert ts td x, ty, pos, aft, none⟩ :: rest) ρ w :=
  k_conv hs ht hx hd (by rw [wrap_u8_mod]; simpa using hK)
theorem k_conv_u32 {a : Nat} {ts td : TypeId} {u : TypeDesc} (hs : P.underlying ts = some u) (ht : P.underlying td = some (.int .u32)) (hx : ev ρ x = some (.int k (a : Int))) (hd : Nat.blt d n = true)
    (hK : KL P n Df ops Q rest ((d, .int .u32 ((a % 4294967296 : Nat) : Int)) :: ρ) w) : KL P n Df ops Q (⟨some d, .convert ts td x, ty, pos, aft, none⟩ :: rest) ρ w :=
  k_conv hs ht hx hd (by rw [wrap_u32_mod]; simpa using hK)
theorem k_conv_u64 {a : Nat} {ts td : TypeId} {u : TypeDesc} (hs : P.underlying ts = some u) (ht : P.underlying td = some (.int .u64)) (hx : ev ρ x = some (.int k (a : Int))) (hd : Nat.blt d n = true)
    (hK : KL P n Df ops Q rest ((d, .int .u64 ((a % 18446744073709551616 : Nat) : Int)) :: ρ) w) : KL P n Df ops Q (⟨some d, .convert ts td x, ty, pos, aft, none⟩ :: rest) ρ w :=
  k_conv hs ht hx hd (by rw [wrap_u64_mod]; simpa using hK)

/-! slices that are opaque -/
theorem k_eql_snilv {l : Lab} {v : Value} {w0 : Nat} {ds : List D} {e : TypeId} (hT : P.underlying tx = some (.slice e)) (hx : ev ρ x = some v) (hy : ev ρ y = some (.slice none 0 0)) (h : SL s l v w0 ds) (hd : Nat.blt d n = true)
    (hK : KL P n Df ops Q rest ((d, .bool (nilS v)) :: ρ) s.w) : KL P n Df ops Q (⟨some d, .binOp .eql tx x y tyy, ty, pos, aft, none⟩ :: rest) ρ s.w := by
  obtain ⟨a, c, rfl, _⟩ := h.val
  refine k_eql_snil hT hx hy hd ?_
  cases a <;> exact hK
theorem SL.nilS_nil {l : Lab} {v : Value} {w0 : Nat} {ds : List D} (h : SL s l v w0 ds) (hn : nilS v = true) : ds = [] := by
  obtain ⟨a, c, rfl, ha⟩ := h.val
  cases a with
  | none => exact List.eq_nil_of_length_eq_zero (ha rfl).1
  | some a => simp [nilS] at hn
theorem k_nilCheck_at {l : Lab} {pv : Value} {dd : D} (hx : ev ρ x = some pv) (h : At s l pv dd) (hd : Nat.blt d n = true)
    (hK : KL P n Df ops Q rest ((d, pv) :: ρ) s.w) : KL P n Df ops Q (⟨some d, .nilCheck x, ty, pos, aft, none⟩ :: rest) ρ s.w := by
  obtain ⟨b, off, cs, rfl, _⟩ := h
  exact k_nilCheck hx hd hK

theorem k_ixaddrN {l : Lab} {v : Value} {w0 : Nat} {ds : List D} {dd : D} {e : TypeId} {i : Nat} (hT : P.underlying tx = some (.slice e)) (hs : sizeT P e w0 = true) (hx : ev ρ x = some v) (hy : ev ρ y = some (.int k (i : Int))) (h : SL s l v w0 ds)
    (hdd : ds[i]? = some dd) (hd : Nat.blt d n = true) (hK : ∀ q, At s l q dd → KL P n Df ops Q rest ((d, q) :: ρ) s.w) :
    KL P n Df ops Q (⟨some d, .indexAddr tx x y, ty, pos, aft, none⟩ :: rest) ρ s.w :=
  k_ixaddr hT hs hx hy h (by omega) (by simpa using hdd) hd hK
theorem k_ixaddr_ownN {l : Lab} {v : Value} {w0 : Nat} {ds : List D} {dd : D} {e e' : TypeId} {i : Nat} (hT : P.underlying tx = some (.slice e)) (hs : sizeT P e w0 = true) (hx : ev ρ x = some v) (hy : ev ρ y = some (.int k (i : Int))) (h : Own s l e' w0 v ds)
    (hdd : ds[i]? = some dd) (hd : Nat.blt d n = true) (hK : ∀ q, At s l q dd → Elt w0 v i q → KL P n Df ops Q rest ((d, q) :: ρ) s.w) :
    KL P n Df ops Q (⟨some d, .indexAddr tx x y, ty, pos, aft, none⟩ :: rest) ρ s.w :=
  k_ixaddr_own hT hs hx hy h (by omega) (by simpa using hdd) hd (fun q h1 h2 => hK q h1 (by simpa using h2))
theorem k_index_strN {l : List UInt8} {i : Nat} (hT : P.underlying tx = some .string) (hx : ev ρ x = some (S l)) (hy : ev ρ y = some (.int k (i : Int))) (h1 : i < l.length) (hd : Nat.blt d n = true)
    (hK : KL P n Df ops Q rest ((d, .int .u8 (l.getD i 0).toNat) :: ρ) w) : KL P n Df ops Q (⟨some d, .index tx x y, ty, pos, aft, none⟩ :: rest) ρ w :=
  k_index_str hT hx hy (by omega) (by omega) hd (by simpa using hK)

/-- Where a cut begins, where it ends. -/
def CutAt (ρ : Env) (dflt : Nat) : Option Operand → Nat → Prop
  | none, i => i = dflt
  | some z, i => ∃ k p, ev ρ z = some (.int k p) ∧ 0 ≤ p ∧ p.toNat = i
theorem CutAt.none {dflt : Nat} : CutAt ρ dflt none dflt := rfl
theorem CutAt.int {dflt : Nat} {z : Operand} (h : ev ρ z = some (.int k p)) (h0 : 0 ≤ p) : CutAt ρ dflt (some z) p.toNat := ⟨k, p, h, h0, rfl⟩
theorem CutAt.nat {dflt i : Nat} {z : Operand} (h : ev ρ z = some (.int k (i : Int))) : CutAt ρ dflt (some z) i := ⟨k, i, h, by omega, by simp⟩
theorem CutAt.lo {z : Option Operand} {i : Nat} (h : CutAt ρ 0 z i) : match (generalizing := false) z with | Option.none => i = 0 | some z => ∃ k, ev ρ z = some (.int k i) := by
  cases z with
  | none => exact h
  | some z => obtain ⟨k, p, h1, h2, rfl⟩ := h; exact ⟨k, by rw [h1]; congr 2; omega⟩
theorem CutAt.hi {z : Option Operand} {i m : Nat} (h : CutAt ρ m z i) : match (generalizing := false) z with | Option.none => i = m | some z => ∃ k, ev ρ z = some (.int k i) := by
  cases z with
  | none => exact h
  | some z => obtain ⟨k, p, h1, h2, rfl⟩ := h; exact ⟨k, by rw [h1]; congr 2; omega⟩
theorem k_cut_sl {l : Lab} {v : Value} {w0 : Nat} {ds : List D} {e : TypeId} {lo hi : Option Operand} {i j : Nat} (hT : P.underlying tx = some (.slice e)) (hs : sizeT P e w0 = true) (hx : ev ρ x = some v) (h : SL s l v w0 ds)
    (hlo : CutAt ρ 0 lo i) (hhi : CutAt ρ ds.length hi j) (hij : i ≤ j) (hj : j ≤ ds.length) (hd : Nat.blt d n = true)
    (hK : ∀ v', SL s l v' w0 ((ds.drop i).take (j - i)) → KL P n Df ops Q rest ((d, v') :: ρ) s.w) :
    KL P n Df ops Q (⟨some d, .slice tx x lo hi none, ty, pos, aft, none⟩ :: rest) ρ s.w := k_slice_sl hT hs hx h hlo.lo hhi.hi hij hj hd hK
theorem k_cut_str {l : List UInt8} {lo hi : Option Operand} {i j : Nat} (hT : P.underlying tx = some .string) (hx : ev ρ x = some (S l))
    (hlo : CutAt ρ 0 lo i) (hhi : CutAt ρ l.length hi j) (hij : i ≤ j) (hj : j ≤ l.length) (hd : Nat.blt d n = true)
    (hK : KL P n Df ops Q rest ((d, S ((l.drop i).take (j - i))) :: ρ) w) : KL P n Df ops Q (⟨some d, .slice tx x lo hi none, ty, pos, aft, none⟩ :: rest) ρ w := k_slice_str hT hx hlo.lo hhi.hi hij hj hd hK
theorem k_cut_arr {t e m b : Nat} {l : Lab} {cs : List Value} {T : TypeId} {lo hi : Option Operand} {i j : Nat} (hT : arrT P t e m 1) (hx : ev ρ x = some (.pointer (some ⟨b, 0, none⟩))) (hb : Blk s b l cs T) (hlen : cs.length = m) (hone : cs.all Value.oneCell' = true)
    (hlo : CutAt ρ 0 lo i) (hhi : CutAt ρ m hi j) (hij : i ≤ j) (hj : j ≤ m) (hd : Nat.blt d n = true)
    (hK : ∀ v, SL s l v 1 (((cs.drop i).take (j - i)).map .val) → KL P n Df ops Q rest ((d, v) :: ρ) s.w) :
    KL P n Df ops Q (⟨some d, .slice t x lo hi none, ty, pos, aft, none⟩ :: rest) ρ s.w := k_slice_arr hT hb hlen hone hx hlo.lo hhi.hi hij hj hd hK

/-- A call of a closure. -/
theorem k_callv {K : Lab → Prop} {φ : St → Value → Prop} {f : FuncId} {xs : List Operand} {ats : Array TypeId} {vs caps : List Value} (hf : Callable P f) (hx : evs ρ xs = some vs) (hv : ev ρ x = some (.func (.func f) #[] caps.toArray))
    (hc : Calls P f (vs ++ caps).toArray s.w (Ret s K φ)) (hd : Nat.blt d n = true)
    (hK : ∀ s' v, Step K s s' → φ s' v → KL P n Df ops Q rest ((d, v) :: ρ) s'.w) :
    KL P n Df ops Q (⟨some d, .call { callee := .value x, args := xs.toArray, argTypes := ats }, ty, pos, aft, none⟩ :: rest) ρ s.w := by
  intro a ha
  refine wpListIn_plain rfl fun K' hk => ?_
  obtain ⟨fn, h1, h2, h3⟩ := hf
  have hr : (execOp a.eval ⟨some d, .call { callee := .value x, args := xs.toArray, argTypes := ats }, ty, pos, aft, none⟩).run P s.w = .ok (.enter f (vs ++ caps).toArray) s.w := by
    have hx' := Agr.evs (η := a.eval) (fun _ _ e => ha.ev e) hx
    have h2' : ¬ fn.name = "runtime.NumGoroutine" := by intro e; rw [e] at h2; simp at h2
    have h3' : ¬ fn.body = none := by intro e; rw [e] at h3; simp at h3
    unfold execOp
    simp only [resolve, Deferred.ofValue, ha.ev hv]
    simp [invoke, callFunc, h1, h2', h3', hx', program, Sem.run, go_sem]
  refine op_in (x := .enter f (vs ++ caps).toArray) (by intro d e; cases e) hr ?_
  rw [Oper.uponIn_enter]
  refine ⟨fun h => absurd h (by simp), calls_in (hc.mono ?_)⟩
  rintro e w' ⟨s', v, rfl, rfl, st, h⟩
  exact hk _ _ (hK s' v st h _ (ha.put hd v))

theorem k_append_nil {lx : Lab} (c : Nat) {t e w0 bytes : Nat} {z : Value} {vx : Value} {es : List D} (hT : elemT P t e w0 bytes z) (hx : ev ρ x = some (.slice none 0 0)) (hy : ev ρ y = some vx) (h' : SL s lx vx w0 es)
    (hsz : es.length * bytes ≤ 140737488355328) (hmx : es.length ≤ 9223372036854775807) (hd : Nat.blt d n = true)
    (hK : ∀ s' v', Step K0 s s' → Own s' ⟨s.n + 1, c⟩ e w0 v' es → KL P n Df ops Q rest ((d, v') :: ρ) s'.w) :
    KL P n Df ops Q (⟨some d, .call { callee := .builtin .append, args := [x, y].toArray, argTypes := [t, t].toArray }, ty, pos, aft, none⟩ :: rest) ρ s.w :=
  k_append hT hx hy (Own.nil (l := ⟨s.n + 1, c⟩) (by simp) (Nat.le_refl _)) h' (by simpa using hsz) (by simpa using hmx) hd (fun s' v' st ho =>
    hK s' v' ((Step.refl s).transNew st (fun l hl => by have h1 : l.o = s.n + 1 := hl.1; omega)) (by simpa using ho))

end

/-! facts in a later state -/
theorem SL.up' {K : Lab → Prop} {s s' : St} {l : Lab} {v : Value} {w : Nat} {ds : List D} (h : SL s l v w ds) (st : Step K s s') (hk : ¬ K l := by first | exact id | (simp [KC, KO] <;> omega)) : SL s' l v w ds := h.up st hk
theorem Own.up' {K : Lab → Prop} {s s' : St} {l : Lab} {e : TypeId} {v : Value} {w : Nat} {ds : List D} (h : Own s l e w v ds) (st : Step K s s') (hk : ¬ K l := by first | exact id | (simp [KC, KO] <;> omega)) : Own s' l e w v ds := h.up st hk
theorem Blk.up' {K : Lab → Prop} {s s' : St} {b : Nat} {l : Lab} {cs : List Value} {T : TypeId} (h : Blk s b l cs T) (st : Step K s s') (hk : ¬ K l := by first | exact id | (simp [KC, KO] <;> omega)) : Blk s' b l cs T := h.up st hk
theorem At.up' {K : Lab → Prop} {s s' : St} {l : Lab} {p : Value} {d : D} (h : At s l p d) (st : Step K s s') (hk : ¬ K l := by first | exact id | (simp [KC, KO] <;> omega)) : At s' l p d := h.up st hk
theorem R.up' {K : Lab → Prop} {s s' : St} {v : Value} {d : D} (h : R s v d) (st : Step K s s') : R s' v d := h.up st

end Go.Fw

set_option linter.unusedSimpArgs false
set_option linter.unusedVariables false
namespace Go.Fw

theorem Step.transSub {K K' : Lab → Prop} {a b c : St} (h : Step K a b) (h' : Step K' b c) (hk : ∀ l, K' l → K l) : Step K a c := h.trans h' (fun _ _ h => hk _ h)

theorem Step.transOC {k o : Nat} {a b c : St} (h : Step (KO k) a b) (h' : Step (KC k o) b c) : Step (KO k) a c := h.transSub h' (fun l hl => hl.1)
theorem Step.transNewC {K : Lab → Prop} {o k : Nat} {a b c : St} (h : Step K a b) (h' : Step (KC o k) b c) (hn : a.n < o) : Step K a c := h.transNew h' (fun l hl => by have h1 : l.o = o := hl.1; omega)

theorem Step.transNewO {K : Lab → Prop} {o : Nat} {a b c : St} (h : Step K a b) (h' : Step (KO o) b c) (hn : a.n < o) : Step K a c := h.transNew h' (fun l hl => by have h1 : l.o = o := hl; omega)

section
variable {P : Program} {n : Nat} {Df : Md} {F : Post} {k : List It} {ρ : Env} {w : World}

theorem look_append {ρ1 ρ2 : Env} {t : Nat} {v : Value} (h : look (ρ1 ++ ρ2) t = some v) : look ρ1 t = some v ∨ look ρ2 t = some v := by
  induction ρ1 with
  | nil => exact .inr h
  | cons p r ih =>
    obtain ⟨u, x⟩ := p
    simp only [List.cons_append, look] at h ⊢
    cases e : Nat.beq u t with
    | true => rw [e] at h; exact .inl h
    | false => rw [e] at h; simp only [cond_false] at h ⊢; exact ih h
theorem Ag.sub2 {ρ1 ρ2 : Env} {a : Act} (ha : Ag n Df ρ a) (h1 : Sub ρ ρ1) (h2 : Sub ρ ρ2) : Ag n Df (ρ1 ++ ρ2) a :=
  ⟨ha.size, fun t v e => by
    rcases look_append e with h | h
    · exact ha.get t v (h1.look t v h)
    · exact ha.get t v (h2.look t v h), ha.defers⟩

/-- A loop: 'ρc' are the slots that no round writes, 'ρv' those that a round writes. -/
theorem k_loopc {X : Type} {body : Code} (ρc : Env) (ρv : X → Env) (inv : X → World → Prop) (μ : X → Nat) (x0 : X) (hc : Sub ρ ρc) (hv : Sub ρ (ρv x0)) (hi : inv x0 w)
    (round : ∀ x w, inv x w → G P n Df F (.code body :: .stop (fun ρ' w' => ∃ x', Sub ρ' (ρv x') ∧ Sub ρ' ρc ∧ inv x' w' ∧ μ x' < μ x) :: k) (ρv x ++ ρc) w) :
    G P n Df F (.code (.loop body) :: k) ρ w := by
  intro a ha
  refine wpIn_loop_ghost (fun m a w => ∃ x, Ag n Df (ρv x ++ ρc) a ∧ inv x w ∧ μ x = m) (μ x0) ⟨x0, ha.sub2 hv hc, hi, rfl⟩ ?_
  rintro m a w ⟨x, hag, hx, rfl⟩
  refine wpIn_mono (round x w hx a hag) ?_
  rintro e a' w' ⟨ρ', hag', hq⟩
  cases e with
  | normal => obtain ⟨x', h1, h1', h2, h3⟩ := hq; exact ⟨μ x', h3, x', hag'.sub2 h1 h1', h2, rfl⟩
  | exit i => exact ⟨ρ', hag', hq⟩
  | goto l => exact ⟨ρ', hag', hq⟩
  | ret => exact ⟨ρ', hag', hq⟩
  | panic ch => exact ⟨ρ', hag', hq⟩
  | outgrown => exact ⟨ρ', hag', hq⟩

/-- Ways that meet again. -/
theorem k_cutc {X : Type} {c c2 : Code} {k : List It} (ρc : Env) (ρv : X → Env) (inv : X → World → Prop) (h1 : G P n Df F (.code c :: .stop (fun ρ' w' => ∃ x', Sub ρ' (ρv x') ∧ Sub ρ' ρc ∧ inv x' w') :: .code c2 :: k) ρ w)
    (h2 : ∀ x w, inv x w → G P n Df F (.code c2 :: k) (ρv x ++ ρc) w) : G P n Df F (.code c :: .code c2 :: k) ρ w :=
  k_cut _ h1 (fun ρ' w' ⟨x', q1, q2, q3⟩ a ha => h2 x' w' q3 a (ha.sub2 q1 q2))

end
end Go.Fw

set_option linter.unusedSimpArgs false
set_option linter.unusedVariables false
namespace Go.Fw

/-- A piece of code under a post that sees the activation itself. -/
def RAW (P : Program) (n : Nat) (Df : Md) (W : Exit → Act → World → Prop) (c : Code) (ρ : Env) (w : World) : Prop := ∀ a, Ag n Df ρ a → c.wpIn (fnc Df.rd) 0 P W a w
def RawF (n : Nat) (Df : Md) (W : Exit → Act → World → Prop) : Post := fun e ρ w => ∀ a, Ag n Df ρ a → W e a w

section
variable {P : Program} {n : Nat} {Df : Md} {W : Exit → Act → World → Prop} {ρ : Env} {w : World} {s : St}

theorem raw_last {c : Code} (h : G P n Df (RawF n Df W) [.code c] ρ w) : RAW P n Df W c ρ w :=
  fun a ha => wpIn_mono (h a ha) (fun e a' w' ⟨ρ', hag, hq⟩ => by cases e <;> exact hq a' hag)
theorem raw_seq {x y : Code} (h : G P n Df (RawF n Df W) [.code x, .stop (RAW P n Df W y)] ρ w) : RAW P n Df W (.seq x y) ρ w := by
  intro a ha
  refine wpIn_seq (wpIn_mono (h a ha) ?_)
  rintro e a' w' ⟨ρ', hag, hq⟩
  cases e with
  | normal => exact hq a' hag
  | exit i => exact hq a' hag
  | goto l => exact hq a' hag
  | ret => exact hq a' hag
  | panic ch => exact hq a' hag
  | outgrown => exact hq a' hag
/-- A call that is put off till the end. -/
theorem raw_defer {Df : List Deferred} {id d f : Nat} {ys : List Operand} {us : List Value} {ty1 ty2 : TypeId} {p1 p2 : String} {a1 a2 : Array Edge} {ats : Array TypeId} {y : Code} (hy : evs ρ ys = some us) (hd : Nat.blt d n = true)
    (h : RAW P n ⟨⟨.fn (.func f) us.toArray, #[]⟩ :: Df, none⟩ W y ((d, .func (.func f) #[] us.toArray) :: ρ) w) :
    RAW P n ⟨Df, none⟩ W (.seq (.region id [⟨some d, .makeFunc (.func f) #[] ys.toArray, ty1, p1, a1, none⟩, ⟨none, .defer { callee := .value (.tmp d), args := #[], argTypes := ats }, ty2, p2, a2, none⟩].toArray false) y) ρ w := by
  intro a ha
  refine wpIn_seq (wpIn_region_lit ?_)
  refine wpListIn_plain rfl fun K hk => ?_
  have hag := ha.put hd (.func (.func f) #[] us.toArray)
  have hr : (execOp a.eval ⟨some d, .makeFunc (.func f) #[] ys.toArray, ty1, p1, a1, none⟩).run P w = .ok (.value (.func (.func f) #[] us.toArray)) w := by
    have := Agr.evs (η := a.eval) (fun _ _ e => ha.ev e) hy
    generalize a.eval = η at this
    simp [execOp, Instr.makeFunc, this]
  refine op_in (x := .value _) (by intro d e; cases e) hr ?_
  refine hk _ _ ?_
  refine wpListIn_plain rfl fun K hk => ?_
  have hr2 : (execOp (a.put (some d) (.func (.func f) #[] us.toArray)).eval ⟨none, .defer { callee := .value (.tmp d), args := #[], argTypes := ats }, ty2, p2, a2, none⟩).run P w = .ok (.defer ⟨.fn (.func f) us.toArray, #[]⟩) w := by
    have := hag.ev (x := .tmp d) (v := .func (.func f) #[] us.toArray) (by simp [ev, look])
    generalize (a.put (some d) (.func (.func f) #[] us.toArray)).eval = η at this
    simp [execOp, resolve, this, Deferred.ofValue]
  refine ⟨fun _ _ => trivial, ?_⟩
  rw [show (fnc none).round = none from rfl, Oper.semAt_none, hr2]
  refine hk _ _ ?_
  refine h _ ⟨hag.size, hag.get, ?_⟩
  show _ :: _ = _
  exact congrArg (_ :: ·) hag.defers

theorem k_fn_raw {f : FuncId} {fn : Func} {c : Code} {args : List Value} {T : Ending → World → Prop} (hf : P.funcs[f]? = some fn) (hb : fn.body = some c) (hn : Nat.ble args.length fn.ntmps = true)
    (h : RAW P fn.ntmps M0 (bodyPostD P fn T) c (start 0 args) w) : Calls P f args.toArray w T := by
  refine calls_of_wp_defers hf hb (wpIn_wide.1 (h _ ?_))
  have hn' : args.length ≤ fn.ntmps := by simpa using hn
  refine ⟨by simp; omega, ?_, rfl⟩
  intro t v e
  obtain ⟨_, h2⟩ := start_look args 0 t v e
  have h3 : t < args.length := (List.getElem?_eq_some_iff.1 h2).1
  simp only [Nat.sub_zero] at h2
  rw [List.getElem?_eq_getElem h3] at h2
  simpa [Array.getD_eq_getD_getElem?, Array.getElem?_append, h3] using h2

/-- A function that is called at the end of another one. -/
theorem k_fnD {f : FuncId} {fn : Func} {c : Code} {args : List Value} {rs : List Nat} {T : Ending → World → Prop} (hf : P.funcs[f]? = some fn) (hb : fn.body = some c)
    (hr : fn.results = (rs.map ResultVar.tmp).toArray) (hl : Nat.ble rs.length 4 = true) (hn : Nat.ble args.length fn.ntmps = true)
    (h : G P fn.ntmps M0 (RetF rs T) [.code c] (start 0 args) w) : CallsD P f args.toArray .returning w fun e u w' => u = .returning ∧ T e w' := by
  refine callsD_of_wp hf hb (wp_mono (wpIn_wide.1 (h _ ?_)) ?_)
  · have hn' : args.length ≤ fn.ntmps := by simpa using hn
    refine ⟨by simp; omega, ?_, rfl⟩
    intro t v e
    obtain ⟨_, h2⟩ := start_look args 0 t v e
    have h3 : t < args.length := (List.getElem?_eq_some_iff.1 h2).1
    simp only [Nat.sub_zero] at h2
    rw [List.getElem?_eq_getElem h3] at h2
    simpa [Array.getD_eq_getD_getElem?, Array.getElem?_append, h3] using h2
  · rintro e a' w' ⟨ρ', hag, hq⟩
    cases e with
    | normal =>
      obtain ⟨vs, h1, h2⟩ := hq
      refine ⟨hag.defers, one vs, ?_, h2⟩
      rw [results_list hr hl, looks_ag hag h1]
    | ret =>
      obtain ⟨vs, h1, h2⟩ := hq
      refine ⟨hag.defers, one vs, ?_, h2⟩
      rw [results_list hr hl, looks_ag hag h1]
    | exit i => exact hq.elim
    | goto l => exact hq.elim
    | panic ch => exact hq.elim
    | outgrown => exact hq.elim

/-- A result that lies in a variable. -/
theorem results_cell {fn : Func} {t : Nat} {ty b : Nat} {v : Value} {l : Lab} {T : TypeId} {a : Act} (hr : fn.results = #[.cell t ty]) (hT : oneT P ty = true) (ha : Ag n Df ρ a) (ht : look ρ t = some (.pointer (some ⟨b, 0, none⟩))) (hb : Blk s b l [v] T) :
    (results fn a.tmps).run P s.w = .ok v s.w := by
  have h1 := ha.get t _ ht
  rw [Array.getD_eq_getD_getElem?] at h1
  simp [results, hr, h1, asAddr, run_loadVar_one hT (hb.cell 0)]

theorem rawret0 {fn : Func} {t ty b : Nat} {v : Value} {l : Lab} {Tb : TypeId} {T : Ending → World → Prop} (hr : fn.results = #[.cell t ty]) (hT : oneT P ty = true) (ht : look ρ t = some (.pointer (some ⟨b, 0, none⟩))) (hb : Blk s b l [v] Tb) (h : T (.returned v) s.w) :
    RawF n M0 (bodyPostD P fn T) .ret ρ s.w := by
  intro a ha
  show Leaves P fn a.tmps T a.defers .returning s.w
  rw [ha.defers]
  exact ⟨v, results_cell hr hT ha ht hb, h⟩
theorem rawret1 {fn : Func} {t ty b f : Nat} {us : List Value} {l : Lab} {Tb : TypeId} {K : Lab → Prop} {φ : St → Value → Prop} {T : Ending → World → Prop} (hr : fn.results = #[.cell t ty]) (hT : oneT P ty = true) (ht : look ρ t = some (.pointer (some ⟨b, 0, none⟩))) (hf : Callable P f)
    (hc : CallsD P f us.toArray .returning s.w fun e u w' => u = .returning ∧ Ret s K φ e w')
    (h : ∀ s' x, Step K s s' → φ s' x → ∃ v, Blk s' b l [v] Tb ∧ T (.returned v) s'.w) :
    RawF n ⟨[⟨.fn (.func f) us.toArray, #[]⟩], none⟩ (bodyPostD P fn T) .ret ρ s.w := by
  intro a ha
  show Leaves P fn a.tmps T a.defers .returning s.w
  rw [ha.defers]
  obtain ⟨fn', h1, h2, h3⟩ := hf
  refine leaves_cons (f := f) (args := us.toArray) (by simp) ?_ (hc.mono ?_)
  · have h2' : ¬ fn'.name = "runtime.NumGoroutine" := by intro e; rw [e] at h2; simp at h2
    have h3' : ¬ fn'.body = none := by intro e; rw [e] at h3; simp at h3
    simp [invoke, callFunc, h1, h2', h3', program, Sem.run, go_sem]
  · rintro e u' w' ⟨rfl, s', x, rfl, rfl, st, hφ⟩
    obtain ⟨v, hb, hv⟩ := h s' x st hφ
    exact ⟨v, results_cell hr hT ha ht hb, hv⟩
end
theorem or_byte (a : Nat) (c : UInt8) (h : a < 72057594037927936) : IntKind.u64.wrap ((BitVec.ofInt IntKind.u64.bits (IntKind.u64.wrap ((a : Int) * 256)) ||| BitVec.ofInt IntKind.u64.bits (c.toNat : Int)).toNat : Int) = ((a * 256 + c.toNat : Nat) : Int) := by
  have hc := c.toNat_lt
  have e1 : IntKind.u64.wrap ((a : Int) * 256) = ((a * 256 : Nat) : Int) := by rw [wrap_u64 (by omega) (by omega)]; simp
  have e2 : BitVec.ofInt IntKind.u64.bits ((a * 256 : Nat) : Int) = BitVec.ofNat 64 (a * 256) := BitVec.ofInt_natCast _ _
  have e3 : BitVec.ofInt IntKind.u64.bits (c.toNat : Int) = BitVec.ofNat 64 c.toNat := BitVec.ofInt_natCast _ _
  rw [e1, e2, e3]
  have e4 : (BitVec.ofNat 64 (a * 256) ||| BitVec.ofNat 64 c.toNat).toNat = a * 256 + c.toNat := by
    rw [BitVec.toNat_or, BitVec.toNat_ofNat, BitVec.toNat_ofNat, Nat.mod_eq_of_lt (by omega), Nat.mod_eq_of_lt (by omega)]
    have := Nat.shiftLeft_add_eq_or_of_lt (i := 8) hc a
    rw [Nat.shiftLeft_eq] at this
    exact this.symm
  show IntKind.u64.wrap (((BitVec.ofNat 64 (a * 256) ||| BitVec.ofNat 64 c.toNat).toNat : Nat) : Int) = _
  rw [e4, wrap_u64 (by omega) (by omega)]

/-- x<<8 | uint64(c). -/
theorem k_orb {P : Program} {n : Nat} {Df : Md} {ops : Array Oper} {Q : Post} {rest : List Oper} {ρ : Env} {w : World} {d : Nat} {ty : TypeId} {pos : String} {aft : Array Edge} {x y : Operand} {tx tyy : TypeId} {a : Nat} {c : UInt8}
    (hx : ev ρ x = some (.int .u64 (IntKind.u64.wrap ((a : Int) * 256)))) (hy : ev ρ y = some (.int .u64 (c.toNat : Int))) (h : a < 72057594037927936) (hd : Nat.blt d n = true)
    (hK : KL P n Df ops Q rest ((d, .int .u64 ((a * 256 + c.toNat : Nat) : Int)) :: ρ) w) : KL P n Df ops Q (⟨some d, .binOp .or tx x y tyy, ty, pos, aft, none⟩ :: rest) ρ w := by
  refine k_bits (.inr (.inl ⟨rfl, rfl⟩)) hx hy hd ?_
  have := or_byte a c h
  rw [← this] at hK
  exact hK

end Go.Fw

set_option linter.unusedSimpArgs false
set_option linter.unusedVariables false
namespace Go.Fw

/-! Reads whose value has no name, in a region whose order is open. -/
section
variable {P : Program} {n : Nat} {Df : Md} {ops : Array Oper} {K : Lab → Prop} {Fin : Env → St → Prop} {r : List (Bool × Nat)} {i : Nat} {ρ : Env} {s : St}
variable {d j : Nat} {ty : TypeId} {pos : String} {aft : Array Edge} {x y : Operand} {tx : TypeId} {g : Option (Nat × Bool)}

/-- The operation, if it is wanted. -/
def Wanted (P : Program) (n : Nat) (Df : Md) (ops : Array Oper) (ρ : Env) (o : Oper) : Prop :=
  ∀ Q w, KL P n Df ops Q [{ o with guard := none }] ρ w → KL P n Df ops Q [o] ρ w

theorem wanted_none {o : Oper} (h : o.guard = none) : Wanted P n Df ops ρ o := fun Q w hq => by
  obtain ⟨a, b, c, d, e, g⟩ := o
  simp only at h
  subst h
  exact hq
theorem wanted_yes {o : Oper} {q d : Nat} {b : Bool} (h : o.guard = some (q, b)) (hj : (ops[q]?).bind (·.dst) = some d) (hv : look ρ d = some (.bool b)) : Wanted P n Df ops ρ o := fun Q w hq => by
  obtain ⟨a, b', c, d', e, g⟩ := o
  simp only at h
  subst h
  exact k_yes hj hv hq

theorem k_ixaddrP {Q : Post} {rest : List Oper} {w0 : World} {b off cap len w : Nat} {e : TypeId} {k : IntKind} {p : Int} (hT : P.underlying tx = some (.slice e)) (hs : sizeT P e w = true) (hx : ev ρ x = some (.slice (some ⟨b, off, none⟩) len cap)) (hy : ev ρ y = some (.int k p))
    (h0 : 0 ≤ p) (h1 : p < len) (hd : Nat.blt d n = true) (hK : KL P n Df ops Q rest ((d, .pointer (some ⟨b, off + p.toNat * w, none⟩)) :: ρ) w0) :
    KL P n Df ops Q (⟨some d, .indexAddr tx x y, ty, pos, aft, none⟩ :: rest) ρ w0 :=
  .val rfl rfl hd (fun η hη => by simp [execOp, hη.ev hx, hη.ev hy, run_indexAt_slice hT hs h0 h1]) hK

theorem rd_ix {l : Lab} {v : Value} {w : Nat} {ds : List D} {dd : D} {e : TypeId} {k : IntKind} {p : Int}
    (ho : ops[i]? = some ⟨some d, .indexAddr tx x y, ty, pos, aft, g⟩) (hg : Wanted P n Df ops (rst ρ ((⟨some d, .indexAddr tx x y, ty, pos, aft, g⟩ : Oper).looksAt ops)) ⟨some d, .indexAddr tx x y, ty, pos, aft, g⟩)
    (hT : P.underlying tx = some (.slice e)) (hs : sizeT P e w = true) (hx : ev (rst ρ ((⟨some d, .indexAddr tx x y, ty, pos, aft, g⟩ : Oper).looksAt ops)) x = some v) (hy : ev (rst ρ ((⟨some d, .indexAddr tx x y, ty, pos, aft, g⟩ : Oper).looksAt ops)) y = some (.int k p)) (h : SL s l v w ds)
    (h0 : 0 ≤ p) (hdd : ds[p.toNat]? = some dd) (hd : Nat.blt d n = true) (hr : ∀ q, At s l q dd → RD P n Df ops K Fin r ((d, q) :: ρ) s) : RD P n Df ops K Fin ((false, i) :: r) ρ s := by
  obtain ⟨b, off, cap, rfl, ha⟩ := h.at hdd
  have hlt : p.toNat < ds.length := (List.getElem?_eq_some_iff.1 hdd).1
  exact rd_read _ ho rfl (fun s' st => hg _ _ (k_ixaddrP hT hs hx hy h0 (show p < (ds.length : Int) by omega) hd fq_end)) (hr _ ha)
theorem rd_ixN {l : Lab} {v : Value} {w : Nat} {ds : List D} {dd : D} {e : TypeId} {k : IntKind} {p : Nat}
    (ho : ops[i]? = some ⟨some d, .indexAddr tx x y, ty, pos, aft, g⟩) (hg : Wanted P n Df ops (rst ρ ((⟨some d, .indexAddr tx x y, ty, pos, aft, g⟩ : Oper).looksAt ops)) ⟨some d, .indexAddr tx x y, ty, pos, aft, g⟩)
    (hT : P.underlying tx = some (.slice e)) (hs : sizeT P e w = true) (hx : ev (rst ρ ((⟨some d, .indexAddr tx x y, ty, pos, aft, g⟩ : Oper).looksAt ops)) x = some v) (hy : ev (rst ρ ((⟨some d, .indexAddr tx x y, ty, pos, aft, g⟩ : Oper).looksAt ops)) y = some (.int k (p : Int))) (h : SL s l v w ds)
    (hdd : ds[p]? = some dd) (hd : Nat.blt d n = true) (hr : ∀ q, At s l q dd → RD P n Df ops K Fin r ((d, q) :: ρ) s) : RD P n Df ops K Fin ((false, i) :: r) ρ s :=
  rd_ix ho hg hT hs hx hy h (by omega) (by simpa using hdd) hd hr

theorem rd_fa {t : TypeId} {f : Nat} {l : Lab} {p : Value} {ds : List D} {dd : D}
    (ho : ops[i]? = some ⟨some d, .fieldAddr t x f, ty, pos, aft, g⟩) (hg : Wanted P n Df ops (rst ρ ((⟨some d, .fieldAddr t x f, ty, pos, aft, g⟩ : Oper).looksAt ops)) ⟨some d, .fieldAddr t x f, ty, pos, aft, g⟩)
    (hx : ev (rst ρ ((⟨some d, .fieldAddr t x f, ty, pos, aft, g⟩ : Oper).looksAt ops)) x = some p) (h : At s l p (.agg ds)) (hf : ds[f]? = some dd) (hF : fieldT P t f = some (D.wd.wdL (ds.take f))) (hd : Nat.blt d n = true)
    (hr : ∀ q, At s l q dd → RD P n Df ops K Fin r ((d, q) :: ρ) s) : RD P n Df ops K Fin ((false, i) :: r) ρ s := by
  obtain ⟨b, o, rfl, h'⟩ := h.field hf
  exact rd_read _ ho rfl (fun s' st => hg _ _ (k_field_addr hF hx hd fq_end)) (hr _ h')

theorem rd_ldsl {l : Lab} {p : Value} {w : Nat} {ds : List D} (ho : ops[i]? = some ⟨some d, .load tx x, ty, pos, aft, g⟩) (hg : Wanted P n Df ops (rst ρ ((⟨some d, .load tx x, ty, pos, aft, g⟩ : Oper).looksAt ops)) ⟨some d, .load tx x, ty, pos, aft, g⟩)
    (hT : oneT P tx = true) (hx : ev (rst ρ ((⟨some d, .load tx x, ty, pos, aft, g⟩ : Oper).looksAt ops)) x = some p) (h : At s l p (.sl w ds)) (hk : ¬ K l) (hd : Nat.blt d n = true)
    (hr : ∀ v, R s v (.sl w ds) → RD P n Df ops K Fin r ((d, v) :: ρ) s) : RD P n Df ops K Fin ((false, i) :: r) ρ s := by
  obtain ⟨b, off, cs, rfl, hb, hgl, hc, h⟩ := h
  obtain ⟨v, rfl, hv⟩ := h.sl_inv
  have h0 : s.w.cell? ⟨b, off, none⟩ = some v := by have := hc 0 (by simp); simpa using this
  have hk' : ¬ K (s.g b) := by rw [hgl]; exact hk
  exact rd_read _ ho rfl (fun s' st => hg _ _ (k_load_cell hT hx ((st.cell hb hk' _).trans h0) hd fq_end)) (hr _ hv)
end
end Go.Fw

set_option linter.unusedSimpArgs false
set_option linter.unusedVariables false
namespace Go.Fw

/-! progress of what is computed -/
theorem ob {α β : Type} {o : Option α} {f : α → Option β} {r : β} (h : o.bind f = some r) : ∃ x, o = some x ∧ f x = some r := Option.bind_eq_some_iff.1 h
theorem itT {β : Type} {p : Prop} [Decidable p] {a b : Option β} {r : β} (h : (if p then a else b) = some r) (c : p) : a = some r := by rw [if_pos c] at h; exact h
theorem itF {β : Type} {p : Prop} [Decidable p] {a b : Option β} {r : β} (h : (if p then a else b) = some r) (c : ¬ p) : b = some r := by rw [if_neg c] at h; exact h
theorem ibT {β : Type} {c : Bool} {a b : Option β} {r : β} (h : (if c = true then a else b) = some r) (e : c = true) : a = some r := itT h e
theorem ibF {β : Type} {c : Bool} {a b : Option β} {r : β} (h : (if c = true then a else b) = some r) (e : c = false) : b = some r := itF h (by rw [e]; decide)
theorem noneNe {β : Type} {r : β} (h : (none : Option β) = some r) : False := by cases h

/-- More rounds than any loop takes. -/
def fuG (n : Nat) : Nat := if n = 0 then 1 else 2 * fuG (n - 1)
  termination_by n
  decreasing_by omega
def FU : Nat := fuG 70
theorem FU_ge : 1180591620717411303424 ≤ FU := by simp [FU, fuG]

def geti {α : Type} (l : List α) (i : Int) : Option α := if 0 ≤ i then l[i.toNat]? else none
def subl {α : Type} (l : List α) (a b : Int) : Option (List α) := if 0 ≤ a ∧ a ≤ b ∧ b ≤ l.length then some ((l.drop a.toNat).take (b.toNat - a.toNat)) else none
def app {α : Type} (lim : Nat) (l m : List α) : Option (List α) := if l.length + m.length ≤ lim then some (l ++ m) else none
def makel {α : Type} (lim : Nat) (z : α) (c : Int) : Option (List α) := if 0 ≤ c ∧ c ≤ lim then some (List.replicate c.toNat z) else none
def ofI8 (p : Int) : UInt8 := UInt8.ofNat (p % 256).toNat
def ofI32 (p : Int) : UInt32 := UInt32.ofNat (p % 4294967296).toNat
def ofI64 (p : Int) : UInt64 := UInt64.ofNat (p % 18446744073709551616).toNat
def i64 (p : Int) : Int := IntKind.i64.wrap p
def i32 (p : Int) : Int := IntKind.i32.wrap p

theorem geti_out {α : Type} {l : List α} {i : Int} {x : α} (h : geti l i = some x) : 0 ≤ i ∧ i < l.length ∧ l[i.toNat]? = some x := by
  unfold geti at h
  split at h
  · rename_i h0
    have := (List.getElem?_eq_some_iff.1 h).1
    exact ⟨h0, by omega, h⟩
  · cases h
theorem geti_map {α : Type} {l : List α} {f : α → D} {i : Int} {x : α} (h : geti l i = some x) : (l.map f)[i.toNat]? = some (f x) := by
  rw [List.getElem?_map, (geti_out h).2.2]; rfl
theorem subl_out {α : Type} {l m : List α} {a b : Int} (h : subl l a b = some m) : 0 ≤ a ∧ a ≤ b ∧ b ≤ l.length ∧ m = (l.drop a.toNat).take (b.toNat - a.toNat) := by
  unfold subl at h
  split at h
  · rename_i h0; cases h; exact ⟨h0.1, h0.2.1, h0.2.2, rfl⟩
  · cases h
theorem app_out {α : Type} {lim : Nat} {l m r : List α} (h : app lim l m = some r) : l.length + m.length ≤ lim ∧ r = l ++ m := by
  unfold app at h
  split at h
  · rename_i h0; cases h; exact ⟨h0, rfl⟩
  · cases h
theorem makel_out {α : Type} {lim : Nat} {z : α} {c : Int} {r : List α} (h : makel lim z c = some r) : 0 ≤ c ∧ c ≤ lim ∧ r = List.replicate c.toNat z := by
  unfold makel at h
  split at h
  · rename_i h0; cases h; exact ⟨h0.1, h0.2, rfl⟩
  · cases h

theorem geti_getD {l : List UInt8} {i : Int} {x : UInt8} (h : geti l i = some x) : l.getD i.toNat 0 = x := by
  rw [List.getD_eq_getElem?_getD, (geti_out h).2.2]; rfl
theorem subl_ij {α : Type} {l m : List α} {a b : Int} (h : subl l a b = some m) : a.toNat ≤ b.toNat := by have := subl_out h; omega
theorem subl_j {α : Type} {l m : List α} {a b : Int} (h : subl l a b = some m) : b.toNat ≤ l.length := by have := subl_out h; omega
/-- What is done behind a place where ways meet. -/
def jn {α β : Type} (f : α) (g : α → β) : β := g f
theorem jn_out {α β : Type} {f : α} {g : α → Option β} {r : β} (h : jn f g = some r) : ∃ k, k = f ∧ g k = some r := ⟨f, rfl, h⟩
/-- Nothing, or something. -/
def oc {α β : Type} (o : Option α) (a : β) (f : α → β) : β := match o with | none => a | some x => f x
theorem oc_out {α β : Type} {o : Option α} {a : Option β} {f : α → Option β} {r : β} (h : oc o a f = some r) : (o = none ∧ a = some r) ∨ ∃ x, o = some x ∧ f x = some r := by
  cases o with
  | none => exact .inl ⟨rfl, h⟩
  | some x => exact .inr ⟨x, rfl, h⟩
abbrev dI64 (x : Int) : D := .val (.int .i64 x)
abbrev dI32 (x : Int) : D := .val (.int .i32 x)
abbrev dU32 (x : UInt32) : D := .val (.int .u32 (x.toNat : Int))
abbrev dU64 (x : UInt64) : D := .val (.int .u64 (x.toNat : Int))
abbrev dB (x : Bool) : D := .val (.bool x)
abbrev dS (x : List UInt8) : D := .val (S x)
abbrev dL {α : Type} (w : Nat) (f : α → D) (l : List α) : D := .sl w (l.map f)
abbrev dA {α : Type} (f : α → D) (l : List α) : D := .agg (l.map f)

/-! numbers of a size -/
theorem tmod_nn {p q : Int} (h : 0 ≤ p) : 0 ≤ p.tmod q ∧ p.tmod q ≤ p := by
  refine ⟨Int.tmod_nonneg _ h, ?_⟩
  obtain ⟨a, rfl⟩ := Int.eq_ofNat_of_zero_le h
  obtain ⟨b, rfl | rfl⟩ := Int.eq_nat_or_neg q
  · rw [← Int.ofNat_tmod]; exact Int.ofNat_le.2 (Nat.mod_le _ _)
  · rw [Int.tmod_neg, ← Int.ofNat_tmod]; exact Int.ofNat_le.2 (Nat.mod_le _ _)
theorem w8 (p : Int) : IntKind.u8.wrap p = ((ofI8 p).toNat : Int) := by
  rw [wrap_u8_mod]; unfold ofI8; rw [UInt8.toNat_ofNat']; omega
theorem w32 (p : Int) : IntKind.u32.wrap p = ((ofI32 p).toNat : Int) := by
  rw [wrap_u32_mod]; unfold ofI32; rw [UInt32.toNat_ofNat']; omega
theorem w64 (p : Int) : IntKind.u64.wrap p = ((ofI64 p).toNat : Int) := by
  rw [wrap_u64_mod]; unfold ofI64; rw [UInt64.toNat_ofNat']; omega
theorem i64_eq {p : Int} (h0 : -9223372036854775808 ≤ p) (h1 : p ≤ 9223372036854775807) : i64 p = p := wrap_i64 h0 h1
theorem i64_b8 (x : UInt8) : IntKind.i64.wrap (x.toNat : Int) = (x.toNat : Int) := wrap_i64 (by omega) (by have := x.toNat_lt; omega)
theorem i64_b32 (x : UInt32) : IntKind.i64.wrap (x.toNat : Int) = (x.toNat : Int) := wrap_i64 (by omega) (by have := x.toNat_lt; omega)
theorem ofI8_toNat (x : UInt8) : ofI8 (x.toNat : Int) = x := by
  have := x.toNat_lt
  apply UInt8.toNat_inj.1; unfold ofI8; rw [UInt8.toNat_ofNat']; omega
theorem ofI32_toNat (x : UInt32) : ofI32 (x.toNat : Int) = x := by
  have := x.toNat_lt
  apply UInt32.toNat_inj.1; unfold ofI32; rw [UInt32.toNat_ofNat']; omega
theorem ofI64_toNat (x : UInt64) : ofI64 (x.toNat : Int) = x := by
  have := x.toNat_lt
  apply UInt64.toNat_inj.1; unfold ofI64; rw [UInt64.toNat_ofNat']; omega
theorem ofI8_nat {p : Int} (h0 : 0 ≤ p) (h1 : p < 256) : ((ofI8 p).toNat : Int) = p := by unfold ofI8; rw [UInt8.toNat_ofNat']; omega
theorem ofI32_nat {p : Int} (h0 : 0 ≤ p) (h1 : p < 4294967296) : ((ofI32 p).toNat : Int) = p := by unfold ofI32; rw [UInt32.toNat_ofNat']; omega
theorem ofI64_nat {p : Int} (h0 : 0 ≤ p) (h1 : p < 18446744073709551616) : ((ofI64 p).toNat : Int) = p := by unfold ofI64; rw [UInt64.toNat_ofNat']; omega

theorem rem8 (x : UInt8) (q : Int) : ((x.toNat : Int)).tmod q = ((ofI8 ((x.toNat : Int).tmod q)).toNat : Int) := by
  have h := tmod_nn (p := (x.toNat : Int)) (q := q) (by omega)
  have := x.toNat_lt
  exact (ofI8_nat h.1 (by omega)).symm
theorem rem32 (x : UInt32) (q : Int) : ((x.toNat : Int)).tmod q = ((ofI32 ((x.toNat : Int).tmod q)).toNat : Int) := by
  have h := tmod_nn (p := (x.toNat : Int)) (q := q) (by omega)
  have := x.toNat_lt
  exact (ofI32_nat h.1 (by omega)).symm
theorem rem64 (x : UInt64) (q : Int) : ((x.toNat : Int)).tmod q = ((ofI64 ((x.toNat : Int).tmod q)).toNat : Int) := by
  have h := tmod_nn (p := (x.toNat : Int)) (q := q) (by omega)
  have := x.toNat_lt
  exact (ofI64_nat h.1 (by omega)).symm
theorem bofI {m : Nat} (a : Nat) : BitVec.ofInt m (a : Int) = BitVec.ofNat m a := BitVec.ofInt_natCast _ _
theorem and8 (x y : UInt8) : IntKind.u8.wrap ((BitVec.ofInt IntKind.u8.bits (x.toNat : Int) &&& BitVec.ofInt IntKind.u8.bits (y.toNat : Int)).toNat : Int) = ((x &&& y).toNat : Int) := by
  have e : (BitVec.ofNat 8 x.toNat &&& BitVec.ofNat 8 y.toNat).toNat = (x &&& y).toNat := by
    rw [BitVec.toNat_and, BitVec.toNat_ofNat, BitVec.toNat_ofNat, Nat.mod_eq_of_lt x.toNat_lt, Nat.mod_eq_of_lt y.toNat_lt, UInt8.toNat_and]
  rw [bofI, bofI]
  show IntKind.u8.wrap (((BitVec.ofNat 8 x.toNat &&& BitVec.ofNat 8 y.toNat).toNat : Nat) : Int) = _
  have h := (x &&& y).toNat_lt
  rw [e, wrap_u8 (by omega) (by omega)]
theorem or8 (x y : UInt8) : IntKind.u8.wrap ((BitVec.ofInt IntKind.u8.bits (x.toNat : Int) ||| BitVec.ofInt IntKind.u8.bits (y.toNat : Int)).toNat : Int) = ((x ||| y).toNat : Int) := by
  have e : (BitVec.ofNat 8 x.toNat ||| BitVec.ofNat 8 y.toNat).toNat = (x ||| y).toNat := by
    rw [BitVec.toNat_or, BitVec.toNat_ofNat, BitVec.toNat_ofNat, Nat.mod_eq_of_lt x.toNat_lt, Nat.mod_eq_of_lt y.toNat_lt, UInt8.toNat_or]
  rw [bofI, bofI]
  show IntKind.u8.wrap (((BitVec.ofNat 8 x.toNat ||| BitVec.ofNat 8 y.toNat).toNat : Nat) : Int) = _
  have h := (x ||| y).toNat_lt
  rw [e, wrap_u8 (by omega) (by omega)]
theorem xor8 (x y : UInt8) : IntKind.u8.wrap ((BitVec.ofInt IntKind.u8.bits (x.toNat : Int) ^^^ BitVec.ofInt IntKind.u8.bits (y.toNat : Int)).toNat : Int) = ((x ^^^ y).toNat : Int) := by
  have e : (BitVec.ofNat 8 x.toNat ^^^ BitVec.ofNat 8 y.toNat).toNat = (x ^^^ y).toNat := by
    rw [BitVec.toNat_xor, BitVec.toNat_ofNat, BitVec.toNat_ofNat, Nat.mod_eq_of_lt x.toNat_lt, Nat.mod_eq_of_lt y.toNat_lt, UInt8.toNat_xor]
  rw [bofI, bofI]
  show IntKind.u8.wrap (((BitVec.ofNat 8 x.toNat ^^^ BitVec.ofNat 8 y.toNat).toNat : Nat) : Int) = _
  have h := (x ^^^ y).toNat_lt
  rw [e, wrap_u8 (by omega) (by omega)]
theorem and32 (x y : UInt32) : IntKind.u32.wrap ((BitVec.ofInt IntKind.u32.bits (x.toNat : Int) &&& BitVec.ofInt IntKind.u32.bits (y.toNat : Int)).toNat : Int) = ((x &&& y).toNat : Int) := by
  have e : (BitVec.ofNat 32 x.toNat &&& BitVec.ofNat 32 y.toNat).toNat = (x &&& y).toNat := by
    rw [BitVec.toNat_and, BitVec.toNat_ofNat, BitVec.toNat_ofNat, Nat.mod_eq_of_lt x.toNat_lt, Nat.mod_eq_of_lt y.toNat_lt, UInt32.toNat_and]
  rw [bofI, bofI]
  show IntKind.u32.wrap (((BitVec.ofNat 32 x.toNat &&& BitVec.ofNat 32 y.toNat).toNat : Nat) : Int) = _
  have h := (x &&& y).toNat_lt
  rw [e, wrap_u32 (by omega) (by omega)]
theorem or32 (x y : UInt32) : IntKind.u32.wrap ((BitVec.ofInt IntKind.u32.bits (x.toNat : Int) ||| BitVec.ofInt IntKind.u32.bits (y.toNat : Int)).toNat : Int) = ((x ||| y).toNat : Int) := by
  have e : (BitVec.ofNat 32 x.toNat ||| BitVec.ofNat 32 y.toNat).toNat = (x ||| y).toNat := by
    rw [BitVec.toNat_or, BitVec.toNat_ofNat, BitVec.toNat_ofNat, Nat.mod_eq_of_lt x.toNat_lt, Nat.mod_eq_of_lt y.toNat_lt, UInt32.toNat_or]
  rw [bofI, bofI]
  show IntKind.u32.wrap (((BitVec.ofNat 32 x.toNat ||| BitVec.ofNat 32 y.toNat).toNat : Nat) : Int) = _
  have h := (x ||| y).toNat_lt
  rw [e, wrap_u32 (by omega) (by omega)]
theorem xor32 (x y : UInt32) : IntKind.u32.wrap ((BitVec.ofInt IntKind.u32.bits (x.toNat : Int) ^^^ BitVec.ofInt IntKind.u32.bits (y.toNat : Int)).toNat : Int) = ((x ^^^ y).toNat : Int) := by
  have e : (BitVec.ofNat 32 x.toNat ^^^ BitVec.ofNat 32 y.toNat).toNat = (x ^^^ y).toNat := by
    rw [BitVec.toNat_xor, BitVec.toNat_ofNat, BitVec.toNat_ofNat, Nat.mod_eq_of_lt x.toNat_lt, Nat.mod_eq_of_lt y.toNat_lt, UInt32.toNat_xor]
  rw [bofI, bofI]
  show IntKind.u32.wrap (((BitVec.ofNat 32 x.toNat ^^^ BitVec.ofNat 32 y.toNat).toNat : Nat) : Int) = _
  have h := (x ^^^ y).toNat_lt
  rw [e, wrap_u32 (by omega) (by omega)]
theorem and64 (x y : UInt64) : IntKind.u64.wrap ((BitVec.ofInt IntKind.u64.bits (x.toNat : Int) &&& BitVec.ofInt IntKind.u64.bits (y.toNat : Int)).toNat : Int) = ((x &&& y).toNat : Int) := by
  have e : (BitVec.ofNat 64 x.toNat &&& BitVec.ofNat 64 y.toNat).toNat = (x &&& y).toNat := by
    rw [BitVec.toNat_and, BitVec.toNat_ofNat, BitVec.toNat_ofNat, Nat.mod_eq_of_lt x.toNat_lt, Nat.mod_eq_of_lt y.toNat_lt, UInt64.toNat_and]
  rw [bofI, bofI]
  show IntKind.u64.wrap (((BitVec.ofNat 64 x.toNat &&& BitVec.ofNat 64 y.toNat).toNat : Nat) : Int) = _
  have h := (x &&& y).toNat_lt
  rw [e, wrap_u64 (by omega) (by omega)]
theorem or64 (x y : UInt64) : IntKind.u64.wrap ((BitVec.ofInt IntKind.u64.bits (x.toNat : Int) ||| BitVec.ofInt IntKind.u64.bits (y.toNat : Int)).toNat : Int) = ((x ||| y).toNat : Int) := by
  have e : (BitVec.ofNat 64 x.toNat ||| BitVec.ofNat 64 y.toNat).toNat = (x ||| y).toNat := by
    rw [BitVec.toNat_or, BitVec.toNat_ofNat, BitVec.toNat_ofNat, Nat.mod_eq_of_lt x.toNat_lt, Nat.mod_eq_of_lt y.toNat_lt, UInt64.toNat_or]
  rw [bofI, bofI]
  show IntKind.u64.wrap (((BitVec.ofNat 64 x.toNat ||| BitVec.ofNat 64 y.toNat).toNat : Nat) : Int) = _
  have h := (x ||| y).toNat_lt
  rw [e, wrap_u64 (by omega) (by omega)]
theorem xor64 (x y : UInt64) : IntKind.u64.wrap ((BitVec.ofInt IntKind.u64.bits (x.toNat : Int) ^^^ BitVec.ofInt IntKind.u64.bits (y.toNat : Int)).toNat : Int) = ((x ^^^ y).toNat : Int) := by
  have e : (BitVec.ofNat 64 x.toNat ^^^ BitVec.ofNat 64 y.toNat).toNat = (x ^^^ y).toNat := by
    rw [BitVec.toNat_xor, BitVec.toNat_ofNat, BitVec.toNat_ofNat, Nat.mod_eq_of_lt x.toNat_lt, Nat.mod_eq_of_lt y.toNat_lt, UInt64.toNat_xor]
  rw [bofI, bofI]
  show IntKind.u64.wrap (((BitVec.ofNat 64 x.toNat ^^^ BitVec.ofNat 64 y.toNat).toNat : Nat) : Int) = _
  have h := (x ^^^ y).toNat_lt
  rw [e, wrap_u64 (by omega) (by omega)]
/-- A shift to the right of an unsigned number. -/
theorem shrN (a q m : Nat) : ((a : Int)).fdiv (2 ^ (min q m)) = ((a / 2 ^ min q m : Nat) : Int) := by
  rw [Int.fdiv_eq_ediv_of_nonneg _ (by exact_mod_cast Nat.zero_le _)]
  push_cast
  rfl
theorem lt_div {a b m : Nat} (h : a < m) : a / b < m := Nat.lt_of_le_of_lt (Nat.div_le_self _ _) h
def shr64 (x : UInt64) (q : Int) : UInt64 := UInt64.ofNat (x.toNat / 2 ^ min q.toNat 64)
def shr32 (x : UInt32) (q : Int) : UInt32 := UInt32.ofNat (x.toNat / 2 ^ min q.toNat 32)
def shr8 (x : UInt8) (q : Int) : UInt8 := UInt8.ofNat (x.toNat / 2 ^ min q.toNat 8)
theorem shr64_eq (x : UInt64) (q : Int) : ((x.toNat : Int)).fdiv (2 ^ (min q.toNat IntKind.u64.bits)) = ((shr64 x q).toNat : Int) := by
  have h1 : ((x.toNat : Int)).fdiv (2 ^ (min q.toNat 64)) = ((x.toNat / 2 ^ min q.toNat 64 : Nat) : Int) := by
    exact shrN x.toNat q.toNat 64
  have h2 := lt_div (b := 2 ^ min q.toNat 64) x.toNat_lt
  show ((x.toNat : Int)).fdiv (2 ^ (min q.toNat 64)) = _
  rw [h1]; unfold shr64; rw [UInt64.toNat_ofNat', Nat.mod_eq_of_lt h2]
theorem shr32_eq (x : UInt32) (q : Int) : ((x.toNat : Int)).fdiv (2 ^ (min q.toNat IntKind.u32.bits)) = ((shr32 x q).toNat : Int) := by
  have h1 : ((x.toNat : Int)).fdiv (2 ^ (min q.toNat 32)) = ((x.toNat / 2 ^ min q.toNat 32 : Nat) : Int) := by
    exact shrN x.toNat q.toNat 32
  have h2 := lt_div (b := 2 ^ min q.toNat 32) x.toNat_lt
  show ((x.toNat : Int)).fdiv (2 ^ (min q.toNat 32)) = _
  rw [h1]; unfold shr32; rw [UInt32.toNat_ofNat', Nat.mod_eq_of_lt h2]
theorem shr8_eq (x : UInt8) (q : Int) : ((x.toNat : Int)).fdiv (2 ^ (min q.toNat IntKind.u8.bits)) = ((shr8 x q).toNat : Int) := by
  have h1 : ((x.toNat : Int)).fdiv (2 ^ (min q.toNat 8)) = ((x.toNat / 2 ^ min q.toNat 8 : Nat) : Int) := by
    exact shrN x.toNat q.toNat 8
  have h2 := lt_div (b := 2 ^ min q.toNat 8) x.toNat_lt
  show ((x.toNat : Int)).fdiv (2 ^ (min q.toNat 8)) = _
  rw [h1]; unfold shr8; rw [UInt8.toNat_ofNat', Nat.mod_eq_of_lt h2]

/-! cells of a struct -/
theorem RC.acons {s : St} {cs : List Value} {d : D} {ds : List D} (h : RC s cs (.agg (d :: ds))) : ∃ c1 c2, cs = c1 ++ c2 ∧ RC s c1 d ∧ RC s c2 (.agg ds) := by
  generalize e : D.agg (d :: ds) = dd at h
  cases h with
  | agg css ds' hl h =>
    cases e
    cases css with
    | nil => simp at hl
    | cons c r =>
      refine ⟨c, r.flatten, by simp, ?_, RC.agg r ds (by simpa using hl) (fun i h1 h2 => ?_)⟩
      · have := h 0 (by simp) (by simp); simpa using this
      · have := h (i + 1) (by simpa using h1) (by simpa using h2); simpa using this
  | _ => cases e
theorem RC.anil {s : St} {cs : List Value} (h : RC s cs (.agg [])) : cs = [] := by
  generalize e : D.agg [] = dd at h
  cases h with
  | agg css ds' hl h =>
    cases e
    cases css with
    | nil => rfl
    | cons c r => simp at hl
  | _ => cases e
theorem RC.mkn {s : St} : RC s [] (.agg []) := RC.agg [] [] rfl (fun i h1 _ => by simp at h1)
theorem RC.mkc {s : St} {c1 c2 : List Value} {d : D} {ds : List D} (h1 : RC s c1 d) (h2 : RC s c2 (.agg ds)) : RC s (c1 ++ c2) (.agg (d :: ds)) := by
  generalize e : D.agg ds = dd at h2
  cases h2 with
  | agg css ds' hl h =>
    cases e
    have := RC.agg (s := s) (c1 :: css) (d :: ds) (by simp [hl]) (fun i h3 h4 => by
      cases i with
      | zero => exact h1
      | succ i => exact h i (by simpa using h3) (by simpa using h4))
    simpa using this
  | _ => cases e

/-- The cells that a value takes. -/
def CellsOf (v : Value) (vs : List Value) : Prop := v.cells.toList = vs ∧ vs.all Value.oneCell' = true
theorem CellsOf.lit {v : Value} {vs : List Value} (h1 : v.cells.toList = vs) (h2 : vs.all Value.oneCell' = true) : CellsOf v vs := ⟨h1, h2⟩
theorem CellsOf.sl {s : St} {l : Lab} {v : Value} {w : Nat} {ds : List D} (h : SL s l v w ds) : CellsOf v [v] := ⟨h.cells1, by simp [h.one1]⟩
theorem CellsOf.rc {s : St} {cs : List Value} {d : D} (h : RC s cs d) : CellsOf (.agg cs.toArray) cs := ⟨rfl, List.all_eq_true.2 h.one_cells⟩

theorem SL.fix {s : St} {l : Lab} {v : Value} {w : Nat} {ds : List D} (h : SL s l v w ds) : ∃ l' : Lab, l'.o ≤ s.n ∧ (∀ k, l.o ≠ k → k ≠ 0 → l'.o ≠ k) ∧ SL s l' v w ds := by
  rcases h with h | ⟨b, off, cap, cs, e, hb, hg, r⟩
  · exact ⟨L0, Nat.zero_le _, fun k _ hk => fun h => hk h.symm, .inl h⟩
  · refine ⟨l, ?_, fun k h _ => h, .inr ⟨b, off, cap, cs, e, hb, hg, r⟩⟩
    have := s.wf b; rw [hg] at this; omega
/-- One of two. -/
abbrev KU (K1 K2 : Lab → Prop) : Lab → Prop := fun l => K1 l ∨ K2 l
theorem Step.comp {K K' : Lab → Prop} {a b c : St} (h : Step K a b) (h' : Step K' b c) (hk : ∀ l : Lab, l.o ≤ a.n → K' l → K l) : Step K a c :=
  h.trans h' (fun i hi hl => hk _ (Nat.le_trans (a.wf i) hi) hl)
/-- A slice of one's own that was answered: its label is told anew where it is nil. -/
theorem Own.anew {s : St} {n : Nat} {l : Lab} {e : TypeId} {w : Nat} {v : Value} {ds : List D} (c : Nat) (h : Own s l e w v ds) (hn : n < l.o ∧ l.c = 0) (hs : n ≤ s.n) :
    ∃ l' : Lab, ((l'.o = s.n + 1 ∧ l'.c = c) ∨ (n < l'.o ∧ l'.o ≤ s.n ∧ l'.c = 0)) ∧ Own s l' e w v ds := by
  obtain ⟨h0, h1, xs, ho, hg, hr⟩ := h
  rcases ho.2 with ⟨hv, hz⟩ | ⟨g, cap, cur, hv, r⟩
  · subst hv
    have hd : ds = [] := List.eq_nil_of_length_eq_zero hz
    subst hd
    exact ⟨⟨s.n + 1, c⟩, .inl ⟨rfl, rfl⟩, Own.nil (by simp) (Nat.le_refl _)⟩
  · refine ⟨l, .inr ⟨hn.1, ?_, hn.2⟩, h0, h1, xs, ho, hg, hr⟩
    have hlt := (ho.lt g (by rw [hv]; rfl)).2
    have hl := hg g (by rw [hv]; rfl)
    have hw := s.wf g
    have : s.n = s.w.heap.size := rfl
    rw [hl] at hw
    omega
/-- The same owner, the part nought. -/
theorem Own.zero {s : St} {l : Lab} {e : TypeId} {w : Nat} {v : Value} {ds : List D} (h : Own s l e w v ds) : ∃ s', s'.w = s.w ∧ Step (KC l.o l.c) s s' ∧ Own s' ⟨l.o, 0⟩ e w v ds := by
  classical
  obtain ⟨h0, h1, xs, ho, hg, hr⟩ := h
  let s' : St := ⟨s.w, fun b => if v.ownBlock = some b then ⟨l.o, 0⟩ else s.g b, fun b => by
    by_cases hb : v.ownBlock = some b
    · have := s.wf b; rw [hg b hb] at this; simp [hb]; exact this
    · simp [hb]; exact s.wf b⟩
  have hst : Step (KC l.o l.c) s s' := ⟨rfl, rfl, rfl, Nat.le_refl _, fun b hb hk => ⟨rfl, by
    by_cases hvb : v.ownBlock = some b
    · exact absurd ⟨by rw [hg b hvb], by rw [hg b hvb]⟩ hk
    · simp [s', hvb]⟩, fun c hc => h0 hc.1.symm⟩
  exact ⟨s', rfl, hst, h0, h1, xs, ho, fun g hgb => by simp [s', hgb], hr.up hst⟩
theorem Own.le1 {s : St} {l : Lab} {e : TypeId} {w : Nat} {v : Value} {ds : List D} (h : Own s l e w v ds) : l.o ≠ 0 ∧ l.o ≤ s.n + 1 := ⟨h.1, h.2.1⟩
theorem Own.le_ne {s : St} {l : Lab} {e : TypeId} {w : Nat} {v : Value} {ds : List D} (h : Own s l e w v ds) (hne : ds ≠ []) : l.o ≤ s.n := by
  rcases h.sl with ⟨h1, _⟩ | ⟨b, off, cap, cs, e, hb, hg, _⟩
  · exact absurd h1 hne
  · have := s.wf b; rw [hg] at this; omega

section
variable {P : Program} {n : Nat} {Df : Md} {ops : Array Oper} {Q : Post} {rest : List Oper} {ρ : Env} {s : St} {w0 : World}
variable {d : Nat} {ty : TypeId} {pos : String} {aft : Array Edge} {x y : Operand} {tx tyy : TypeId}

theorem k_store_c {b i m : Nat} {l : Lab} {cs vs cs' : List Value} {T : TypeId} {v : Value} (hT : sizeT P tx m = true) (hx : ev ρ x = some (.pointer (some ⟨b, i, none⟩))) (hy : ev ρ y = some v) (hb : Blk s b l cs T) (hl0 : l.o ≠ 0)
    (hc : CellsOf v vs) (hm : Nat.beq vs.length m = true) (hi : Nat.ble (i + m) cs.length = true) (e : cs.take i ++ vs ++ cs.drop (i + m) = cs')
    (hK : ∀ s', Step (KC l.o l.c) s s' → Blk s' b l cs' T → KL P n Df ops Q rest ρ s'.w) :
    KL P n Df ops Q (⟨none, .store tx x y, ty, pos, aft, none⟩ :: rest) ρ s.w := by
  obtain ⟨h1, h2⟩ := hc
  have hm' : vs.length = m := Nat.eq_of_beq_eq_true hm
  refine k_store_blk hT hx hy hb hl0 (by rw [← Array.length_toList, h1, hm']) (by rw [h1]; exact h2) hi ?_
  rw [h1, e]
  exact hK
theorem k_load_sub {b i m : Nat} {l : Lab} {cs cs' : List Value} {T : TypeId} (hT : aggT P tx m = true) (hx : ev ρ x = some (.pointer (some ⟨b, i, none⟩))) (hb : Blk s b l cs T) (hc : (cs.drop i).take m = cs') (hm : Nat.beq cs'.length m = true) (hd : Nat.blt d n = true)
    (hK : KL P n Df ops Q rest ((d, .agg cs'.toArray) :: ρ) s.w) : KL P n Df ops Q (⟨some d, .load tx x, ty, pos, aft, none⟩ :: rest) ρ s.w := by
  have hm' : cs'.length = m := Nat.eq_of_beq_eq_true hm
  refine .val rfl rfl hd (v := .agg cs'.toArray) (fun η ha => ?_) hK
  have hv : ∀ j, j < cs'.length → s.w.cell? ⟨b, i + j, none⟩ = cs'[j]? := by
    intro j hj
    rw [hb.cell, ← hc, List.getElem?_take, if_pos (by omega), List.getElem?_drop]
  simp [execOp, ha.ev hx, Instr.loadAt, Instr.sureAddr, run_loadVar_agg (by rw [hm']; exact hT) hv]

theorem k_makeI {t e w bytes : Nat} {z : Value} {dz : D} {k k' : IntKind} {p : Int} (hT : elemT P t e w bytes z) (hx : ev ρ x = some (.int k p)) (hy : ev ρ y = some (.int k' p)) (h0 : 0 ≤ p) (hz : RC s z.cells.toList dz) (hw : dz.wd = w)
    (hb : bytes * p ≤ 281474976710656) (hc : p ≤ 9223372036854775807) (hd : Nat.blt d n = true)
    (hK : ∀ s' v b, Step K0 s s' → s.n ≤ b → Own s' ⟨b + 1, 0⟩ e w v (List.replicate p.toNat dz) → KL P n Df ops Q rest ((d, v) :: ρ) s'.w) :
    KL P n Df ops Q (⟨some d, .makeSlice t x y, ty, pos, aft, none⟩ :: rest) ρ s.w := by
  obtain ⟨c, rfl⟩ := Int.eq_ofNat_of_zero_le h0
  rw [Int.toNat_natCast] at hK
  exact k_make hT hx hy hz hw (by have h : ((bytes * c : Nat) : Int) ≤ 281474976710656 := by rw [Int.natCast_mul]; exact hb
                                  omega) (by omega) hd hK
theorem CutAt.len {dflt i : Nat} (h : i = dflt) : CutAt ρ dflt Option.none i := h
theorem k_again {l : List Oper} (t : Nat) {v : Value} (hl : look ρ t = some v) (h : KL P n Df ops Q l ((t, v) :: ρ) w0) : KL P n Df ops Q l ρ w0 := by
  intro a ha
  refine h a ⟨ha.size, fun u z e => ?_, ha.defers⟩
  simp only [look] at e
  by_cases q : t = u
  · subst q; simp at e; subst e; exact ha.get t v hl
  · have e' : Nat.beq t u = false := by rw [← Bool.not_eq_true, Nat.beq_eq]; exact q
    rw [e'] at e; exact ha.get u z e
/-- An operation that is not wanted, for its guard was not done. -/
theorem k_nou {dst : Option Tmp} {op : Op} {ty : TypeId} {pos : String} {aft : Array Edge} {j d : Nat} {b : Bool} {t : Nat}
    (hj : (ops[j]?).bind (·.dst) = some d) (hv : look ρ d = some undef) (hd : dst = some t) (hdn : Nat.blt t n = true)
    (h : KL P n Df ops Q rest ((t, undef) :: ρ) w0) : KL P n Df ops Q (⟨dst, op, ty, pos, aft, some (j, b)⟩ :: rest) ρ w0 := by
  intro a ha
  have hy : yielded ops a.tmps j = none := by
    have h1 := ha.get d _ hv
    unfold yielded
    rw [hj]
    rw [Array.getD_eq_getD_getElem?] at h1
    simp only [Option.bind_some]
    cases hq : a.tmps[d]? with
    | none => rfl
    | some q => rw [hq] at h1; simp at h1; simp [h1, undef]
  unfold wpListIn
  have e2 : Region.wanted ⟨dst, op, ty, pos, aft, some (j, b)⟩ (yielded ops a.tmps) = false := by simp [Region.wanted, hy]
  rw [if_neg (by rw [e2]; simp)]
  subst hd
  exact ⟨fun _ _ => trivial, h _ (ha.put hdn _)⟩
/-! ways of one region that meet again -/
theorem upon_map {r : Option Nat} {Q1 Q2 : Exit → Act → World → Prop} {o : Oper} {a : Act} {w : World} {K K' : Act → World → Prop} (hk : ∀ a w, K a w → K' a w) (hq1 : ∀ ch a' w', ¬ Q1 (.panic ch) a' w') (hq2 : ¬ LetsOut Q1) (h : o.wpIn (fnc r) 0 P a w K Q1) : o.wpIn (fnc r) 0 P a w K' Q2 := by
  unfold Oper.wpIn at *
  refine ⟨h.1, ?_⟩
  have h := h.2
  generalize (o.semAt (fnc r).round a.eval).run P w = r at *
  cases r with
  | ok nx w' =>
    cases nx with
    | value v => exact hk _ _ h
    | skip => exact hk _ _ h
    | defer dd => exact hk _ _ h
    | enter f args =>
      simp only [Oper.uponIn] at h ⊢
      exact ⟨h.1, CallsIn.mono h.2 (fun e w'' he => by
        cases e with
        | returned v => exact hk _ _ he
        | panicked ch => exact absurd he (hq1 _ _ _)
        | outgrown => exact absurd he hq2)⟩
    | row row args =>
      simp only [Oper.uponIn] at h ⊢
      exact ⟨h.1, RowsIn.mono h.2 (fun v w'' he => hk _ _ he)⟩
    | round l f tmps assign body =>
      simp only [Oper.uponIn] at h ⊢
      exact ⟨h.1, RoundIn.mono h.2 (fun e w'' he => by
        cases e with
        | returned v => exact hk _ _ he
        | panicked ch => exact absurd he (hq1 _ _ _)
        | outgrown => exact absurd he hq2)⟩
    | _ => exact h.elim
  | halt x w' =>
    cases x <;> simp only [Oper.uponIn] at h ⊢ <;> first | exact absurd h (hq1 _ _ _) | exact h
theorem wpList_cat {rr : Option Nat} {Q1 Q2 : Exit → Act → World → Prop} (hq1 : ∀ ch a' w', ¬ Q1 (.panic ch) a' w') (hq2 : ¬ LetsOut Q1) {l2 : List Oper} (hq : ∀ a w, Q1 .normal a w → wpListIn (fnc rr) 0 P ops Q2 l2 a w) : ∀ (l1 : List Oper) (a : Act) (w : World), wpListIn (fnc rr) 0 P ops Q1 l1 a w → wpListIn (fnc rr) 0 P ops Q2 (l1 ++ l2) a w
  | [], a, w, h => hq a w h
  | o :: r, a, w, h => by
    simp only [List.cons_append, wpListIn] at h ⊢
    by_cases hw : Region.wanted o (yielded ops a.tmps) = true
    · rw [if_pos hw] at h ⊢
      exact upon_map (fun a w hh => wpList_cat hq1 hq2 hq r a w hh) hq1 hq2 h
    · rw [if_neg hw] at h ⊢
      exact ⟨h.1, wpList_cat hq1 hq2 hq r _ _ h.2⟩
theorem k_cutl {X : Type} {l : List Oper} (m : Nat) (ρc : Env) (ρv : X → Env) (inv : X → World → Prop)
    (h1 : KL P n Df ops (fun e ρ' w' => e = .normal ∧ ∃ x, Sub ρ' (ρv x) ∧ Sub ρ' ρc ∧ inv x w') (l.take m) ρ w0)
    (h2 : ∀ x w, inv x w → KL P n Df ops Q (l.drop m) (ρv x ++ ρc) w) : KL P n Df ops Q l ρ w0 := by
  intro a ha
  have h := h1 a ha
  rw [← List.take_append_drop m l]
  refine wpList_cat ?_ ?_ ?_ _ _ _ h
  · rintro ch a' w' ⟨ρ', _, e, _⟩; cases e
  · rintro ⟨a', w', ρ', _, e, _⟩; cases e
  · rintro a' w' ⟨ρ', hag, _, x, q1, q2, q3⟩
    exact h2 x w' q3 a' (hag.sub2 q1 q2)
theorem k_met {φ : Env → World → Prop} (h : φ ρ w0) : KL P n Df ops (fun e ρ' w' => e = .normal ∧ φ ρ' w') [] ρ w0 := fun a ha => ⟨ρ, ha, rfl, h⟩
end
end Go.Fw

set_option linter.unusedSimpArgs false
set_option linter.unusedVariables false
namespace Go.Fw

theorem RCs.drop {s : St} {w : Nat} {xs : List Value} {ds : List D} (h : RCs s w xs ds) (k : Nat) : RCs s w (xs.drop (k * w)) (ds.drop k) := by
  refine ⟨by rw [List.length_drop, List.length_drop, h.1, Nat.sub_mul], fun i hi => ?_⟩
  have hi' : k + i < ds.length := by rw [List.length_drop] at hi; omega
  have h2 := h.2 (k + i) hi'
  rw [List.getElem_drop, List.drop_drop, ← Nat.add_mul]
  exact h2
theorem RCs.take {s : St} {w : Nat} {xs : List Value} {ds : List D} (h : RCs s w xs ds) (k : Nat) : RCs s w (xs.take (k * w)) (ds.take k) := by
  refine ⟨by rw [List.length_take, List.length_take, h.1]; rcases Nat.le_total k ds.length with hh | hh <;> simp [Nat.min_eq_left, Nat.min_eq_right, hh, Nat.mul_le_mul_right], fun i hi => ?_⟩
  have hi' : i < k ∧ i < ds.length := by rw [List.length_take] at hi; omega
  have h2 := h.2 i hi'.2
  rw [List.getElem_take]
  have e : ((xs.take (k * w)).drop (i * w)).take w = (xs.drop (i * w)).take w := by
    have hm : i * w + w ≤ k * w := by
      calc i * w + w = (i + 1) * w := by rw [Nat.add_mul, Nat.one_mul]
        _ ≤ k * w := Nat.mul_le_mul_right _ hi'.1
    rw [List.drop_take, List.take_take]
    congr 1
    omega
  rw [e]
  exact h2

/-- Elements written over the beginning of a slice of one's own, one cell each. -/
theorem Own.put1 {s : St} {l : Lab} {e : TypeId} {v : Value} {ds : List D} (h : Own s l e 1 v ds) {g len cap : Nat} (hv : v = .slice (some ⟨g, 0, none⟩) len cap) {xs : List Value} {es : List D} (hr : RCs s 1 xs es) (hle : es.length ≤ ds.length) (hpos : 0 < ds.length) :
    Step (KC l.o l.c) s (s.re (s.w.setCells g 0 xs)) ∧ Own (s.re (s.w.setCells g 0 xs)) l e 1 v (es ++ ds.drop es.length) := by
  have h0 := h.1
  have hl1 := h.2.1
  obtain ⟨cur, hgg, hgl, hsz, hlc, hcm, hrr, hlen⟩ := h.heap hv hpos
  have hcl : cur.toList.length = cap := by rw [Array.length_toList, hsz, Nat.mul_one]
  have hxl : xs.length = es.length := by rw [hr.1, Nat.mul_one]
  obtain ⟨r1, r2, r3, r4⟩ := setCells_rest g xs 0 s.w
  have hset := heap_setCells g xs 0 s.w cur.toList e (0, 0) (by simpa using hgg) (by rw [hcl]; omega)
  have st : Step (KC l.o l.c) s (s.re (s.w.setCells g 0 xs)) := by
    refine ⟨r1, r2, r3, Nat.le_of_eq r4.symm, fun b' hb' hk => ⟨heap_setCells_ne g b' ?_ xs _ s.w, rfl⟩, fun c hc => h0 hc.1.symm⟩
    rintro rfl
    exact hk (by rw [hgl]; exact ⟨rfl, rfl⟩)
  have hdl : (es ++ ds.drop es.length).length = ds.length := by rw [List.length_append, List.length_drop]; omega
  refine ⟨st, h0, by show l.o ≤ (s.w.setCells _ _ _).heap.size + 1; rw [r4]; exact hl1, _, ⟨?_, .inr ⟨g, cap, _, ?_, Nat.zero_le _, hset, by rw [hdl]; exact hlc, hcm, ?_, rfl⟩⟩, ?_, ?_⟩
  · rw [hdl]
    simp only [List.length_take, List.toList_toArray, List.length_append, List.length_drop, Array.length_toList, hsz]
    omega
  · rw [hv, hlen, hdl]
  · simp only [List.size_toArray, List.length_take, List.length_append, List.length_drop, Array.length_toList, hsz]
    omega
  · intro g' hg'
    rw [hv] at hg'
    simp [Value.ownBlock] at hg'
    subst hg'
    exact hgl
  · have h3 := (hr.append (hrr.drop es.length)).up st
    have e2 : xs ++ (cur.toList.take (ds.length * 1)).drop (es.length * 1) = (cur.toList.take 0 ++ xs ++ cur.toList.drop (0 + xs.length)).take ((es ++ ds.drop es.length).length * 1) := by
      rw [hdl, Nat.mul_one, Nat.mul_one, List.take_zero, List.nil_append, Nat.zero_add, List.take_append, List.take_of_length_le (show xs.length ≤ ds.length by omega), hxl, List.drop_take]
    rw [e2] at h3
    simpa using h3

section
variable {P : Program} {n : Nat} {Df : Md} {ops : Array Oper} {Q : Post} {rest : List Oper} {ρ : Env} {s : St} {w0 : World}
variable {d : Nat} {ty : TypeId} {pos : String} {aft : Array Edge} {x y : Operand} {tx tyy : TypeId}

theorem run_copy1 {l lx : Lab} {dT sT e bytes : Nat} {z v vy : Value} {ds es : List D} (hT : elemT P dT e 1 bytes z) (h : Own s l e 1 v ds) (hs : SL s lx vy 1 es) :
    ∃ s', Step (KC l.o l.c) s s' ∧ Own s' l e 1 v (es.take ds.length ++ ds.drop es.length) ∧ (Builtin.copy_ #[dT, sT] ty #[v, vy]).run P s.w = .ok (goInt ((min es.length ds.length : Nat) : Int)) s'.w := by
  obtain ⟨i, h1, h2, h3, h4, h5, h6, h7⟩ := hT
  have hsz : (P.info? e).map (·.size) = some 1 := by rw [h2]; simp [h4]
  obtain ⟨a, cap, hv, hz⟩ := h.sl.val
  obtain ⟨a2, cap2, hvy, hz2⟩ := hs.val
  by_cases h0 : min es.length ds.length = 0
  · have hrun := run_copy_none (P := P) s.w dT sT ty e a a2 ds.length cap es.length cap2 h1 hsz h0
    refine ⟨s, (Step.refl s).of0 (fun c hc => h.1 hc.1.symm), ?_, ?_⟩
    · have e1 : es.take ds.length ++ ds.drop es.length = ds := by
        by_cases he : es.length = 0
        · have : es = [] := List.eq_nil_of_length_eq_zero he
          subst this; simp
        · have hd : ds = [] := List.eq_nil_of_length_eq_zero (by omega)
          subst hd; simp
      rw [e1]; exact h
    · rw [hv, hvy, hrun, h0]; rfl
  · rcases hs.cells with ⟨he, _⟩ | ⟨b, off, cap3, xs, hvy', hr, hc⟩
    · subst he; simp at h0
    · obtain ⟨g, hag⟩ : ∃ g, a = some ⟨g, 0, none⟩ := by
        obtain ⟨_, _, ys, ho, _, _⟩ := h
        rcases ho.2 with ⟨hn, hz'⟩ | ⟨g, cp, cur, hv', _⟩
        · omega
        · rw [hv] at hv'; injection hv' with e1 e2 e3; exact ⟨g, e1⟩
      subst hag
      obtain ⟨cur, hgg, hgl, hcs, hlc, hcm, hrr, hlen⟩ := h.heap hv (by omega)
      have hxl : xs.length = es.length := by rw [hr.1, Nat.mul_one]
      have hput := h.put1 hv (hr.take ds.length) (by rw [List.length_take]; omega) (by omega)
      rw [Nat.mul_one] at hput
      have hl1 : (xs.take ds.length).length = min es.length ds.length := by rw [List.length_take, hxl, Nat.min_comm]
      have hrun := run_copy_cells (P := P) s.w dT sT ty e g 0 ds.length cap ⟨b, off, none⟩ es.length cap3 (xs.take ds.length) h1 hsz hl1
        (fun j u hu => by
          rw [List.getElem?_take] at hu
          split at hu
          · exact hc j u hu
          · cases hu)
        (fun j hj => by simp [World.cell?, hgg]; omega) (fun j hj => by simp [World.frozen?, hgg])
        (fun u hu => by
          have := hr.one_cells u (List.mem_of_mem_take hu)
          exact this)
      refine ⟨_, hput.1, ?_, ?_⟩
      · have e1 : (es.take ds.length).length = min ds.length es.length := List.length_take
        have h9 := hput.2
        have e2 : ds.drop (es.take ds.length).length = ds.drop es.length := by
          rw [e1]
          rcases Nat.le_total ds.length es.length with hh | hh
          · rw [Nat.min_eq_left hh, List.drop_eq_nil_of_le (Nat.le_refl _), List.drop_eq_nil_of_le hh]
          · rw [Nat.min_eq_right hh]
        rw [e2] at h9
        exact h9
      · rw [hv, hvy', hrun, hl1]
        rfl

theorem k_copy {l lx : Lab} {dT sT e bytes : Nat} {z v vy : Value} {ds es : List D} (hT : elemT P dT e 1 bytes z) (hx : ev ρ x = some v) (hy : ev ρ y = some vy) (h : Own s l e 1 v ds) (hs : SL s lx vy 1 es) (hd : Nat.blt d n = true)
    (hK : ∀ s', Step (KC l.o l.c) s s' → Own s' l e 1 v (es.take ds.length ++ ds.drop es.length) → KL P n Df ops Q rest ((d, .int .i64 ((min es.length ds.length : Nat) : Int)) :: ρ) s'.w) :
    KL P n Df ops Q (⟨some d, .call { callee := .builtin .copy, args := [x, y].toArray, argTypes := [dT, sT].toArray }, ty, pos, aft, none⟩ :: rest) ρ s.w := by
  obtain ⟨s', st, ho, hrun⟩ := run_copy1 (P := P) (ty := ty) (dT := dT) (sT := sT) hT h hs
  refine .val rfl rfl hd (v := .int .i64 ((min es.length ds.length : Nat) : Int)) (w' := s'.w) (fun η ha => ?_) (hK s' st ho)
  simp [execOp, resolve, invoke, builtin, ha.ev hx, ha.ev hy, hrun, goInt]
theorem k_copyn {l lx : Lab} {dT sT e bytes : Nat} {z v vy : Value} {ds es : List D} (hT : elemT P dT e 1 bytes z) (hx : ev ρ x = some v) (hy : ev ρ y = some vy) (h : Own s l e 1 v ds) (hs : SL s lx vy 1 es)
    (hK : ∀ s', Step (KC l.o l.c) s s' → Own s' l e 1 v (es.take ds.length ++ ds.drop es.length) → KL P n Df ops Q rest ρ s'.w) :
    KL P n Df ops Q (⟨none, .call { callee := .builtin .copy, args := [x, y].toArray, argTypes := [dT, sT].toArray }, ty, pos, aft, none⟩ :: rest) ρ s.w := by
  obtain ⟨s', st, ho, hrun⟩ := run_copy1 (P := P) (ty := ty) (dT := dT) (sT := sT) hT h hs
  refine .effv rfl rfl (v := .int .i64 ((min es.length ds.length : Nat) : Int)) (w' := s'.w) (fun η ha => ?_) (hK s' st ho)
  simp [execOp, resolve, invoke, builtin, ha.ev hx, ha.ev hy, hrun, goInt]
def cpy {α : Type} (l m : List α) : List α := m.take l.length ++ l.drop m.length
theorem cpy_map {α : Type} (f : α → D) (l m : List α) : (cpy l m).map f = (m.map f).take (l.map f).length ++ (l.map f).drop (m.map f).length := by
  unfold cpy; simp [List.map_take, List.map_drop]
end
end Go.Fw
namespace Go.Fw
section
variable {P : Program} {n : Nat} {Df : Md} {ops : Array Oper} {Q : Post} {rest : List Oper} {ρ : Env} {s : St} {w0 : World}
variable {d : Nat} {ty : TypeId} {pos : String} {aft : Array Edge} {x y : Operand} {tx tyy : TypeId}
theorem nilt_dec {α : Type} {s : St} {f : α → D} {v : Value} {w : Nat} {l : List α} [Decidable (l = [])] (h : R s v (.sl w (l.map f))) (hn : l = [] → v = .slice none 0 0) : ∃ a c, v = .slice a l.length c ∧ a.isNone = decide (l = []) := by
  obtain ⟨a, c, e, hz⟩ := (SL.of_R h).val
  rw [List.length_map] at e hz
  refine ⟨a, c, e, ?_⟩
  by_cases hl : l = []
  · have e2 := hn hl
    rw [e] at e2; injection e2 with e3 _ _
    subst e3; simp [hl]
  · cases a with
    | none => exact absurd (List.eq_nil_of_length_eq_zero (hz rfl).1) hl
    | some a => simp [hl]
theorem k_eql_nilt {α : Type} {f : α → D} {v : Value} {w : Nat} {l : List α} [Decidable (l = [])] {e : TypeId} (hT : P.underlying tx = some (.slice e)) (hx : ev ρ x = some v) (h : R s v (.sl w (l.map f))) (hn : l = [] → v = .slice none 0 0) (hy : ev ρ y = some (.slice none 0 0)) (hd : Nat.blt d n = true)
    (hK : KL P n Df ops Q rest ((d, .bool (decide (l = []))) :: ρ) w0) : KL P n Df ops Q (⟨some d, .binOp .eql tx x y tyy, ty, pos, aft, none⟩ :: rest) ρ w0 := by
  obtain ⟨a, c, rfl, e⟩ := nilt_dec h hn
  refine k_eql_snil hT hx hy hd ?_
  rw [e]; exact hK
theorem k_neq_nilt {α : Type} {f : α → D} {v : Value} {w : Nat} {l : List α} [Decidable (l = [])] {e : TypeId} (hT : P.underlying tx = some (.slice e)) (hx : ev ρ x = some v) (h : R s v (.sl w (l.map f))) (hn : l = [] → v = .slice none 0 0) (hy : ev ρ y = some (.slice none 0 0)) (hd : Nat.blt d n = true)
    (hK : KL P n Df ops Q rest ((d, .bool (decide (l ≠ []))) :: ρ) w0) : KL P n Df ops Q (⟨some d, .binOp .neq tx x y tyy, ty, pos, aft, none⟩ :: rest) ρ w0 := by
  obtain ⟨a, c, rfl, e⟩ := nilt_dec h hn
  refine k_neq_snil hT hx hy hd ?_
  rw [e]
  have : (!decide (l = [])) = decide (l ≠ []) := by by_cases h : l = [] <;> simp [h]
  rw [this]; exact hK
end
end Go.Fw

set_option linter.unusedSimpArgs false
set_option linter.unusedVariables false
namespace Go.Fw
/-! results that lie in memory -/
def resOK (P : Program) (ρ : Env) (w : World) : ResultVar → Value → Prop
  | .tmp t, v => look ρ t = some v
  | .cell t ty, v => ∃ a, look ρ t = some (.pointer (some a)) ∧ (loadVar ty a).run P w = .ok v w
def resAll (P : Program) (ρ : Env) (w : World) : List ResultVar → List Value → Prop
  | [], [] => True
  | r :: rs, v :: vs => resOK P ρ w r v ∧ resAll P ρ w rs vs
  | _, _ => False
def RetFc (P : Program) (rs : List ResultVar) (T : Ending → World → Prop) : Post
  | .normal, ρ, w => ∃ vs, resAll P ρ w rs vs ∧ T (.returned (one vs)) w
  | .ret, ρ, w => ∃ vs, resAll P ρ w rs vs ∧ T (.returned (one vs)) w
  | _, _, _ => False
def resDo (tmps : Array Value) : ResultVar → Sem Value
  | .tmp t => pure (tmps.getD t undef)
  | .cell a t => do loadVar t (← asAddr (tmps.getD a undef))
theorem resDo_run {P : Program} {n : Nat} {Df : Md} {ρ : Env} {a : Act} {w : World} (h : Ag n Df ρ a) {r : ResultVar} {v : Value} (hr : resOK P ρ w r v) : (resDo a.tmps r).run P w = .ok v w := by
  cases r with
  | tmp t =>
    have := h.get t v hr
    simp only [resDo, this]; rfl
  | cell t ty =>
    obtain ⟨ad, h1, h2⟩ := hr
    have := h.get t _ h1
    simp only [resDo, this, asAddr, Sem.run_bind]
    simpa [Result.andThen] using h2
theorem results_c {P : Program} {n : Nat} {Df : Md} {ρ : Env} {a : Act} {w : World} {fn : Func} {rs : List ResultVar} {vs : List Value} (h : Ag n Df ρ a) (hr : fn.results = rs.toArray) (hl : Nat.ble rs.length 4 = true) (hv : resAll P ρ w rs vs) :
    (results fn a.tmps).run P w = .ok (one vs) w := by
  have e : results fn a.tmps = (do
      let vs ← rs.toArray.mapM (resDo a.tmps)
      pure (if h : vs.size = 1 then vs[0] else .tuple vs)) := by
    unfold results
    rw [hr]
    congr 1
  rw [e]
  match rs, vs, hl, hv with
  | [], [], _, _ => simp [one]
  | [r], [v], _, ⟨h1, _⟩ => simp [resDo_run h h1, one]
  | [r, r2], [v, v2], _, ⟨h1, h2, _⟩ => simp [resDo_run h h1, resDo_run h h2, one]
  | [r, r2, r3], [v, v2, v3], _, ⟨h1, h2, h3, _⟩ => simp [resDo_run h h1, resDo_run h h2, resDo_run h h3, one]
  | [r, r2, r3, r4], [v, v2, v3, v4], _, ⟨h1, h2, h3, h4, _⟩ => simp [resDo_run h h1, resDo_run h h2, resDo_run h h3, resDo_run h h4, one]
  | _ :: _ :: _ :: _ :: _ :: _, _, h, _ => simp at h
theorem k_fn_c {P : Program} {w : World} {f : FuncId} {fn : Func} {c : Code} {args : List Value} {rs : List ResultVar} {T : Ending → World → Prop} (hf : P.funcs[f]? = some fn) (hb : fn.body = some c)
    (hr : fn.results = rs.toArray) (hl : Nat.ble rs.length 4 = true) (hn : Nat.ble args.length fn.ntmps = true)
    (h : G P fn.ntmps M0 (RetFc P rs T) [.code c] (start 0 args) w) : Calls P f args.toArray w T := by
  refine in_calls (callsIn_of_wp (F := fnc none) hf hb trivial (wpIn_mono (h _ ?_) ?_))
  · have hn' : args.length ≤ fn.ntmps := by simpa using hn
    refine ⟨by simp; omega, ?_, rfl⟩
    intro t v e
    obtain ⟨_, h2⟩ := start_look args 0 t v e
    have h3 : t < args.length := (List.getElem?_eq_some_iff.1 h2).1
    simp only [Nat.sub_zero] at h2
    rw [List.getElem?_eq_getElem h3] at h2
    simpa [Array.getD_eq_getD_getElem?, Array.getElem?_append, h3] using h2
  · rintro e a' w' ⟨ρ', hag, hq⟩
    cases e with
    | normal =>
      obtain ⟨vs, h1, h2⟩ := hq
      exact ⟨hag.defers, one vs, results_c hag hr hl h1, h2⟩
    | ret =>
      obtain ⟨vs, h1, h2⟩ := hq
      exact ⟨hag.defers, one vs, results_c hag hr hl h1, h2⟩
    | exit i => exact hq.elim
    | goto l => exact hq.elim
    | panic ch => exact hq.elim
    | outgrown => exact hq.elim
theorem res_blk {P : Program} {s : St} {ρ : Env} {t ty b : Nat} {l : Lab} {cs : List Value} {T : TypeId} (hx : look ρ t = some (.pointer (some ⟨b, 0, none⟩))) (hT : aggT P ty cs.length = true) (hb : Blk s b l cs T) : resOK P ρ s.w (.cell t ty) (.agg cs.toArray) :=
  ⟨_, hx, run_loadVar_agg hT (fun j hj => by rw [hb.cell, Nat.zero_add])⟩
theorem res_blk1 {P : Program} {s : St} {ρ : Env} {t ty b : Nat} {l : Lab} {v : Value} {T : TypeId} (hx : look ρ t = some (.pointer (some ⟨b, 0, none⟩))) (hT : oneT P ty = true) (hb : Blk s b l [v] T) : resOK P ρ s.w (.cell t ty) v :=
  ⟨_, hx, run_loadVar_one hT (by rw [hb.cell]; rfl)⟩

theorem getElem_geti {α : Type} {l : List α} {i : Int} {x : α} (h : geti l i = some x) {hi : i.toNat < l.length} : l[i.toNat]'hi = x := (List.getElem?_eq_some_iff.1 (geti_out h).2.2).2
/-! a part of an element of a slice of one's own -/
def EltO (w : Nat) (v : Value) (i o : Nat) (p : Value) : Prop := ∃ g len cap, v = .slice (some ⟨g, 0, none⟩) len cap ∧ p = .pointer (some ⟨g, i * w + o, none⟩)
theorem Elt.toO {w : Nat} {v : Value} {i : Nat} {p : Value} (h : Elt w v i p) : EltO w v i 0 p := h
section
variable {P : Program} {n : Nat} {Df : Md} {ops : Array Oper} {Q : Post} {rest : List Oper} {ρ : Env} {s : St} {w0 : World}
variable {d : Nat} {ty : TypeId} {pos : String} {aft : Array Edge} {x y : Operand} {tx tyy : TypeId}
theorem k_field_own {t : TypeId} {f : Nat} {l : Lab} {p v : Value} {w i o fo : Nat} {ds : List D} {dd : D} (hx : ev ρ x = some p) (he : EltO w v i o p) (h : At s l p (.agg ds)) (hf : ds[f]? = some dd) (hw : D.wd.wdL (ds.take f) = fo) (hF : fieldT P t f = some fo) (hd : Nat.blt d n = true)
    (hK : ∀ q, At s l q dd → EltO w v i (o + fo) q → KL P n Df ops Q rest ((d, q) :: ρ) s.w) :
    KL P n Df ops Q (⟨some d, .fieldAddr t x f, ty, pos, aft, none⟩ :: rest) ρ s.w := by
  subst hw
  obtain ⟨g, len, cap, hv, rfl⟩ := he
  obtain ⟨b, j, e, h'⟩ := h.field hf
  injection e with e; injection e with e; injection e with e1 e2
  subst e1 e2
  exact k_field_addr hF hx hd (hK _ h' ⟨g, len, cap, hv, by rw [Nat.add_assoc]⟩)
theorem k_store_part {l : Lab} {e w i o m : Nat} {v q u : Value} {vs : List Value} {ds : List D} {dd : D} (hT : sizeT P tx m = true) (hx : ev ρ x = some q) (hy : ev ρ y = some u) (h : Own s l e w v ds) (he : EltO w v i o q) (hi : i < ds.length) (hc : CellsOf u vs) (hm : Nat.beq vs.length m = true) (ho : Nat.ble (o + m) w = true)
    (hd : ∀ cs : List Value, cs.length = w → RC s cs ds[i] → RC s (cs.take o ++ vs ++ cs.drop (o + m)) dd)
    (hK : ∀ s', Step (KC l.o l.c) s s' → Own s' l e w v (ds.set i dd) → KL P n Df ops Q rest ρ s'.w) :
    KL P n Df ops Q (⟨none, .store tx x y, ty, pos, aft, none⟩ :: rest) ρ s.w := by
  obtain ⟨g, len, cap, hv, rfl⟩ := he
  have hm' : vs.length = m := Nat.eq_of_beq_eq_true hm
  have ho' : o + m ≤ w := by simpa using ho
  obtain ⟨cur, hgg, hgl, hsz, hlc, hcm, hr, hlen⟩ := h.heap hv (by omega)
  have hwi : i * w + w ≤ cap * w := by
    calc i * w + w = (i + 1) * w := by rw [Nat.add_mul, Nat.one_mul]
      _ ≤ cap * w := Nat.mul_le_mul_right _ (by omega)
  have hst := run_storeCells_cells (P := P) g (i * w + o) vs 0 s.w (fun j hj => by
      simp [World.cell?, hgg]; omega) (fun j hj => by simp [World.frozen?, hgg]) (List.all_eq_true.1 hc.2)
  simp only [Nat.add_zero] at hst
  have hs := h.store (o := o) hv hi (vs := vs) (dd := dd) (by omega) (fun cs hcs hrc => by rw [hm']; exact hd cs hcs hrc)
  refine .eff rfl rfl (fun η ha => ?_) (hK _ hs.1 hs.2)
  have hsz' : u.cells.size = m := by rw [← Array.length_toList, hc.1, hm']
  simp [execOp, ha.ev hx, ha.ev hy, Instr.storeAt, Instr.sureAddr, storeVar, run_sizeOf hT, hsz', hc.1, hst]
  rfl
end
end Go.Fw
