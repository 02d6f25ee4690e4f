import Derived.Test.YtepifllifhikiaaDoorFwR
set_option linter.unusedSimpArgs false
set_option linter.unusedVariables false
namespace Go.Fw

/-! progress of what is computed -/
theorem ob {α β : Type} {o : Option α} {f : α → Option β} {r : β} (h : o.bind f = some r) : ∃ x, o = some x ∧ f x = some r := Option.bind_eq_some_iff.1 h
theorem itT {β : Type} {p : Prop} [Decidable p] {a b : Option β} {r : β} (h : (if p then a else b) = some r) (c : p) : a = some r := by rw [if_pos c] at h; exact h
theorem itF {β : Type} {p : Prop} [Decidable p] {a b : Option β} {r : β} (h : (if p then a else b) = some r) (c : ¬ p) : b = some r := by rw [if_neg c] at h; exact h
theorem ibT {β : Type} {c : Bool} {a b : Option β} {r : β} (h : (if c = true then a else b) = some r) (e : c = true) : a = some r := itT h e
theorem ibF {β : Type} {c : Bool} {a b : Option β} {r : β} (h : (if c = true then a else b) = some r) (e : c = false) : b = some r := itF h (by rw [e]; decide)
theorem noneNe {β : Type} {r : β} (h : (none : Option β) = some r) : False := by cases h

/-- More rounds than any loop takes. -/
def fuG (n : Nat) : Nat := if n = 0 then 1 else 2 * fuG (n - 1)
  termination_by n
  decreasing_by omega
def FU : Nat := fuG 70
theorem FU_ge : 1180591620717411303424 ≤ FU := by simp [FU, fuG]

def geti {α : Type} (l : List α) (i : Int) : Option α := if 0 ≤ i then l[i.toNat]? else none
def subl {α : Type} (l : List α) (a b : Int) : Option (List α) := if 0 ≤ a ∧ a ≤ b ∧ b ≤ l.length then some ((l.drop a.toNat).take (b.toNat - a.toNat)) else none
def app {α : Type} (lim : Nat) (l m : List α) : Option (List α) := if l.length + m.length ≤ lim then some (l ++ m) else none
def makel {α : Type} (lim : Nat) (z : α) (c : Int) : Option (List α) := if 0 ≤ c ∧ c ≤ lim then some (List.replicate c.toNat z) else none
def ofI8 (p : Int) : UInt8 := UInt8.ofNat (p % 256).toNat
def ofI32 (p : Int) : UInt32 := UInt32.ofNat (p % 4294967296).toNat
def ofI64 (p : Int) : UInt64 := UInt64.ofNat (p % 18446744073709551616).toNat
def i64 (p : Int) : Int := IntKind.i64.wrap p
def i32 (p : Int) : Int := IntKind.i32.wrap p

theorem geti_out {α : Type} {l : List α} {i : Int} {x : α} (h : geti l i = some x) : 0 ≤ i ∧ i < l.length ∧ l[i.toNat]? = some x := by
  unfold geti at h
  split at h
  · rename_i h0
    have := (List.getElem?_eq_some_iff.1 h).1
    exact ⟨h0, by omega, h⟩
  · cases h
theorem geti_map {α : Type} {l : List α} {f : α → D} {i : Int} {x : α} (h : geti l i = some x) : (l.map f)[i.toNat]? = some (f x) := by
  rw [List.getElem?_map, (geti_out h).2.2]; rfl
theorem subl_out {α : Type} {l m : List α} {a b : Int} (h : subl l a b = some m) : 0 ≤ a ∧ a ≤ b ∧ b ≤ l.length ∧ m = (l.drop a.toNat).take (b.toNat - a.toNat) := by
  unfold subl at h
  split at h
  · rename_i h0; cases h; exact ⟨h0.1, h0.2.1, h0.2.2, rfl⟩
  · cases h
theorem app_out {α : Type} {lim : Nat} {l m r : List α} (h : app lim l m = some r) : l.length + m.length ≤ lim ∧ r = l ++ m := by
  unfold app at h
  split at h
  · rename_i h0; cases h; exact ⟨h0, rfl⟩
  · cases h
theorem makel_out {α : Type} {lim : Nat} {z : α} {c : Int} {r : List α} (h : makel lim z c = some r) : 0 ≤ c ∧ c ≤ lim ∧ r = List.replicate c.toNat z := by
  unfold makel at h
  split at h
  · rename_i h0; cases h; exact ⟨h0.1, h0.2, rfl⟩
  · cases h

theorem geti_getD {l : List UInt8} {i : Int} {x : UInt8} (h : geti l i = some x) : l.getD i.toNat 0 = x := by
  rw [List.getD_eq_getElem?_getD, (geti_out h).2.2]; rfl
theorem subl_ij {α : Type} {l m : List α} {a b : Int} (h : subl l a b = some m) : a.toNat ≤ b.toNat := by have := subl_out h; omega
theorem subl_j {α : Type} {l m : List α} {a b : Int} (h : subl l a b = some m) : b.toNat ≤ l.length := by have := subl_out h; omega
/-- What is done behind a place where ways meet. -/
def jn {α β : Type} (f : α) (g : α → β) : β := g f
theorem jn_out {α β : Type} {f : α} {g : α → Option β} {r : β} (h : jn f g = some r) : ∃ k, k = f ∧ g k = some r := ⟨f, rfl, h⟩
/-- Nothing, or something. -/
def oc {α β : Type} (o : Option α) (a : β) (f : α → β) : β := match o with | none => a | some x => f x
theorem oc_out {α β : Type} {o : Option α} {a : Option β} {f : α → Option β} {r : β} (h : oc o a f = some r) : (o = none ∧ a = some r) ∨ ∃ x, o = some x ∧ f x = some r := by
  cases o with
  | none => exact .inl ⟨rfl, h⟩
  | some x => exact .inr ⟨x, rfl, h⟩
abbrev dI64 (x : Int) : D := .val (.int .i64 x)
abbrev dI32 (x : Int) : D := .val (.int .i32 x)
abbrev dU32 (x : UInt32) : D := .val (.int .u32 (x.toNat : Int))
abbrev dU64 (x : UInt64) : D := .val (.int .u64 (x.toNat : Int))
abbrev dB (x : Bool) : D := .val (.bool x)
abbrev dS (x : List UInt8) : D := .val (S x)
abbrev dL {α : Type} (w : Nat) (f : α → D) (l : List α) : D := .sl w (l.map f)
abbrev dA {α : Type} (f : α → D) (l : List α) : D := .agg (l.map f)

/-! numbers of a size -/
theorem tmod_nn {p q : Int} (h : 0 ≤ p) : 0 ≤ p.tmod q ∧ p.tmod q ≤ p := by
  refine ⟨Int.tmod_nonneg _ h, ?_⟩
  obtain ⟨a, rfl⟩ := Int.eq_ofNat_of_zero_le h
  obtain ⟨b, rfl | rfl⟩ := Int.eq_nat_or_neg q
  · rw [← Int.ofNat_tmod]; exact Int.ofNat_le.2 (Nat.mod_le _ _)
  · rw [Int.tmod_neg, ← Int.ofNat_tmod]; exact Int.ofNat_le.2 (Nat.mod_le _ _)
theorem w8 (p : Int) : IntKind.u8.wrap p = ((ofI8 p).toNat : Int) := by
  rw [wrap_u8_mod]; unfold ofI8; rw [UInt8.toNat_ofNat']; omega
theorem w32 (p : Int) : IntKind.u32.wrap p = ((ofI32 p).toNat : Int) := by
  rw [wrap_u32_mod]; unfold ofI32; rw [UInt32.toNat_ofNat']; omega
theorem w64 (p : Int) : IntKind.u64.wrap p = ((ofI64 p).toNat : Int) := by
  rw [wrap_u64_mod]; unfold ofI64; rw [UInt64.toNat_ofNat']; omega
theorem i64_eq {p : Int} (h0 : -9223372036854775808 ≤ p) (h1 : p ≤ 9223372036854775807) : i64 p = p := wrap_i64 h0 h1
theorem i64_b8 (x : UInt8) : IntKind.i64.wrap (x.toNat : Int) = (x.toNat : Int) := wrap_i64 (by omega) (by have := x.toNat_lt; omega)
theorem i64_b32 (x : UInt32) : IntKind.i64.wrap (x.toNat : Int) = (x.toNat : Int) := wrap_i64 (by omega) (by have := x.toNat_lt; omega)
theorem ofI8_toNat (x : UInt8) : ofI8 (x.toNat : Int) = x := by
  have := x.toNat_lt
  apply UInt8.toNat_inj.1; unfold ofI8; rw [UInt8.toNat_ofNat']; omega
theorem ofI32_toNat (x : UInt32) : ofI32 (x.toNat : Int) = x := by
  have := x.toNat_lt
  apply UInt32.toNat_inj.1; unfold ofI32; rw [UInt32.toNat_ofNat']; omega
theorem ofI64_toNat (x : UInt64) : ofI64 (x.toNat : Int) = x := by
  have := x.toNat_lt
  apply UInt64.toNat_inj.1; unfold ofI64; rw [UInt64.toNat_ofNat']; omega
theorem ofI8_nat {p : Int} (h0 : 0 ≤ p) (h1 : p < 256) : ((ofI8 p).toNat : Int) = p := by unfold ofI8; rw [UInt8.toNat_ofNat']; omega
theorem ofI32_nat {p : Int} (h0 : 0 ≤ p) (h1 : p < 4294967296) : ((ofI32 p).toNat : Int) = p := by unfold ofI32; rw [UInt32.toNat_ofNat']; omega
theorem ofI64_nat {p : Int} (h0 : 0 ≤ p) (h1 : p < 18446744073709551616) : ((ofI64 p).toNat : Int) = p := by unfold ofI64; rw [UInt64.toNat_ofNat']; omega

theorem rem8 (x : UInt8) (q : Int) : ((x.toNat : Int)).tmod q = ((ofI8 ((x.toNat : Int).tmod q)).toNat : Int) := by
  have h := tmod_nn (p := (x.toNat : Int)) (q := q) (by omega)
  have := x.toNat_lt
  exact (ofI8_nat h.1 (by omega)).symm
theorem rem32 (x : UInt32) (q : Int) : ((x.toNat : Int)).tmod q = ((ofI32 ((x.toNat : Int).tmod q)).toNat : Int) := by
  have h := tmod_nn (p := (x.toNat : Int)) (q := q) (by omega)
  have := x.toNat_lt
  exact (ofI32_nat h.1 (by omega)).symm
theorem rem64 (x : UInt64) (q : Int) : ((x.toNat : Int)).tmod q = ((ofI64 ((x.toNat : Int).tmod q)).toNat : Int) := by
  have h := tmod_nn (p := (x.toNat : Int)) (q := q) (by omega)
  have := x.toNat_lt
  exact (ofI64_nat h.1 (by omega)).symm
theorem bofI {m : Nat} (a : Nat) : BitVec.ofInt m (a : Int) = BitVec.ofNat m a := BitVec.ofInt_natCast _ _
theorem and8 (x y : UInt8) : IntKind.u8.wrap ((BitVec.ofInt IntKind.u8.bits (x.toNat : Int) &&& BitVec.ofInt IntKind.u8.bits (y.toNat : Int)).toNat : Int) = ((x &&& y).toNat : Int) := by
  have e : (BitVec.ofNat 8 x.toNat &&& BitVec.ofNat 8 y.toNat).toNat = (x &&& y).toNat := by
    rw [BitVec.toNat_and, BitVec.toNat_ofNat, BitVec.toNat_ofNat, Nat.mod_eq_of_lt x.toNat_lt, Nat.mod_eq_of_lt y.toNat_lt, UInt8.toNat_and]
  rw [bofI, bofI]
  show IntKind.u8.wrap (((BitVec.ofNat 8 x.toNat &&& BitVec.ofNat 8 y.toNat).toNat : Nat) : Int) = _
  have h := (x &&& y).toNat_lt
  rw [e, wrap_u8 (by omega) (by omega)]
theorem or8 (x y : UInt8) : IntKind.u8.wrap ((BitVec.ofInt IntKind.u8.bits (x.toNat : Int) ||| BitVec.ofInt IntKind.u8.bits (y.toNat : Int)).toNat : Int) = ((x ||| y).toNat : Int) := by
  have e : (BitVec.ofNat 8 x.toNat ||| BitVec.ofNat 8 y.toNat).toNat = (x ||| y).toNat := by
    rw [BitVec.toNat_or, BitVec.toNat_ofNat, BitVec.toNat_ofNat, Nat.mod_eq_of_lt x.toNat_lt, Nat.mod_eq_of_lt y.toNat_lt, UInt8.toNat_or]
  rw [bofI, bofI]
  show IntKind.u8.wrap (((BitVec.ofNat 8 x.toNat ||| BitVec.ofNat 8 y.toNat).toNat : Nat) : Int) = _
  have h := (x ||| y).toNat_lt
  rw [e, wrap_u8 (by omega) (by omega)]
theorem xor8 (x y : UInt8) : IntKind.u8.wrap ((BitVec.ofInt IntKind.u8.bits (x.toNat : Int) ^^^ BitVec.ofInt IntKind.u8.bits (y.toNat : Int)).toNat : Int) = ((x ^^^ y).toNat : Int) := by
  have e : (BitVec.ofNat 8 x.toNat ^^^ BitVec.ofNat 8 y.toNat).toNat = (x ^^^ y).toNat := by
    rw [BitVec.toNat_xor, BitVec.toNat_ofNat, BitVec.toNat_ofNat, Nat.mod_eq_of_lt x.toNat_lt, Nat.mod_eq_of_lt y.toNat_lt, UInt8.toNat_xor]
  rw [bofI, bofI]
  show IntKind.u8.wrap (((BitVec.ofNat 8 x.toNat ^^^ BitVec.ofNat 8 y.toNat).toNat : Nat) : Int) = _
  have h := (x ^^^ y).toNat_lt
  rw [e, wrap_u8 (by omega) (by omega)]
theorem and32 (x y : UInt32) : IntKind.u32.wrap ((BitVec.ofInt IntKind.u32.bits (x.toNat : Int) &&& BitVec.ofInt IntKind.u32.bits (y.toNat : Int)).toNat : Int) = ((x &&& y).toNat : Int) := by
  have e : (BitVec.ofNat 32 x.toNat &&& BitVec.ofNat 32 y.toNat).toNat = (x &&& y).toNat := by
    rw [BitVec.toNat_and, BitVec.toNat_ofNat, BitVec.toNat_ofNat, Nat.mod_eq_of_lt x.toNat_lt, Nat.mod_eq_of_lt y.toNat_lt, UInt32.toNat_and]
  rw [bofI, bofI]
  show IntKind.u32.wrap (((BitVec.ofNat 32 x.toNat &&& BitVec.ofNat 32 y.toNat).toNat : Nat) : Int) = _
  have h := (x &&& y).toNat_lt
  rw [e, wrap_u32 (by omega) (by omega)]
theorem or32 (x y : UInt32) : IntKind.u32.wrap ((BitVec.ofInt IntKind.u32.bits (x.toNat : Int) ||| BitVec.ofInt IntKind.u32.bits (y.toNat : Int)).toNat : Int) = ((x ||| y).toNat : Int) := by
  have e : (BitVec.ofNat 32 x.toNat ||| BitVec.ofNat 32 y.toNat).toNat = (x ||| y).toNat := by
    rw [BitVec.toNat_or, BitVec.toNat_ofNat, BitVec.toNat_ofNat, Nat.mod_eq_of_lt x.toNat_lt, Nat.mod_eq_of_lt y.toNat_lt, UInt32.toNat_or]
  rw [bofI, bofI]
  show IntKind.u32.wrap (((BitVec.ofNat 32 x.toNat ||| BitVec.ofNat 32 y.toNat).toNat : Nat) : Int) = _
  have h := (x ||| y).toNat_lt
  rw [e, wrap_u32 (by omega) (by omega)]
theorem xor32 (x y : UInt32) : IntKind.u32.wrap ((BitVec.ofInt IntKind.u32.bits (x.toNat : Int) ^^^ BitVec.ofInt IntKind.u32.bits (y.toNat : Int)).toNat : Int) = ((x ^^^ y).toNat : Int) := by
  have e : (BitVec.ofNat 32 x.toNat ^^^ BitVec.ofNat 32 y.toNat).toNat = (x ^^^ y).toNat := by
    rw [BitVec.toNat_xor, BitVec.toNat_ofNat, BitVec.toNat_ofNat, Nat.mod_eq_of_lt x.toNat_lt, Nat.mod_eq_of_lt y.toNat_lt, UInt32.toNat_xor]
  rw [bofI, bofI]
  show IntKind.u32.wrap (((BitVec.ofNat 32 x.toNat ^^^ BitVec.ofNat 32 y.toNat).toNat : Nat) : Int) = _
  have h := (x ^^^ y).toNat_lt
  rw [e, wrap_u32 (by omega) (by omega)]
theorem and64 (x y : UInt64) : IntKind.u64.wrap ((BitVec.ofInt IntKind.u64.bits (x.toNat : Int) &&& BitVec.ofInt IntKind.u64.bits (y.toNat : Int)).toNat : Int) = ((x &&& y).toNat : Int) := by
  have e : (BitVec.ofNat 64 x.toNat &&& BitVec.ofNat 64 y.toNat).toNat = (x &&& y).toNat := by
    rw [BitVec.toNat_and, BitVec.toNat_ofNat, BitVec.toNat_ofNat, Nat.mod_eq_of_lt x.toNat_lt, Nat.mod_eq_of_lt y.toNat_lt, UInt64.toNat_and]
  rw [bofI, bofI]
  show IntKind.u64.wrap (((BitVec.ofNat 64 x.toNat &&& BitVec.ofNat 64 y.toNat).toNat : Nat) : Int) = _
  have h := (x &&& y).toNat_lt
  rw [e, wrap_u64 (by omega) (by omega)]
theorem or64 (x y : UInt64) : IntKind.u64.wrap ((BitVec.ofInt IntKind.u64.bits (x.toNat : Int) ||| BitVec.ofInt IntKind.u64.bits (y.toNat : Int)).toNat : Int) = ((x ||| y).toNat : Int) := by
  have e : (BitVec.ofNat 64 x.toNat ||| BitVec.ofNat 64 y.toNat).toNat = (x ||| y).toNat := by
    rw [BitVec.toNat_or, BitVec.toNat_ofNat, BitVec.toNat_ofNat, Nat.mod_eq_of_lt x.toNat_lt, Nat.mod_eq_of_lt y.toNat_lt, UInt64.toNat_or]
  rw [bofI, bofI]
  show IntKind.u64.wrap (((BitVec.ofNat 64 x.toNat ||| BitVec.ofNat 64 y.toNat).toNat : Nat) : Int) = _
  have h := (x ||| y).toNat_lt
  rw [e, wrap_u64 (by omega) (by omega)]
theorem xor64 (x y : UInt64) : IntKind.u64.wrap ((BitVec.ofInt IntKind.u64.bits (x.toNat : Int) ^^^ BitVec.ofInt IntKind.u64.bits (y.toNat : Int)).toNat : Int) = ((x ^^^ y).toNat : Int) := by
  have e : (BitVec.ofNat 64 x.toNat ^^^ BitVec.ofNat 64 y.toNat).toNat = (x ^^^ y).toNat := by
    rw [BitVec.toNat_xor, BitVec.toNat_ofNat, BitVec.toNat_ofNat, Nat.mod_eq_of_lt x.toNat_lt, Nat.mod_eq_of_lt y.toNat_lt, UInt64.toNat_xor]
  rw [bofI, bofI]
  show IntKind.u64.wrap (((BitVec.ofNat 64 x.toNat ^^^ BitVec.ofNat 64 y.toNat).toNat : Nat) : Int) = _
  have h := (x ^^^ y).toNat_lt
  rw [e, wrap_u64 (by omega) (by omega)]
/-- A shift to the right of an unsigned number. -/
theorem shrN (a q m : Nat) : ((a : Int)).fdiv (2 ^ (min q m)) = ((a / 2 ^ min q m : Nat) : Int) := by
  rw [Int.fdiv_eq_ediv_of_nonneg _ (by exact_mod_cast Nat.zero_le _)]
  push_cast
  rfl
theorem lt_div {a b m : Nat} (h : a < m) : a / b < m := Nat.lt_of_le_of_lt (Nat.div_le_self _ _) h
def shr64 (x : UInt64) (q : Int) : UInt64 := UInt64.ofNat (x.toNat / 2 ^ min q.toNat 64)
def shr32 (x : UInt32) (q : Int) : UInt32 := UInt32.ofNat (x.toNat / 2 ^ min q.toNat 32)
def shr8 (x : UInt8) (q : Int) : UInt8 := UInt8.ofNat (x.toNat / 2 ^ min q.toNat 8)
theorem shr64_eq (x : UInt64) (q : Int) : ((x.toNat : Int)).fdiv (2 ^ (min q.toNat IntKind.u64.bits)) = ((shr64 x q).toNat : Int) := by
  have h1 : ((x.toNat : Int)).fdiv (2 ^ (min q.toNat 64)) = ((x.toNat / 2 ^ min q.toNat 64 : Nat) : Int) := by
    exact shrN x.toNat q.toNat 64
  have h2 := lt_div (b := 2 ^ min q.toNat 64) x.toNat_lt
  show ((x.toNat : Int)).fdiv (2 ^ (min q.toNat 64)) = _
  rw [h1]; unfold shr64; rw [UInt64.toNat_ofNat', Nat.mod_eq_of_lt h2]
theorem shr32_eq (x : UInt32) (q : Int) : ((x.toNat : Int)).fdiv (2 ^ (min q.toNat IntKind.u32.bits)) = ((shr32 x q).toNat : Int) := by
  have h1 : ((x.toNat : Int)).fdiv (2 ^ (min q.toNat 32)) = ((x.toNat / 2 ^ min q.toNat 32 : Nat) : Int) := by
    exact shrN x.toNat q.toNat 32
  have h2 := lt_div (b := 2 ^ min q.toNat 32) x.toNat_lt
  show ((x.toNat : Int)).fdiv (2 ^ (min q.toNat 32)) = _
  rw [h1]; unfold shr32; rw [UInt32.toNat_ofNat', Nat.mod_eq_of_lt h2]
theorem shr8_eq (x : UInt8) (q : Int) : ((x.toNat : Int)).fdiv (2 ^ (min q.toNat IntKind.u8.bits)) = ((shr8 x q).toNat : Int) := by
  have h1 : ((x.toNat : Int)).fdiv (2 ^ (min q.toNat 8)) = ((x.toNat / 2 ^ min q.toNat 8 : Nat) : Int) := by
    exact shrN x.toNat q.toNat 8
  have h2 := lt_div (b := 2 ^ min q.toNat 8) x.toNat_lt
  show ((x.toNat : Int)).fdiv (2 ^ (min q.toNat 8)) = _
  rw [h1]; unfold shr8; rw [UInt8.toNat_ofNat', Nat.mod_eq_of_lt h2]

/-! cells of a struct -/
theorem RC.acons {s : St} {cs : List Value} {d : D} {ds : List D} (h : RC s cs (.agg (d :: ds))) : ∃ c1 c2, cs = c1 ++ c2 ∧ RC s c1 d ∧ RC s c2 (.agg ds) := by
  generalize e : D.agg (d :: ds) = dd at h
  cases h with
  | agg css ds' hl h =>
    cases e
    cases css with
    | nil => simp at hl
    | cons c r =>
      refine ⟨c, r.flatten, by simp, ?_, RC.agg r ds (by simpa using hl) (fun i h1 h2 => ?_)⟩
      · have := h 0 (by simp) (by simp); simpa using this
      · have := h (i + 1) (by simpa using h1) (by simpa using h2); simpa using this
  | _ => cases e
theorem RC.anil {s : St} {cs : List Value} (h : RC s cs (.agg [])) : cs = [] := by
  generalize e : D.agg [] = dd at h
  cases h with
  | agg css ds' hl h =>
    cases e
    cases css with
    | nil => rfl
    | cons c r => simp at hl
  | _ => cases e
theorem RC.mkn {s : St} : RC s [] (.agg []) := RC.agg [] [] rfl (fun i h1 _ => by simp at h1)
theorem RC.mkc {s : St} {c1 c2 : List Value} {d : D} {ds : List D} (h1 : RC s c1 d) (h2 : RC s c2 (.agg ds)) : RC s (c1 ++ c2) (.agg (d :: ds)) := by
  generalize e : D.agg ds = dd at h2
  cases h2 with
  | agg css ds' hl h =>
    cases e
    have := RC.agg (s := s) (c1 :: css) (d :: ds) (by simp [hl]) (fun i h3 h4 => by
      cases i with
      | zero => exact h1
      | succ i => exact h i (by simpa using h3) (by simpa using h4))
    simpa using this
  | _ => cases e

/-- The cells that a value takes. -/
def CellsOf (v : Value) (vs : List Value) : Prop := v.cells.toList = vs ∧ vs.all Value.oneCell' = true
theorem CellsOf.lit {v : Value} {vs : List Value} (h1 : v.cells.toList = vs) (h2 : vs.all Value.oneCell' = true) : CellsOf v vs := ⟨h1, h2⟩
theorem CellsOf.sl {s : St} {l : Lab} {v : Value} {w : Nat} {ds : List D} (h : SL s l v w ds) : CellsOf v [v] := ⟨h.cells1, by simp [h.one1]⟩
theorem CellsOf.rc {s : St} {cs : List Value} {d : D} (h : RC s cs d) : CellsOf (.agg cs.toArray) cs := ⟨rfl, List.all_eq_true.2 h.one_cells⟩

theorem SL.fix {s : St} {l : Lab} {v : Value} {w : Nat} {ds : List D} (h : SL s l v w ds) : ∃ l' : Lab, l'.o ≤ s.n ∧ (∀ k, l.o ≠ k → k ≠ 0 → l'.o ≠ k) ∧ SL s l' v w ds := by
  rcases h with h | ⟨b, off, cap, cs, e, hb, hg, r⟩
  · exact ⟨L0, Nat.zero_le _, fun k _ hk => fun h => hk h.symm, .inl h⟩
  · refine ⟨l, ?_, fun k h _ => h, .inr ⟨b, off, cap, cs, e, hb, hg, r⟩⟩
    have := s.wf b; rw [hg] at this; omega
/-- One of two. -/
abbrev KU (K1 K2 : Lab → Prop) : Lab → Prop := fun l => K1 l ∨ K2 l
theorem Step.comp {K K' : Lab → Prop} {a b c : St} (h : Step K a b) (h' : Step K' b c) (hk : ∀ l : Lab, l.o ≤ a.n → K' l → K l) : Step K a c :=
  h.trans h' (fun i hi hl => hk _ (Nat.le_trans (a.wf i) hi) hl)
/-- A slice of one's own that was answered: its label is told anew where it is nil. -/
theorem Own.anew {s : St} {n : Nat} {l : Lab} {e : TypeId} {w : Nat} {v : Value} {ds : List D} (c : Nat) (h : Own s l e w v ds) (hn : n < l.o ∧ l.c = 0) (hs : n ≤ s.n) :
    ∃ l' : Lab, ((l'.o = s.n + 1 ∧ l'.c = c) ∨ (n < l'.o ∧ l'.o ≤ s.n ∧ l'.c = 0)) ∧ Own s l' e w v ds := by
  obtain ⟨h0, h1, xs, ho, hg, hr⟩ := h
  rcases ho.2 with ⟨hv, hz⟩ | ⟨g, cap, cur, hv, r⟩
  · subst hv
    have hd : ds = [] := List.eq_nil_of_length_eq_zero hz
    subst hd
    exact ⟨⟨s.n + 1, c⟩, .inl ⟨rfl, rfl⟩, Own.nil (by simp) (Nat.le_refl _)⟩
  · refine ⟨l, .inr ⟨hn.1, ?_, hn.2⟩, h0, h1, xs, ho, hg, hr⟩
    have hlt := (ho.lt g (by rw [hv]; rfl)).2
    have hl := hg g (by rw [hv]; rfl)
    have hw := s.wf g
    have : s.n = s.w.heap.size := rfl
    rw [hl] at hw
    omega
/-- The same owner, the part nought. -/
theorem Own.zero {s : St} {l : Lab} {e : TypeId} {w : Nat} {v : Value} {ds : List D} (h : Own s l e w v ds) : ∃ s', s'.w = s.w ∧ Step (KC l.o l.c) s s' ∧ Own s' ⟨l.o, 0⟩ e w v ds := by
  classical
  obtain ⟨h0, h1, xs, ho, hg, hr⟩ := h
  let s' : St := ⟨s.w, fun b => if v.ownBlock = some b then ⟨l.o, 0⟩ else s.g b, fun b => by
    by_cases hb : v.ownBlock = some b
    · have := s.wf b; rw [hg b hb] at this; simp [hb]; exact this
    · simp [hb]; exact s.wf b⟩
  have hst : Step (KC l.o l.c) s s' := ⟨rfl, rfl, rfl, Nat.le_refl _, fun b hb hk => ⟨rfl, by
    by_cases hvb : v.ownBlock = some b
    · exact absurd ⟨by rw [hg b hvb], by rw [hg b hvb]⟩ hk
    · simp [s', hvb]⟩, fun c hc => h0 hc.1.symm⟩
  exact ⟨s', rfl, hst, h0, h1, xs, ho, fun g hgb => by simp [s', hgb], hr.up hst⟩
theorem Own.le1 {s : St} {l : Lab} {e : TypeId} {w : Nat} {v : Value} {ds : List D} (h : Own s l e w v ds) : l.o ≠ 0 ∧ l.o ≤ s.n + 1 := ⟨h.1, h.2.1⟩
theorem Own.le_ne {s : St} {l : Lab} {e : TypeId} {w : Nat} {v : Value} {ds : List D} (h : Own s l e w v ds) (hne : ds ≠ []) : l.o ≤ s.n := by
  rcases h.sl with ⟨h1, _⟩ | ⟨b, off, cap, cs, e, hb, hg, _⟩
  · exact absurd h1 hne
  · have := s.wf b; rw [hg] at this; omega

section
variable {P : Program} {n : Nat} {Df : Md} {ops : Array Oper} {Q : Post} {rest : List Oper} {ρ : Env} {s : St} {w0 : World}
variable {d : Nat} {ty : TypeId} {pos : String} {aft : Array Edge} {x y : Operand} {tx tyy : TypeId}

theorem k_store_c {b i m : Nat} {l : Lab} {cs vs cs' : List Value} {T : TypeId} {v : Value} (hT : sizeT P tx m = true) (hx : ev ρ x = some (.pointer (some ⟨b, i, none⟩))) (hy : ev ρ y = some v) (hb : Blk s b l cs T) (hl0 : l.o ≠ 0)
    (hc : CellsOf v vs) (hm : Nat.beq vs.length m = true) (hi : Nat.ble (i + m) cs.length = true) (e : cs.take i ++ vs ++ cs.drop (i + m) = cs')
    (hK : ∀ s', Step (KC l.o l.c) s s' → Blk s' b l cs' T → KL P n Df ops Q rest ρ s'.w) :
    KL P n Df ops Q (⟨none, .store tx x y, ty, pos, aft, none⟩ :: rest) ρ s.w := by
  obtain ⟨h1, h2⟩ := hc
  have hm' : vs.length = m := Nat.eq_of_beq_eq_true hm
  refine k_store_blk hT hx hy hb hl0 (by rw [← Array.length_toList, h1, hm']) (by rw [h1]; exact h2) hi ?_
  rw [h1, e]
  exact hK
theorem k_load_sub {b i m : Nat} {l : Lab} {cs cs' : List Value} {T : TypeId} (hT : aggT P tx m = true) (hx : ev ρ x = some (.pointer (some ⟨b, i, none⟩))) (hb : Blk s b l cs T) (hc : (cs.drop i).take m = cs') (hm : Nat.beq cs'.length m = true) (hd : Nat.blt d n = true)
    (hK : KL P n Df ops Q rest ((d, .agg cs'.toArray) :: ρ) s.w) : KL P n Df ops Q (⟨some d, .load tx x, ty, pos, aft, none⟩ :: rest) ρ s.w := by
  have hm' : cs'.length = m := Nat.eq_of_beq_eq_true hm
  refine .val rfl rfl hd (v := .agg cs'.toArray) (fun η ha => ?_) hK
  have hv : ∀ j, j < cs'.length → s.w.cell? ⟨b, i + j, none⟩ = cs'[j]? := by
    intro j hj
    rw [hb.cell, ← hc, List.getElem?_take, if_pos (by omega), List.getElem?_drop]
  simp [execOp, ha.ev hx, Instr.loadAt, Instr.sureAddr, run_loadVar_agg (by rw [hm']; exact hT) hv]

theorem k_makeI {t e w bytes : Nat} {z : Value} {dz : D} {k k' : IntKind} {p : Int} (hT : elemT P t e w bytes z) (hx : ev ρ x = some (.int k p)) (hy : ev ρ y = some (.int k' p)) (h0 : 0 ≤ p) (hz : RC s z.cells.toList dz) (hw : dz.wd = w)
    (hb : bytes * p ≤ 281474976710656) (hc : p ≤ 9223372036854775807) (hd : Nat.blt d n = true)
    (hK : ∀ s' v b, Step K0 s s' → s.n ≤ b → Own s' ⟨b + 1, 0⟩ e w v (List.replicate p.toNat dz) → KL P n Df ops Q rest ((d, v) :: ρ) s'.w) :
    KL P n Df ops Q (⟨some d, .makeSlice t x y, ty, pos, aft, none⟩ :: rest) ρ s.w := by
  obtain ⟨c, rfl⟩ := Int.eq_ofNat_of_zero_le h0
  rw [Int.toNat_natCast] at hK
  exact k_make hT hx hy hz hw (by have h : ((bytes * c : Nat) : Int) ≤ 281474976710656 := by rw [Int.natCast_mul]; exact hb
                                  omega) (by omega) hd hK
theorem CutAt.len {dflt i : Nat} (h : i = dflt) : CutAt ρ dflt Option.none i := h
theorem k_again {l : List Oper} (t : Nat) {v : Value} (hl : look ρ t = some v) (h : KL P n Df ops Q l ((t, v) :: ρ) w0) : KL P n Df ops Q l ρ w0 := by
  intro a ha
  refine h a ⟨ha.size, fun u z e => ?_, ha.defers⟩
  simp only [look] at e
  by_cases q : t = u
  · subst q; simp at e; subst e; exact ha.get t v hl
  · have e' : Nat.beq t u = false := by rw [← Bool.not_eq_true, Nat.beq_eq]; exact q
    rw [e'] at e; exact ha.get u z e
/-- An operation that is not wanted, for its guard was not done. -/
theorem k_nou {dst : Option Tmp} {op : Op} {ty : TypeId} {pos : String} {aft : Array Edge} {j d : Nat} {b : Bool} {t : Nat}
    (hj : (ops[j]?).bind (·.dst) = some d) (hv : look ρ d = some undef) (hd : dst = some t) (hdn : Nat.blt t n = true)
    (h : KL P n Df ops Q rest ((t, undef) :: ρ) w0) : KL P n Df ops Q (⟨dst, op, ty, pos, aft, some (j, b)⟩ :: rest) ρ w0 := by
  intro a ha
  have hy : yielded ops a.tmps j = none := by
    have h1 := ha.get d _ hv
    unfold yielded
    rw [hj]
    rw [Array.getD_eq_getD_getElem?] at h1
    simp only [Option.bind_some]
    cases hq : a.tmps[d]? with
    | none => rfl
    | some q => rw [hq] at h1; simp at h1; simp [h1, undef]
  unfold wpListIn
  have e2 : Region.wanted ⟨dst, op, ty, pos, aft, some (j, b)⟩ (yielded ops a.tmps) = false := by simp [Region.wanted, hy]
  rw [if_neg (by rw [e2]; simp)]
  subst hd
  exact ⟨fun _ _ => trivial, h _ (ha.put hdn _)⟩
/-! ways of one region that meet again -/
theorem upon_map {r : Option Nat} {Q1 Q2 : Exit → Act → World → Prop} {o : Oper} {a : Act} {w : World} {K K' : Act → World → Prop} (hk : ∀ a w, K a w → K' a w) (hq1 : ∀ ch a' w', ¬ Q1 (.panic ch) a' w') (hq2 : ¬ LetsOut Q1) (h : o.wpIn (fnc r) 0 P a w K Q1) : o.wpIn (fnc r) 0 P a w K' Q2 := by
  unfold Oper.wpIn at *
  refine ⟨h.1, ?_⟩
  have h := h.2
  generalize (o.semAt (fnc r).round a.eval).run P w = r at *
  cases r with
  | ok nx w' =>
    cases nx with
    | value v => exact hk _ _ h
    | skip => exact hk _ _ h
    | defer dd => exact hk _ _ h
    | enter f args =>
      simp only [Oper.uponIn] at h ⊢
      exact ⟨h.1, CallsIn.mono h.2 (fun e w'' he => by
        cases e with
        | returned v => exact hk _ _ he
        | panicked ch => exact absurd he (hq1 _ _ _)
        | outgrown => exact absurd he hq2)⟩
    | row row args =>
      simp only [Oper.uponIn] at h ⊢
      exact ⟨h.1, RowsIn.mono h.2 (fun v w'' he => hk _ _ he)⟩
    | round l f tmps assign body =>
      simp only [Oper.uponIn] at h ⊢
      exact ⟨h.1, RoundIn.mono h.2 (fun e w'' he => by
        cases e with
        | returned v => exact hk _ _ he
        | panicked ch => exact absurd he (hq1 _ _ _)
        | outgrown => exact absurd he hq2)⟩
    | _ => exact h.elim
  | halt x w' =>
    cases x <;> simp only [Oper.uponIn] at h ⊢ <;> first | exact absurd h (hq1 _ _ _) | exact h
theorem wpList_cat {rr : Option Nat} {Q1 Q2 : Exit → Act → World → Prop} (hq1 : ∀ ch a' w', ¬ Q1 (.panic ch) a' w') (hq2 : ¬ LetsOut Q1) {l2 : List Oper} (hq : ∀ a w, Q1 .normal a w → wpListIn (fnc rr) 0 P ops Q2 l2 a w) : ∀ (l1 : List Oper) (a : Act) (w : World), wpListIn (fnc rr) 0 P ops Q1 l1 a w → wpListIn (fnc rr) 0 P ops Q2 (l1 ++ l2) a w
  | [], a, w, h => hq a w h
  | o :: r, a, w, h => by
    simp only [List.cons_append, wpListIn] at h ⊢
    by_cases hw : Region.wanted o (yielded ops a.tmps) = true
    · rw [if_pos hw] at h ⊢
      exact upon_map (fun a w hh => wpList_cat hq1 hq2 hq r a w hh) hq1 hq2 h
    · rw [if_neg hw] at h ⊢
      exact ⟨h.1, wpList_cat hq1 hq2 hq r _ _ h.2⟩
theorem k_cutl {X : Type} {l : List Oper} (m : Nat) (ρc : Env) (ρv : X → Env) (inv : X → World → Prop)
    (h1 : KL P n Df ops (fun e ρ' w' => e = .normal ∧ ∃ x, Sub ρ' (ρv x) ∧ Sub ρ' ρc ∧ inv x w') (l.take m) ρ w0)
    (h2 : ∀ x w, inv x w → KL P n Df ops Q (l.drop m) (ρv x ++ ρc) w) : KL P n Df ops Q l ρ w0 := by
  intro a ha
  have h := h1 a ha
  rw [← List.take_append_drop m l]
  refine wpList_cat ?_ ?_ ?_ _ _ _ h
  · rintro ch a' w' ⟨ρ', _, e, _⟩; cases e
  · rintro ⟨a', w', ρ', _, e, _⟩; cases e
  · rintro a' w' ⟨ρ', hag, _, x, q1, q2, q3⟩
    exact h2 x w' q3 a' (hag.sub2 q1 q2)
theorem k_met {φ : Env → World → Prop} (h : φ ρ w0) : KL P n Df ops (fun e ρ' w' => e = .normal ∧ φ ρ' w') [] ρ w0 := fun a ha => ⟨ρ, ha, rfl, h⟩
end
end Go.Fw
