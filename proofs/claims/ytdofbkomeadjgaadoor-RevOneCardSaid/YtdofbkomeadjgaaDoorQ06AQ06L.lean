import Derived.Test.YtdofbkomeadjgaaDoorP06D
import Derived.Lib.ParseIntBTie
import Derived.Lib.ParseIntBCases
set_option linter.unusedVariables false
set_option linter.unusedSimpArgs false
namespace Go.Proofs
open Go.Fw
set_option maxRecDepth 100000 in
theorem awake_true : law06_awake = some true := by
  decide +kernel
end Go.Proofs

set_option linter.unusedVariables false
set_option linter.unusedSimpArgs false
namespace Go.Proofs
open Go.Fw
/-! Small tools. -/
theorem i64_id {p : Int} (h0 : -9223372036854775808 ≤ p) (h1 : p ≤ 9223372036854775807) : i64 p = p := i64_eq h0 h1
theorem jn_eq' {α β : Type} (f : α) (g : α → β) : jn f g = g f := by unfold jn; exact id rfl
theorem geti_nat {α : Type} (l : List α) (k : Nat) : geti l (k : Int) = l[k]? := by
  unfold geti
  rw [if_pos (by omega)]
  simp
theorem app_ok2 {α : Type} {cap : Nat} (a b : List α) (h : a.length + b.length ≤ cap) : app cap a b = some (a ++ b) := by
  unfold app
  rw [if_pos h]
abbrev M63 : Nat := 9223372036854775807
theorem FU_M : M63 + 1000 < FU := Nat.lt_of_lt_of_le (by decide) FU_ge
theorem nxt {k n : Nat} (h : k < n) (hn : n ≤ M63) : i64 ((k : Int) + 1) = ((k + 1 : Nat) : Int) := by
  rw [i64_id (by omega) (by have : n ≤ 9223372036854775807 := hn; omega)]; rfl
/-! Chains. -/
end Go.Proofs

set_option linter.unusedVariables false
set_option linter.unusedSimpArgs false
namespace Go.Proofs
open Go.Fw
/-! Decimal numbers. -/
/-! Hexadecimal digits. -/
def HX : List UInt8 := [48, 49, 50, 51, 52, 53, 54, 55, 56, 57, 97, 98, 99, 100, 101, 102]
def hx (b : UInt8) : UInt8 := HX.getD b.toNat 0
def hex2 (b : UInt8) : List UInt8 := [hx (shr8 b 4), hx (b &&& 15)]
def comb (h l : UInt8) : UInt8 := (ofI8 ((h.toNat : Int) * 2 ^ (min (4 : Int).toNat 8))) ||| l
def hexI (c : UInt8) : Option UInt8 := if 0 ≤ Lib.indexByte HX c then some (ofI8 (Lib.indexByte HX c)) else none
def hxB (c : UInt8) : Bool := match hexI c with | some h => decide (hx h = c) && decide (h.toNat < 16) | none => true
def decP : List UInt8 → Option (List UInt8)
  | [] => some []
  | [_] => none
  | c :: d :: r => match hexI c, hexI d, decP r with
    | some h, some l, some t => some (comb h l :: t)
    | _, _, _ => none
/-! Texts. -/
def sL (x : St27) : List UInt8 := [x.e0, x.e1, x.e2, x.e3, x.e4, x.e5, x.e6, x.e7, x.e8, x.e9, x.e10, x.e11, x.e12, x.e13, x.e14, x.e15]
def rtx (r : ApiRev) : List UInt8 := decF 30 r.Gen.toNat ++ 45 :: (sL r.Sum).flatMap hex2
def mayR (r : ApiRev) : Bool := decide ((1 ≤ (r.Gen.toNat : Int)) ∧ ((r.Gen.toNat : Int) ≤ 4611686018427387903))
end Go.Proofs

set_option linter.unusedVariables false
set_option linter.unusedSimpArgs false
namespace Go.Proofs
open Go.Fw
/-! What a text is parsed as. -/
def zeroR : ApiRev := ⟨0, ⟨0, 0, 0, 0, 0, 0, 0, 0, 0, 0, 0, 0, 0, 0, 0, 0⟩⟩
def mkS (L : List UInt8) : St27 := ⟨L.getD 0 0, L.getD 1 0, L.getD 2 0, L.getD 3 0, L.getD 4 0, L.getD 5 0, L.getD 6 0, L.getD 7 0, L.getD 8 0, L.getD 9 0, L.getD 10 0, L.getD 11 0, L.getD 12 0, L.getD 13 0, L.getD 14 0, L.getD 15 0⟩
def pL (x1 : List UInt8 × List UInt8 × Bool) (kj : Bool → UInt8 → UInt8 → UInt8 → UInt8 → UInt8 → UInt8 → UInt8 → UInt8 → UInt8 → UInt8 → UInt8 → UInt8 → UInt8 → UInt8 → UInt8 → UInt8 → Option (ApiRev × Int)) (J : Nat) (i : Int) (ok : Bool) (L : List UInt8) : Option (ApiRev × Int) :=
  rev_Parse_l1 x1 kj J i ok (L.getD 0 0) (L.getD 1 0) (L.getD 2 0) (L.getD 3 0) (L.getD 4 0) (L.getD 5 0) (L.getD 6 0) (L.getD 7 0) (L.getD 8 0) (L.getD 9 0) (L.getD 10 0) (L.getD 11 0) (L.getD 12 0) (L.getD 13 0) (L.getD 14 0) (L.getD 15 0)
def kL (kj : Bool → UInt8 → UInt8 → UInt8 → UInt8 → UInt8 → UInt8 → UInt8 → UInt8 → UInt8 → UInt8 → UInt8 → UInt8 → UInt8 → UInt8 → UInt8 → UInt8 → Option (ApiRev × Int)) (ok : Bool) (L : List UInt8) : Option (ApiRev × Int) :=
  kj ok (L.getD 0 0) (L.getD 1 0) (L.getD 2 0) (L.getD 3 0) (L.getD 4 0) (L.getD 5 0) (L.getD 6 0) (L.getD 7 0) (L.getD 8 0) (L.getD 9 0) (L.getD 10 0) (L.getD 11 0) (L.getD 12 0) (L.getD 13 0) (L.getD 14 0) (L.getD 15 0)
end Go.Proofs

set_option linter.unusedVariables false
set_option linter.unusedSimpArgs false
namespace Go.Proofs
open Go.Fw
/-! RevBack. -/
theorem may_eq (r : ApiRev) : rev_May r = some (mayR r) := rfl
end Go.Proofs

set_option linter.unusedVariables false
set_option linter.unusedSimpArgs false
namespace Go.Proofs
open Go.Fw
/-! The document's text of a name. -/
/-! The document's reading of a text. -/
def isD (c : UInt8) : Prop := 48 ≤ c.toNat ∧ c.toNat ≤ 57
instance (c : UInt8) : Decidable (isD c) := by unfold isD; infer_instance
def dvl (a : Nat) (l : List UInt8) : Nat := l.foldl (fun a c => a * 10 + (c.toNat - 48)) a
end Go.Proofs

set_option linter.unusedVariables false
set_option linter.unusedSimpArgs false
namespace Go.Proofs
open Go.Fw
/-! The document's reading of a text: the second part, and RevText. -/
def hv (c : UInt8) : Option UInt8 := if (48 ≤ (c.toNat : Int)) ∧ ((c.toNat : Int) ≤ 57) then some (ofI8 ((c.toNat : Int) - 48)) else if (97 ≤ (c.toNat : Int)) ∧ ((c.toNat : Int) ≤ 102) then some (ofI8 (((ofI8 ((c.toNat : Int) - 97)).toNat : Int) + 10)) else none
abbrev KT : Type := UInt8 → UInt8 → UInt8 → UInt8 → UInt8 → UInt8 → UInt8 → UInt8 → UInt8 → UInt8 → UInt8 → UInt8 → UInt8 → UInt8 → UInt8 → UInt8 → Option (ApiRev × Bool)
def rL (s : List UInt8) (x2 : Int) (kj : KT) (J : Nat) (i : Int) (L : List UInt8) : Option (ApiRev × Bool) :=
  ref06_Parse_l2 s x2 kj J i (L.getD 0 0) (L.getD 1 0) (L.getD 2 0) (L.getD 3 0) (L.getD 4 0) (L.getD 5 0) (L.getD 6 0) (L.getD 7 0) (L.getD 8 0) (L.getD 9 0) (L.getD 10 0) (L.getD 11 0) (L.getD 12 0) (L.getD 13 0) (L.getD 14 0) (L.getD 15 0)
def krL (kj : KT) (L : List UInt8) : Option (ApiRev × Bool) :=
  kj (L.getD 0 0) (L.getD 1 0) (L.getD 2 0) (L.getD 3 0) (L.getD 4 0) (L.getD 5 0) (L.getD 6 0) (L.getD 7 0) (L.getD 8 0) (L.getD 9 0) (L.getD 10 0) (L.getD 11 0) (L.getD 12 0) (L.getD 13 0) (L.getD 14 0) (L.getD 15 0)
end Go.Proofs

set_option linter.unusedVariables false
set_option linter.unusedSimpArgs false
namespace Go.Proofs
open Go.Fw
/-! What the document reads a text as, and RevText. -/
def K2 (s : List UInt8) (g : UInt64) : KT := fun x14 x15 x16 x17 x18 x19 x20 x21 x22 x23 x24 x25 x26 x27 x28 x29 => (ref06_May (⟨g, (⟨x14, x15, x16, x17, x18, x19, x20, x21, x22, x23, x24, x25, x26, x27, x28, x29⟩ : St27)⟩ : ApiRev)).bind fun x54 => (if (!x54) = true then some true else (ref06_Print (⟨g, (⟨x14, x15, x16, x17, x18, x19, x20, x21, x22, x23, x24, x25, x26, x27, x28, x29⟩ : St27)⟩ : ApiRev)).bind fun x56 => some (decide (x56 ≠ s))).bind fun x55 => if x55 = true then some (zeroR, false) else some ((⟨g, (⟨x14, x15, x16, x17, x18, x19, x20, x21, x22, x23, x24, x25, x26, x27, x28, x29⟩ : St27)⟩ : ApiRev), true)
def K1 (s : List UInt8) : Int → UInt64 → Option (ApiRev × Bool) := fun x2 x3 => (if (s.length : Int) ≠ i64 (x2 + 33) then some true else (geti s x2).bind fun x12 => some (decide ((x12.toNat : Int) ≠ 45))).bind fun x11 => if x11 = true then some (zeroR, false) else rL s x2 (K2 s x3) FU 0 (List.replicate 16 0)
end Go.Proofs

set_option linter.unusedVariables false
set_option linter.unusedSimpArgs false
namespace Go.Proofs
open Go.Fw
/-! Small tools. -/
theorem i64_idV {p : Int} (h0 : -9223372036854775808 ≤ p) (h1 : p ≤ 9223372036854775807) : i64 p = p := i64_eq h0 h1
theorem jn_eq'V {α β : Type} (f : α) (g : α → β) : jn f g = g f := by unfold jn; exact id rfl
theorem geti_natV {α : Type} (l : List α) (k : Nat) : geti l (k : Int) = l[k]? := by
  unfold geti
  rw [if_pos (by omega)]
  simp
/-! The order of the names. -/
theorem cmp_refl : ∀ a : List UInt8, Lib.compareBytes a a = 0
  | [] => rfl
  | x :: r => by
    rw [Lib.compareBytes, if_neg (UInt8.lt_irrefl x), if_neg (UInt8.lt_irrefl x)]
    exact cmp_refl r
/-- A name ahead of another one. -/
def nlt (a b : List UInt8) : Prop := Lib.compareBytes a b < 0
instance (a b : List UInt8) : Decidable (nlt a b) := by unfold nlt; infer_instance
theorem nlt_irrefl (a : List UInt8) : ¬ nlt a a := by unfold nlt; rw [cmp_refl]; decide
theorem nlt_cons {x y : UInt8} {a b : List UInt8} : nlt (x :: a) (y :: b) ↔ x < y ∨ (x = y ∧ nlt a b) := by
  unfold nlt
  rw [Lib.compareBytes]
  by_cases h1 : x < y
  · simp [h1]
  · by_cases h2 : y < x
    · have : x ≠ y := fun e => UInt8.lt_irrefl y (by rw [e] at h2; exact h2)
      simp [h1, h2, this]
    · have e : x = y := UInt8.le_antisymm (UInt8.not_lt.1 h2) (UInt8.not_lt.1 h1)
      subst e
      simp [h1]
theorem nlt_nil (a : List UInt8) : ¬ nlt a [] := by
  unfold nlt
  cases a <;> simp [Lib.compareBytes]
theorem nil_nlt (x : UInt8) (a : List UInt8) : nlt [] (x :: a) := by
  unfold nlt; simp [Lib.compareBytes]
theorem nlt_trans : ∀ {a b c : List UInt8}, nlt a b → nlt b c → nlt a c
  | _, _, [], _, h => absurd h (nlt_nil _)
  | _, [], _ :: _, h, _ => absurd h (nlt_nil _)
  | [], _ :: _, z :: c, _, _ => nil_nlt z c
  | x :: a, y :: b, z :: c, h1, h2 => by
    rw [nlt_cons] at h1 h2 ⊢
    rcases h1 with h1 | ⟨rfl, h1⟩
    · rcases h2 with h2 | ⟨rfl, h2⟩
      · exact .inl (UInt8.lt_trans h1 h2)
      · exact .inl h1
    · rcases h2 with h2 | ⟨rfl, h2⟩
      · exact .inl h2
      · exact .inr ⟨rfl, nlt_trans h1 h2⟩
theorem nlt_asymm {a b : List UInt8} (h : nlt a b) : ¬ nlt b a := fun h2 => nlt_irrefl a (nlt_trans h h2)
theorem less_nlt : ∀ a b : List UInt8, Op.bytesLess a b = decide (nlt a b)
  | [], [] => by simp [Op.bytesLess, nlt_nil]
  | x :: a, [] => by simp [Op.bytesLess, nlt_nil]
  | [], y :: b => by simp [Op.bytesLess, nil_nlt]
  | x :: a, y :: b => by
    rw [Op.bytesLess, less_nlt a b]
    rw [show decide (nlt (x :: a) (y :: b)) = decide (x < y ∨ (x = y ∧ nlt a b)) from decide_eq_decide.2 nlt_cons]
    by_cases h1 : x < y <;> by_cases h2 : x = y <;> by_cases h3 : nlt a b <;> simp [h1, h2, h3]
/-! Values as they come. -/
abbrev M63V : Nat := 9223372036854775807
/-- Numbers that are of their type, rows that have a length. -/
inductive TV : ApiValue → Prop
  | mk {v : ApiValue} : (-9223372036854775808 ≤ v.Kind ∧ v.Kind ≤ 9223372036854775807) → (-9223372036854775808 ≤ v.Num ∧ v.Num ≤ 9223372036854775807) → v.Text.length ≤ M63V → v.List_.length ≤ M63V → v.Keys.length ≤ M63V → (∀ k ∈ v.Keys, k.length ≤ M63V) → (∀ x, x ∈ v.List_ → TV x) → TV v
theorem TV.kind {v : ApiValue} (h : TV v) : -9223372036854775808 ≤ v.Kind ∧ v.Kind ≤ 9223372036854775807 := by cases h; assumption
theorem TV.num {v : ApiValue} (h : TV v) : -9223372036854775808 ≤ v.Num ∧ v.Num ≤ 9223372036854775807 := by cases h; assumption
theorem TV.text {v : ApiValue} (h : TV v) : v.Text.length ≤ M63V := by cases h; assumption
theorem TV.list {v : ApiValue} (h : TV v) : v.List_.length ≤ M63V := by cases h; assumption
theorem TV.keys {v : ApiValue} (h : TV v) : v.Keys.length ≤ M63V := by cases h; assumption
theorem TV.key {v : ApiValue} (h : TV v) : ∀ k ∈ v.Keys, k.length ≤ M63V := by cases h; assumption
theorem TV.sub {v : ApiValue} (h : TV v) : ∀ x, x ∈ v.List_ → TV x := by cases h; assumption
theorem FU_MV : M63V + 1000 < FU := Nat.lt_of_lt_of_le (by decide) FU_ge
theorem nxtV {k n : Nat} (h : k < n) (hn : n ≤ M63V) : i64 ((k : Int) + 1) = ((k + 1 : Nat) : Int) := by
  rw [i64_idV (by omega) (by have : n ≤ 9223372036854775807 := hn; omega)]; rfl
/-! How numbers and texts stand. -/
def cI (a b : Int) : Int := if a < b then -1 else if b < a then 1 else 0
def cS (a b : List UInt8) : Int := if nlt a b then -1 else if nlt b a then 1 else 0
def or2 (x y : Int) : Int := if x ≠ 0 then x else y
/-! How values stand. -/
def kp (p q : List (List UInt8)) : Int := match p, q with
  | x :: _, y :: _ => cS x y
  | _, _ => 0
mutual
def cV : ApiValue → ApiValue → Int
  | ⟨k, n, t, l, p⟩, b => or2 (or2 (cI k b.Kind) (or2 (cI n b.Num) (cS t b.Text))) (cL l b.List_ p b.Keys)
def cL : List ApiValue → List ApiValue → List (List UInt8) → List (List UInt8) → Int
  | [], [], _, _ => 0
  | [], _ :: _, _, _ => -1
  | _ :: _, [], _, _ => 1
  | x :: l, y :: m, p, q => or2 (or2 (kp p q) (cV x y)) (cL l m p.tail q.tail)
end
theorem cS_self (a : List UInt8) : cS a a = 0 := by unfold cS; rw [if_neg (nlt_irrefl a), if_neg (nlt_irrefl a)]
theorem dp_sub {v x : ApiValue} (h : x ∈ v.List_) : dpApiValue x < dpApiValue v := by
  have := dpApiValue_le h
  rw [dpApiValue_eq v]; omega
end Go.Proofs

set_option linter.unusedVariables false
set_option linter.unusedSimpArgs false
namespace Go.Proofs
open Go.Fw
/-! The order of values is one. -/
theorem cI_flip (a b : Int) : cI b a = - cI a b := by unfold cI; repeat' split <;> omega
theorem cI_zero {a b : Int} : cI a b = 0 ↔ a = b := by unfold cI; repeat' split <;> omega
theorem cI_rng (a b : Int) : cI a b = -1 ∨ cI a b = 0 ∨ cI a b = 1 := by unfold cI; repeat' split <;> omega
theorem cS_flip (a b : List UInt8) : cS b a = - cS a b := by
  unfold cS
  by_cases h1 : nlt a b
  · rw [if_neg (nlt_asymm h1), if_pos h1, if_pos h1]; rfl
  · by_cases h2 : nlt b a
    · rw [if_pos h2, if_neg h1, if_pos h2]
    · rw [if_neg h2, if_neg h1, if_neg h1, if_neg h2]; rfl
theorem cS_rng (a b : List UInt8) : cS a b = -1 ∨ cS a b = 0 ∨ cS a b = 1 := by unfold cS; repeat' split <;> omega
theorem or2_flip (x y : Int) : or2 (-x) (-y) = - or2 x y := by unfold or2; repeat' split <;> omega
theorem or2_rng {x y : Int} (hx : x = -1 ∨ x = 0 ∨ x = 1) (hy : y = -1 ∨ y = 0 ∨ y = 1) : or2 x y = -1 ∨ or2 x y = 0 ∨ or2 x y = 1 := by unfold or2; split <;> omega
theorem kp_flip (p q : List (List UInt8)) : kp q p = - kp p q := by
  cases p with
  | nil => cases q <;> rfl
  | cons x p => cases q with
    | nil => rfl
    | cons y q => exact cS_flip x y
theorem kp_rng (p q : List (List UInt8)) : kp p q = -1 ∨ kp p q = 0 ∨ kp p q = 1 := by
  cases p <;> cases q <;> simp [kp, cS_rng]
mutual
theorem cV_flip : ∀ a b : ApiValue, cV b a = - cV a b
  | ⟨k, n, t, l, p⟩, ⟨k2, n2, t2, l2, p2⟩ => by
    rw [cV, cV]
    simp only
    rw [cI_flip k k2, cI_flip n n2, cS_flip t t2, cL_flip l l2 p p2, or2_flip, or2_flip, or2_flip]
theorem cL_flip : ∀ (l m : List ApiValue) (p q : List (List UInt8)), cL m l q p = - cL l m p q
  | [], [], _, _ => by rw [cL, cL]; rfl
  | [], _ :: _, _, _ => by rw [cL, cL]; rfl
  | _ :: _, [], _, _ => by rw [cL, cL]
  | x :: l, y :: m, p, q => by rw [cL, cL, cV_flip x y, cL_flip l m p.tail q.tail, kp_flip p q, or2_flip, or2_flip]
end
mutual
theorem cV_rng : ∀ a b : ApiValue, cV a b = -1 ∨ cV a b = 0 ∨ cV a b = 1
  | ⟨k, n, t, l, p⟩, b => by
    rw [cV]
    exact or2_rng (or2_rng (cI_rng _ _) (or2_rng (cI_rng _ _) (cS_rng _ _))) (cL_rng l _ p _)
theorem cL_rng : ∀ (l m : List ApiValue) (p q : List (List UInt8)), cL l m p q = -1 ∨ cL l m p q = 0 ∨ cL l m p q = 1
  | [], [], _, _ => by rw [cL]; omega
  | [], _ :: _, _, _ => by rw [cL]; omega
  | _ :: _, [], _, _ => by rw [cL]; omega
  | x :: l, y :: m, p, q => by rw [cL]; exact or2_rng (or2_rng (kp_rng _ _) (cV_rng x y)) (cL_rng l m _ _)
end
/-- Names just where they belong. -/
inductive WF : ApiValue → Prop
  | mk {v : ApiValue} : (v.Kind = 6 → v.Keys.length = v.List_.length) → (v.Kind ≠ 6 → v.Keys = []) → (∀ x, x ∈ v.List_ → WF x) → WF v
theorem WF.obj {v : ApiValue} (h : WF v) : v.Kind = 6 → v.Keys.length = v.List_.length := by cases h; assumption
theorem WF.nokeys {v : ApiValue} (h : WF v) : v.Kind ≠ 6 → v.Keys = [] := by cases h; assumption
theorem WF.sub {v : ApiValue} (h : WF v) : ∀ x, x ∈ v.List_ → WF x := by cases h; assumption
/-- Names that belong to each, or none at all. -/
def Fit2 (l m : List ApiValue) (p q : List (List UInt8)) : Prop := (p.length = l.length ∧ q.length = m.length) ∨ (p = [] ∧ q = [])
theorem WF.fit {a b : ApiValue} (ha : WF a) (hb : WF b) (h : a.Kind = b.Kind) : Fit2 a.List_ b.List_ a.Keys b.Keys := by
  by_cases c : a.Kind = 6
  · exact .inl ⟨ha.obj c, hb.obj (h ▸ c)⟩
  · exact .inr ⟨ha.nokeys c, hb.nokeys (h ▸ c)⟩
mutual
theorem cV_self : ∀ a : ApiValue, cV a a = 0
  | ⟨k, n, t, l, p⟩ => by
    rw [cV]; simp only
    rw [cI_zero.2 rfl, cI_zero.2 rfl, cS_self, cL_self l p]; rfl
theorem cL_self : ∀ (l : List ApiValue) (p : List (List UInt8)), cL l l p p = 0
  | [], p => by rw [cL]
  | x :: l, p => by
    rw [cL, cV_self x, cL_self l p.tail]
    cases p <;> simp [kp, cS_self, or2]
end
/-- What is ahead of what is ahead is ahead. -/
def Tri (x y z : Int) : Prop := x ≤ 0 → y ≤ 0 → ((x < 0 ∨ y < 0) → z < 0) ∧ (x = 0 → y = 0 → z = 0)
theorem Tri.zero : Tri 0 0 0 := fun _ _ => ⟨fun h => by omega, fun _ _ => rfl⟩
end Go.Proofs

set_option linter.unusedVariables false
set_option linter.unusedSimpArgs false
namespace Go.Proofs
open Go.Fw
/-! Whether values are the same. -/
noncomputable def eqV (a b : ApiValue) : Bool := @decide (a = b) (Classical.propDecidable _)
noncomputable def eqL (a b : List ApiValue) : Bool := @decide (a = b) (Classical.propDecidable _)
theorem b_eq {p q : Bool} (h : p = true ↔ q = true) : p = q := by cases p <;> cases q <;> simp_all
/-! Plain texts, names. -/
def okB (c : UInt8) : Bool := decide (32 ≤ c.toNat) && decide (c.toNat ≤ 126)
def plB (s : List UInt8) : Bool := s.all okB
theorem plain_run {s : List UInt8} (hl : s.length ≤ M63V) {kj : Unit → Option Bool} (hk : kj () = some true) : ∀ (J k : Nat), k ≤ s.length → s.length - k < J → value_plain_l1 s kj J (k : Int) = some (plB (s.drop k))
  | 0, k, h1, h2 => by omega
  | J + 1, k, h1, h2 => by
    rw [value_plain_l1]
    by_cases c : k < s.length
    · rw [if_pos (by omega), geti_natV, List.getElem?_eq_getElem c, Option.bind_some, List.drop_eq_getElem_cons c]
      show _ = some (okB s[k] && plB (s.drop (k + 1)))
      unfold okB
      by_cases c1 : s[k].toNat < 32
      · rw [if_pos (by omega), Option.bind_some, if_pos rfl, decide_eq_false (show ¬ 32 ≤ s[k].toNat by omega)]; rfl
      · rw [if_neg (by omega), Option.bind_some, Option.bind_some]
        by_cases c2 : 126 < s[k].toNat
        · rw [decide_eq_true (show (126 : Int) < _ by omega), if_pos rfl, decide_eq_false (show ¬ s[k].toNat ≤ 126 by omega)]; simp
        · rw [decide_eq_false (show ¬ (126 : Int) < _ by omega), if_neg (by decide), nxtV c hl, plain_run hl hk J (k + 1) (by omega) (by omega), decide_eq_true (show 32 ≤ s[k].toNat by omega), decide_eq_true (show s[k].toNat ≤ 126 by omega)]; rfl
    · rw [if_neg (by omega), hk, List.drop_eq_nil_of_le (by omega)]; rfl
theorem plain_eq (s : List UInt8) (hl : s.length ≤ M63V) : value_plain s = some (plB s) := by
  unfold value_plain
  have := FU_MV
  rw [jn_eq'V, show (0 : Int) = ((0 : Nat) : Int) from rfl, plain_run hl rfl FU 0 (by omega) (by omega)]; rfl
def keyB (s : List UInt8) : Bool := decide (1 ≤ s.length ∧ s.length ≤ 24) && (plB s && !Lib.containsAny s [32, 46, 34])
theorem key_eq (s : List UInt8) (hl : s.length ≤ M63V) : value_key s = some (keyB s) := by
  unfold value_key keyB
  by_cases c : 1 ≤ s.length ∧ s.length ≤ 24
  · rw [if_pos (by omega), plain_eq s hl, Option.bind_some, Option.bind_some, decide_eq_true c, Bool.true_and]
    cases h : plB s with
    | false => rw [if_neg (by decide)]; rfl
    | true =>
      have hp : s.all (fun b => decide (b.toNat < 128)) = true := by
        unfold plB at h
        rw [List.all_eq_true] at h ⊢
        intro x hx
        have := h x hx
        unfold okB at this
        simp only [Bool.and_eq_true, decide_eq_true_eq] at this
        exact decide_eq_true (by omega)
      rw [if_pos rfl, if_pos ⟨hp, by decide, by omega, by decide⟩]; rfl
  · rw [if_neg (by omega), Option.bind_some, if_neg (by decide), decide_eq_false c]; rfl
/-- Rising names. -/
def kOK : Option (List UInt8) → List (List UInt8) → Bool
  | _, [] => true
  | pr, k :: r => keyB k && ((match pr with | none => true | some p => decide (nlt p k)) && kOK (some k) r)
end Go.Proofs

set_option linter.unusedVariables false
set_option linter.unusedSimpArgs false
namespace Go.Proofs
open Go.Fw
/-! Whether a value is of a form that may be. -/
theorem kOK_cons (pr : Option (List UInt8)) (k : List UInt8) (r : List (List UInt8)) : kOK pr (k :: r) = (keyB k && ((match pr with | none => true | some p => decide (nlt p k)) && kOK (some k) r)) := by
  cases pr <;> rfl
theorem kOK_nil (pr : Option (List UInt8)) : kOK pr [] = true := by cases pr <;> rfl
def prv (l : List (List UInt8)) (k : Nat) : Option (List UInt8) := if k = 0 then none else l[k - 1]?
theorem shKeys_run {v : ApiValue} (hv : TV v) {kj : Unit → Option Bool} : ∀ (J k : Nat), k ≤ v.Keys.length → v.Keys.length - k < J → value_shaped_s_l1 v kj J (k : Int) = if kOK (prv v.Keys k) (v.Keys.drop k) = true then kj () else some false
  | 0, k, h1, h2 => by omega
  | J + 1, k, h1, h2 => by
    rw [value_shaped_s_l1]
    by_cases c : k < v.Keys.length
    · rw [if_pos (by omega), geti_natV, List.getElem?_eq_getElem c, Option.bind_some, key_eq _ (hv.key _ (List.getElem_mem c)), Option.bind_some, List.drop_eq_getElem_cons c, kOK_cons]
      cases hk : keyB v.Keys[k] with
      | false => rw [if_pos (by decide), Option.bind_some, if_pos rfl, Bool.false_and, if_neg (by decide)]
      | true =>
        rw [if_neg (by decide), Bool.true_and]
        have hp : prv v.Keys (k + 1) = some v.Keys[k] := by unfold prv; rw [if_neg (by omega), Nat.add_sub_cancel, List.getElem?_eq_getElem c]
        by_cases c0 : k = 0
        · have e : prv v.Keys k = none := by unfold prv; rw [if_pos c0]
          rw [if_neg (by omega), Option.bind_some, Option.bind_some, if_neg (by decide), nxtV c hv.keys, shKeys_run hv J (k + 1) (by omega) (by omega), hp, e]
          simp
        · have hlt : k - 1 < v.Keys.length := by omega
          have e : prv v.Keys k = some v.Keys[k - 1] := by unfold prv; rw [if_neg c0, List.getElem?_eq_getElem hlt]
          have ei : i64 ((k : Int) - 1) = ((k - 1 : Nat) : Int) := by rw [i64_idV (by omega) (by have := hv.keys; have hM : M63V = 9223372036854775807 := rfl; omega)]; omega
          rw [if_pos (by omega), ei, geti_natV, List.getElem?_eq_getElem hlt, Option.bind_some, Option.bind_some, Option.bind_some, less_nlt, e]
          simp only
          by_cases hn : nlt v.Keys[k - 1] v.Keys[k]
          · rw [if_neg (by simp [hn]), nxtV c hv.keys, shKeys_run hv J (k + 1) (by omega) (by omega), hp]; simp [hn]
          · rw [if_pos (by simp [hn])]; simp [hn]
    · rw [if_neg (by omega), List.drop_eq_nil_of_le (by omega), kOK_nil, if_pos rfl]
theorem shIdx_run {l : List ApiValue} (hl : l.length ≤ M63V) {f : ApiValue → Int → Option Bool} {d : Int} {g : ApiValue → Bool} (hf : ∀ x, x ∈ l → f x (i64 (d - 1)) = some (g x)) {kj : Unit → Option Int} : ∀ (J k : Nat), k ≤ l.length → l.length - k < J →
    (∃ i : Nat, slices_IndexFunc_api_Value_api_Value_c63_l1 l f d kj J (k : Int) = some (i : Int) ∧ (l.drop k).all g = false) ∨ (slices_IndexFunc_api_Value_api_Value_c63_l1 l f d kj J (k : Int) = kj () ∧ (l.drop k).all g = true)
  | 0, k, h1, h2 => by omega
  | J + 1, k, h1, h2 => by
    rw [slices_IndexFunc_api_Value_api_Value_c63_l1]
    by_cases c : k < l.length
    · rw [if_pos (by omega), geti_natV, List.getElem?_eq_getElem c, Option.bind_some, value_shaped_1, hf _ (List.getElem_mem c), Option.bind_some, Option.bind_some, List.drop_eq_getElem_cons c, List.all_cons]
      cases hg : g l[k] with
      | false => exact .inl ⟨k, by rw [if_pos (by decide)], rfl⟩
      | true =>
        rw [if_neg (by decide), nxtV c hl, Bool.true_and]
        exact shIdx_run hl hf J (k + 1) (by omega) (by omega)
    · rw [if_neg (by omega), List.drop_eq_nil_of_le (by omega)]
      exact .inr ⟨rfl, rfl⟩
theorem shAll_eq {l : List ApiValue} (hl : l.length ≤ M63V) {f : ApiValue → Int → Option Bool} {d : Int} {g : ApiValue → Bool} (hf : ∀ x, x ∈ l → f x (i64 (d - 1)) = some (g x)) : slices_ContainsFunc_api_Value_api_Value_c63 f l d = some (!(l.all g)) := by
  unfold slices_ContainsFunc_api_Value_api_Value_c63 slices_IndexFunc_api_Value_api_Value_c63
  have := FU_MV
  rw [jn_eq'V, show (0 : Int) = ((0 : Nat) : Int) from rfl]
  rcases shIdx_run hl hf (kj := fun _ => some (-1)) FU 0 (by omega) (by omega) with ⟨i, h1, h2⟩ | ⟨h1, h2⟩
  · rw [h1, Option.bind_some, decide_eq_true (by omega)]
    rw [List.drop_zero] at h2; rw [h2]; rfl
  · rw [h1, Option.bind_some, decide_eq_false (by omega)]
    rw [List.drop_zero] at h2; rw [h2]; rfl
/-- What stands in a value of a kind. -/
def hdB (v : ApiValue) : Bool := decide (0 ≤ v.Kind ∧ v.Kind ≤ 6 ∧ (v.Kind = 3 ∨ v.Num = 0) ∧ (v.Kind = 4 ∨ v.Text = []) ∧ (v.Kind = 6 ∨ v.Keys = []) ∧ (v.Kind = 6 → v.Keys.length = v.List_.length) ∧ (5 ≤ v.Kind ∨ v.List_ = []))
def shB : Nat → ApiValue → Bool
  | 0, _ => false
  | d + 1, v => hdB v && (plB v.Text && (kOK none v.Keys && v.List_.all (shB d)))
theorem shaped_run : ∀ (d j : Nat) {v : ApiValue}, d < j → d ≤ 100 → TV v → value_shaped_r j v (d : Int) = some (shB d v)
  | d, 0, v, h, _, _ => by omega
  | 0, j + 1, v, h, _, hv => by rw [value_shaped_r, value_shaped_s, if_pos (by decide)]; rfl
  | d + 1, j + 1, v, h, hd, hv => by
    have hFU := FU_MV
    have hK := hv.keys
    have hsub : ∀ x, x ∈ v.List_ → value_shaped_r j x (i64 (((d + 1 : Nat) : Int) - 1)) = some (shB d x) := fun x hx => by
      rw [i64_idV (by omega) (by omega), show ((d + 1 : Nat) : Int) - 1 = (d : Int) by omega]
      exact shaped_run d j (by omega) (by omega) (hv.sub x hx)
    rw [value_shaped_r, value_shaped_s, if_neg (by omega), jn_eq'V]
    -- what follows, whatever is taken over
    have tail : ∀ (n : Int) (t : List UInt8) (l : List ApiValue) (p : List (List UInt8)),
        ((if (((v.Num ≠ n) ∨ (v.Text ≠ t)) ∨ ((v.Keys.length : Int) ≠ (p.length : Int))) ∨ ((v.List_.length : Int) ≠ (l.length : Int)) then some true else (value_plain v.Text).bind fun x8 => some (!x8)).bind fun x7 => if x7 = true then some false else jn (fun (_ : Unit) => (slices_ContainsFunc_api_Value_api_Value_c63 (value_shaped_r j) v.List_ ((d + 1 : Nat) : Int)).bind fun x16 => some (!x16)) (fun (kj9 : Unit → Option Bool) => value_shaped_s_l1 v kj9 FU 0))
        = some (decide (v.Num = n ∧ v.Text = t ∧ v.Keys.length = p.length ∧ v.List_.length = l.length) && (plB v.Text && (kOK none v.Keys && v.List_.all (shB d)))) := by
      intro n t l p
      by_cases c : v.Num = n ∧ v.Text = t ∧ v.Keys.length = p.length ∧ v.List_.length = l.length
      · rw [if_neg (by rintro (((h | h) | h) | h); exact h c.1; exact h c.2.1; omega; omega), plain_eq _ hv.text, Option.bind_some, Option.bind_some, decide_eq_true c, Bool.true_and]
        cases hp : plB v.Text with
        | false => rw [if_pos (by decide)]; rfl
        | true =>
          rw [if_neg (by decide), jn_eq'V, show (0 : Int) = ((0 : Nat) : Int) from rfl, shKeys_run hv FU 0 (by omega) (by omega), shAll_eq hv.list hsub]
          simp only [prv, if_true, List.drop_zero, Option.bind_some, Bool.true_and, Bool.not_not]
          cases kOK none v.Keys <;> simp
      · have h0 : ((v.Num ≠ n ∨ v.Text ≠ t) ∨ (v.Keys.length : Int) ≠ (p.length : Int)) ∨ (v.List_.length : Int) ≠ (l.length : Int) := by
          apply Classical.byContradiction; intro h
          simp only [not_or, ne_eq, Classical.not_not] at h
          exact c ⟨h.1.1.1, h.1.1.2, by omega, by omega⟩
        rw [if_pos h0, Option.bind_some, if_pos rfl, decide_eq_false c]; rfl
    rw [shB]
    have fin : ∀ {n : Int} {t : List UInt8} {l : List ApiValue} {p : List (List UInt8)} {o : Option Bool} (r : Bool), (v.Num = n ∧ v.Text = t ∧ v.Keys.length = p.length ∧ v.List_.length = l.length ↔ hdB v = true) → o = some (decide (v.Num = n ∧ v.Text = t ∧ v.Keys.length = p.length ∧ v.List_.length = l.length) && r) → o = some (hdB v && r) := by
      intro n t l p o r he ho
      rw [ho]
      congr 2
      exact b_eq (by rw [decide_eq_true_iff]; exact he)
    have hdi : hdB v = true ↔ (0 ≤ v.Kind ∧ v.Kind ≤ 6 ∧ (v.Kind = 3 ∨ v.Num = 0) ∧ (v.Kind = 4 ∨ v.Text = []) ∧ (v.Kind = 6 ∨ v.Keys = []) ∧ (v.Kind = 6 → v.Keys.length = v.List_.length) ∧ (5 ≤ v.Kind ∨ v.List_ = [])) := by unfold hdB; exact decide_eq_true_iff
    have lz : ∀ {α : Type} (l : List α), l.length = ([] : List α).length ↔ l = [] := fun l => List.length_eq_zero_iff
    rw [jn_eq'V]
    by_cases k0 : v.Kind = 0
    · simp only [k0, if_true]
      refine fin _ ?_ (tail _ _ _ _)
      rw [hdi, lz, lz]
      constructor
      · rintro ⟨h1, h2, h3, h4⟩; exact ⟨by omega, by omega, .inr h1, .inr h2, .inr h3, by omega, .inr h4⟩
      · rintro ⟨_, _, h1, h2, h3, _, h4⟩; exact ⟨by omega, h2.resolve_left (by omega), h3.resolve_left (by omega), h4.resolve_left (by omega)⟩
    by_cases k1 : v.Kind = 1
    · simp only [k1, if_true]
      refine fin _ ?_ (tail _ _ _ _)
      rw [hdi, lz, lz]
      constructor
      · rintro ⟨h1, h2, h3, h4⟩; exact ⟨by omega, by omega, .inr h1, .inr h2, .inr h3, by omega, .inr h4⟩
      · rintro ⟨_, _, h1, h2, h3, _, h4⟩; exact ⟨by omega, h2.resolve_left (by omega), h3.resolve_left (by omega), h4.resolve_left (by omega)⟩
    by_cases k2 : v.Kind = 2
    · simp only [k2, if_true]
      refine fin _ ?_ (tail _ _ _ _)
      rw [hdi, lz, lz]
      constructor
      · rintro ⟨h1, h2, h3, h4⟩; exact ⟨by omega, by omega, .inr h1, .inr h2, .inr h3, by omega, .inr h4⟩
      · rintro ⟨_, _, h1, h2, h3, _, h4⟩; exact ⟨by omega, h2.resolve_left (by omega), h3.resolve_left (by omega), h4.resolve_left (by omega)⟩
    rw [if_neg k0, if_neg k1, if_neg k2]
    by_cases k3 : v.Kind = 3
    · rw [if_pos k3]
      refine fin _ ?_ (tail _ _ _ _)
      rw [hdi, lz, lz]
      constructor
      · rintro ⟨h1, h2, h3, h4⟩; exact ⟨by omega, by omega, .inl k3, .inr h2, .inr h3, by omega, .inr h4⟩
      · rintro ⟨_, _, h1, h2, h3, _, h4⟩; exact ⟨rfl, h2.resolve_left (by omega), h3.resolve_left (by omega), h4.resolve_left (by omega)⟩
    rw [if_neg k3]
    by_cases k4 : v.Kind = 4
    · rw [if_pos k4]
      refine fin _ ?_ (tail _ _ _ _)
      rw [hdi, lz, lz]
      constructor
      · rintro ⟨h1, h2, h3, h4⟩; exact ⟨by omega, by omega, .inr h1, .inl k4, .inr h3, by omega, .inr h4⟩
      · rintro ⟨_, _, h1, h2, h3, _, h4⟩; exact ⟨h1.resolve_left (by omega), rfl, h3.resolve_left (by omega), h4.resolve_left (by omega)⟩
    rw [if_neg k4]
    by_cases k6 : v.Kind = 6
    · rw [if_pos k6]
      by_cases c : v.Keys.length = v.List_.length
      · rw [if_neg (by omega)]
        refine fin _ ?_ (tail _ _ _ _)
        rw [hdi]
        constructor
        · rintro ⟨h1, h2, h3, h4⟩; exact ⟨by omega, by omega, .inr h1, .inr h2, .inl k6, fun _ => c, .inl (by omega)⟩
        · rintro ⟨_, _, h1, h2, h3, _, h4⟩; exact ⟨h1.resolve_left (by omega), h2.resolve_left (by omega), rfl, rfl⟩
      · rw [if_pos (by omega)]
        have : hdB v = false := by
          cases h : hdB v with
          | false => rfl
          | true => exact absurd ((hdi.1 h).2.2.2.2.2.1 k6) c
        rw [this]; rfl
    rw [if_neg k6]
    by_cases k5 : v.Kind = 5
    · rw [if_pos k5]
      refine fin _ ?_ (tail _ _ _ _)
      rw [hdi, lz]
      constructor
      · rintro ⟨h1, h2, h3, h4⟩; exact ⟨by omega, by omega, .inr h1, .inr h2, .inr h3, by omega, .inl (by omega)⟩
      · rintro ⟨_, _, h1, h2, h3, _, h4⟩; exact ⟨h1.resolve_left (by omega), h2.resolve_left (by omega), h3.resolve_left (by omega), rfl⟩
    rw [if_neg k5]
    have : hdB v = false := by
      cases h : hdB v with
      | false => rfl
      | true => have := hdi.1 h; omega
    rw [this]; rfl
theorem shaped_eq {v : ApiValue} (hv : TV v) : value_shaped v 8 = some (shB 8 v) := by
  have := FU_MV
  unfold value_shaped
  rw [show (8 : Int) = ((8 : Nat) : Int) from rfl]
  exact shaped_run 8 _ (by omega) (by omega) hv
theorem hdB_iff {v : ApiValue} : hdB v = true ↔ (0 ≤ v.Kind ∧ v.Kind ≤ 6 ∧ (v.Kind = 3 ∨ v.Num = 0) ∧ (v.Kind = 4 ∨ v.Text = []) ∧ (v.Kind = 6 ∨ v.Keys = []) ∧ (v.Kind = 6 → v.Keys.length = v.List_.length) ∧ (5 ≤ v.Kind ∨ v.List_ = [])) := by unfold hdB; exact decide_eq_true_iff
theorem shB_wf : ∀ (d : Nat) {v : ApiValue}, shB d v = true → WF v
  | 0, v, h => by simp [shB] at h
  | d + 1, v, h => by
    rw [shB, Bool.and_eq_true, Bool.and_eq_true, Bool.and_eq_true, hdB_iff, List.all_eq_true] at h
    exact .mk h.1.2.2.2.2.2.1 (fun c => h.1.2.2.2.2.1.resolve_left c) (fun x hx => shB_wf d (h.2.2.2 x hx))
end Go.Proofs

set_option linter.unusedVariables false
set_option linter.unusedSimpArgs false
namespace Go.Proofs
open Go.Fw
/-! How much a value is. -/
def wK (p : List (List UInt8)) : Nat := (p.map fun k => 1 + k.length / 100).sum
mutual
def wV : ApiValue → Nat
  | ⟨_, _, t, l, p⟩ => 1 + t.length / 100 + wK p + wL l
def wL : List ApiValue → Nat
  | [] => 0
  | x :: r => wV x + wL r
end
theorem wV_eq (v : ApiValue) : wV v = 1 + v.Text.length / 100 + wK v.Keys + wL v.List_ := by cases v; rw [wV]
inductive KS : ApiValue → Prop
  | mk {v : ApiValue} : (∀ k ∈ v.Keys, k.length ≤ 24) → (∀ x, x ∈ v.List_ → KS x) → KS v
theorem KS.key {v : ApiValue} (h : KS v) : ∀ k ∈ v.Keys, k.length ≤ 24 := by cases h; assumption
theorem KS.sub {v : ApiValue} (h : KS v) : ∀ x, x ∈ v.List_ → KS x := by cases h; assumption
theorem div100 (n : Nat) : ((n : Int).tdiv 100) = ((n / 100 : Nat) : Int) := by
  rw [Int.tdiv_eq_ediv_of_nonneg (by omega)]; omega
theorem pK_run {v : ApiValue} (hv : TV v) {kj : Int → Option Int} : ∀ (J k : Nat) (n : Int), k ≤ v.Keys.length → v.Keys.length - k < J →
    ∃ m, law01_parts_s_l1 v kj J n (k : Int) = kj m ∧ ((∀ q ∈ v.Keys, q.length ≤ 24) → 0 ≤ n → n + (v.Keys.length - k) ≤ 1000000000 → m = n + (wK (v.Keys.drop k) : Int) ∧ m ≤ n + (v.Keys.length - k))
  | 0, k, n, h1, h2 => by omega
  | J + 1, k, n, h1, h2 => by
    rw [law01_parts_s_l1]
    by_cases c : k < v.Keys.length
    · rw [if_pos (by omega), geti_natV, List.getElem?_eq_getElem c, Option.bind_some, nxtV c hv.keys, div100]
      obtain ⟨m, e1, e2⟩ := pK_run hv (kj := kj) J (k + 1) (i64 (i64 (n + 1) + i64 ((v.Keys[k].length / 100 : Nat) : Int))) (by omega) (by omega)
      refine ⟨m, e1, fun hq h0 h3 => ?_⟩
      have h4 := hq _ (List.getElem_mem c)
      have h5 : v.Keys[k].length / 100 = 0 := by omega
      have e : i64 (i64 (n + 1) + i64 ((v.Keys[k].length / 100 : Nat) : Int)) = n + 1 := by
        rw [h5, i64_idV (p := n + 1) (by omega) (by omega), i64_idV (p := ((0 : Nat) : Int)) (by omega) (by omega), i64_idV (by omega) (by omega)]; omega
      rw [e] at e2
      obtain ⟨f1, f2⟩ := e2 hq (by omega) (by omega)
      rw [List.drop_eq_getElem_cons c]
      simp only [wK, List.map_cons, List.sum_cons, h5] at f1 ⊢
      exact ⟨by omega, by omega⟩
    · rw [if_neg (by omega), List.drop_eq_nil_of_le (by omega)]
      refine ⟨n, rfl, fun _ _ _ => ⟨by simp [wK], by omega⟩⟩
theorem pL_runV {v : ApiValue} (hv : TV v) {f : ApiValue → Int → Option Int} {d : Int} {M : Int} (hf : ∀ x, x ∈ v.List_ → ∃ p, f x (i64 (d - 1)) = some p ∧ (KS x → 0 ≤ p ∧ p ≤ M ∧ (p < 100000 → (wV x : Int) = p))) (hM : 0 ≤ M ∧ M ≤ 100000000)
    {kj : Int → Option Int} : ∀ (J k : Nat) (n : Int), k ≤ v.List_.length → v.List_.length - k < J →
    ∃ m, law01_parts_s_l2 v f d kj J n (k : Int) = kj m ∧ (KS v → 0 ≤ n → n ≤ 100000 + M → 0 ≤ m ∧ m ≤ 100000 + M ∧ (m < 100000 → m = n + (wL (v.List_.drop k) : Int)))
  | 0, k, n, h1, h2 => by omega
  | J + 1, k, n, h1, h2 => by
    rw [law01_parts_s_l2]
    by_cases c : k < v.List_.length
    · by_cases c2 : n < 100000
      · obtain ⟨p, hp, hq⟩ := hf _ (List.getElem_mem c)
        rw [if_pos ⟨by omega, c2⟩, geti_natV, List.getElem?_eq_getElem c, Option.bind_some, hp, Option.bind_some, nxtV c hv.list]
        obtain ⟨m, e1, e2⟩ := pL_runV hv hf hM (kj := kj) J (k + 1) (i64 (n + p)) (by omega) (by omega)
        refine ⟨m, e1, fun hk h0 h3 => ?_⟩
        obtain ⟨q1, q2, q3⟩ := hq (hk.sub _ (List.getElem_mem c))
        rw [i64_idV (by omega) (by omega)] at e2
        obtain ⟨f1, f2, f3⟩ := e2 hk (by omega) (by omega)
        refine ⟨f1, f2, fun hm => ?_⟩
        have f4 := f3 hm
        rw [List.drop_eq_getElem_cons c, wL]
        have := q3 (by omega)
        omega
      · rw [if_neg (by omega)]
        exact ⟨n, rfl, fun _ h0 h3 => ⟨h0, h3, fun h => absurd h c2⟩⟩
    · rw [if_neg (by omega), List.drop_eq_nil_of_le (by omega)]
      exact ⟨n, rfl, fun _ h0 h3 => ⟨h0, h3, fun _ => by simp [wL]⟩⟩
theorem parts_run : ∀ (d j : Nat) {v : ApiValue}, d < j → d ≤ 100 → TV v → ∃ p, law01_parts_r j v (d : Int) = some p ∧ (KS v → 0 ≤ p ∧ p ≤ 100000 * ((d : Int) + 1) ∧ (p < 100000 → (wV v : Int) = p))
  | d, 0, v, h, _, _ => by omega
  | 0, j + 1, v, h, _, hv => by
    rw [law01_parts_r, law01_parts_s, if_pos (.inl (.inl (.inl (by decide))))]
    exact ⟨_, rfl, fun _ => ⟨by omega, by omega, fun h => by omega⟩⟩
  | d + 1, j + 1, v, h, hd, hv => by
    rw [law01_parts_r, law01_parts_s]
    by_cases c : ((((d + 1 : Nat) : Int) < 1 ∨ (3000 : Int) < v.List_.length) ∨ (3000 : Int) < v.Keys.length) ∨ (4000 : Int) < v.Text.length
    · rw [if_pos c]
      exact ⟨_, rfl, fun _ => ⟨by omega, by omega, fun h => by omega⟩⟩
    · have hFU := FU_MV
      have hK := hv.keys
      have hL := hv.list
      rw [if_neg c, jn_eq'V, div100, show (0 : Int) = ((0 : Nat) : Int) from rfl]
      have e0 : i64 (1 + i64 ((v.Text.length / 100 : Nat) : Int)) = 1 + ((v.Text.length / 100 : Nat) : Int) := by
        rw [i64_idV (p := ((v.Text.length / 100 : Nat) : Int)) (by omega) (by omega), i64_idV (by omega) (by omega)]
      rw [e0]
      obtain ⟨m, e1, e2⟩ := pK_run hv (kj := fun (x2 : Int) => jn (fun (x7 : Int) => some x7) (fun (kj6 : Int → Option Int) => law01_parts_s_l2 v (law01_parts_r j) ((d + 1 : Nat) : Int) kj6 FU x2 ((0 : Nat) : Int))) FU 0 (1 + ((v.Text.length / 100 : Nat) : Int)) (by omega) (by omega)
      rw [e1]
      simp only [jn_eq'V]
      have hf : ∀ x, x ∈ v.List_ → ∃ p, law01_parts_r j x (i64 (((d + 1 : Nat) : Int) - 1)) = some p ∧ (KS x → 0 ≤ p ∧ p ≤ 100000 * ((d : Int) + 1) ∧ (p < 100000 → (wV x : Int) = p)) := fun x hx => by
        rw [i64_idV (by omega) (by omega), show ((d + 1 : Nat) : Int) - 1 = (d : Int) by omega]
        exact parts_run d j (by omega) (by omega) (hv.sub x hx)
      obtain ⟨m2, f1, f2⟩ := pL_runV hv hf (by omega) (kj := fun x7 => some x7) FU 0 m (by omega) (by omega)
      rw [f1]
      refine ⟨m2, rfl, fun hk => ?_⟩
      obtain ⟨g1, g2⟩ := e2 hk.key (by omega) (by omega)
      obtain ⟨g3, g4, g5⟩ := f2 hk (by omega) (by omega)
      refine ⟨g3, by omega, fun hm => ?_⟩
      have g6 := g5 hm
      rw [List.drop_zero] at g1 g6
      rw [wV_eq]
      omega
/-- Whether it is too much. -/
theorem long_eq {v : ApiValue} (hv : TV v) : ∃ b, law01_Long v = some b ∧ (KS v → b = false → wV v ≤ 4000) := by
  obtain ⟨p, h1, h2⟩ := parts_run 20 (FU + dpApiValue v) (v := v) (by have := FU_MV; omega) (by omega) hv
  unfold law01_Long law01_parts
  rw [show (20 : Int) = ((20 : Nat) : Int) from rfl, h1, Option.bind_some]
  refine ⟨_, rfl, fun hk hb => ?_⟩
  have hp : ¬ 4000 < p := of_decide_eq_false hb
  have := (h2 hk).2.2 (by omega)
  omega
theorem keyB_len {k : List UInt8} (h : keyB k = true) : k.length ≤ 24 := by
  unfold keyB at h
  simp only [Bool.and_eq_true, decide_eq_true_eq] at h
  exact h.1.2
theorem kOK_key : ∀ {p : List (List UInt8)} {pr : Option (List UInt8)}, kOK pr p = true → ∀ k ∈ p, keyB k = true
  | [], _, _, k, hk => by simp at hk
  | x :: r, pr, h, k, hk => by
    rw [kOK_cons, Bool.and_eq_true, Bool.and_eq_true] at h
    rcases List.mem_cons.1 hk with rfl | hk
    · exact h.1
    · exact kOK_key h.2.2 k hk
theorem shB_ks : ∀ (d : Nat) {v : ApiValue}, shB d v = true → KS v
  | 0, v, h => by simp [shB] at h
  | d + 1, v, h => by
    rw [shB, Bool.and_eq_true, Bool.and_eq_true, Bool.and_eq_true, List.all_eq_true] at h
    exact .mk (fun k hk => keyB_len (kOK_key h.2.2.1 k hk)) (fun x hx => shB_ks d (h.2.2.2 x hx))
end Go.Proofs

set_option linter.unusedVariables false
set_option linter.unusedSimpArgs false
namespace Go.Proofs
open Go.Fw
/-! A value's text. -/
theorem app_ok2V {α : Type} {cap : Nat} (a b : List α) (h : a.length + b.length ≤ cap) : app cap a b = some (a ++ b) := by
  unfold app
  rw [if_pos h]
theorem decF_lenV : ∀ (f u k : Nat), u < 10 ^ k → 1 ≤ k → (decF f u).length ≤ k
  | 0, u, k, _, _ => by rw [decF]; simp
  | f + 1, u, k, h, hk => by
    rw [decF]
    by_cases c : u < 10
    · rw [if_pos c]; simpa using hk
    · rw [if_neg c]
      obtain ⟨k, rfl⟩ : ∃ m, k = m + 2 := ⟨k - 2, by
        rcases k with _ | _ | k
        · omega
        · simp at h; omega
        · omega⟩
      have := decF_lenV f (u / 10) (k + 1) (by rw [Nat.pow_succ] at h; omega) (by omega)
      simp only [List.length_append, List.length_cons, List.length_nil]; omega
theorem itoaF_len {n : Int} (h : -9223372036854775808 ≤ n ∧ n ≤ 9223372036854775807) : (itoaF n).length ≤ 21 := by
  unfold itoaF
  split
  · have := decF_lenV 30 n.natAbs 20 (Nat.lt_of_le_of_lt (show n.natAbs ≤ 9223372036854775808 by omega) (by decide)) (by decide)
    simp only [List.length_cons]; omega
  · have := decF_lenV 30 n.toNat 20 (Nat.lt_of_le_of_lt (show n.toNat ≤ 9223372036854775808 by omega) (by decide)) (by decide)
    omega
theorem ofI64_nat {p : Int} (h : 0 ≤ p) (h2 : p < 18446744073709551616) : (ofI64 p).toNat = p.toNat := by
  unfold ofI64
  rw [UInt64.toNat_ofNat', Nat.mod_eq_of_lt (by omega)]
  omega
theorem ofI64_neg {p : Int} (h : p < 0) (h2 : -18446744073709551616 ≤ p) : ((ofI64 p).toNat : Int) = p + 18446744073709551616 := by
  unfold ofI64
  rw [UInt64.toNat_ofNat', Nat.mod_eq_of_lt (by omega)]
  omega
theorem appendUint_eq (a : List UInt8) (u : UInt64) (ha : a.length ≤ 1000000000) : strconv_AppendUint a u 10 = some (a ++ decF 30 u.toNat) := by
  have hu : u.toNat < 18446744073709551616 := u.toNat_lt
  have hl := decF_lenV 30 u.toNat 20 (Nat.lt_trans hu (by decide)) (by decide)
  unfold strconv_AppendUint
  rw [if_pos rfl]
  by_cases c : u.toNat < 100
  · have e : i64 (u.toNat : Int) = (u.toNat : Int) := i64_idV (by omega) (by omega)
    rw [if_pos (by omega), e, if_pos (by omega), Int.toNat_natCast, app_ok2V _ _ (by omega)]; rfl
  · rw [if_neg (by omega), if_pos (by omega), if_pos (by omega), Int.toNat_natCast, if_pos ⟨rfl, by omega⟩, if_pos (by omega), List.take_left', app_ok2V _ _ (by omega)]
    · rfl
    · rfl
theorem appendInt_eq (a : List UInt8) {n : Int} (h : -9223372036854775808 ≤ n ∧ n ≤ 9223372036854775807) (ha : a.length ≤ 100000000) : strconv_AppendInt a n 10 = some (a ++ itoaF n) := by
  unfold strconv_AppendInt itoaF
  by_cases c : n < 0
  · have e : (ofI64 (0 - ((ofI64 n).toNat : Int))).toNat = n.natAbs := by
      rw [ofI64_neg c (by omega)]
      have := ofI64_neg (p := 0 - (n + 18446744073709551616)) (by omega) (by omega)
      omega
    rw [if_pos c, if_pos c, app_ok2V _ _ (by simp; omega), Option.bind_some, appendUint_eq _ _ (by simp; omega), e, Option.bind_some, List.append_assoc]; rfl
  · rw [if_neg c, if_neg c, appendUint_eq _ _ (by omega), ofI64_nat (by omega) (by omega), Option.bind_some]
theorem appendUint_nl_eq (u : UInt64) : strconv_AppendUint_nl u 10 = some (decF 30 u.toNat) := by
  have hu : u.toNat < 18446744073709551616 := u.toNat_lt
  have hl := decF_lenV 30 u.toNat 20 (Nat.lt_trans hu (by decide)) (by decide)
  unfold strconv_AppendUint_nl
  rw [if_pos rfl]
  by_cases c : u.toNat < 100
  · have e : i64 (u.toNat : Int) = (u.toNat : Int) := i64_idV (by omega) (by omega)
    rw [if_pos (by omega), e, if_pos (by omega), Int.toNat_natCast, app_ok2V _ _ (by simp; omega)]; rfl
  · rw [if_neg (by omega), if_pos (by omega), if_pos (by omega), Int.toNat_natCast, if_pos ⟨rfl, by omega⟩, if_pos (by omega), List.take_left', app_ok2V _ _ (by simp; omega)]
    · rfl
    · rfl
theorem appendInt_nl_eq {n : Int} (h : -9223372036854775808 ≤ n ∧ n ≤ 9223372036854775807) : strconv_AppendInt_nl_p n 10 = some (itoaF n) := by
  unfold strconv_AppendInt_nl_p strconv_AppendInt_nl itoaF
  by_cases c : n < 0
  · have e : (ofI64 (0 - ((ofI64 n).toNat : Int))).toNat = n.natAbs := by
      rw [ofI64_neg c (by omega)]
      have := ofI64_neg (p := 0 - (n + 18446744073709551616)) (by omega) (by omega)
      omega
    rw [if_pos c, if_pos c, app_ok2V _ _ (by simp), Option.bind_some, appendUint_eq _ _ (by simp), e]; rfl
  · rw [if_neg c, if_neg c, appendUint_nl_eq, ofI64_nat (by omega) (by omega)]; rfl
def esc (c : UInt8) : List UInt8 := if c.toNat = 34 ∨ c.toNat = 92 then [92, c] else [c]
def qt (s : List UInt8) : List UInt8 := 34 :: (s.flatMap esc ++ [34])
theorem esc_q {c : UInt8} (h : c.toNat = 34 ∨ c.toNat = 92) : esc c = [92, c] := by unfold esc; rw [if_pos h]
theorem esc_n {c : UInt8} (h : ¬ (c.toNat = 34 ∨ c.toNat = 92)) : esc c = [c] := by unfold esc; rw [if_neg h]
theorem esc_len (c : UInt8) : (esc c).length ≤ 2 := by unfold esc; split <;> simp
theorem esc_lens : ∀ s : List UInt8, (s.flatMap esc).length ≤ 2 * s.length
  | [] => by simp
  | c :: s => by
    rw [List.flatMap_cons, List.length_append, List.length_cons]
    have := esc_len c
    have := esc_lens s
    omega
theorem qt_len (s : List UInt8) : (qt s).length ≤ 2 * s.length + 2 := by
  unfold qt
  have := esc_lens s
  simp only [List.length_cons, List.length_append, List.length_nil]; omega
theorem quoted_run {s : List UInt8} (hl : s.length ≤ M63V) {kj : List UInt8 → Option (List UInt8)} : ∀ (J k : Nat) (x : List UInt8), k ≤ s.length → s.length - k < J → x.length + 2 * (s.length - k) ≤ 1000000000000 → value_quoted_l1 s kj J x (k : Int) = kj (x ++ (s.drop k).flatMap esc)
  | 0, k, x, h1, h2, _ => by omega
  | J + 1, k, x, h1, h2, h3 => by
    rw [value_quoted_l1]
    by_cases c : k < s.length
    · rw [if_pos (by omega), jn_eq'V, geti_natV, List.getElem?_eq_getElem c, Option.bind_some, List.drop_eq_getElem_cons c, List.flatMap_cons, Option.bind_some]
      have step : ∀ y : List UInt8, y.length + 1 + 2 * (s.length - (k + 1)) ≤ 1000000000000 → ((some s[k]).bind fun x12 => (app 140737488355328 y ([x12] : List UInt8)).bind fun x13 => value_quoted_l1 s kj J x13 (i64 ((k : Int) + 1))) = kj (y ++ (s[k] :: (s.drop (k + 1)).flatMap esc)) := fun y hy => by
        rw [Option.bind_some, app_ok2V _ _ (by simp; omega), Option.bind_some, nxtV c hl, quoted_run hl J (k + 1) _ (by omega) (by omega) (by simp; omega), List.append_assoc]; rfl
      by_cases c1 : s[k].toNat = 34
      · rw [if_pos (by omega), Option.bind_some, if_pos rfl, app_ok2V _ _ (by simp; omega), Option.bind_some, esc_q (.inl c1)]
        refine (step _ (by simp; omega)).trans ?_
        rw [List.append_assoc]; rfl
      · rw [if_neg (by omega), Option.bind_some]
        by_cases c2 : s[k].toNat = 92
        · rw [decide_eq_true (show ((s[k].toNat : Nat) : Int) = 92 by omega), if_pos rfl, app_ok2V _ _ (by simp; omega), Option.bind_some, esc_q (.inr c2)]
          refine (step _ (by simp; omega)).trans ?_
          rw [List.append_assoc]; rfl
        · rw [decide_eq_false (show ¬ ((s[k].toNat : Nat) : Int) = 92 by omega), if_neg (by decide), esc_n (by omega)]
          exact step _ (by omega)
    · rw [if_neg (by omega), List.drop_eq_nil_of_le (by omega)]; simp
theorem quoted_eq (b s : List UInt8) (h : b.length + 2 * s.length ≤ 100000000000) : value_quoted b s = some (b ++ qt s) := by
  unfold value_quoted
  have := FU_MV
  have hM : M63V = 9223372036854775807 := rfl
  rw [app_ok2V _ _ (by simp; omega), Option.bind_some, jn_eq'V, show (0 : Int) = ((0 : Nat) : Int) from rfl, quoted_run (by omega) FU 0 _ (by omega) (by omega) (by simp; omega)]
  have := esc_lens s
  rw [List.drop_zero, app_ok2V _ _ (by simp only [List.length_append, List.length_cons, List.length_nil]; omega), Option.bind_some]
  unfold qt
  simp
theorem quoted_nl_run {s : List UInt8} (hl : s.length ≤ M63V) {kj : List UInt8 → Option (List UInt8)} : ∀ (J k : Nat) (x : List UInt8), k ≤ s.length → s.length - k < J → x.length + 2 * (s.length - k) ≤ 1000000000000 → value_quoted_nl_l1 s kj J x (k : Int) = kj (x ++ (s.drop k).flatMap esc)
  | 0, k, x, h1, h2, _ => by omega
  | J + 1, k, x, h1, h2, h3 => by
    rw [value_quoted_nl_l1]
    by_cases c : k < s.length
    · rw [if_pos (by omega), jn_eq'V, geti_natV, List.getElem?_eq_getElem c, Option.bind_some, List.drop_eq_getElem_cons c, List.flatMap_cons, Option.bind_some]
      have step : ∀ y : List UInt8, y.length + 1 + 2 * (s.length - (k + 1)) ≤ 1000000000000 → ((some s[k]).bind fun x12 => (app 140737488355328 y ([x12] : List UInt8)).bind fun x13 => value_quoted_nl_l1 s kj J x13 (i64 ((k : Int) + 1))) = kj (y ++ (s[k] :: (s.drop (k + 1)).flatMap esc)) := fun y hy => by
        rw [Option.bind_some, app_ok2V _ _ (by simp; omega), Option.bind_some, nxtV c hl, quoted_nl_run hl J (k + 1) _ (by omega) (by omega) (by simp; omega), List.append_assoc]; rfl
      by_cases c1 : s[k].toNat = 34
      · rw [if_pos (by omega), Option.bind_some, if_pos rfl, app_ok2V _ _ (by simp; omega), Option.bind_some, esc_q (.inl c1)]
        refine (step _ (by simp; omega)).trans ?_
        rw [List.append_assoc]; rfl
      · rw [if_neg (by omega), Option.bind_some]
        by_cases c2 : s[k].toNat = 92
        · rw [decide_eq_true (show ((s[k].toNat : Nat) : Int) = 92 by omega), if_pos rfl, app_ok2V _ _ (by simp; omega), Option.bind_some, esc_q (.inr c2)]
          refine (step _ (by simp; omega)).trans ?_
          rw [List.append_assoc]; rfl
        · rw [decide_eq_false (show ¬ ((s[k].toNat : Nat) : Int) = 92 by omega), if_neg (by decide), esc_n (by omega)]
          exact step _ (by omega)
    · rw [if_neg (by omega), List.drop_eq_nil_of_le (by omega)]; simp
theorem quoted_nl_eq (s : List UInt8) (h : 2 * s.length ≤ 100000000000) : value_quoted_nl s = some (qt s) := by
  unfold value_quoted_nl
  have := FU_MV
  have hM : M63V = 9223372036854775807 := rfl
  rw [app_ok2V _ _ (by simp), Option.bind_some, jn_eq'V, show (0 : Int) = ((0 : Nat) : Int) from rfl, quoted_nl_run (by omega) FU 0 _ (by omega) (by omega) (by simp; omega)]
  have := esc_lens s
  rw [List.drop_zero, app_ok2V _ _ (by simp only [List.length_append, List.length_cons, List.length_nil]; omega), Option.bind_some]
  unfold qt
  simp
end Go.Proofs

set_option linter.unusedVariables false
set_option linter.unusedSimpArgs false
namespace Go.Proofs
open Go.Fw
mutual
def tx : ApiValue → List UInt8
  | ⟨k, n, t, l, p⟩ => if k = 1 then [102, 97, 108, 115, 101] else if k = 2 then [116, 114, 117, 101] else if k = 3 then itoaF n else if k = 4 then qt t
    else if k = 5 then 91 :: (txL false true l p ++ [93]) else if k = 6 then 123 :: (txL true true l p ++ [125]) else [110, 117, 108, 108]
def txL : Bool → Bool → List ApiValue → List (List UInt8) → List UInt8
  | _, _, [], _ => []
  | o, f, x :: l, p => (if f = true then [] else [44]) ++ ((if o = true then qt (p.headD []) ++ [58] else []) ++ (tx x ++ txL o false l p.tail))
end
theorem tx_eq (v : ApiValue) : tx v = if v.Kind = 1 then [102, 97, 108, 115, 101] else if v.Kind = 2 then [116, 114, 117, 101] else if v.Kind = 3 then itoaF v.Num else if v.Kind = 4 then qt v.Text
    else if v.Kind = 5 then 91 :: (txL false true v.List_ v.Keys ++ [93]) else if v.Kind = 6 then 123 :: (txL true true v.List_ v.Keys ++ [125]) else [110, 117, 108, 108] := by cases v; rw [tx]
theorem wV_pos (v : ApiValue) : 1 ≤ wV v := by rw [wV_eq]; omega
theorem txL_len : ∀ (o f : Bool) (l : List ApiValue) (p : List (List UInt8)), (o = true → p.length = l.length) → (∀ k ∈ p, k.length ≤ 24) → (∀ x, x ∈ l → (tx x).length + 60 ≤ 500 * wV x) → (txL o f l p).length ≤ 500 * wL l
  | _, _, [], _, _, _, _ => by rw [txL]; simp
  | o, f, x :: l, p, hp, hk, hx => by
    rw [txL, wL]
    have h1 := hx x (by simp)
    have hk2 : ∀ k ∈ p.tail, k.length ≤ 24 := fun k h => hk k (List.mem_of_mem_tail h)
    have h2 := txL_len o false l p.tail (fun h => by rw [List.length_tail, hp h, List.length_cons]; omega) hk2 (fun y hy => hx y (by simp [hy]))
    have h3 : (if f = true then ([] : List UInt8) else [44]).length ≤ 1 := by split <;> simp
    have h4 : (if o = true then qt (p.headD []) ++ [58] else ([] : List UInt8)).length ≤ 51 := by
      split
      · have := qt_len (p.headD [])
        have h5 : (p.headD []).length ≤ 24 := by
          cases p with
          | nil => simp
          | cons u p => exact hk u (by simp)
        simp only [List.length_append, List.length_cons, List.length_nil]; omega
      · simp
    simp only [List.length_append]
    omega
theorem tx_len_n : ∀ (n : Nat) {v : ApiValue}, dpApiValue v ≤ n → TV v → WF v → KS v → (tx v).length + 60 ≤ 500 * wV v
  | 0, v, h, _, _, _ => by rw [dpApiValue_eq] at h; omega
  | n + 1, v, h, hv, hw, hk => by
    have hx : ∀ x, x ∈ v.List_ → (tx x).length + 60 ≤ 500 * wV x := fun x hx => tx_len_n n (by have := dp_sub hx; omega) (hv.sub x hx) (hw.sub x hx) (hk.sub x hx)
    rw [tx_eq]
    have h1 := wV_eq v
    split
    · simp; omega
    split
    · simp; omega
    split
    · have := itoaF_len hv.num; omega
    split
    · have := qt_len v.Text; omega
    split
    · have := txL_len false true v.List_ v.Keys (by simp) hk.key hx
      simp only [List.length_cons, List.length_append, List.length_nil]; omega
    split
    · rename_i c
      have := txL_len true true v.List_ v.Keys (fun _ => hw.obj c) hk.key hx
      simp only [List.length_cons, List.length_append, List.length_nil]; omega
    · simp; omega
theorem tx_len {v : ApiValue} (hv : TV v) (hw : WF v) (hk : KS v) : (tx v).length + 60 ≤ 500 * wV v := tx_len_n _ (Nat.le_refl _) hv hw hk
theorem wL_drop (l : List ApiValue) {k : Nat} (c : k < l.length) : wL (l.drop k) = wV l[k] + wL (l.drop (k + 1)) := by
  rw [List.drop_eq_getElem_cons c, wL]
/-- One round, and all rounds. -/
theorem textL_run {v : ApiValue} (hv : TV v) (hw : WF v) (hk : KS v) {f : List UInt8 → ApiValue → Option (List UInt8)} (hf : ∀ x, x ∈ v.List_ → ∀ b : List UInt8, b.length + 700 * wV x ≤ 90000640 → f b x = some (b ++ tx x))
    {kj : List UInt8 → Option (List UInt8)} : ∀ (J k : Nat) (b : List UInt8), k ≤ v.List_.length → v.List_.length - k < J → b.length + 700 * wL (v.List_.drop k) ≤ 90000000 → value_text_s_l1 v f kj J b (k : Int) = kj (b ++ txL (decide (v.Kind = 6)) (decide (k = 0)) (v.List_.drop k) (v.Keys.drop k))
  | 0, k, b, h1, h2, _ => by omega
  | J + 1, k, b, h1, h2, h3 => by
    rw [value_text_s_l1]
    by_cases c : k < v.List_.length
    · have hm := List.getElem_mem c
      have hl := tx_len (hv.sub _ hm) (hw.sub _ hm) (hk.sub _ hm)
      have hwp := wV_pos v.List_[k]
      rw [wL_drop _ c] at h3
      rw [if_pos (by omega), geti_natV, List.getElem?_eq_getElem c, Option.bind_some, jn_eq'V, List.drop_eq_getElem_cons c, txL]
      have step : ∀ y : List UInt8, y.length ≤ b.length + 1 → (if v.Kind = 6 then (geti v.Keys (k : Int)).bind fun x19 => (value_quoted y x19).bind fun x20 => (app 140737488355328 x20 ([(58 : UInt8)] : List UInt8)).bind fun x21 => (f x21 v.List_[k]).bind fun x22 => value_text_s_l1 v f kj J x22 (i64 ((k : Int) + 1)) else (f y v.List_[k]).bind fun x23 => value_text_s_l1 v f kj J x23 (i64 ((k : Int) + 1)))
          = kj (y ++ ((if (decide (v.Kind = 6)) = true then qt ((v.Keys.drop k).headD []) ++ [58] else []) ++ (tx v.List_[k] ++ txL (decide (v.Kind = 6)) false (v.List_.drop (k + 1)) (v.Keys.drop k).tail))) := by
        intro y hy
        have hd0 : decide (k + 1 = 0) = false := decide_eq_false (by omega)
        by_cases k6 : v.Kind = 6
        · have ck : k < v.Keys.length := by rw [hw.obj k6]; exact c
          have hq := hk.key _ (List.getElem_mem ck)
          have hql := qt_len v.Keys[k]
          have hh : (v.Keys.drop k).headD [] = v.Keys[k] := by rw [List.drop_eq_getElem_cons ck]; rfl
          rw [if_pos k6, geti_natV, List.getElem?_eq_getElem ck, Option.bind_some, quoted_eq _ _ (by omega), Option.bind_some, app_ok2V _ _ (by simp only [List.length_append, List.length_cons, List.length_nil]; omega), Option.bind_some, hf _ hm _ (by simp only [List.length_append, List.length_cons, List.length_nil]; omega), Option.bind_some, nxtV c hv.list,
            textL_run hv hw hk hf J (k + 1) _ (by omega) (by omega) (by simp only [List.length_append, List.length_cons, List.length_nil]; omega), decide_eq_true k6, hd0, if_pos rfl, hh, List.tail_drop]
          simp only [List.append_assoc]
        · rw [if_neg k6, hf _ hm _ (by omega), Option.bind_some, nxtV c hv.list, textL_run hv hw hk hf J (k + 1) _ (by omega) (by omega) (by simp only [List.length_append]; omega), decide_eq_false k6, hd0, if_neg (by decide), List.tail_drop]
          simp only [List.append_assoc, List.nil_append]
      by_cases k0 : k = 0
      · rw [if_neg (by omega), decide_eq_true k0, if_pos rfl, List.nil_append]
        exact step b (by omega)
      · rw [if_pos (by omega), app_ok2V _ _ (by simp; omega), Option.bind_some, decide_eq_false k0, if_neg (by decide), ← List.append_assoc]
        exact step _ (by simp)
    · rw [if_neg (by omega), List.drop_eq_nil_of_le (by omega), txL, List.append_nil]
theorem text_run : ∀ (j : Nat) {v : ApiValue} (b : List UInt8), dpApiValue v ≤ j → TV v → WF v → KS v → b.length + 700 * wV v ≤ 90000640 → value_text_r j b v = some (b ++ tx v)
  | 0, v, b, h, _, _, _, _ => by rw [dpApiValue_eq] at h; omega
  | j + 1, v, b, h, hv, hw, hk, hb => by
    have hf : ∀ x, x ∈ v.List_ → ∀ b : List UInt8, b.length + 700 * wV x ≤ 90000640 → value_text_r j b x = some (b ++ tx x) := fun x hx b hb => text_run j b (by have := dp_sub hx; omega) (hv.sub x hx) (hw.sub x hx) (hk.sub x hx) hb
    have hwv := wV_eq v
    have hFU := FU_MV
    have hL := hv.list
    rw [value_text_r, value_text_s, jn_eq'V, tx_eq]
    by_cases k1 : v.Kind = 1
    · rw [if_pos k1, if_pos k1, app_ok2V _ _ (by simp; omega)]; rfl
    rw [if_neg k1, if_neg k1]
    by_cases k2 : v.Kind = 2
    · rw [if_pos k2, if_pos k2, app_ok2V _ _ (by simp; omega)]; rfl
    rw [if_neg k2, if_neg k2]
    by_cases k3 : v.Kind = 3
    · rw [if_pos k3, if_pos k3, strconv_AppendInt_o, appendInt_eq _ hv.num (by omega)]; rfl
    rw [if_neg k3, if_neg k3]
    by_cases k4 : v.Kind = 4
    · rw [if_pos k4, if_pos k4, quoted_eq _ _ (by omega)]; rfl
    rw [if_neg k4, if_neg k4, jn_eq'V]
    have ht := tx_len hv hw hk
    rw [tx_eq, if_neg k1, if_neg k2, if_neg k3, if_neg k4] at ht
    by_cases k5 : v.Kind = 5
    · rw [if_pos k5, if_pos k5, decide_eq_true k5]
      rw [if_pos k5] at ht
      simp only [if_true, k5]
      rw [show geti ([([] : List UInt8), [], [], [], [], [91, 93], [123, 125]] : List (List UInt8)) 5 = some [91, 93] from rfl, Option.bind_some, show geti ([91, 93] : List UInt8) 0 = some 91 from rfl, Option.bind_some, app_ok2V _ _ (by simp; omega), Option.bind_some, jn_eq'V, show (0 : Int) = ((0 : Nat) : Int) from rfl,
        textL_run hv hw hk hf FU 0 _ (by omega) (by omega) (by simp only [List.length_append, List.length_cons, List.length_nil, List.drop_zero]; omega), show geti ([91, 93] : List UInt8) 1 = some 93 from rfl, Option.bind_some]
      simp only [List.drop_zero, k5, List.length_cons, List.length_append, List.length_nil] at ht ⊢
      simp only [show decide ((5 : Int) = 6) = false from rfl, decide_true]
      rw [app_ok2V _ _ (by simp only [List.length_append, List.length_cons, List.length_nil]; omega), Option.bind_some]
      simp
    rw [if_neg k5, if_neg k5]
    by_cases k6 : v.Kind = 6
    · rw [if_pos k6, decide_eq_true k6]
      rw [if_neg k5, if_pos k6] at ht
      simp only [if_true, k6]
      rw [show geti ([([] : List UInt8), [], [], [], [], [91, 93], [123, 125]] : List (List UInt8)) 6 = some [123, 125] from rfl, Option.bind_some, show geti ([123, 125] : List UInt8) 0 = some 123 from rfl, Option.bind_some, app_ok2V _ _ (by simp; omega), Option.bind_some, jn_eq'V, show (0 : Int) = ((0 : Nat) : Int) from rfl,
        textL_run hv hw hk hf FU 0 _ (by omega) (by omega) (by simp only [List.length_append, List.length_cons, List.length_nil, List.drop_zero]; omega), show geti ([123, 125] : List UInt8) 1 = some 125 from rfl, Option.bind_some]
      simp only [List.drop_zero, k6, List.length_cons, List.length_append, List.length_nil] at ht ⊢
      simp only [decide_true]
      rw [app_ok2V _ _ (by simp only [List.length_append, List.length_cons, List.length_nil]; omega), Option.bind_some]
      simp
    · rw [if_neg k6, decide_eq_false k6]
      simp only [Bool.false_eq_true, if_false]
      rw [app_ok2V _ _ (by simp; omega)]; rfl
theorem text_eq {v : ApiValue} (b : List UInt8) (hv : TV v) (hw : WF v) (hk : KS v) (hb : b.length + 700 * wV v ≤ 90000640) : value_text b v = some (b ++ tx v) := by
  unfold value_text
  exact text_run _ b (by omega) hv hw hk hb
end Go.Proofs

set_option linter.unusedVariables false
set_option linter.unusedSimpArgs false
namespace Go.Proofs
open Go.Fw
theorem textNL_run {v : ApiValue} (hv : TV v) (hw : WF v) (hk : KS v) (hf : ∀ x, x ∈ v.List_ → ∀ b : List UInt8, b.length + 700 * wV x ≤ 90000640 → value_text b x = some (b ++ tx x))
    {kj : List UInt8 → Option (List UInt8)} : ∀ (J k : Nat) (b : List UInt8), k ≤ v.List_.length → v.List_.length - k < J → b.length + 700 * wL (v.List_.drop k) ≤ 90000000 → value_text_nl_l1 v kj J b (k : Int) = kj (b ++ txL (decide (v.Kind = 6)) (decide (k = 0)) (v.List_.drop k) (v.Keys.drop k))
  | 0, k, b, h1, h2, _ => by omega
  | J + 1, k, b, h1, h2, h3 => by
    rw [value_text_nl_l1]
    by_cases c : k < v.List_.length
    · have hm := List.getElem_mem c
      have hl := tx_len (hv.sub _ hm) (hw.sub _ hm) (hk.sub _ hm)
      have hwp := wV_pos v.List_[k]
      rw [wL_drop _ c] at h3
      rw [if_pos (by omega), geti_natV, List.getElem?_eq_getElem c, Option.bind_some, jn_eq'V, List.drop_eq_getElem_cons c, txL]
      have step : ∀ y : List UInt8, y.length ≤ b.length + 1 → (if v.Kind = 6 then (geti v.Keys (k : Int)).bind fun x19 => (value_quoted y x19).bind fun x20 => (app 140737488355328 x20 ([(58 : UInt8)] : List UInt8)).bind fun x21 => (value_text x21 v.List_[k]).bind fun x22 => value_text_nl_l1 v kj J x22 (i64 ((k : Int) + 1)) else (value_text y v.List_[k]).bind fun x23 => value_text_nl_l1 v kj J x23 (i64 ((k : Int) + 1)))
          = kj (y ++ ((if (decide (v.Kind = 6)) = true then qt ((v.Keys.drop k).headD []) ++ [58] else []) ++ (tx v.List_[k] ++ txL (decide (v.Kind = 6)) false (v.List_.drop (k + 1)) (v.Keys.drop k).tail))) := by
        intro y hy
        have hd0 : decide (k + 1 = 0) = false := decide_eq_false (by omega)
        by_cases k6 : v.Kind = 6
        · have ck : k < v.Keys.length := by rw [hw.obj k6]; exact c
          have hq := hk.key _ (List.getElem_mem ck)
          have hql := qt_len v.Keys[k]
          have hh : (v.Keys.drop k).headD [] = v.Keys[k] := by rw [List.drop_eq_getElem_cons ck]; rfl
          rw [if_pos k6, geti_natV, List.getElem?_eq_getElem ck, Option.bind_some, quoted_eq _ _ (by omega), Option.bind_some, app_ok2V _ _ (by simp only [List.length_append, List.length_cons, List.length_nil]; omega), Option.bind_some, hf _ hm _ (by simp only [List.length_append, List.length_cons, List.length_nil]; omega), Option.bind_some, nxtV c hv.list,
            textNL_run hv hw hk hf J (k + 1) _ (by omega) (by omega) (by simp only [List.length_append, List.length_cons, List.length_nil]; omega), decide_eq_true k6, hd0, if_pos rfl, hh, List.tail_drop]
          simp only [List.append_assoc]
        · rw [if_neg k6, hf _ hm _ (by omega), Option.bind_some, nxtV c hv.list, textNL_run hv hw hk hf J (k + 1) _ (by omega) (by omega) (by simp only [List.length_append]; omega), decide_eq_false k6, hd0, if_neg (by decide), List.tail_drop]
          simp only [List.append_assoc, List.nil_append]
      by_cases k0 : k = 0
      · rw [if_neg (by omega), decide_eq_true k0, if_pos rfl, List.nil_append]
        exact step b (by omega)
      · rw [if_pos (by omega), app_ok2V _ _ (by simp; omega), Option.bind_some, decide_eq_false k0, if_neg (by decide), ← List.append_assoc]
        exact step _ (by simp)
    · rw [if_neg (by omega), List.drop_eq_nil_of_le (by omega), txL, List.append_nil]
theorem text_nl_eq {v : ApiValue} (hv : TV v) (hw : WF v) (hk : KS v) (hb : 700 * wV v ≤ 90000640) : value_text_nl v = some (tx v) := by
  have hf : ∀ x, x ∈ v.List_ → ∀ b : List UInt8, b.length + 700 * wV x ≤ 90000640 → value_text b x = some (b ++ tx x) := fun x hx b hb => text_eq b (hv.sub x hx) (hw.sub x hx) (hk.sub x hx) hb
  have hwv := wV_eq v
  have hFU := FU_MV
  have hL := hv.list
  rw [value_text_nl, jn_eq'V, tx_eq]
  by_cases k1 : v.Kind = 1
  · rw [if_pos k1, if_pos k1, app_ok2V _ _ (by simp)]; rfl
  rw [if_neg k1, if_neg k1]
  by_cases k2 : v.Kind = 2
  · rw [if_pos k2, if_pos k2, app_ok2V _ _ (by simp)]; rfl
  rw [if_neg k2, if_neg k2]
  by_cases k3 : v.Kind = 3
  · rw [if_pos k3, if_pos k3, appendInt_nl_eq hv.num]; rfl
  rw [if_neg k3, if_neg k3]
  by_cases k4 : v.Kind = 4
  · rw [if_pos k4, if_pos k4, quoted_nl_eq _ (by omega)]; rfl
  rw [if_neg k4, if_neg k4, jn_eq'V]
  have ht := tx_len hv hw hk
  rw [tx_eq, if_neg k1, if_neg k2, if_neg k3, if_neg k4] at ht
  by_cases k5 : v.Kind = 5
  · rw [if_pos k5, if_pos k5, decide_eq_true k5]
    rw [if_pos k5] at ht
    simp only [if_true, k5]
    rw [show geti ([([] : List UInt8), [], [], [], [], [91, 93], [123, 125]] : List (List UInt8)) 5 = some [91, 93] from rfl, Option.bind_some, show geti ([91, 93] : List UInt8) 0 = some 91 from rfl, Option.bind_some, app_ok2V _ _ (by simp), Option.bind_some, jn_eq'V, show (0 : Int) = ((0 : Nat) : Int) from rfl,
      textNL_run hv hw hk hf FU 0 _ (by omega) (by omega) (by simp only [List.length_append, List.length_cons, List.length_nil, List.drop_zero]; omega), show geti ([91, 93] : List UInt8) 1 = some 93 from rfl, Option.bind_some]
    simp only [List.drop_zero, k5, List.length_cons, List.length_append, List.length_nil] at ht ⊢
    simp only [show decide ((5 : Int) = 6) = false from rfl, decide_true]
    rw [app_ok2V _ _ (by simp only [List.length_append, List.length_cons, List.length_nil]; omega), Option.bind_some]
    simp
  rw [if_neg k5, if_neg k5]
  by_cases k6 : v.Kind = 6
  · rw [if_pos k6, decide_eq_true k6]
    rw [if_neg k5, if_pos k6] at ht
    simp only [if_true, k6]
    rw [show geti ([([] : List UInt8), [], [], [], [], [91, 93], [123, 125]] : List (List UInt8)) 6 = some [123, 125] from rfl, Option.bind_some, show geti ([123, 125] : List UInt8) 0 = some 123 from rfl, Option.bind_some, app_ok2V _ _ (by simp), Option.bind_some, jn_eq'V, show (0 : Int) = ((0 : Nat) : Int) from rfl,
      textNL_run hv hw hk hf FU 0 _ (by omega) (by omega) (by simp only [List.length_append, List.length_cons, List.length_nil, List.drop_zero]; omega), show geti ([123, 125] : List UInt8) 1 = some 125 from rfl, Option.bind_some]
    simp only [List.drop_zero, k6, List.length_cons, List.length_append, List.length_nil] at ht ⊢
    simp only [decide_true]
    rw [app_ok2V _ _ (by simp only [List.length_append, List.length_cons, List.length_nil]; omega), Option.bind_some]
    simp
  · rw [if_neg k6, decide_eq_false k6]
    simp only [Bool.false_eq_true, if_false]
    rw [app_ok2V _ _ (by simp)]; rfl
/-- Whether a value may be. -/
def mayB (v : ApiValue) : Bool := shB 8 v && decide ((tx v).length ≤ 512)
theorem may_eqV {v : ApiValue} (hv : TV v) (hb : KS v → wV v ≤ 4000) : value_May v = some (mayB v) := by
  unfold value_May mayB
  rw [shaped_eq hv, Option.bind_some]
  cases h : shB 8 v with
  | false => rw [if_neg (by decide)]; rfl
  | true =>
    rw [if_pos rfl, text_nl_eq hv (shB_wf 8 h) (shB_ks 8 h) (by have := hb (shB_ks 8 h); omega), Option.bind_some, Option.bind_some, Bool.true_and]
    exact congrArg some (decide_eq_decide.2 (by omega))
theorem mayB_wf {v : ApiValue} (h : mayB v = true) : WF v := by
  unfold mayB at h
  rw [Bool.and_eq_true] at h
  exact shB_wf 8 h.1
end Go.Proofs

set_option linter.unusedVariables false
set_option linter.unusedSimpArgs false
namespace Go.Proofs
open Go.Fw
/-! The digest never stops: only lengths are looked at. -/
def Tot {α : Type} (P : α → Prop) (o : Option α) : Prop := ∃ x, o = some x ∧ P x
theorem Tot.of {α : Type} {P : α → Prop} {x : α} (h : P x) : Tot P (some x) := ⟨x, rfl, h⟩
theorem Tot.bind {α β : Type} {P : β → Prop} {Q : α → Prop} {o : Option α} {k : α → Option β} (h : Tot Q o) (f : ∀ x, Q x → Tot P (k x)) : Tot P (o.bind k) := by
  obtain ⟨x, rfl, hx⟩ := h
  exact f x hx
theorem Tot.geti {α β : Type} {P : β → Prop} {l : List α} {i : Int} {k : α → Option β} (h : 0 ≤ i ∧ i < l.length) (f : ∀ x, Tot P (k x)) : Tot P ((Go.Fw.geti l i).bind k) := by
  obtain ⟨n, rfl⟩ : ∃ n : Nat, i = (n : Int) := ⟨i.toNat, by omega⟩
  rw [geti_nat, List.getElem?_eq_getElem (show n < l.length by omega)]
  exact f _
theorem Tot.rot {β : Type} {P : β → Prop} {a : UInt32} {b : Int} {k : UInt32 → Option β} (f : ∀ x, Tot P (k x)) : Tot P ((bits_RotateLeft32 a b).bind k) := f _
theorem Tot.mono {α : Type} {P Q : α → Prop} {o : Option α} (h : Tot P o) (f : ∀ x, P x → Q x) : Tot Q o := by
  obtain ⟨x, e, hx⟩ := h
  exact ⟨x, e, f x hx⟩
theorem quad_tot {a i : Int} (ha : 0 ≤ a ∧ a < 4) (hi : 0 ≤ i ∧ i < 8) : Tot (fun x => 0 ≤ x ∧ x < 16) (digest_quads_1_1 a i) := by
  have key : ∀ (a : Fin 4) (i : Fin 8), 0 ≤ i64 ((i64 ((a.val : Int) * 4)) + ((i64 ((i.val : Int) + (i64 ((a.val : Int) * (i64 ((i.val : Int).tdiv 4)))))).tmod 4)) ∧ i64 ((i64 ((a.val : Int) * 4)) + ((i64 ((i.val : Int) + (i64 ((a.val : Int) * (i64 ((i.val : Int).tdiv 4)))))).tmod 4)) < 16 := by decide +kernel
  have h := key ⟨a.toNat, by omega⟩ ⟨i.toNat, by omega⟩
  simp only [Int.toNat_of_nonneg ha.1, Int.toNat_of_nonneg hi.1] at h
  exact ⟨_, rfl, h⟩
def InQ (y : Int × St126) : Prop := (0 ≤ y.1 ∧ y.1 < 8) ∧ (0 ≤ y.2.e0 ∧ y.2.e0 < 16) ∧ (0 ≤ y.2.e1 ∧ y.2.e1 < 16) ∧ (0 ≤ y.2.e2 ∧ y.2.e2 < 16) ∧ (0 ≤ y.2.e3 ∧ y.2.e3 < 16)
theorem quads_tot {X : Type} {c : X → (Int × St126) → Option (Bool × X)} {I : X → Prop} (hc : ∀ x y, I x → InQ y → Tot (fun r => r.1 = true ∧ I r.2) (c x y)) : ∀ (J k : Nat) (x : X), k ≤ 8 → 8 - k < J → I x → Tot I (digest_quads_1_l1 c J (k : Int) x)
  | 0, k, _, _, h, _ => by omega
  | J + 1, k, x, h1, h2, hx => by
    rw [digest_quads_1_l1]
    by_cases hk : k < 8
    · rw [if_pos (by omega)]
      have hi : 0 ≤ (k : Int) ∧ (k : Int) < 8 := ⟨by omega, by omega⟩
      refine (quad_tot ⟨by decide, by decide⟩ hi).bind fun x3 h3 => (quad_tot ⟨by decide, by decide⟩ hi).bind fun x4 h4 => (quad_tot ⟨by decide, by decide⟩ hi).bind fun x5 h5 => (quad_tot ⟨by decide, by decide⟩ hi).bind fun x6 h6 => ?_
      refine (hc x _ hx ⟨hi, h3, h4, h5, h6⟩).bind fun r hr => ?_
      rw [hr.1, if_neg (by decide), nxt hk (by decide)]
      exact quads_tot hc J (k + 1) _ (by omega) (by omega) hr.2
    · rw [if_neg (by omega)]; exact ⟨x, rfl, hx⟩
theorem num_tot : ∀ c ∈ HX, Tot (fun n : Int => 0 ≤ n ∧ n < 16) (digest_number c) := by
  have key : ∀ c ∈ HX, (match digest_number c with | some n => decide (0 ≤ n ∧ n < 16) | none => false) = true := by decide +kernel
  intro c hc
  have := key c hc
  cases h : digest_number c with
  | none => rw [h] at this; cases this
  | some n => rw [h] at this; exact ⟨n, rfl, of_decide_eq_true this⟩
theorem set16 {l : List UInt32} (h : l.length = 16) {i : Nat} {v : UInt32} : (l.set i v).length = 16 := by rw [List.length_set]; exact h
theorem Tot.geti16 {β : Type} {P : β → Prop} {l : List UInt32} {i : Int} {k : UInt32 → Option β} (hl : l.length = 16) (h : 0 ≤ i ∧ i < 16) (f : ∀ x, Tot P (k x)) : Tot P ((Go.Fw.geti l i).bind k) := Tot.geti (by omega) f
theorem Tot.getiHX {β : Type} {P : β → Prop} {l : List UInt8} {i : Int} {k : UInt8 → Option β} (hl : l.length = 16) (hx : ∀ c ∈ l, c ∈ HX) (h : 0 ≤ i ∧ i < 16) (f : ∀ x, x ∈ HX → Tot P (k x)) : Tot P ((Go.Fw.geti l i).bind k) := by
  obtain ⟨n, rfl⟩ : ∃ n : Nat, i = (n : Int) := ⟨i.toNat, by omega⟩
  rw [geti_nat, List.getElem?_eq_getElem (show n < l.length by omega)]
  exact f _ (hx _ (List.getElem_mem _))
theorem Tot.stop {X : Type} {I : X → Prop} {o : Option (Bool × X)} (h : Tot (fun r : Bool × X => r.1 = true ∧ I r.2) o) : Tot (fun r : Bool × (Bool × X) => r.1 = true ∧ (r.2.1 = false ∧ I r.2.2)) (o.map fun r => (r.1, (!r.1, r.2))) := by
  obtain ⟨r, rfl, t1, t2⟩ := h
  exact ⟨_, rfl, t1, by simp [t1], t2⟩
theorem mix_l2_tot {w : List UInt32} (hw : w.length = 16) {kj : UInt32 → UInt32 → UInt32 → UInt32 → UInt32 → UInt32 → UInt32 → UInt32 → Option St79} (hk : ∀ a b c d e f g h, Tot (fun _ => True) (kj a b c d e f g h)) : ∀ (J k : Nat) (a b c d e f g h : UInt32), k ≤ 8 → 8 - k < J → Tot (fun _ => True) (digest_mix_l2 w kj J (k : Int) a b c d e f g h)
  | 0, k, _, _, _, _, _, _, _, _, _, h => by omega
  | J + 1, k, a, b, c, d, e, f, g, h, h1, h2 => by
    rw [digest_mix_l2]
    by_cases hc : k < 8
    · have hi : 0 ≤ (k : Int) ∧ (k : Int) < (([a, b, c, d, e, f, g, h] : List UInt32).length : Int) := ⟨by omega, by show (k : Int) < 8; omega⟩
      have e8 : i64 ((k : Int) + 8) = (k : Int) + 8 := i64_id (by omega) (by omega)
      rw [if_pos (by omega), e8]
      refine Tot.geti hi fun _ => Tot.geti hi fun _ => Tot.geti16 hw (by omega) fun _ => Tot.geti16 hw (by omega) fun _ => Tot.geti16 hw (by omega) fun _ => Tot.geti16 hw (by omega) fun _ => Tot.geti hi fun _ => ?_
      have hs : ∀ v, seti ([a, b, c, d, e, f, g, h] : List UInt32) (k : Int) v = some (([a, b, c, d, e, f, g, h] : List UInt32).set k v) := fun v => by unfold seti; rw [if_pos hi, Int.toNat_natCast]
      rw [hs, Option.bind_some, nxt hc (by decide)]
      exact mix_l2_tot hw hk J (k + 1) _ _ _ _ _ _ _ _ (by omega) (by omega)
    · rw [if_neg (by omega)]; exact hk _ _ _ _ _ _ _ _
theorem mix_l1_tot {O : List (List UInt8)} (hO : O.length = 10) (hr : ∀ r ∈ O, r.length = 16 ∧ ∀ c ∈ r, c ∈ HX) {m : List UInt32} (hm : m.length = 16) (a0 : St79) : ∀ (J k : Nat) (w : List UInt32), k ≤ 10 → 10 - k < J → w.length = 16 → Tot (fun _ => True) (digest_mix_l1 O m a0 J (k : Int) w)
  | 0, k, _, _, h, _ => by omega
  | J + 1, k, w, h1, h2, hw => by
    have hF := FU_M
    have hM : M63 = 9223372036854775807 := rfl
    rw [digest_mix_l1, jn_eq']
    by_cases hc : k < 10
    · have g1 : geti O (k : Int) = some (O[k]'(by omega)) := by rw [geti_nat]; exact List.getElem?_eq_getElem (by omega)
      obtain ⟨q1, q2⟩ := hr _ (List.getElem_mem (show k < O.length by omega))
      rw [if_pos (by omega), g1, Option.bind_some]
      revert q1 q2
      generalize O[k]'(by omega) = row
      intro q1 q2
      unfold digest_quads
      rw [Option.bind_some]
      unfold digest_quads_1
      refine Tot.bind (Q := fun x => x.1 = false ∧ x.2.length = 16) (quads_tot (I := fun (x : Bool × List UInt32) => x.1 = false ∧ x.2.length = 16) ?_ FU 0 _ (by omega) (by omega) ⟨rfl, hw⟩) fun x hx => ?_
      · rintro ⟨b, x⟩ y ⟨rfl, hx⟩ ⟨y1, y2, y3, y4, y5⟩
        dsimp only at hx
        unfold stopC
        rw [if_neg (show ¬ (false = true) by decide)]
        refine Tot.stop (I := fun l : List UInt32 => l.length = 16) ?_
        have e1 : i64 (2 * y.1) = 2 * y.1 := i64_id (by omega) (by omega)
        have e2 : i64 (2 * y.1 + 1) = 2 * y.1 + 1 := i64_id (by omega) (by omega)
        simp only [e1, e2]
        refine Tot.getiHX q1 q2 (by omega) fun a ha => Tot.getiHX q1 q2 (by omega) fun b hb => (num_tot a ha).bind fun n hn => Tot.geti16 hm hn fun _ => Tot.geti16 hm hn fun _ => (num_tot b hb).bind fun n2 hn2 => Tot.geti16 hm hn2 fun _ => Tot.geti16 hm hn2 fun _ => ?_
        rw [jn_eq']
        refine Tot.geti16 hx y2 fun _ => Tot.geti16 hx y3 fun _ => Tot.geti16 hx y4 fun _ => Tot.geti16 hx y5 fun _ => ?_
        repeat (first
          | refine Tot.rot fun _ => ?_
          | refine Tot.geti16 (by repeat (first | exact hx | refine set16 ?_)) (by assumption) fun _ => ?_)
        exact Tot.of ⟨rfl, by repeat (first | exact hx | refine set16 ?_)⟩
      · rw [nxt hc (by decide)]
        exact mix_l1_tot hO hr hm a0 J (k + 1) _ (by omega) (by omega) hx.2
    · rw [if_neg (by omega), jn_eq']
      exact mix_l2_tot hw (fun _ _ _ _ _ _ _ _ => ⟨_, rfl, trivial⟩) FU 0 _ _ _ _ _ _ _ _ (by omega) (by omega)
end Go.Proofs

set_option linter.unusedVariables false
set_option linter.unusedSimpArgs false
namespace Go.Proofs
open Go.Fw
/-! The digest never stops: the rest. -/
theorem words_tot {s : List UInt8} (hs : s.length ≤ 64) {kj : List UInt32 → Option (List UInt32)} (hk : ∀ w : List UInt32, w.length = 16 → Tot (fun x : List UInt32 => x.length = 16) (kj w)) : ∀ (J k : Nat) (w : List UInt32), k ≤ s.length → s.length - k < J → w.length = 16 → Tot (fun x : List UInt32 => x.length = 16) (digest_words_l1 s kj J (k : Int) w)
  | 0, k, _, _, h, _ => by omega
  | J + 1, k, w, h1, h2, hw => by
    rw [digest_words_l1]
    by_cases hc : k < s.length
    · have e1 : i64 ((k : Int).tdiv 4) = ((k / 4 : Nat) : Int) := by rw [Int.tdiv_eq_ediv_of_nonneg (by omega), i64_id (by omega) (by omega)]; omega
      have e2 : i64 (8 * (k : Int).tmod 4) = 8 * ((k % 4 : Nat) : Int) := by rw [Int.tmod_eq_emod_of_nonneg (by omega), i64_id (by omega) (by omega)]; omega
      rw [if_pos (by omega), e1, e2]
      refine Tot.geti (by omega) fun c => Tot.geti16 hw (by omega) fun _ => Tot.geti16 hw (by omega) fun _ => ?_
      rw [if_pos (by omega)]
      refine Tot.geti16 hw (by omega) fun _ => Tot.geti16 hw (by omega) fun _ => ?_
      rw [nxt (n := 64) (by omega) (by decide)]
      exact words_tot hs hk J (k + 1) _ (by omega) (by omega) (set16 hw)
    · rw [if_neg (by omega)]; exact hk w hw
theorem words_all {s : List UInt8} (hs : s.length ≤ 64) : Tot (fun x : List UInt32 => x.length = 16) (digest_words s) := by
  have hF := FU_M
  have hM : M63 = 9223372036854775807 := rfl
  unfold digest_words
  rw [jn_eq']
  exact words_tot hs (fun w hw => Tot.of hw) FU 0 _ (by omega) (by omega) List.length_replicate
theorem mix_tot (a0 : St79) {s : List UInt8} (hs : s.length ≤ 64) (n : UInt64) (b : Bool) : Tot (fun _ => True) (digest_mix a0 s n b) := by
  have hF := FU_M
  have hM : M63 = 9223372036854775807 := rfl
  unfold digest_mix digest_first digest_orders
  rw [Option.bind_some]
  refine (words_all hs).bind fun w hw => ?_
  simp only [jn_eq']
  have l1 : (cpyAt (List.replicate 16 (0 : UInt32)) 0 8 ([a0.e0, a0.e1, a0.e2, a0.e3, a0.e4, a0.e5, a0.e6, a0.e7] : List UInt32)).length = 16 := cpyAt_len List.length_replicate (by decide) (by decide)
  generalize cpyAt (List.replicate 16 (0 : UInt32)) 0 8 ([a0.e0, a0.e1, a0.e2, a0.e3, a0.e4, a0.e5, a0.e6, a0.e7] : List UInt32) = v at l1 ⊢
  have l2 : ∀ ys : List UInt32, (cpyAt v 8 16 ys).length = 16 := fun ys => cpyAt_len l1 (by decide) (by decide)
  refine Tot.geti16 (l2 _) (by decide) fun _ => Tot.geti16 (l2 _) (by decide) fun _ => Tot.geti16 (l2 _) (by decide) fun _ => Tot.geti16 (l2 _) (by decide) fun _ => ?_
  refine Tot.geti16 (set16 (l2 _)) (by decide) fun _ => Tot.geti16 (set16 (l2 _)) (by decide) fun _ => Tot.geti16 (set16 (l2 _)) (by decide) fun _ => Tot.geti16 (set16 (l2 _)) (by decide) fun _ => ?_
  have fin : ∀ w2 : List UInt32, w2.length = 16 → Tot (fun _ => True) (digest_mix_l1 ([([48, 49, 50, 51, 52, 53, 54, 55, 56, 57, 97, 98, 99, 100, 101, 102] : List UInt8), ([101, 97, 52, 56, 57, 102, 100, 54, 49, 99, 48, 50, 98, 55, 53, 51] : List UInt8), ([98, 56, 99, 48, 53, 50, 102, 100, 97, 101, 51, 54, 55, 49, 57, 52] : List UInt8), ([55, 57, 51, 49, 100, 99, 98, 101, 50, 54, 53, 97, 52, 48, 102, 56] : List UInt8), ([57, 48, 53, 55, 50, 52, 97, 102, 101, 49, 98, 99, 54, 56, 51, 100] : List UInt8), ([50, 99, 54, 97, 48, 98, 56, 51, 52, 100, 55, 53, 102, 101, 49, 57] : List UInt8), ([99, 53, 49, 102, 101, 100, 52, 97, 48, 55, 54, 51, 57, 50, 56, 98] : List UInt8), ([100, 98, 55, 101, 99, 49, 51, 57, 53, 48, 102, 52, 56, 54, 50, 97] : List UInt8), ([54, 102, 101, 57, 98, 51, 48, 56, 99, 50, 100, 55, 49, 52, 97, 53] : List UInt8), ([97, 50, 56, 52, 55, 54, 49, 53, 102, 98, 57, 101, 51, 99, 100, 48] : List UInt8)] : List (List UInt8)) w a0 FU 0 w2) := fun w2 h2 =>
    mix_l1_tot rfl (by decide +kernel) hw a0 FU 0 w2 (by omega) (by omega) h2
  cases b with
  | true =>
    rw [if_pos rfl]
    refine Tot.geti16 (set16 (set16 (l2 _))) (by decide) fun _ => Tot.geti16 (set16 (set16 (l2 _))) (by decide) fun _ => Tot.geti16 (set16 (set16 (l2 _))) (by decide) fun _ => Tot.geti16 (set16 (set16 (l2 _))) (by decide) fun _ => ?_
    exact fin _ (set16 (set16 (set16 (l2 _))))
  | false =>
    rw [if_neg (by decide)]
    exact fin _ (set16 (set16 (l2 _)))
theorem concat2 (a b : List UInt8) (h : a.length + b.length ≤ 100000000000) : slices_Concat_byte_byte ([a, b] : List (List UInt8)) = some (a ++ b) := by
  have hF := FU_M
  have hM : M63 = 9223372036854775807 := rfl
  obtain ⟨J, hJ⟩ : ∃ J, FU = J + 3 := ⟨FU - 3, by omega⟩
  unfold slices_Concat_byte_byte
  rw [jn_eq', hJ]
  have i0 : i64 (0 + (a.length : Int)) = (a.length : Int) := by rw [i64_id (by omega) (by omega)]; omega
  have i1 : i64 ((a.length : Int) + (b.length : Int)) = (a.length : Int) + (b.length : Int) := i64_id (by omega) (by omega)
  have i2 : i64 (0 + 1) = 1 := by decide
  have i3 : i64 (1 + 1) = 2 := by decide
  have g0 : geti ([a, b] : List (List UInt8)) 0 = some a := rfl
  have g1 : geti ([a, b] : List (List UInt8)) 1 = some b := rfl
  have hl : (([a, b] : List (List UInt8)).length : Int) = 2 := rfl
  rw [slices_Concat_byte_byte_l1, hl, if_pos (by decide), g0, Option.bind_some, i0, if_neg (by omega), i2, slices_Concat_byte_byte_l1, hl, if_pos (by decide), g1, Option.bind_some, i1, if_neg (by omega), i3, slices_Concat_byte_byte_l1, hl, if_neg (by decide)]
  have hg : slices_Grow_byte_byte_nl ((a.length : Int) + (b.length : Int)) = some [] := by
    unfold slices_Grow_byte_byte_nl
    rw [i64_id (by omega) (by omega), if_neg (by omega)]
    by_cases c : 0 < (a.length : Int) + (b.length : Int) - 0
    · rw [if_pos c, if_pos c, if_pos (by omega)]
    · rw [if_neg c]
  rw [hg, Option.bind_some, jn_eq', slices_Concat_byte_byte_l2, hl, if_pos (by decide), g0, Option.bind_some, app_ok2 _ _ (by simp; omega), Option.bind_some, i2, slices_Concat_byte_byte_l2, hl, if_pos (by decide), g1, Option.bind_some, app_ok2 _ _ (by simp; omega), Option.bind_some, i3, slices_Concat_byte_byte_l2, hl, if_neg (by decide), List.nil_append]
theorem writeL_tot {kj : UInt32 → UInt32 → UInt32 → UInt32 → UInt32 → UInt32 → UInt32 → UInt32 → (List UInt8) → UInt64 → Option ApiDigest} {P : ApiDigest → Prop} (hk : ∀ a b c d e f g h r n, r.length ≤ 64 → Tot P (kj a b c d e f g h r n)) : ∀ (J : Nat) (a b c d e f g h : UInt32) (r : List UInt8) (n : UInt64), r.length < J → Tot P (digest_Write_l1 kj J a b c d e f g h r n)
  | 0, _, _, _, _, _, _, _, _, _, _, h => by omega
  | J + 1, a, b, c, d, e, f, g, h, r, n, hr => by
    rw [digest_Write_l1]
    by_cases hc : 64 < (r.length : Int)
    · have s1 : subl r 0 64 = some (r.take 64) := by unfold subl; rw [if_pos ⟨by decide, by decide, by omega⟩]; rfl
      have s2 : subl r 64 (r.length : Int) = some (r.drop 64) := by
        unfold subl; rw [if_pos ⟨by decide, by omega, by omega⟩]
        rw [Int.toNat_natCast, show (64 : Int).toNat = 64 from rfl, List.take_of_length_le (by simp)]
      rw [if_pos hc, s1, Option.bind_some]
      refine (mix_tot _ (by rw [List.length_take]; omega) _ _).bind fun x _ => ?_
      rw [s2, Option.bind_some]
      exact writeL_tot hk J _ _ _ _ _ _ _ _ _ _ (by rw [List.length_drop]; omega)
    · rw [if_neg hc]; exact hk _ _ _ _ _ _ _ _ _ _ (by omega)
theorem write_tot (d : ApiDigest) (s : List UInt8) (h : d.Rest.length + s.length ≤ 100000000000) : Tot (fun x : ApiDigest => x.Rest.length ≤ 64 ∧ x.Size = d.Size) (digest_Write d s) := by
  have hF := FU_M
  have hM : M63 = 9223372036854775807 := rfl
  unfold digest_Write
  rw [concat2 _ _ h, Option.bind_some, jn_eq']
  refine writeL_tot ?_ FU _ _ _ _ _ _ _ _ _ _ (by simp; omega)
  intro a b c d e f g h r n hr
  unfold slices_Clone_byte_byte
  rw [app_ok2 _ _ (by simp; omega), Option.bind_some, Option.bind_some]
  exact ⟨_, rfl, hr, rfl⟩
theorem sumL_tot {x1 : ApiDigest} (hx : x1.Size = 16) {a b c d e f g h : UInt32} {kj : List UInt8 → Option (List UInt8)} (hk : ∀ l, Tot (fun _ => True) (kj l)) : ∀ (J k : Nat) (t : List UInt8), k ≤ 16 → 16 - k < J → t.length ≤ k → Tot (fun _ => True) (digest_Sum_l1 x1 a b c d e f g h kj J t (k : Int))
  | 0, k, _, _, h, _ => by omega
  | J + 1, k, t, h1, h2, ht => by
    rw [digest_Sum_l1]
    by_cases hc : k < 16
    · have e1 : i64 ((k : Int).tdiv 4) = ((k / 4 : Nat) : Int) := by rw [Int.tdiv_eq_ediv_of_nonneg (by omega), i64_id (by omega) (by omega)]; omega
      have e2 : i64 (8 * (k : Int).tmod 4) = 8 * ((k % 4 : Nat) : Int) := by rw [Int.tmod_eq_emod_of_nonneg (by omega), i64_id (by omega) (by omega)]; omega
      have hi : 0 ≤ ((k / 4 : Nat) : Int) ∧ ((k / 4 : Nat) : Int) < (([a, b, c, d, e, f, g, h] : List UInt32).length : Int) := ⟨by omega, by show ((k / 4 : Nat) : Int) < 8; omega⟩
      rw [if_pos (by rw [hx]; omega), e1, e2]
      refine Tot.geti hi fun _ => Tot.geti hi fun _ => ?_
      rw [if_pos (by omega), app_ok2 _ _ (by simp; omega), Option.bind_some, nxt hc (by decide)]
      exact sumL_tot hx hk J (k + 1) _ (by omega) (by omega) (by simp; omega)
    · rw [if_neg (by rw [hx]; omega)]; exact hk t
theorem sum_tot (d : ApiDigest) (hd : d.Size = 16) (hr : d.Rest.length ≤ 64) : Tot (fun _ => True) (digest_Sum d) := by
  have hF := FU_M
  have hM : M63 = 9223372036854775807 := rfl
  unfold digest_Sum
  refine (write_tot d [] (by simp; omega)).bind fun x ⟨h1, h2⟩ => ?_
  have hs : digest_sized x.Size = some true := by rw [h2, hd]; rfl
  rw [hs, Option.bind_some, if_neg (by decide), jn_eq']
  have hl : (cpyAt (List.replicate 64 (0 : UInt8)) 0 64 x.Rest).length = 64 := cpyAt_len List.length_replicate (by decide) (by decide)
  refine (mix_tot _ (by omega) _ _).bind fun y _ => ?_
  simp only [jn_eq']
  exact sumL_tot (h2.trans hd) (fun l => ⟨_, rfl, trivial⟩) FU 0 [] (by omega) (by omega) (by simp)
theorem ofL_tot {l : List (List UInt8)} (hl : l.length ≤ 100) (hx : ∀ x ∈ l, x.length ≤ 10000000000) {kj : UInt32 → UInt32 → UInt32 → UInt32 → UInt32 → UInt32 → UInt32 → UInt32 → (List UInt8) → UInt64 → Int → Option ((List UInt8) × Int)} {P : List UInt8 × Int → Prop} (hk : ∀ a b c d e f g h r n, r.length ≤ 64 → Tot P (kj a b c d e f g h r n 16)) : ∀ (J k : Nat) (a b c d e f g h : UInt32) (r : List UInt8) (n : UInt64), k ≤ l.length → l.length - k < J → r.length ≤ 64 → Tot P (digest_Of_l1 l kj J (k : Int) a b c d e f g h r n 16)
  | 0, k, _, _, _, _, _, _, _, _, _, _, _, h, _ => by omega
  | J + 1, k, a, b, c, d, e, f, g, h, r, n, h1, h2, hr => by
    rw [digest_Of_l1]
    by_cases hc : k < l.length
    · rw [if_pos (by omega), geti_nat, List.getElem?_eq_getElem hc, Option.bind_some]
      have := hx _ (List.getElem_mem hc)
      refine (write_tot _ _ (by show r.length + _ ≤ _; omega)).bind fun x ⟨p1, p2⟩ => ?_
      rw [p2, nxt (n := 100) (by omega) (by decide)]
      exact ofL_tot hl hx hk J (k + 1) _ _ _ _ _ _ _ _ _ _ (by omega) (by omega) p1
    · rw [if_neg (by omega)]; exact hk _ _ _ _ _ _ _ _ _ _ hr
theorem of_tot {l : List (List UInt8)} (hl : l.length ≤ 100) (hx : ∀ x ∈ l, x.length ≤ 10000000000) : Tot (fun _ => True) (digest_Of 16 l) := by
  have hF := FU_M
  have hM : M63 = 9223372036854775807 := rfl
  unfold digest_Of
  have hb : Tot (fun x : ApiDigest × Int => x.2 = 0 ∧ x.1.Rest = [] ∧ x.1.Size = 16) (digest_Begin 16) := ⟨_, rfl, rfl, rfl, rfl⟩
  refine hb.bind fun x ⟨h1, h2, h3⟩ => ?_
  rw [if_neg (by rw [h1]; decide), jn_eq', h2, h3]
  refine ofL_tot hl hx ?_ FU 0 _ _ _ _ _ _ _ _ _ _ (by omega) (by omega) (by simp)
  intro a b c d e f g h r n hr
  exact (sum_tot _ rfl hr).bind fun y _ => ⟨_, rfl, trivial⟩
theorem short_tot {l : List (List UInt8)} (hl : l.length ≤ 100) (hx : ∀ x ∈ l, x.length ≤ 10000000000) : Tot (fun _ => True) (digest_Short l) := by
  unfold digest_Short
  refine (of_tot hl hx).bind fun x _ => ?_
  rw [Option.bind_some]
  exact ⟨_, rfl, trivial⟩
end Go.Proofs

set_option linter.unusedVariables false
set_option linter.unusedSimpArgs false
namespace Go.Proofs
open Go.Fw
/-! RevOne. -/
theorem vprint_tot {v : ApiValue} (hv : TV v) (hb : KS v → wV v ≤ 4000) : Tot (fun x : List UInt8 × Int => x.1.length ≤ 512) (value_Print v) := by
  unfold value_Print
  rw [may_eqV hv hb, Option.bind_some]
  cases h : mayB v with
  | false => exact ⟨_, rfl, by simp⟩
  | true =>
    have h2 := h
    unfold mayB at h2
    rw [Bool.and_eq_true] at h2
    have hk := shB_ks 8 h2.1
    have hw := hb hk
    rw [if_neg (by decide), text_nl_eq hv (mayB_wf h) hk (by omega), Option.bind_some]
    exact ⟨_, rfl, of_decide_eq_true h2.2⟩
theorem mkL_tot {a : ApiRev} {P : ApiRev × Int → Prop} {kj : List UInt8 → Option (ApiRev × Int)} (hk : ∀ l, l.length ≤ 9 → Tot P (kj l)) : ∀ (J k : Nat) (t : List UInt8), k ≤ 8 → k < J → t.length + k ≤ 9 → Tot P (rev_Make_l1 a kj J t ((k : Int) - 1))
  | 0, k, _, _, h, _ => by omega
  | J + 1, 0, t, _, _, h => by
    rw [rev_Make_l1, if_neg (by decide)]; exact hk t (by omega)
  | J + 1, k + 1, t, h1, h2, h3 => by
    have e0 : (((k + 1 : Nat) : Int) - 1) = (k : Int) := by omega
    have e1 : i64 (8 * (k : Int)) = 8 * (k : Int) := i64_id (by omega) (by omega)
    have e2 : i64 ((k : Int) - 1) = (k : Int) - 1 := i64_id (by omega) (by omega)
    rw [e0, rev_Make_l1, if_pos (by omega), e1, if_pos (by omega), app_ok2 _ _ (by simp; omega), Option.bind_some, e2]
    exact mkL_tot hk J k _ (by omega) (by omega) (by simp; omega)
theorem make_tot (a : ApiRev) (d : Int) {v : ApiValue} (hv : TV v) (hb : KS v → wV v ≤ 4000) : Tot (fun x : ApiRev × Int => (x.2 = 0 ∧ a.Gen.toNat < 4611686018427387903 ∧ x.1.Gen = ofI64 ((a.Gen.toNat : Int) + 1)) ∨ (x.2 ≠ 0 ∧ x.1 = zeroR)) (rev_Make a d v) := by
  have hF := FU_M
  have hM : M63 = 9223372036854775807 := rfl
  unfold rev_Make
  refine (vprint_tot hv hb).bind fun p hp => ?_
  have hq : Tot (fun b : Bool => b = false → a.Gen.toNat ≤ 4611686018427387903) (if ¬ ((a.Gen.toNat : Int) = 0 ∧ ([a.Sum.e0, a.Sum.e1, a.Sum.e2, a.Sum.e3, a.Sum.e4, a.Sum.e5, a.Sum.e6, a.Sum.e7, a.Sum.e8, a.Sum.e9, a.Sum.e10, a.Sum.e11, a.Sum.e12, a.Sum.e13, a.Sum.e14, a.Sum.e15] : List UInt8) = ([(0 : UInt8), (0 : UInt8), (0 : UInt8), (0 : UInt8), (0 : UInt8), (0 : UInt8), (0 : UInt8), (0 : UInt8), (0 : UInt8), (0 : UInt8), (0 : UInt8), (0 : UInt8), (0 : UInt8), (0 : UInt8), (0 : UInt8), (0 : UInt8)] : List UInt8)) then (rev_May a).bind fun x3 => some (!x3) else some false) := by
    by_cases c : (a.Gen.toNat : Int) = 0 ∧ ([a.Sum.e0, a.Sum.e1, a.Sum.e2, a.Sum.e3, a.Sum.e4, a.Sum.e5, a.Sum.e6, a.Sum.e7, a.Sum.e8, a.Sum.e9, a.Sum.e10, a.Sum.e11, a.Sum.e12, a.Sum.e13, a.Sum.e14, a.Sum.e15] : List UInt8) = ([(0 : UInt8), (0 : UInt8), (0 : UInt8), (0 : UInt8), (0 : UInt8), (0 : UInt8), (0 : UInt8), (0 : UInt8), (0 : UInt8), (0 : UInt8), (0 : UInt8), (0 : UInt8), (0 : UInt8), (0 : UInt8), (0 : UInt8), (0 : UInt8)] : List UInt8)
    · rw [if_neg (fun h => h c)]
      exact ⟨_, rfl, fun _ => by omega⟩
    · rw [if_pos c, may_eq, Option.bind_some]
      refine ⟨_, rfl, fun h => ?_⟩
      unfold mayR at h
      have := of_decide_eq_true (Bool.not_eq_false' .. ▸ h)
      omega
  refine hq.bind fun b hb2 => ?_
  by_cases c : ((b = true) ∨ ((d ≠ 0) ∧ (d ≠ 1))) ∨ (p.2 ≠ 0)
  · rw [if_pos c]; exact ⟨_, rfl, .inr ⟨by decide, rfl⟩⟩
  · rw [if_neg c]
    have hbf : b = false := by
      cases b with
      | false => rfl
      | true => exact absurd (.inl (.inl rfl)) c
    have hg := hb2 hbf
    by_cases c2 : (a.Gen.toNat : Int) = 4611686018427387903
    · rw [if_pos c2]; exact ⟨_, rfl, .inr ⟨by decide, rfl⟩⟩
    · rw [if_neg c2, jn_eq']
      refine mkL_tot (k := 8) ?_ FU _ (by decide) (by omega) (by simp)
      intro l hl
      refine (short_tot (by simp) ?_).bind fun y _ => ⟨_, rfl, .inl ⟨rfl, by omega, rfl⟩⟩
      intro x hx
      simp only [List.mem_cons, List.not_mem_nil, or_false] at hx
      rcases hx with rfl | rfl | rfl
      · omega
      · show 16 ≤ _; omega
      · omega
theorem cmp_lt {a x : ApiRev} (h : a.Gen.toNat < x.Gen.toNat) : rev_Cmp a x = some (-1) := by
  have hF := FU_M
  obtain ⟨J, hJ⟩ : ∃ J, FU = J + 1 := ⟨FU - 1, by omega⟩
  unfold rev_Cmp cmp_Compare_uint64 cmp_isNaN_uint64 cmp_Or_int
  simp only [Option.bind_some, ne_eq, not_true_eq_false, decide_false, Bool.false_eq_true, if_false, jn_eq']
  rw [if_pos (by omega), Option.bind_some, hJ, cmp_Or_int_l1]
  rfl
def CHL (l : List ApiRev) : Prop := ∀ (k : Nat) (h : k < l.length), mayR l[k] = true ∧ (∀ h0 : 0 < k, ((ofI64 ((l[k].Gen.toNat : Int) + 1)).toNat : Int) = (l[k - 1].Gen.toNat : Int))
theorem CHL.nil : CHL [] := fun k h => by simp at h
theorem CHL.cons {x : ApiRev} {l : List ApiRev} (hl : CHL l) (hx : mayR x = true) (h : ∀ y ∈ l.head?, ((ofI64 ((y.Gen.toNat : Int) + 1)).toNat : Int) = (x.Gen.toNat : Int)) : CHL (x :: l) := by
  intro k hk
  match k, hk with
  | 0, _ => exact ⟨hx, fun h0 => by omega⟩
  | 1, hk =>
    cases l with
    | nil => simp at hk
    | cons y l => exact ⟨(hl 0 (by simp)).1, fun _ => h y rfl⟩
  | k + 2, hk =>
    have hk2 : k + 1 < l.length := by simp at hk; omega
    obtain ⟨h1, h2⟩ := hl (k + 1) hk2
    exact ⟨h1, fun _ => h2 (by omega)⟩
theorem chainL_run {l : List ApiRev} (hl : l.length ≤ 1000) (hc : CHL l) {kj : Unit → Option Bool} : ∀ (J k : Nat), k ≤ l.length → l.length - k < J → rev_Chain_l1 l kj J (k : Int) = kj ()
  | 0, k, _, h => by omega
  | J + 1, k, h1, h2 => by
    rw [rev_Chain_l1]
    by_cases c : k < l.length
    · obtain ⟨q1, q2⟩ := hc k c
      rw [if_pos (by omega), geti_nat, List.getElem?_eq_getElem c, Option.bind_some, may_eq, q1, Option.bind_some, if_neg (by decide)]
      by_cases c0 : k = 0
      · rw [if_neg (by omega), nxt (n := 1000) (by omega) (by decide)]
        exact chainL_run hl hc J (k + 1) (by omega) (by omega)
      · have ei : i64 ((k : Int) - 1) = ((k - 1 : Nat) : Int) := by rw [i64_id (by omega) (by omega)]; omega
        rw [if_pos (by omega), ei, geti_nat, List.getElem?_eq_getElem (show k - 1 < l.length by omega), Option.bind_some, if_neg (fun h => h (q2 (by omega))), nxt (n := 1000) (by omega) (by decide)]
        exact chainL_run hl hc J (k + 1) (by omega) (by omega)
    · rw [if_neg (by omega)]
theorem chain_of {l : List ApiRev} (hl : l.length ≤ 1000) (hc : CHL l) : rev_Chain l = some (decide ((1 ≤ (l.length : Int)) ∧ ((l.length : Int) ≤ 16))) := by
  have hF := FU_M
  have hM : M63 = 9223372036854775807 := rfl
  unfold rev_Chain
  rw [jn_eq', show (0 : Int) = ((0 : Nat) : Int) from rfl, chainL_run hl hc FU 0 (by omega) (by omega)]
abbrev KO : Type := (List ApiRev) → UInt64 → UInt8 → UInt8 → UInt8 → UInt8 → UInt8 → UInt8 → UInt8 → UInt8 → UInt8 → UInt8 → UInt8 → UInt8 → UInt8 → UInt8 → UInt8 → UInt8 → Option Bool
def oL (a1 : List ApiValue) (a2 : Int) (kj : KO) (J : Nat) (l : List ApiRev) (i : Int) (r : ApiRev) : Option Bool :=
  law06_RevOne_l1 a1 a2 kj J l i r.Gen r.Sum.e0 r.Sum.e1 r.Sum.e2 r.Sum.e3 r.Sum.e4 r.Sum.e5 r.Sum.e6 r.Sum.e7 r.Sum.e8 r.Sum.e9 r.Sum.e10 r.Sum.e11 r.Sum.e12 r.Sum.e13 r.Sum.e14 r.Sum.e15
def kO (kj : KO) (l : List ApiRev) (r : ApiRev) : Option Bool :=
  kj l r.Gen r.Sum.e0 r.Sum.e1 r.Sum.e2 r.Sum.e3 r.Sum.e4 r.Sum.e5 r.Sum.e6 r.Sum.e7 r.Sum.e8 r.Sum.e9 r.Sum.e10 r.Sum.e11 r.Sum.e12 r.Sum.e13 r.Sum.e14 r.Sum.e15
def tailO (a1 : List ApiValue) (a2 : Int) (kj : KO) (J : Nat) (l : List ApiRev) (i : Int) (r : ApiRev) (m n : ApiRev × Int) : Option Bool :=
  if (¬ ((m.1.Gen.toNat : Int) = (n.1.Gen.toNat : Int) ∧ sL m.1.Sum = sL n.1.Sum)) ∨ (m.2 ≠ n.2) then some false else if m.2 ≠ 0 then (if (m.1.Gen.toNat : Int) = 0 ∧ sL m.1.Sum = sL zeroR.Sum then (law06_awake).bind fun x86 => some x86 else some false).bind fun x85 => some x85 else (if (m.1.Gen.toNat : Int) ≠ ((ofI64 ((r.Gen.toNat : Int) + 1)).toNat : Int) then some true else (rev_Cmp r m.1).bind fun x88 => some (decide (0 ≤ x88))).bind fun x87 => (if x87 = true then some true else (rev_May m.1).bind fun x90 => some (!x90)).bind fun x89 => if x89 = true then some false else (app 5864062014805 ([m.1] : List ApiRev) l).bind fun x91 => oL a1 a2 kj J x91 (i64 (i + 1)) m.1
theorem oL_succ (a1 : List ApiValue) (a2 : Int) (kj : KO) (J : Nat) (l : List ApiRev) (i : Int) (r : ApiRev) : oL a1 a2 kj (J + 1) l i r = if i < (a1.length : Int) then (geti a1 i).bind fun v => (law01_Long v).bind fun b => if b = true then (law06_awake).bind fun x42 => some x42 else if 0 ≤ i then (geti a1 i).bind fun v1 => (rev_Make r (andI (a2.fdiv (2 ^ (min (i).toNat 64))) 1) v1).bind fun m => (geti a1 i).bind fun v2 => (rev_Make r (andI (a2.fdiv (2 ^ (min (i).toNat 64))) 1) v2).bind fun n => tailO a1 a2 kj J l i r m n else none else kO kj l r := by
  unfold oL
  rw [law06_RevOne_l1]
  rfl
theorem one_run {a1 : List ApiValue} {a2 : Int} {kj : KO} (ha : a1.length ≤ 20) (hv : ∀ v ∈ a1, TV v) (hk : ∀ l r, l.length ≤ 20 → CHL l → kO kj l r = some true) : ∀ (J k : Nat) (l : List ApiRev) (r : ApiRev), k ≤ a1.length → a1.length - k < J → l.length = k → CHL l → (∀ y ∈ l.head?, y = r) → oL a1 a2 kj J l (k : Int) r = some true
  | 0, k, _, _, _, h, _, _, _ => by omega
  | J + 1, k, l, r, h1, h2, hl, hc, hh => by
    rw [oL_succ]
    by_cases c : k < a1.length
    · have ht := hv _ (List.getElem_mem c)
      rw [if_pos (by omega), geti_nat, List.getElem?_eq_getElem c]
      generalize a1[k] = v at ht ⊢
      obtain ⟨b, e, g⟩ := long_eq ht
      simp only [Option.bind_some, e]
      cases b with
      | true => rw [if_pos rfl, awake_true]; rfl
      | false =>
        rw [if_neg (by decide), if_pos (by omega)]
        obtain ⟨⟨x, er⟩, em, hm⟩ := make_tot r (andI (a2.fdiv (2 ^ (min ((k : Int)).toNat 64))) 1) ht (fun h => g h rfl)
        rw [em, Option.bind_some, Option.bind_some]
        unfold tailO
        rw [if_neg (by rintro (h | h); exact h ⟨rfl, rfl⟩; exact h rfl)]
        dsimp only at hm ⊢
        rcases hm with ⟨h0, hg, hx⟩ | ⟨h0, hx⟩
        · have ex : (x.Gen.toNat : Int) = (r.Gen.toNat : Int) + 1 := by rw [hx]; exact Go.Fw.ofI64_nat (by omega) (by omega)
          have hmx : mayR x = true := by unfold mayR; exact decide_eq_true (by omega)
          rw [if_neg (fun h => h h0), if_neg (fun h => h (by rw [hx])), cmp_lt (by omega), Option.bind_some, Option.bind_some, if_neg (by decide), may_eq, hmx, Option.bind_some, Option.bind_some, if_neg (by decide), app_ok2 _ _ (by simp; omega), Option.bind_some, nxt (n := 20) (by omega) (by decide)]
          refine one_run ha hv hk J (k + 1) _ _ (by omega) (by omega) (by simp; omega) ?_ (fun y hy => by simpa using hy.symm)
          refine CHL.cons hc hmx ?_
          intro y hy
          rw [hh y hy, hx]
        · rw [if_pos h0, hx, if_pos ⟨rfl, rfl⟩, awake_true]; rfl
    · rw [if_neg (by omega)]
      exact hk l r (by omega) hc
theorem RevOne_pure (a : ApiRev) (l : List ApiValue) (d : Int) (hv : ∀ v ∈ l, TV v) : law06_RevOne a l d = some true := by
  have hF := FU_M
  have hM : M63 = 9223372036854775807 := rfl
  unfold law06_RevOne
  by_cases c : 20 < (l.length : Int)
  · rw [if_pos c, awake_true]; rfl
  · rw [if_neg c, jn_eq']
    refine one_run (k := 0) (r := a) (l := []) (by omega) hv ?_ FU (by omega) (by omega) rfl CHL.nil (fun y hy => by cases hy)
    intro q r hq hc
    unfold kO
    dsimp only
    rw [chain_of (by omega) hc, Option.bind_some]
    have e : decide ((1 ≤ (q.length : Int)) ∧ ((q.length : Int) ≤ 16)) = decide ((0 < (q.length : Int)) ∧ ((q.length : Int) ≤ 16)) := decide_eq_decide.2 (by omega)
    rw [e, if_pos (by simp), awake_true]
    rfl
end Go.Proofs
