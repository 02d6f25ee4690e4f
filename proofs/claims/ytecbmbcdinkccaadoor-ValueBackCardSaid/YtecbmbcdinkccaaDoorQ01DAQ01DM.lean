import Derived.Test.YtecbmbcdinkccaaDoorP01D
import Derived.Lib.ParseIntBTie
import Derived.Lib.AtoiAllCases
set_option linter.unusedVariables false
set_option linter.unusedSimpArgs false
namespace Go.Proofs
open Go.Fw
theorem awake_true : law01_awake = some true := by
  decide +kernel
/-! Small tools. -/
theorem i64_id {p : Int} (h0 : -9223372036854775808 ≤ p) (h1 : p ≤ 9223372036854775807) : i64 p = p := i64_eq h0 h1
theorem jn_eq' {α β : Type} (f : α) (g : α → β) : jn f g = g f := by unfold jn; exact id rfl
theorem geti_at {α : Type} {l : List α} {i : Int} (h0 : 0 ≤ i) (h1 : i < (l.length : Int)) : ∃ x, geti l i = some x ∧ x ∈ l ∧ l[i.toNat]? = some x := by
  unfold geti
  rw [if_pos h0]
  have h2 : i.toNat < l.length := by omega
  exact ⟨l[i.toNat], List.getElem?_eq_getElem h2, List.getElem_mem h2, List.getElem?_eq_getElem h2⟩
theorem geti_nat {α : Type} (l : List α) (k : Nat) : geti l (k : Int) = l[k]? := by
  unfold geti
  rw [if_pos (by omega)]
  simp
theorem app_ok {α : Type} {cap : Nat} (a b : List α) (h : a.length + b.length ≤ 1000000) (hc : 1000000 ≤ cap) : app cap a b = some (a ++ b) := by
  unfold app
  rw [if_pos (by omega)]
theorem FU_big : 10000000000 ≤ FU := Nat.le_trans (by decide) FU_ge
theorem subl_head {α : Type} (l : List α) (k : Nat) (h : k ≤ l.length) : subl l 0 (k : Int) = some (l.take k) := by
  unfold subl
  rw [if_pos ⟨by omega, by omega, by omega⟩]
  simp
theorem subl_tail {α : Type} (l : List α) (k : Nat) (h : k ≤ l.length) : subl l (k : Int) (l.length : Int) = some (l.drop k) := by
  unfold subl
  rw [if_pos ⟨by omega, by omega, by omega⟩]
  simp only [Int.toNat_natCast, Option.some.injEq]
  rw [List.take_of_length_le]
  rw [List.length_drop]; omega
theorem half_eq {x : Int} (h0 : 0 ≤ x) (h1 : x ≤ 4611686018427387904) : i64 ((shr64 (ofI64 (i64 x)) 1).toNat : Int) = x / 2 := by
  rw [i64_id (p := x) (by omega) (by omega)]
  have e : (ofI64 x).toNat = x.toNat := by
    unfold ofI64
    rw [UInt64.toNat_ofNat', Nat.mod_eq_of_lt (by omega)]
    omega
  have e2 : (shr64 (ofI64 x) 1).toNat = x.toNat / 2 := by
    unfold shr64
    rw [e, show min (1 : Int).toNat 64 = 1 by decide, UInt64.toNat_ofNat', Nat.mod_eq_of_lt (by omega)]
  rw [e2, i64_id (by omega) (by omega)]
  omega
/-! The order of the names. -/
theorem cmp_refl : ∀ a : List UInt8, Lib.compareBytes a a = 0
  | [] => rfl
  | x :: r => by
    rw [Lib.compareBytes, if_neg (UInt8.lt_irrefl x), if_neg (UInt8.lt_irrefl x)]
    exact cmp_refl r
theorem cmp_zero : ∀ a b : List UInt8, Lib.compareBytes a b = 0 ↔ a = b
  | [], [] => by simp [Lib.compareBytes]
  | [], _ :: _ => by simp [Lib.compareBytes]
  | _ :: _, [] => by simp [Lib.compareBytes]
  | x :: a, y :: b => by
    rw [Lib.compareBytes]
    by_cases h1 : x < y
    · have : x ≠ y := fun e => UInt8.lt_irrefl y (e ▸ h1)
      simp [h1, this]
    · by_cases h2 : y < x
      · have : x ≠ y := fun e => UInt8.lt_irrefl y (by rw [e] at h2; exact h2)
        simp [h1, h2, this]
      · have e : x = y := UInt8.le_antisymm (UInt8.not_lt.1 h2) (UInt8.not_lt.1 h1)
        subst e
        simp [h1, cmp_zero a b]
/-- A name ahead of another one. -/
def nlt (a b : List UInt8) : Prop := Lib.compareBytes a b < 0
instance (a b : List UInt8) : Decidable (nlt a b) := by unfold nlt; infer_instance
theorem nlt_irrefl (a : List UInt8) : ¬ nlt a a := by unfold nlt; rw [cmp_refl]; decide
theorem nlt_cons {x y : UInt8} {a b : List UInt8} : nlt (x :: a) (y :: b) ↔ x < y ∨ (x = y ∧ nlt a b) := by
  unfold nlt
  rw [Lib.compareBytes]
  by_cases h1 : x < y
  · simp [h1]
  · by_cases h2 : y < x
    · have : x ≠ y := fun e => UInt8.lt_irrefl y (by rw [e] at h2; exact h2)
      simp [h1, h2, this]
    · have e : x = y := UInt8.le_antisymm (UInt8.not_lt.1 h2) (UInt8.not_lt.1 h1)
      subst e
      simp [h1]
theorem nlt_nil (a : List UInt8) : ¬ nlt a [] := by
  unfold nlt
  cases a <;> simp [Lib.compareBytes]
theorem nil_nlt (x : UInt8) (a : List UInt8) : nlt [] (x :: a) := by
  unfold nlt; simp [Lib.compareBytes]
theorem nlt_trans : ∀ {a b c : List UInt8}, nlt a b → nlt b c → nlt a c
  | _, _, [], _, h => absurd h (nlt_nil _)
  | _, [], _ :: _, h, _ => absurd h (nlt_nil _)
  | [], _ :: _, z :: c, _, _ => nil_nlt z c
  | x :: a, y :: b, z :: c, h1, h2 => by
    rw [nlt_cons] at h1 h2 ⊢
    rcases h1 with h1 | ⟨rfl, h1⟩
    · rcases h2 with h2 | ⟨rfl, h2⟩
      · exact .inl (UInt8.lt_trans h1 h2)
      · exact .inl h1
    · rcases h2 with h2 | ⟨rfl, h2⟩
      · exact .inl h2
      · exact .inr ⟨rfl, nlt_trans h1 h2⟩
theorem nlt_total : ∀ (a b : List UInt8), nlt a b ∨ a = b ∨ nlt b a
  | [], [] => .inr (.inl rfl)
  | [], y :: b => .inl (nil_nlt y b)
  | x :: a, [] => .inr (.inr (nil_nlt x a))
  | x :: a, y :: b => by
    rw [nlt_cons, nlt_cons]
    by_cases h1 : x < y
    · exact .inl (.inl h1)
    · by_cases h2 : y < x
      · exact .inr (.inr (.inl h2))
      · have e : x = y := UInt8.le_antisymm (UInt8.not_lt.1 h2) (UInt8.not_lt.1 h1)
        subst e
        rcases nlt_total a b with h | rfl | h
        · exact .inl (.inr ⟨rfl, h⟩)
        · exact .inr (.inl rfl)
        · exact .inr (.inr (.inr ⟨rfl, h⟩))
theorem nlt_asymm {a b : List UInt8} (h : nlt a b) : ¬ nlt b a := fun h2 => nlt_irrefl a (nlt_trans h h2)
theorem nlt_ne {a b : List UInt8} (h : nlt a b) : a ≠ b := fun e => nlt_irrefl b (e ▸ h)
theorem less_nlt : ∀ a b : List UInt8, Op.bytesLess a b = decide (nlt a b)
  | [], [] => by simp [Op.bytesLess, nlt_nil]
  | x :: a, [] => by simp [Op.bytesLess, nlt_nil]
  | [], y :: b => by simp [Op.bytesLess, nil_nlt]
  | x :: a, y :: b => by
    rw [Op.bytesLess, less_nlt a b]
    rw [show decide (nlt (x :: a) (y :: b)) = decide (x < y ∨ (x = y ∧ nlt a b)) from decide_eq_decide.2 nlt_cons]
    by_cases h1 : x < y <;> by_cases h2 : x = y <;> by_cases h3 : nlt a b <;> simp [h1, h2, h3]
/-! Values as they come. -/
abbrev M63 : Nat := 9223372036854775807
/-- Numbers that are of their type, rows that have a length. -/
inductive TV : ApiValue → Prop
  | mk {v : ApiValue} : (-9223372036854775808 ≤ v.Kind ∧ v.Kind ≤ 9223372036854775807) → (-9223372036854775808 ≤ v.Num ∧ v.Num ≤ 9223372036854775807) → v.Text.length ≤ M63 → v.List_.length ≤ M63 → v.Keys.length ≤ M63 → (∀ k ∈ v.Keys, k.length ≤ M63) → (∀ x, x ∈ v.List_ → TV x) → TV v
theorem TV.kind {v : ApiValue} (h : TV v) : -9223372036854775808 ≤ v.Kind ∧ v.Kind ≤ 9223372036854775807 := by cases h; assumption
theorem TV.num {v : ApiValue} (h : TV v) : -9223372036854775808 ≤ v.Num ∧ v.Num ≤ 9223372036854775807 := by cases h; assumption
theorem TV.text {v : ApiValue} (h : TV v) : v.Text.length ≤ M63 := by cases h; assumption
theorem TV.list {v : ApiValue} (h : TV v) : v.List_.length ≤ M63 := by cases h; assumption
theorem TV.keys {v : ApiValue} (h : TV v) : v.Keys.length ≤ M63 := by cases h; assumption
theorem TV.key {v : ApiValue} (h : TV v) : ∀ k ∈ v.Keys, k.length ≤ M63 := by cases h; assumption
theorem TV.sub {v : ApiValue} (h : TV v) : ∀ x, x ∈ v.List_ → TV x := by cases h; assumption
theorem FU_M : M63 + 1000 < FU := Nat.lt_of_lt_of_le (by decide) FU_ge
theorem FU_succ (n : Nat) (h : n ≤ 1000) : ∃ k, FU = k + n := ⟨FU - n, by have := FU_M; omega⟩
theorem nxt {k n : Nat} (h : k < n) (hn : n ≤ M63) : i64 ((k : Int) + 1) = ((k + 1 : Nat) : Int) := by
  rw [i64_id (by omega) (by have : n ≤ 9223372036854775807 := hn; omega)]; rfl
/-! How numbers and texts stand. -/
def cI (a b : Int) : Int := if a < b then -1 else if b < a then 1 else 0
def cS (a b : List UInt8) : Int := if nlt a b then -1 else if nlt b a then 1 else 0
def or2 (x y : Int) : Int := if x ≠ 0 then x else y
/-! How values stand. -/
def kp (p q : List (List UInt8)) : Int := match p, q with
  | x :: _, y :: _ => cS x y
  | _, _ => 0
mutual
def cV : ApiValue → ApiValue → Int
  | ⟨k, n, t, l, p⟩, b => or2 (or2 (cI k b.Kind) (or2 (cI n b.Num) (cS t b.Text))) (cL l b.List_ p b.Keys)
def cL : List ApiValue → List ApiValue → List (List UInt8) → List (List UInt8) → Int
  | [], [], _, _ => 0
  | [], _ :: _, _, _ => -1
  | _ :: _, [], _, _ => 1
  | x :: l, y :: m, p, q => or2 (or2 (kp p q) (cV x y)) (cL l m p.tail q.tail)
end
theorem cV_eq (a b : ApiValue) : cV a b = or2 (or2 (cI a.Kind b.Kind) (or2 (cI a.Num b.Num) (cS a.Text b.Text))) (cL a.List_ b.List_ a.Keys b.Keys) := by cases a; rw [cV]
theorem cS_self (a : List UInt8) : cS a a = 0 := by unfold cS; rw [if_neg (nlt_irrefl a), if_neg (nlt_irrefl a)]
theorem dp_sub {v x : ApiValue} (h : x ∈ v.List_) : dpApiValue x < dpApiValue v := by
  have := dpApiValue_le h
  rw [dpApiValue_eq v]; omega
end Go.Proofs

set_option linter.unusedVariables false
set_option linter.unusedSimpArgs false
namespace Go.Proofs
open Go.Fw
/-! The order of values is one. -/
theorem cI_flip (a b : Int) : cI b a = - cI a b := by unfold cI; repeat' split <;> omega
theorem cI_zero {a b : Int} : cI a b = 0 ↔ a = b := by unfold cI; repeat' split <;> omega
theorem cI_rng (a b : Int) : cI a b = -1 ∨ cI a b = 0 ∨ cI a b = 1 := by unfold cI; repeat' split <;> omega
theorem cS_flip (a b : List UInt8) : cS b a = - cS a b := by
  unfold cS
  by_cases h1 : nlt a b
  · rw [if_neg (nlt_asymm h1), if_pos h1, if_pos h1]; rfl
  · by_cases h2 : nlt b a
    · rw [if_pos h2, if_neg h1, if_pos h2]
    · rw [if_neg h2, if_neg h1, if_neg h1, if_neg h2]; rfl
theorem cS_zero {a b : List UInt8} : cS a b = 0 ↔ a = b := by
  unfold cS
  constructor
  · intro h
    by_cases h1 : nlt a b
    · rw [if_pos h1] at h; omega
    · by_cases h2 : nlt b a
      · rw [if_neg h1, if_pos h2] at h; omega
      · rcases nlt_total a b with h | h | h
        · exact absurd h h1
        · exact h
        · exact absurd h h2
  · rintro rfl; exact cS_self a
theorem cS_rng (a b : List UInt8) : cS a b = -1 ∨ cS a b = 0 ∨ cS a b = 1 := by unfold cS; repeat' split <;> omega
theorem or2_flip (x y : Int) : or2 (-x) (-y) = - or2 x y := by unfold or2; repeat' split <;> omega
theorem or2_zero {x y : Int} : or2 x y = 0 ↔ x = 0 ∧ y = 0 := by unfold or2; split <;> omega
theorem or2_rng {x y : Int} (hx : x = -1 ∨ x = 0 ∨ x = 1) (hy : y = -1 ∨ y = 0 ∨ y = 1) : or2 x y = -1 ∨ or2 x y = 0 ∨ or2 x y = 1 := by unfold or2; split <;> omega
theorem kp_flip (p q : List (List UInt8)) : kp q p = - kp p q := by
  cases p with
  | nil => cases q <;> rfl
  | cons x p => cases q with
    | nil => rfl
    | cons y q => exact cS_flip x y
theorem kp_rng (p q : List (List UInt8)) : kp p q = -1 ∨ kp p q = 0 ∨ kp p q = 1 := by
  cases p <;> cases q <;> simp [kp, cS_rng]
mutual
theorem cV_flip : ∀ a b : ApiValue, cV b a = - cV a b
  | ⟨k, n, t, l, p⟩, ⟨k2, n2, t2, l2, p2⟩ => by
    rw [cV, cV]
    simp only
    rw [cI_flip k k2, cI_flip n n2, cS_flip t t2, cL_flip l l2 p p2, or2_flip, or2_flip, or2_flip]
theorem cL_flip : ∀ (l m : List ApiValue) (p q : List (List UInt8)), cL m l q p = - cL l m p q
  | [], [], _, _ => by rw [cL, cL]; rfl
  | [], _ :: _, _, _ => by rw [cL, cL]; rfl
  | _ :: _, [], _, _ => by rw [cL, cL]
  | x :: l, y :: m, p, q => by rw [cL, cL, cV_flip x y, cL_flip l m p.tail q.tail, kp_flip p q, or2_flip, or2_flip]
end
mutual
theorem cV_rng : ∀ a b : ApiValue, cV a b = -1 ∨ cV a b = 0 ∨ cV a b = 1
  | ⟨k, n, t, l, p⟩, b => by
    rw [cV]
    exact or2_rng (or2_rng (cI_rng _ _) (or2_rng (cI_rng _ _) (cS_rng _ _))) (cL_rng l _ p _)
theorem cL_rng : ∀ (l m : List ApiValue) (p q : List (List UInt8)), cL l m p q = -1 ∨ cL l m p q = 0 ∨ cL l m p q = 1
  | [], [], _, _ => by rw [cL]; omega
  | [], _ :: _, _, _ => by rw [cL]; omega
  | _ :: _, [], _, _ => by rw [cL]; omega
  | x :: l, y :: m, p, q => by rw [cL]; exact or2_rng (or2_rng (kp_rng _ _) (cV_rng x y)) (cL_rng l m _ _)
end
/-- Names just where they belong. -/
inductive WF : ApiValue → Prop
  | mk {v : ApiValue} : (v.Kind = 6 → v.Keys.length = v.List_.length) → (v.Kind ≠ 6 → v.Keys = []) → (∀ x, x ∈ v.List_ → WF x) → WF v
theorem WF.obj {v : ApiValue} (h : WF v) : v.Kind = 6 → v.Keys.length = v.List_.length := by cases h; assumption
theorem WF.nokeys {v : ApiValue} (h : WF v) : v.Kind ≠ 6 → v.Keys = [] := by cases h; assumption
theorem WF.sub {v : ApiValue} (h : WF v) : ∀ x, x ∈ v.List_ → WF x := by cases h; assumption
/-- Names that belong to each, or none at all. -/
def Fit2 (l m : List ApiValue) (p q : List (List UInt8)) : Prop := (p.length = l.length ∧ q.length = m.length) ∨ (p = [] ∧ q = [])
theorem WF.fit {a b : ApiValue} (ha : WF a) (hb : WF b) (h : a.Kind = b.Kind) : Fit2 a.List_ b.List_ a.Keys b.Keys := by
  by_cases c : a.Kind = 6
  · exact .inl ⟨ha.obj c, hb.obj (h ▸ c)⟩
  · exact .inr ⟨ha.nokeys c, hb.nokeys (h ▸ c)⟩
theorem cL_zero : ∀ (l m : List ApiValue) (p q : List (List UInt8)), Fit2 l m p q → (∀ x, x ∈ l → ∀ y, y ∈ m → cV x y = 0 → x = y) → cL l m p q = 0 → l = m ∧ p = q
  | [], [], p, q, hf, _, _ => by
    rcases hf with ⟨h1, h2⟩ | ⟨h1, h2⟩
    · exact ⟨rfl, by rw [List.eq_nil_of_length_eq_zero h1, List.eq_nil_of_length_eq_zero h2]⟩
    · exact ⟨rfl, by rw [h1, h2]⟩
  | [], _ :: _, _, _, _, _, h => by rw [cL] at h; omega
  | _ :: _, [], _, _, _, _, h => by rw [cL] at h; omega
  | x :: l, y :: m, p, q, hf, hz, h => by
    rw [cL, or2_zero, or2_zero] at h
    obtain ⟨⟨h1, h2⟩, h3⟩ := h
    obtain rfl := hz x (by simp) y (by simp) h2
    have hz' : ∀ x, x ∈ l → ∀ y, y ∈ m → cV x y = 0 → x = y := fun a ha b hb => hz a (by simp [ha]) b (by simp [hb])
    rcases hf with ⟨e1, e2⟩ | ⟨rfl, rfl⟩
    · match p, q, e1, e2 with
      | u :: p, w :: q, e1, e2 =>
        simp only [List.length_cons, Nat.add_right_cancel_iff] at e1 e2
        obtain ⟨rfl, rfl⟩ := cL_zero l m p q (.inl ⟨e1, e2⟩) hz' h3
        have : u = w := cS_zero.1 h1
        rw [this]; exact ⟨rfl, rfl⟩
    · obtain ⟨rfl, _⟩ := cL_zero l m [] [] (.inr ⟨rfl, rfl⟩) hz' h3
      exact ⟨rfl, rfl⟩
theorem cV_zero_n : ∀ (n : Nat) (a b : ApiValue), dpApiValue a ≤ n → WF a → WF b → cV a b = 0 → a = b
  | 0, a, b, h, _, _, _ => by rw [dpApiValue_eq] at h; omega
  | n + 1, a, b, h, ha, hb, hz => by
    rw [cV_eq, or2_zero, or2_zero, or2_zero, cI_zero, cI_zero, cS_zero] at hz
    obtain ⟨⟨h1, h2, h3⟩, h4⟩ := hz
    have := cL_zero _ _ _ _ (ha.fit hb h1) (fun x hx y hy => cV_zero_n n x y (by have := dp_sub hx; omega) (ha.sub x hx) (hb.sub y hy)) h4
    cases a; cases b
    simp_all
mutual
theorem cV_self : ∀ a : ApiValue, cV a a = 0
  | ⟨k, n, t, l, p⟩ => by
    rw [cV]; simp only
    rw [cI_zero.2 rfl, cI_zero.2 rfl, cS_self, cL_self l p]; rfl
theorem cL_self : ∀ (l : List ApiValue) (p : List (List UInt8)), cL l l p p = 0
  | [], p => by rw [cL]
  | x :: l, p => by
    rw [cL, cV_self x, cL_self l p.tail]
    cases p <;> simp [kp, cS_self, or2]
end
theorem cV_zero {a b : ApiValue} (ha : WF a) (hb : WF b) : cV a b = 0 ↔ a = b :=
  ⟨cV_zero_n _ a b (Nat.le_refl _) ha hb, fun h => by rw [h]; exact cV_self b⟩
/-- What is ahead of what is ahead is ahead. -/
def Tri (x y z : Int) : Prop := x ≤ 0 → y ≤ 0 → ((x < 0 ∨ y < 0) → z < 0) ∧ (x = 0 → y = 0 → z = 0)
theorem Tri.lex {x y z x2 y2 z2 : Int} (h : Tri x y z) (h2 : x = 0 → y = 0 → Tri x2 y2 z2) : Tri (or2 x x2) (or2 y y2) (or2 z z2) := by
  unfold Tri or2 at *
  intro hx hy
  by_cases c1 : x = 0
  · by_cases c2 : y = 0
    · subst c1 c2
      have h3 := (h (by omega) (by omega)).2 rfl rfl
      subst h3
      simp only [ne_eq, not_true, if_false] at hx hy ⊢
      exact h2 rfl rfl hx hy
    · subst c1
      simp only [ne_eq, not_true, if_false, c2, not_false_eq_true, if_true] at hx hy ⊢
      have := (h (by omega) hy).1 (.inr (by omega))
      rw [if_pos (by omega)]
      refine ⟨fun _ => this, fun _ h => ?_⟩
      first | exact absurd h c2 | exact h.elim
  · simp only [ne_eq, c1, not_false_eq_true, if_true] at hx ⊢
    by_cases c2 : y = 0
    · subst c2
      have := (h hx (by omega)).1 (.inl (by omega))
      rw [if_pos (show ¬ z = 0 by omega)]
      refine ⟨fun _ => this, fun h _ => ?_⟩
      first | exact h.elim | omega
    · simp only [ne_eq, c2, not_false_eq_true, if_true] at hy ⊢
      have := (h hx hy).1 (.inl (by omega))
      rw [if_pos (show ¬ z = 0 by omega)]
      refine ⟨fun _ => this, fun h _ => ?_⟩
      first | exact h.elim | omega
theorem tri_cI (a b c : Int) : Tri (cI a b) (cI b c) (cI a c) := by
  unfold Tri cI
  intro h1 h2
  repeat' split at h1
  all_goals (repeat' split at h2)
  all_goals (repeat' split)
  all_goals (first | omega | (constructor <;> intros <;> omega))
theorem cS_neg {a b : List UInt8} : cS a b < 0 ↔ nlt a b := by
  unfold cS
  constructor
  · intro h
    by_cases c : nlt a b
    · exact c
    · rw [if_neg c] at h; split at h <;> omega
  · intro h; rw [if_pos h]; omega
theorem tri_cS (a b c : List UInt8) : Tri (cS a b) (cS b c) (cS a c) := by
  intro h1 h2
  have e1 : nlt a b ∨ a = b := by rcases cS_rng a b with h | h | h; exact .inl (cS_neg.1 (by omega)); exact .inr (cS_zero.1 h); omega
  have e2 : nlt b c ∨ b = c := by rcases cS_rng b c with h | h | h; exact .inl (cS_neg.1 (by omega)); exact .inr (cS_zero.1 h); omega
  refine ⟨fun h => cS_neg.2 ?_, fun h3 h4 => ?_⟩
  · rcases e1 with e1 | rfl
    · rcases e2 with e2 | rfl
      · exact nlt_trans e1 e2
      · exact e1
    · rcases e2 with e2 | rfl
      · exact e2
      · rw [cS_self] at h; omega
  · obtain rfl := cS_zero.1 h3
    obtain rfl := cS_zero.1 h4
    exact cS_self _
theorem Tri.zero : Tri 0 0 0 := fun _ _ => ⟨fun h => by omega, fun _ _ => rfl⟩
theorem tri_cL : ∀ (l m n : List ApiValue) (p q r : List (List UInt8)), ((p.length = l.length ∧ q.length = m.length ∧ r.length = n.length) ∨ (p = [] ∧ q = [] ∧ r = [])) →
    (∀ x, x ∈ l → ∀ y, y ∈ m → ∀ z, z ∈ n → Tri (cV x y) (cV y z) (cV x z)) → Tri (cL l m p q) (cL m n q r) (cL l n p r)
  | [], [], [], p, q, r, _, _ => by rw [cL, cL, cL]; exact Tri.zero
  | [], [], _ :: _, p, q, r, _, _ => by rw [cL, cL, cL]; intro _ _; exact ⟨fun _ => by omega, fun _ h => by omega⟩
  | [], _ :: _, [], p, q, r, _, _ => by rw [cL, cL, cL]; intro _ h; omega
  | [], _ :: _, _ :: _, p, q, r, _, _ => by rw [cL, cL]; intro _ _; exact ⟨fun _ => by omega, fun h => by omega⟩
  | _ :: _, [], _, p, q, r, _, _ => by rw [cL]; intro h; omega
  | _ :: _, _ :: _, [], p, q, r, _, _ => by
    have e : ∀ (y : ApiValue) (m : List ApiValue), cL (y :: m) [] q r = 1 := fun y m => by rw [cL]
    rw [e]; intro _ h; omega
  | x :: l, y :: m, z :: n, p, q, r, hf, hz => by
    rw [cL, cL, cL]
    refine Tri.lex (Tri.lex ?_ fun _ _ => hz x (by simp) y (by simp) z (by simp)) fun _ _ => ?_
    · rcases hf with ⟨e1, e2, e3⟩ | ⟨rfl, rfl, rfl⟩
      · match p, q, r, e1, e2, e3 with
        | u :: p, w :: q, t :: r, _, _, _ => exact tri_cS u w t
      · exact Tri.zero
    · refine tri_cL l m n p.tail q.tail r.tail ?_ (fun a ha b hb c hc => hz a (by simp [ha]) b (by simp [hb]) c (by simp [hc]))
      rcases hf with ⟨e1, e2, e3⟩ | ⟨rfl, rfl, rfl⟩
      · left; simp only [List.length_tail, e1, e2, e3, List.length_cons]; omega
      · exact .inr ⟨rfl, rfl, rfl⟩
theorem tri_cV_n : ∀ (n : Nat) (a b c : ApiValue), dpApiValue a ≤ n → WF a → WF b → WF c → Tri (cV a b) (cV b c) (cV a c)
  | 0, a, b, c, h, _, _, _ => by rw [dpApiValue_eq] at h; omega
  | n + 1, a, b, c, h, ha, hb, hc => by
    rw [cV_eq a b, cV_eq b c, cV_eq a c]
    refine Tri.lex (Tri.lex (tri_cI _ _ _) fun _ _ => Tri.lex (tri_cI _ _ _) fun _ _ => tri_cS _ _ _) fun h1 h2 => ?_
    rw [or2_zero, or2_zero, cI_zero] at h1 h2
    refine tri_cL _ _ _ _ _ _ ?_ (fun x hx y hy z hz => tri_cV_n n x y z (by have := dp_sub hx; omega) (ha.sub x hx) (hb.sub y hy) (hc.sub z hz))
    by_cases e : a.Kind = 6
    · exact .inl ⟨ha.obj e, hb.obj (h1.1 ▸ e), hc.obj (h2.1 ▸ h1.1 ▸ e)⟩
    · exact .inr ⟨ha.nokeys e, hb.nokeys (h1.1 ▸ e), hc.nokeys (h2.1 ▸ h1.1 ▸ e)⟩
theorem tri_cV {a b c : ApiValue} (ha : WF a) (hb : WF b) (hc : WF c) : Tri (cV a b) (cV b c) (cV a c) := tri_cV_n _ a b c (Nat.le_refl _) ha hb hc
end Go.Proofs

set_option linter.unusedVariables false
set_option linter.unusedSimpArgs false
namespace Go.Proofs
open Go.Fw
/-! Whether values are the same. -/
noncomputable def eqV (a b : ApiValue) : Bool := @decide (a = b) (Classical.propDecidable _)
theorem eqV_iff {a b : ApiValue} : eqV a b = true ↔ a = b := by unfold eqV; simp
noncomputable def eqL (a b : List ApiValue) : Bool := @decide (a = b) (Classical.propDecidable _)
theorem eqL_iff {a b : List ApiValue} : eqL a b = true ↔ a = b := by unfold eqL; simp
theorem b_eq {p q : Bool} (h : p = true ↔ q = true) : p = q := by cases p <;> cases q <;> simp_all
theorem eqL_cons (x y : ApiValue) (l m : List ApiValue) : eqL (x :: l) (y :: m) = (eqV x y && eqL l m) := b_eq (by rw [Bool.and_eq_true, eqL_iff, eqL_iff, eqV_iff, List.cons.injEq])
/-! Plain texts, names. -/
def okB (c : UInt8) : Bool := decide (32 ≤ c.toNat) && decide (c.toNat ≤ 126)
def plB (s : List UInt8) : Bool := s.all okB
theorem plain_run {s : List UInt8} (hl : s.length ≤ M63) {kj : Unit → Option Bool} (hk : kj () = some true) : ∀ (J k : Nat), k ≤ s.length → s.length - k < J → value_plain_l1 s kj J (k : Int) = some (plB (s.drop k))
  | 0, k, h1, h2 => by omega
  | J + 1, k, h1, h2 => by
    rw [value_plain_l1]
    by_cases c : k < s.length
    · rw [if_pos (by omega), geti_nat, List.getElem?_eq_getElem c, Option.bind_some, List.drop_eq_getElem_cons c]
      show _ = some (okB s[k] && plB (s.drop (k + 1)))
      unfold okB
      by_cases c1 : s[k].toNat < 32
      · rw [if_pos (by omega), Option.bind_some, if_pos rfl, decide_eq_false (show ¬ 32 ≤ s[k].toNat by omega)]; rfl
      · rw [if_neg (by omega), Option.bind_some, Option.bind_some]
        by_cases c2 : 126 < s[k].toNat
        · rw [decide_eq_true (show (126 : Int) < _ by omega), if_pos rfl, decide_eq_false (show ¬ s[k].toNat ≤ 126 by omega)]; simp
        · rw [decide_eq_false (show ¬ (126 : Int) < _ by omega), if_neg (by decide), nxt c hl, plain_run hl hk J (k + 1) (by omega) (by omega), decide_eq_true (show 32 ≤ s[k].toNat by omega), decide_eq_true (show s[k].toNat ≤ 126 by omega)]; rfl
    · rw [if_neg (by omega), hk, List.drop_eq_nil_of_le (by omega)]; rfl
theorem plain_eq (s : List UInt8) (hl : s.length ≤ M63) : value_plain s = some (plB s) := by
  unfold value_plain
  have := FU_M
  rw [jn_eq', show (0 : Int) = ((0 : Nat) : Int) from rfl, plain_run hl rfl FU 0 (by omega) (by omega)]; rfl
def keyB (s : List UInt8) : Bool := decide (1 ≤ s.length ∧ s.length ≤ 24) && (plB s && !Lib.containsAny s [32, 46, 34])
theorem key_eq (s : List UInt8) (hl : s.length ≤ M63) : value_key s = some (keyB s) := by
  unfold value_key keyB
  by_cases c : 1 ≤ s.length ∧ s.length ≤ 24
  · rw [if_pos (by omega), plain_eq s hl, Option.bind_some, Option.bind_some, decide_eq_true c, Bool.true_and]
    cases h : plB s with
    | false => rw [if_neg (by decide)]; rfl
    | true =>
      have hp : s.all (fun b => decide (b.toNat < 128)) = true := by
        unfold plB at h
        rw [List.all_eq_true] at h ⊢
        intro x hx
        have := h x hx
        unfold okB at this
        simp only [Bool.and_eq_true, decide_eq_true_eq] at this
        exact decide_eq_true (by omega)
      rw [if_pos rfl, if_pos ⟨hp, by decide, by omega, by decide⟩]; rfl
  · rw [if_neg (by omega), Option.bind_some, if_neg (by decide), decide_eq_false c]; rfl
/-- Rising names. -/
def kOK : Option (List UInt8) → List (List UInt8) → Bool
  | _, [] => true
  | pr, k :: r => keyB k && ((match pr with | none => true | some p => decide (nlt p k)) && kOK (some k) r)
end Go.Proofs

set_option linter.unusedVariables false
set_option linter.unusedSimpArgs false
namespace Go.Proofs
open Go.Fw
/-! Whether a value is of a form that may be. -/
theorem kOK_cons (pr : Option (List UInt8)) (k : List UInt8) (r : List (List UInt8)) : kOK pr (k :: r) = (keyB k && ((match pr with | none => true | some p => decide (nlt p k)) && kOK (some k) r)) := by
  cases pr <;> rfl
theorem kOK_nil (pr : Option (List UInt8)) : kOK pr [] = true := by cases pr <;> rfl
def prv (l : List (List UInt8)) (k : Nat) : Option (List UInt8) := if k = 0 then none else l[k - 1]?
theorem shKeys_run {v : ApiValue} (hv : TV v) {kj : Unit → Option Bool} : ∀ (J k : Nat), k ≤ v.Keys.length → v.Keys.length - k < J → value_shaped_s_l1 v kj J (k : Int) = if kOK (prv v.Keys k) (v.Keys.drop k) = true then kj () else some false
  | 0, k, h1, h2 => by omega
  | J + 1, k, h1, h2 => by
    rw [value_shaped_s_l1]
    by_cases c : k < v.Keys.length
    · rw [if_pos (by omega), geti_nat, List.getElem?_eq_getElem c, Option.bind_some, key_eq _ (hv.key _ (List.getElem_mem c)), Option.bind_some, List.drop_eq_getElem_cons c, kOK_cons]
      cases hk : keyB v.Keys[k] with
      | false => rw [if_pos (by decide), Option.bind_some, if_pos rfl, Bool.false_and, if_neg (by decide)]
      | true =>
        rw [if_neg (by decide), Bool.true_and]
        have hp : prv v.Keys (k + 1) = some v.Keys[k] := by unfold prv; rw [if_neg (by omega), Nat.add_sub_cancel, List.getElem?_eq_getElem c]
        by_cases c0 : k = 0
        · have e : prv v.Keys k = none := by unfold prv; rw [if_pos c0]
          rw [if_neg (by omega), Option.bind_some, Option.bind_some, if_neg (by decide), nxt c hv.keys, shKeys_run hv J (k + 1) (by omega) (by omega), hp, e]
          simp
        · have hlt : k - 1 < v.Keys.length := by omega
          have e : prv v.Keys k = some v.Keys[k - 1] := by unfold prv; rw [if_neg c0, List.getElem?_eq_getElem hlt]
          have ei : i64 ((k : Int) - 1) = ((k - 1 : Nat) : Int) := by rw [i64_id (by omega) (by have := hv.keys; have hM : M63 = 9223372036854775807 := rfl; omega)]; omega
          rw [if_pos (by omega), ei, geti_nat, List.getElem?_eq_getElem hlt, Option.bind_some, Option.bind_some, Option.bind_some, less_nlt, e]
          simp only
          by_cases hn : nlt v.Keys[k - 1] v.Keys[k]
          · rw [if_neg (by simp [hn]), nxt c hv.keys, shKeys_run hv J (k + 1) (by omega) (by omega), hp]; simp [hn]
          · rw [if_pos (by simp [hn])]; simp [hn]
    · rw [if_neg (by omega), List.drop_eq_nil_of_le (by omega), kOK_nil, if_pos rfl]
theorem shIdx_run {l : List ApiValue} (hl : l.length ≤ M63) {f : ApiValue → Int → Option Bool} {d : Int} {g : ApiValue → Bool} (hf : ∀ x, x ∈ l → f x (i64 (d - 1)) = some (g x)) {kj : Unit → Option Int} : ∀ (J k : Nat), k ≤ l.length → l.length - k < J →
    (∃ i : Nat, slices_IndexFunc_api_Value_api_Value_c29_l1 l f d kj J (k : Int) = some (i : Int) ∧ (l.drop k).all g = false) ∨ (slices_IndexFunc_api_Value_api_Value_c29_l1 l f d kj J (k : Int) = kj () ∧ (l.drop k).all g = true)
  | 0, k, h1, h2 => by omega
  | J + 1, k, h1, h2 => by
    rw [slices_IndexFunc_api_Value_api_Value_c29_l1]
    by_cases c : k < l.length
    · rw [if_pos (by omega), geti_nat, List.getElem?_eq_getElem c, Option.bind_some, value_shaped_1, hf _ (List.getElem_mem c), Option.bind_some, Option.bind_some, List.drop_eq_getElem_cons c, List.all_cons]
      cases hg : g l[k] with
      | false => exact .inl ⟨k, by rw [if_pos (by decide)], rfl⟩
      | true =>
        rw [if_neg (by decide), nxt c hl, Bool.true_and]
        exact shIdx_run hl hf J (k + 1) (by omega) (by omega)
    · rw [if_neg (by omega), List.drop_eq_nil_of_le (by omega)]
      exact .inr ⟨rfl, rfl⟩
theorem shAll_eq {l : List ApiValue} (hl : l.length ≤ M63) {f : ApiValue → Int → Option Bool} {d : Int} {g : ApiValue → Bool} (hf : ∀ x, x ∈ l → f x (i64 (d - 1)) = some (g x)) : slices_ContainsFunc_api_Value_api_Value_c29 f l d = some (!(l.all g)) := by
  unfold slices_ContainsFunc_api_Value_api_Value_c29 slices_IndexFunc_api_Value_api_Value_c29
  have := FU_M
  rw [jn_eq', show (0 : Int) = ((0 : Nat) : Int) from rfl]
  rcases shIdx_run hl hf (kj := fun _ => some (-1)) FU 0 (by omega) (by omega) with ⟨i, h1, h2⟩ | ⟨h1, h2⟩
  · rw [h1, Option.bind_some, decide_eq_true (by omega)]
    rw [List.drop_zero] at h2; rw [h2]; rfl
  · rw [h1, Option.bind_some, decide_eq_false (by omega)]
    rw [List.drop_zero] at h2; rw [h2]; rfl
/-- What stands in a value of a kind. -/
def hdB (v : ApiValue) : Bool := decide (0 ≤ v.Kind ∧ v.Kind ≤ 6 ∧ (v.Kind = 3 ∨ v.Num = 0) ∧ (v.Kind = 4 ∨ v.Text = []) ∧ (v.Kind = 6 ∨ v.Keys = []) ∧ (v.Kind = 6 → v.Keys.length = v.List_.length) ∧ (5 ≤ v.Kind ∨ v.List_ = []))
def shB : Nat → ApiValue → Bool
  | 0, _ => false
  | d + 1, v => hdB v && (plB v.Text && (kOK none v.Keys && v.List_.all (shB d)))
theorem len0 {α : Type} {l : List α} : ((l.length : Int) ≠ (([] : List α).length : Int)) ↔ l ≠ [] := by
  cases l with
  | nil => simp
  | cons x r => constructor
                · intro _ h; cases h
                · intro _ h; simp at h; omega
theorem shaped_run : ∀ (d j : Nat) {v : ApiValue}, d < j → d ≤ 100 → TV v → value_shaped_r j v (d : Int) = some (shB d v)
  | d, 0, v, h, _, _ => by omega
  | 0, j + 1, v, h, _, hv => by rw [value_shaped_r, value_shaped_s, if_pos (by decide)]; rfl
  | d + 1, j + 1, v, h, hd, hv => by
    have hFU := FU_M
    have hK := hv.keys
    have hsub : ∀ x, x ∈ v.List_ → value_shaped_r j x (i64 (((d + 1 : Nat) : Int) - 1)) = some (shB d x) := fun x hx => by
      rw [i64_id (by omega) (by omega), show ((d + 1 : Nat) : Int) - 1 = (d : Int) by omega]
      exact shaped_run d j (by omega) (by omega) (hv.sub x hx)
    rw [value_shaped_r, value_shaped_s, if_neg (by omega), jn_eq']
    -- what follows, whatever is taken over
    have tail : ∀ (n : Int) (t : List UInt8) (l : List ApiValue) (p : List (List UInt8)),
        ((if (((v.Num ≠ n) ∨ (v.Text ≠ t)) ∨ ((v.Keys.length : Int) ≠ (p.length : Int))) ∨ ((v.List_.length : Int) ≠ (l.length : Int)) then some true else (value_plain v.Text).bind fun x8 => some (!x8)).bind fun x7 => if x7 = true then some false else jn (fun (_ : Unit) => (slices_ContainsFunc_api_Value_api_Value_c29 (value_shaped_r j) v.List_ ((d + 1 : Nat) : Int)).bind fun x16 => some (!x16)) (fun (kj9 : Unit → Option Bool) => value_shaped_s_l1 v kj9 FU 0))
        = some (decide (v.Num = n ∧ v.Text = t ∧ v.Keys.length = p.length ∧ v.List_.length = l.length) && (plB v.Text && (kOK none v.Keys && v.List_.all (shB d)))) := by
      intro n t l p
      by_cases c : v.Num = n ∧ v.Text = t ∧ v.Keys.length = p.length ∧ v.List_.length = l.length
      · rw [if_neg (by rintro (((h | h) | h) | h); exact h c.1; exact h c.2.1; omega; omega), plain_eq _ hv.text, Option.bind_some, Option.bind_some, decide_eq_true c, Bool.true_and]
        cases hp : plB v.Text with
        | false => rw [if_pos (by decide)]; rfl
        | true =>
          rw [if_neg (by decide), jn_eq', show (0 : Int) = ((0 : Nat) : Int) from rfl, shKeys_run hv FU 0 (by omega) (by omega), shAll_eq hv.list hsub]
          simp only [prv, if_true, List.drop_zero, Option.bind_some, Bool.true_and, Bool.not_not]
          cases kOK none v.Keys <;> simp
      · have h0 : ((v.Num ≠ n ∨ v.Text ≠ t) ∨ (v.Keys.length : Int) ≠ (p.length : Int)) ∨ (v.List_.length : Int) ≠ (l.length : Int) := by
          apply Classical.byContradiction; intro h
          simp only [not_or, ne_eq, Classical.not_not] at h
          exact c ⟨h.1.1.1, h.1.1.2, by omega, by omega⟩
        rw [if_pos h0, Option.bind_some, if_pos rfl, decide_eq_false c]; rfl
    rw [shB]
    have fin : ∀ {n : Int} {t : List UInt8} {l : List ApiValue} {p : List (List UInt8)} {o : Option Bool} (r : Bool), (v.Num = n ∧ v.Text = t ∧ v.Keys.length = p.length ∧ v.List_.length = l.length ↔ hdB v = true) → o = some (decide (v.Num = n ∧ v.Text = t ∧ v.Keys.length = p.length ∧ v.List_.length = l.length) && r) → o = some (hdB v && r) := by
      intro n t l p o r he ho
      rw [ho]
      congr 2
      exact b_eq (by rw [decide_eq_true_iff]; exact he)
    have hdi : hdB v = true ↔ (0 ≤ v.Kind ∧ v.Kind ≤ 6 ∧ (v.Kind = 3 ∨ v.Num = 0) ∧ (v.Kind = 4 ∨ v.Text = []) ∧ (v.Kind = 6 ∨ v.Keys = []) ∧ (v.Kind = 6 → v.Keys.length = v.List_.length) ∧ (5 ≤ v.Kind ∨ v.List_ = [])) := by unfold hdB; exact decide_eq_true_iff
    have lz : ∀ {α : Type} (l : List α), l.length = ([] : List α).length ↔ l = [] := fun l => List.length_eq_zero_iff
    rw [jn_eq']
    by_cases k0 : v.Kind = 0
    · simp only [k0, if_true]
      refine fin _ ?_ (tail _ _ _ _)
      rw [hdi, lz, lz]
      constructor
      · rintro ⟨h1, h2, h3, h4⟩; exact ⟨by omega, by omega, .inr h1, .inr h2, .inr h3, by omega, .inr h4⟩
      · rintro ⟨_, _, h1, h2, h3, _, h4⟩; exact ⟨by omega, h2.resolve_left (by omega), h3.resolve_left (by omega), h4.resolve_left (by omega)⟩
    by_cases k1 : v.Kind = 1
    · simp only [k1, if_true]
      refine fin _ ?_ (tail _ _ _ _)
      rw [hdi, lz, lz]
      constructor
      · rintro ⟨h1, h2, h3, h4⟩; exact ⟨by omega, by omega, .inr h1, .inr h2, .inr h3, by omega, .inr h4⟩
      · rintro ⟨_, _, h1, h2, h3, _, h4⟩; exact ⟨by omega, h2.resolve_left (by omega), h3.resolve_left (by omega), h4.resolve_left (by omega)⟩
    by_cases k2 : v.Kind = 2
    · simp only [k2, if_true]
      refine fin _ ?_ (tail _ _ _ _)
      rw [hdi, lz, lz]
      constructor
      · rintro ⟨h1, h2, h3, h4⟩; exact ⟨by omega, by omega, .inr h1, .inr h2, .inr h3, by omega, .inr h4⟩
      · rintro ⟨_, _, h1, h2, h3, _, h4⟩; exact ⟨by omega, h2.resolve_left (by omega), h3.resolve_left (by omega), h4.resolve_left (by omega)⟩
    rw [if_neg k0, if_neg k1, if_neg k2]
    by_cases k3 : v.Kind = 3
    · rw [if_pos k3]
      refine fin _ ?_ (tail _ _ _ _)
      rw [hdi, lz, lz]
      constructor
      · rintro ⟨h1, h2, h3, h4⟩; exact ⟨by omega, by omega, .inl k3, .inr h2, .inr h3, by omega, .inr h4⟩
      · rintro ⟨_, _, h1, h2, h3, _, h4⟩; exact ⟨rfl, h2.resolve_left (by omega), h3.resolve_left (by omega), h4.resolve_left (by omega)⟩
    rw [if_neg k3]
    by_cases k4 : v.Kind = 4
    · rw [if_pos k4]
      refine fin _ ?_ (tail _ _ _ _)
      rw [hdi, lz, lz]
      constructor
      · rintro ⟨h1, h2, h3, h4⟩; exact ⟨by omega, by omega, .inr h1, .inl k4, .inr h3, by omega, .inr h4⟩
      · rintro ⟨_, _, h1, h2, h3, _, h4⟩; exact ⟨h1.resolve_left (by omega), rfl, h3.resolve_left (by omega), h4.resolve_left (by omega)⟩
    rw [if_neg k4]
    by_cases k6 : v.Kind = 6
    · rw [if_pos k6]
      by_cases c : v.Keys.length = v.List_.length
      · rw [if_neg (by omega)]
        refine fin _ ?_ (tail _ _ _ _)
        rw [hdi]
        constructor
        · rintro ⟨h1, h2, h3, h4⟩; exact ⟨by omega, by omega, .inr h1, .inr h2, .inl k6, fun _ => c, .inl (by omega)⟩
        · rintro ⟨_, _, h1, h2, h3, _, h4⟩; exact ⟨h1.resolve_left (by omega), h2.resolve_left (by omega), rfl, rfl⟩
      · rw [if_pos (by omega)]
        have : hdB v = false := by
          cases h : hdB v with
          | false => rfl
          | true => exact absurd ((hdi.1 h).2.2.2.2.2.1 k6) c
        rw [this]; rfl
    rw [if_neg k6]
    by_cases k5 : v.Kind = 5
    · rw [if_pos k5]
      refine fin _ ?_ (tail _ _ _ _)
      rw [hdi, lz]
      constructor
      · rintro ⟨h1, h2, h3, h4⟩; exact ⟨by omega, by omega, .inr h1, .inr h2, .inr h3, by omega, .inl (by omega)⟩
      · rintro ⟨_, _, h1, h2, h3, _, h4⟩; exact ⟨h1.resolve_left (by omega), h2.resolve_left (by omega), h3.resolve_left (by omega), rfl⟩
    rw [if_neg k5]
    have : hdB v = false := by
      cases h : hdB v with
      | false => rfl
      | true => have := hdi.1 h; omega
    rw [this]; rfl
theorem shaped_eq {v : ApiValue} (hv : TV v) : value_shaped v 8 = some (shB 8 v) := by
  have := FU_M
  unfold value_shaped
  rw [show (8 : Int) = ((8 : Nat) : Int) from rfl]
  exact shaped_run 8 _ (by omega) (by omega) hv
theorem hdB_iff {v : ApiValue} : hdB v = true ↔ (0 ≤ v.Kind ∧ v.Kind ≤ 6 ∧ (v.Kind = 3 ∨ v.Num = 0) ∧ (v.Kind = 4 ∨ v.Text = []) ∧ (v.Kind = 6 ∨ v.Keys = []) ∧ (v.Kind = 6 → v.Keys.length = v.List_.length) ∧ (5 ≤ v.Kind ∨ v.List_ = [])) := by unfold hdB; exact decide_eq_true_iff
theorem shB_wf : ∀ (d : Nat) {v : ApiValue}, shB d v = true → WF v
  | 0, v, h => by simp [shB] at h
  | d + 1, v, h => by
    rw [shB, Bool.and_eq_true, Bool.and_eq_true, Bool.and_eq_true, hdB_iff, List.all_eq_true] at h
    exact .mk h.1.2.2.2.2.2.1 (fun c => h.1.2.2.2.2.1.resolve_left c) (fun x hx => shB_wf d (h.2.2.2 x hx))
end Go.Proofs

set_option linter.unusedVariables false
set_option linter.unusedSimpArgs false
namespace Go.Proofs
open Go.Fw
/-! How much a value is. -/
def wK (p : List (List UInt8)) : Nat := (p.map fun k => 1 + k.length / 100).sum
mutual
def wV : ApiValue → Nat
  | ⟨_, _, t, l, p⟩ => 1 + t.length / 100 + wK p + wL l
def wL : List ApiValue → Nat
  | [] => 0
  | x :: r => wV x + wL r
end
theorem wV_eq (v : ApiValue) : wV v = 1 + v.Text.length / 100 + wK v.Keys + wL v.List_ := by cases v; rw [wV]
inductive KS : ApiValue → Prop
  | mk {v : ApiValue} : (∀ k ∈ v.Keys, k.length ≤ 24) → (∀ x, x ∈ v.List_ → KS x) → KS v
theorem KS.key {v : ApiValue} (h : KS v) : ∀ k ∈ v.Keys, k.length ≤ 24 := by cases h; assumption
theorem KS.sub {v : ApiValue} (h : KS v) : ∀ x, x ∈ v.List_ → KS x := by cases h; assumption
theorem div100 (n : Nat) : ((n : Int).tdiv 100) = ((n / 100 : Nat) : Int) := by
  rw [Int.tdiv_eq_ediv_of_nonneg (by omega)]; omega
theorem pK_run {v : ApiValue} (hv : TV v) {kj : Int → Option Int} : ∀ (J k : Nat) (n : Int), k ≤ v.Keys.length → v.Keys.length - k < J →
    ∃ m, law01_parts_s_l1 v kj J n (k : Int) = kj m ∧ ((∀ q ∈ v.Keys, q.length ≤ 24) → 0 ≤ n → n + (v.Keys.length - k) ≤ 1000000000 → m = n + (wK (v.Keys.drop k) : Int) ∧ m ≤ n + (v.Keys.length - k))
  | 0, k, n, h1, h2 => by omega
  | J + 1, k, n, h1, h2 => by
    rw [law01_parts_s_l1]
    by_cases c : k < v.Keys.length
    · rw [if_pos (by omega), geti_nat, List.getElem?_eq_getElem c, Option.bind_some, nxt c hv.keys, div100]
      obtain ⟨m, e1, e2⟩ := pK_run hv (kj := kj) J (k + 1) (i64 (i64 (n + 1) + i64 ((v.Keys[k].length / 100 : Nat) : Int))) (by omega) (by omega)
      refine ⟨m, e1, fun hq h0 h3 => ?_⟩
      have h4 := hq _ (List.getElem_mem c)
      have h5 : v.Keys[k].length / 100 = 0 := by omega
      have e : i64 (i64 (n + 1) + i64 ((v.Keys[k].length / 100 : Nat) : Int)) = n + 1 := by
        rw [h5, i64_id (p := n + 1) (by omega) (by omega), i64_id (p := ((0 : Nat) : Int)) (by omega) (by omega), i64_id (by omega) (by omega)]; omega
      rw [e] at e2
      obtain ⟨f1, f2⟩ := e2 hq (by omega) (by omega)
      rw [List.drop_eq_getElem_cons c]
      simp only [wK, List.map_cons, List.sum_cons, h5] at f1 ⊢
      exact ⟨by omega, by omega⟩
    · rw [if_neg (by omega), List.drop_eq_nil_of_le (by omega)]
      refine ⟨n, rfl, fun _ _ _ => ⟨by simp [wK], by omega⟩⟩
theorem pL_run {v : ApiValue} (hv : TV v) {f : ApiValue → Int → Option Int} {d : Int} {M : Int} (hf : ∀ x, x ∈ v.List_ → ∃ p, f x (i64 (d - 1)) = some p ∧ (KS x → 0 ≤ p ∧ p ≤ M ∧ (p < 100000 → (wV x : Int) = p))) (hM : 0 ≤ M ∧ M ≤ 100000000)
    {kj : Int → Option Int} : ∀ (J k : Nat) (n : Int), k ≤ v.List_.length → v.List_.length - k < J →
    ∃ m, law01_parts_s_l2 v f d kj J n (k : Int) = kj m ∧ (KS v → 0 ≤ n → n ≤ 100000 + M → 0 ≤ m ∧ m ≤ 100000 + M ∧ (m < 100000 → m = n + (wL (v.List_.drop k) : Int)))
  | 0, k, n, h1, h2 => by omega
  | J + 1, k, n, h1, h2 => by
    rw [law01_parts_s_l2]
    by_cases c : k < v.List_.length
    · by_cases c2 : n < 100000
      · obtain ⟨p, hp, hq⟩ := hf _ (List.getElem_mem c)
        rw [if_pos ⟨by omega, c2⟩, geti_nat, List.getElem?_eq_getElem c, Option.bind_some, hp, Option.bind_some, nxt c hv.list]
        obtain ⟨m, e1, e2⟩ := pL_run hv hf hM (kj := kj) J (k + 1) (i64 (n + p)) (by omega) (by omega)
        refine ⟨m, e1, fun hk h0 h3 => ?_⟩
        obtain ⟨q1, q2, q3⟩ := hq (hk.sub _ (List.getElem_mem c))
        rw [i64_id (by omega) (by omega)] at e2
        obtain ⟨f1, f2, f3⟩ := e2 hk (by omega) (by omega)
        refine ⟨f1, f2, fun hm => ?_⟩
        have f4 := f3 hm
        rw [List.drop_eq_getElem_cons c, wL]
        have := q3 (by omega)
        omega
      · rw [if_neg (by omega)]
        exact ⟨n, rfl, fun _ h0 h3 => ⟨h0, h3, fun h => absurd h c2⟩⟩
    · rw [if_neg (by omega), List.drop_eq_nil_of_le (by omega)]
      exact ⟨n, rfl, fun _ h0 h3 => ⟨h0, h3, fun _ => by simp [wL]⟩⟩
theorem parts_run : ∀ (d j : Nat) {v : ApiValue}, d < j → d ≤ 100 → TV v → ∃ p, law01_parts_r j v (d : Int) = some p ∧ (KS v → 0 ≤ p ∧ p ≤ 100000 * ((d : Int) + 1) ∧ (p < 100000 → (wV v : Int) = p))
  | d, 0, v, h, _, _ => by omega
  | 0, j + 1, v, h, _, hv => by
    rw [law01_parts_r, law01_parts_s, if_pos (.inl (.inl (.inl (by decide))))]
    exact ⟨_, rfl, fun _ => ⟨by omega, by omega, fun h => by omega⟩⟩
  | d + 1, j + 1, v, h, hd, hv => by
    rw [law01_parts_r, law01_parts_s]
    by_cases c : ((((d + 1 : Nat) : Int) < 1 ∨ (3000 : Int) < v.List_.length) ∨ (3000 : Int) < v.Keys.length) ∨ (4000 : Int) < v.Text.length
    · rw [if_pos c]
      exact ⟨_, rfl, fun _ => ⟨by omega, by omega, fun h => by omega⟩⟩
    · have hFU := FU_M
      have hK := hv.keys
      have hL := hv.list
      rw [if_neg c, jn_eq', div100, show (0 : Int) = ((0 : Nat) : Int) from rfl]
      have e0 : i64 (1 + i64 ((v.Text.length / 100 : Nat) : Int)) = 1 + ((v.Text.length / 100 : Nat) : Int) := by
        rw [i64_id (p := ((v.Text.length / 100 : Nat) : Int)) (by omega) (by omega), i64_id (by omega) (by omega)]
      rw [e0]
      obtain ⟨m, e1, e2⟩ := pK_run hv (kj := fun (x2 : Int) => jn (fun (x7 : Int) => some x7) (fun (kj6 : Int → Option Int) => law01_parts_s_l2 v (law01_parts_r j) ((d + 1 : Nat) : Int) kj6 FU x2 ((0 : Nat) : Int))) FU 0 (1 + ((v.Text.length / 100 : Nat) : Int)) (by omega) (by omega)
      rw [e1]
      simp only [jn_eq']
      have hf : ∀ x, x ∈ v.List_ → ∃ p, law01_parts_r j x (i64 (((d + 1 : Nat) : Int) - 1)) = some p ∧ (KS x → 0 ≤ p ∧ p ≤ 100000 * ((d : Int) + 1) ∧ (p < 100000 → (wV x : Int) = p)) := fun x hx => by
        rw [i64_id (by omega) (by omega), show ((d + 1 : Nat) : Int) - 1 = (d : Int) by omega]
        exact parts_run d j (by omega) (by omega) (hv.sub x hx)
      obtain ⟨m2, f1, f2⟩ := pL_run hv hf (by omega) (kj := fun x7 => some x7) FU 0 m (by omega) (by omega)
      rw [f1]
      refine ⟨m2, rfl, fun hk => ?_⟩
      obtain ⟨g1, g2⟩ := e2 hk.key (by omega) (by omega)
      obtain ⟨g3, g4, g5⟩ := f2 hk (by omega) (by omega)
      refine ⟨g3, by omega, fun hm => ?_⟩
      have g6 := g5 hm
      rw [List.drop_zero] at g1 g6
      rw [wV_eq]
      omega
/-- Whether it is too much. -/
theorem long_eq {v : ApiValue} (hv : TV v) : ∃ b, law01_Long v = some b ∧ (KS v → b = false → wV v ≤ 4000) := by
  obtain ⟨p, h1, h2⟩ := parts_run 20 (FU + dpApiValue v) (v := v) (by have := FU_M; omega) (by omega) hv
  unfold law01_Long law01_parts
  rw [show (20 : Int) = ((20 : Nat) : Int) from rfl, h1, Option.bind_some]
  refine ⟨_, rfl, fun hk hb => ?_⟩
  have hp : ¬ 4000 < p := of_decide_eq_false hb
  have := (h2 hk).2.2 (by omega)
  omega
theorem keyB_len {k : List UInt8} (h : keyB k = true) : k.length ≤ 24 := by
  unfold keyB at h
  simp only [Bool.and_eq_true, decide_eq_true_eq] at h
  exact h.1.2
theorem kOK_key : ∀ {p : List (List UInt8)} {pr : Option (List UInt8)}, kOK pr p = true → ∀ k ∈ p, keyB k = true
  | [], _, _, k, hk => by simp at hk
  | x :: r, pr, h, k, hk => by
    rw [kOK_cons, Bool.and_eq_true, Bool.and_eq_true] at h
    rcases List.mem_cons.1 hk with rfl | hk
    · exact h.1
    · exact kOK_key h.2.2 k hk
theorem shB_ks : ∀ (d : Nat) {v : ApiValue}, shB d v = true → KS v
  | 0, v, h => by simp [shB] at h
  | d + 1, v, h => by
    rw [shB, Bool.and_eq_true, Bool.and_eq_true, Bool.and_eq_true, List.all_eq_true] at h
    exact .mk (fun k hk => keyB_len (kOK_key h.2.2.1 k hk)) (fun x hx => shB_ks d (h.2.2.2 x hx))
end Go.Proofs

set_option linter.unusedVariables false
set_option linter.unusedSimpArgs false
namespace Go.Proofs
open Go.Fw
/-! A value's text. -/
theorem app_ok2 {α : Type} {cap : Nat} (a b : List α) (h : a.length + b.length ≤ cap) : app cap a b = some (a ++ b) := by
  unfold app
  rw [if_pos h]
theorem decF_len : ∀ (f u k : Nat), u < 10 ^ k → 1 ≤ k → (decF f u).length ≤ k
  | 0, u, k, _, _ => by rw [decF]; simp
  | f + 1, u, k, h, hk => by
    rw [decF]
    by_cases c : u < 10
    · rw [if_pos c]; simpa using hk
    · rw [if_neg c]
      obtain ⟨k, rfl⟩ : ∃ m, k = m + 2 := ⟨k - 2, by
        rcases k with _ | _ | k
        · omega
        · simp at h; omega
        · omega⟩
      have := decF_len f (u / 10) (k + 1) (by rw [Nat.pow_succ] at h; omega) (by omega)
      simp only [List.length_append, List.length_cons, List.length_nil]; omega
theorem itoaF_len {n : Int} (h : -9223372036854775808 ≤ n ∧ n ≤ 9223372036854775807) : (itoaF n).length ≤ 21 := by
  unfold itoaF
  split
  · have := decF_len 30 n.natAbs 20 (Nat.lt_of_le_of_lt (show n.natAbs ≤ 9223372036854775808 by omega) (by decide)) (by decide)
    simp only [List.length_cons]; omega
  · have := decF_len 30 n.toNat 20 (Nat.lt_of_le_of_lt (show n.toNat ≤ 9223372036854775808 by omega) (by decide)) (by decide)
    omega
theorem ofI64_nat {p : Int} (h : 0 ≤ p) (h2 : p < 18446744073709551616) : (ofI64 p).toNat = p.toNat := by
  unfold ofI64
  rw [UInt64.toNat_ofNat', Nat.mod_eq_of_lt (by omega)]
  omega
theorem ofI64_neg {p : Int} (h : p < 0) (h2 : -18446744073709551616 ≤ p) : ((ofI64 p).toNat : Int) = p + 18446744073709551616 := by
  unfold ofI64
  rw [UInt64.toNat_ofNat', Nat.mod_eq_of_lt (by omega)]
  omega
theorem appendUint_eq (a : List UInt8) (u : UInt64) (ha : a.length ≤ 1000000000) : strconv_AppendUint a u 10 = some (a ++ decF 30 u.toNat) := by
  have hu : u.toNat < 18446744073709551616 := u.toNat_lt
  have hl := decF_len 30 u.toNat 20 (Nat.lt_trans hu (by decide)) (by decide)
  unfold strconv_AppendUint
  rw [if_pos rfl]
  by_cases c : u.toNat < 100
  · have e : i64 (u.toNat : Int) = (u.toNat : Int) := i64_id (by omega) (by omega)
    rw [if_pos (by omega), e, if_pos (by omega), Int.toNat_natCast, app_ok2 _ _ (by omega)]; rfl
  · rw [if_neg (by omega), if_pos (by omega), if_pos (by omega), Int.toNat_natCast, if_pos ⟨rfl, by omega⟩, if_pos (by omega), List.take_left', app_ok2 _ _ (by omega)]
    · rfl
    · rfl
theorem appendInt_eq (a : List UInt8) {n : Int} (h : -9223372036854775808 ≤ n ∧ n ≤ 9223372036854775807) (ha : a.length ≤ 100000000) : strconv_AppendInt a n 10 = some (a ++ itoaF n) := by
  unfold strconv_AppendInt itoaF
  by_cases c : n < 0
  · have e : (ofI64 (0 - ((ofI64 n).toNat : Int))).toNat = n.natAbs := by
      rw [ofI64_neg c (by omega)]
      have := ofI64_neg (p := 0 - (n + 18446744073709551616)) (by omega) (by omega)
      omega
    rw [if_pos c, if_pos c, app_ok2 _ _ (by simp; omega), Option.bind_some, appendUint_eq _ _ (by simp; omega), e, Option.bind_some, List.append_assoc]; rfl
  · rw [if_neg c, if_neg c, appendUint_eq _ _ (by omega), ofI64_nat (by omega) (by omega), Option.bind_some]
theorem appendUint_nl_eq (u : UInt64) : strconv_AppendUint_nl u 10 = some (decF 30 u.toNat) := by
  have hu : u.toNat < 18446744073709551616 := u.toNat_lt
  have hl := decF_len 30 u.toNat 20 (Nat.lt_trans hu (by decide)) (by decide)
  unfold strconv_AppendUint_nl
  rw [if_pos rfl]
  by_cases c : u.toNat < 100
  · have e : i64 (u.toNat : Int) = (u.toNat : Int) := i64_id (by omega) (by omega)
    rw [if_pos (by omega), e, if_pos (by omega), Int.toNat_natCast, app_ok2 _ _ (by simp; omega)]; rfl
  · rw [if_neg (by omega), if_pos (by omega), if_pos (by omega), Int.toNat_natCast, if_pos ⟨rfl, by omega⟩, if_pos (by omega), List.take_left', app_ok2 _ _ (by simp; omega)]
    · rfl
    · rfl
theorem appendInt_nl_eq {n : Int} (h : -9223372036854775808 ≤ n ∧ n ≤ 9223372036854775807) : strconv_AppendInt_nl_p n 10 = some (itoaF n) := by
  unfold strconv_AppendInt_nl_p strconv_AppendInt_nl itoaF
  by_cases c : n < 0
  · have e : (ofI64 (0 - ((ofI64 n).toNat : Int))).toNat = n.natAbs := by
      rw [ofI64_neg c (by omega)]
      have := ofI64_neg (p := 0 - (n + 18446744073709551616)) (by omega) (by omega)
      omega
    rw [if_pos c, if_pos c, app_ok2 _ _ (by simp), Option.bind_some, appendUint_eq _ _ (by simp), e]; rfl
  · rw [if_neg c, if_neg c, appendUint_nl_eq, ofI64_nat (by omega) (by omega)]; rfl
def esc (c : UInt8) : List UInt8 := if c.toNat = 34 ∨ c.toNat = 92 then [92, c] else [c]
def qt (s : List UInt8) : List UInt8 := 34 :: (s.flatMap esc ++ [34])
theorem esc_q {c : UInt8} (h : c.toNat = 34 ∨ c.toNat = 92) : esc c = [92, c] := by unfold esc; rw [if_pos h]
theorem esc_n {c : UInt8} (h : ¬ (c.toNat = 34 ∨ c.toNat = 92)) : esc c = [c] := by unfold esc; rw [if_neg h]
theorem esc_len (c : UInt8) : (esc c).length ≤ 2 := by unfold esc; split <;> simp
theorem esc_lens : ∀ s : List UInt8, (s.flatMap esc).length ≤ 2 * s.length
  | [] => by simp
  | c :: s => by
    rw [List.flatMap_cons, List.length_append, List.length_cons]
    have := esc_len c
    have := esc_lens s
    omega
theorem qt_len (s : List UInt8) : (qt s).length ≤ 2 * s.length + 2 := by
  unfold qt
  have := esc_lens s
  simp only [List.length_cons, List.length_append, List.length_nil]; omega
theorem quoted_run {s : List UInt8} (hl : s.length ≤ M63) {kj : List UInt8 → Option (List UInt8)} : ∀ (J k : Nat) (x : List UInt8), k ≤ s.length → s.length - k < J → x.length + 2 * (s.length - k) ≤ 1000000000000 → value_quoted_l1 s kj J x (k : Int) = kj (x ++ (s.drop k).flatMap esc)
  | 0, k, x, h1, h2, _ => by omega
  | J + 1, k, x, h1, h2, h3 => by
    rw [value_quoted_l1]
    by_cases c : k < s.length
    · rw [if_pos (by omega), jn_eq', geti_nat, List.getElem?_eq_getElem c, Option.bind_some, List.drop_eq_getElem_cons c, List.flatMap_cons, Option.bind_some]
      have step : ∀ y : List UInt8, y.length + 1 + 2 * (s.length - (k + 1)) ≤ 1000000000000 → ((some s[k]).bind fun x12 => (app 140737488355328 y ([x12] : List UInt8)).bind fun x13 => value_quoted_l1 s kj J x13 (i64 ((k : Int) + 1))) = kj (y ++ (s[k] :: (s.drop (k + 1)).flatMap esc)) := fun y hy => by
        rw [Option.bind_some, app_ok2 _ _ (by simp; omega), Option.bind_some, nxt c hl, quoted_run hl J (k + 1) _ (by omega) (by omega) (by simp; omega), List.append_assoc]; rfl
      by_cases c1 : s[k].toNat = 34
      · rw [if_pos (by omega), Option.bind_some, if_pos rfl, app_ok2 _ _ (by simp; omega), Option.bind_some, esc_q (.inl c1)]
        refine (step _ (by simp; omega)).trans ?_
        rw [List.append_assoc]; rfl
      · rw [if_neg (by omega), Option.bind_some]
        by_cases c2 : s[k].toNat = 92
        · rw [decide_eq_true (show ((s[k].toNat : Nat) : Int) = 92 by omega), if_pos rfl, app_ok2 _ _ (by simp; omega), Option.bind_some, esc_q (.inr c2)]
          refine (step _ (by simp; omega)).trans ?_
          rw [List.append_assoc]; rfl
        · rw [decide_eq_false (show ¬ ((s[k].toNat : Nat) : Int) = 92 by omega), if_neg (by decide), esc_n (by omega)]
          exact step _ (by omega)
    · rw [if_neg (by omega), List.drop_eq_nil_of_le (by omega)]; simp
theorem quoted_eq (b s : List UInt8) (h : b.length + 2 * s.length ≤ 100000000000) : value_quoted b s = some (b ++ qt s) := by
  unfold value_quoted
  have := FU_M
  have hM : M63 = 9223372036854775807 := rfl
  rw [app_ok2 _ _ (by simp; omega), Option.bind_some, jn_eq', show (0 : Int) = ((0 : Nat) : Int) from rfl, quoted_run (by omega) FU 0 _ (by omega) (by omega) (by simp; omega)]
  have := esc_lens s
  rw [List.drop_zero, app_ok2 _ _ (by simp only [List.length_append, List.length_cons, List.length_nil]; omega), Option.bind_some]
  unfold qt
  simp
theorem quoted_nl_run {s : List UInt8} (hl : s.length ≤ M63) {kj : List UInt8 → Option (List UInt8)} : ∀ (J k : Nat) (x : List UInt8), k ≤ s.length → s.length - k < J → x.length + 2 * (s.length - k) ≤ 1000000000000 → value_quoted_nl_l1 s kj J x (k : Int) = kj (x ++ (s.drop k).flatMap esc)
  | 0, k, x, h1, h2, _ => by omega
  | J + 1, k, x, h1, h2, h3 => by
    rw [value_quoted_nl_l1]
    by_cases c : k < s.length
    · rw [if_pos (by omega), jn_eq', geti_nat, List.getElem?_eq_getElem c, Option.bind_some, List.drop_eq_getElem_cons c, List.flatMap_cons, Option.bind_some]
      have step : ∀ y : List UInt8, y.length + 1 + 2 * (s.length - (k + 1)) ≤ 1000000000000 → ((some s[k]).bind fun x12 => (app 140737488355328 y ([x12] : List UInt8)).bind fun x13 => value_quoted_nl_l1 s kj J x13 (i64 ((k : Int) + 1))) = kj (y ++ (s[k] :: (s.drop (k + 1)).flatMap esc)) := fun y hy => by
        rw [Option.bind_some, app_ok2 _ _ (by simp; omega), Option.bind_some, nxt c hl, quoted_nl_run hl J (k + 1) _ (by omega) (by omega) (by simp; omega), List.append_assoc]; rfl
      by_cases c1 : s[k].toNat = 34
      · rw [if_pos (by omega), Option.bind_some, if_pos rfl, app_ok2 _ _ (by simp; omega), Option.bind_some, esc_q (.inl c1)]
        refine (step _ (by simp; omega)).trans ?_
        rw [List.append_assoc]; rfl
      · rw [if_neg (by omega), Option.bind_some]
        by_cases c2 : s[k].toNat = 92
        · rw [decide_eq_true (show ((s[k].toNat : Nat) : Int) = 92 by omega), if_pos rfl, app_ok2 _ _ (by simp; omega), Option.bind_some, esc_q (.inr c2)]
          refine (step _ (by simp; omega)).trans ?_
          rw [List.append_assoc]; rfl
        · rw [decide_eq_false (show ¬ ((s[k].toNat : Nat) : Int) = 92 by omega), if_neg (by decide), esc_n (by omega)]
          exact step _ (by omega)
    · rw [if_neg (by omega), List.drop_eq_nil_of_le (by omega)]; simp
theorem quoted_nl_eq (s : List UInt8) (h : 2 * s.length ≤ 100000000000) : value_quoted_nl s = some (qt s) := by
  unfold value_quoted_nl
  have := FU_M
  have hM : M63 = 9223372036854775807 := rfl
  rw [app_ok2 _ _ (by simp), Option.bind_some, jn_eq', show (0 : Int) = ((0 : Nat) : Int) from rfl, quoted_nl_run (by omega) FU 0 _ (by omega) (by omega) (by simp; omega)]
  have := esc_lens s
  rw [List.drop_zero, app_ok2 _ _ (by simp only [List.length_append, List.length_cons, List.length_nil]; omega), Option.bind_some]
  unfold qt
  simp
end Go.Proofs

set_option linter.unusedVariables false
set_option linter.unusedSimpArgs false
namespace Go.Proofs
open Go.Fw
mutual
def tx : ApiValue → List UInt8
  | ⟨k, n, t, l, p⟩ => if k = 1 then [102, 97, 108, 115, 101] else if k = 2 then [116, 114, 117, 101] else if k = 3 then itoaF n else if k = 4 then qt t
    else if k = 5 then 91 :: (txL false true l p ++ [93]) else if k = 6 then 123 :: (txL true true l p ++ [125]) else [110, 117, 108, 108]
def txL : Bool → Bool → List ApiValue → List (List UInt8) → List UInt8
  | _, _, [], _ => []
  | o, f, x :: l, p => (if f = true then [] else [44]) ++ ((if o = true then qt (p.headD []) ++ [58] else []) ++ (tx x ++ txL o false l p.tail))
end
theorem tx_eq (v : ApiValue) : tx v = if v.Kind = 1 then [102, 97, 108, 115, 101] else if v.Kind = 2 then [116, 114, 117, 101] else if v.Kind = 3 then itoaF v.Num else if v.Kind = 4 then qt v.Text
    else if v.Kind = 5 then 91 :: (txL false true v.List_ v.Keys ++ [93]) else if v.Kind = 6 then 123 :: (txL true true v.List_ v.Keys ++ [125]) else [110, 117, 108, 108] := by cases v; rw [tx]
theorem wV_pos (v : ApiValue) : 1 ≤ wV v := by rw [wV_eq]; omega
theorem txL_len : ∀ (o f : Bool) (l : List ApiValue) (p : List (List UInt8)), (o = true → p.length = l.length) → (∀ k ∈ p, k.length ≤ 24) → (∀ x, x ∈ l → (tx x).length + 60 ≤ 500 * wV x) → (txL o f l p).length ≤ 500 * wL l
  | _, _, [], _, _, _, _ => by rw [txL]; simp
  | o, f, x :: l, p, hp, hk, hx => by
    rw [txL, wL]
    have h1 := hx x (by simp)
    have hk2 : ∀ k ∈ p.tail, k.length ≤ 24 := fun k h => hk k (List.mem_of_mem_tail h)
    have h2 := txL_len o false l p.tail (fun h => by rw [List.length_tail, hp h, List.length_cons]; omega) hk2 (fun y hy => hx y (by simp [hy]))
    have h3 : (if f = true then ([] : List UInt8) else [44]).length ≤ 1 := by split <;> simp
    have h4 : (if o = true then qt (p.headD []) ++ [58] else ([] : List UInt8)).length ≤ 51 := by
      split
      · have := qt_len (p.headD [])
        have h5 : (p.headD []).length ≤ 24 := by
          cases p with
          | nil => simp
          | cons u p => exact hk u (by simp)
        simp only [List.length_append, List.length_cons, List.length_nil]; omega
      · simp
    simp only [List.length_append]
    omega
theorem tx_len_n : ∀ (n : Nat) {v : ApiValue}, dpApiValue v ≤ n → TV v → WF v → KS v → (tx v).length + 60 ≤ 500 * wV v
  | 0, v, h, _, _, _ => by rw [dpApiValue_eq] at h; omega
  | n + 1, v, h, hv, hw, hk => by
    have hx : ∀ x, x ∈ v.List_ → (tx x).length + 60 ≤ 500 * wV x := fun x hx => tx_len_n n (by have := dp_sub hx; omega) (hv.sub x hx) (hw.sub x hx) (hk.sub x hx)
    rw [tx_eq]
    have h1 := wV_eq v
    split
    · simp; omega
    split
    · simp; omega
    split
    · have := itoaF_len hv.num; omega
    split
    · have := qt_len v.Text; omega
    split
    · have := txL_len false true v.List_ v.Keys (by simp) hk.key hx
      simp only [List.length_cons, List.length_append, List.length_nil]; omega
    split
    · rename_i c
      have := txL_len true true v.List_ v.Keys (fun _ => hw.obj c) hk.key hx
      simp only [List.length_cons, List.length_append, List.length_nil]; omega
    · simp; omega
theorem tx_len {v : ApiValue} (hv : TV v) (hw : WF v) (hk : KS v) : (tx v).length + 60 ≤ 500 * wV v := tx_len_n _ (Nat.le_refl _) hv hw hk
theorem wL_drop (l : List ApiValue) {k : Nat} (c : k < l.length) : wL (l.drop k) = wV l[k] + wL (l.drop (k + 1)) := by
  rw [List.drop_eq_getElem_cons c, wL]
/-- One round, and all rounds. -/
theorem textL_run {v : ApiValue} (hv : TV v) (hw : WF v) (hk : KS v) {f : List UInt8 → ApiValue → Option (List UInt8)} (hf : ∀ x, x ∈ v.List_ → ∀ b : List UInt8, b.length + 700 * wV x ≤ 90000640 → f b x = some (b ++ tx x))
    {kj : List UInt8 → Option (List UInt8)} : ∀ (J k : Nat) (b : List UInt8), k ≤ v.List_.length → v.List_.length - k < J → b.length + 700 * wL (v.List_.drop k) ≤ 90000000 → value_text_s_l1 v f kj J b (k : Int) = kj (b ++ txL (decide (v.Kind = 6)) (decide (k = 0)) (v.List_.drop k) (v.Keys.drop k))
  | 0, k, b, h1, h2, _ => by omega
  | J + 1, k, b, h1, h2, h3 => by
    rw [value_text_s_l1]
    by_cases c : k < v.List_.length
    · have hm := List.getElem_mem c
      have hl := tx_len (hv.sub _ hm) (hw.sub _ hm) (hk.sub _ hm)
      have hwp := wV_pos v.List_[k]
      rw [wL_drop _ c] at h3
      rw [if_pos (by omega), geti_nat, List.getElem?_eq_getElem c, Option.bind_some, jn_eq', List.drop_eq_getElem_cons c, txL]
      have step : ∀ y : List UInt8, y.length ≤ b.length + 1 → (if v.Kind = 6 then (geti v.Keys (k : Int)).bind fun x19 => (value_quoted y x19).bind fun x20 => (app 140737488355328 x20 ([(58 : UInt8)] : List UInt8)).bind fun x21 => (f x21 v.List_[k]).bind fun x22 => value_text_s_l1 v f kj J x22 (i64 ((k : Int) + 1)) else (f y v.List_[k]).bind fun x23 => value_text_s_l1 v f kj J x23 (i64 ((k : Int) + 1)))
          = kj (y ++ ((if (decide (v.Kind = 6)) = true then qt ((v.Keys.drop k).headD []) ++ [58] else []) ++ (tx v.List_[k] ++ txL (decide (v.Kind = 6)) false (v.List_.drop (k + 1)) (v.Keys.drop k).tail))) := by
        intro y hy
        have hd0 : decide (k + 1 = 0) = false := decide_eq_false (by omega)
        by_cases k6 : v.Kind = 6
        · have ck : k < v.Keys.length := by rw [hw.obj k6]; exact c
          have hq := hk.key _ (List.getElem_mem ck)
          have hql := qt_len v.Keys[k]
          have hh : (v.Keys.drop k).headD [] = v.Keys[k] := by rw [List.drop_eq_getElem_cons ck]; rfl
          rw [if_pos k6, geti_nat, List.getElem?_eq_getElem ck, Option.bind_some, quoted_eq _ _ (by omega), Option.bind_some, app_ok2 _ _ (by simp only [List.length_append, List.length_cons, List.length_nil]; omega), Option.bind_some, hf _ hm _ (by simp only [List.length_append, List.length_cons, List.length_nil]; omega), Option.bind_some, nxt c hv.list,
            textL_run hv hw hk hf J (k + 1) _ (by omega) (by omega) (by simp only [List.length_append, List.length_cons, List.length_nil]; omega), decide_eq_true k6, hd0, if_pos rfl, hh, List.tail_drop]
          simp only [List.append_assoc]
        · rw [if_neg k6, hf _ hm _ (by omega), Option.bind_some, nxt c hv.list, textL_run hv hw hk hf J (k + 1) _ (by omega) (by omega) (by simp only [List.length_append]; omega), decide_eq_false k6, hd0, if_neg (by decide), List.tail_drop]
          simp only [List.append_assoc, List.nil_append]
      by_cases k0 : k = 0
      · rw [if_neg (by omega), decide_eq_true k0, if_pos rfl, List.nil_append]
        exact step b (by omega)
      · rw [if_pos (by omega), app_ok2 _ _ (by simp; omega), Option.bind_some, decide_eq_false k0, if_neg (by decide), ← List.append_assoc]
        exact step _ (by simp)
    · rw [if_neg (by omega), List.drop_eq_nil_of_le (by omega), txL, List.append_nil]
theorem text_run : ∀ (j : Nat) {v : ApiValue} (b : List UInt8), dpApiValue v ≤ j → TV v → WF v → KS v → b.length + 700 * wV v ≤ 90000640 → value_text_r j b v = some (b ++ tx v)
  | 0, v, b, h, _, _, _, _ => by rw [dpApiValue_eq] at h; omega
  | j + 1, v, b, h, hv, hw, hk, hb => by
    have hf : ∀ x, x ∈ v.List_ → ∀ b : List UInt8, b.length + 700 * wV x ≤ 90000640 → value_text_r j b x = some (b ++ tx x) := fun x hx b hb => text_run j b (by have := dp_sub hx; omega) (hv.sub x hx) (hw.sub x hx) (hk.sub x hx) hb
    have hwv := wV_eq v
    have hFU := FU_M
    have hL := hv.list
    rw [value_text_r, value_text_s, jn_eq', tx_eq]
    by_cases k1 : v.Kind = 1
    · rw [if_pos k1, if_pos k1, app_ok2 _ _ (by simp; omega)]; rfl
    rw [if_neg k1, if_neg k1]
    by_cases k2 : v.Kind = 2
    · rw [if_pos k2, if_pos k2, app_ok2 _ _ (by simp; omega)]; rfl
    rw [if_neg k2, if_neg k2]
    by_cases k3 : v.Kind = 3
    · rw [if_pos k3, if_pos k3, strconv_AppendInt_o, appendInt_eq _ hv.num (by omega)]; rfl
    rw [if_neg k3, if_neg k3]
    by_cases k4 : v.Kind = 4
    · rw [if_pos k4, if_pos k4, quoted_eq _ _ (by omega)]; rfl
    rw [if_neg k4, if_neg k4, jn_eq']
    have ht := tx_len hv hw hk
    rw [tx_eq, if_neg k1, if_neg k2, if_neg k3, if_neg k4] at ht
    by_cases k5 : v.Kind = 5
    · rw [if_pos k5, if_pos k5, decide_eq_true k5]
      rw [if_pos k5] at ht
      simp only [if_true, k5]
      rw [show geti ([([] : List UInt8), [], [], [], [], [91, 93], [123, 125]] : List (List UInt8)) 5 = some [91, 93] from rfl, Option.bind_some, show geti ([91, 93] : List UInt8) 0 = some 91 from rfl, Option.bind_some, app_ok2 _ _ (by simp; omega), Option.bind_some, jn_eq', show (0 : Int) = ((0 : Nat) : Int) from rfl,
        textL_run hv hw hk hf FU 0 _ (by omega) (by omega) (by simp only [List.length_append, List.length_cons, List.length_nil, List.drop_zero]; omega), show geti ([91, 93] : List UInt8) 1 = some 93 from rfl, Option.bind_some]
      simp only [List.drop_zero, k5, List.length_cons, List.length_append, List.length_nil] at ht ⊢
      simp only [show decide ((5 : Int) = 6) = false from rfl, decide_true]
      rw [app_ok2 _ _ (by simp only [List.length_append, List.length_cons, List.length_nil]; omega), Option.bind_some]
      simp
    rw [if_neg k5, if_neg k5]
    by_cases k6 : v.Kind = 6
    · rw [if_pos k6, decide_eq_true k6]
      rw [if_neg k5, if_pos k6] at ht
      simp only [if_true, k6]
      rw [show geti ([([] : List UInt8), [], [], [], [], [91, 93], [123, 125]] : List (List UInt8)) 6 = some [123, 125] from rfl, Option.bind_some, show geti ([123, 125] : List UInt8) 0 = some 123 from rfl, Option.bind_some, app_ok2 _ _ (by simp; omega), Option.bind_some, jn_eq', show (0 : Int) = ((0 : Nat) : Int) from rfl,
        textL_run hv hw hk hf FU 0 _ (by omega) (by omega) (by simp only [List.length_append, List.length_cons, List.length_nil, List.drop_zero]; omega), show geti ([123, 125] : List UInt8) 1 = some 125 from rfl, Option.bind_some]
      simp only [List.drop_zero, k6, List.length_cons, List.length_append, List.length_nil] at ht ⊢
      simp only [decide_true]
      rw [app_ok2 _ _ (by simp only [List.length_append, List.length_cons, List.length_nil]; omega), Option.bind_some]
      simp
    · rw [if_neg k6, decide_eq_false k6]
      simp only [Bool.false_eq_true, if_false]
      rw [app_ok2 _ _ (by simp; omega)]; rfl
theorem text_eq {v : ApiValue} (b : List UInt8) (hv : TV v) (hw : WF v) (hk : KS v) (hb : b.length + 700 * wV v ≤ 90000640) : value_text b v = some (b ++ tx v) := by
  unfold value_text
  exact text_run _ b (by omega) hv hw hk hb
end Go.Proofs

set_option linter.unusedVariables false
set_option linter.unusedSimpArgs false
namespace Go.Proofs
open Go.Fw
theorem textNL_run {v : ApiValue} (hv : TV v) (hw : WF v) (hk : KS v) (hf : ∀ x, x ∈ v.List_ → ∀ b : List UInt8, b.length + 700 * wV x ≤ 90000640 → value_text b x = some (b ++ tx x))
    {kj : List UInt8 → Option (List UInt8)} : ∀ (J k : Nat) (b : List UInt8), k ≤ v.List_.length → v.List_.length - k < J → b.length + 700 * wL (v.List_.drop k) ≤ 90000000 → value_text_nl_l1 v kj J b (k : Int) = kj (b ++ txL (decide (v.Kind = 6)) (decide (k = 0)) (v.List_.drop k) (v.Keys.drop k))
  | 0, k, b, h1, h2, _ => by omega
  | J + 1, k, b, h1, h2, h3 => by
    rw [value_text_nl_l1]
    by_cases c : k < v.List_.length
    · have hm := List.getElem_mem c
      have hl := tx_len (hv.sub _ hm) (hw.sub _ hm) (hk.sub _ hm)
      have hwp := wV_pos v.List_[k]
      rw [wL_drop _ c] at h3
      rw [if_pos (by omega), geti_nat, List.getElem?_eq_getElem c, Option.bind_some, jn_eq', List.drop_eq_getElem_cons c, txL]
      have step : ∀ y : List UInt8, y.length ≤ b.length + 1 → (if v.Kind = 6 then (geti v.Keys (k : Int)).bind fun x19 => (value_quoted y x19).bind fun x20 => (app 140737488355328 x20 ([(58 : UInt8)] : List UInt8)).bind fun x21 => (value_text x21 v.List_[k]).bind fun x22 => value_text_nl_l1 v kj J x22 (i64 ((k : Int) + 1)) else (value_text y v.List_[k]).bind fun x23 => value_text_nl_l1 v kj J x23 (i64 ((k : Int) + 1)))
          = kj (y ++ ((if (decide (v.Kind = 6)) = true then qt ((v.Keys.drop k).headD []) ++ [58] else []) ++ (tx v.List_[k] ++ txL (decide (v.Kind = 6)) false (v.List_.drop (k + 1)) (v.Keys.drop k).tail))) := by
        intro y hy
        have hd0 : decide (k + 1 = 0) = false := decide_eq_false (by omega)
        by_cases k6 : v.Kind = 6
        · have ck : k < v.Keys.length := by rw [hw.obj k6]; exact c
          have hq := hk.key _ (List.getElem_mem ck)
          have hql := qt_len v.Keys[k]
          have hh : (v.Keys.drop k).headD [] = v.Keys[k] := by rw [List.drop_eq_getElem_cons ck]; rfl
          rw [if_pos k6, geti_nat, List.getElem?_eq_getElem ck, Option.bind_some, quoted_eq _ _ (by omega), Option.bind_some, app_ok2 _ _ (by simp only [List.length_append, List.length_cons, List.length_nil]; omega), Option.bind_some, hf _ hm _ (by simp only [List.length_append, List.length_cons, List.length_nil]; omega), Option.bind_some, nxt c hv.list,
            textNL_run hv hw hk hf J (k + 1) _ (by omega) (by omega) (by simp only [List.length_append, List.length_cons, List.length_nil]; omega), decide_eq_true k6, hd0, if_pos rfl, hh, List.tail_drop]
          simp only [List.append_assoc]
        · rw [if_neg k6, hf _ hm _ (by omega), Option.bind_some, nxt c hv.list, textNL_run hv hw hk hf J (k + 1) _ (by omega) (by omega) (by simp only [List.length_append]; omega), decide_eq_false k6, hd0, if_neg (by decide), List.tail_drop]
          simp only [List.append_assoc, List.nil_append]
      by_cases k0 : k = 0
      · rw [if_neg (by omega), decide_eq_true k0, if_pos rfl, List.nil_append]
        exact step b (by omega)
      · rw [if_pos (by omega), app_ok2 _ _ (by simp; omega), Option.bind_some, decide_eq_false k0, if_neg (by decide), ← List.append_assoc]
        exact step _ (by simp)
    · rw [if_neg (by omega), List.drop_eq_nil_of_le (by omega), txL, List.append_nil]
theorem text_nl_eq {v : ApiValue} (hv : TV v) (hw : WF v) (hk : KS v) (hb : 700 * wV v ≤ 90000640) : value_text_nl v = some (tx v) := by
  have hf : ∀ x, x ∈ v.List_ → ∀ b : List UInt8, b.length + 700 * wV x ≤ 90000640 → value_text b x = some (b ++ tx x) := fun x hx b hb => text_eq b (hv.sub x hx) (hw.sub x hx) (hk.sub x hx) hb
  have hwv := wV_eq v
  have hFU := FU_M
  have hL := hv.list
  rw [value_text_nl, jn_eq', tx_eq]
  by_cases k1 : v.Kind = 1
  · rw [if_pos k1, if_pos k1, app_ok2 _ _ (by simp)]; rfl
  rw [if_neg k1, if_neg k1]
  by_cases k2 : v.Kind = 2
  · rw [if_pos k2, if_pos k2, app_ok2 _ _ (by simp)]; rfl
  rw [if_neg k2, if_neg k2]
  by_cases k3 : v.Kind = 3
  · rw [if_pos k3, if_pos k3, appendInt_nl_eq hv.num]; rfl
  rw [if_neg k3, if_neg k3]
  by_cases k4 : v.Kind = 4
  · rw [if_pos k4, if_pos k4, quoted_nl_eq _ (by omega)]; rfl
  rw [if_neg k4, if_neg k4, jn_eq']
  have ht := tx_len hv hw hk
  rw [tx_eq, if_neg k1, if_neg k2, if_neg k3, if_neg k4] at ht
  by_cases k5 : v.Kind = 5
  · rw [if_pos k5, if_pos k5, decide_eq_true k5]
    rw [if_pos k5] at ht
    simp only [if_true, k5]
    rw [show geti ([([] : List UInt8), [], [], [], [], [91, 93], [123, 125]] : List (List UInt8)) 5 = some [91, 93] from rfl, Option.bind_some, show geti ([91, 93] : List UInt8) 0 = some 91 from rfl, Option.bind_some, app_ok2 _ _ (by simp), Option.bind_some, jn_eq', show (0 : Int) = ((0 : Nat) : Int) from rfl,
      textNL_run hv hw hk hf FU 0 _ (by omega) (by omega) (by simp only [List.length_append, List.length_cons, List.length_nil, List.drop_zero]; omega), show geti ([91, 93] : List UInt8) 1 = some 93 from rfl, Option.bind_some]
    simp only [List.drop_zero, k5, List.length_cons, List.length_append, List.length_nil] at ht ⊢
    simp only [show decide ((5 : Int) = 6) = false from rfl, decide_true]
    rw [app_ok2 _ _ (by simp only [List.length_append, List.length_cons, List.length_nil]; omega), Option.bind_some]
    simp
  rw [if_neg k5, if_neg k5]
  by_cases k6 : v.Kind = 6
  · rw [if_pos k6, decide_eq_true k6]
    rw [if_neg k5, if_pos k6] at ht
    simp only [if_true, k6]
    rw [show geti ([([] : List UInt8), [], [], [], [], [91, 93], [123, 125]] : List (List UInt8)) 6 = some [123, 125] from rfl, Option.bind_some, show geti ([123, 125] : List UInt8) 0 = some 123 from rfl, Option.bind_some, app_ok2 _ _ (by simp), Option.bind_some, jn_eq', show (0 : Int) = ((0 : Nat) : Int) from rfl,
      textNL_run hv hw hk hf FU 0 _ (by omega) (by omega) (by simp only [List.length_append, List.length_cons, List.length_nil, List.drop_zero]; omega), show geti ([123, 125] : List UInt8) 1 = some 125 from rfl, Option.bind_some]
    simp only [List.drop_zero, k6, List.length_cons, List.length_append, List.length_nil] at ht ⊢
    simp only [decide_true]
    rw [app_ok2 _ _ (by simp only [List.length_append, List.length_cons, List.length_nil]; omega), Option.bind_some]
    simp
  · rw [if_neg k6, decide_eq_false k6]
    simp only [Bool.false_eq_true, if_false]
    rw [app_ok2 _ _ (by simp)]; rfl
/-- Whether a value may be. -/
def mayB (v : ApiValue) : Bool := shB 8 v && decide ((tx v).length ≤ 512)
theorem may_eq {v : ApiValue} (hv : TV v) (hb : KS v → wV v ≤ 4000) : value_May v = some (mayB v) := by
  unfold value_May mayB
  rw [shaped_eq hv, Option.bind_some]
  cases h : shB 8 v with
  | false => rw [if_neg (by decide)]; rfl
  | true =>
    rw [if_pos rfl, text_nl_eq hv (shB_wf 8 h) (shB_ks 8 h) (by have := hb (shB_ks 8 h); omega), Option.bind_some, Option.bind_some, Bool.true_and]
    exact congrArg some (decide_eq_decide.2 (by omega))
theorem mayB_wf {v : ApiValue} (h : mayB v = true) : WF v := by
  unfold mayB at h
  rw [Bool.and_eq_true] at h
  exact shB_wf 8 h.1
end Go.Proofs

set_option linter.unusedVariables false
set_option linter.unusedSimpArgs false
namespace Go.Proofs
open Go.Fw
/-! Values that are the same. -/
theorem rsK_run {a b : ApiValue} (he : a.Keys.length = b.Keys.length) (ha : TV a) {kj : Unit → Option Bool} : ∀ (J k : Nat), k ≤ a.Keys.length → a.Keys.length - k < J →
    ref01_Same_s_l1 a b kj J (k : Int) = if a.Keys.drop k = b.Keys.drop k then kj () else some false
  | 0, k, _, h => by omega
  | J + 1, k, h1, h2 => by
    rw [ref01_Same_s_l1]
    by_cases c : k < a.Keys.length
    · have c2 : k < b.Keys.length := by omega
      rw [if_pos (by omega), geti_nat, geti_nat, List.getElem?_eq_getElem c, List.getElem?_eq_getElem c2, Option.bind_some, Option.bind_some, List.drop_eq_getElem_cons c, List.drop_eq_getElem_cons c2]
      by_cases e : a.Keys[k] = b.Keys[k]
      · rw [if_neg (by simpa using e), nxt c ha.keys, rsK_run he ha J (k + 1) (by omega) (by omega), e]
        simp only [List.cons.injEq, true_and]
      · rw [if_pos e, if_neg (by intro h; exact e (List.cons.inj h).1)]
    · rw [if_neg (by omega), List.drop_eq_nil_of_le (by omega), List.drop_eq_nil_of_le (by omega), if_pos rfl]
theorem rsL_run {a b : ApiValue} (he : a.List_.length = b.List_.length) (ha : TV a) {f : ApiValue → ApiValue → Option Bool} (hf : ∀ x, x ∈ a.List_ → ∀ y, y ∈ b.List_ → f x y = some (eqV x y)) {kj : Unit → Option Bool} (hk : kj () = some true) :
    ∀ (J k : Nat), k ≤ a.List_.length → a.List_.length - k < J → ref01_Same_s_l2 a b f kj J (k : Int) = some (eqL (a.List_.drop k) (b.List_.drop k))
  | 0, k, _, h => by omega
  | J + 1, k, h1, h2 => by
    rw [ref01_Same_s_l2]
    by_cases c : k < a.List_.length
    · have c2 : k < b.List_.length := by omega
      rw [if_pos (by omega), geti_nat, geti_nat, List.getElem?_eq_getElem c, List.getElem?_eq_getElem c2, Option.bind_some, Option.bind_some, hf _ (List.getElem_mem c) _ (List.getElem_mem c2), Option.bind_some, List.drop_eq_getElem_cons c, List.drop_eq_getElem_cons c2, eqL_cons]
      cases eqV a.List_[k] b.List_[k] with
      | false => rw [if_pos (by decide)]; rfl
      | true => rw [if_neg (by decide), nxt c ha.list, rsL_run he ha hf hk J (k + 1) (by omega) (by omega)]; rfl
    · rw [if_neg (by omega), hk, List.drop_eq_nil_of_le (by omega), List.drop_eq_nil_of_le (by omega)]
      exact congrArg some (b_eq (by simp [eqL_iff]))
theorem rsame_run : ∀ (j : Nat) {a b : ApiValue}, dpApiValue a ≤ j → TV a → TV b → ref01_Same_r j a b = some (eqV a b)
  | 0, a, b, h, _, _ => by rw [dpApiValue_eq] at h; omega
  | j + 1, a, b, h, ha, hb => by
    have hFU := FU_M
    have hK := ha.keys
    have hL := ha.list
    rw [ref01_Same_r, ref01_Same_s]
    by_cases c : (((a.Kind = b.Kind ∧ a.Num = b.Num) ∧ a.Text = b.Text) ∧ a.Keys.length = b.Keys.length) ∧ a.List_.length = b.List_.length
    · rw [if_neg (by
        rintro ((((q | q) | q) | q) | q)
        · exact q c.1.1.1.1
        · exact q c.1.1.1.2
        · exact q c.1.1.2
        · have := c.1.2; omega
        · have := c.2; omega), jn_eq', jn_eq', show (0 : Int) = ((0 : Nat) : Int) from rfl, rsK_run c.1.2 ha FU 0 (by omega) (by omega), List.drop_zero, List.drop_zero,
        rsL_run c.2 ha (fun x hx y hy => rsame_run j (by have := dp_sub hx; omega) (ha.sub x hx) (hb.sub y hy)) rfl FU 0 (by omega) (by omega), List.drop_zero, List.drop_zero]
      have hex : a = b ↔ a.Keys = b.Keys ∧ a.List_ = b.List_ := by
        cases a; cases b
        simp only [ApiValue.mk.injEq] at c ⊢
        constructor
        · rintro ⟨_, _, _, h1, h2⟩; exact ⟨h2, h1⟩
        · rintro ⟨h1, h2⟩; exact ⟨c.1.1.1.1, c.1.1.1.2, c.1.1.2, h2, h1⟩
      by_cases e : a.Keys = b.Keys
      · rw [if_pos e]
        exact congrArg some (b_eq (by rw [eqL_iff, eqV_iff, hex]; exact ⟨fun h => ⟨e, h⟩, fun h => h.2⟩))
      · rw [if_neg e]
        exact congrArg some (b_eq (by rw [eqV_iff, hex]; simp [e]))
    · rw [if_pos (by
        apply Classical.byContradiction; intro g
        simp only [not_or, ne_eq, Classical.not_not] at g
        exact c ⟨⟨⟨⟨g.1.1.1.1, g.1.1.1.2⟩, g.1.1.2⟩, by omega⟩, by omega⟩)]
      have : eqV a b = false := by
        cases q : eqV a b with
        | false => rfl
        | true => rw [eqV_iff] at q; subst q; exact absurd ⟨⟨⟨⟨rfl, rfl⟩, rfl⟩, rfl⟩, rfl⟩ c
      rw [this]
theorem rsame_eq {a b : ApiValue} (ha : TV a) (hb : TV b) : ref01_Same a b = some (eqV a b) := by
  unfold ref01_Same
  exact rsame_run _ (by omega) ha hb
theorem print_all {v : ApiValue} (hv : TV v) (hb : KS v → wV v ≤ 4000) : value_Print v = some (if mayB v = true then (tx v, 0) else ([], 1)) := by
  unfold value_Print
  rw [may_eq hv hb, Option.bind_some]
  cases h : mayB v with
  | false => rw [if_pos (by decide), if_neg (by decide)]
  | true =>
    have hs : shB 8 v = true := by unfold mayB at h; rw [Bool.and_eq_true] at h; exact h.1
    rw [if_neg (by decide), if_pos rfl, text_nl_eq hv (shB_wf 8 hs) (shB_ks 8 hs) (by have := hb (shB_ks 8 hs); omega)]; rfl
/-! Text between quotes. -/
def unq : List UInt8 → Option (List UInt8 × List UInt8)
  | [] => none
  | c :: r => if c.toNat = 34 then some ([], r) else if c.toNat = 92 then (match r with
    | [] => none
    | d :: r2 => if d.toNat = 34 ∨ d.toNat = 92 then (unq r2).map fun z => (d :: z.1, z.2) else none) else (unq r).map fun z => (c :: z.1, z.2)
theorem unq_sound : ∀ (n : Nat) (l b t : List UInt8), l.length ≤ n → unq l = some (b, t) → l = b.flatMap esc ++ 34 :: t
  | _, [], b, t, _, h => by simp [unq] at h
  | 0, c :: r, b, t, hn, h => by simp at hn
  | n + 1, c :: r, b, t, hn, h => by
    simp only [List.length_cons] at hn
    unfold unq at h
    by_cases c1 : c.toNat = 34
    · rw [if_pos c1] at h
      have := Option.some.inj h
      have e : c = 34 := UInt8.toNat_inj.1 c1
      simp only [Prod.mk.injEq] at this
      rw [← this.1, ← this.2, e]; rfl
    rw [if_neg c1] at h
    by_cases c2 : c.toNat = 92
    · rw [if_pos c2] at h
      match r, hn, h with
      | d :: r2, hn, h =>
        simp only at h
        by_cases c3 : d.toNat = 34 ∨ d.toNat = 92
        · rw [if_pos c3] at h
          obtain ⟨z, hz, he⟩ := Option.map_eq_some_iff.1 h
          simp only [Prod.mk.injEq] at he
          have ih := unq_sound n r2 z.1 z.2 (by simp only [List.length_cons] at hn; omega) hz
          have e : c = 92 := UInt8.toNat_inj.1 c2
          rw [← he.1, ← he.2, List.flatMap_cons, esc_q c3, e]
          simp [← ih]
        · rw [if_neg c3] at h; cases h
    · rw [if_neg c2] at h
      obtain ⟨z, hz, he⟩ := Option.map_eq_some_iff.1 h
      simp only [Prod.mk.injEq] at he
      have ih := unq_sound n r z.1 z.2 (by omega) hz
      rw [← he.1, ← he.2, List.flatMap_cons, esc_n (by omega)]
      simp [← ih]
theorem unq_complete (t : List UInt8) : ∀ b : List UInt8, unq (b.flatMap esc ++ 34 :: t) = some (b, t)
  | [] => by
    show unq ((34 : UInt8) :: t) = _
    unfold unq
    rw [if_pos (by decide)]
  | c :: b => by
    rw [List.flatMap_cons]
    by_cases h : c.toNat = 34 ∨ c.toNat = 92
    · rw [esc_q h]
      show unq (92 :: c :: (b.flatMap esc ++ 34 :: t)) = _
      unfold unq
      rw [if_neg (by decide), if_pos (by decide)]
      simp only
      rw [if_pos h, unq_complete t b]; rfl
    · rw [esc_n h]
      show unq (c :: (b.flatMap esc ++ 34 :: t)) = _
      unfold unq
      rw [if_neg (by omega), if_neg (by omega), unq_complete t b]; rfl
theorem unq_len : ∀ (n : Nat) (l b t : List UInt8), l.length ≤ n → unq l = some (b, t) → b.length + t.length + 1 ≤ l.length := by
  intro n l b t hn h
  have := unq_sound n l b t hn h
  have hl : b.length ≤ (b.flatMap esc).length := by
    clear this h hn
    induction b with
    | nil => simp
    | cons c b ih =>
      rw [List.flatMap_cons, List.length_append, List.length_cons]
      have : 1 ≤ (esc c).length := by unfold esc; split <;> simp
      omega
  rw [this, List.length_append, List.length_cons]; omega
theorem rq_run {r : ValueReader} (hl : r.rest.length ≤ 100000) {kj : Unit → Option (List UInt8 × ValueReader)} (hk : kj () = some ([], ⟨r.rest, false⟩)) : ∀ (J k : Nat) (x : List UInt8), k ≤ r.rest.length → r.rest.length - k < J → x.length ≤ k →
    value_reader_quoted_l1 r kj J x (k : Int) = match unq (r.rest.drop k) with
      | some (b, t) => some (x ++ b, ⟨t, r.ok⟩)
      | none => some ([], ⟨r.rest, false⟩)
  | 0, k, x, h1, h2, _ => by omega
  | J + 1, k, x, h1, h2, h3 => by
    rw [value_reader_quoted_l1]
    by_cases c : k < r.rest.length
    · have step : ∀ (i : Nat) (hi : i < r.rest.length), k ≤ i → ((some (r.rest[i]'hi)).bind fun x14 => (app 140737488355328 x ([x14] : List UInt8)).bind fun x15 => value_reader_quoted_l1 r kj J x15 (i64 ((i : Int) + 1)))
          = match unq (r.rest.drop (i + 1)) with
            | some (b, t) => some (x ++ r.rest[i]! :: b, ⟨t, r.ok⟩)
            | none => some ([], ⟨r.rest, false⟩) := by
        intro i hi hki
        rw [Option.bind_some, app_ok2 _ _ (by simp; omega), Option.bind_some, nxt hi (by have : M63 = 9223372036854775807 := rfl; omega), rq_run hl hk J (i + 1) _ (by omega) (by omega) (by simp; omega), getElem!_pos r.rest i hi]
        cases unq (r.rest.drop (i + 1)) <;> simp
      have ei : i64 ((k : Int) + 1) = ((k + 1 : Nat) : Int) := nxt c (by have : M63 = 9223372036854775807 := rfl; omega)
      rw [if_pos (by omega), geti_nat, List.getElem?_eq_getElem c, Option.bind_some, jn_eq', ei, List.drop_eq_getElem_cons c]
      dsimp only
      by_cases c1 : r.rest[k].toNat = 34
      · rw [if_pos (by omega), subl_tail _ _ (by omega), Option.bind_some]
        unfold unq
        rw [if_pos c1]; simp
      rw [if_neg (by omega)]
      by_cases c2 : r.rest[k].toNat = 92
      · rw [if_pos (by omega)]
        unfold unq
        rw [if_neg c1, if_pos c2]
        by_cases c3 : k + 1 < r.rest.length
        · rw [if_neg (by omega), geti_nat, List.getElem?_eq_getElem c3, Option.bind_some, List.drop_eq_getElem_cons c3]
          dsimp only
          by_cases c4 : r.rest[k + 1].toNat = 34 ∨ r.rest[k + 1].toNat = 92
          · have e : ((if (r.rest[k + 1].toNat : Int) ≠ 34 then (some r.rest[k + 1]).bind fun x12 => some (decide ((x12.toNat : Int) ≠ 92)) else some false) : Option Bool) = some false := by
              by_cases q : (r.rest[k + 1].toNat : Int) = 34
              · rw [if_neg (by omega)]
              · rw [if_pos q, Option.bind_some, decide_eq_false (by omega)]
            rw [e, Option.bind_some, Option.bind_some, Option.bind_some, if_neg (by decide), if_pos (by omega)]
            refine (step (k + 1) c3 (by omega)).trans ?_
            rw [if_pos c4, getElem!_pos r.rest (k + 1) c3]
            cases unq (r.rest.drop (k + 1 + 1)) <;> simp
          · have e : ((if (r.rest[k + 1].toNat : Int) ≠ 34 then (some r.rest[k + 1]).bind fun x12 => some (decide ((x12.toNat : Int) ≠ 92)) else some false) : Option Bool) = some true := by
              rw [if_pos (by omega), Option.bind_some, decide_eq_true (by omega)]
            rw [e, Option.bind_some, Option.bind_some, Option.bind_some, if_pos rfl, if_neg c4]
            rfl
        · rw [if_pos (by omega), Option.bind_some, Option.bind_some, if_pos rfl, List.drop_eq_nil_of_le (by omega)]
          rfl
      · rw [if_neg (by omega), Option.bind_some, if_neg (by decide), if_neg (by omega), geti_nat, List.getElem?_eq_getElem c]
        refine (step k c (by omega)).trans ?_
        rw [getElem!_pos r.rest k c]
        conv => rhs; unfold unq
        rw [if_neg c1, if_neg c2]
        cases unq (r.rest.drop (k + 1)) <;> simp
    · rw [if_neg (by omega), hk, List.drop_eq_nil_of_le (by omega)]; rfl
theorem rq_eq {r : ValueReader} (hl : r.rest.length ≤ 100000) : value_reader_quoted r = match unq r.rest with
      | some (b, t) => some (b, ⟨t, r.ok⟩)
      | none => some ([], ⟨r.rest, false⟩) := by
  unfold value_reader_quoted
  have := FU_M
  have hM : M63 = 9223372036854775807 := rfl
  rw [jn_eq', show (0 : Int) = ((0 : Nat) : Int) from rfl, rq_run hl rfl FU 0 [] (by omega) (by omega) (by simp), List.drop_zero]
  cases unq r.rest <;> simp
end Go.Proofs

set_option linter.unusedVariables false
set_option linter.unusedSimpArgs false
namespace Go.Proofs
open Go.Fw
/-! Numbers: what is printed is read. -/
theorem u8n {n : Nat} (h : n < 256) : (UInt8.ofNat n).toNat = n := by rw [UInt8.toNat_ofNat']; omega
theorem p10_snoc : ∀ (l : List UInt8) (acc u : Nat) (c : UInt8), Lib.parseUint10 acc l = .ok u → 48 ≤ c.toNat ∧ c.toNat ≤ 57 → u < 1844674407370955162 → u * 10 + (c.toNat - 48) < 18446744073709551616 → Lib.parseUint10 acc (l ++ [c]) = .ok (u * 10 + (c.toNat - 48))
  | [], acc, u, c, h, hc, h1, h2 => by
    simp only [Lib.parseUint10] at h
    injection h with h
    subst h
    simp only [List.nil_append, Lib.parseUint10]
    rw [if_pos hc, if_neg (by omega), if_neg (by omega)]
  | d :: r, acc, u, c, h, hc, h1, h2 => by
    simp only [Lib.parseUint10] at h
    simp only [List.cons_append, Lib.parseUint10]
    split at h
    · split at h
      · cases h
      · split at h
        · cases h
        · rename_i g1 g2 g3
          rw [if_pos g1, if_neg g2, if_neg g3]
          exact p10_snoc r _ u c h hc h1 h2
    · cases h
theorem decF_ne : ∀ (f u : Nat), 1 ≤ f → decF f u ≠ []
  | 0, _, h => by omega
  | f + 1, u, _ => by
    rw [decF]
    split
    · simp
    · simp
theorem p10_dec : ∀ (f u : Nat), 1 ≤ f → u < 10 ^ f → u < 18446744073709551616 → Lib.parseUint10 0 (decF f u) = .ok u
  | 0, _, h, _, _ => by omega
  | f + 1, u, _, hu, hm => by
    rw [decF]
    by_cases c : u < 10
    · rw [if_pos c]
      simp only [Lib.parseUint10]
      rw [u8n (by omega), if_pos (by omega), if_neg (by omega), if_neg (by omega)]
      congr 1; omega
    · have hf : 1 ≤ f := by
        rcases f with _ | f
        · simp at hu; omega
        · omega
      rw [if_neg c, p10_snoc _ 0 (u / 10) _ (p10_dec f (u / 10) hf (by rw [Nat.pow_succ] at hu; omega) (by omega)) (by rw [u8n (by omega)]; omega) (by omega) (by rw [u8n (by omega)]; omega), u8n (by omega)]
      congr 1; omega
theorem mag_dec (u : Nat) (h : u < 18446744073709551616) : Lib.parseMag (decF 30 u) = .ok u := by
  unfold Lib.parseMag
  rw [if_neg (decF_ne 30 u (by decide)), p10_dec 30 u (by decide) (by omega) h]
theorem decF_dig : ∀ (f u : Nat), ∀ c ∈ decF f u, 48 ≤ c.toNat ∧ c.toNat ≤ 57
  | 0, _, c, h => by simp [decF] at h
  | f + 1, u, c, h => by
    rw [decF] at h
    split at h
    · rw [List.mem_singleton] at h; subst h; rw [u8n (by omega)]; omega
    · rcases List.mem_append.1 h with h | h
      · exact decF_dig f _ c h
      · rw [List.mem_singleton] at h; subst h; rw [u8n (by omega)]; omega
theorem atoi_itoa {n : Int} (h : -9223372036854775808 ≤ n ∧ n ≤ 9223372036854775807) : Lib.parseIntB 64 (itoaF n) = .ok n := by
  rw [Lib.parseIntB_64]
  unfold itoaF
  by_cases c : n < 0
  · rw [if_pos c, Lib.atoiAll_minus, mag_dec _ (by omega)]
    simp only [Lib.signed]
    rw [if_neg (by omega)]
    congr 1; omega
  · rw [if_neg c]
    have hd := decF_dig 30 n.toNat
    have hm := mag_dec n.toNat (by omega)
    match hl : decF 30 n.toNat, decF_ne 30 n.toNat (by decide) with
    | x :: r, _ =>
      rw [hl] at hd hm
      have := hd x (by simp)
      rw [Lib.atoiAll_plain x r (by omega) (by omega), hm]
      simp only [Lib.signless]
      rw [if_neg (by omega)]
      congr 1; omega
theorem parseIntR_itoa {n : Int} (h : -9223372036854775808 ≤ n ∧ n ≤ 9223372036854775807) : parseIntR (itoaF n) = (n, false) := by
  unfold parseIntR
  rw [atoi_itoa h]
theorem parseIntR_rng (l : List UInt8) : -9223372036854775808 ≤ (parseIntR l).1 ∧ (parseIntR l).1 ≤ 9223372036854775807 := by
  unfold parseIntR
  have h := Lib.parseIntB_64 l
  split
  · rename_i v hv
    rw [h] at hv
    exact Lib.atoiAll_bounds hv
  · rw [Lib.intSat_64]; exact Lib.atoiSat_bounds l
  · exact ⟨by decide, by decide⟩
def nset : List UInt8 := [45, 48, 49, 50, 51, 52, 53, 54, 55, 56, 57]
theorem nset_iff (c : UInt8) : nset.contains c = true ↔ c.toNat = 45 ∨ (48 ≤ c.toNat ∧ c.toNat ≤ 57) := by
  rw [List.contains_iff_mem]
  unfold nset
  simp only [List.mem_cons, List.not_mem_nil, or_false, ← UInt8.toNat_inj]
  show c.toNat = 45 ∨ c.toNat = 48 ∨ c.toNat = 49 ∨ c.toNat = 50 ∨ c.toNat = 51 ∨ c.toNat = 52 ∨ c.toNat = 53 ∨ c.toNat = 54 ∨ c.toNat = 55 ∨ c.toNat = 56 ∨ c.toNat = 57 ↔ _
  omega
theorem itoaF_set {n : Int} : ∀ c ∈ itoaF n, nset.contains c = true := by
  intro c hc
  rw [nset_iff]
  unfold itoaF at hc
  split at hc
  · rcases List.mem_cons.1 hc with e | e
    · subst e; exact .inl rfl
    · exact .inr (decF_dig _ _ c e)
  · exact .inr (decF_dig _ _ c hc)
theorem itoaF_ne (n : Int) : itoaF n ≠ [] := by
  unfold itoaF
  split
  · simp
  · exact decF_ne _ _ (by decide)
/-- Nothing of a number stands ahead. -/
def noNum (l : List UInt8) : Prop := ∀ c r, l = c :: r → nset.contains c = false
theorem trim_split (l : List UInt8) : ∃ a, l = a ++ Lib.trimLeftS l nset ∧ noNum (Lib.trimLeftS l nset) ∧ (∀ c ∈ a, nset.contains c = true) := by
  unfold Lib.trimLeftS
  induction l with
  | nil => exact ⟨[], rfl, (fun c r h => by simp at h), by simp⟩
  | cons x l ih =>
    rw [List.dropWhile_cons]
    by_cases h : nset.contains x = true
    · rw [if_pos h]
      obtain ⟨a, h1, h2, h3⟩ := ih
      refine ⟨x :: a, by rw [List.cons_append, ← h1], h2, ?_⟩
      intro c hc
      rcases List.mem_cons.1 hc with rfl | hc
      · exact h
      · exact h3 c hc
    · rw [if_neg h]
      refine ⟨[], rfl, ?_, by simp⟩
      intro c r hcr
      injection hcr with h1 h2
      subst h1
      simpa using h
theorem trim_all : ∀ (a l : List UInt8), (∀ c ∈ a, nset.contains c = true) → noNum l → Lib.trimLeftS (a ++ l) nset = l
  | [], l, _, h => by
    unfold Lib.trimLeftS
    cases l with
    | nil => rfl
    | cons x l => rw [List.nil_append, List.dropWhile_cons, if_neg (by rw [h x l rfl]; decide)]
  | x :: a, l, ha, h => by
    have := trim_all a l (fun c hc => ha c (by simp [hc])) h
    unfold Lib.trimLeftS at this ⊢
    rw [List.cons_append, List.dropWhile_cons, if_pos (ha x (by simp)), this]
theorem number_eq {r : ValueReader} (hl : r.rest.length ≤ 100000) : ∃ (a t : List UInt8), r.rest = a ++ t ∧ noNum t ∧ (∀ c ∈ a, nset.contains c = true) ∧ ∃ b, value_reader_number r = some (⟨3, (parseIntR a).1, [], [], []⟩, ⟨t, b⟩) ∧ (b = true ↔ r.ok = true ∧ (parseIntR a).2 = false ∧ itoaF (parseIntR a).1 = a) := by
  obtain ⟨a, h1, h2, h3⟩ := trim_split r.rest
  refine ⟨a, _, h1, h2, h3, ?_⟩
  have hlen : r.rest.length = a.length + (Lib.trimLeftS r.rest nset).length := by
    have := congrArg List.length h1
    rwa [List.length_append] at this
  have ei : i64 ((r.rest.length : Int) - ((Lib.trimLeftS r.rest nset).length : Int)) = (a.length : Int) := by
    rw [i64_id (by omega) (by omega)]; omega
  have e1 : r.rest.take a.length = a := by
    have : (a ++ Lib.trimLeftS r.rest nset).take a.length = a := by simp
    rwa [← h1] at this
  have e2 : r.rest.drop a.length = Lib.trimLeftS r.rest nset := by
    have : (a ++ Lib.trimLeftS r.rest nset).drop a.length = Lib.trimLeftS r.rest nset := by simp
    rwa [← h1] at this
  unfold value_reader_number
  rw [show ([45, 48, 49, 50, 51, 52, 53, 54, 55, 56, 57] : List UInt8) = nset from rfl, ei, if_pos ⟨by decide, by decide⟩, subl_head _ _ (by omega), Option.bind_some, e1, if_pos (by omega), jn_eq']
  have hv : ∀ x : Int, value_Number x = some ⟨3, x, [], [], []⟩ := fun x => rfl
  have hr := parseIntR_rng a
  by_cases c : (parseIntR a).2 = true
  · rw [if_pos c]
    refine ⟨false, ?_, ?_⟩
    · simp only [value_reader_fail, Option.bind_some]
      rw [subl_tail _ _ (by omega), Option.bind_some, hv, Option.bind_some, e2]
    · rw [c]; simp
  · rw [if_neg c, Option.bind_some, if_pos hr]
    by_cases d : itoaF (parseIntR a).1 = a
    · rw [if_neg (by simpa using d)]
      refine ⟨r.ok, ?_, ?_⟩
      · dsimp only
        rw [subl_tail _ _ (by omega), Option.bind_some, hv, Option.bind_some, e2]
      · simp [c, d]
    · rw [if_pos d]
      refine ⟨false, ?_, ?_⟩
      · simp only [value_reader_fail, Option.bind_some]
        rw [subl_tail _ _ (by omega), Option.bind_some, hv, Option.bind_some, e2]
      · simp [d]
theorem is_eq (r : ValueReader) (p : List UInt8) : value_reader_is r p = some (Lib.hasPrefix r.rest p, if Lib.hasPrefix r.rest p = true then ⟨r.rest.drop p.length, r.ok⟩ else r) := by
  unfold value_reader_is
  by_cases h : Lib.hasPrefix r.rest p = true
  · rw [if_pos h, if_pos h]
    unfold Lib.trimPrefix
    rw [if_pos h]
  · rw [if_neg h, if_neg h]
theorem hp_iff (l p : List UInt8) : Lib.hasPrefix l p = true ↔ ∃ t, l = p ++ t := by
  unfold Lib.hasPrefix
  rw [List.isPrefixOf_iff_prefix]
  constructor
  · rintro ⟨t, h⟩; exact ⟨t, h.symm⟩
  · rintro ⟨t, h⟩; exact ⟨t, h.symm⟩
/-- What a reader does at a text ahead. -/
theorem is_yes {r : ValueReader} {p t : List UInt8} (h : r.rest = p ++ t) : value_reader_is r p = some (true, ⟨t, r.ok⟩) := by
  have : Lib.hasPrefix r.rest p = true := (hp_iff _ _).2 ⟨t, h⟩
  rw [is_eq, this, if_pos rfl, h]
  simp
theorem is_no {r : ValueReader} {p : List UInt8} (h : Lib.hasPrefix r.rest p = false) : value_reader_is r p = some (false, r) := by
  rw [is_eq, h]; rfl
theorem is_cases (r : ValueReader) (p : List UInt8) : (∃ t, r.rest = p ++ t ∧ value_reader_is r p = some (true, ⟨t, r.ok⟩)) ∨ (Lib.hasPrefix r.rest p = false ∧ value_reader_is r p = some (false, r)) := by
  cases h : Lib.hasPrefix r.rest p with
  | true =>
    obtain ⟨t, ht⟩ := (hp_iff _ _).1 h
    exact .inl ⟨t, ht, is_yes ht⟩
  | false => exact .inr ⟨rfl, is_no h⟩
theorem hp_ne {c d : UInt8} (h : d ≠ c) (l p : List UInt8) : Lib.hasPrefix (c :: l) (d :: p) = false := by
  cases q : Lib.hasPrefix (c :: l) (d :: p) with
  | false => rfl
  | true =>
    obtain ⟨t, ht⟩ := (hp_iff _ _).1 q
    rw [List.cons_append] at ht
    injection ht with h1 _
    exact absurd h1.symm h
end Go.Proofs

set_option linter.unusedVariables false
set_option linter.unusedSimpArgs false
namespace Go.Proofs
open Go.Fw
/-- What a reader answers: a value, and how far it came. -/
def Snd (r r' : ValueReader) (v : ApiValue) : Prop := TV v ∧ r'.rest.length ≤ r.rest.length ∧ (r'.ok = true → r.ok = true ∧ r.rest = tx v ++ r'.rest ∧ wV v ≤ (tx v).length)
theorem M63_eq : M63 = 9223372036854775807 := rfl
theorem tv_bare {k n : Int} {t : List UInt8} (hk : 0 ≤ k ∧ k ≤ 6) (hn : -9223372036854775808 ≤ n ∧ n ≤ 9223372036854775807) (ht : t.length ≤ 100000) : TV ⟨k, n, t, [], []⟩ :=
  .mk ⟨by show -9223372036854775808 ≤ k; omega, by show k ≤ 9223372036854775807; omega⟩ hn (by show t.length ≤ M63; have := M63_eq; omega) (by show 0 ≤ M63; omega) (by show 0 ≤ M63; omega) (fun k h => by cases h) (fun x h => by cases h)
theorem esc_ge (b : List UInt8) : b.length ≤ (b.flatMap esc).length := by
  induction b with
  | nil => simp
  | cons c b ih =>
    rw [List.flatMap_cons, List.length_append, List.length_cons]
    have : 1 ≤ (esc c).length := by unfold esc; split <;> simp
    omega
theorem qt_ge (b : List UInt8) : b.length + 2 ≤ (qt b).length := by
  unfold qt
  have := esc_ge b
  simp only [List.length_cons, List.length_append, List.length_nil]; omega
theorem row_sound {e : UInt8} {kj : ValueReader → List ApiValue → List (List UInt8) → Option (ApiValue × ValueReader)} {f : ValueReader → Int → Option (ApiValue × ValueReader)} {d kind : Int}
    (hf : ∀ r : ValueReader, r.rest.length ≤ 3000 → ∃ v r', f r (i64 (d - 1)) = some (v, r') ∧ Snd r r' v) :
    ∀ (J n : Nat) (r : ValueReader) (l : List ApiValue) (p : List (List UInt8)), r.rest.length ≤ 3000 → 0 < J → (r.ok = true → r.rest.length + 1 < J) → n ≤ 100000 → l.length ≤ n → p.length ≤ n → (r.ok = true → n + r.rest.length ≤ 90000) →
    ∃ l' p' r', value_reader_row_l1 [e] kj f d kind J (n : Int) r l p = kj r' (l ++ l') (p ++ p') ∧ (r.ok = false → l' = [] ∧ p' = []) ∧ (∀ x, x ∈ l' → TV x) ∧ (∀ k ∈ p', k.length ≤ 3000) ∧ l'.length ≤ r.rest.length + 1 ∧ p'.length ≤ r.rest.length + 1 ∧ (kind ≠ 6 → p' = []) ∧ r'.rest.length ≤ r.rest.length
      ∧ (r'.ok = true → r.ok = true ∧ r.rest = txL (decide (kind = 6)) (decide (n = 0)) l' p' ++ e :: r'.rest ∧ wK p' + wL l' ≤ (txL (decide (kind = 6)) (decide (n = 0)) l' p').length)
  | 0, n, r, l, p, h1, h2, h3, h4, h5, h6, h7 => by omega
  | J + 1, n, r, l, p, h1, h2, h3, h4, h5, h6, h7 => by
    rw [value_reader_row_l1]
    by_cases ho : r.ok = true
    · have hJ := h3 ho
      have hn := h7 ho
      rw [if_pos ho]
      -- it ends here, and so
      have stop : ∀ (r' : ValueReader) (p' : List (List UInt8)), r'.ok = false → r'.rest.length ≤ r.rest.length → p'.length ≤ 1 → (∀ k ∈ p', k.length ≤ 3000) → (kind ≠ 6 → p' = []) → ∃ l1 p1 r1, kj r' l (p ++ p') = kj r1 (l ++ l1) (p ++ p1) ∧ (∀ x, x ∈ l1 → TV x) ∧ (∀ k ∈ p1, k.length ≤ 3000) ∧ l1.length ≤ r.rest.length + 1 ∧ p1.length ≤ r.rest.length + 1 ∧ (kind ≠ 6 → p1 = []) ∧ r1.rest.length ≤ r.rest.length
          ∧ (r1.ok = true → r.ok = true ∧ r.rest = txL (decide (kind = 6)) (decide (n = 0)) l1 p1 ++ e :: r1.rest ∧ wK p1 + wL l1 ≤ (txL (decide (kind = 6)) (decide (n = 0)) l1 p1).length) := by
        intro r' p' g1 g2 g3 g4 g5
        exact ⟨[], p', r', by rw [List.append_nil], (fun x h => by cases h), g4, by simp, by omega, g5, g2, fun h => by rw [g1] at h; cases h⟩
      have stop0 := fun (r' : ValueReader) (g1 : r'.ok = false) (g2 : r'.rest.length ≤ r.rest.length) => stop r' [] g1 g2 (by simp) (by simp) (fun _ => rfl)
      simp only [List.append_nil] at stop0
      rcases is_cases r [e] with ⟨t, ht, hi⟩ | ⟨hp, hi⟩
      · -- the end
        rw [hi]
        simp only [Option.bind_some, Bool.not_true, Bool.false_eq_true, if_false]
        have hl : r.rest.length = t.length + 1 := by rw [ht]; simp
        exact ⟨[], [], ⟨t, r.ok⟩, by simp, (fun _ => ⟨rfl, rfl⟩), (fun x h => by cases h), by simp, by simp, by simp, fun _ => rfl, by show t.length ≤ _; omega, fun _ => ⟨ho, by rw [txL, ht]; rfl, by rw [txL]; simp [wK, wL]⟩⟩
      · rw [hi]
        simp only [Option.bind_some, Bool.not_false, if_true]
        -- what comes behind the separator
        have body : ∀ r1 : ValueReader, r1.ok = true → r.rest = (if decide (n = 0) = true then [] else [44]) ++ r1.rest → ∃ l1 p1 r', (if kind = 6 then (value_reader_is r1 ([34] : List UInt8)).bind fun x17 => if (!x17.1) = true then (value_reader_fail x17.2).bind fun x18 => kj x18.2 l p else (value_reader_quoted x17.2).bind fun x19 => (app 8796093022208 p ([x19.1] : List (List UInt8))).bind fun x20 => (value_reader_is x19.2 ([58] : List UInt8)).bind fun x21 => if (!x21.1) = true then (value_reader_fail x21.2).bind fun x22 => kj x22.2 l x20 else (f x21.2 (i64 (d - 1))).bind fun x23 => (app 1759218604441 l ([x23.1] : List ApiValue)).bind fun x24 => value_reader_row_l1 [e] kj f d kind J (i64 ((n : Int) + 1)) x23.2 x24 x20 else (f r1 (i64 (d - 1))).bind fun x23 => (app 1759218604441 l ([x23.1] : List ApiValue)).bind fun x24 => value_reader_row_l1 [e] kj f d kind J (i64 ((n : Int) + 1)) x23.2 x24 p)
              = kj r' (l ++ l1) (p ++ p1) ∧ (∀ x, x ∈ l1 → TV x) ∧ (∀ k ∈ p1, k.length ≤ 3000) ∧ l1.length ≤ r.rest.length + 1 ∧ p1.length ≤ r.rest.length + 1 ∧ (kind ≠ 6 → p1 = []) ∧ r'.rest.length ≤ r.rest.length
          ∧ (r'.ok = true → r.ok = true ∧ r.rest = txL (decide (kind = 6)) (decide (n = 0)) l1 p1 ++ e :: r'.rest ∧ wK p1 + wL l1 ≤ (txL (decide (kind = 6)) (decide (n = 0)) l1 p1).length) := by
          intro r1 o1 hr1
          have hl1 : r1.rest.length ≤ r.rest.length := by rw [hr1, List.length_append]; omega
          -- a value behind the key
          have val : ∀ (r2 : ValueReader) (pk : List (List UInt8)), r2.rest.length ≤ r1.rest.length → pk.length ≤ 1 → (∀ k ∈ pk, k.length ≤ 3000) → (kind ≠ 6 → pk = []) → (r2.ok = true → r1.rest = (if decide (kind = 6) = true then qt (pk.headD []) ++ [58] else []) ++ r2.rest ∧ (kind = 6 → pk.length = 1)) →
              ∃ l1 p1 r', ((f r2 (i64 (d - 1))).bind fun x23 => (app 1759218604441 l ([x23.1] : List ApiValue)).bind fun x24 => value_reader_row_l1 [e] kj f d kind J (i64 ((n : Int) + 1)) x23.2 x24 (p ++ pk))
              = kj r' (l ++ l1) (p ++ p1) ∧ (∀ x, x ∈ l1 → TV x) ∧ (∀ k ∈ p1, k.length ≤ 3000) ∧ l1.length ≤ r.rest.length + 1 ∧ p1.length ≤ r.rest.length + 1 ∧ (kind ≠ 6 → p1 = []) ∧ r'.rest.length ≤ r.rest.length
          ∧ (r'.ok = true → r.ok = true ∧ r.rest = txL (decide (kind = 6)) (decide (n = 0)) l1 p1 ++ e :: r'.rest ∧ wK p1 + wL l1 ≤ (txL (decide (kind = 6)) (decide (n = 0)) l1 p1).length) := by
            intro r2 pk g1 g2 g3 g4 g5
            obtain ⟨v, r3, hv, tv, s1, s2⟩ := hf r2 (by omega)
            have hs : r3.ok = true → r3.rest.length + 1 ≤ r2.rest.length := by
              intro h
              obtain ⟨_, h2, h3⟩ := s2 h
              have := wV_pos v
              rw [h2, List.length_append]; omega
            rw [hv, Option.bind_some, app_ok2 _ _ (by simp; omega), Option.bind_some, show i64 ((n : Int) + 1) = ((n + 1 : Nat) : Int) from by rw [i64_id (by omega) (by omega)]; rfl]
            obtain ⟨l1, p1, r', e1, e0, e2, e3, e4, e5, e6, e7, e8⟩ := row_sound hf J (n + 1) r3 (l ++ [v]) (p ++ pk) (by omega) (by omega) (fun h => by have := hs h; omega) (by omega) (by simp; omega) (by simp; omega) (fun h => by have := hs h; omega)
            have hne : r3.rest.length + 1 ≤ r.rest.length ∨ r3.ok = false := by
              cases q : r3.ok with
              | false => exact .inr rfl
              | true => exact .inl (by have := hs q; omega)
            refine ⟨v :: l1, pk ++ p1, r', by rw [e1, List.append_assoc, List.append_assoc]; rfl, ?_, ?_, ?_, ?_, ?_, by omega, ?_⟩
            · intro x hx
              rcases List.mem_cons.1 hx with rfl | hx
              · exact tv
              · exact e2 x hx
            · intro k hk
              rcases List.mem_append.1 hk with hk | hk
              · exact g3 k hk
              · exact e3 k hk
            · rcases hne with h | h
              · simp only [List.length_cons]; omega
              · rw [(e0 h).1]; simp
            · rcases hne with h | h
              · rw [List.length_append]; omega
              · rw [(e0 h).2, List.append_nil]; omega
            · intro h; rw [g4 h, e6 h]; rfl
            · intro h
              obtain ⟨k1, k2, k3⟩ := e8 h
              obtain ⟨j1, j2, j3⟩ := s2 k1
              obtain ⟨i1, i2⟩ := g5 j1
              have hd0 : decide (n + 1 = 0) = false := decide_eq_false (by omega)
              rw [hd0] at k2 k3
              refine ⟨ho, ?_, ?_⟩
              · rw [hr1, i1, j2, k2, txL]
                by_cases k6 : kind = 6
                · match pk, i2 k6 with
                  | [k], _ => simp [k6]
                · rw [g4 k6, e6 k6]; simp [k6]
              · rw [txL, wL]
                by_cases k6 : kind = 6
                · match pk, i2 k6 with
                  | [k], _ =>
                    have := qt_ge k
                    simp only [k6, decide_true, if_true, List.singleton_append, List.headD_cons, List.tail_cons, List.length_append, List.length_cons, List.length_nil, wK, List.map_cons, List.sum_cons] at k3 ⊢
                    omega
                · rw [g4 k6, e6 k6]
                  rw [e6 k6] at k3
                  simp only [decide_eq_false k6, Bool.false_eq_true, if_false, List.nil_append, List.tail_nil, List.length_append] at k3 ⊢
                  omega
          by_cases k6 : kind = 6
          · rw [if_pos k6]
            rcases is_cases r1 [34] with ⟨t1, ht1, hi1⟩ | ⟨hp1, hi1⟩
            · rw [hi1]
              have hl2 : r1.rest.length = t1.length + 1 := by rw [ht1]; simp
              have hq := rq_eq (r := (⟨t1, r1.ok⟩ : ValueReader)) (by show t1.length ≤ 100000; omega)
              simp only [Option.bind_some, Bool.not_true, Bool.false_eq_true, if_false]
              rw [hq]
              cases hu : unq t1 with
              | none =>
                simp only [Option.bind_some]
                rw [app_ok2 _ _ (by simp; omega), Option.bind_some]
                rcases is_cases (⟨t1, false⟩ : ValueReader) [58] with ⟨t2, ht2, hi2⟩ | ⟨hp2, hi2⟩
                · rw [hi2]
                  simp only [Option.bind_some, Bool.not_true, Bool.false_eq_true, if_false]
                  have : t1.length = t2.length + 1 := by have h : t1 = [58] ++ t2 := ht2; rw [h]; simp
                  exact val ⟨t2, false⟩ [[]] (by show t2.length ≤ _; omega) (by simp) (by simp) (fun h => absurd k6 h) (fun h => by cases h)
                · rw [hi2]
                  simp only [Option.bind_some, Bool.not_false, if_true, value_reader_fail]
                  exact stop ⟨t1, false⟩ [[]] rfl (by show t1.length ≤ _; omega) (by simp) (by simp) (fun h => absurd k6 h)
              | some bt =>
                obtain ⟨b, t3⟩ := bt
                have hul := unq_len _ t1 b t3 (Nat.le_refl _) hu
                have hus := unq_sound _ t1 b t3 (Nat.le_refl _) hu
                simp only [Option.bind_some]
                rw [app_ok2 _ _ (by simp; omega), Option.bind_some]
                rcases is_cases (⟨t3, r1.ok⟩ : ValueReader) [58] with ⟨t2, ht2, hi2⟩ | ⟨hp2, hi2⟩
                · rw [hi2]
                  simp only [Option.bind_some, Bool.not_true, Bool.false_eq_true, if_false]
                  have h3 : t3 = [58] ++ t2 := ht2
                  have : t3.length = t2.length + 1 := by rw [h3]; simp
                  refine val ⟨t2, r1.ok⟩ [b] (by show t2.length ≤ _; omega) (by simp) (by simp; omega) (fun h => absurd k6 h) (fun _ => ⟨?_, fun _ => rfl⟩)
                  rw [ht1, hus, h3, decide_eq_true k6]
                  simp [qt]
                · rw [hi2]
                  simp only [Option.bind_some, Bool.not_false, if_true, value_reader_fail]
                  exact stop ⟨t3, false⟩ [b] rfl (by show t3.length ≤ _; omega) (by simp) (by simp; omega) (fun h => absurd k6 h)
            · rw [hi1]
              simp only [Option.bind_some, Bool.not_false, if_true, value_reader_fail]
              exact stop0 ⟨r1.rest, false⟩ rfl hl1
          · rw [if_neg k6]
            have := val r1 [] (Nat.le_refl _) (by simp) (by simp) (fun _ => rfl) (fun _ => ⟨by rw [decide_eq_false k6]; rfl, fun h => absurd h k6⟩)
            rwa [List.append_nil] at this
        have fin : ∀ {o : Option (ApiValue × ValueReader)}, (∃ l1 p1 r', o = kj r' (l ++ l1) (p ++ p1) ∧ (∀ x, x ∈ l1 → TV x) ∧ (∀ k ∈ p1, k.length ≤ 3000) ∧ l1.length ≤ r.rest.length + 1 ∧ p1.length ≤ r.rest.length + 1 ∧ (kind ≠ 6 → p1 = []) ∧ r'.rest.length ≤ r.rest.length
          ∧ (r'.ok = true → r.ok = true ∧ r.rest = txL (decide (kind = 6)) (decide (n = 0)) l1 p1 ++ e :: r'.rest ∧ wK p1 + wL l1 ≤ (txL (decide (kind = 6)) (decide (n = 0)) l1 p1).length)) →
            ∃ l1 p1 r', o = kj r' (l ++ l1) (p ++ p1) ∧ (r.ok = false → l1 = [] ∧ p1 = []) ∧ (∀ x, x ∈ l1 → TV x) ∧ (∀ k ∈ p1, k.length ≤ 3000) ∧ l1.length ≤ r.rest.length + 1 ∧ p1.length ≤ r.rest.length + 1 ∧ (kind ≠ 6 → p1 = []) ∧ r'.rest.length ≤ r.rest.length
          ∧ (r'.ok = true → r.ok = true ∧ r.rest = txL (decide (kind = 6)) (decide (n = 0)) l1 p1 ++ e :: r'.rest ∧ wK p1 + wL l1 ≤ (txL (decide (kind = 6)) (decide (n = 0)) l1 p1).length) := by
          rintro o ⟨l1, p1, r', h⟩
          exact ⟨l1, p1, r', h.1, (fun q => by rw [ho] at q; cases q), h.2⟩
        refine fin ?_
        by_cases n0 : n = 0
        · rw [if_neg (by omega)]
          simp only [Option.bind_some, Bool.false_eq_true, if_false, jn_eq']
          exact body r ho (by rw [decide_eq_true n0]; rfl)
        · rw [if_pos (by omega)]
          rcases is_cases r [44] with ⟨t1, ht1, hi1⟩ | ⟨hp1, hi1⟩
          · rw [hi1]
            simp only [Option.bind_some, Bool.not_true, Bool.false_eq_true, if_false, jn_eq']
            exact body ⟨t1, r.ok⟩ ho (by rw [decide_eq_false n0]; exact ht1)
          · rw [hi1]
            simp only [Option.bind_some, Bool.not_false, if_true, value_reader_fail]
            exact stop0 ⟨r.rest, false⟩ rfl (Nat.le_refl _)
    · have hof : r.ok = false := by simpa using ho
      rw [if_neg ho]
      simp only [Option.bind_some, Bool.false_eq_true, if_false]
      exact ⟨[], [], r, by simp, fun _ => ⟨rfl, rfl⟩, (fun x h => by cases h), by simp, by simp, by simp, fun _ => rfl, Nat.le_refl _, fun h => absurd h ho⟩
end Go.Proofs

set_option linter.unusedVariables false
set_option linter.unusedSimpArgs false
namespace Go.Proofs
open Go.Fw
theorem row_snd {e : UInt8} {f : ValueReader → Int → Option (ApiValue × ValueReader)} {d kind : Int} (hk : kind = 5 ∧ e = 93 ∨ kind = 6 ∧ e = 125)
    (hf : ∀ r : ValueReader, r.rest.length ≤ 3000 → ∃ v r', f r (i64 (d - 1)) = some (v, r') ∧ Snd r r' v) {r r0 : ValueReader} {c : UInt8} (hc : kind = 5 ∧ c = 91 ∨ kind = 6 ∧ c = 123) (h0 : r0.rest = c :: r.rest) (ho : r0.ok = r.ok) (hl : r0.rest.length ≤ 3000) :
    ∃ v r', value_reader_row f r kind d [e] = some (v, r') ∧ Snd r0 r' v := by
  have hFU := FU_M
  have hM := M63_eq
  have hlen : r0.rest.length = r.rest.length + 1 := by rw [h0]; simp
  unfold value_reader_row
  obtain ⟨l1, p1, r', e1, e0, e2, e3, e4, e5, e6, e7, e8⟩ := row_sound (e := e) (kj := fun (x2 : ValueReader) (x3 : (List ApiValue)) (x4 : (List (List UInt8))) => some ((⟨kind, 0, ([] : List UInt8), x3, x4⟩ : ApiValue), x2)) (kind := kind) hf FU 0 r [] [] (by omega) (by omega) (fun _ => by omega) (by omega) (by simp) (by simp) (fun _ => by omega)
  rw [jn_eq']
  refine ⟨⟨kind, 0, [], l1, p1⟩, r', e1, ?_, by omega, ?_⟩
  · refine .mk ⟨by show -9223372036854775808 ≤ kind; omega, by show kind ≤ 9223372036854775807; omega⟩ ⟨by show (-9223372036854775808 : Int) ≤ 0; decide, by show (0 : Int) ≤ 9223372036854775807; decide⟩ (by show 0 ≤ M63; omega) (by show l1.length ≤ M63; omega) (by show p1.length ≤ M63; omega) (fun k h => by have := e3 k h; omega) e2
  · intro h
    obtain ⟨k1, k2, k3⟩ := e8 h
    have ht : tx ⟨kind, 0, [], l1, p1⟩ = c :: (txL (decide (kind = 6)) (decide (0 = 0)) l1 p1 ++ [e]) := by
      rw [tx_eq]
      rcases hk with ⟨a1, a2⟩ | ⟨a1, a2⟩
      · subst a1; subst a2
        rcases hc with ⟨b1, b2⟩ | ⟨b1, b2⟩
        · subst b2; rfl
        · omega
      · subst a1; subst a2
        rcases hc with ⟨b1, b2⟩ | ⟨b1, b2⟩
        · omega
        · subst b2; rfl
    refine ⟨by rw [ho]; exact k1, ?_, ?_⟩
    · rw [h0, k2, ht]; simp
    · rw [ht, wV_eq]
      simp only [List.length_cons, List.length_append, List.length_nil] at k3 ⊢
      omega
theorem value_sound : ∀ (d j : Nat) (r : ValueReader), d < j → d ≤ 100 → r.rest.length ≤ 3000 → ∃ v r', value_reader_value_r j r (d : Int) = some (v, r') ∧ Snd r r' v
  | d, 0, r, h, _, _ => by omega
  | 0, j + 1, r, h, _, _ => by
    rw [value_reader_value_r, value_reader_value_s, if_pos (.inl (by decide))]
    exact ⟨_, _, rfl, tv_bare (by omega) (by omega) (by simp), Nat.le_refl _, fun h => by cases h⟩
  | d + 1, j + 1, r, h, hd, hl => by
    rw [value_reader_value_r, value_reader_value_s]
    by_cases ho : r.ok = true
    · rw [if_neg (by rw [ho]; simp; omega)]
      have hf : ∀ r : ValueReader, r.rest.length ≤ 3000 → ∃ v r', value_reader_value_r j r (i64 (((d + 1 : Nat) : Int) - 1)) = some (v, r') ∧ Snd r r' v := fun r hr => by
        rw [i64_id (by omega) (by omega), show ((d + 1 : Nat) : Int) - 1 = (d : Int) by omega]
        exact value_sound d j r (by omega) (by omega) hr
      rcases is_cases r [110, 117, 108, 108] with ⟨t, ht, hi⟩ | ⟨hp, hi⟩
      · rw [hi, Option.bind_some, if_pos rfl]
        exact ⟨_, _, rfl, tv_bare (by omega) (by omega) (by simp), by show t.length ≤ _; rw [ht, List.length_append]; omega, fun h => ⟨ho, by rw [ht]; rfl, by decide⟩⟩
      rw [hi, Option.bind_some, if_neg Bool.false_ne_true]
      rcases is_cases r [102, 97, 108, 115, 101] with ⟨t, ht, hi⟩ | ⟨hp, hi⟩
      · rw [hi, Option.bind_some, if_pos rfl]
        exact ⟨_, _, rfl, tv_bare (by omega) (by omega) (by simp), by show t.length ≤ _; rw [ht, List.length_append]; omega, fun h => ⟨ho, by rw [ht]; rfl, by decide⟩⟩
      rw [hi, Option.bind_some, if_neg Bool.false_ne_true]
      rcases is_cases r [116, 114, 117, 101] with ⟨t, ht, hi⟩ | ⟨hp, hi⟩
      · rw [hi, Option.bind_some, if_pos rfl]
        exact ⟨_, _, rfl, tv_bare (by omega) (by omega) (by simp), by show t.length ≤ _; rw [ht, List.length_append]; omega, fun h => ⟨ho, by rw [ht]; rfl, by decide⟩⟩
      rw [hi, Option.bind_some, if_neg Bool.false_ne_true]
      rcases is_cases r [34] with ⟨t, ht, hi⟩ | ⟨hp, hi⟩
      · have hlt : r.rest.length = t.length + 1 := by rw [ht]; simp
        rw [hi, Option.bind_some, if_pos rfl, rq_eq (by show t.length ≤ 100000; omega)]
        dsimp only
        cases hu : unq t with
        | none =>
          exact ⟨_, _, rfl, tv_bare (by omega) (by omega) (by simp), by show t.length ≤ _; omega, fun h => by cases h⟩
        | some bt =>
          obtain ⟨b, t3⟩ := bt
          have hul := unq_len _ t b t3 (Nat.le_refl _) hu
          have hus := unq_sound _ t b t3 (Nat.le_refl _) hu
          refine ⟨_, _, rfl, tv_bare (by omega) (by omega) (by show b.length ≤ 100000; omega), by show t3.length ≤ _; omega, fun h => ⟨ho, ?_, ?_⟩⟩
          · rw [ht, hus]
            show _ = qt b ++ t3
            simp [qt]
          · have := qt_ge b
            show wV ⟨4, 0, b, [], []⟩ ≤ (qt b).length
            rw [wV_eq]
            simp only [wK, wL, List.map_nil, List.sum_nil]
            omega
      rw [hi, Option.bind_some, if_neg Bool.false_ne_true]
      rcases is_cases r [91] with ⟨t, ht, hi⟩ | ⟨hp, hi⟩
      · rw [hi, Option.bind_some, if_pos rfl]
        obtain ⟨v, r', e1, e2⟩ := row_snd (e := 93) (kind := 5) (.inl ⟨rfl, rfl⟩) hf (r := ⟨t, r.ok⟩) (r0 := r) (c := 91) (.inl ⟨rfl, rfl⟩) ht rfl hl
        exact ⟨v, r', by rw [e1]; rfl, e2⟩
      rw [hi, Option.bind_some, if_neg Bool.false_ne_true]
      rcases is_cases r [123] with ⟨t, ht, hi⟩ | ⟨hp, hi⟩
      · rw [hi, Option.bind_some, if_pos rfl]
        obtain ⟨v, r', e1, e2⟩ := row_snd (e := 125) (kind := 6) (.inr ⟨rfl, rfl⟩) hf (r := ⟨t, r.ok⟩) (r0 := r) (c := 123) (.inr ⟨rfl, rfl⟩) ht rfl hl
        exact ⟨v, r', by rw [e1]; rfl, e2⟩
      rw [hi, Option.bind_some, if_neg Bool.false_ne_true]
      obtain ⟨a, t, h1, h2, h3, b, h4, h5⟩ := number_eq (r := r) (by omega)
      rw [h4]
      refine ⟨_, _, rfl, tv_bare (by omega) (parseIntR_rng a) (by simp), by show t.length ≤ _; rw [h1, List.length_append]; omega, fun h => ?_⟩
      obtain ⟨g1, g2, g3⟩ := h5.1 h
      have ht : tx ⟨3, (parseIntR a).1, [], [], []⟩ = a := by rw [tx_eq]; exact g3
      refine ⟨g1, by rw [ht]; exact h1, ?_⟩
      rw [ht, wV_eq]
      have hne := itoaF_ne (parseIntR a).1
      rw [g3] at hne
      have := List.length_pos_iff.2 hne
      simp only [wK, wL, List.map_nil, List.sum_nil, List.length_nil]
      omega
    · rw [if_pos (.inr (by simpa using ho))]
      exact ⟨_, _, rfl, tv_bare (by omega) (by omega) (by simp), Nat.le_refl _, fun h => by cases h⟩
/-- What any text is read as. -/
theorem parse_sound (s : List UInt8) : ∃ v e, value_Parse s = some (v, e) ∧ TV v ∧ (e = 0 → s = tx v ∧ mayB v = true ∧ wV v ≤ 512) := by
  have z : TV ⟨0, 0, [], [], []⟩ := tv_bare (by omega) (by omega) (by simp)
  unfold value_Parse
  by_cases c : 512 < (s.length : Int)
  · rw [if_pos c]
    exact ⟨_, _, rfl, z, fun h => by cases h⟩
  rw [if_neg c]
  obtain ⟨v, r', e1, tv, e2, e3⟩ := value_sound 8 FU ⟨s, true⟩ (by have := FU_M; omega) (by omega) (by show s.length ≤ 3000; omega)
  have e1' : value_reader_value ⟨s, true⟩ 8 = some (v, r') := e1
  rw [e1', Option.bind_some]
  by_cases d : (!r'.ok) = true ∨ r'.rest ≠ []
  · rw [if_pos d, Option.bind_some, if_pos rfl]
    exact ⟨_, _, rfl, z, fun h => by cases h⟩
  · rw [if_neg d]
    simp only [not_or, Bool.not_eq_true', Bool.not_eq_false, ne_eq, Classical.not_not] at d
    obtain ⟨g1, g2, g3⟩ := e3 d.1
    have g2' : s = tx v := by have h : s = tx v ++ r'.rest := g2; rwa [d.2, List.append_nil] at h
    have hw : wV v ≤ 512 := by rw [← g2'] at g3; omega
    rw [may_eq tv (fun _ => by omega), Option.bind_some, Option.bind_some]
    cases hm : mayB v with
    | false => exact ⟨_, _, rfl, z, fun h => by cases h⟩
    | true => exact ⟨_, _, rfl, tv, fun _ => ⟨g2', hm, hw⟩⟩
/-! What is printed is read. -/
theorem noNum_of {c : UInt8} {t : List UInt8} (h : nset.contains c = false) : noNum (c :: t) := by
  intro x r e
  injection e with e1 _
  subst e1; exact h
theorem row_full {o : Bool} {e : UInt8} {kj : ValueReader → List ApiValue → List (List UInt8) → Option (ApiValue × ValueReader)} {f : ValueReader → Int → Option (ApiValue × ValueReader)} {d kind : Int} (hk : kind = 5 ∧ e = 93 ∨ kind = 6 ∧ e = 125) (ho : o = decide (kind = 6)) :
    ∀ (l' : List ApiValue) (p' : List (List UInt8)) (J n : Nat) (t : List UInt8) (l : List ApiValue) (p : List (List UInt8)), (∀ x, x ∈ l' → ∀ t, noNum t → (tx x ++ t).length ≤ 3000 → f ⟨tx x ++ t, true⟩ (i64 (d - 1)) = some (x, ⟨t, true⟩)) → (∀ x, x ∈ l' → ∀ t, ∃ c r, tx x ++ t = c :: r ∧ c ≠ 93 ∧ c ≠ 125 ∧ c ≠ 44) →
      (kind = 6 → p'.length = l'.length) → (kind ≠ 6 → p' = []) → l'.length < J → n + l'.length ≤ 10000 → l.length ≤ n → p.length ≤ n → (txL o (decide (n = 0)) l' p' ++ e :: t).length ≤ 3000 →
      value_reader_row_l1 [e] kj f d kind J (n : Int) ⟨txL o (decide (n = 0)) l' p' ++ e :: t, true⟩ l p = kj ⟨t, true⟩ (l ++ l') (p ++ p')
  | _, _, 0, _, _, _, _, _, _, _, _, h, _, _, _, _ => by omega
  | [], p', J + 1, n, t, l, p, hf, hc, h1, h2, h3, h4, h5, h6, h7 => by
    have hp : p' = [] := by
      by_cases k : kind = 6
      · exact List.length_eq_zero_iff.1 (h1 k)
      · exact h2 k
    rw [value_reader_row_l1, txL, if_pos rfl, is_yes (p := [e]) (t := t) rfl]
    simp only [Option.bind_some, Bool.not_true, Bool.false_eq_true, if_false]
    rw [hp, List.append_nil, List.append_nil]
  | x :: l', p', J + 1, n, t, l, p, hf, hc, h1, h2, h3, h4, h5, h6, h7 => by
    have he : e = 93 ∨ e = 125 := by rcases hk with h | h; exact .inl h.2; exact .inr h.2
    have hx := hf x (by simp)
    have ih := row_full (kj := kj) (f := f) (d := d) hk ho l' p'.tail J (n + 1) t (l ++ [x])
    have hnx : i64 ((n : Int) + 1) = ((n + 1 : Nat) : Int) := by rw [i64_id (by omega) (by simp only [List.length_cons] at h4; omega)]; rfl
    have hd0 : decide (n + 1 = 0) = false := decide_eq_false (by omega)
    rw [hd0] at ih
    have hnn : noNum (txL o false l' p'.tail ++ e :: t) := by
      cases l' with
      | nil =>
        rw [txL]
        rcases he with rfl | rfl
        · exact noNum_of (by decide)
        · exact noNum_of (by decide)
      | cons y l' => rw [txL]; exact noNum_of (c := 44) (by decide)
    rw [txL] at h7 ⊢
    rw [value_reader_row_l1, if_pos rfl]
    -- behind the separator
    have body : ∀ (q : List UInt8), q = (if o = true then qt (p'.headD []) ++ [58] else []) ++ (tx x ++ txL o false l' p'.tail) ++ e :: t → q.length ≤ 3000 → (if kind = 6 then (value_reader_is (⟨q, true⟩ : ValueReader) ([34] : List UInt8)).bind fun x17 => if (!x17.1) = true then (value_reader_fail x17.2).bind fun x18 => kj x18.2 l p else (value_reader_quoted x17.2).bind fun x19 => (app 8796093022208 p ([x19.1] : List (List UInt8))).bind fun x20 => (value_reader_is x19.2 ([58] : List UInt8)).bind fun x21 => if (!x21.1) = true then (value_reader_fail x21.2).bind fun x22 => kj x22.2 l x20 else (f x21.2 (i64 (d - 1))).bind fun x23 => (app 1759218604441 l ([x23.1] : List ApiValue)).bind fun x24 => value_reader_row_l1 [e] kj f d kind J (i64 ((n : Int) + 1)) x23.2 x24 x20 else (f (⟨q, true⟩ : ValueReader) (i64 (d - 1))).bind fun x23 => (app 1759218604441 l ([x23.1] : List ApiValue)).bind fun x24 => value_reader_row_l1 [e] kj f d kind J (i64 ((n : Int) + 1)) x23.2 x24 p)
        = kj ⟨t, true⟩ (l ++ x :: l') (p ++ p') := by
      intro q hq hql
      by_cases k6 : kind = 6
      · rw [if_pos k6]
        have o6 : o = true := by rw [ho]; exact decide_eq_true k6
        match p', h1 k6 with
        | k :: p2, hpl =>
          rw [o6] at hq ih hnn
          simp only [if_true, List.headD_cons, List.tail_cons] at hq ih hnn
          have e1 : q = [34] ++ (k.flatMap esc ++ 34 :: ([58] ++ (tx x ++ (txL true false l' p2 ++ e :: t)))) := by rw [hq]; simp [qt]
          rw [is_yes (r := ⟨q, true⟩) e1, Option.bind_some]
          have hl1 : q.length = 1 + (k.flatMap esc ++ 34 :: ([58] ++ (tx x ++ (txL true false l' p2 ++ e :: t)))).length := by rw [e1, List.length_append]; rfl
          have hl2 : (tx x ++ (txL true false l' p2 ++ e :: t)).length ≤ q.length := by rw [e1]; simp only [List.length_append, List.length_cons]; omega
          rw [if_neg (show ¬ (!true) = true from Bool.false_ne_true), rq_eq (by show (k.flatMap esc ++ 34 :: ([58] ++ (tx x ++ (txL true false l' p2 ++ e :: t)))).length ≤ 100000; omega)]
          dsimp only
          rw [unq_complete]
          simp only [Option.bind_some]
          rw [app_ok2 _ _ (by simp; omega), Option.bind_some, is_yes (r := ⟨[58] ++ (tx x ++ (txL true false l' p2 ++ e :: t)), true⟩) rfl, Option.bind_some]
          rw [if_neg (show ¬ (!true) = true from Bool.false_ne_true), hx _ hnn (by omega), Option.bind_some, app_ok2 _ _ (by simp; omega), Option.bind_some, hnx,
            ih (p ++ [k]) (fun y hy => hf y (by simp [hy])) (fun y hy => hc y (by simp [hy])) (fun _ => by simp only [List.length_cons] at hpl; omega) (fun h => absurd k6 h) (by simp only [List.length_cons] at h3; omega) (by simp only [List.length_cons] at h4; omega) (by simp; omega) (by simp; omega) (by rw [List.length_append] at hl2; omega)]
          rw [List.append_assoc, List.append_assoc]; rfl
      · have o6 : o = false := by rw [ho]; exact decide_eq_false k6
        have hp := h2 k6
        subst hp
        rw [o6] at hq ih hnn
        simp only [Bool.false_eq_true, if_false, List.nil_append, List.tail_nil] at hq ih hnn
        have e1 : q = tx x ++ (txL false false l' [] ++ e :: t) := by rw [hq]; simp
        have hl2 : (tx x ++ (txL false false l' [] ++ e :: t)).length ≤ q.length := by rw [e1]; omega
        rw [if_neg k6, e1, hx _ hnn (by omega), Option.bind_some, app_ok2 _ _ (by simp; omega), Option.bind_some, hnx,
          ih p (fun y hy => hf y (by simp [hy])) (fun y hy => hc y (by simp [hy])) (fun h => absurd h k6) (by simp) (by simp only [List.length_cons] at h3; omega) (by simp only [List.length_cons] at h4; omega) (by simp; omega) (by omega) (by rw [List.length_append] at hl2; omega)]
        rw [List.append_assoc]; rfl
    by_cases n0 : n = 0
    · have dn : decide (n = 0) = true := decide_eq_true n0
      rw [dn] at h7 ⊢
      simp only [if_true, List.nil_append] at h7 ⊢
      obtain ⟨c, r0, hcr, c1, c2, c3⟩ : ∃ c r0, ((if o = true then qt (p'.headD []) ++ [58] else []) ++ (tx x ++ txL o false l' p'.tail)) ++ e :: t = c :: r0 ∧ c ≠ 93 ∧ c ≠ 125 ∧ c ≠ 44 := by
        cases o with
        | true => exact ⟨34, _, rfl, by decide, by decide, by decide⟩
        | false =>
          simp only [Bool.false_eq_true, if_false, List.nil_append]
          rw [List.append_assoc]
          exact hc x (by simp) _
      rw [is_no (by show Lib.hasPrefix _ [e] = false; rw [hcr]; exact hp_ne (by rintro rfl; rcases he with rfl | rfl; exact c1 rfl; exact c2 rfl) _ _)]
      simp only [Option.bind_some, Bool.not_false, if_true]
      rw [if_neg (by omega)]
      simp only [Option.bind_some, Bool.false_eq_true, if_false, jn_eq']
      exact body _ rfl h7
    · have dn : decide (n = 0) = false := decide_eq_false n0
      rw [dn] at h7 ⊢
      simp only [Bool.false_eq_true, if_false] at h7 ⊢
      rw [is_no (by show Lib.hasPrefix ([44] ++ _ ++ _) [e] = false; exact hp_ne (by rcases he with rfl | rfl <;> decide) _ _)]
      simp only [Option.bind_some, Bool.not_false, if_true]
      rw [if_pos (by omega), is_yes (p := [44]) (t := ((if o = true then qt (p'.headD []) ++ [58] else []) ++ (tx x ++ txL o false l' p'.tail)) ++ e :: t) (by simp)]
      simp only [Option.bind_some, Bool.not_true, Bool.false_eq_true, if_false, jn_eq']
      refine body _ rfl ?_
      simp only [List.length_append, List.length_cons] at h7 ⊢
      simp only [List.length_nil] at h7
      omega
end Go.Proofs

set_option linter.unusedVariables false
set_option linter.unusedSimpArgs false
namespace Go.Proofs
open Go.Fw
theorem itoaF_head (n : Int) : ∃ c r, itoaF n = c :: r ∧ (c.toNat = 45 ∨ (48 ≤ c.toNat ∧ c.toNat ≤ 57)) := by
  match h : itoaF n, itoaF_ne n with
  | c :: r, _ => exact ⟨c, r, rfl, (nset_iff c).1 (itoaF_set (n := n) c (by rw [h]; simp))⟩
theorem tx_head (x : ApiValue) (t : List UInt8) : ∃ c r, tx x ++ t = c :: r ∧ c ≠ 93 ∧ c ≠ 125 ∧ c ≠ 44 := by
  rw [tx_eq]
  split
  · exact ⟨102, _, rfl, by decide, by decide, by decide⟩
  split
  · exact ⟨116, _, rfl, by decide, by decide, by decide⟩
  split
  · obtain ⟨c, r, h1, h2⟩ := itoaF_head x.Num
    rw [h1]
    refine ⟨c, _, rfl, ?_, ?_, ?_⟩
    · rintro rfl; revert h2; decide
    · rintro rfl; revert h2; decide
    · rintro rfl; revert h2; decide
  split
  · exact ⟨34, _, rfl, by decide, by decide, by decide⟩
  split
  · exact ⟨91, _, rfl, by decide, by decide, by decide⟩
  split
  · exact ⟨123, _, rfl, by decide, by decide, by decide⟩
  · exact ⟨110, _, rfl, by decide, by decide, by decide⟩
theorem txL_ge : ∀ (o f : Bool) (l : List ApiValue) (p : List (List UInt8)), l.length ≤ (txL o f l p).length
  | _, _, [], _ => by simp
  | o, f, x :: l, p => by
    rw [txL]
    have := txL_ge o false l p.tail
    obtain ⟨c, r, h, _⟩ := tx_head x []
    rw [List.append_nil] at h
    rw [h]
    simp only [List.length_append, List.length_cons]
    omega
theorem mk_of {v : ApiValue} {k n : Int} {t : List UInt8} {l : List ApiValue} {p : List (List UInt8)} (h1 : v.Kind = k) (h2 : v.Num = n) (h3 : v.Text = t) (h4 : v.List_ = l) (h5 : v.Keys = p) : v = ⟨k, n, t, l, p⟩ := by
  cases v
  simp only at h1 h2 h3 h4 h5
  subst h1 h2 h3 h4 h5
  rfl
theorem value_full : ∀ (d j : Nat) (v : ApiValue) (t : List UInt8), d < j → d ≤ 100 → TV v → shB d v = true → noNum t → (tx v ++ t).length ≤ 3000 → value_reader_value_r j ⟨tx v ++ t, true⟩ (d : Int) = some (v, ⟨t, true⟩)
  | d, 0, _, _, h, _, _, _, _, _ => by omega
  | 0, _, _, _, _, _, _, h, _, _ => by simp [shB] at h
  | d + 1, j + 1, v, t, h, hd, tv, hs, hn, hl => by
    rw [shB, Bool.and_eq_true, Bool.and_eq_true, Bool.and_eq_true, hdB_iff, List.all_eq_true] at hs
    obtain ⟨⟨b1, b2, b3, b4, b5, b6, b7⟩, _, _, hsub⟩ := hs
    have hf : ∀ x, x ∈ v.List_ → ∀ t, noNum t → (tx x ++ t).length ≤ 3000 → value_reader_value_r j ⟨tx x ++ t, true⟩ (i64 (((d + 1 : Nat) : Int) - 1)) = some (x, ⟨t, true⟩) := fun x hx t ht hl => by
      rw [i64_id (by omega) (by omega), show ((d + 1 : Nat) : Int) - 1 = (d : Int) by omega]
      exact value_full d j x t (by omega) (by omega) (tv.sub x hx) (hsub x hx) ht hl
    rw [value_reader_value_r, value_reader_value_s, if_neg (by simp; omega)]
    have hne : ∀ {c : UInt8} {r p : List UInt8} {q : UInt8}, q ≠ c → value_reader_is (⟨c :: r, true⟩ : ValueReader) (q :: p) = some (false, ⟨c :: r, true⟩) := fun h => is_no (hp_ne h _ _)
    have hrow : ∀ (kind : Int) (e : UInt8), (kind = 5 ∧ e = 93 ∨ kind = 6 ∧ e = 125) → v.Kind = kind → (txL (decide (kind = 6)) true v.List_ v.Keys ++ e :: t).length ≤ 3000 → value_reader_row (value_reader_value_r j) ⟨txL (decide (kind = 6)) true v.List_ v.Keys ++ e :: t, true⟩ kind ((d + 1 : Nat) : Int) [e] = some (v, ⟨t, true⟩) := by
      intro kind e hk hvk hlen
      have hFU := FU_M
      have hM := M63_eq
      have hge := txL_ge (decide (kind = 6)) true v.List_ v.Keys
      rw [List.length_append] at hlen
      unfold value_reader_row
      rw [jn_eq']
      refine (row_full (kj := fun (x2 : ValueReader) (x3 : (List ApiValue)) (x4 : (List (List UInt8))) => some ((⟨kind, 0, ([] : List UInt8), x3, x4⟩ : ApiValue), x2)) hk rfl v.List_ v.Keys FU 0 t [] [] hf (fun x _ t => tx_head x t) (fun k => b6 (by omega)) (fun k => b5.resolve_left (by omega)) (by omega) (by omega) (by simp) (by simp) (by rw [List.length_append]; exact hlen)).trans ?_
      rw [List.nil_append, List.nil_append]
      have e1 : v.Num = 0 := b3.resolve_left (by omega)
      have e2 : v.Text = [] := b4.resolve_left (by omega)
      rw [← mk_of hvk e1 e2 rfl rfl]
    rw [tx_eq] at hl ⊢
    by_cases k1 : v.Kind = 1
    · rw [if_pos k1]
      rw [show ([102, 97, 108, 115, 101] ++ t : List UInt8) = 102 :: ([97, 108, 115, 101] ++ t) from rfl, hne (by decide), Option.bind_some, if_neg Bool.false_ne_true, is_yes (p := [102, 97, 108, 115, 101]) (t := t) rfl, Option.bind_some, if_pos rfl]
      have : v = ⟨1, 0, [], [], []⟩ := mk_of k1 (b3.resolve_left (by omega)) (b4.resolve_left (by omega)) (b7.resolve_left (by omega)) (b5.resolve_left (by omega))
      rw [this]
    rw [if_neg k1] at hl ⊢
    by_cases k2 : v.Kind = 2
    · rw [if_pos k2]
      rw [show ([116, 114, 117, 101] ++ t : List UInt8) = 116 :: ([114, 117, 101] ++ t) from rfl, hne (by decide), Option.bind_some, if_neg Bool.false_ne_true, hne (by decide), Option.bind_some, if_neg Bool.false_ne_true, is_yes (p := [116, 114, 117, 101]) (t := t) rfl, Option.bind_some, if_pos rfl]
      have : v = ⟨2, 0, [], [], []⟩ := mk_of k2 (b3.resolve_left (by omega)) (b4.resolve_left (by omega)) (b7.resolve_left (by omega)) (b5.resolve_left (by omega))
      rw [this]
    rw [if_neg k2] at hl ⊢
    by_cases k3 : v.Kind = 3
    · rw [if_pos k3] at hl ⊢
      obtain ⟨c, r, hc, hcn⟩ := itoaF_head v.Num
      have hcc : itoaF v.Num ++ t = c :: (r ++ t) := by rw [hc]; rfl
      have nq : ∀ q : UInt8, ¬ (q.toNat = 45 ∨ (48 ≤ q.toNat ∧ q.toNat ≤ 57)) → q ≠ c := fun q hq e => hq (by rw [e]; exact hcn)
      rw [hcc, hne (nq _ (by decide)), Option.bind_some, if_neg Bool.false_ne_true, hne (nq _ (by decide)), Option.bind_some, if_neg Bool.false_ne_true, hne (nq _ (by decide)), Option.bind_some, if_neg Bool.false_ne_true, hne (nq _ (by decide)), Option.bind_some, if_neg Bool.false_ne_true, hne (nq _ (by decide)), Option.bind_some, if_neg Bool.false_ne_true, hne (nq _ (by decide)), Option.bind_some, if_neg Bool.false_ne_true, ← hcc]
      obtain ⟨a, t', h1, h2, h3, b, h4, h5⟩ := number_eq (r := (⟨itoaF v.Num ++ t, true⟩ : ValueReader)) (by show (itoaF v.Num ++ t).length ≤ 100000; omega)
      have h1' : itoaF v.Num ++ t = a ++ t' := h1
      have ht : t' = t := by
        have e1 := trim_all a t' h3 h2
        have e2 := trim_all (itoaF v.Num) t itoaF_set hn
        rw [h1', e1] at e2; exact e2
      have ha : a = itoaF v.Num := by
        rw [ht] at h1'
        exact (List.append_cancel_right h1').symm
      rw [h4, ha, parseIntR_itoa tv.num]
      have hb : b = true := h5.2 ⟨rfl, by rw [ha, parseIntR_itoa tv.num], by rw [ha, parseIntR_itoa tv.num]⟩
      have : v = ⟨3, v.Num, [], [], []⟩ := mk_of k3 rfl (b4.resolve_left (by omega)) (b7.resolve_left (by omega)) (b5.resolve_left (by omega))
      rw [hb, ht, Option.bind_some, ← this]
    rw [if_neg k3] at hl ⊢
    by_cases k4 : v.Kind = 4
    · rw [if_pos k4] at hl ⊢
      have e1 : qt v.Text ++ t = 34 :: (v.Text.flatMap esc ++ 34 :: t) := by simp [qt]
      have hlen : (v.Text.flatMap esc ++ 34 :: t).length ≤ 3000 := by rw [e1] at hl; simp only [List.length_cons] at hl; omega
      rw [e1, hne (by decide), Option.bind_some, if_neg Bool.false_ne_true, hne (by decide), Option.bind_some, if_neg Bool.false_ne_true, hne (by decide), Option.bind_some, if_neg Bool.false_ne_true, is_yes (p := [34]) (t := v.Text.flatMap esc ++ 34 :: t) rfl, Option.bind_some, if_pos rfl, rq_eq (by show (v.Text.flatMap esc ++ 34 :: t).length ≤ 100000; omega)]
      dsimp only
      rw [unq_complete]
      have : v = ⟨4, 0, v.Text, [], []⟩ := mk_of k4 (b3.resolve_left (by omega)) rfl (b7.resolve_left (by omega)) (b5.resolve_left (by omega))
      show some ((⟨4, 0, v.Text, [], []⟩ : ApiValue), (⟨t, true⟩ : ValueReader)) = _
      rw [← this]
    rw [if_neg k4] at hl ⊢
    by_cases k5 : v.Kind = 5
    · rw [if_pos k5] at hl ⊢
      have e1 : (91 :: (txL false true v.List_ v.Keys ++ [93])) ++ t = 91 :: (txL false true v.List_ v.Keys ++ 93 :: t) := by simp
      rw [e1] at hl ⊢
      rw [hne (by decide), Option.bind_some, if_neg Bool.false_ne_true, hne (by decide), Option.bind_some, if_neg Bool.false_ne_true, hne (by decide), Option.bind_some, if_neg Bool.false_ne_true, hne (by decide), Option.bind_some, if_neg Bool.false_ne_true, is_yes (p := [91]) (t := txL false true v.List_ v.Keys ++ 93 :: t) rfl, Option.bind_some, if_pos rfl]
      have hr := hrow 5 93 (.inl ⟨rfl, rfl⟩) k5 (by show (txL false true v.List_ v.Keys ++ 93 :: t).length ≤ 3000; simp only [List.length_cons] at hl; omega)
      have hr' : value_reader_row (value_reader_value_r j) ⟨txL false true v.List_ v.Keys ++ 93 :: t, true⟩ 5 ((d + 1 : Nat) : Int) [93] = some (v, ⟨t, true⟩) := hr
      rw [hr']; rfl
    rw [if_neg k5] at hl ⊢
    by_cases k6 : v.Kind = 6
    · rw [if_pos k6] at hl ⊢
      have e1 : (123 :: (txL true true v.List_ v.Keys ++ [125])) ++ t = 123 :: (txL true true v.List_ v.Keys ++ 125 :: t) := by simp
      rw [e1] at hl ⊢
      rw [hne (by decide), Option.bind_some, if_neg Bool.false_ne_true, hne (by decide), Option.bind_some, if_neg Bool.false_ne_true, hne (by decide), Option.bind_some, if_neg Bool.false_ne_true, hne (by decide), Option.bind_some, if_neg Bool.false_ne_true, hne (by decide), Option.bind_some, if_neg Bool.false_ne_true, is_yes (p := [123]) (t := txL true true v.List_ v.Keys ++ 125 :: t) rfl, Option.bind_some, if_pos rfl]
      have hr := hrow 6 125 (.inr ⟨rfl, rfl⟩) k6 (by show (txL true true v.List_ v.Keys ++ 125 :: t).length ≤ 3000; simp only [List.length_cons] at hl; omega)
      have hr' : value_reader_row (value_reader_value_r j) ⟨txL true true v.List_ v.Keys ++ 125 :: t, true⟩ 6 ((d + 1 : Nat) : Int) [125] = some (v, ⟨t, true⟩) := hr
      rw [hr']; rfl
    · rw [if_neg k6]
      have k0 : v.Kind = 0 := by omega
      rw [is_yes (p := [110, 117, 108, 108]) (t := t) rfl, Option.bind_some, if_pos rfl]
      have : v = ⟨0, 0, [], [], []⟩ := mk_of k0 (b3.resolve_left (by omega)) (b4.resolve_left (by omega)) (b7.resolve_left (by omega)) (b5.resolve_left (by omega))
      rw [this]
theorem parse_full {v : ApiValue} (tv : TV v) (hm : mayB v = true) (hw : wV v ≤ 4000) : value_Parse (tx v) = some (v, 0) := by
  have hm2 := hm
  unfold mayB at hm2
  rw [Bool.and_eq_true, decide_eq_true_iff] at hm2
  unfold value_Parse
  rw [if_neg (by omega)]
  have h := value_full 8 FU v [] (by have := FU_M; omega) (by omega) tv hm2.1 (fun c r h => by cases h) (by rw [List.append_nil]; omega)
  rw [List.append_nil] at h
  have h' : value_reader_value ⟨tx v, true⟩ 8 = some (v, ⟨[], true⟩) := h
  rw [h', Option.bind_some, if_neg (by simp), may_eq tv (fun _ => hw), Option.bind_some, Option.bind_some, hm]
  rfl
theorem ValueBack_pure (a b : ApiValue) (s : List UInt8) (ha : TV a) (hb : TV b) : law01_ValueBack a b s = some true := by
  unfold law01_ValueBack
  obtain ⟨la, ea, ga⟩ := long_eq ha
  obtain ⟨lb, eb, gb⟩ := long_eq hb
  rw [ea, eb, Option.bind_some]
  cases la with
  | true => simp only [if_true, Option.bind_some, awake_true, true_or]
  | false =>
  cases lb with
  | true => simp only [if_true, Bool.false_eq_true, if_false, Option.bind_some, awake_true, true_or]
  | false =>
  simp only [Bool.false_eq_true, if_false, Option.bind_some, false_or]
  by_cases c : 3000 < (s.length : Int)
  · rw [if_pos c, awake_true]; rfl
  rw [if_neg c, print_all ha (fun h => ga h rfl), print_all hb (fun h => gb h rfl), Option.bind_some, Option.bind_some, jn_eq']
  -- what is read has that text
  have back : ((value_Parse s).bind fun x14 => if x14.2 ≠ 0 then (law01_awake).bind fun x15 => some x15 else (value_Print x14.1).bind fun x16 => (if (x16.2 = 0) ∧ (x16.1 = s) then (value_May x14.1).bind fun x18 => some x18 else some false).bind fun x17 => (if x17 = true then (law01_awake).bind fun x20 => some x20 else some false).bind fun x19 => some x19) = some true := by
    obtain ⟨v, e, h1, tv, h2⟩ := parse_sound s
    rw [h1, Option.bind_some]
    by_cases he : e = 0
    · obtain ⟨g1, g2, g3⟩ := h2 he
      rw [if_neg (by simpa using he), print_all tv (fun _ => by omega), Option.bind_some, if_pos g2, if_pos ⟨rfl, g1.symm⟩, may_eq tv (fun _ => by omega), g2, awake_true]
      rfl
    · rw [if_pos he, awake_true]; rfl
  cases ma : mayB a with
  | false =>
    rw [if_neg (show ¬ (false = true) from Bool.false_ne_true), if_neg (show ¬ ((1 : Int) = 0) by decide)]
    exact back
  | true =>
    have wa : wV a ≤ 4000 := by
      have h := ma
      unfold mayB at h
      rw [Bool.and_eq_true] at h
      exact ga (shB_ks 8 h.1) rfl
    rw [if_pos rfl, if_pos rfl, parse_full ha ma wa, Option.bind_some, if_neg (show ¬ ((0 : Int) ≠ 0) by decide), rsame_eq ha ha, Option.bind_some, (eqV_iff (a := a) (b := a)).2 rfl, Option.bind_some, if_neg (by decide), rsame_eq ha hb]
    have fin : ((if (if mayB b = true then (tx b, (0 : Int)) else ([], 1)).2 = 0 then (some (eqV a b)).bind fun x13 => some (!(decide (tx a = (if mayB b = true then (tx b, (0 : Int)) else ([], 1)).1) == x13)) else some false) : Option Bool) = some false := by
      cases mb : mayB b with
      | false => rfl
      | true =>
        have wb : wV b ≤ 4000 := by
          have h := mb
          unfold mayB at h
          rw [Bool.and_eq_true] at h
          exact gb (shB_ks 8 h.1) rfl
        rw [if_pos rfl, if_pos rfl, Option.bind_some]
        have : decide (tx a = tx b) = eqV a b := b_eq (by
          rw [decide_eq_true_iff, eqV_iff]
          constructor
          · intro h
            have h1 := parse_full ha ma wa
            rw [h, parse_full hb mb wb] at h1
            exact ((Prod.mk.inj (Option.some.inj h1)).1).symm
          · intro h; rw [h])
        rw [this]; simp
    rw [fin, Option.bind_some, Option.bind_some, if_neg Bool.false_ne_true]
    exact back
end Go.Proofs
