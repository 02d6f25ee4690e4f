import Derived.Test.YtecbmbcdinkccaaGreatDoorP01Z
set_option linter.unusedVariables false
set_option linter.unusedSimpArgs false
namespace Go.Proofs
open Go.Fw
theorem awake_true : law01_awake = some true := by
  decide +kernel
/-! Small tools. -/
theorem i64_id {p : Int} (h0 : -9223372036854775808 ≤ p) (h1 : p ≤ 9223372036854775807) : i64 p = p := i64_eq h0 h1
theorem jn_eq' {α β : Type} (f : α) (g : α → β) : jn f g = g f := by unfold jn; exact id rfl
theorem geti_at {α : Type} {l : List α} {i : Int} (h0 : 0 ≤ i) (h1 : i < (l.length : Int)) : ∃ x, geti l i = some x ∧ x ∈ l ∧ l[i.toNat]? = some x := by
  unfold geti
  rw [if_pos h0]
  have h2 : i.toNat < l.length := by omega
  exact ⟨l[i.toNat], List.getElem?_eq_getElem h2, List.getElem_mem h2, List.getElem?_eq_getElem h2⟩
theorem geti_nat {α : Type} (l : List α) (k : Nat) : geti l (k : Int) = l[k]? := by
  unfold geti
  rw [if_pos (by omega)]
  simp
theorem app_ok {α : Type} {cap : Nat} (a b : List α) (h : a.length + b.length ≤ 1000000) (hc : 1000000 ≤ cap) : app cap a b = some (a ++ b) := by
  unfold app
  rw [if_pos (by omega)]
theorem FU_big : 10000000000 ≤ FU := Nat.le_trans (by decide) FU_ge
theorem subl_head {α : Type} (l : List α) (k : Nat) (h : k ≤ l.length) : subl l 0 (k : Int) = some (l.take k) := by
  unfold subl
  rw [if_pos ⟨by omega, by omega, by omega⟩]
  simp
theorem subl_tail {α : Type} (l : List α) (k : Nat) (h : k ≤ l.length) : subl l (k : Int) (l.length : Int) = some (l.drop k) := by
  unfold subl
  rw [if_pos ⟨by omega, by omega, by omega⟩]
  simp only [Int.toNat_natCast, Option.some.injEq]
  rw [List.take_of_length_le]
  rw [List.length_drop]; omega
theorem half_eq {x : Int} (h0 : 0 ≤ x) (h1 : x ≤ 4611686018427387904) : i64 ((shr64 (ofI64 (i64 x)) 1).toNat : Int) = x / 2 := by
  rw [i64_id (p := x) (by omega) (by omega)]
  have e : (ofI64 x).toNat = x.toNat := by
    unfold ofI64
    rw [UInt64.toNat_ofNat', Nat.mod_eq_of_lt (by omega)]
    omega
  have e2 : (shr64 (ofI64 x) 1).toNat = x.toNat / 2 := by
    unfold shr64
    rw [e, show min (1 : Int).toNat 64 = 1 by decide, UInt64.toNat_ofNat', Nat.mod_eq_of_lt (by omega)]
  rw [e2, i64_id (by omega) (by omega)]
  omega
/-! The order of the names. -/
theorem cmp_refl : ∀ a : List UInt8, Lib.compareBytes a a = 0
  | [] => rfl
  | x :: r => by
    rw [Lib.compareBytes, if_neg (UInt8.lt_irrefl x), if_neg (UInt8.lt_irrefl x)]
    exact cmp_refl r
theorem cmp_zero : ∀ a b : List UInt8, Lib.compareBytes a b = 0 ↔ a = b
  | [], [] => by simp [Lib.compareBytes]
  | [], _ :: _ => by simp [Lib.compareBytes]
  | _ :: _, [] => by simp [Lib.compareBytes]
  | x :: a, y :: b => by
    rw [Lib.compareBytes]
    by_cases h1 : x < y
    · have : x ≠ y := fun e => UInt8.lt_irrefl y (e ▸ h1)
      simp [h1, this]
    · by_cases h2 : y < x
      · have : x ≠ y := fun e => UInt8.lt_irrefl y (by rw [e] at h2; exact h2)
        simp [h1, h2, this]
      · have e : x = y := UInt8.le_antisymm (UInt8.not_lt.1 h2) (UInt8.not_lt.1 h1)
        subst e
        simp [h1, cmp_zero a b]
/-- A name ahead of another one. -/
def nlt (a b : List UInt8) : Prop := Lib.compareBytes a b < 0
instance (a b : List UInt8) : Decidable (nlt a b) := by unfold nlt; infer_instance
theorem nlt_irrefl (a : List UInt8) : ¬ nlt a a := by unfold nlt; rw [cmp_refl]; decide
theorem nlt_cons {x y : UInt8} {a b : List UInt8} : nlt (x :: a) (y :: b) ↔ x < y ∨ (x = y ∧ nlt a b) := by
  unfold nlt
  rw [Lib.compareBytes]
  by_cases h1 : x < y
  · simp [h1]
  · by_cases h2 : y < x
    · have : x ≠ y := fun e => UInt8.lt_irrefl y (by rw [e] at h2; exact h2)
      simp [h1, h2, this]
    · have e : x = y := UInt8.le_antisymm (UInt8.not_lt.1 h2) (UInt8.not_lt.1 h1)
      subst e
      simp [h1]
theorem nlt_nil (a : List UInt8) : ¬ nlt a [] := by
  unfold nlt
  cases a <;> simp [Lib.compareBytes]
theorem nil_nlt (x : UInt8) (a : List UInt8) : nlt [] (x :: a) := by
  unfold nlt; simp [Lib.compareBytes]
theorem nlt_trans : ∀ {a b c : List UInt8}, nlt a b → nlt b c → nlt a c
  | _, _, [], _, h => absurd h (nlt_nil _)
  | _, [], _ :: _, h, _ => absurd h (nlt_nil _)
  | [], _ :: _, z :: c, _, _ => nil_nlt z c
  | x :: a, y :: b, z :: c, h1, h2 => by
    rw [nlt_cons] at h1 h2 ⊢
    rcases h1 with h1 | ⟨rfl, h1⟩
    · rcases h2 with h2 | ⟨rfl, h2⟩
      · exact .inl (UInt8.lt_trans h1 h2)
      · exact .inl h1
    · rcases h2 with h2 | ⟨rfl, h2⟩
      · exact .inl h2
      · exact .inr ⟨rfl, nlt_trans h1 h2⟩
theorem nlt_total : ∀ (a b : List UInt8), nlt a b ∨ a = b ∨ nlt b a
  | [], [] => .inr (.inl rfl)
  | [], y :: b => .inl (nil_nlt y b)
  | x :: a, [] => .inr (.inr (nil_nlt x a))
  | x :: a, y :: b => by
    rw [nlt_cons, nlt_cons]
    by_cases h1 : x < y
    · exact .inl (.inl h1)
    · by_cases h2 : y < x
      · exact .inr (.inr (.inl h2))
      · have e : x = y := UInt8.le_antisymm (UInt8.not_lt.1 h2) (UInt8.not_lt.1 h1)
        subst e
        rcases nlt_total a b with h | rfl | h
        · exact .inl (.inr ⟨rfl, h⟩)
        · exact .inr (.inl rfl)
        · exact .inr (.inr (.inr ⟨rfl, h⟩))
theorem nlt_asymm {a b : List UInt8} (h : nlt a b) : ¬ nlt b a := fun h2 => nlt_irrefl a (nlt_trans h h2)
theorem nlt_ne {a b : List UInt8} (h : nlt a b) : a ≠ b := fun e => nlt_irrefl b (e ▸ h)
theorem less_nlt : ∀ a b : List UInt8, Op.bytesLess a b = decide (nlt a b)
  | [], [] => by simp [Op.bytesLess, nlt_nil]
  | x :: a, [] => by simp [Op.bytesLess, nlt_nil]
  | [], y :: b => by simp [Op.bytesLess, nil_nlt]
  | x :: a, y :: b => by
    rw [Op.bytesLess, less_nlt a b]
    rw [show decide (nlt (x :: a) (y :: b)) = decide (x < y ∨ (x = y ∧ nlt a b)) from decide_eq_decide.2 nlt_cons]
    by_cases h1 : x < y <;> by_cases h2 : x = y <;> by_cases h3 : nlt a b <;> simp [h1, h2, h3]
/-! Values as they come. -/
abbrev M63 : Nat := 9223372036854775807
/-- Numbers that are of their type, rows that have a length. -/
inductive TV : ApiValue → Prop
  | mk {v : ApiValue} : (-9223372036854775808 ≤ v.Kind ∧ v.Kind ≤ 9223372036854775807) → (-9223372036854775808 ≤ v.Num ∧ v.Num ≤ 9223372036854775807) → v.Text.length ≤ M63 → v.List_.length ≤ M63 → v.Keys.length ≤ M63 → (∀ k ∈ v.Keys, k.length ≤ M63) → (∀ x, x ∈ v.List_ → TV x) → TV v
theorem TV.kind {v : ApiValue} (h : TV v) : -9223372036854775808 ≤ v.Kind ∧ v.Kind ≤ 9223372036854775807 := by cases h; assumption
theorem TV.num {v : ApiValue} (h : TV v) : -9223372036854775808 ≤ v.Num ∧ v.Num ≤ 9223372036854775807 := by cases h; assumption
theorem TV.text {v : ApiValue} (h : TV v) : v.Text.length ≤ M63 := by cases h; assumption
theorem TV.list {v : ApiValue} (h : TV v) : v.List_.length ≤ M63 := by cases h; assumption
theorem TV.keys {v : ApiValue} (h : TV v) : v.Keys.length ≤ M63 := by cases h; assumption
theorem TV.key {v : ApiValue} (h : TV v) : ∀ k ∈ v.Keys, k.length ≤ M63 := by cases h; assumption
theorem TV.sub {v : ApiValue} (h : TV v) : ∀ x, x ∈ v.List_ → TV x := by cases h; assumption
theorem FU_M : M63 + 1000 < FU := Nat.lt_of_lt_of_le (by decide) FU_ge
theorem FU_succ (n : Nat) (h : n ≤ 1000) : ∃ k, FU = k + n := ⟨FU - n, by have := FU_M; omega⟩
theorem nxt {k n : Nat} (h : k < n) (hn : n ≤ M63) : i64 ((k : Int) + 1) = ((k + 1 : Nat) : Int) := by
  rw [i64_id (by omega) (by have : n ≤ 9223372036854775807 := hn; omega)]; rfl
/-! How numbers and texts stand. -/
def cI (a b : Int) : Int := if a < b then -1 else if b < a then 1 else 0
def cS (a b : List UInt8) : Int := if nlt a b then -1 else if nlt b a then 1 else 0
def or2 (x y : Int) : Int := if x ≠ 0 then x else y
theorem cmpInt_eq (a b : Int) : cmp_Compare_int a b = some (cI a b) := by
  unfold cmp_Compare_int cmp_isNaN_int cI
  simp
  repeat' split
  all_goals rfl
theorem cmpInt64_eq (a b : Int) : cmp_Compare_int64 a b = some (cI a b) := by
  unfold cmp_Compare_int64 cmp_isNaN_int64 cI
  simp
  repeat' split
  all_goals rfl
theorem cmpStr_eq (a b : List UInt8) : cmp_Compare_string a b = some (cS a b) := by
  unfold cmp_Compare_string cmp_isNaN_string cS
  simp only [less_nlt, Option.bind_some, ne_eq, not_true, decide_false, Bool.false_eq_true, if_false, decide_eq_true_eq]
  by_cases h : nlt a b
  · simp [h]
  · rcases nlt_total a b with h1 | h1 | h1
    · exact absurd h1 h
    · subst h1; simp [h]
    · have hne : a ≠ b := fun e => nlt_irrefl b (by rw [e] at h1; exact h1)
      simp [h, h1, hne]
theorem or_step (l : List Int) (kj : Unit → Option Int) (j k : Nat) (x : Int) (h : l[k]? = some x) (hk : k < 100) : cmp_Or_int_l1 l kj (j + 1) (k : Int) = if x ≠ 0 then some x else cmp_Or_int_l1 l kj j ((k + 1 : Nat) : Int) := by
  have hl := (List.getElem?_eq_some_iff.1 h).1
  rw [cmp_Or_int_l1, if_pos (by omega), geti_nat, h, Option.bind_some, i64_id (by omega) (by omega)]
  rfl
theorem or_end (l : List Int) (kj : Unit → Option Int) (j k : Nat) (h : l.length ≤ k) : cmp_Or_int_l1 l kj (j + 1) (k : Int) = kj () := by
  rw [cmp_Or_int_l1, if_neg (by omega)]
theorem or2_eq (x y : Int) : cmp_Or_int [x, y] = some (or2 x y) := by
  obtain ⟨k, hk⟩ := FU_succ 3 (by decide)
  unfold cmp_Or_int or2
  rw [jn_eq', hk, show (0 : Int) = ((0 : Nat) : Int) from rfl, or_step _ _ _ 0 x rfl (by decide), or_step _ _ _ 1 y rfl (by decide), or_end _ _ _ _ (by simp)]
  by_cases h : x = 0 <;> by_cases h2 : y = 0 <;> simp [h, h2]
theorem or3_eq (x y z : Int) : cmp_Or_int [x, y, z] = some (or2 x (or2 y z)) := by
  obtain ⟨k, hk⟩ := FU_succ 4 (by decide)
  unfold cmp_Or_int or2
  rw [jn_eq', hk, show (0 : Int) = ((0 : Nat) : Int) from rfl, or_step _ _ _ 0 x rfl (by decide), or_step _ _ _ 1 y rfl (by decide), or_step _ _ _ 2 z rfl (by decide), or_end _ _ _ _ (by simp)]
  by_cases h : x = 0 <;> by_cases h2 : y = 0 <;> by_cases h3 : z = 0 <;> simp [h, h2, h3]
/-! How values stand. -/
def kp (p q : List (List UInt8)) : Int := match p, q with
  | x :: _, y :: _ => cS x y
  | _, _ => 0
mutual
def cV : ApiValue → ApiValue → Int
  | ⟨k, n, t, l, p⟩, b => or2 (or2 (cI k b.Kind) (or2 (cI n b.Num) (cS t b.Text))) (cL l b.List_ p b.Keys)
def cL : List ApiValue → List ApiValue → List (List UInt8) → List (List UInt8) → Int
  | [], [], _, _ => 0
  | [], _ :: _, _, _ => -1
  | _ :: _, [], _, _ => 1
  | x :: l, y :: m, p, q => or2 (or2 (kp p q) (cV x y)) (cL l m p.tail q.tail)
end
theorem cV_eq (a b : ApiValue) : cV a b = or2 (or2 (cI a.Kind b.Kind) (or2 (cI a.Num b.Num) (cS a.Text b.Text))) (cL a.List_ b.List_ a.Keys b.Keys) := by cases a; rw [cV]
theorem cS_self (a : List UInt8) : cS a a = 0 := by unfold cS; rw [if_neg (nlt_irrefl a), if_neg (nlt_irrefl a)]
theorem cmpL_run {a b : ApiValue} (ha : TV a) (hb : TV b) {f : ApiValue → ApiValue → Option Int} (hf : ∀ x, x ∈ a.List_ → ∀ y, y ∈ b.List_ → f x y = some (cV x y))
    {kj : Unit → Option Int} (hk : kj () = some (cI (a.List_.length : Int) (b.List_.length : Int))) : ∀ (J k : Nat), k ≤ a.List_.length → k ≤ b.List_.length → a.List_.length - k < J →
    value_Cmp_s_l1 a b f kj J (k : Int) = some (cL (a.List_.drop k) (b.List_.drop k) (a.Keys.drop k) (b.Keys.drop k))
  | 0, k, _, _, h => by omega
  | J + 1, k, h1, h2, h3 => by
    rw [value_Cmp_s_l1]
    by_cases c1 : k < a.List_.length
    · by_cases c2 : k < b.List_.length
      · rw [if_pos (by omega), jn_eq', geti_nat, geti_nat, geti_nat, geti_nat, List.getElem?_eq_getElem c1, List.getElem?_eq_getElem c2, List.drop_eq_getElem_cons c1, List.drop_eq_getElem_cons c2, cL]
        have ih := cmpL_run ha hb hf hk J (k + 1) (by omega) (by omega) (by omega)
        rw [← nxt c1 ha.list] at ih
        have hq := hf _ (List.getElem_mem c1) _ (List.getElem_mem c2)
        rw [List.tail_drop, List.tail_drop]
        by_cases c3 : k < a.Keys.length ∧ k < b.Keys.length
        · rw [if_pos (by omega), List.getElem?_eq_getElem c3.1, List.getElem?_eq_getElem c3.2]
          simp only [Option.bind_some, cmpStr_eq, hq, or2_eq]
          rw [List.drop_eq_getElem_cons c3.1, List.drop_eq_getElem_cons c3.2]
          simp only [kp]
          generalize hw : or2 (cS a.Keys[k] b.Keys[k]) (cV a.List_[k] b.List_[k]) = w
          by_cases c4 : w = 0
          · rw [if_neg (by simpa using c4), ih, c4]; simp [or2]
          · rw [if_pos c4]; simp [or2, c4]
        · rw [if_neg (by omega)]
          simp only [Option.bind_some, cmpStr_eq, hq, or2_eq]
          have hkp : kp (a.Keys.drop k) (b.Keys.drop k) = 0 := by
            by_cases c5 : k < a.Keys.length
            · have : b.Keys.length ≤ k := by omega
              rw [List.drop_eq_nil_of_le this]
              unfold kp; split <;> simp_all
            · have : a.Keys.length ≤ k := by omega
              rw [List.drop_eq_nil_of_le this]
              unfold kp; split <;> simp_all
          rw [hkp, cS_self]
          generalize hw : or2 0 (cV a.List_[k] b.List_[k]) = w
          by_cases c4 : w = 0
          · rw [if_neg (by simpa using c4), ih, c4]; simp [or2]
          · rw [if_pos c4]; simp [or2, c4]
      · rw [if_neg (by omega), hk, List.drop_eq_getElem_cons c1, List.drop_eq_nil_of_le (show b.List_.length ≤ k by omega), cL]
        unfold cI; rw [if_neg (by omega), if_pos (by omega)]
    · rw [if_neg (by omega), hk, List.drop_eq_nil_of_le (show a.List_.length ≤ k by omega)]
      by_cases c2 : k < b.List_.length
      · rw [List.drop_eq_getElem_cons c2, cL]
        unfold cI; rw [if_pos (by omega)]
      · rw [List.drop_eq_nil_of_le (by omega), cL]
        unfold cI; rw [if_neg (by omega), if_neg (by omega)]
theorem dp_sub {v x : ApiValue} (h : x ∈ v.List_) : dpApiValue x < dpApiValue v := by
  have := dpApiValue_le h
  rw [dpApiValue_eq v]; omega
theorem cmp_run : ∀ (j : Nat) {a b : ApiValue}, dpApiValue a ≤ j → TV a → TV b → value_Cmp_r j a b = some (cV a b)
  | 0, a, b, h, _, _ => by rw [dpApiValue_eq] at h; omega
  | j + 1, a, b, h, ha, hb => by
    rw [value_Cmp_r, value_Cmp_s, cmpInt_eq, Option.bind_some, cmpInt64_eq, Option.bind_some, cmpStr_eq, Option.bind_some, or3_eq, Option.bind_some, cV_eq]
    generalize hw : or2 (cI a.Kind b.Kind) (or2 (cI a.Num b.Num) (cS a.Text b.Text)) = w
    by_cases c : w = 0
    · have hl := ha.list
      have := FU_M
      rw [if_neg (by simpa using c), jn_eq', show (0 : Int) = ((0 : Nat) : Int) from rfl, cmpL_run ha hb (fun x hx y hy => cmp_run j (by have := dp_sub hx; omega) (ha.sub x hx) (hb.sub y hy)) (by rw [cmpInt_eq]; rfl) FU 0 (by omega) (by omega) (by omega), c]
      simp [or2]
    · rw [if_pos c]; simp [or2, c]
theorem cmp_eq {a b : ApiValue} (ha : TV a) (hb : TV b) : value_Cmp a b = some (cV a b) := by
  unfold value_Cmp
  exact cmp_run _ (by omega) ha hb
end Go.Proofs

set_option linter.unusedVariables false
set_option linter.unusedSimpArgs false
namespace Go.Proofs
open Go.Fw
/-! The order of values is one. -/
theorem cI_flip (a b : Int) : cI b a = - cI a b := by unfold cI; repeat' split <;> omega
theorem cI_zero {a b : Int} : cI a b = 0 ↔ a = b := by unfold cI; repeat' split <;> omega
theorem cI_rng (a b : Int) : cI a b = -1 ∨ cI a b = 0 ∨ cI a b = 1 := by unfold cI; repeat' split <;> omega
theorem cS_flip (a b : List UInt8) : cS b a = - cS a b := by
  unfold cS
  by_cases h1 : nlt a b
  · rw [if_neg (nlt_asymm h1), if_pos h1, if_pos h1]; rfl
  · by_cases h2 : nlt b a
    · rw [if_pos h2, if_neg h1, if_pos h2]
    · rw [if_neg h2, if_neg h1, if_neg h1, if_neg h2]; rfl
theorem cS_zero {a b : List UInt8} : cS a b = 0 ↔ a = b := by
  unfold cS
  constructor
  · intro h
    by_cases h1 : nlt a b
    · rw [if_pos h1] at h; omega
    · by_cases h2 : nlt b a
      · rw [if_neg h1, if_pos h2] at h; omega
      · rcases nlt_total a b with h | h | h
        · exact absurd h h1
        · exact h
        · exact absurd h h2
  · rintro rfl; exact cS_self a
theorem cS_rng (a b : List UInt8) : cS a b = -1 ∨ cS a b = 0 ∨ cS a b = 1 := by unfold cS; repeat' split <;> omega
theorem or2_flip (x y : Int) : or2 (-x) (-y) = - or2 x y := by unfold or2; repeat' split <;> omega
theorem or2_zero {x y : Int} : or2 x y = 0 ↔ x = 0 ∧ y = 0 := by unfold or2; split <;> omega
theorem or2_rng {x y : Int} (hx : x = -1 ∨ x = 0 ∨ x = 1) (hy : y = -1 ∨ y = 0 ∨ y = 1) : or2 x y = -1 ∨ or2 x y = 0 ∨ or2 x y = 1 := by unfold or2; split <;> omega
theorem kp_flip (p q : List (List UInt8)) : kp q p = - kp p q := by
  cases p with
  | nil => cases q <;> rfl
  | cons x p => cases q with
    | nil => rfl
    | cons y q => exact cS_flip x y
theorem kp_rng (p q : List (List UInt8)) : kp p q = -1 ∨ kp p q = 0 ∨ kp p q = 1 := by
  cases p <;> cases q <;> simp [kp, cS_rng]
mutual
theorem cV_flip : ∀ a b : ApiValue, cV b a = - cV a b
  | ⟨k, n, t, l, p⟩, ⟨k2, n2, t2, l2, p2⟩ => by
    rw [cV, cV]
    simp only
    rw [cI_flip k k2, cI_flip n n2, cS_flip t t2, cL_flip l l2 p p2, or2_flip, or2_flip, or2_flip]
theorem cL_flip : ∀ (l m : List ApiValue) (p q : List (List UInt8)), cL m l q p = - cL l m p q
  | [], [], _, _ => by rw [cL, cL]; rfl
  | [], _ :: _, _, _ => by rw [cL, cL]; rfl
  | _ :: _, [], _, _ => by rw [cL, cL]
  | x :: l, y :: m, p, q => by rw [cL, cL, cV_flip x y, cL_flip l m p.tail q.tail, kp_flip p q, or2_flip, or2_flip]
end
mutual
theorem cV_rng : ∀ a b : ApiValue, cV a b = -1 ∨ cV a b = 0 ∨ cV a b = 1
  | ⟨k, n, t, l, p⟩, b => by
    rw [cV]
    exact or2_rng (or2_rng (cI_rng _ _) (or2_rng (cI_rng _ _) (cS_rng _ _))) (cL_rng l _ p _)
theorem cL_rng : ∀ (l m : List ApiValue) (p q : List (List UInt8)), cL l m p q = -1 ∨ cL l m p q = 0 ∨ cL l m p q = 1
  | [], [], _, _ => by rw [cL]; omega
  | [], _ :: _, _, _ => by rw [cL]; omega
  | _ :: _, [], _, _ => by rw [cL]; omega
  | x :: l, y :: m, p, q => by rw [cL]; exact or2_rng (or2_rng (kp_rng _ _) (cV_rng x y)) (cL_rng l m _ _)
end
/-- Names just where they belong. -/
inductive WF : ApiValue → Prop
  | mk {v : ApiValue} : (v.Kind = 6 → v.Keys.length = v.List_.length) → (v.Kind ≠ 6 → v.Keys = []) → (∀ x, x ∈ v.List_ → WF x) → WF v
theorem WF.obj {v : ApiValue} (h : WF v) : v.Kind = 6 → v.Keys.length = v.List_.length := by cases h; assumption
theorem WF.nokeys {v : ApiValue} (h : WF v) : v.Kind ≠ 6 → v.Keys = [] := by cases h; assumption
theorem WF.sub {v : ApiValue} (h : WF v) : ∀ x, x ∈ v.List_ → WF x := by cases h; assumption
/-- Names that belong to each, or none at all. -/
def Fit2 (l m : List ApiValue) (p q : List (List UInt8)) : Prop := (p.length = l.length ∧ q.length = m.length) ∨ (p = [] ∧ q = [])
theorem WF.fit {a b : ApiValue} (ha : WF a) (hb : WF b) (h : a.Kind = b.Kind) : Fit2 a.List_ b.List_ a.Keys b.Keys := by
  by_cases c : a.Kind = 6
  · exact .inl ⟨ha.obj c, hb.obj (h ▸ c)⟩
  · exact .inr ⟨ha.nokeys c, hb.nokeys (h ▸ c)⟩
theorem cL_zero : ∀ (l m : List ApiValue) (p q : List (List UInt8)), Fit2 l m p q → (∀ x, x ∈ l → ∀ y, y ∈ m → cV x y = 0 → x = y) → cL l m p q = 0 → l = m ∧ p = q
  | [], [], p, q, hf, _, _ => by
    rcases hf with ⟨h1, h2⟩ | ⟨h1, h2⟩
    · exact ⟨rfl, by rw [List.eq_nil_of_length_eq_zero h1, List.eq_nil_of_length_eq_zero h2]⟩
    · exact ⟨rfl, by rw [h1, h2]⟩
  | [], _ :: _, _, _, _, _, h => by rw [cL] at h; omega
  | _ :: _, [], _, _, _, _, h => by rw [cL] at h; omega
  | x :: l, y :: m, p, q, hf, hz, h => by
    rw [cL, or2_zero, or2_zero] at h
    obtain ⟨⟨h1, h2⟩, h3⟩ := h
    obtain rfl := hz x (by simp) y (by simp) h2
    have hz' : ∀ x, x ∈ l → ∀ y, y ∈ m → cV x y = 0 → x = y := fun a ha b hb => hz a (by simp [ha]) b (by simp [hb])
    rcases hf with ⟨e1, e2⟩ | ⟨rfl, rfl⟩
    · match p, q, e1, e2 with
      | u :: p, w :: q, e1, e2 =>
        simp only [List.length_cons, Nat.add_right_cancel_iff] at e1 e2
        obtain ⟨rfl, rfl⟩ := cL_zero l m p q (.inl ⟨e1, e2⟩) hz' h3
        have : u = w := cS_zero.1 h1
        rw [this]; exact ⟨rfl, rfl⟩
    · obtain ⟨rfl, _⟩ := cL_zero l m [] [] (.inr ⟨rfl, rfl⟩) hz' h3
      exact ⟨rfl, rfl⟩
theorem cV_zero_n : ∀ (n : Nat) (a b : ApiValue), dpApiValue a ≤ n → WF a → WF b → cV a b = 0 → a = b
  | 0, a, b, h, _, _, _ => by rw [dpApiValue_eq] at h; omega
  | n + 1, a, b, h, ha, hb, hz => by
    rw [cV_eq, or2_zero, or2_zero, or2_zero, cI_zero, cI_zero, cS_zero] at hz
    obtain ⟨⟨h1, h2, h3⟩, h4⟩ := hz
    have := cL_zero _ _ _ _ (ha.fit hb h1) (fun x hx y hy => cV_zero_n n x y (by have := dp_sub hx; omega) (ha.sub x hx) (hb.sub y hy)) h4
    cases a; cases b
    simp_all
mutual
theorem cV_self : ∀ a : ApiValue, cV a a = 0
  | ⟨k, n, t, l, p⟩ => by
    rw [cV]; simp only
    rw [cI_zero.2 rfl, cI_zero.2 rfl, cS_self, cL_self l p]; rfl
theorem cL_self : ∀ (l : List ApiValue) (p : List (List UInt8)), cL l l p p = 0
  | [], p => by rw [cL]
  | x :: l, p => by
    rw [cL, cV_self x, cL_self l p.tail]
    cases p <;> simp [kp, cS_self, or2]
end
theorem cV_zero {a b : ApiValue} (ha : WF a) (hb : WF b) : cV a b = 0 ↔ a = b :=
  ⟨cV_zero_n _ a b (Nat.le_refl _) ha hb, fun h => by rw [h]; exact cV_self b⟩
/-- What is ahead of what is ahead is ahead. -/
def Tri (x y z : Int) : Prop := x ≤ 0 → y ≤ 0 → ((x < 0 ∨ y < 0) → z < 0) ∧ (x = 0 → y = 0 → z = 0)
theorem Tri.lex {x y z x2 y2 z2 : Int} (h : Tri x y z) (h2 : x = 0 → y = 0 → Tri x2 y2 z2) : Tri (or2 x x2) (or2 y y2) (or2 z z2) := by
  unfold Tri or2 at *
  intro hx hy
  by_cases c1 : x = 0
  · by_cases c2 : y = 0
    · subst c1 c2
      have h3 := (h (by omega) (by omega)).2 rfl rfl
      subst h3
      simp only [ne_eq, not_true, if_false] at hx hy ⊢
      exact h2 rfl rfl hx hy
    · subst c1
      simp only [ne_eq, not_true, if_false, c2, not_false_eq_true, if_true] at hx hy ⊢
      have := (h (by omega) hy).1 (.inr (by omega))
      rw [if_pos (by omega)]
      refine ⟨fun _ => this, fun _ h => ?_⟩
      first | exact absurd h c2 | exact h.elim
  · simp only [ne_eq, c1, not_false_eq_true, if_true] at hx ⊢
    by_cases c2 : y = 0
    · subst c2
      have := (h hx (by omega)).1 (.inl (by omega))
      rw [if_pos (show ¬ z = 0 by omega)]
      refine ⟨fun _ => this, fun h _ => ?_⟩
      first | exact h.elim | omega
    · simp only [ne_eq, c2, not_false_eq_true, if_true] at hy ⊢
      have := (h hx hy).1 (.inl (by omega))
      rw [if_pos (show ¬ z = 0 by omega)]
      refine ⟨fun _ => this, fun h _ => ?_⟩
      first | exact h.elim | omega
theorem tri_cI (a b c : Int) : Tri (cI a b) (cI b c) (cI a c) := by
  unfold Tri cI
  intro h1 h2
  repeat' split at h1
  all_goals (repeat' split at h2)
  all_goals (repeat' split)
  all_goals (first | omega | (constructor <;> intros <;> omega))
theorem cS_neg {a b : List UInt8} : cS a b < 0 ↔ nlt a b := by
  unfold cS
  constructor
  · intro h
    by_cases c : nlt a b
    · exact c
    · rw [if_neg c] at h; split at h <;> omega
  · intro h; rw [if_pos h]; omega
theorem tri_cS (a b c : List UInt8) : Tri (cS a b) (cS b c) (cS a c) := by
  intro h1 h2
  have e1 : nlt a b ∨ a = b := by rcases cS_rng a b with h | h | h; exact .inl (cS_neg.1 (by omega)); exact .inr (cS_zero.1 h); omega
  have e2 : nlt b c ∨ b = c := by rcases cS_rng b c with h | h | h; exact .inl (cS_neg.1 (by omega)); exact .inr (cS_zero.1 h); omega
  refine ⟨fun h => cS_neg.2 ?_, fun h3 h4 => ?_⟩
  · rcases e1 with e1 | rfl
    · rcases e2 with e2 | rfl
      · exact nlt_trans e1 e2
      · exact e1
    · rcases e2 with e2 | rfl
      · exact e2
      · rw [cS_self] at h; omega
  · obtain rfl := cS_zero.1 h3
    obtain rfl := cS_zero.1 h4
    exact cS_self _
theorem Tri.zero : Tri 0 0 0 := fun _ _ => ⟨fun h => by omega, fun _ _ => rfl⟩
theorem tri_cL : ∀ (l m n : List ApiValue) (p q r : List (List UInt8)), ((p.length = l.length ∧ q.length = m.length ∧ r.length = n.length) ∨ (p = [] ∧ q = [] ∧ r = [])) →
    (∀ x, x ∈ l → ∀ y, y ∈ m → ∀ z, z ∈ n → Tri (cV x y) (cV y z) (cV x z)) → Tri (cL l m p q) (cL m n q r) (cL l n p r)
  | [], [], [], p, q, r, _, _ => by rw [cL, cL, cL]; exact Tri.zero
  | [], [], _ :: _, p, q, r, _, _ => by rw [cL, cL, cL]; intro _ _; exact ⟨fun _ => by omega, fun _ h => by omega⟩
  | [], _ :: _, [], p, q, r, _, _ => by rw [cL, cL, cL]; intro _ h; omega
  | [], _ :: _, _ :: _, p, q, r, _, _ => by rw [cL, cL]; intro _ _; exact ⟨fun _ => by omega, fun h => by omega⟩
  | _ :: _, [], _, p, q, r, _, _ => by rw [cL]; intro h; omega
  | _ :: _, _ :: _, [], p, q, r, _, _ => by
    have e : ∀ (y : ApiValue) (m : List ApiValue), cL (y :: m) [] q r = 1 := fun y m => by rw [cL]
    rw [e]; intro _ h; omega
  | x :: l, y :: m, z :: n, p, q, r, hf, hz => by
    rw [cL, cL, cL]
    refine Tri.lex (Tri.lex ?_ fun _ _ => hz x (by simp) y (by simp) z (by simp)) fun _ _ => ?_
    · rcases hf with ⟨e1, e2, e3⟩ | ⟨rfl, rfl, rfl⟩
      · match p, q, r, e1, e2, e3 with
        | u :: p, w :: q, t :: r, _, _, _ => exact tri_cS u w t
      · exact Tri.zero
    · refine tri_cL l m n p.tail q.tail r.tail ?_ (fun a ha b hb c hc => hz a (by simp [ha]) b (by simp [hb]) c (by simp [hc]))
      rcases hf with ⟨e1, e2, e3⟩ | ⟨rfl, rfl, rfl⟩
      · left; simp only [List.length_tail, e1, e2, e3, List.length_cons]; omega
      · exact .inr ⟨rfl, rfl, rfl⟩
theorem tri_cV_n : ∀ (n : Nat) (a b c : ApiValue), dpApiValue a ≤ n → WF a → WF b → WF c → Tri (cV a b) (cV b c) (cV a c)
  | 0, a, b, c, h, _, _, _ => by rw [dpApiValue_eq] at h; omega
  | n + 1, a, b, c, h, ha, hb, hc => by
    rw [cV_eq a b, cV_eq b c, cV_eq a c]
    refine Tri.lex (Tri.lex (tri_cI _ _ _) fun _ _ => Tri.lex (tri_cI _ _ _) fun _ _ => tri_cS _ _ _) fun h1 h2 => ?_
    rw [or2_zero, or2_zero, cI_zero] at h1 h2
    refine tri_cL _ _ _ _ _ _ ?_ (fun x hx y hy z hz => tri_cV_n n x y z (by have := dp_sub hx; omega) (ha.sub x hx) (hb.sub y hy) (hc.sub z hz))
    by_cases e : a.Kind = 6
    · exact .inl ⟨ha.obj e, hb.obj (h1.1 ▸ e), hc.obj (h2.1 ▸ h1.1 ▸ e)⟩
    · exact .inr ⟨ha.nokeys e, hb.nokeys (h1.1 ▸ e), hc.nokeys (h2.1 ▸ h1.1 ▸ e)⟩
theorem tri_cV {a b c : ApiValue} (ha : WF a) (hb : WF b) (hc : WF c) : Tri (cV a b) (cV b c) (cV a c) := tri_cV_n _ a b c (Nat.le_refl _) ha hb hc
end Go.Proofs

set_option linter.unusedVariables false
set_option linter.unusedSimpArgs false
namespace Go.Proofs
open Go.Fw
/-! Whether values are the same. -/
noncomputable def eqV (a b : ApiValue) : Bool := @decide (a = b) (Classical.propDecidable _)
theorem eqV_iff {a b : ApiValue} : eqV a b = true ↔ a = b := by unfold eqV; simp
noncomputable def eqL (a b : List ApiValue) : Bool := @decide (a = b) (Classical.propDecidable _)
theorem eqL_iff {a b : List ApiValue} : eqL a b = true ↔ a = b := by unfold eqL; simp
theorem b_eq {p q : Bool} (h : p = true ↔ q = true) : p = q := by cases p <;> cases q <;> simp_all
theorem eqL_cons (x y : ApiValue) (l m : List ApiValue) : eqL (x :: l) (y :: m) = (eqV x y && eqL l m) := b_eq (by rw [Bool.and_eq_true, eqL_iff, eqL_iff, eqV_iff, List.cons.injEq])
theorem strEq_run {a b : List (List UInt8)} (he : a.length = b.length) (hl : a.length ≤ M63) {kj : Unit → Option Bool} (hk : kj () = some true) : ∀ (J k : Nat), k ≤ a.length → a.length - k < J → slices_Equal_string_string_l1 a b kj J (k : Int) = some (decide (a.drop k = b.drop k))
  | 0, k, h1, h2 => by omega
  | J + 1, k, h1, h2 => by
    rw [slices_Equal_string_string_l1]
    by_cases c : k < a.length
    · have c2 : k < b.length := by omega
      rw [if_pos (by omega), geti_nat, geti_nat, List.getElem?_eq_getElem c, List.getElem?_eq_getElem c2, Option.bind_some, Option.bind_some, List.drop_eq_getElem_cons c, List.drop_eq_getElem_cons c2]
      by_cases c3 : a[k] = b[k]
      · rw [if_neg (by simpa using c3), nxt c hl, strEq_run he hl hk J (k + 1) (by omega) (by omega)]
        simp only [List.cons.injEq, c3, true_and]
      · rw [if_pos c3]; simp only [List.cons.injEq, c3, false_and, decide_false]
    · rw [if_neg (by omega), hk, List.drop_eq_nil_of_le (by omega), List.drop_eq_nil_of_le (by omega)]; simp
theorem strEq_eq (a b : List (List UInt8)) (hl : a.length ≤ M63) : slices_Equal_string_string a b = some (decide (a = b)) := by
  unfold slices_Equal_string_string
  have := FU_M
  by_cases c : a.length = b.length
  · rw [if_neg (by omega), jn_eq', show (0 : Int) = ((0 : Nat) : Int) from rfl, strEq_run c hl rfl FU 0 (by omega) (by omega)]; simp
  · rw [if_pos (by omega)]
    have : a ≠ b := fun e => c (by rw [e])
    simp [this]
theorem eqF_run {a b : List ApiValue} (he : a.length = b.length) (hl : a.length ≤ M63) {f : ApiValue → ApiValue → Option Bool} (hf : ∀ x, x ∈ a → ∀ y, y ∈ b → f x y = some (eqV x y)) {kj : Unit → Option Bool} (hk : kj () = some true) : ∀ (J k : Nat), k ≤ a.length → a.length - k < J → slices_EqualFunc_api_Value_api_Value_api_Value_api_Value_f13_l1 a b f kj J (k : Int) = some (eqL (a.drop k) (b.drop k))
  | 0, k, h1, h2 => by omega
  | J + 1, k, h1, h2 => by
    rw [slices_EqualFunc_api_Value_api_Value_api_Value_api_Value_f13_l1]
    by_cases c : k < a.length
    · have c2 : k < b.length := by omega
      rw [if_pos (by omega), geti_nat, geti_nat, List.getElem?_eq_getElem c, List.getElem?_eq_getElem c2, Option.bind_some, Option.bind_some, List.drop_eq_getElem_cons c, List.drop_eq_getElem_cons c2, hf _ (List.getElem_mem c) _ (List.getElem_mem c2), Option.bind_some, eqL_cons]
      cases c3 : eqV a[k] b[k] with
      | true => rw [if_neg (by simp), nxt c hl, eqF_run he hl hf hk J (k + 1) (by omega) (by omega)]; simp
      | false => rw [if_pos (by simp)]; simp
    · rw [if_neg (by omega), hk, List.drop_eq_nil_of_le (by omega), List.drop_eq_nil_of_le (by omega), eqL_iff.2 rfl]
theorem eqF_eq (a b : List ApiValue) (hl : a.length ≤ M63) {f : ApiValue → ApiValue → Option Bool} (hf : ∀ x, x ∈ a → ∀ y, y ∈ b → f x y = some (eqV x y)) : slices_EqualFunc_api_Value_api_Value_api_Value_api_Value_f13 f a b = some (eqL a b) := by
  unfold slices_EqualFunc_api_Value_api_Value_api_Value_api_Value_f13
  have := FU_M
  by_cases c : a.length = b.length
  · rw [if_neg (by omega), jn_eq', show (0 : Int) = ((0 : Nat) : Int) from rfl, eqF_run c hl hf rfl FU 0 (by omega) (by omega)]; simp
  · rw [if_pos (by omega)]
    have : eqL a b = false := by
      cases h : eqL a b with
      | false => rfl
      | true => exact absurd (congrArg List.length (eqL_iff.1 h)) c
    rw [this]
theorem same_run : ∀ (j : Nat) {a b : ApiValue}, dpApiValue a ≤ j → TV a → TV b → value_Same_r j a b = some (eqV a b)
  | 0, a, b, h, _, _ => by rw [dpApiValue_eq] at h; omega
  | j + 1, a, b, h, ha, hb => by
    rw [value_Same_r, value_Same_s]
    have e : eqV a b = (decide ((a.Kind = b.Kind ∧ a.Num = b.Num) ∧ a.Text = b.Text) && (decide (a.Keys = b.Keys) && eqL a.List_ b.List_)) := b_eq (by
      rw [eqV_iff, Bool.and_eq_true, Bool.and_eq_true, decide_eq_true_iff, decide_eq_true_iff, eqL_iff]
      cases a; cases b; simp only [ApiValue.mk.injEq]
      constructor
      · rintro ⟨h1, h2, h3, h4, h5⟩; exact ⟨⟨⟨h1, h2⟩, h3⟩, h5, h4⟩
      · rintro ⟨⟨⟨h1, h2⟩, h3⟩, h5, h4⟩; exact ⟨h1, h2, h3, h4, h5⟩)
    rw [e]
    by_cases c : (a.Kind = b.Kind ∧ a.Num = b.Num) ∧ a.Text = b.Text
    · rw [if_pos c, strEq_eq _ _ ha.keys, Option.bind_some, Option.bind_some, decide_eq_true c, Bool.true_and]
      by_cases c2 : a.Keys = b.Keys
      · rw [decide_eq_true c2, if_pos rfl, eqF_eq _ _ ha.list (fun x hx y hy => same_run j (by have := dp_sub hx; omega) (ha.sub x hx) (hb.sub y hy))]; rfl
      · rw [decide_eq_false c2, if_neg (by decide)]; rfl
    · rw [if_neg c, Option.bind_some, if_neg (by decide), decide_eq_false c]; rfl
theorem vsame_eq {a b : ApiValue} (ha : TV a) (hb : TV b) : value_Same a b = some (eqV a b) := by
  unfold value_Same
  exact same_run _ (by omega) ha hb
/-! Plain texts, names. -/
def okB (c : UInt8) : Bool := decide (32 ≤ c.toNat) && decide (c.toNat ≤ 126)
def plB (s : List UInt8) : Bool := s.all okB
theorem plain_run {s : List UInt8} (hl : s.length ≤ M63) {kj : Unit → Option Bool} (hk : kj () = some true) : ∀ (J k : Nat), k ≤ s.length → s.length - k < J → value_plain_l1 s kj J (k : Int) = some (plB (s.drop k))
  | 0, k, h1, h2 => by omega
  | J + 1, k, h1, h2 => by
    rw [value_plain_l1]
    by_cases c : k < s.length
    · rw [if_pos (by omega), geti_nat, List.getElem?_eq_getElem c, Option.bind_some, List.drop_eq_getElem_cons c]
      show _ = some (okB s[k] && plB (s.drop (k + 1)))
      unfold okB
      by_cases c1 : s[k].toNat < 32
      · rw [if_pos (by omega), Option.bind_some, if_pos rfl, decide_eq_false (show ¬ 32 ≤ s[k].toNat by omega)]; rfl
      · rw [if_neg (by omega), Option.bind_some, Option.bind_some]
        by_cases c2 : 126 < s[k].toNat
        · rw [decide_eq_true (show (126 : Int) < _ by omega), if_pos rfl, decide_eq_false (show ¬ s[k].toNat ≤ 126 by omega)]; simp
        · rw [decide_eq_false (show ¬ (126 : Int) < _ by omega), if_neg (by decide), nxt c hl, plain_run hl hk J (k + 1) (by omega) (by omega), decide_eq_true (show 32 ≤ s[k].toNat by omega), decide_eq_true (show s[k].toNat ≤ 126 by omega)]; rfl
    · rw [if_neg (by omega), hk, List.drop_eq_nil_of_le (by omega)]; rfl
theorem plain_eq (s : List UInt8) (hl : s.length ≤ M63) : value_plain s = some (plB s) := by
  unfold value_plain
  have := FU_M
  rw [jn_eq', show (0 : Int) = ((0 : Nat) : Int) from rfl, plain_run hl rfl FU 0 (by omega) (by omega)]; rfl
def keyB (s : List UInt8) : Bool := decide (1 ≤ s.length ∧ s.length ≤ 24) && (plB s && !Lib.containsAny s [32, 46, 34])
theorem key_eq (s : List UInt8) (hl : s.length ≤ M63) : value_key s = some (keyB s) := by
  unfold value_key keyB
  by_cases c : 1 ≤ s.length ∧ s.length ≤ 24
  · rw [if_pos (by omega), plain_eq s hl, Option.bind_some, Option.bind_some, decide_eq_true c, Bool.true_and]
    cases h : plB s with
    | false => rw [if_neg (by decide)]; rfl
    | true =>
      have hp : s.all (fun b => decide (b.toNat < 128)) = true := by
        unfold plB at h
        rw [List.all_eq_true] at h ⊢
        intro x hx
        have := h x hx
        unfold okB at this
        simp only [Bool.and_eq_true, decide_eq_true_eq] at this
        exact decide_eq_true (by omega)
      rw [if_pos rfl, if_pos ⟨hp, by decide, by omega, by decide⟩]; rfl
  · rw [if_neg (by omega), Option.bind_some, if_neg (by decide), decide_eq_false c]; rfl
/-- Rising names. -/
def kOK : Option (List UInt8) → List (List UInt8) → Bool
  | _, [] => true
  | pr, k :: r => keyB k && ((match pr with | none => true | some p => decide (nlt p k)) && kOK (some k) r)
end Go.Proofs

set_option linter.unusedVariables false
set_option linter.unusedSimpArgs false
namespace Go.Proofs
open Go.Fw
/-! Whether a value is of a form that may be. -/
theorem kOK_cons (pr : Option (List UInt8)) (k : List UInt8) (r : List (List UInt8)) : kOK pr (k :: r) = (keyB k && ((match pr with | none => true | some p => decide (nlt p k)) && kOK (some k) r)) := by
  cases pr <;> rfl
theorem kOK_nil (pr : Option (List UInt8)) : kOK pr [] = true := by cases pr <;> rfl
def prv (l : List (List UInt8)) (k : Nat) : Option (List UInt8) := if k = 0 then none else l[k - 1]?
theorem shKeys_run {v : ApiValue} (hv : TV v) {kj : Unit → Option Bool} : ∀ (J k : Nat), k ≤ v.Keys.length → v.Keys.length - k < J → value_shaped_s_l1 v kj J (k : Int) = if kOK (prv v.Keys k) (v.Keys.drop k) = true then kj () else some false
  | 0, k, h1, h2 => by omega
  | J + 1, k, h1, h2 => by
    rw [value_shaped_s_l1]
    by_cases c : k < v.Keys.length
    · rw [if_pos (by omega), geti_nat, List.getElem?_eq_getElem c, Option.bind_some, key_eq _ (hv.key _ (List.getElem_mem c)), Option.bind_some, List.drop_eq_getElem_cons c, kOK_cons]
      cases hk : keyB v.Keys[k] with
      | false => rw [if_pos (by decide), Option.bind_some, if_pos rfl, Bool.false_and, if_neg (by decide)]
      | true =>
        rw [if_neg (by decide), Bool.true_and]
        have hp : prv v.Keys (k + 1) = some v.Keys[k] := by unfold prv; rw [if_neg (by omega), Nat.add_sub_cancel, List.getElem?_eq_getElem c]
        by_cases c0 : k = 0
        · have e : prv v.Keys k = none := by unfold prv; rw [if_pos c0]
          rw [if_neg (by omega), Option.bind_some, Option.bind_some, if_neg (by decide), nxt c hv.keys, shKeys_run hv J (k + 1) (by omega) (by omega), hp, e]
          simp
        · have hlt : k - 1 < v.Keys.length := by omega
          have e : prv v.Keys k = some v.Keys[k - 1] := by unfold prv; rw [if_neg c0, List.getElem?_eq_getElem hlt]
          have ei : i64 ((k : Int) - 1) = ((k - 1 : Nat) : Int) := by rw [i64_id (by omega) (by have := hv.keys; have hM : M63 = 9223372036854775807 := rfl; omega)]; omega
          rw [if_pos (by omega), ei, geti_nat, List.getElem?_eq_getElem hlt, Option.bind_some, Option.bind_some, Option.bind_some, less_nlt, e]
          simp only
          by_cases hn : nlt v.Keys[k - 1] v.Keys[k]
          · rw [if_neg (by simp [hn]), nxt c hv.keys, shKeys_run hv J (k + 1) (by omega) (by omega), hp]; simp [hn]
          · rw [if_pos (by simp [hn])]; simp [hn]
    · rw [if_neg (by omega), List.drop_eq_nil_of_le (by omega), kOK_nil, if_pos rfl]
theorem shIdx_run {l : List ApiValue} (hl : l.length ≤ M63) {f : ApiValue → Int → Option Bool} {d : Int} {g : ApiValue → Bool} (hf : ∀ x, x ∈ l → f x (i64 (d - 1)) = some (g x)) {kj : Unit → Option Int} : ∀ (J k : Nat), k ≤ l.length → l.length - k < J →
    (∃ i : Nat, slices_IndexFunc_api_Value_api_Value_c55_l1 l f d kj J (k : Int) = some (i : Int) ∧ (l.drop k).all g = false) ∨ (slices_IndexFunc_api_Value_api_Value_c55_l1 l f d kj J (k : Int) = kj () ∧ (l.drop k).all g = true)
  | 0, k, h1, h2 => by omega
  | J + 1, k, h1, h2 => by
    rw [slices_IndexFunc_api_Value_api_Value_c55_l1]
    by_cases c : k < l.length
    · rw [if_pos (by omega), geti_nat, List.getElem?_eq_getElem c, Option.bind_some, value_shaped_1, hf _ (List.getElem_mem c), Option.bind_some, Option.bind_some, List.drop_eq_getElem_cons c, List.all_cons]
      cases hg : g l[k] with
      | false => exact .inl ⟨k, by rw [if_pos (by decide)], rfl⟩
      | true =>
        rw [if_neg (by decide), nxt c hl, Bool.true_and]
        exact shIdx_run hl hf J (k + 1) (by omega) (by omega)
    · rw [if_neg (by omega), List.drop_eq_nil_of_le (by omega)]
      exact .inr ⟨rfl, rfl⟩
theorem shAll_eq {l : List ApiValue} (hl : l.length ≤ M63) {f : ApiValue → Int → Option Bool} {d : Int} {g : ApiValue → Bool} (hf : ∀ x, x ∈ l → f x (i64 (d - 1)) = some (g x)) : slices_ContainsFunc_api_Value_api_Value_c55 f l d = some (!(l.all g)) := by
  unfold slices_ContainsFunc_api_Value_api_Value_c55 slices_IndexFunc_api_Value_api_Value_c55
  have := FU_M
  rw [jn_eq', show (0 : Int) = ((0 : Nat) : Int) from rfl]
  rcases shIdx_run hl hf (kj := fun _ => some (-1)) FU 0 (by omega) (by omega) with ⟨i, h1, h2⟩ | ⟨h1, h2⟩
  · rw [h1, Option.bind_some, decide_eq_true (by omega)]
    rw [List.drop_zero] at h2; rw [h2]; rfl
  · rw [h1, Option.bind_some, decide_eq_false (by omega)]
    rw [List.drop_zero] at h2; rw [h2]; rfl
/-- What stands in a value of a kind. -/
def hdB (v : ApiValue) : Bool := decide (0 ≤ v.Kind ∧ v.Kind ≤ 6 ∧ (v.Kind = 3 ∨ v.Num = 0) ∧ (v.Kind = 4 ∨ v.Text = []) ∧ (v.Kind = 6 ∨ v.Keys = []) ∧ (v.Kind = 6 → v.Keys.length = v.List_.length) ∧ (5 ≤ v.Kind ∨ v.List_ = []))
def shB : Nat → ApiValue → Bool
  | 0, _ => false
  | d + 1, v => hdB v && (plB v.Text && (kOK none v.Keys && v.List_.all (shB d)))
theorem len0 {α : Type} {l : List α} : ((l.length : Int) ≠ (([] : List α).length : Int)) ↔ l ≠ [] := by
  cases l with
  | nil => simp
  | cons x r => constructor
                · intro _ h; cases h
                · intro _ h; simp at h; omega
theorem shaped_run : ∀ (d j : Nat) {v : ApiValue}, d < j → d ≤ 100 → TV v → value_shaped_r j v (d : Int) = some (shB d v)
  | d, 0, v, h, _, _ => by omega
  | 0, j + 1, v, h, _, hv => by rw [value_shaped_r, value_shaped_s, if_pos (by decide)]; rfl
  | d + 1, j + 1, v, h, hd, hv => by
    have hFU := FU_M
    have hK := hv.keys
    have hsub : ∀ x, x ∈ v.List_ → value_shaped_r j x (i64 (((d + 1 : Nat) : Int) - 1)) = some (shB d x) := fun x hx => by
      rw [i64_id (by omega) (by omega), show ((d + 1 : Nat) : Int) - 1 = (d : Int) by omega]
      exact shaped_run d j (by omega) (by omega) (hv.sub x hx)
    rw [value_shaped_r, value_shaped_s, if_neg (by omega), jn_eq']
    -- what follows, whatever is taken over
    have tail : ∀ (n : Int) (t : List UInt8) (l : List ApiValue) (p : List (List UInt8)),
        ((if (((v.Num ≠ n) ∨ (v.Text ≠ t)) ∨ ((v.Keys.length : Int) ≠ (p.length : Int))) ∨ ((v.List_.length : Int) ≠ (l.length : Int)) then some true else (value_plain v.Text).bind fun x8 => some (!x8)).bind fun x7 => if x7 = true then some false else jn (fun (_ : Unit) => (slices_ContainsFunc_api_Value_api_Value_c55 (value_shaped_r j) v.List_ ((d + 1 : Nat) : Int)).bind fun x16 => some (!x16)) (fun (kj9 : Unit → Option Bool) => value_shaped_s_l1 v kj9 FU 0))
        = some (decide (v.Num = n ∧ v.Text = t ∧ v.Keys.length = p.length ∧ v.List_.length = l.length) && (plB v.Text && (kOK none v.Keys && v.List_.all (shB d)))) := by
      intro n t l p
      by_cases c : v.Num = n ∧ v.Text = t ∧ v.Keys.length = p.length ∧ v.List_.length = l.length
      · rw [if_neg (by rintro (((h | h) | h) | h); exact h c.1; exact h c.2.1; omega; omega), plain_eq _ hv.text, Option.bind_some, Option.bind_some, decide_eq_true c, Bool.true_and]
        cases hp : plB v.Text with
        | false => rw [if_pos (by decide)]; rfl
        | true =>
          rw [if_neg (by decide), jn_eq', show (0 : Int) = ((0 : Nat) : Int) from rfl, shKeys_run hv FU 0 (by omega) (by omega), shAll_eq hv.list hsub]
          simp only [prv, if_true, List.drop_zero, Option.bind_some, Bool.true_and, Bool.not_not]
          cases kOK none v.Keys <;> simp
      · have h0 : ((v.Num ≠ n ∨ v.Text ≠ t) ∨ (v.Keys.length : Int) ≠ (p.length : Int)) ∨ (v.List_.length : Int) ≠ (l.length : Int) := by
          apply Classical.byContradiction; intro h
          simp only [not_or, ne_eq, Classical.not_not] at h
          exact c ⟨h.1.1.1, h.1.1.2, by omega, by omega⟩
        rw [if_pos h0, Option.bind_some, if_pos rfl, decide_eq_false c]; rfl
    rw [shB]
    have fin : ∀ {n : Int} {t : List UInt8} {l : List ApiValue} {p : List (List UInt8)} {o : Option Bool} (r : Bool), (v.Num = n ∧ v.Text = t ∧ v.Keys.length = p.length ∧ v.List_.length = l.length ↔ hdB v = true) → o = some (decide (v.Num = n ∧ v.Text = t ∧ v.Keys.length = p.length ∧ v.List_.length = l.length) && r) → o = some (hdB v && r) := by
      intro n t l p o r he ho
      rw [ho]
      congr 2
      exact b_eq (by rw [decide_eq_true_iff]; exact he)
    have hdi : hdB v = true ↔ (0 ≤ v.Kind ∧ v.Kind ≤ 6 ∧ (v.Kind = 3 ∨ v.Num = 0) ∧ (v.Kind = 4 ∨ v.Text = []) ∧ (v.Kind = 6 ∨ v.Keys = []) ∧ (v.Kind = 6 → v.Keys.length = v.List_.length) ∧ (5 ≤ v.Kind ∨ v.List_ = [])) := by unfold hdB; exact decide_eq_true_iff
    have lz : ∀ {α : Type} (l : List α), l.length = ([] : List α).length ↔ l = [] := fun l => List.length_eq_zero_iff
    rw [jn_eq']
    by_cases k0 : v.Kind = 0
    · simp only [k0, if_true]
      refine fin _ ?_ (tail _ _ _ _)
      rw [hdi, lz, lz]
      constructor
      · rintro ⟨h1, h2, h3, h4⟩; exact ⟨by omega, by omega, .inr h1, .inr h2, .inr h3, by omega, .inr h4⟩
      · rintro ⟨_, _, h1, h2, h3, _, h4⟩; exact ⟨by omega, h2.resolve_left (by omega), h3.resolve_left (by omega), h4.resolve_left (by omega)⟩
    by_cases k1 : v.Kind = 1
    · simp only [k1, if_true]
      refine fin _ ?_ (tail _ _ _ _)
      rw [hdi, lz, lz]
      constructor
      · rintro ⟨h1, h2, h3, h4⟩; exact ⟨by omega, by omega, .inr h1, .inr h2, .inr h3, by omega, .inr h4⟩
      · rintro ⟨_, _, h1, h2, h3, _, h4⟩; exact ⟨by omega, h2.resolve_left (by omega), h3.resolve_left (by omega), h4.resolve_left (by omega)⟩
    by_cases k2 : v.Kind = 2
    · simp only [k2, if_true]
      refine fin _ ?_ (tail _ _ _ _)
      rw [hdi, lz, lz]
      constructor
      · rintro ⟨h1, h2, h3, h4⟩; exact ⟨by omega, by omega, .inr h1, .inr h2, .inr h3, by omega, .inr h4⟩
      · rintro ⟨_, _, h1, h2, h3, _, h4⟩; exact ⟨by omega, h2.resolve_left (by omega), h3.resolve_left (by omega), h4.resolve_left (by omega)⟩
    rw [if_neg k0, if_neg k1, if_neg k2]
    by_cases k3 : v.Kind = 3
    · rw [if_pos k3]
      refine fin _ ?_ (tail _ _ _ _)
      rw [hdi, lz, lz]
      constructor
      · rintro ⟨h1, h2, h3, h4⟩; exact ⟨by omega, by omega, .inl k3, .inr h2, .inr h3, by omega, .inr h4⟩
      · rintro ⟨_, _, h1, h2, h3, _, h4⟩; exact ⟨rfl, h2.resolve_left (by omega), h3.resolve_left (by omega), h4.resolve_left (by omega)⟩
    rw [if_neg k3]
    by_cases k4 : v.Kind = 4
    · rw [if_pos k4]
      refine fin _ ?_ (tail _ _ _ _)
      rw [hdi, lz, lz]
      constructor
      · rintro ⟨h1, h2, h3, h4⟩; exact ⟨by omega, by omega, .inr h1, .inl k4, .inr h3, by omega, .inr h4⟩
      · rintro ⟨_, _, h1, h2, h3, _, h4⟩; exact ⟨h1.resolve_left (by omega), rfl, h3.resolve_left (by omega), h4.resolve_left (by omega)⟩
    rw [if_neg k4]
    by_cases k6 : v.Kind = 6
    · rw [if_pos k6]
      by_cases c : v.Keys.length = v.List_.length
      · rw [if_neg (by omega)]
        refine fin _ ?_ (tail _ _ _ _)
        rw [hdi]
        constructor
        · rintro ⟨h1, h2, h3, h4⟩; exact ⟨by omega, by omega, .inr h1, .inr h2, .inl k6, fun _ => c, .inl (by omega)⟩
        · rintro ⟨_, _, h1, h2, h3, _, h4⟩; exact ⟨h1.resolve_left (by omega), h2.resolve_left (by omega), rfl, rfl⟩
      · rw [if_pos (by omega)]
        have : hdB v = false := by
          cases h : hdB v with
          | false => rfl
          | true => exact absurd ((hdi.1 h).2.2.2.2.2.1 k6) c
        rw [this]; rfl
    rw [if_neg k6]
    by_cases k5 : v.Kind = 5
    · rw [if_pos k5]
      refine fin _ ?_ (tail _ _ _ _)
      rw [hdi, lz]
      constructor
      · rintro ⟨h1, h2, h3, h4⟩; exact ⟨by omega, by omega, .inr h1, .inr h2, .inr h3, by omega, .inl (by omega)⟩
      · rintro ⟨_, _, h1, h2, h3, _, h4⟩; exact ⟨h1.resolve_left (by omega), h2.resolve_left (by omega), h3.resolve_left (by omega), rfl⟩
    rw [if_neg k5]
    have : hdB v = false := by
      cases h : hdB v with
      | false => rfl
      | true => have := hdi.1 h; omega
    rw [this]; rfl
theorem shaped_eq {v : ApiValue} (hv : TV v) : value_shaped v 8 = some (shB 8 v) := by
  have := FU_M
  unfold value_shaped
  rw [show (8 : Int) = ((8 : Nat) : Int) from rfl]
  exact shaped_run 8 _ (by omega) (by omega) hv
theorem hdB_iff {v : ApiValue} : hdB v = true ↔ (0 ≤ v.Kind ∧ v.Kind ≤ 6 ∧ (v.Kind = 3 ∨ v.Num = 0) ∧ (v.Kind = 4 ∨ v.Text = []) ∧ (v.Kind = 6 ∨ v.Keys = []) ∧ (v.Kind = 6 → v.Keys.length = v.List_.length) ∧ (5 ≤ v.Kind ∨ v.List_ = [])) := by unfold hdB; exact decide_eq_true_iff
theorem shB_wf : ∀ (d : Nat) {v : ApiValue}, shB d v = true → WF v
  | 0, v, h => by simp [shB] at h
  | d + 1, v, h => by
    rw [shB, Bool.and_eq_true, Bool.and_eq_true, Bool.and_eq_true, hdB_iff, List.all_eq_true] at h
    exact .mk h.1.2.2.2.2.2.1 (fun c => h.1.2.2.2.2.1.resolve_left c) (fun x hx => shB_wf d (h.2.2.2 x hx))
end Go.Proofs

set_option linter.unusedVariables false
set_option linter.unusedSimpArgs false
namespace Go.Proofs
open Go.Fw
/-! How much a value is. -/
def wK (p : List (List UInt8)) : Nat := (p.map fun k => 1 + k.length / 100).sum
mutual
def wV : ApiValue → Nat
  | ⟨_, _, t, l, p⟩ => 1 + t.length / 100 + wK p + wL l
def wL : List ApiValue → Nat
  | [] => 0
  | x :: r => wV x + wL r
end
theorem wV_eq (v : ApiValue) : wV v = 1 + v.Text.length / 100 + wK v.Keys + wL v.List_ := by cases v; rw [wV]
inductive KS : ApiValue → Prop
  | mk {v : ApiValue} : (∀ k ∈ v.Keys, k.length ≤ 24) → (∀ x, x ∈ v.List_ → KS x) → KS v
theorem KS.key {v : ApiValue} (h : KS v) : ∀ k ∈ v.Keys, k.length ≤ 24 := by cases h; assumption
theorem KS.sub {v : ApiValue} (h : KS v) : ∀ x, x ∈ v.List_ → KS x := by cases h; assumption
theorem div100 (n : Nat) : ((n : Int).tdiv 100) = ((n / 100 : Nat) : Int) := by
  rw [Int.tdiv_eq_ediv_of_nonneg (by omega)]; omega
theorem pK_run {v : ApiValue} (hv : TV v) {kj : Int → Option Int} : ∀ (J k : Nat) (n : Int), k ≤ v.Keys.length → v.Keys.length - k < J →
    ∃ m, law01_parts_s_l1 v kj J n (k : Int) = kj m ∧ ((∀ q ∈ v.Keys, q.length ≤ 24) → 0 ≤ n → n + (v.Keys.length - k) ≤ 1000000000 → m = n + (wK (v.Keys.drop k) : Int) ∧ m ≤ n + (v.Keys.length - k))
  | 0, k, n, h1, h2 => by omega
  | J + 1, k, n, h1, h2 => by
    rw [law01_parts_s_l1]
    by_cases c : k < v.Keys.length
    · rw [if_pos (by omega), geti_nat, List.getElem?_eq_getElem c, Option.bind_some, nxt c hv.keys, div100]
      obtain ⟨m, e1, e2⟩ := pK_run hv (kj := kj) J (k + 1) (i64 (i64 (n + 1) + i64 ((v.Keys[k].length / 100 : Nat) : Int))) (by omega) (by omega)
      refine ⟨m, e1, fun hq h0 h3 => ?_⟩
      have h4 := hq _ (List.getElem_mem c)
      have h5 : v.Keys[k].length / 100 = 0 := by omega
      have e : i64 (i64 (n + 1) + i64 ((v.Keys[k].length / 100 : Nat) : Int)) = n + 1 := by
        rw [h5, i64_id (p := n + 1) (by omega) (by omega), i64_id (p := ((0 : Nat) : Int)) (by omega) (by omega), i64_id (by omega) (by omega)]; omega
      rw [e] at e2
      obtain ⟨f1, f2⟩ := e2 hq (by omega) (by omega)
      rw [List.drop_eq_getElem_cons c]
      simp only [wK, List.map_cons, List.sum_cons, h5] at f1 ⊢
      exact ⟨by omega, by omega⟩
    · rw [if_neg (by omega), List.drop_eq_nil_of_le (by omega)]
      refine ⟨n, rfl, fun _ _ _ => ⟨by simp [wK], by omega⟩⟩
theorem pL_run {v : ApiValue} (hv : TV v) {f : ApiValue → Int → Option Int} {d : Int} {M : Int} (hf : ∀ x, x ∈ v.List_ → ∃ p, f x (i64 (d - 1)) = some p ∧ (KS x → 0 ≤ p ∧ p ≤ M ∧ (p < 100000 → (wV x : Int) = p))) (hM : 0 ≤ M ∧ M ≤ 100000000)
    {kj : Int → Option Int} : ∀ (J k : Nat) (n : Int), k ≤ v.List_.length → v.List_.length - k < J →
    ∃ m, law01_parts_s_l2 v f d kj J n (k : Int) = kj m ∧ (KS v → 0 ≤ n → n ≤ 100000 + M → 0 ≤ m ∧ m ≤ 100000 + M ∧ (m < 100000 → m = n + (wL (v.List_.drop k) : Int)))
  | 0, k, n, h1, h2 => by omega
  | J + 1, k, n, h1, h2 => by
    rw [law01_parts_s_l2]
    by_cases c : k < v.List_.length
    · by_cases c2 : n < 100000
      · obtain ⟨p, hp, hq⟩ := hf _ (List.getElem_mem c)
        rw [if_pos ⟨by omega, c2⟩, geti_nat, List.getElem?_eq_getElem c, Option.bind_some, hp, Option.bind_some, nxt c hv.list]
        obtain ⟨m, e1, e2⟩ := pL_run hv hf hM (kj := kj) J (k + 1) (i64 (n + p)) (by omega) (by omega)
        refine ⟨m, e1, fun hk h0 h3 => ?_⟩
        obtain ⟨q1, q2, q3⟩ := hq (hk.sub _ (List.getElem_mem c))
        rw [i64_id (by omega) (by omega)] at e2
        obtain ⟨f1, f2, f3⟩ := e2 hk (by omega) (by omega)
        refine ⟨f1, f2, fun hm => ?_⟩
        have f4 := f3 hm
        rw [List.drop_eq_getElem_cons c, wL]
        have := q3 (by omega)
        omega
      · rw [if_neg (by omega)]
        exact ⟨n, rfl, fun _ h0 h3 => ⟨h0, h3, fun h => absurd h c2⟩⟩
    · rw [if_neg (by omega), List.drop_eq_nil_of_le (by omega)]
      exact ⟨n, rfl, fun _ h0 h3 => ⟨h0, h3, fun _ => by simp [wL]⟩⟩
theorem parts_run : ∀ (d j : Nat) {v : ApiValue}, d < j → d ≤ 100 → TV v → ∃ p, law01_parts_r j v (d : Int) = some p ∧ (KS v → 0 ≤ p ∧ p ≤ 100000 * ((d : Int) + 1) ∧ (p < 100000 → (wV v : Int) = p))
  | d, 0, v, h, _, _ => by omega
  | 0, j + 1, v, h, _, hv => by
    rw [law01_parts_r, law01_parts_s, if_pos (.inl (.inl (.inl (by decide))))]
    exact ⟨_, rfl, fun _ => ⟨by omega, by omega, fun h => by omega⟩⟩
  | d + 1, j + 1, v, h, hd, hv => by
    rw [law01_parts_r, law01_parts_s]
    by_cases c : ((((d + 1 : Nat) : Int) < 1 ∨ (3000 : Int) < v.List_.length) ∨ (3000 : Int) < v.Keys.length) ∨ (4000 : Int) < v.Text.length
    · rw [if_pos c]
      exact ⟨_, rfl, fun _ => ⟨by omega, by omega, fun h => by omega⟩⟩
    · have hFU := FU_M
      have hK := hv.keys
      have hL := hv.list
      rw [if_neg c, jn_eq', div100, show (0 : Int) = ((0 : Nat) : Int) from rfl]
      have e0 : i64 (1 + i64 ((v.Text.length / 100 : Nat) : Int)) = 1 + ((v.Text.length / 100 : Nat) : Int) := by
        rw [i64_id (p := ((v.Text.length / 100 : Nat) : Int)) (by omega) (by omega), i64_id (by omega) (by omega)]
      rw [e0]
      obtain ⟨m, e1, e2⟩ := pK_run hv (kj := fun (x2 : Int) => jn (fun (x7 : Int) => some x7) (fun (kj6 : Int → Option Int) => law01_parts_s_l2 v (law01_parts_r j) ((d + 1 : Nat) : Int) kj6 FU x2 ((0 : Nat) : Int))) FU 0 (1 + ((v.Text.length / 100 : Nat) : Int)) (by omega) (by omega)
      rw [e1]
      simp only [jn_eq']
      have hf : ∀ x, x ∈ v.List_ → ∃ p, law01_parts_r j x (i64 (((d + 1 : Nat) : Int) - 1)) = some p ∧ (KS x → 0 ≤ p ∧ p ≤ 100000 * ((d : Int) + 1) ∧ (p < 100000 → (wV x : Int) = p)) := fun x hx => by
        rw [i64_id (by omega) (by omega), show ((d + 1 : Nat) : Int) - 1 = (d : Int) by omega]
        exact parts_run d j (by omega) (by omega) (hv.sub x hx)
      obtain ⟨m2, f1, f2⟩ := pL_run hv hf (by omega) (kj := fun x7 => some x7) FU 0 m (by omega) (by omega)
      rw [f1]
      refine ⟨m2, rfl, fun hk => ?_⟩
      obtain ⟨g1, g2⟩ := e2 hk.key (by omega) (by omega)
      obtain ⟨g3, g4, g5⟩ := f2 hk (by omega) (by omega)
      refine ⟨g3, by omega, fun hm => ?_⟩
      have g6 := g5 hm
      rw [List.drop_zero] at g1 g6
      rw [wV_eq]
      omega
/-- Whether it is too much. -/
theorem long_eq {v : ApiValue} (hv : TV v) : ∃ b, law01_Long v = some b ∧ (KS v → b = false → wV v ≤ 4000) := by
  obtain ⟨p, h1, h2⟩ := parts_run 20 (FU + dpApiValue v) (v := v) (by have := FU_M; omega) (by omega) hv
  unfold law01_Long law01_parts
  rw [show (20 : Int) = ((20 : Nat) : Int) from rfl, h1, Option.bind_some]
  refine ⟨_, rfl, fun hk hb => ?_⟩
  have hp : ¬ 4000 < p := of_decide_eq_false hb
  have := (h2 hk).2.2 (by omega)
  omega
theorem keyB_len {k : List UInt8} (h : keyB k = true) : k.length ≤ 24 := by
  unfold keyB at h
  simp only [Bool.and_eq_true, decide_eq_true_eq] at h
  exact h.1.2
theorem kOK_key : ∀ {p : List (List UInt8)} {pr : Option (List UInt8)}, kOK pr p = true → ∀ k ∈ p, keyB k = true
  | [], _, _, k, hk => by simp at hk
  | x :: r, pr, h, k, hk => by
    rw [kOK_cons, Bool.and_eq_true, Bool.and_eq_true] at h
    rcases List.mem_cons.1 hk with rfl | hk
    · exact h.1
    · exact kOK_key h.2.2 k hk
theorem shB_ks : ∀ (d : Nat) {v : ApiValue}, shB d v = true → KS v
  | 0, v, h => by simp [shB] at h
  | d + 1, v, h => by
    rw [shB, Bool.and_eq_true, Bool.and_eq_true, Bool.and_eq_true, List.all_eq_true] at h
    exact .mk (fun k hk => keyB_len (kOK_key h.2.2.1 k hk)) (fun x hx => shB_ks d (h.2.2.2 x hx))
end Go.Proofs

set_option linter.unusedVariables false
set_option linter.unusedSimpArgs false
namespace Go.Proofs
open Go.Fw
/-! A value's text. -/
theorem app_ok2 {α : Type} {cap : Nat} (a b : List α) (h : a.length + b.length ≤ cap) : app cap a b = some (a ++ b) := by
  unfold app
  rw [if_pos h]
theorem decF_len : ∀ (f u k : Nat), u < 10 ^ k → 1 ≤ k → (decF f u).length ≤ k
  | 0, u, k, _, _ => by rw [decF]; simp
  | f + 1, u, k, h, hk => by
    rw [decF]
    by_cases c : u < 10
    · rw [if_pos c]; simpa using hk
    · rw [if_neg c]
      obtain ⟨k, rfl⟩ : ∃ m, k = m + 2 := ⟨k - 2, by
        rcases k with _ | _ | k
        · omega
        · simp at h; omega
        · omega⟩
      have := decF_len f (u / 10) (k + 1) (by rw [Nat.pow_succ] at h; omega) (by omega)
      simp only [List.length_append, List.length_cons, List.length_nil]; omega
theorem itoaF_len {n : Int} (h : -9223372036854775808 ≤ n ∧ n ≤ 9223372036854775807) : (itoaF n).length ≤ 21 := by
  unfold itoaF
  split
  · have := decF_len 30 n.natAbs 20 (Nat.lt_of_le_of_lt (show n.natAbs ≤ 9223372036854775808 by omega) (by decide)) (by decide)
    simp only [List.length_cons]; omega
  · have := decF_len 30 n.toNat 20 (Nat.lt_of_le_of_lt (show n.toNat ≤ 9223372036854775808 by omega) (by decide)) (by decide)
    omega
theorem ofI64_nat {p : Int} (h : 0 ≤ p) (h2 : p < 18446744073709551616) : (ofI64 p).toNat = p.toNat := by
  unfold ofI64
  rw [UInt64.toNat_ofNat', Nat.mod_eq_of_lt (by omega)]
  omega
theorem ofI64_neg {p : Int} (h : p < 0) (h2 : -18446744073709551616 ≤ p) : ((ofI64 p).toNat : Int) = p + 18446744073709551616 := by
  unfold ofI64
  rw [UInt64.toNat_ofNat', Nat.mod_eq_of_lt (by omega)]
  omega
theorem appendUint_eq (a : List UInt8) (u : UInt64) (ha : a.length ≤ 1000000000) : strconv_AppendUint a u 10 = some (a ++ decF 30 u.toNat) := by
  have hu : u.toNat < 18446744073709551616 := u.toNat_lt
  have hl := decF_len 30 u.toNat 20 (Nat.lt_trans hu (by decide)) (by decide)
  unfold strconv_AppendUint
  rw [if_pos rfl]
  by_cases c : u.toNat < 100
  · have e : i64 (u.toNat : Int) = (u.toNat : Int) := i64_id (by omega) (by omega)
    rw [if_pos (by omega), e, if_pos (by omega), Int.toNat_natCast, app_ok2 _ _ (by omega)]; rfl
  · rw [if_neg (by omega), if_pos (by omega), if_pos (by omega), Int.toNat_natCast, if_pos ⟨rfl, by omega⟩, if_pos (by omega), List.take_left', app_ok2 _ _ (by omega)]
    · rfl
    · rfl
theorem appendInt_eq (a : List UInt8) {n : Int} (h : -9223372036854775808 ≤ n ∧ n ≤ 9223372036854775807) (ha : a.length ≤ 100000000) : strconv_AppendInt a n 10 = some (a ++ itoaF n) := by
  unfold strconv_AppendInt itoaF
  by_cases c : n < 0
  · have e : (ofI64 (0 - ((ofI64 n).toNat : Int))).toNat = n.natAbs := by
      rw [ofI64_neg c (by omega)]
      have := ofI64_neg (p := 0 - (n + 18446744073709551616)) (by omega) (by omega)
      omega
    rw [if_pos c, if_pos c, app_ok2 _ _ (by simp; omega), Option.bind_some, appendUint_eq _ _ (by simp; omega), e, Option.bind_some, List.append_assoc]; rfl
  · rw [if_neg c, if_neg c, appendUint_eq _ _ (by omega), ofI64_nat (by omega) (by omega), Option.bind_some]
theorem appendUint_nl_eq (u : UInt64) : strconv_AppendUint_nl u 10 = some (decF 30 u.toNat) := by
  have hu : u.toNat < 18446744073709551616 := u.toNat_lt
  have hl := decF_len 30 u.toNat 20 (Nat.lt_trans hu (by decide)) (by decide)
  unfold strconv_AppendUint_nl
  rw [if_pos rfl]
  by_cases c : u.toNat < 100
  · have e : i64 (u.toNat : Int) = (u.toNat : Int) := i64_id (by omega) (by omega)
    rw [if_pos (by omega), e, if_pos (by omega), Int.toNat_natCast, app_ok2 _ _ (by simp; omega)]; rfl
  · rw [if_neg (by omega), if_pos (by omega), if_pos (by omega), Int.toNat_natCast, if_pos ⟨rfl, by omega⟩, if_pos (by omega), List.take_left', app_ok2 _ _ (by simp; omega)]
    · rfl
    · rfl
theorem appendInt_nl_eq {n : Int} (h : -9223372036854775808 ≤ n ∧ n ≤ 9223372036854775807) : strconv_AppendInt_nl_p n 10 = some (itoaF n) := by
  unfold strconv_AppendInt_nl_p strconv_AppendInt_nl itoaF
  by_cases c : n < 0
  · have e : (ofI64 (0 - ((ofI64 n).toNat : Int))).toNat = n.natAbs := by
      rw [ofI64_neg c (by omega)]
      have := ofI64_neg (p := 0 - (n + 18446744073709551616)) (by omega) (by omega)
      omega
    rw [if_pos c, if_pos c, app_ok2 _ _ (by simp), Option.bind_some, appendUint_eq _ _ (by simp), e]; rfl
  · rw [if_neg c, if_neg c, appendUint_nl_eq, ofI64_nat (by omega) (by omega)]; rfl
def esc (c : UInt8) : List UInt8 := if c.toNat = 34 ∨ c.toNat = 92 then [92, c] else [c]
def qt (s : List UInt8) : List UInt8 := 34 :: (s.flatMap esc ++ [34])
theorem esc_q {c : UInt8} (h : c.toNat = 34 ∨ c.toNat = 92) : esc c = [92, c] := by unfold esc; rw [if_pos h]
theorem esc_n {c : UInt8} (h : ¬ (c.toNat = 34 ∨ c.toNat = 92)) : esc c = [c] := by unfold esc; rw [if_neg h]
theorem esc_len (c : UInt8) : (esc c).length ≤ 2 := by unfold esc; split <;> simp
theorem esc_lens : ∀ s : List UInt8, (s.flatMap esc).length ≤ 2 * s.length
  | [] => by simp
  | c :: s => by
    rw [List.flatMap_cons, List.length_append, List.length_cons]
    have := esc_len c
    have := esc_lens s
    omega
theorem qt_len (s : List UInt8) : (qt s).length ≤ 2 * s.length + 2 := by
  unfold qt
  have := esc_lens s
  simp only [List.length_cons, List.length_append, List.length_nil]; omega
theorem quoted_run {s : List UInt8} (hl : s.length ≤ M63) {kj : List UInt8 → Option (List UInt8)} : ∀ (J k : Nat) (x : List UInt8), k ≤ s.length → s.length - k < J → x.length + 2 * (s.length - k) ≤ 1000000000000 → value_quoted_l1 s kj J x (k : Int) = kj (x ++ (s.drop k).flatMap esc)
  | 0, k, x, h1, h2, _ => by omega
  | J + 1, k, x, h1, h2, h3 => by
    rw [value_quoted_l1]
    by_cases c : k < s.length
    · rw [if_pos (by omega), jn_eq', geti_nat, List.getElem?_eq_getElem c, Option.bind_some, List.drop_eq_getElem_cons c, List.flatMap_cons, Option.bind_some]
      have step : ∀ y : List UInt8, y.length + 1 + 2 * (s.length - (k + 1)) ≤ 1000000000000 → ((some s[k]).bind fun x12 => (app 140737488355328 y ([x12] : List UInt8)).bind fun x13 => value_quoted_l1 s kj J x13 (i64 ((k : Int) + 1))) = kj (y ++ (s[k] :: (s.drop (k + 1)).flatMap esc)) := fun y hy => by
        rw [Option.bind_some, app_ok2 _ _ (by simp; omega), Option.bind_some, nxt c hl, quoted_run hl J (k + 1) _ (by omega) (by omega) (by simp; omega), List.append_assoc]; rfl
      by_cases c1 : s[k].toNat = 34
      · rw [if_pos (by omega), Option.bind_some, if_pos rfl, app_ok2 _ _ (by simp; omega), Option.bind_some, esc_q (.inl c1)]
        refine (step _ (by simp; omega)).trans ?_
        rw [List.append_assoc]; rfl
      · rw [if_neg (by omega), Option.bind_some]
        by_cases c2 : s[k].toNat = 92
        · rw [decide_eq_true (show ((s[k].toNat : Nat) : Int) = 92 by omega), if_pos rfl, app_ok2 _ _ (by simp; omega), Option.bind_some, esc_q (.inr c2)]
          refine (step _ (by simp; omega)).trans ?_
          rw [List.append_assoc]; rfl
        · rw [decide_eq_false (show ¬ ((s[k].toNat : Nat) : Int) = 92 by omega), if_neg (by decide), esc_n (by omega)]
          exact step _ (by omega)
    · rw [if_neg (by omega), List.drop_eq_nil_of_le (by omega)]; simp
theorem quoted_eq (b s : List UInt8) (h : b.length + 2 * s.length ≤ 100000000000) : value_quoted b s = some (b ++ qt s) := by
  unfold value_quoted
  have := FU_M
  have hM : M63 = 9223372036854775807 := rfl
  rw [app_ok2 _ _ (by simp; omega), Option.bind_some, jn_eq', show (0 : Int) = ((0 : Nat) : Int) from rfl, quoted_run (by omega) FU 0 _ (by omega) (by omega) (by simp; omega)]
  have := esc_lens s
  rw [List.drop_zero, app_ok2 _ _ (by simp only [List.length_append, List.length_cons, List.length_nil]; omega), Option.bind_some]
  unfold qt
  simp
theorem quoted_nl_run {s : List UInt8} (hl : s.length ≤ M63) {kj : List UInt8 → Option (List UInt8)} : ∀ (J k : Nat) (x : List UInt8), k ≤ s.length → s.length - k < J → x.length + 2 * (s.length - k) ≤ 1000000000000 → value_quoted_nl_l1 s kj J x (k : Int) = kj (x ++ (s.drop k).flatMap esc)
  | 0, k, x, h1, h2, _ => by omega
  | J + 1, k, x, h1, h2, h3 => by
    rw [value_quoted_nl_l1]
    by_cases c : k < s.length
    · rw [if_pos (by omega), jn_eq', geti_nat, List.getElem?_eq_getElem c, Option.bind_some, List.drop_eq_getElem_cons c, List.flatMap_cons, Option.bind_some]
      have step : ∀ y : List UInt8, y.length + 1 + 2 * (s.length - (k + 1)) ≤ 1000000000000 → ((some s[k]).bind fun x12 => (app 140737488355328 y ([x12] : List UInt8)).bind fun x13 => value_quoted_nl_l1 s kj J x13 (i64 ((k : Int) + 1))) = kj (y ++ (s[k] :: (s.drop (k + 1)).flatMap esc)) := fun y hy => by
        rw [Option.bind_some, app_ok2 _ _ (by simp; omega), Option.bind_some, nxt c hl, quoted_nl_run hl J (k + 1) _ (by omega) (by omega) (by simp; omega), List.append_assoc]; rfl
      by_cases c1 : s[k].toNat = 34
      · rw [if_pos (by omega), Option.bind_some, if_pos rfl, app_ok2 _ _ (by simp; omega), Option.bind_some, esc_q (.inl c1)]
        refine (step _ (by simp; omega)).trans ?_
        rw [List.append_assoc]; rfl
      · rw [if_neg (by omega), Option.bind_some]
        by_cases c2 : s[k].toNat = 92
        · rw [decide_eq_true (show ((s[k].toNat : Nat) : Int) = 92 by omega), if_pos rfl, app_ok2 _ _ (by simp; omega), Option.bind_some, esc_q (.inr c2)]
          refine (step _ (by simp; omega)).trans ?_
          rw [List.append_assoc]; rfl
        · rw [decide_eq_false (show ¬ ((s[k].toNat : Nat) : Int) = 92 by omega), if_neg (by decide), esc_n (by omega)]
          exact step _ (by omega)
    · rw [if_neg (by omega), List.drop_eq_nil_of_le (by omega)]; simp
theorem quoted_nl_eq (s : List UInt8) (h : 2 * s.length ≤ 100000000000) : value_quoted_nl s = some (qt s) := by
  unfold value_quoted_nl
  have := FU_M
  have hM : M63 = 9223372036854775807 := rfl
  rw [app_ok2 _ _ (by simp), Option.bind_some, jn_eq', show (0 : Int) = ((0 : Nat) : Int) from rfl, quoted_nl_run (by omega) FU 0 _ (by omega) (by omega) (by simp; omega)]
  have := esc_lens s
  rw [List.drop_zero, app_ok2 _ _ (by simp only [List.length_append, List.length_cons, List.length_nil]; omega), Option.bind_some]
  unfold qt
  simp
end Go.Proofs

set_option linter.unusedVariables false
set_option linter.unusedSimpArgs false
namespace Go.Proofs
open Go.Fw
mutual
def tx : ApiValue → List UInt8
  | ⟨k, n, t, l, p⟩ => if k = 1 then [102, 97, 108, 115, 101] else if k = 2 then [116, 114, 117, 101] else if k = 3 then itoaF n else if k = 4 then qt t
    else if k = 5 then 91 :: (txL false true l p ++ [93]) else if k = 6 then 123 :: (txL true true l p ++ [125]) else [110, 117, 108, 108]
def txL : Bool → Bool → List ApiValue → List (List UInt8) → List UInt8
  | _, _, [], _ => []
  | o, f, x :: l, p => (if f = true then [] else [44]) ++ ((if o = true then qt (p.headD []) ++ [58] else []) ++ (tx x ++ txL o false l p.tail))
end
theorem tx_eq (v : ApiValue) : tx v = if v.Kind = 1 then [102, 97, 108, 115, 101] else if v.Kind = 2 then [116, 114, 117, 101] else if v.Kind = 3 then itoaF v.Num else if v.Kind = 4 then qt v.Text
    else if v.Kind = 5 then 91 :: (txL false true v.List_ v.Keys ++ [93]) else if v.Kind = 6 then 123 :: (txL true true v.List_ v.Keys ++ [125]) else [110, 117, 108, 108] := by cases v; rw [tx]
theorem wV_pos (v : ApiValue) : 1 ≤ wV v := by rw [wV_eq]; omega
theorem txL_len : ∀ (o f : Bool) (l : List ApiValue) (p : List (List UInt8)), (o = true → p.length = l.length) → (∀ k ∈ p, k.length ≤ 24) → (∀ x, x ∈ l → (tx x).length + 60 ≤ 500 * wV x) → (txL o f l p).length ≤ 500 * wL l
  | _, _, [], _, _, _, _ => by rw [txL]; simp
  | o, f, x :: l, p, hp, hk, hx => by
    rw [txL, wL]
    have h1 := hx x (by simp)
    have hk2 : ∀ k ∈ p.tail, k.length ≤ 24 := fun k h => hk k (List.mem_of_mem_tail h)
    have h2 := txL_len o false l p.tail (fun h => by rw [List.length_tail, hp h, List.length_cons]; omega) hk2 (fun y hy => hx y (by simp [hy]))
    have h3 : (if f = true then ([] : List UInt8) else [44]).length ≤ 1 := by split <;> simp
    have h4 : (if o = true then qt (p.headD []) ++ [58] else ([] : List UInt8)).length ≤ 51 := by
      split
      · have := qt_len (p.headD [])
        have h5 : (p.headD []).length ≤ 24 := by
          cases p with
          | nil => simp
          | cons u p => exact hk u (by simp)
        simp only [List.length_append, List.length_cons, List.length_nil]; omega
      · simp
    simp only [List.length_append]
    omega
theorem tx_len_n : ∀ (n : Nat) {v : ApiValue}, dpApiValue v ≤ n → TV v → WF v → KS v → (tx v).length + 60 ≤ 500 * wV v
  | 0, v, h, _, _, _ => by rw [dpApiValue_eq] at h; omega
  | n + 1, v, h, hv, hw, hk => by
    have hx : ∀ x, x ∈ v.List_ → (tx x).length + 60 ≤ 500 * wV x := fun x hx => tx_len_n n (by have := dp_sub hx; omega) (hv.sub x hx) (hw.sub x hx) (hk.sub x hx)
    rw [tx_eq]
    have h1 := wV_eq v
    split
    · simp; omega
    split
    · simp; omega
    split
    · have := itoaF_len hv.num; omega
    split
    · have := qt_len v.Text; omega
    split
    · have := txL_len false true v.List_ v.Keys (by simp) hk.key hx
      simp only [List.length_cons, List.length_append, List.length_nil]; omega
    split
    · rename_i c
      have := txL_len true true v.List_ v.Keys (fun _ => hw.obj c) hk.key hx
      simp only [List.length_cons, List.length_append, List.length_nil]; omega
    · simp; omega
theorem tx_len {v : ApiValue} (hv : TV v) (hw : WF v) (hk : KS v) : (tx v).length + 60 ≤ 500 * wV v := tx_len_n _ (Nat.le_refl _) hv hw hk
theorem wL_drop (l : List ApiValue) {k : Nat} (c : k < l.length) : wL (l.drop k) = wV l[k] + wL (l.drop (k + 1)) := by
  rw [List.drop_eq_getElem_cons c, wL]
/-- One round, and all rounds. -/
theorem textL_run {v : ApiValue} (hv : TV v) (hw : WF v) (hk : KS v) {f : List UInt8 → ApiValue → Option (List UInt8)} (hf : ∀ x, x ∈ v.List_ → ∀ b : List UInt8, b.length + 700 * wV x ≤ 90000640 → f b x = some (b ++ tx x))
    {kj : List UInt8 → Option (List UInt8)} : ∀ (J k : Nat) (b : List UInt8), k ≤ v.List_.length → v.List_.length - k < J → b.length + 700 * wL (v.List_.drop k) ≤ 90000000 → value_text_s_l1 v f kj J b (k : Int) = kj (b ++ txL (decide (v.Kind = 6)) (decide (k = 0)) (v.List_.drop k) (v.Keys.drop k))
  | 0, k, b, h1, h2, _ => by omega
  | J + 1, k, b, h1, h2, h3 => by
    rw [value_text_s_l1]
    by_cases c : k < v.List_.length
    · have hm := List.getElem_mem c
      have hl := tx_len (hv.sub _ hm) (hw.sub _ hm) (hk.sub _ hm)
      have hwp := wV_pos v.List_[k]
      rw [wL_drop _ c] at h3
      rw [if_pos (by omega), geti_nat, List.getElem?_eq_getElem c, Option.bind_some, jn_eq', List.drop_eq_getElem_cons c, txL]
      have step : ∀ y : List UInt8, y.length ≤ b.length + 1 → (if v.Kind = 6 then (geti v.Keys (k : Int)).bind fun x19 => (value_quoted y x19).bind fun x20 => (app 140737488355328 x20 ([(58 : UInt8)] : List UInt8)).bind fun x21 => (f x21 v.List_[k]).bind fun x22 => value_text_s_l1 v f kj J x22 (i64 ((k : Int) + 1)) else (f y v.List_[k]).bind fun x23 => value_text_s_l1 v f kj J x23 (i64 ((k : Int) + 1)))
          = kj (y ++ ((if (decide (v.Kind = 6)) = true then qt ((v.Keys.drop k).headD []) ++ [58] else []) ++ (tx v.List_[k] ++ txL (decide (v.Kind = 6)) false (v.List_.drop (k + 1)) (v.Keys.drop k).tail))) := by
        intro y hy
        have hd0 : decide (k + 1 = 0) = false := decide_eq_false (by omega)
        by_cases k6 : v.Kind = 6
        · have ck : k < v.Keys.length := by rw [hw.obj k6]; exact c
          have hq := hk.key _ (List.getElem_mem ck)
          have hql := qt_len v.Keys[k]
          have hh : (v.Keys.drop k).headD [] = v.Keys[k] := by rw [List.drop_eq_getElem_cons ck]; rfl
          rw [if_pos k6, geti_nat, List.getElem?_eq_getElem ck, Option.bind_some, quoted_eq _ _ (by omega), Option.bind_some, app_ok2 _ _ (by simp only [List.length_append, List.length_cons, List.length_nil]; omega), Option.bind_some, hf _ hm _ (by simp only [List.length_append, List.length_cons, List.length_nil]; omega), Option.bind_some, nxt c hv.list,
            textL_run hv hw hk hf J (k + 1) _ (by omega) (by omega) (by simp only [List.length_append, List.length_cons, List.length_nil]; omega), decide_eq_true k6, hd0, if_pos rfl, hh, List.tail_drop]
          simp only [List.append_assoc]
        · rw [if_neg k6, hf _ hm _ (by omega), Option.bind_some, nxt c hv.list, textL_run hv hw hk hf J (k + 1) _ (by omega) (by omega) (by simp only [List.length_append]; omega), decide_eq_false k6, hd0, if_neg (by decide), List.tail_drop]
          simp only [List.append_assoc, List.nil_append]
      by_cases k0 : k = 0
      · rw [if_neg (by omega), decide_eq_true k0, if_pos rfl, List.nil_append]
        exact step b (by omega)
      · rw [if_pos (by omega), app_ok2 _ _ (by simp; omega), Option.bind_some, decide_eq_false k0, if_neg (by decide), ← List.append_assoc]
        exact step _ (by simp)
    · rw [if_neg (by omega), List.drop_eq_nil_of_le (by omega), txL, List.append_nil]
theorem text_run : ∀ (j : Nat) {v : ApiValue} (b : List UInt8), dpApiValue v ≤ j → TV v → WF v → KS v → b.length + 700 * wV v ≤ 90000640 → value_text_r j b v = some (b ++ tx v)
  | 0, v, b, h, _, _, _, _ => by rw [dpApiValue_eq] at h; omega
  | j + 1, v, b, h, hv, hw, hk, hb => by
    have hf : ∀ x, x ∈ v.List_ → ∀ b : List UInt8, b.length + 700 * wV x ≤ 90000640 → value_text_r j b x = some (b ++ tx x) := fun x hx b hb => text_run j b (by have := dp_sub hx; omega) (hv.sub x hx) (hw.sub x hx) (hk.sub x hx) hb
    have hwv := wV_eq v
    have hFU := FU_M
    have hL := hv.list
    rw [value_text_r, value_text_s, jn_eq', tx_eq]
    by_cases k1 : v.Kind = 1
    · rw [if_pos k1, if_pos k1, app_ok2 _ _ (by simp; omega)]; rfl
    rw [if_neg k1, if_neg k1]
    by_cases k2 : v.Kind = 2
    · rw [if_pos k2, if_pos k2, app_ok2 _ _ (by simp; omega)]; rfl
    rw [if_neg k2, if_neg k2]
    by_cases k3 : v.Kind = 3
    · rw [if_pos k3, if_pos k3, strconv_AppendInt_o, appendInt_eq _ hv.num (by omega)]; rfl
    rw [if_neg k3, if_neg k3]
    by_cases k4 : v.Kind = 4
    · rw [if_pos k4, if_pos k4, quoted_eq _ _ (by omega)]; rfl
    rw [if_neg k4, if_neg k4, jn_eq']
    have ht := tx_len hv hw hk
    rw [tx_eq, if_neg k1, if_neg k2, if_neg k3, if_neg k4] at ht
    by_cases k5 : v.Kind = 5
    · rw [if_pos k5, if_pos k5, decide_eq_true k5]
      rw [if_pos k5] at ht
      simp only [if_true, k5]
      rw [show geti ([([] : List UInt8), [], [], [], [], [91, 93], [123, 125]] : List (List UInt8)) 5 = some [91, 93] from rfl, Option.bind_some, show geti ([91, 93] : List UInt8) 0 = some 91 from rfl, Option.bind_some, app_ok2 _ _ (by simp; omega), Option.bind_some, jn_eq', show (0 : Int) = ((0 : Nat) : Int) from rfl,
        textL_run hv hw hk hf FU 0 _ (by omega) (by omega) (by simp only [List.length_append, List.length_cons, List.length_nil, List.drop_zero]; omega), show geti ([91, 93] : List UInt8) 1 = some 93 from rfl, Option.bind_some]
      simp only [List.drop_zero, k5, List.length_cons, List.length_append, List.length_nil] at ht ⊢
      simp only [show decide ((5 : Int) = 6) = false from rfl, decide_true]
      rw [app_ok2 _ _ (by simp only [List.length_append, List.length_cons, List.length_nil]; omega), Option.bind_some]
      simp
    rw [if_neg k5, if_neg k5]
    by_cases k6 : v.Kind = 6
    · rw [if_pos k6, decide_eq_true k6]
      rw [if_neg k5, if_pos k6] at ht
      simp only [if_true, k6]
      rw [show geti ([([] : List UInt8), [], [], [], [], [91, 93], [123, 125]] : List (List UInt8)) 6 = some [123, 125] from rfl, Option.bind_some, show geti ([123, 125] : List UInt8) 0 = some 123 from rfl, Option.bind_some, app_ok2 _ _ (by simp; omega), Option.bind_some, jn_eq', show (0 : Int) = ((0 : Nat) : Int) from rfl,
        textL_run hv hw hk hf FU 0 _ (by omega) (by omega) (by simp only [List.length_append, List.length_cons, List.length_nil, List.drop_zero]; omega), show geti ([123, 125] : List UInt8) 1 = some 125 from rfl, Option.bind_some]
      simp only [List.drop_zero, k6, List.length_cons, List.length_append, List.length_nil] at ht ⊢
      simp only [decide_true]
      rw [app_ok2 _ _ (by simp only [List.length_append, List.length_cons, List.length_nil]; omega), Option.bind_some]
      simp
    · rw [if_neg k6, decide_eq_false k6]
      simp only [Bool.false_eq_true, if_false]
      rw [app_ok2 _ _ (by simp; omega)]; rfl
theorem text_eq {v : ApiValue} (b : List UInt8) (hv : TV v) (hw : WF v) (hk : KS v) (hb : b.length + 700 * wV v ≤ 90000640) : value_text b v = some (b ++ tx v) := by
  unfold value_text
  exact text_run _ b (by omega) hv hw hk hb
end Go.Proofs

set_option linter.unusedVariables false
set_option linter.unusedSimpArgs false
namespace Go.Proofs
open Go.Fw
theorem textNL_run {v : ApiValue} (hv : TV v) (hw : WF v) (hk : KS v) (hf : ∀ x, x ∈ v.List_ → ∀ b : List UInt8, b.length + 700 * wV x ≤ 90000640 → value_text b x = some (b ++ tx x))
    {kj : List UInt8 → Option (List UInt8)} : ∀ (J k : Nat) (b : List UInt8), k ≤ v.List_.length → v.List_.length - k < J → b.length + 700 * wL (v.List_.drop k) ≤ 90000000 → value_text_nl_l1 v kj J b (k : Int) = kj (b ++ txL (decide (v.Kind = 6)) (decide (k = 0)) (v.List_.drop k) (v.Keys.drop k))
  | 0, k, b, h1, h2, _ => by omega
  | J + 1, k, b, h1, h2, h3 => by
    rw [value_text_nl_l1]
    by_cases c : k < v.List_.length
    · have hm := List.getElem_mem c
      have hl := tx_len (hv.sub _ hm) (hw.sub _ hm) (hk.sub _ hm)
      have hwp := wV_pos v.List_[k]
      rw [wL_drop _ c] at h3
      rw [if_pos (by omega), geti_nat, List.getElem?_eq_getElem c, Option.bind_some, jn_eq', List.drop_eq_getElem_cons c, txL]
      have step : ∀ y : List UInt8, y.length ≤ b.length + 1 → (if v.Kind = 6 then (geti v.Keys (k : Int)).bind fun x19 => (value_quoted y x19).bind fun x20 => (app 140737488355328 x20 ([(58 : UInt8)] : List UInt8)).bind fun x21 => (value_text x21 v.List_[k]).bind fun x22 => value_text_nl_l1 v kj J x22 (i64 ((k : Int) + 1)) else (value_text y v.List_[k]).bind fun x23 => value_text_nl_l1 v kj J x23 (i64 ((k : Int) + 1)))
          = kj (y ++ ((if (decide (v.Kind = 6)) = true then qt ((v.Keys.drop k).headD []) ++ [58] else []) ++ (tx v.List_[k] ++ txL (decide (v.Kind = 6)) false (v.List_.drop (k + 1)) (v.Keys.drop k).tail))) := by
        intro y hy
        have hd0 : decide (k + 1 = 0) = false := decide_eq_false (by omega)
        by_cases k6 : v.Kind = 6
        · have ck : k < v.Keys.length := by rw [hw.obj k6]; exact c
          have hq := hk.key _ (List.getElem_mem ck)
          have hql := qt_len v.Keys[k]
          have hh : (v.Keys.drop k).headD [] = v.Keys[k] := by rw [List.drop_eq_getElem_cons ck]; rfl
          rw [if_pos k6, geti_nat, List.getElem?_eq_getElem ck, Option.bind_some, quoted_eq _ _ (by omega), Option.bind_some, app_ok2 _ _ (by simp only [List.length_append, List.length_cons, List.length_nil]; omega), Option.bind_some, hf _ hm _ (by simp only [List.length_append, List.length_cons, List.length_nil]; omega), Option.bind_some, nxt c hv.list,
            textNL_run hv hw hk hf J (k + 1) _ (by omega) (by omega) (by simp only [List.length_append, List.length_cons, List.length_nil]; omega), decide_eq_true k6, hd0, if_pos rfl, hh, List.tail_drop]
          simp only [List.append_assoc]
        · rw [if_neg k6, hf _ hm _ (by omega), Option.bind_some, nxt c hv.list, textNL_run hv hw hk hf J (k + 1) _ (by omega) (by omega) (by simp only [List.length_append]; omega), decide_eq_false k6, hd0, if_neg (by decide), List.tail_drop]
          simp only [List.append_assoc, List.nil_append]
      by_cases k0 : k = 0
      · rw [if_neg (by omega), decide_eq_true k0, if_pos rfl, List.nil_append]
        exact step b (by omega)
      · rw [if_pos (by omega), app_ok2 _ _ (by simp; omega), Option.bind_some, decide_eq_false k0, if_neg (by decide), ← List.append_assoc]
        exact step _ (by simp)
    · rw [if_neg (by omega), List.drop_eq_nil_of_le (by omega), txL, List.append_nil]
theorem text_nl_eq {v : ApiValue} (hv : TV v) (hw : WF v) (hk : KS v) (hb : 700 * wV v ≤ 90000640) : value_text_nl v = some (tx v) := by
  have hf : ∀ x, x ∈ v.List_ → ∀ b : List UInt8, b.length + 700 * wV x ≤ 90000640 → value_text b x = some (b ++ tx x) := fun x hx b hb => text_eq b (hv.sub x hx) (hw.sub x hx) (hk.sub x hx) hb
  have hwv := wV_eq v
  have hFU := FU_M
  have hL := hv.list
  rw [value_text_nl, jn_eq', tx_eq]
  by_cases k1 : v.Kind = 1
  · rw [if_pos k1, if_pos k1, app_ok2 _ _ (by simp)]; rfl
  rw [if_neg k1, if_neg k1]
  by_cases k2 : v.Kind = 2
  · rw [if_pos k2, if_pos k2, app_ok2 _ _ (by simp)]; rfl
  rw [if_neg k2, if_neg k2]
  by_cases k3 : v.Kind = 3
  · rw [if_pos k3, if_pos k3, appendInt_nl_eq hv.num]; rfl
  rw [if_neg k3, if_neg k3]
  by_cases k4 : v.Kind = 4
  · rw [if_pos k4, if_pos k4, quoted_nl_eq _ (by omega)]; rfl
  rw [if_neg k4, if_neg k4, jn_eq']
  have ht := tx_len hv hw hk
  rw [tx_eq, if_neg k1, if_neg k2, if_neg k3, if_neg k4] at ht
  by_cases k5 : v.Kind = 5
  · rw [if_pos k5, if_pos k5, decide_eq_true k5]
    rw [if_pos k5] at ht
    simp only [if_true, k5]
    rw [show geti ([([] : List UInt8), [], [], [], [], [91, 93], [123, 125]] : List (List UInt8)) 5 = some [91, 93] from rfl, Option.bind_some, show geti ([91, 93] : List UInt8) 0 = some 91 from rfl, Option.bind_some, app_ok2 _ _ (by simp), Option.bind_some, jn_eq', show (0 : Int) = ((0 : Nat) : Int) from rfl,
      textNL_run hv hw hk hf FU 0 _ (by omega) (by omega) (by simp only [List.length_append, List.length_cons, List.length_nil, List.drop_zero]; omega), show geti ([91, 93] : List UInt8) 1 = some 93 from rfl, Option.bind_some]
    simp only [List.drop_zero, k5, List.length_cons, List.length_append, List.length_nil] at ht ⊢
    simp only [show decide ((5 : Int) = 6) = false from rfl, decide_true]
    rw [app_ok2 _ _ (by simp only [List.length_append, List.length_cons, List.length_nil]; omega), Option.bind_some]
    simp
  rw [if_neg k5, if_neg k5]
  by_cases k6 : v.Kind = 6
  · rw [if_pos k6, decide_eq_true k6]
    rw [if_neg k5, if_pos k6] at ht
    simp only [if_true, k6]
    rw [show geti ([([] : List UInt8), [], [], [], [], [91, 93], [123, 125]] : List (List UInt8)) 6 = some [123, 125] from rfl, Option.bind_some, show geti ([123, 125] : List UInt8) 0 = some 123 from rfl, Option.bind_some, app_ok2 _ _ (by simp), Option.bind_some, jn_eq', show (0 : Int) = ((0 : Nat) : Int) from rfl,
      textNL_run hv hw hk hf FU 0 _ (by omega) (by omega) (by simp only [List.length_append, List.length_cons, List.length_nil, List.drop_zero]; omega), show geti ([123, 125] : List UInt8) 1 = some 125 from rfl, Option.bind_some]
    simp only [List.drop_zero, k6, List.length_cons, List.length_append, List.length_nil] at ht ⊢
    simp only [decide_true]
    rw [app_ok2 _ _ (by simp only [List.length_append, List.length_cons, List.length_nil]; omega), Option.bind_some]
    simp
  · rw [if_neg k6, decide_eq_false k6]
    simp only [Bool.false_eq_true, if_false]
    rw [app_ok2 _ _ (by simp)]; rfl
/-- Whether a value may be. -/
def mayB (v : ApiValue) : Bool := shB 8 v && decide ((tx v).length ≤ 512)
theorem may_eq {v : ApiValue} (hv : TV v) (hb : KS v → wV v ≤ 4000) : value_May v = some (mayB v) := by
  unfold value_May mayB
  rw [shaped_eq hv, Option.bind_some]
  cases h : shB 8 v with
  | false => rw [if_neg (by decide)]; rfl
  | true =>
    rw [if_pos rfl, text_nl_eq hv (shB_wf 8 h) (shB_ks 8 h) (by have := hb (shB_ks 8 h); omega), Option.bind_some, Option.bind_some, Bool.true_and]
    exact congrArg some (decide_eq_decide.2 (by omega))
theorem mayB_wf {v : ApiValue} (h : mayB v = true) : WF v := by
  unfold mayB at h
  rw [Bool.and_eq_true] at h
  exact shB_wf 8 h.1
theorem ValueOrder_pure (a b c : ApiValue) (ha : TV a) (hb : TV b) (hc : TV c) : law01_ValueOrder a b c = some true := by
  unfold law01_ValueOrder
  obtain ⟨la, ea, ga⟩ := long_eq ha
  obtain ⟨lb, eb, gb⟩ := long_eq hb
  obtain ⟨lc, ec, gc⟩ := long_eq hc
  rw [ea, eb, ec, Option.bind_some]
  cases la with
  | true => simp only [if_true, Option.bind_some, awake_true]
  | false =>
  cases lb with
  | true => simp only [if_true, Bool.false_eq_true, if_false, Option.bind_some, awake_true]
  | false =>
  cases lc with
  | true => simp only [if_true, Bool.false_eq_true, if_false, Option.bind_some, awake_true]
  | false =>
  rw [may_eq ha (fun h => ga h rfl), may_eq hb (fun h => gb h rfl), may_eq hc (fun h => gc h rfl)]
  cases ma : mayB a with
  | false => simp only [if_true, Bool.false_eq_true, if_false, Option.bind_some, awake_true, Bool.not_false]
  | true =>
  cases mb : mayB b with
  | false => simp only [if_true, Bool.false_eq_true, if_false, Option.bind_some, awake_true, Bool.not_false, Bool.not_true]
  | true =>
  cases mc : mayB c with
  | false => simp only [if_true, Bool.false_eq_true, if_false, Option.bind_some, awake_true, Bool.not_false, Bool.not_true]
  | true =>
  have wa := mayB_wf ma
  have wb := mayB_wf mb
  have wc := mayB_wf mc
  simp only [Bool.false_eq_true, if_false, Option.bind_some, Bool.not_true, cmp_eq ha hb, cmp_eq hb hc, cmp_eq hb ha, cmp_eq ha hc, vsame_eq ha hb, awake_true]
  have r1 := cV_rng a b
  have r2 := cV_rng b c
  have r3 := cV_rng a c
  have hz : decide (cV a b = 0) = eqV a b := b_eq (by rw [decide_eq_true_iff, eqV_iff]; exact cV_zero wa wb)
  have ht := tri_cV wa wb wc
  have hneg : ¬ (cV a b ≠ i64 (0 - cV b a)) := by
    rw [cV_flip a b, i64_id (by omega) (by omega)]; omega
  rw [if_neg hneg, hz]
  simp only [Option.bind_some, beq_self_eq_true, Bool.not_true, Bool.false_eq_true, false_or]
  rw [if_neg (by omega)]
  by_cases c1 : 0 < cV a b ∨ 0 < cV b c
  · rw [if_pos c1]
    simp only [Option.bind_some, if_true]
    rw [if_pos (by omega)]
    simp
  · have t1 := ht (by omega) (by omega)
    have e3 : cV a c ≤ 0 := by
      by_cases q : cV a b < 0 ∨ cV b c < 0
      · have := t1.1 q; omega
      · have := t1.2 (by omega) (by omega); omega
    rw [if_neg c1]
    simp only [Option.bind_some, decide_eq_true e3, if_true]
    by_cases c2 : 0 ≤ cV a b ∨ 0 < cV b c
    · rw [if_pos c2]; simp
    · rw [if_neg c2]
      have := t1.1 (.inl (by omega))
      simp only [Option.bind_some, decide_eq_true this]
      simp
end Go.Proofs

set_option linter.unusedVariables false
set_option linter.unusedSimpArgs false
namespace Go.Proofs
open Go.Fw
/-! The document's: depth, plain texts, names. -/
def dpR : Nat → ApiValue → Nat
  | 0, _ => 20
  | m + 1, v => (v.List_.map (dpR m)).foldl max 0 + 1
theorem dpR_le : ∀ (m : Nat) (v : ApiValue), dpR m v ≤ 20 + m
  | 0, v => by rw [dpR]; omega
  | m + 1, v => by
    rw [dpR]
    have : ∀ (l : List ApiValue) (x : Nat), x ≤ 20 + m → (l.map (dpR m)).foldl max x ≤ 20 + m := by
      intro l
      induction l with
      | nil => intro x hx; simpa using hx
      | cons y l ih => intro x hx; rw [List.map_cons, List.foldl_cons]; exact ih _ (by have := dpR_le m y; omega)
    have := this v.List_ 0 (by omega)
    omega
theorem deepL_run {v : ApiValue} (hv : TV v) {f : ApiValue → Int → Option Int} {d : Int} {m : Nat} (hm : m ≤ 100) (hf : ∀ x, x ∈ v.List_ → f x (i64 (d - 1)) = some ((dpR m x : Nat) : Int)) {kj : Int → Option Int} :
    ∀ (J k y : Nat), k ≤ v.List_.length → v.List_.length - k < J → ref01_Deep_s_l1 v f d kj J (y : Int) (k : Int) = kj ((((v.List_.drop k).map (dpR m)).foldl max y : Nat) : Int)
  | 0, k, y, h1, h2 => by omega
  | J + 1, k, y, h1, h2 => by
    rw [ref01_Deep_s_l1]
    by_cases c : k < v.List_.length
    · rw [if_pos (by omega), geti_nat, List.getElem?_eq_getElem c, Option.bind_some, hf _ (List.getElem_mem c), Option.bind_some, nxt c hv.list, List.drop_eq_getElem_cons c, List.map_cons, List.foldl_cons,
        show max (y : Int) ((dpR m v.List_[k] : Nat) : Int) = ((max y (dpR m v.List_[k]) : Nat) : Int) by omega]
      exact deepL_run hv hm hf J (k + 1) _ (by omega) (by omega)
    · rw [if_neg (by omega), List.drop_eq_nil_of_le (by omega)]; rfl
theorem deep_run : ∀ (m j : Nat) {v : ApiValue}, m < j → m ≤ 100 → TV v → ref01_Deep_r j v (m : Int) = some ((dpR m v : Nat) : Int)
  | m, 0, v, h, _, _ => by omega
  | 0, j + 1, v, h, _, hv => by rw [ref01_Deep_r, ref01_Deep_s, if_pos (by decide)]; rfl
  | m + 1, j + 1, v, h, hm, hv => by
    have hFU := FU_M
    have hL := hv.list
    rw [ref01_Deep_r, ref01_Deep_s, if_neg (by omega), jn_eq', show (0 : Int) = ((0 : Nat) : Int) from rfl,
      deepL_run hv (m := m) (by omega) (fun x hx => by
        rw [i64_id (by omega) (by omega), show ((m + 1 : Nat) : Int) - 1 = (m : Int) by omega]
        exact deep_run m j (by omega) (by omega) (hv.sub x hx)) FU 0 0 (by omega) (by omega), List.drop_zero]
    have h20 := dpR_le (m + 1) v
    rw [dpR] at h20 ⊢
    rw [i64_id (by omega) (by omega)]; rfl
theorem deep_eq {v : ApiValue} (hv : TV v) : ref01_Deep v 15 = some ((dpR 15 v : Nat) : Int) := by
  have := FU_M
  unfold ref01_Deep
  rw [show (15 : Int) = ((15 : Nat) : Int) from rfl]
  exact deep_run 15 _ (by omega) (by omega) hv
theorem rplain_run {s : List UInt8} (hl : s.length ≤ M63) {kj : Unit → Option Bool} (hk : kj () = some true) : ∀ (J k : Nat), k ≤ s.length → s.length - k < J → ref01_plain_l1 s kj J (k : Int) = some (plB (s.drop k))
  | 0, k, h1, h2 => by omega
  | J + 1, k, h1, h2 => by
    rw [ref01_plain_l1]
    by_cases c : k < s.length
    · rw [if_pos (by omega), geti_nat, List.getElem?_eq_getElem c, Option.bind_some, List.drop_eq_getElem_cons c]
      show _ = some (okB s[k] && plB (s.drop (k + 1)))
      unfold okB
      by_cases c1 : s[k].toNat < 32
      · rw [if_pos (by omega), Option.bind_some, if_pos rfl, decide_eq_false (show ¬ 32 ≤ s[k].toNat by omega)]; rfl
      · rw [if_neg (by omega), Option.bind_some, Option.bind_some]
        by_cases c2 : 126 < s[k].toNat
        · rw [decide_eq_true (show (126 : Int) < _ by omega), if_pos rfl, decide_eq_false (show ¬ s[k].toNat ≤ 126 by omega)]; simp
        · rw [decide_eq_false (show ¬ (126 : Int) < _ by omega), if_neg (by decide), nxt c hl, rplain_run hl hk J (k + 1) (by omega) (by omega), decide_eq_true (show 32 ≤ s[k].toNat by omega), decide_eq_true (show s[k].toNat ≤ 126 by omega)]; rfl
    · rw [if_neg (by omega), hk, List.drop_eq_nil_of_le (by omega)]; rfl
theorem rplain_eq (s : List UInt8) (hl : s.length ≤ M63) : ref01_plain s = some (plB s) := by
  unfold ref01_plain
  have := FU_M
  rw [jn_eq', show (0 : Int) = ((0 : Nat) : Int) from rfl, rplain_run hl rfl FU 0 (by omega) (by omega)]; rfl
/-- A byte of a name. -/
def kc (c : UInt8) : Bool := decide (33 ≤ c.toNat ∧ c.toNat ≤ 126 ∧ c.toNat ≠ 46 ∧ c.toNat ≠ 34)
theorem rKey_run {s : List UInt8} (hl : s.length ≤ M63) {kj : Unit → Option Bool} (hk : kj () = some true) : ∀ (J k : Nat), k ≤ s.length → s.length - k < J → ref01_Key_l1 s kj J (k : Int) = some ((s.drop k).all kc)
  | 0, k, h1, h2 => by omega
  | J + 1, k, h1, h2 => by
    rw [ref01_Key_l1]
    by_cases c : k < s.length
    · rw [if_pos (by omega), geti_nat, List.getElem?_eq_getElem c, Option.bind_some, List.drop_eq_getElem_cons c, List.all_cons]
      unfold kc
      simp only [Option.bind_some]
      by_cases c1 : 33 ≤ s[k].toNat ∧ s[k].toNat ≤ 126 ∧ s[k].toNat ≠ 46 ∧ s[k].toNat ≠ 34
      · rw [decide_eq_true c1, Bool.true_and, if_neg (by omega), Option.bind_some, decide_eq_false (show ¬ (126 : Int) < _ by omega), if_neg (by decide), Option.bind_some, decide_eq_false (show ¬ (s[k].toNat : Int) = 46 by omega), if_neg (by decide), Option.bind_some, decide_eq_false (show ¬ (s[k].toNat : Int) = 34 by omega), if_neg (by decide), nxt c hl]
        exact rKey_run hl hk J (k + 1) (by omega) (by omega)
      · rw [decide_eq_false c1, Bool.false_and]
        by_cases d1 : (s[k].toNat : Int) < 33
        · rw [if_pos d1]; rfl
        rw [if_neg d1, Option.bind_some]
        by_cases d2 : (126 : Int) < (s[k].toNat : Int)
        · rw [decide_eq_true d2]; rfl
        rw [decide_eq_false d2, if_neg (by decide), Option.bind_some]
        by_cases d3 : (s[k].toNat : Int) = 46
        · rw [decide_eq_true d3]; rfl
        rw [decide_eq_false d3, if_neg (by decide), Option.bind_some]
        have d4 : (s[k].toNat : Int) = 34 := by omega
        rw [decide_eq_true d4]; rfl
    · rw [if_neg (by omega), hk, List.drop_eq_nil_of_le (by omega)]; rfl
theorem any_cons (c : UInt8) (l q : List UInt8) : Lib.containsAny (c :: l) q = (q.contains c || Lib.containsAny l q) := by
  unfold Lib.containsAny
  rw [Lib.indexAny]
  have h := Lib.indexAny_ge q l
  cases q.contains c with
  | true => simp
  | false =>
    rw [if_neg (by decide), Bool.false_or]
    by_cases e : Lib.indexAny l q = -1
    · rw [if_pos (by simpa using e), e]
    · rw [if_neg (by simpa using e)]
      exact decide_eq_decide.2 (by omega)
theorem kc_one (c : UInt8) : kc c = (okB c && !([32, 46, 34] : List UInt8).contains c) := by
  apply b_eq
  unfold kc okB
  rw [Bool.and_eq_true, decide_eq_true_iff, Bool.and_eq_true, decide_eq_true_iff, decide_eq_true_iff, Bool.not_eq_true']
  have e : ([32, 46, 34] : List UInt8).contains c = false ↔ ¬ (c.toNat = 32 ∨ c.toNat = 46 ∨ c.toNat = 34) := by
    rw [← Bool.not_eq_true, List.contains_iff_mem]
    simp only [List.mem_cons, List.not_mem_nil, or_false, ← UInt8.toNat_inj]
    exact Iff.rfl
  rw [e]; omega
theorem kc_all : ∀ s : List UInt8, s.all kc = (plB s && !Lib.containsAny s [32, 46, 34])
  | [] => rfl
  | c :: s => by
    rw [List.all_cons, kc_all s, any_cons, kc_one]
    show _ = ((okB c && plB s) && _)
    cases okB c <;> cases plB s <;> cases ([32, 46, 34] : List UInt8).contains c <;> cases Lib.containsAny s [32, 46, 34] <;> rfl
theorem rKey_eq (s : List UInt8) (hl : s.length ≤ M63) : ref01_Key s = some (keyB s) := by
  unfold ref01_Key keyB
  have := FU_M
  by_cases c : 1 ≤ s.length ∧ s.length ≤ 24
  · rw [if_neg (by omega), jn_eq', show (0 : Int) = ((0 : Nat) : Int) from rfl, rKey_run hl rfl FU 0 (by omega) (by omega), List.drop_zero, kc_all, decide_eq_true c]; rfl
  · rw [if_pos (by omega), decide_eq_false c]; rfl
/-! Its fields. -/
theorem rfK_run {v : ApiValue} (hv : TV v) {kj : Unit → Option Bool} : ∀ (J k : Nat), k ≤ v.Keys.length → v.Keys.length - k < J → ref01_fields_s_l1 v kj J (k : Int) = if kOK (prv v.Keys k) (v.Keys.drop k) = true then kj () else some false
  | 0, k, h1, h2 => by omega
  | J + 1, k, h1, h2 => by
    rw [ref01_fields_s_l1]
    by_cases c : k < v.Keys.length
    · rw [if_pos (by omega), geti_nat, List.getElem?_eq_getElem c, Option.bind_some, rKey_eq _ (hv.key _ (List.getElem_mem c)), Option.bind_some, List.drop_eq_getElem_cons c, kOK_cons]
      cases hk : keyB v.Keys[k] with
      | false => rw [if_pos (by decide), Bool.false_and, if_neg (by decide)]
      | true =>
        rw [if_neg (by decide), Bool.true_and]
        have hp : prv v.Keys (k + 1) = some v.Keys[k] := by unfold prv; rw [if_neg (by omega), Nat.add_sub_cancel, List.getElem?_eq_getElem c]
        by_cases c0 : k = 0
        · have e : prv v.Keys k = none := by unfold prv; rw [if_pos c0]
          rw [if_neg (by omega), nxt c hv.keys, rfK_run hv J (k + 1) (by omega) (by omega), hp, e]
          simp
        · have hlt : k - 1 < v.Keys.length := by omega
          have e : prv v.Keys k = some v.Keys[k - 1] := by unfold prv; rw [if_neg c0, List.getElem?_eq_getElem hlt]
          have ei : i64 ((k : Int) - 1) = ((k - 1 : Nat) : Int) := by rw [i64_id (by omega) (by have := hv.keys; have hM : M63 = 9223372036854775807 := rfl; omega)]; omega
          rw [if_pos (by omega), ei, geti_nat, List.getElem?_eq_getElem hlt, Option.bind_some, Option.bind_some, less_nlt, e]
          simp only
          by_cases hn : nlt v.Keys[k - 1] v.Keys[k]
          · rw [if_neg (by simp [hn]), nxt c hv.keys, rfK_run hv J (k + 1) (by omega) (by omega), hp]; simp [hn]
          · rw [if_pos (by simp [hn])]; simp [hn]
    · rw [if_neg (by omega), List.drop_eq_nil_of_le (by omega), kOK_nil, if_pos rfl]
mutual
def fdB : ApiValue → Bool
  | ⟨k, n, t, l, p⟩ => hdB ⟨k, n, t, l, p⟩ && (plB t && (kOK none p && fdL l))
def fdL : List ApiValue → Bool
  | [] => true
  | x :: l => fdB x && fdL l
end
theorem fdB_eq (v : ApiValue) : fdB v = (hdB v && (plB v.Text && (kOK none v.Keys && fdL v.List_))) := by cases v; rw [fdB]
theorem fdL_all : ∀ l : List ApiValue, fdL l = l.all fdB
  | [] => by rw [fdL]; rfl
  | x :: l => by rw [fdL, List.all_cons, fdL_all l]
theorem rfL_run {v : ApiValue} (hv : TV v) {f : ApiValue → Option Bool} (hf : ∀ x, x ∈ v.List_ → f x = some (fdB x)) {kj : Unit → Option Bool} (hk : kj () = some true) :
    ∀ (J k : Nat), k ≤ v.List_.length → v.List_.length - k < J → ref01_fields_s_l2 v f kj J (k : Int) = some (fdL (v.List_.drop k))
  | 0, k, h1, h2 => by omega
  | J + 1, k, h1, h2 => by
    rw [ref01_fields_s_l2]
    by_cases c : k < v.List_.length
    · rw [if_pos (by omega), geti_nat, List.getElem?_eq_getElem c, Option.bind_some, hf _ (List.getElem_mem c), Option.bind_some, List.drop_eq_getElem_cons c, fdL]
      cases fdB v.List_[k] with
      | false => rw [if_pos (by decide)]; rfl
      | true =>
        rw [if_neg (by decide), nxt c hv.list, Bool.true_and]
        exact rfL_run hv hf hk J (k + 1) (by omega) (by omega)
    · rw [if_neg (by omega), hk, List.drop_eq_nil_of_le (by omega), fdL]
theorem fields_run : ∀ (j : Nat) {v : ApiValue}, dpApiValue v ≤ j → TV v → ref01_fields_r j v = some (fdB v)
  | 0, v, h, _ => by rw [dpApiValue_eq] at h; omega
  | j + 1, v, h, hv => by
    have hFU := FU_M
    have hL := hv.list
    have hK := hv.keys
    rw [ref01_fields_r, ref01_fields_s, fdB_eq]
    have z : ∀ {α : Type} (l : List α), 0 < (l.length : Int) ↔ l ≠ [] := by
      intro α l; cases l <;> simp
    by_cases c : hdB v = true
    · have hc := hdB_iff.1 c
      rw [c, Bool.true_and, if_neg (by
        rw [z, z]
        rintro ((((((h | h) | ⟨h, h2⟩) | ⟨h, h2⟩) | ⟨h, h2⟩) | ⟨h, h2⟩) | ⟨h, h2⟩)
        · omega
        · omega
        · exact h2 (hc.2.2.1.resolve_left h)
        · exact h2 (hc.2.2.2.1.resolve_left h)
        · exact h2 (hc.2.2.2.2.2.2.resolve_left (by omega))
        · exact h2 (hc.2.2.2.2.1.resolve_left h)
        · have := hc.2.2.2.2.2.1 h; omega), rplain_eq _ hv.text, Option.bind_some, Option.bind_some]
      cases plB v.Text with
      | false => rw [if_pos (by decide)]; rfl
      | true =>
        rw [if_neg (by decide), Bool.true_and, jn_eq', jn_eq', show (0 : Int) = ((0 : Nat) : Int) from rfl, rfK_run hv FU 0 (by omega) (by omega), List.drop_zero, show prv v.Keys 0 = none from rfl]
        cases kOK none v.Keys with
        | false => rw [if_neg (by decide)]; rfl
        | true =>
          rw [if_pos rfl, rfL_run hv (fun x hx => fields_run j (by have := dp_sub hx; omega) (hv.sub x hx)) rfl FU 0 (by omega) (by omega), List.drop_zero, Bool.true_and]
    · have hn : ¬ (0 ≤ v.Kind ∧ v.Kind ≤ 6 ∧ (v.Kind = 3 ∨ v.Num = 0) ∧ (v.Kind = 4 ∨ v.Text = []) ∧ (v.Kind = 6 ∨ v.Keys = []) ∧ (v.Kind = 6 → v.Keys.length = v.List_.length) ∧ (5 ≤ v.Kind ∨ v.List_ = [])) := fun h => c (hdB_iff.2 h)
      rw [eq_false_of_ne_true c, Bool.false_and, if_pos (by
        apply Classical.byContradiction; intro g
        rw [z, z] at g
        simp only [not_or, not_and, ne_eq, Classical.not_not, Int.not_lt] at g
        refine hn ⟨g.1.1.1.1.1.1, g.1.1.1.1.1.2, ?_, ?_, ?_, ?_, ?_⟩
        · exact Classical.or_iff_not_imp_left.2 g.1.1.1.1.2
        · exact Classical.or_iff_not_imp_left.2 g.1.1.1.2
        · exact Classical.or_iff_not_imp_left.2 g.1.2
        · intro q; have := g.2 q; omega
        · by_cases q : v.Kind < 5
          · exact .inr (g.1.1.2 q)
          · exact .inl (by omega)), Option.bind_some, if_pos rfl]
theorem fields_eq {v : ApiValue} (hv : TV v) : ref01_fields v = some (fdB v) := by
  unfold ref01_fields
  exact fields_run _ (by omega) hv
theorem foldmax_le (l : List Nat) : ∀ (x d : Nat), l.foldl max x ≤ d ↔ x ≤ d ∧ ∀ y ∈ l, y ≤ d := by
  induction l with
  | nil => intro x d; simp
  | cons z l ih =>
    intro x d
    rw [List.foldl_cons, ih]
    simp only [List.mem_cons, forall_eq_or_imp]
    rw [Nat.max_le, and_assoc]
theorem fd_sh : ∀ (d m : Nat) (v : ApiValue), d < m → d < 20 → (shB d v = true ↔ fdB v = true ∧ dpR m v ≤ d)
  | _, 0, _, h, _ => by omega
  | 0, m + 1, v, _, _ => by simp [shB, dpR]
  | d + 1, m + 1, v, h, h2 => by
    have ih := fun x => fd_sh d m x (by omega) (by omega)
    rw [shB, fdB_eq, dpR, fdL_all]
    simp only [Bool.and_eq_true, List.all_eq_true]
    rw [Nat.add_le_add_iff_right, foldmax_le]
    simp only [List.mem_map, forall_exists_index, and_imp, forall_apply_eq_imp_iff₂]
    constructor
    · rintro ⟨a, b, c, e⟩
      exact ⟨⟨a, b, c, fun x hx => ((ih x).1 (e x hx)).1⟩, by omega, fun x hx => ((ih x).1 (e x hx)).2⟩
    · rintro ⟨⟨a, b, c, e⟩, _, f⟩
      exact ⟨a, b, c, fun x hx => (ih x).2 ⟨e x hx, f x hx⟩⟩
end Go.Proofs

set_option linter.unusedVariables false
set_option linter.unusedSimpArgs false
namespace Go.Proofs
open Go.Fw
theorem ofI8_of {u : Nat} (h : u < 256) : ofI8 (u : Int) = UInt8.ofNat u := by
  unfold ofI8
  congr 1; omega
theorem tdiv_abs (n : Int) : (n.tdiv 10).natAbs = n.natAbs / 10 := by rw [Int.natAbs_tdiv]; rfl
theorem tmod_abs (n : Int) : (n.tmod 10).natAbs = n.natAbs % 10 := by rw [Int.natAbs_tmod]; rfl
theorem digits_run {kj : List UInt8 → Option (List UInt8)} : ∀ (f J : Nat) (n : Int) (x : List UInt8), 1 ≤ f → n.natAbs < 10 ^ f → (-9223372036854775808 ≤ n ∧ n ≤ 9223372036854775807) → f < J → x.length + f ≤ 1000 →
    ref01_digits_l1 kj J n x = kj (decF f n.natAbs ++ x)
  | 0, _, _, _, h, _, _, _, _ => by omega
  | f + 1, 0, _, _, _, _, _, h, _ => by omega
  | f + 1, J + 1, n, x, _, hn, hr, hJ, hx => by
    have hd := tdiv_abs n
    have hm := tmod_abs n
    have hi : i64 (n.tdiv 10) = n.tdiv 10 := i64_id (by omega) (by omega)
    rw [ref01_digits_l1, jn_eq', hi, decF]
    have step : ∀ d : Int, d = ((n.natAbs % 10 : Nat) : Int) → ((app 9223372036854775807 ([ofI8 (i64 (48 + d))] : List UInt8) x).bind fun x7 => if n.tdiv 10 = 0 then kj x7 else ref01_digits_l1 kj J (n.tdiv 10) x7)
        = kj ((if n.natAbs < 10 then [UInt8.ofNat (48 + n.natAbs)] else decF f (n.natAbs / 10) ++ [UInt8.ofNat (48 + n.natAbs % 10)]) ++ x) := by
      intro d he
      rw [he, i64_id (by omega) (by omega), show (48 : Int) + ((n.natAbs % 10 : Nat) : Int) = ((48 + n.natAbs % 10 : Nat) : Int) by omega, ofI8_of (by omega), app_ok2 _ _ (by simp only [List.length_cons, List.length_nil]; omega), Option.bind_some]
      by_cases c : n.natAbs < 10
      · rw [if_pos (by omega), if_pos c, show n.natAbs % 10 = n.natAbs by omega]
      · have hf : 1 ≤ f := by
          rcases f with _ | f
          · simp at hn; omega
          · omega
        rw [if_neg (by omega), if_neg c, digits_run f J (n.tdiv 10) _ hf (by rw [hd]; rw [Nat.pow_succ] at hn; omega) (by omega) (by omega) (by simp only [List.length_append, List.length_cons, List.length_nil]; omega), hd, List.append_assoc]
    by_cases c : n.tmod 10 < 0
    · rw [if_pos c]
      exact step _ (by rw [i64_id (by omega) (by omega)]; omega)
    · rw [if_neg c]
      exact step _ (by omega)
theorem digits_eq {n : Int} (h : -9223372036854775808 ≤ n ∧ n ≤ 9223372036854775807) : ref01_digits n = some (itoaF n) := by
  unfold ref01_digits itoaF
  have := FU_M
  rw [jn_eq', digits_run 30 FU n [] (by decide) (by omega) h (by omega) (by simp), List.append_nil]
  have hl := decF_len 30 n.natAbs 30 (by omega) (by decide)
  by_cases c : n < 0
  · rw [if_pos c, if_pos c, app_ok2 _ _ (by simp only [List.length_cons, List.length_nil]; omega)]; rfl
  · rw [if_neg c, if_neg c, show n.natAbs = n.toNat by omega]
theorem rquoted_run {s : List UInt8} (hl : s.length ≤ M63) {kj : List UInt8 → Option (List UInt8)} : ∀ (J k : Nat) (x : List UInt8), k ≤ s.length → s.length - k < J → x.length + 2 * (s.length - k) ≤ 1000000000000 → ref01_quoted_l1 s kj J x (k : Int) = kj (x ++ (s.drop k).flatMap esc)
  | 0, k, x, h1, h2, _ => by omega
  | J + 1, k, x, h1, h2, h3 => by
    rw [ref01_quoted_l1]
    by_cases c : k < s.length
    · rw [if_pos (by omega), geti_nat, List.getElem?_eq_getElem c, List.drop_eq_getElem_cons c, List.flatMap_cons, jn_eq', Option.bind_some]
      by_cases c1 : s[k].toNat = 34 ∨ s[k].toNat = 92
      · have hc : ((if (s[k].toNat : Int) = 34 then some true else (some s[k]).bind fun x9 => some (decide ((x9.toNat : Int) = 92))) : Option Bool) = some true := by
          by_cases q : (s[k].toNat : Int) = 34
          · rw [if_pos q]
          · rw [if_neg q, Option.bind_some, decide_eq_true (by omega)]
        rw [hc, Option.bind_some, if_pos rfl, app_ok2 _ _ (by simp; omega), Option.bind_some]
        dsimp only
        rw [Option.bind_some, app_ok2 _ _ (by simp; omega), Option.bind_some, nxt c hl, rquoted_run hl J (k + 1) _ (by omega) (by omega) (by simp only [List.length_append, List.length_cons, List.length_nil]; omega), esc_q c1]
        simp
      · have hc : ((if (s[k].toNat : Int) = 34 then some true else (some s[k]).bind fun x9 => some (decide ((x9.toNat : Int) = 92))) : Option Bool) = some false := by
          rw [if_neg (by omega), Option.bind_some, decide_eq_false (by omega)]
        rw [hc, Option.bind_some, if_neg (by decide)]
        dsimp only
        rw [Option.bind_some, app_ok2 _ _ (by simp; omega), Option.bind_some, nxt c hl, rquoted_run hl J (k + 1) _ (by omega) (by omega) (by simp only [List.length_append, List.length_cons, List.length_nil]; omega), esc_n c1]
        simp
    · rw [if_neg (by omega), List.drop_eq_nil_of_le (by omega)]; simp
theorem rquoted_eq (s : List UInt8) (h : 2 * s.length ≤ 100000000000) : ref01_quoted s = some (qt s) := by
  unfold ref01_quoted
  have := FU_M
  have hM : M63 = 9223372036854775807 := rfl
  rw [jn_eq', show (0 : Int) = ((0 : Nat) : Int) from rfl, rquoted_run (by omega) FU 0 _ (by omega) (by omega) (by simp; omega), List.drop_zero]
  have hq := qt_len s
  unfold qt at hq ⊢
  simp only [List.length_cons, List.length_append, List.length_nil] at hq
  rw [app_ok2 _ _ (by simp only [List.length_append, List.length_cons, List.length_nil]; omega)]
  rfl
theorem fdB_wf : ∀ (n : Nat) {v : ApiValue}, dpApiValue v ≤ n → fdB v = true → WF v
  | 0, v, h, _ => by rw [dpApiValue_eq] at h; omega
  | n + 1, v, h, hf => by
    rw [fdB_eq, Bool.and_eq_true, Bool.and_eq_true, Bool.and_eq_true, hdB_iff, fdL_all, List.all_eq_true] at hf
    exact .mk hf.1.2.2.2.2.2.1 (fun c => hf.1.2.2.2.2.1.resolve_left c) (fun x hx => fdB_wf n (by have := dp_sub hx; omega) (hf.2.2.2 x hx))
theorem fdB_ks : ∀ (n : Nat) {v : ApiValue}, dpApiValue v ≤ n → fdB v = true → KS v
  | 0, v, h, _ => by rw [dpApiValue_eq] at h; omega
  | n + 1, v, h, hf => by
    rw [fdB_eq, Bool.and_eq_true, Bool.and_eq_true, Bool.and_eq_true, fdL_all, List.all_eq_true] at hf
    exact .mk (fun k hk => keyB_len (kOK_key hf.2.2.1 k hk)) (fun x hx => fdB_ks n (by have := dp_sub hx; omega) (hf.2.2.2 x hx))
theorem fdB_sub {v x : ApiValue} (h : fdB v = true) (hx : x ∈ v.List_) : fdB x = true := by
  rw [fdB_eq, Bool.and_eq_true, Bool.and_eq_true, Bool.and_eq_true, fdL_all, List.all_eq_true] at h
  exact h.2.2.2 x hx
theorem fdB_hd {v : ApiValue} (h : fdB v = true) : hdB v = true := by
  rw [fdB_eq, Bool.and_eq_true] at h; exact h.1
theorem printL_run {v : ApiValue} (hv : TV v) (hw : WF v) (hk : KS v) {f : ApiValue → Option (List UInt8)} (hf : ∀ x, x ∈ v.List_ → f x = some (tx x)) {kj : List UInt8 → Option (List UInt8)} :
    ∀ (J k : Nat) (b : List UInt8), k ≤ v.List_.length → v.List_.length - k < J → b.length + 700 * wL (v.List_.drop k) ≤ 90000000 → ref01_Print_s_l1 v f kj J b (k : Int) = kj (b ++ txL (decide (v.Kind = 6)) (decide (k = 0)) (v.List_.drop k) (v.Keys.drop k))
  | 0, k, b, h1, h2, _ => by omega
  | J + 1, k, b, h1, h2, h3 => by
    rw [ref01_Print_s_l1]
    by_cases c : k < v.List_.length
    · have hm := List.getElem_mem c
      have hl := tx_len (hv.sub _ hm) (hw.sub _ hm) (hk.sub _ hm)
      have hwp := wV_pos v.List_[k]
      rw [wL_drop _ c] at h3
      rw [if_pos (by omega), geti_nat, List.getElem?_eq_getElem c, jn_eq', List.drop_eq_getElem_cons c, txL]
      simp only [Option.bind_some, hf _ hm, jn_eq']
      have step : ∀ y : List UInt8, y.length ≤ b.length + 1 → (if v.Kind = 6 then (geti v.Keys (k : Int)).bind fun x12 => (ref01_quoted x12).bind fun x13 => (app 9223372036854775807 y x13).bind fun x14 => (app 9223372036854775807 x14 ([58] : List UInt8)).bind fun x15 => (app 9223372036854775807 x15 (tx v.List_[k])).bind fun x18 => ref01_Print_s_l1 v f kj J x18 (i64 ((k : Int) + 1)) else (app 9223372036854775807 y (tx v.List_[k])).bind fun x18 => ref01_Print_s_l1 v f kj J x18 (i64 ((k : Int) + 1)))
          = kj (y ++ ((if (decide (v.Kind = 6)) = true then qt ((v.Keys.drop k).headD []) ++ [58] else []) ++ (tx v.List_[k] ++ txL (decide (v.Kind = 6)) false (v.List_.drop (k + 1)) (v.Keys.drop k).tail))) := by
        intro y hy
        have hd0 : decide (k + 1 = 0) = false := decide_eq_false (by omega)
        by_cases k6 : v.Kind = 6
        · have ck : k < v.Keys.length := by rw [hw.obj k6]; exact c
          have hq := hk.key _ (List.getElem_mem ck)
          have hql := qt_len v.Keys[k]
          have hh : (v.Keys.drop k).headD [] = v.Keys[k] := by rw [List.drop_eq_getElem_cons ck]; rfl
          rw [if_pos k6, geti_nat, List.getElem?_eq_getElem ck, Option.bind_some, rquoted_eq _ (by omega), Option.bind_some, app_ok2 _ _ (by omega), Option.bind_some, app_ok2 _ _ (by simp only [List.length_append, List.length_cons, List.length_nil]; omega), Option.bind_some, app_ok2 _ _ (by simp only [List.length_append, List.length_cons, List.length_nil]; omega), Option.bind_some, nxt c hv.list,
            printL_run hv hw hk hf J (k + 1) _ (by omega) (by omega) (by simp only [List.length_append, List.length_cons, List.length_nil]; omega), decide_eq_true k6, hd0, if_pos rfl, hh, List.tail_drop]
          simp only [List.append_assoc]
        · rw [if_neg k6, app_ok2 _ _ (by omega), Option.bind_some, nxt c hv.list, printL_run hv hw hk hf J (k + 1) _ (by omega) (by omega) (by simp only [List.length_append]; omega), decide_eq_false k6, hd0, if_neg (by decide), List.tail_drop]
          simp only [List.append_assoc, List.nil_append]
      by_cases k0 : k = 0
      · rw [if_neg (by omega), decide_eq_true k0, if_pos rfl, List.nil_append]
        exact step b (by omega)
      · rw [if_pos (by omega), app_ok2 _ _ (by simp; omega), Option.bind_some, decide_eq_false k0, show (if false = true then ([] : List UInt8) else [44]) = [44] from rfl, ← List.append_assoc]
        exact step _ (by simp)
    · rw [if_neg (by omega), List.drop_eq_nil_of_le (by omega), txL, List.append_nil]
theorem print_run : ∀ (j : Nat) {v : ApiValue}, dpApiValue v ≤ j → TV v → fdB v = true → 700 * wV v ≤ 90000000 → ref01_Print_r j v = some (tx v)
  | 0, v, h, _, _, _ => by rw [dpApiValue_eq] at h; omega
  | j + 1, v, h, hv, hfd, hb => by
    have hw := fdB_wf _ (Nat.le_refl _) hfd
    have hk := fdB_ks _ (Nat.le_refl _) hfd
    have hwv := wV_eq v
    have hsub : ∀ x, x ∈ v.List_ → wV x ≤ wL v.List_ := by
      have : ∀ (l : List ApiValue) (x : ApiValue), x ∈ l → wV x ≤ wL l := by
        intro l
        induction l with
        | nil => intro x hx; cases hx
        | cons y l ih =>
          intro x hx
          rw [wL]
          rcases List.mem_cons.1 hx with e | e
          · subst e; omega
          · have := ih x e; omega
      exact this _
    have hf : ∀ x, x ∈ v.List_ → ref01_Print_r j x = some (tx x) := fun x hx => print_run j (by have := dp_sub hx; omega) (hv.sub x hx) (fdB_sub hfd hx) (by have := hsub x hx; omega)
    have hFU := FU_M
    have hL := hv.list
    have hd := hdB_iff.1 (fdB_hd hfd)
    have ht := tx_len hv hw hk
    rw [tx_eq] at ht
    rw [ref01_Print_r, ref01_Print_s, tx_eq]
    by_cases k0 : v.Kind = 0
    · rw [if_pos k0, if_neg (by omega), if_neg (by omega), if_neg (by omega), if_neg (by omega), if_neg (by omega), if_neg (by omega)]
    rw [if_neg k0]
    by_cases k1 : v.Kind = 1
    · rw [if_pos k1, if_pos k1]
    rw [if_neg k1, if_neg k1]
    rw [if_neg k1] at ht
    by_cases k2 : v.Kind = 2
    · rw [if_pos k2, if_pos k2]
    rw [if_neg k2, if_neg k2]
    rw [if_neg k2] at ht
    by_cases k3 : v.Kind = 3
    · rw [if_pos k3, if_pos k3, digits_eq hv.num]; rfl
    rw [if_neg k3, if_neg k3]
    rw [if_neg k3] at ht
    by_cases k4 : v.Kind = 4
    · rw [if_pos k4, if_pos k4, rquoted_eq _ (by omega)]; rfl
    rw [if_neg k4, if_neg k4, jn_eq', show (0 : Int) = ((0 : Nat) : Int) from rfl, printL_run hv hw hk hf FU 0 [] (by omega) (by omega) (by simp only [List.length_nil, List.drop_zero]; omega)]
    rw [if_neg k4] at ht
    simp only [List.drop_zero, List.nil_append, decide_true]
    by_cases k5 : v.Kind = 5
    · rw [if_pos k5, if_pos k5, decide_eq_false (by omega)]
      rw [if_pos k5] at ht
      simp only [List.length_cons, List.length_append, List.length_nil] at ht
      rw [app_ok2 _ _ (by simp only [List.length_cons, List.length_nil]; omega), Option.bind_some, app_ok2 _ _ (by simp only [List.length_append, List.length_cons, List.length_nil]; omega)]; rfl
    · have k6 : v.Kind = 6 := by omega
      rw [if_neg k5, if_neg k5, if_pos k6, decide_eq_true k6]
      rw [if_neg k5, if_pos k6] at ht
      simp only [List.length_cons, List.length_append, List.length_nil] at ht
      rw [app_ok2 _ _ (by simp only [List.length_cons, List.length_nil]; omega), Option.bind_some, app_ok2 _ _ (by simp only [List.length_append, List.length_cons, List.length_nil]; omega)]; rfl
theorem print_eq {v : ApiValue} (hv : TV v) (hfd : fdB v = true) (hb : wV v ≤ 100000) : ref01_Print v = some (tx v) := by
  unfold ref01_Print
  exact print_run _ (by omega) hv hfd (by omega)
theorem rmay_eq {v : ApiValue} (hv : TV v) (hb : KS v → wV v ≤ 4000) : ref01_May v = some (mayB v) := by
  unfold ref01_May mayB
  rw [deep_eq hv, Option.bind_some, fields_eq hv]
  have hs := fd_sh 8 15 v (by decide) (by decide)
  by_cases c : dpR 15 v ≤ 8
  · rw [if_pos (by omega), Option.bind_some, Option.bind_some]
    cases hf : fdB v with
    | false =>
      have : shB 8 v = false := by
        cases q : shB 8 v with
        | false => rfl
        | true => have := (hs.1 q).1; rw [hf] at this; cases this
      rw [this]; rfl
    | true =>
      rw [hs.2 ⟨hf, c⟩, if_pos rfl, print_eq hv hf (by have := hb (fdB_ks _ (Nat.le_refl _) hf); omega), Option.bind_some, Option.bind_some, Bool.true_and]
      exact congrArg some (decide_eq_decide.2 (by omega))
  · have : shB 8 v = false := by
      cases q : shB 8 v with
      | false => rfl
      | true => exact absurd (hs.1 q).2 c
    rw [if_neg (by omega), this]; rfl
end Go.Proofs

set_option linter.unusedVariables false
set_option linter.unusedSimpArgs false
namespace Go.Proofs
open Go.Fw
theorem cS_cons (x y : UInt8) (a b : List UInt8) : cS (x :: a) (y :: b) = if x.toNat < y.toNat then -1 else if y.toNat < x.toNat then 1 else cS a b := by
  unfold cS
  simp only [nlt_cons]
  by_cases h1 : x.toNat < y.toNat
  · have : x < y := h1
    rw [if_pos (.inl this), if_pos h1]
  · by_cases h2 : y.toNat < x.toNat
    · have g2 : y < x := h2
      have g1 : ¬ x < y := h1
      have ne : x ≠ y := fun e => by rw [e] at h2; omega
      rw [if_neg (by rintro (h | h); exact g1 h; exact ne h.1), if_pos (.inl g2), if_neg h1, if_pos h2]
    · have e : x = y := UInt8.toNat_inj.1 (by omega)
      subst e
      simp
theorem rTexts_run {a b : List UInt8} (ha : a.length ≤ M63) {kj : Unit → Option Int} (hk : kj () = some (cI (a.length : Int) (b.length : Int))) : ∀ (J k : Nat), k ≤ a.length → k ≤ b.length → a.length - k < J →
    ref01_Texts_l1 a b kj J (k : Int) = some (cS (a.drop k) (b.drop k))
  | 0, k, _, _, h => by omega
  | J + 1, k, h1, h2, h3 => by
    rw [ref01_Texts_l1]
    by_cases c1 : k < a.length
    · by_cases c2 : k < b.length
      · rw [if_pos (by omega), geti_nat, geti_nat, List.getElem?_eq_getElem c1, List.getElem?_eq_getElem c2, List.drop_eq_getElem_cons c1, List.drop_eq_getElem_cons c2, cS_cons]
        simp only [Option.bind_some]
        by_cases e : a[k].toNat = b[k].toNat
        · rw [if_neg (by omega), if_neg (by omega), if_neg (by omega), nxt c1 ha]
          exact rTexts_run ha hk J (k + 1) (by omega) (by omega) (by omega)
        · rw [if_pos (by omega)]
          by_cases l : a[k].toNat < b[k].toNat
          · rw [if_pos (by omega), if_pos l]
          · rw [if_neg (by omega), if_neg l, if_pos (by omega)]
      · rw [if_neg (by omega), hk, List.drop_eq_getElem_cons c1, List.drop_eq_nil_of_le (show b.length ≤ k by omega)]
        unfold cI cS
        rw [if_neg (by omega), if_pos (by omega), if_neg (nlt_nil _), if_pos (nil_nlt _ _)]
    · rw [if_neg (by omega), hk, List.drop_eq_nil_of_le (show a.length ≤ k by omega)]
      by_cases c2 : k < b.length
      · rw [List.drop_eq_getElem_cons c2]
        unfold cI cS
        rw [if_pos (by omega), if_pos (nil_nlt _ _)]
      · rw [List.drop_eq_nil_of_le (by omega), cS_self]
        unfold cI; rw [if_neg (by omega), if_neg (by omega)]
theorem len_cI (m n : Nat) : (if (m : Int) = (n : Int) then some 0 else if (m : Int) < (n : Int) then some (-1) else some 1 : Option Int) = some (cI m n) := by
  unfold cI
  by_cases c : (m : Int) = n
  · rw [if_pos c, if_neg (by omega), if_neg (by omega)]
  · rw [if_neg c]
    by_cases d : (m : Int) < n
    · rw [if_pos d, if_pos d]
    · rw [if_neg d, if_neg d, if_pos (by omega)]
theorem rTexts_eq (a b : List UInt8) (ha : a.length ≤ M63) : ref01_Texts a b = some (cS a b) := by
  unfold ref01_Texts
  have := FU_M
  rw [jn_eq', show (0 : Int) = ((0 : Nat) : Int) from rfl, rTexts_run ha (len_cI _ _) FU 0 (by omega) (by omega) (by omega)]
  rfl
theorem or2_z (x : Int) : or2 x 0 = x := by unfold or2; split <;> omega
theorem z_or2 (x : Int) : or2 0 x = x := by unfold or2; rw [if_neg (by omega)]
theorem or2_nz {x : Int} (h : x ≠ 0) (y : Int) : or2 x y = x := by unfold or2; rw [if_pos h]
theorem rCmpL_run {a b : ApiValue} (ha : TV a) (hb : TV b) (wa : WF a) (wb : WF b) (he : a.Kind = b.Kind) {f : ApiValue → ApiValue → Option Int} (hf : ∀ x, x ∈ a.List_ → ∀ y, y ∈ b.List_ → f x y = some (cV x y))
    {kj : Unit → Option Int} (hk : kj () = some (cI (a.List_.length : Int) (b.List_.length : Int))) : ∀ (J k : Nat), k ≤ a.List_.length → k ≤ b.List_.length → a.List_.length - k < J →
    ref01_Cmp_s_l1 a b f kj J (k : Int) = some (cL (a.List_.drop k) (b.List_.drop k) (a.Keys.drop k) (b.Keys.drop k))
  | 0, k, _, _, h => by omega
  | J + 1, k, h1, h2, h3 => by
    rw [ref01_Cmp_s_l1]
    by_cases c1 : k < a.List_.length
    · by_cases c2 : k < b.List_.length
      · have ih := rCmpL_run ha hb wa wb he hf hk J (k + 1) (by omega) (by omega) (by omega)
        rw [← nxt c1 ha.list] at ih
        have hq := hf _ (List.getElem_mem c1) _ (List.getElem_mem c2)
        rw [if_pos (by omega), geti_nat, geti_nat, geti_nat, geti_nat, List.getElem?_eq_getElem c1, List.getElem?_eq_getElem c2, List.drop_eq_getElem_cons c1, List.drop_eq_getElem_cons c2, cL]
        rw [List.tail_drop, List.tail_drop]
        have fin : (if cV a.List_[k] b.List_[k] ≠ 0 then some (cV a.List_[k] b.List_[k]) else ref01_Cmp_s_l1 a b f kj J (i64 ((k : Int) + 1))) = some (or2 (cV a.List_[k] b.List_[k]) (cL (a.List_.drop (k + 1)) (b.List_.drop (k + 1)) (a.Keys.drop (k + 1)) (b.Keys.drop (k + 1)))) := by
          by_cases c4 : cV a.List_[k] b.List_[k] = 0
          · rw [if_neg (by simpa using c4), ih, c4, z_or2]
          · rw [if_pos c4, or2_nz c4]
        by_cases k6 : a.Kind = 6
        · have e1 : k < a.Keys.length := by rw [wa.obj k6]; exact c1
          have e2 : k < b.Keys.length := by rw [wb.obj (by omega)]; exact c2
          rw [if_pos k6, List.getElem?_eq_getElem e1, List.getElem?_eq_getElem e2, List.drop_eq_getElem_cons e1, List.drop_eq_getElem_cons e2]
          simp only [Option.bind_some, kp, rTexts_eq _ _ (ha.key _ (List.getElem_mem e1)), hq]
          by_cases c5 : a.Keys[k] = b.Keys[k]
          · rw [if_neg (by simpa using c5), c5, cS_self, z_or2]
            exact fin
          · have : cS a.Keys[k] b.Keys[k] ≠ 0 := fun h => c5 (cS_zero.1 h)
            rw [if_pos c5, or2_nz this, or2_nz this]
        · rw [if_neg k6, wa.nokeys k6, List.drop_nil, show kp [] (List.drop k b.Keys) = 0 from rfl, z_or2]
          simp only [Option.bind_some, hq]
          rw [wa.nokeys k6, List.drop_nil] at fin
          exact fin
      · rw [if_neg (by omega), hk, List.drop_eq_getElem_cons c1, List.drop_eq_nil_of_le (show b.List_.length ≤ k by omega), cL]
        unfold cI; rw [if_neg (by omega), if_pos (by omega)]
    · rw [if_neg (by omega), hk, List.drop_eq_nil_of_le (show a.List_.length ≤ k by omega)]
      by_cases c2 : k < b.List_.length
      · rw [List.drop_eq_getElem_cons c2, cL]
        unfold cI; rw [if_pos (by omega)]
      · rw [List.drop_eq_nil_of_le (by omega), cL]
        unfold cI; rw [if_neg (by omega), if_neg (by omega)]
theorem lt_cI (m n : Int) (h : m ≠ n) : (if m < n then some (-1) else some 1 : Option Int) = some (cI m n) := by
  unfold cI
  by_cases d : m < n
  · rw [if_pos d, if_pos d]
  · rw [if_neg d, if_neg d, if_pos (by omega)]
theorem rCmp_run : ∀ (j : Nat) {a b : ApiValue}, dpApiValue a ≤ j → TV a → TV b → fdB a = true → fdB b = true → ref01_Cmp_r j a b = some (cV a b)
  | 0, a, b, h, _, _, _, _ => by rw [dpApiValue_eq] at h; omega
  | j + 1, a, b, h, ha, hb, fa, fb => by
    have da := hdB_iff.1 (fdB_hd fa)
    have db := hdB_iff.1 (fdB_hd fb)
    have wa := fdB_wf _ (Nat.le_refl _) fa
    have wb := fdB_wf _ (Nat.le_refl _) fb
    rw [ref01_Cmp_r, ref01_Cmp_s, cV_eq]
    by_cases c1 : a.Kind = b.Kind
    · rw [if_neg (by omega), cI_zero.2 c1, z_or2]
      by_cases c2 : a.Num = b.Num
      · rw [if_neg (by omega), cI_zero.2 c2, z_or2]
        by_cases c3 : a.Kind = 4
        · rw [if_pos c3, rTexts_eq _ _ ha.text, da.2.2.2.2.2.2.resolve_left (by omega), db.2.2.2.2.2.2.resolve_left (by omega), cL, or2_z]; rfl
        · have hl := ha.list
          have := FU_M
          rw [if_neg c3, da.2.2.2.1.resolve_left c3, db.2.2.2.1.resolve_left (by omega), cS_self, z_or2, jn_eq', show (0 : Int) = ((0 : Nat) : Int) from rfl,
            rCmpL_run ha hb wa wb c1 (fun x hx y hy => rCmp_run j (by have := dp_sub hx; omega) (ha.sub x hx) (hb.sub y hy) (fdB_sub fa hx) (fdB_sub fb hy)) (len_cI _ _) FU 0 (by omega) (by omega) (by omega)]
          rfl
      · have : cI a.Num b.Num ≠ 0 := fun h => c2 (cI_zero.1 h)
        rw [if_pos c2, lt_cI _ _ c2, or2_nz this, or2_nz this]
    · have : cI a.Kind b.Kind ≠ 0 := fun h => c1 (cI_zero.1 h)
      rw [if_pos c1, lt_cI _ _ c1, or2_nz this, or2_nz this]
theorem rCmp_eq {a b : ApiValue} (ha : TV a) (hb : TV b) (fa : fdB a = true) (fb : fdB b = true) : ref01_Cmp a b = some (cV a b) := by
  unfold ref01_Cmp
  exact rCmp_run _ (by omega) ha hb fa fb
theorem mayB_fd {v : ApiValue} (h : mayB v = true) : fdB v = true := by
  unfold mayB at h
  rw [Bool.and_eq_true] at h
  exact ((fd_sh 8 15 v (by decide) (by decide)).1 h.1).1
theorem ValueCmp_pure (a b : ApiValue) (ha : TV a) (hb : TV b) : law01_ValueCmp a b = some true := by
  unfold law01_ValueCmp
  obtain ⟨la, ea, ga⟩ := long_eq ha
  obtain ⟨lb, eb, gb⟩ := long_eq hb
  rw [ea, eb, Option.bind_some]
  cases la with
  | true => simp only [if_true, Option.bind_some, awake_true]
  | false =>
  cases lb with
  | true => simp only [if_true, Bool.false_eq_true, if_false, Option.bind_some, awake_true]
  | false =>
  rw [cmp_eq ha hb, rmay_eq ha (fun h => ga h rfl), rmay_eq hb (fun h => gb h rfl)]
  cases ma : mayB a with
  | false => simp only [if_true, Bool.false_eq_true, if_false, Option.bind_some, awake_true, Bool.not_false]
  | true =>
  cases mb : mayB b with
  | false => simp only [if_true, Bool.false_eq_true, if_false, Option.bind_some, awake_true, Bool.not_false, Bool.not_true]
  | true =>
  rw [rCmp_eq ha hb (mayB_fd ma) (mayB_fd mb)]
  simp only [if_true, Bool.false_eq_true, if_false, Option.bind_some, awake_true, Bool.not_true]
end Go.Proofs
