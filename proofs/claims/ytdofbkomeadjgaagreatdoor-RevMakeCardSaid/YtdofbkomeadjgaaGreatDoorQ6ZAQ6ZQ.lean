import Derived.Test.YtdofbkomeadjgaaGreatDoorP06Z
set_option linter.unusedVariables false
set_option linter.unusedSimpArgs false
namespace Go.Proofs
open Go.Fw
set_option maxRecDepth 100000 in
theorem awake_true : law06_awake = some true := by
  decide +kernel
end Go.Proofs

set_option linter.unusedVariables false
set_option linter.unusedSimpArgs false
namespace Go.Proofs
open Go.Fw
theorem i64_id {p : Int} (h0 : -9223372036854775808 ≤ p) (h1 : p ≤ 9223372036854775807) : i64 p = p := i64_eq h0 h1
theorem jn_eq' {α β : Type} (f : α) (g : α → β) : jn f g = g f := by unfold jn; exact id rfl
theorem jBu {α : Type} (l : List α) (k : Nat) : geti l (k : Int) = l[k]? := by
  unfold geti
  rw [if_pos (by omega)]
  simp
theorem cmp_refl : ∀ a : List UInt8, Lib.compareBytes a a = 0
  | [] => rfl
  | x :: r => by
    rw [Lib.compareBytes, if_neg (UInt8.lt_irrefl x), if_neg (UInt8.lt_irrefl x)]
    exact cmp_refl r
def nlt (a b : List UInt8) : Prop := Lib.compareBytes a b < 0
instance (a b : List UInt8) : Decidable (nlt a b) := by unfold nlt; infer_instance
theorem nlt_irrefl (a : List UInt8) : ¬ nlt a a := by unfold nlt; rw [cmp_refl]; decide
theorem nlt_cons {x y : UInt8} {a b : List UInt8} : nlt (x :: a) (y :: b) ↔ x < y ∨ (x = y ∧ nlt a b) := by
  unfold nlt
  rw [Lib.compareBytes]
  by_cases h1 : x < y
  · simp [h1]
  · by_cases h2 : y < x
    · have : x ≠ y := fun e => UInt8.lt_irrefl y (by rw [e] at h2; exact h2)
      simp [h1, h2, this]
    · have e : x = y := UInt8.le_antisymm (UInt8.not_lt.1 h2) (UInt8.not_lt.1 h1)
      subst e
      simp [h1]
theorem nlt_nil (a : List UInt8) : ¬ nlt a [] := by
  unfold nlt
  cases a <;> simp [Lib.compareBytes]
theorem nil_nlt (x : UInt8) (a : List UInt8) : nlt [] (x :: a) := by
  unfold nlt; simp [Lib.compareBytes]
theorem nlt_trans : ∀ {a b c : List UInt8}, nlt a b → nlt b c → nlt a c
  | _, _, [], _, h => absurd h (nlt_nil _)
  | _, [], _ :: _, h, _ => absurd h (nlt_nil _)
  | [], _ :: _, z :: c, _, _ => nil_nlt z c
  | x :: a, y :: b, z :: c, h1, h2 => by
    rw [nlt_cons] at h1 h2 ⊢
    rcases h1 with h1 | ⟨rfl, h1⟩
    · rcases h2 with h2 | ⟨rfl, h2⟩
      · exact .inl (UInt8.lt_trans h1 h2)
      · exact .inl h1
    · rcases h2 with h2 | ⟨rfl, h2⟩
      · exact .inl h2
      · exact .inr ⟨rfl, nlt_trans h1 h2⟩
theorem nlt_asymm {a b : List UInt8} (h : nlt a b) : ¬ nlt b a := fun h2 => nlt_irrefl a (nlt_trans h h2)
theorem less_nlt : ∀ a b : List UInt8, Op.bytesLess a b = decide (nlt a b)
  | [], [] => by simp [Op.bytesLess, nlt_nil]
  | x :: a, [] => by simp [Op.bytesLess, nlt_nil]
  | [], y :: b => by simp [Op.bytesLess, nil_nlt]
  | x :: a, y :: b => by
    rw [Op.bytesLess, less_nlt a b]
    rw [show decide (nlt (x :: a) (y :: b)) = decide (x < y ∨ (x = y ∧ nlt a b)) from decide_eq_decide.2 nlt_cons]
    by_cases h1 : x < y <;> by_cases h2 : x = y <;> by_cases h3 : nlt a b <;> simp [h1, h2, h3]
abbrev M63 : Nat := 9223372036854775807
inductive TV : ApiValue → Prop
  | mk {v : ApiValue} : (-9223372036854775808 ≤ v.Kind ∧ v.Kind ≤ 9223372036854775807) → (-9223372036854775808 ≤ v.Num ∧ v.Num ≤ 9223372036854775807) → v.Text.length ≤ M63 → v.List_.length ≤ M63 → v.Keys.length ≤ M63 → (∀ k ∈ v.Keys, k.length ≤ M63) → (∀ x, x ∈ v.List_ → TV x) → TV v
theorem TV.num {v : ApiValue} (h : TV v) : -9223372036854775808 ≤ v.Num ∧ v.Num ≤ 9223372036854775807 := by cases h; assumption
theorem TV.text {v : ApiValue} (h : TV v) : v.Text.length ≤ M63 := by cases h; assumption
theorem TV.list {v : ApiValue} (h : TV v) : v.List_.length ≤ M63 := by cases h; assumption
theorem TV.keys {v : ApiValue} (h : TV v) : v.Keys.length ≤ M63 := by cases h; assumption
theorem TV.key {v : ApiValue} (h : TV v) : ∀ k ∈ v.Keys, k.length ≤ M63 := by cases h; assumption
theorem TV.sub {v : ApiValue} (h : TV v) : ∀ x, x ∈ v.List_ → TV x := by cases h; assumption
theorem FU_M : M63 + 1000 < FU := Nat.lt_of_lt_of_le (by decide) FU_ge
theorem nxt {k n : Nat} (h : k < n) (hn : n ≤ M63) : i64 ((k : Int) + 1) = ((k + 1 : Nat) : Int) := by
  rw [i64_id (by omega) (by have : n ≤ 9223372036854775807 := hn; omega)]; rfl
def cI (a b : Int) : Int := if a < b then -1 else if b < a then 1 else 0
def cS (a b : List UInt8) : Int := if nlt a b then -1 else if nlt b a then 1 else 0
def or2 (x y : Int) : Int := if x ≠ 0 then x else y
def kp (p q : List (List UInt8)) : Int := match p, q with
  | x :: _, y :: _ => cS x y
  | _, _ => 0
mutual
def cV : ApiValue → ApiValue → Int
  | ⟨k, n, t, l, p⟩, b => or2 (or2 (cI k b.Kind) (or2 (cI n b.Num) (cS t b.Text))) (cL l b.List_ p b.Keys)
def cL : List ApiValue → List ApiValue → List (List UInt8) → List (List UInt8) → Int
  | [], [], _, _ => 0
  | [], _ :: _, _, _ => -1
  | _ :: _, [], _, _ => 1
  | x :: l, y :: m, p, q => or2 (or2 (kp p q) (cV x y)) (cL l m p.tail q.tail)
end
theorem cS_self (a : List UInt8) : cS a a = 0 := by unfold cS; rw [if_neg (nlt_irrefl a), if_neg (nlt_irrefl a)]
theorem dp_sub {v x : ApiValue} (h : x ∈ v.List_) : dpApiValue x < dpApiValue v := by
  have := dpApiValue_le h
  rw [dpApiValue_eq v]; omega
end Go.Proofs

set_option linter.unusedVariables false
set_option linter.unusedSimpArgs false
namespace Go.Proofs
open Go.Fw
theorem cI_flip (a b : Int) : cI b a = - cI a b := by unfold cI; repeat' split <;> omega
theorem cI_zero {a b : Int} : cI a b = 0 ↔ a = b := by unfold cI; repeat' split <;> omega
theorem cI_rng (a b : Int) : cI a b = -1 ∨ cI a b = 0 ∨ cI a b = 1 := by unfold cI; repeat' split <;> omega
theorem cS_flip (a b : List UInt8) : cS b a = - cS a b := by
  unfold cS
  by_cases h1 : nlt a b
  · rw [if_neg (nlt_asymm h1), if_pos h1, if_pos h1]; rfl
  · by_cases h2 : nlt b a
    · rw [if_pos h2, if_neg h1, if_pos h2]
    · rw [if_neg h2, if_neg h1, if_neg h1, if_neg h2]; rfl
theorem cS_rng (a b : List UInt8) : cS a b = -1 ∨ cS a b = 0 ∨ cS a b = 1 := by unfold cS; repeat' split <;> omega
theorem or2_flip (x y : Int) : or2 (-x) (-y) = - or2 x y := by unfold or2; repeat' split <;> omega
theorem or2_rng {x y : Int} (hx : x = -1 ∨ x = 0 ∨ x = 1) (hy : y = -1 ∨ y = 0 ∨ y = 1) : or2 x y = -1 ∨ or2 x y = 0 ∨ or2 x y = 1 := by unfold or2; split <;> omega
theorem kp_flip (p q : List (List UInt8)) : kp q p = - kp p q := by
  cases p with
  | nil => cases q <;> rfl
  | cons x p => cases q with
    | nil => rfl
    | cons y q => exact cS_flip x y
theorem kp_rng (p q : List (List UInt8)) : kp p q = -1 ∨ kp p q = 0 ∨ kp p q = 1 := by
  cases p <;> cases q <;> simp [kp, cS_rng]
mutual
theorem cV_flip : ∀ a b : ApiValue, cV b a = - cV a b
  | ⟨k, n, t, l, p⟩, ⟨k2, n2, t2, l2, p2⟩ => by
    rw [cV, cV]
    simp only
    rw [cI_flip k k2, cI_flip n n2, cS_flip t t2, cL_flip l l2 p p2, or2_flip, or2_flip, or2_flip]
theorem cL_flip : ∀ (l m : List ApiValue) (p q : List (List UInt8)), cL m l q p = - cL l m p q
  | [], [], _, _ => by rw [cL, cL]; rfl
  | [], _ :: _, _, _ => by rw [cL, cL]; rfl
  | _ :: _, [], _, _ => by rw [cL, cL]
  | x :: l, y :: m, p, q => by rw [cL, cL, cV_flip x y, cL_flip l m p.tail q.tail, kp_flip p q, or2_flip, or2_flip]
end
mutual
theorem cV_rng : ∀ a b : ApiValue, cV a b = -1 ∨ cV a b = 0 ∨ cV a b = 1
  | ⟨k, n, t, l, p⟩, b => by
    rw [cV]
    exact or2_rng (or2_rng (cI_rng _ _) (or2_rng (cI_rng _ _) (cS_rng _ _))) (cL_rng l _ p _)
theorem cL_rng : ∀ (l m : List ApiValue) (p q : List (List UInt8)), cL l m p q = -1 ∨ cL l m p q = 0 ∨ cL l m p q = 1
  | [], [], _, _ => by rw [cL]; omega
  | [], _ :: _, _, _ => by rw [cL]; omega
  | _ :: _, [], _, _ => by rw [cL]; omega
  | x :: l, y :: m, p, q => by rw [cL]; exact or2_rng (or2_rng (kp_rng _ _) (cV_rng x y)) (cL_rng l m _ _)
end
inductive WF : ApiValue → Prop
  | mk {v : ApiValue} : (v.Kind = 6 → v.Keys.length = v.List_.length) → (v.Kind ≠ 6 → v.Keys = []) → (∀ x, x ∈ v.List_ → WF x) → WF v
theorem WF.obj {v : ApiValue} (h : WF v) : v.Kind = 6 → v.Keys.length = v.List_.length := by cases h; assumption
theorem WF.sub {v : ApiValue} (h : WF v) : ∀ x, x ∈ v.List_ → WF x := by cases h; assumption
def Fit2 (l m : List ApiValue) (p q : List (List UInt8)) : Prop := (p.length = l.length ∧ q.length = m.length) ∨ (p = [] ∧ q = [])
mutual
theorem cV_self : ∀ a : ApiValue, cV a a = 0
  | ⟨k, n, t, l, p⟩ => by
    rw [cV]; simp only
    rw [cI_zero.2 rfl, cI_zero.2 rfl, cS_self, cL_self l p]; rfl
theorem cL_self : ∀ (l : List ApiValue) (p : List (List UInt8)), cL l l p p = 0
  | [], p => by rw [cL]
  | x :: l, p => by
    rw [cL, cV_self x, cL_self l p.tail]
    cases p <;> simp [kp, cS_self, or2]
end
def Tri (x y z : Int) : Prop := x ≤ 0 → y ≤ 0 → ((x < 0 ∨ y < 0) → z < 0) ∧ (x = 0 → y = 0 → z = 0)
theorem Tri.zero : Tri 0 0 0 := fun _ _ => ⟨fun h => by omega, fun _ _ => rfl⟩
end Go.Proofs

set_option linter.unusedVariables false
set_option linter.unusedSimpArgs false
namespace Go.Proofs
open Go.Fw
noncomputable def eqV (a b : ApiValue) : Bool := @decide (a = b) (Classical.propDecidable _)
noncomputable def eqL (a b : List ApiValue) : Bool := @decide (a = b) (Classical.propDecidable _)
theorem b_eq {p q : Bool} (h : p = true ↔ q = true) : p = q := by cases p <;> cases q <;> simp_all
def okB (c : UInt8) : Bool := decide (32 ≤ c.toNat) && decide (c.toNat ≤ 126)
def plB (s : List UInt8) : Bool := s.all okB
theorem plain_run {s : List UInt8} (hl : s.length ≤ M63) {kj : Unit → Option Bool} (hk : kj () = some true) : ∀ (J k : Nat), k ≤ s.length → s.length - k < J → value_plain_l1 s kj J (k : Int) = some (plB (s.drop k))
  | 0, k, h1, h2 => by omega
  | J + 1, k, h1, h2 => by
    rw [value_plain_l1]
    by_cases c : k < s.length
    · rw [if_pos (by omega), jBu, List.getElem?_eq_getElem c, Option.bind_some, List.drop_eq_getElem_cons c]
      show _ = some (okB s[k] && plB (s.drop (k + 1)))
      unfold okB
      by_cases c1 : s[k].toNat < 32
      · rw [if_pos (by omega), Option.bind_some, if_pos rfl, decide_eq_false (show ¬ 32 ≤ s[k].toNat by omega)]; rfl
      · rw [if_neg (by omega), Option.bind_some, Option.bind_some]
        by_cases c2 : 126 < s[k].toNat
        · rw [decide_eq_true (show (126 : Int) < _ by omega), if_pos rfl, decide_eq_false (show ¬ s[k].toNat ≤ 126 by omega)]; simp
        · rw [decide_eq_false (show ¬ (126 : Int) < _ by omega), if_neg (by decide), nxt c hl, plain_run hl hk J (k + 1) (by omega) (by omega), decide_eq_true (show 32 ≤ s[k].toNat by omega), decide_eq_true (show s[k].toNat ≤ 126 by omega)]; rfl
    · rw [if_neg (by omega), hk, List.drop_eq_nil_of_le (by omega)]; rfl
theorem plain_eq (s : List UInt8) (hl : s.length ≤ M63) : value_plain s = some (plB s) := by
  unfold value_plain
  have := FU_M
  rw [jn_eq', show (0 : Int) = ((0 : Nat) : Int) from rfl, plain_run hl rfl FU 0 (by omega) (by omega)]; rfl
def keyB (s : List UInt8) : Bool := decide (1 ≤ s.length ∧ s.length ≤ 24) && (plB s && !Lib.containsAny s [32, 46, 34])
theorem key_eq (s : List UInt8) (hl : s.length ≤ M63) : value_key s = some (keyB s) := by
  unfold value_key keyB
  by_cases c : 1 ≤ s.length ∧ s.length ≤ 24
  · rw [if_pos (by omega), plain_eq s hl, Option.bind_some, Option.bind_some, decide_eq_true c, Bool.true_and]
    cases h : plB s with
    | false => rw [if_neg (by decide)]; rfl
    | true =>
      have hp : s.all (fun b => decide (b.toNat < 128)) = true := by
        unfold plB at h
        rw [List.all_eq_true] at h ⊢
        intro x hx
        have := h x hx
        unfold okB at this
        simp only [Bool.and_eq_true, decide_eq_true_eq] at this
        exact decide_eq_true (by omega)
      rw [if_pos rfl, if_pos ⟨hp, by decide, by omega, by decide⟩]; rfl
  · rw [if_neg (by omega), Option.bind_some, if_neg (by decide), decide_eq_false c]; rfl
def kOK : Option (List UInt8) → List (List UInt8) → Bool
  | _, [] => true
  | pr, k :: r => keyB k && ((match pr with | none => true | some p => decide (nlt p k)) && kOK (some k) r)
end Go.Proofs

set_option linter.unusedVariables false
set_option linter.unusedSimpArgs false
namespace Go.Proofs
open Go.Fw
theorem kOK_cons (pr : Option (List UInt8)) (k : List UInt8) (r : List (List UInt8)) : kOK pr (k :: r) = (keyB k && ((match pr with | none => true | some p => decide (nlt p k)) && kOK (some k) r)) := by
  cases pr <;> rfl
theorem kOK_nil (pr : Option (List UInt8)) : kOK pr [] = true := by cases pr <;> rfl
def prv (l : List (List UInt8)) (k : Nat) : Option (List UInt8) := if k = 0 then none else l[k - 1]?
theorem shKeys_run {v : ApiValue} (hv : TV v) {kj : Unit → Option Bool} : ∀ (J k : Nat), k ≤ v.Keys.length → v.Keys.length - k < J → value_shaped_s_l1 v kj J (k : Int) = if kOK (prv v.Keys k) (v.Keys.drop k) = true then kj () else some false
  | 0, k, h1, h2 => by omega
  | J + 1, k, h1, h2 => by
    rw [value_shaped_s_l1]
    by_cases c : k < v.Keys.length
    · rw [if_pos (by omega), jBu, List.getElem?_eq_getElem c, Option.bind_some, key_eq _ (hv.key _ (List.getElem_mem c)), Option.bind_some, List.drop_eq_getElem_cons c, kOK_cons]
      cases hk : keyB v.Keys[k] with
      | false => rw [if_pos (by decide), Option.bind_some, if_pos rfl, Bool.false_and, if_neg (by decide)]
      | true =>
        rw [if_neg (by decide), Bool.true_and]
        have hp : prv v.Keys (k + 1) = some v.Keys[k] := by unfold prv; rw [if_neg (by omega), Nat.add_sub_cancel, List.getElem?_eq_getElem c]
        by_cases c0 : k = 0
        · have e : prv v.Keys k = none := by unfold prv; rw [if_pos c0]
          rw [if_neg (by omega), Option.bind_some, Option.bind_some, if_neg (by decide), nxt c hv.keys, shKeys_run hv J (k + 1) (by omega) (by omega), hp, e]
          simp
        · have hlt : k - 1 < v.Keys.length := by omega
          have e : prv v.Keys k = some v.Keys[k - 1] := by unfold prv; rw [if_neg c0, List.getElem?_eq_getElem hlt]
          have ei : i64 ((k : Int) - 1) = ((k - 1 : Nat) : Int) := by rw [i64_id (by omega) (by have := hv.keys; have hM : M63 = 9223372036854775807 := rfl; omega)]; omega
          rw [if_pos (by omega), ei, jBu, List.getElem?_eq_getElem hlt, Option.bind_some, Option.bind_some, Option.bind_some, less_nlt, e]
          simp only
          by_cases hn : nlt v.Keys[k - 1] v.Keys[k]
          · rw [if_neg (by simp [hn]), nxt c hv.keys, shKeys_run hv J (k + 1) (by omega) (by omega), hp]; simp [hn]
          · rw [if_pos (by simp [hn])]; simp [hn]
    · rw [if_neg (by omega), List.drop_eq_nil_of_le (by omega), kOK_nil, if_pos rfl]
theorem shIdx_run {l : List ApiValue} (hl : l.length ≤ M63) {f : ApiValue → Int → Option Bool} {d : Int} {g : ApiValue → Bool} (hf : ∀ x, x ∈ l → f x (i64 (d - 1)) = some (g x)) {kj : Unit → Option Int} : ∀ (J k : Nat), k ≤ l.length → l.length - k < J →
    (∃ i : Nat, slices_IndexFunc_api_Value_api_Value_c69_l1 l f d kj J (k : Int) = some (i : Int) ∧ (l.drop k).all g = false) ∨ (slices_IndexFunc_api_Value_api_Value_c69_l1 l f d kj J (k : Int) = kj () ∧ (l.drop k).all g = true)
  | 0, k, h1, h2 => by omega
  | J + 1, k, h1, h2 => by
    rw [slices_IndexFunc_api_Value_api_Value_c69_l1]
    by_cases c : k < l.length
    · rw [if_pos (by omega), jBu, List.getElem?_eq_getElem c, Option.bind_some, value_shaped_1, hf _ (List.getElem_mem c), Option.bind_some, Option.bind_some, List.drop_eq_getElem_cons c, List.all_cons]
      cases hg : g l[k] with
      | false => exact .inl ⟨k, by rw [if_pos (by decide)], rfl⟩
      | true =>
        rw [if_neg (by decide), nxt c hl, Bool.true_and]
        exact shIdx_run hl hf J (k + 1) (by omega) (by omega)
    · rw [if_neg (by omega), List.drop_eq_nil_of_le (by omega)]
      exact .inr ⟨rfl, rfl⟩
theorem shAll_eq {l : List ApiValue} (hl : l.length ≤ M63) {f : ApiValue → Int → Option Bool} {d : Int} {g : ApiValue → Bool} (hf : ∀ x, x ∈ l → f x (i64 (d - 1)) = some (g x)) : slices_ContainsFunc_api_Value_api_Value_c69 f l d = some (!(l.all g)) := by
  unfold slices_ContainsFunc_api_Value_api_Value_c69 slices_IndexFunc_api_Value_api_Value_c69
  have := FU_M
  rw [jn_eq', show (0 : Int) = ((0 : Nat) : Int) from rfl]
  rcases shIdx_run hl hf (kj := fun _ => some (-1)) FU 0 (by omega) (by omega) with ⟨i, h1, h2⟩ | ⟨h1, h2⟩
  · rw [h1, Option.bind_some, decide_eq_true (by omega)]
    rw [List.drop_zero] at h2; rw [h2]; rfl
  · rw [h1, Option.bind_some, decide_eq_false (by omega)]
    rw [List.drop_zero] at h2; rw [h2]; rfl
def hdB (v : ApiValue) : Bool := decide (0 ≤ v.Kind ∧ v.Kind ≤ 6 ∧ (v.Kind = 3 ∨ v.Num = 0) ∧ (v.Kind = 4 ∨ v.Text = []) ∧ (v.Kind = 6 ∨ v.Keys = []) ∧ (v.Kind = 6 → v.Keys.length = v.List_.length) ∧ (5 ≤ v.Kind ∨ v.List_ = []))
def shB : Nat → ApiValue → Bool
  | 0, _ => false
  | d + 1, v => hdB v && (plB v.Text && (kOK none v.Keys && v.List_.all (shB d)))
theorem shaped_run : ∀ (d j : Nat) {v : ApiValue}, d < j → d ≤ 100 → TV v → value_shaped_r j v (d : Int) = some (shB d v)
  | d, 0, v, h, _, _ => by omega
  | 0, j + 1, v, h, _, hv => by rw [value_shaped_r, value_shaped_s, if_pos (by decide)]; rfl
  | d + 1, j + 1, v, h, hd, hv => by
    have hFU := FU_M
    have hK := hv.keys
    have hsub : ∀ x, x ∈ v.List_ → value_shaped_r j x (i64 (((d + 1 : Nat) : Int) - 1)) = some (shB d x) := fun x hx => by
      rw [i64_id (by omega) (by omega), show ((d + 1 : Nat) : Int) - 1 = (d : Int) by omega]
      exact shaped_run d j (by omega) (by omega) (hv.sub x hx)
    rw [value_shaped_r, value_shaped_s, if_neg (by omega), jn_eq']
    -- what follows, whatever is taken over
    have tail : ∀ (n : Int) (t : List UInt8) (l : List ApiValue) (p : List (List UInt8)),
        ((if (((v.Num ≠ n) ∨ (v.Text ≠ t)) ∨ ((v.Keys.length : Int) ≠ (p.length : Int))) ∨ ((v.List_.length : Int) ≠ (l.length : Int)) then some true else (value_plain v.Text).bind fun x8 => some (!x8)).bind fun x7 => if x7 = true then some false else jn (fun (_ : Unit) => (slices_ContainsFunc_api_Value_api_Value_c69 (value_shaped_r j) v.List_ ((d + 1 : Nat) : Int)).bind fun x16 => some (!x16)) (fun (kj9 : Unit → Option Bool) => value_shaped_s_l1 v kj9 FU 0))
        = some (decide (v.Num = n ∧ v.Text = t ∧ v.Keys.length = p.length ∧ v.List_.length = l.length) && (plB v.Text && (kOK none v.Keys && v.List_.all (shB d)))) := by
      intro n t l p
      by_cases c : v.Num = n ∧ v.Text = t ∧ v.Keys.length = p.length ∧ v.List_.length = l.length
      · rw [if_neg (by rintro (((h | h) | h) | h); exact h c.1; exact h c.2.1; omega; omega), plain_eq _ hv.text, Option.bind_some, Option.bind_some, decide_eq_true c, Bool.true_and]
        cases hp : plB v.Text with
        | false => rw [if_pos (by decide)]; rfl
        | true =>
          rw [if_neg (by decide), jn_eq', show (0 : Int) = ((0 : Nat) : Int) from rfl, shKeys_run hv FU 0 (by omega) (by omega), shAll_eq hv.list hsub]
          simp only [prv, if_true, List.drop_zero, Option.bind_some, Bool.true_and, Bool.not_not]
          cases kOK none v.Keys <;> simp
      · have h0 : ((v.Num ≠ n ∨ v.Text ≠ t) ∨ (v.Keys.length : Int) ≠ (p.length : Int)) ∨ (v.List_.length : Int) ≠ (l.length : Int) := by
          apply Classical.byContradiction; intro h
          simp only [not_or, ne_eq, Classical.not_not] at h
          exact c ⟨h.1.1.1, h.1.1.2, by omega, by omega⟩
        rw [if_pos h0, Option.bind_some, if_pos rfl, decide_eq_false c]; rfl
    rw [shB]
    have fin : ∀ {n : Int} {t : List UInt8} {l : List ApiValue} {p : List (List UInt8)} {o : Option Bool} (r : Bool), (v.Num = n ∧ v.Text = t ∧ v.Keys.length = p.length ∧ v.List_.length = l.length ↔ hdB v = true) → o = some (decide (v.Num = n ∧ v.Text = t ∧ v.Keys.length = p.length ∧ v.List_.length = l.length) && r) → o = some (hdB v && r) := by
      intro n t l p o r he ho
      rw [ho]
      congr 2
      exact b_eq (by rw [decide_eq_true_iff]; exact he)
    have hdi : hdB v = true ↔ (0 ≤ v.Kind ∧ v.Kind ≤ 6 ∧ (v.Kind = 3 ∨ v.Num = 0) ∧ (v.Kind = 4 ∨ v.Text = []) ∧ (v.Kind = 6 ∨ v.Keys = []) ∧ (v.Kind = 6 → v.Keys.length = v.List_.length) ∧ (5 ≤ v.Kind ∨ v.List_ = [])) := by unfold hdB; exact decide_eq_true_iff
    have lz : ∀ {α : Type} (l : List α), l.length = ([] : List α).length ↔ l = [] := fun l => List.length_eq_zero_iff
    rw [jn_eq']
    by_cases k0 : v.Kind = 0
    · simp only [k0, if_true]
      refine fin _ ?_ (tail _ _ _ _)
      rw [hdi, lz, lz]
      constructor
      · rintro ⟨h1, h2, h3, h4⟩; exact ⟨by omega, by omega, .inr h1, .inr h2, .inr h3, by omega, .inr h4⟩
      · rintro ⟨_, _, h1, h2, h3, _, h4⟩; exact ⟨by omega, h2.resolve_left (by omega), h3.resolve_left (by omega), h4.resolve_left (by omega)⟩
    by_cases k1 : v.Kind = 1
    · simp only [k1, if_true]
      refine fin _ ?_ (tail _ _ _ _)
      rw [hdi, lz, lz]
      constructor
      · rintro ⟨h1, h2, h3, h4⟩; exact ⟨by omega, by omega, .inr h1, .inr h2, .inr h3, by omega, .inr h4⟩
      · rintro ⟨_, _, h1, h2, h3, _, h4⟩; exact ⟨by omega, h2.resolve_left (by omega), h3.resolve_left (by omega), h4.resolve_left (by omega)⟩
    by_cases k2 : v.Kind = 2
    · simp only [k2, if_true]
      refine fin _ ?_ (tail _ _ _ _)
      rw [hdi, lz, lz]
      constructor
      · rintro ⟨h1, h2, h3, h4⟩; exact ⟨by omega, by omega, .inr h1, .inr h2, .inr h3, by omega, .inr h4⟩
      · rintro ⟨_, _, h1, h2, h3, _, h4⟩; exact ⟨by omega, h2.resolve_left (by omega), h3.resolve_left (by omega), h4.resolve_left (by omega)⟩
    rw [if_neg k0, if_neg k1, if_neg k2]
    by_cases k3 : v.Kind = 3
    · rw [if_pos k3]
      refine fin _ ?_ (tail _ _ _ _)
      rw [hdi, lz, lz]
      constructor
      · rintro ⟨h1, h2, h3, h4⟩; exact ⟨by omega, by omega, .inl k3, .inr h2, .inr h3, by omega, .inr h4⟩
      · rintro ⟨_, _, h1, h2, h3, _, h4⟩; exact ⟨rfl, h2.resolve_left (by omega), h3.resolve_left (by omega), h4.resolve_left (by omega)⟩
    rw [if_neg k3]
    by_cases k4 : v.Kind = 4
    · rw [if_pos k4]
      refine fin _ ?_ (tail _ _ _ _)
      rw [hdi, lz, lz]
      constructor
      · rintro ⟨h1, h2, h3, h4⟩; exact ⟨by omega, by omega, .inr h1, .inl k4, .inr h3, by omega, .inr h4⟩
      · rintro ⟨_, _, h1, h2, h3, _, h4⟩; exact ⟨h1.resolve_left (by omega), rfl, h3.resolve_left (by omega), h4.resolve_left (by omega)⟩
    rw [if_neg k4]
    by_cases k6 : v.Kind = 6
    · rw [if_pos k6]
      by_cases c : v.Keys.length = v.List_.length
      · rw [if_neg (by omega)]
        refine fin _ ?_ (tail _ _ _ _)
        rw [hdi]
        constructor
        · rintro ⟨h1, h2, h3, h4⟩; exact ⟨by omega, by omega, .inr h1, .inr h2, .inl k6, fun _ => c, .inl (by omega)⟩
        · rintro ⟨_, _, h1, h2, h3, _, h4⟩; exact ⟨h1.resolve_left (by omega), h2.resolve_left (by omega), rfl, rfl⟩
      · rw [if_pos (by omega)]
        have : hdB v = false := by
          cases h : hdB v with
          | false => rfl
          | true => exact absurd ((hdi.1 h).2.2.2.2.2.1 k6) c
        rw [this]; rfl
    rw [if_neg k6]
    by_cases k5 : v.Kind = 5
    · rw [if_pos k5]
      refine fin _ ?_ (tail _ _ _ _)
      rw [hdi, lz]
      constructor
      · rintro ⟨h1, h2, h3, h4⟩; exact ⟨by omega, by omega, .inr h1, .inr h2, .inr h3, by omega, .inl (by omega)⟩
      · rintro ⟨_, _, h1, h2, h3, _, h4⟩; exact ⟨h1.resolve_left (by omega), h2.resolve_left (by omega), h3.resolve_left (by omega), rfl⟩
    rw [if_neg k5]
    have : hdB v = false := by
      cases h : hdB v with
      | false => rfl
      | true => have := hdi.1 h; omega
    rw [this]; rfl
theorem shaped_eq {v : ApiValue} (hv : TV v) : value_shaped v 8 = some (shB 8 v) := by
  have := FU_M
  unfold value_shaped
  rw [show (8 : Int) = ((8 : Nat) : Int) from rfl]
  exact shaped_run 8 _ (by omega) (by omega) hv
theorem hdB_iff {v : ApiValue} : hdB v = true ↔ (0 ≤ v.Kind ∧ v.Kind ≤ 6 ∧ (v.Kind = 3 ∨ v.Num = 0) ∧ (v.Kind = 4 ∨ v.Text = []) ∧ (v.Kind = 6 ∨ v.Keys = []) ∧ (v.Kind = 6 → v.Keys.length = v.List_.length) ∧ (5 ≤ v.Kind ∨ v.List_ = [])) := by unfold hdB; exact decide_eq_true_iff
theorem shB_wf : ∀ (d : Nat) {v : ApiValue}, shB d v = true → WF v
  | 0, v, h => by simp [shB] at h
  | d + 1, v, h => by
    rw [shB, Bool.and_eq_true, Bool.and_eq_true, Bool.and_eq_true, hdB_iff, List.all_eq_true] at h
    exact .mk h.1.2.2.2.2.2.1 (fun c => h.1.2.2.2.2.1.resolve_left c) (fun x hx => shB_wf d (h.2.2.2 x hx))
end Go.Proofs

set_option linter.unusedVariables false
set_option linter.unusedSimpArgs false
namespace Go.Proofs
open Go.Fw
def wK (p : List (List UInt8)) : Nat := (p.map fun k => 1 + k.length / 100).sum
mutual
def wV : ApiValue → Nat
  | ⟨_, _, t, l, p⟩ => 1 + t.length / 100 + wK p + wL l
def wL : List ApiValue → Nat
  | [] => 0
  | x :: r => wV x + wL r
end
theorem wV_eq (v : ApiValue) : wV v = 1 + v.Text.length / 100 + wK v.Keys + wL v.List_ := by cases v; rw [wV]
inductive KS : ApiValue → Prop
  | mk {v : ApiValue} : (∀ k ∈ v.Keys, k.length ≤ 24) → (∀ x, x ∈ v.List_ → KS x) → KS v
theorem KS.key {v : ApiValue} (h : KS v) : ∀ k ∈ v.Keys, k.length ≤ 24 := by cases h; assumption
theorem KS.sub {v : ApiValue} (h : KS v) : ∀ x, x ∈ v.List_ → KS x := by cases h; assumption
theorem div100 (n : Nat) : ((n : Int).tdiv 100) = ((n / 100 : Nat) : Int) := by
  rw [Int.tdiv_eq_ediv_of_nonneg (by omega)]; omega
theorem pK_run {v : ApiValue} (hv : TV v) {kj : Int → Option Int} : ∀ (J k : Nat) (n : Int), k ≤ v.Keys.length → v.Keys.length - k < J →
    ∃ m, law01_parts_s_l1 v kj J n (k : Int) = kj m ∧ ((∀ q ∈ v.Keys, q.length ≤ 24) → 0 ≤ n → n + (v.Keys.length - k) ≤ 1000000000 → m = n + (wK (v.Keys.drop k) : Int) ∧ m ≤ n + (v.Keys.length - k))
  | 0, k, n, h1, h2 => by omega
  | J + 1, k, n, h1, h2 => by
    rw [law01_parts_s_l1]
    by_cases c : k < v.Keys.length
    · rw [if_pos (by omega), jBu, List.getElem?_eq_getElem c, Option.bind_some, nxt c hv.keys, div100]
      obtain ⟨m, e1, e2⟩ := pK_run hv (kj := kj) J (k + 1) (i64 (i64 (n + 1) + i64 ((v.Keys[k].length / 100 : Nat) : Int))) (by omega) (by omega)
      refine ⟨m, e1, fun hq h0 h3 => ?_⟩
      have h4 := hq _ (List.getElem_mem c)
      have h5 : v.Keys[k].length / 100 = 0 := by omega
      have e : i64 (i64 (n + 1) + i64 ((v.Keys[k].length / 100 : Nat) : Int)) = n + 1 := by
        rw [h5, i64_id (p := n + 1) (by omega) (by omega), i64_id (p := ((0 : Nat) : Int)) (by omega) (by omega), i64_id (by omega) (by omega)]; omega
      rw [e] at e2
      obtain ⟨f1, f2⟩ := e2 hq (by omega) (by omega)
      rw [List.drop_eq_getElem_cons c]
      simp only [wK, List.map_cons, List.sum_cons, h5] at f1 ⊢
      exact ⟨by omega, by omega⟩
    · rw [if_neg (by omega), List.drop_eq_nil_of_le (by omega)]
      refine ⟨n, rfl, fun _ _ _ => ⟨by simp [wK], by omega⟩⟩
theorem pL_run {v : ApiValue} (hv : TV v) {f : ApiValue → Int → Option Int} {d : Int} {M : Int} (hf : ∀ x, x ∈ v.List_ → ∃ p, f x (i64 (d - 1)) = some p ∧ (KS x → 0 ≤ p ∧ p ≤ M ∧ (p < 100000 → (wV x : Int) = p))) (hM : 0 ≤ M ∧ M ≤ 100000000)
    {kj : Int → Option Int} : ∀ (J k : Nat) (n : Int), k ≤ v.List_.length → v.List_.length - k < J →
    ∃ m, law01_parts_s_l2 v f d kj J n (k : Int) = kj m ∧ (KS v → 0 ≤ n → n ≤ 100000 + M → 0 ≤ m ∧ m ≤ 100000 + M ∧ (m < 100000 → m = n + (wL (v.List_.drop k) : Int)))
  | 0, k, n, h1, h2 => by omega
  | J + 1, k, n, h1, h2 => by
    rw [law01_parts_s_l2]
    by_cases c : k < v.List_.length
    · by_cases c2 : n < 100000
      · obtain ⟨p, hp, hq⟩ := hf _ (List.getElem_mem c)
        rw [if_pos ⟨by omega, c2⟩, jBu, List.getElem?_eq_getElem c, Option.bind_some, hp, Option.bind_some, nxt c hv.list]
        obtain ⟨m, e1, e2⟩ := pL_run hv hf hM (kj := kj) J (k + 1) (i64 (n + p)) (by omega) (by omega)
        refine ⟨m, e1, fun hk h0 h3 => ?_⟩
        obtain ⟨q1, q2, q3⟩ := hq (hk.sub _ (List.getElem_mem c))
        rw [i64_id (by omega) (by omega)] at e2
        obtain ⟨f1, f2, f3⟩ := e2 hk (by omega) (by omega)
        refine ⟨f1, f2, fun hm => ?_⟩
        have f4 := f3 hm
        rw [List.drop_eq_getElem_cons c, wL]
        have := q3 (by omega)
        omega
      · rw [if_neg (by omega)]
        exact ⟨n, rfl, fun _ h0 h3 => ⟨h0, h3, fun h => absurd h c2⟩⟩
    · rw [if_neg (by omega), List.drop_eq_nil_of_le (by omega)]
      exact ⟨n, rfl, fun _ h0 h3 => ⟨h0, h3, fun _ => by simp [wL]⟩⟩
theorem parts_run : ∀ (d j : Nat) {v : ApiValue}, d < j → d ≤ 100 → TV v → ∃ p, law01_parts_r j v (d : Int) = some p ∧ (KS v → 0 ≤ p ∧ p ≤ 100000 * ((d : Int) + 1) ∧ (p < 100000 → (wV v : Int) = p))
  | d, 0, v, h, _, _ => by omega
  | 0, j + 1, v, h, _, hv => by
    rw [law01_parts_r, law01_parts_s, if_pos (.inl (.inl (.inl (by decide))))]
    exact ⟨_, rfl, fun _ => ⟨by omega, by omega, fun h => by omega⟩⟩
  | d + 1, j + 1, v, h, hd, hv => by
    rw [law01_parts_r, law01_parts_s]
    by_cases c : ((((d + 1 : Nat) : Int) < 1 ∨ (3000 : Int) < v.List_.length) ∨ (3000 : Int) < v.Keys.length) ∨ (4000 : Int) < v.Text.length
    · rw [if_pos c]
      exact ⟨_, rfl, fun _ => ⟨by omega, by omega, fun h => by omega⟩⟩
    · have hFU := FU_M
      have hK := hv.keys
      have hL := hv.list
      rw [if_neg c, jn_eq', div100, show (0 : Int) = ((0 : Nat) : Int) from rfl]
      have e0 : i64 (1 + i64 ((v.Text.length / 100 : Nat) : Int)) = 1 + ((v.Text.length / 100 : Nat) : Int) := by
        rw [i64_id (p := ((v.Text.length / 100 : Nat) : Int)) (by omega) (by omega), i64_id (by omega) (by omega)]
      rw [e0]
      obtain ⟨m, e1, e2⟩ := pK_run hv (kj := fun (x2 : Int) => jn (fun (x7 : Int) => some x7) (fun (kj6 : Int → Option Int) => law01_parts_s_l2 v (law01_parts_r j) ((d + 1 : Nat) : Int) kj6 FU x2 ((0 : Nat) : Int))) FU 0 (1 + ((v.Text.length / 100 : Nat) : Int)) (by omega) (by omega)
      rw [e1]
      simp only [jn_eq']
      have hf : ∀ x, x ∈ v.List_ → ∃ p, law01_parts_r j x (i64 (((d + 1 : Nat) : Int) - 1)) = some p ∧ (KS x → 0 ≤ p ∧ p ≤ 100000 * ((d : Int) + 1) ∧ (p < 100000 → (wV x : Int) = p)) := fun x hx => by
        rw [i64_id (by omega) (by omega), show ((d + 1 : Nat) : Int) - 1 = (d : Int) by omega]
        exact parts_run d j (by omega) (by omega) (hv.sub x hx)
      obtain ⟨m2, f1, f2⟩ := pL_run hv hf (by omega) (kj := fun x7 => some x7) FU 0 m (by omega) (by omega)
      rw [f1]
      refine ⟨m2, rfl, fun hk => ?_⟩
      obtain ⟨g1, g2⟩ := e2 hk.key (by omega) (by omega)
      obtain ⟨g3, g4, g5⟩ := f2 hk (by omega) (by omega)
      refine ⟨g3, by omega, fun hm => ?_⟩
      have g6 := g5 hm
      rw [List.drop_zero] at g1 g6
      rw [wV_eq]
      omega
theorem long_eq {v : ApiValue} (hv : TV v) : ∃ b, law01_Long v = some b ∧ (KS v → b = false → wV v ≤ 4000) := by
  obtain ⟨p, h1, h2⟩ := parts_run 20 (FU + dpApiValue v) (v := v) (by have := FU_M; omega) (by omega) hv
  unfold law01_Long law01_parts
  rw [show (20 : Int) = ((20 : Nat) : Int) from rfl, h1, Option.bind_some]
  refine ⟨_, rfl, fun hk hb => ?_⟩
  have hp : ¬ 4000 < p := of_decide_eq_false hb
  have := (h2 hk).2.2 (by omega)
  omega
theorem keyB_len {k : List UInt8} (h : keyB k = true) : k.length ≤ 24 := by
  unfold keyB at h
  simp only [Bool.and_eq_true, decide_eq_true_eq] at h
  exact h.1.2
theorem kOK_key : ∀ {p : List (List UInt8)} {pr : Option (List UInt8)}, kOK pr p = true → ∀ k ∈ p, keyB k = true
  | [], _, _, k, hk => by simp at hk
  | x :: r, pr, h, k, hk => by
    rw [kOK_cons, Bool.and_eq_true, Bool.and_eq_true] at h
    rcases List.mem_cons.1 hk with rfl | hk
    · exact h.1
    · exact kOK_key h.2.2 k hk
theorem shB_ks : ∀ (d : Nat) {v : ApiValue}, shB d v = true → KS v
  | 0, v, h => by simp [shB] at h
  | d + 1, v, h => by
    rw [shB, Bool.and_eq_true, Bool.and_eq_true, Bool.and_eq_true, List.all_eq_true] at h
    exact .mk (fun k hk => keyB_len (kOK_key h.2.2.1 k hk)) (fun x hx => shB_ks d (h.2.2.2 x hx))
end Go.Proofs

set_option linter.unusedVariables false
set_option linter.unusedSimpArgs false
namespace Go.Proofs
open Go.Fw
theorem jBf {α : Type} {cap : Nat} (a b : List α) (h : a.length + b.length ≤ cap) : app cap a b = some (a ++ b) := by
  unfold app
  rw [if_pos h]
theorem decF_len : ∀ (f u k : Nat), u < 10 ^ k → 1 ≤ k → (decF f u).length ≤ k
  | 0, u, k, _, _ => by rw [decF]; simp
  | f + 1, u, k, h, hk => by
    rw [decF]
    by_cases c : u < 10
    · rw [if_pos c]; simpa using hk
    · rw [if_neg c]
      obtain ⟨k, rfl⟩ : ∃ m, k = m + 2 := ⟨k - 2, by
        rcases k with _ | _ | k
        · omega
        · simp at h; omega
        · omega⟩
      have := decF_len f (u / 10) (k + 1) (by rw [Nat.pow_succ] at h; omega) (by omega)
      simp only [List.length_append, List.length_cons, List.length_nil]; omega
theorem itoaF_len {n : Int} (h : -9223372036854775808 ≤ n ∧ n ≤ 9223372036854775807) : (itoaF n).length ≤ 21 := by
  unfold itoaF
  split
  · have := decF_len 30 n.natAbs 20 (Nat.lt_of_le_of_lt (show n.natAbs ≤ 9223372036854775808 by omega) (by decide)) (by decide)
    simp only [List.length_cons]; omega
  · have := decF_len 30 n.toNat 20 (Nat.lt_of_le_of_lt (show n.toNat ≤ 9223372036854775808 by omega) (by decide)) (by decide)
    omega
theorem ofI64_nat {p : Int} (h : 0 ≤ p) (h2 : p < 18446744073709551616) : (ofI64 p).toNat = p.toNat := by
  unfold ofI64
  rw [UInt64.toNat_ofNat', Nat.mod_eq_of_lt (by omega)]
  omega
theorem ofI64_neg {p : Int} (h : p < 0) (h2 : -18446744073709551616 ≤ p) : ((ofI64 p).toNat : Int) = p + 18446744073709551616 := by
  unfold ofI64
  rw [UInt64.toNat_ofNat', Nat.mod_eq_of_lt (by omega)]
  omega
theorem appendUint_eq (a : List UInt8) (u : UInt64) (ha : a.length ≤ 1000000000) : strconv_AppendUint a u 10 = some (a ++ decF 30 u.toNat) := by
  have hu : u.toNat < 18446744073709551616 := u.toNat_lt
  have hl := decF_len 30 u.toNat 20 (Nat.lt_trans hu (by decide)) (by decide)
  unfold strconv_AppendUint
  rw [if_pos rfl]
  by_cases c : u.toNat < 100
  · have e : i64 (u.toNat : Int) = (u.toNat : Int) := i64_id (by omega) (by omega)
    rw [if_pos (by omega), e, if_pos (by omega), Int.toNat_natCast, jBf _ _ (by omega)]; rfl
  · rw [if_neg (by omega), if_pos (by omega), if_pos (by omega), Int.toNat_natCast, if_pos ⟨rfl, by omega⟩, if_pos (by omega), List.take_left', jBf _ _ (by omega)]
    · rfl
    · rfl
theorem appendInt_eq (a : List UInt8) {n : Int} (h : -9223372036854775808 ≤ n ∧ n ≤ 9223372036854775807) (ha : a.length ≤ 100000000) : strconv_AppendInt a n 10 = some (a ++ itoaF n) := by
  unfold strconv_AppendInt itoaF
  by_cases c : n < 0
  · have e : (ofI64 (0 - ((ofI64 n).toNat : Int))).toNat = n.natAbs := by
      rw [ofI64_neg c (by omega)]
      have := ofI64_neg (p := 0 - (n + 18446744073709551616)) (by omega) (by omega)
      omega
    rw [if_pos c, if_pos c, jBf _ _ (by simp; omega), Option.bind_some, appendUint_eq _ _ (by simp; omega), e, Option.bind_some, List.append_assoc]; rfl
  · rw [if_neg c, if_neg c, appendUint_eq _ _ (by omega), ofI64_nat (by omega) (by omega), Option.bind_some]
theorem appendUint_nl_eq (u : UInt64) : strconv_AppendUint_nl u 10 = some (decF 30 u.toNat) := by
  have hu : u.toNat < 18446744073709551616 := u.toNat_lt
  have hl := decF_len 30 u.toNat 20 (Nat.lt_trans hu (by decide)) (by decide)
  unfold strconv_AppendUint_nl
  rw [if_pos rfl]
  by_cases c : u.toNat < 100
  · have e : i64 (u.toNat : Int) = (u.toNat : Int) := i64_id (by omega) (by omega)
    rw [if_pos (by omega), e, if_pos (by omega), Int.toNat_natCast, jBf _ _ (by simp; omega)]; rfl
  · rw [if_neg (by omega), if_pos (by omega), if_pos (by omega), Int.toNat_natCast, if_pos ⟨rfl, by omega⟩, if_pos (by omega), List.take_left', jBf _ _ (by simp; omega)]
    · rfl
    · rfl
theorem appendInt_nl_eq {n : Int} (h : -9223372036854775808 ≤ n ∧ n ≤ 9223372036854775807) : strconv_AppendInt_nl_p n 10 = some (itoaF n) := by
  unfold strconv_AppendInt_nl_p strconv_AppendInt_nl itoaF
  by_cases c : n < 0
  · have e : (ofI64 (0 - ((ofI64 n).toNat : Int))).toNat = n.natAbs := by
      rw [ofI64_neg c (by omega)]
      have := ofI64_neg (p := 0 - (n + 18446744073709551616)) (by omega) (by omega)
      omega
    rw [if_pos c, if_pos c, jBf _ _ (by simp), Option.bind_some, appendUint_eq _ _ (by simp), e]; rfl
  · rw [if_neg c, if_neg c, appendUint_nl_eq, ofI64_nat (by omega) (by omega)]; rfl
def esc (c : UInt8) : List UInt8 := if c.toNat = 34 ∨ c.toNat = 92 then [92, c] else [c]
def qt (s : List UInt8) : List UInt8 := 34 :: (s.flatMap esc ++ [34])
theorem esc_q {c : UInt8} (h : c.toNat = 34 ∨ c.toNat = 92) : esc c = [92, c] := by unfold esc; rw [if_pos h]
theorem esc_n {c : UInt8} (h : ¬ (c.toNat = 34 ∨ c.toNat = 92)) : esc c = [c] := by unfold esc; rw [if_neg h]
theorem esc_len (c : UInt8) : (esc c).length ≤ 2 := by unfold esc; split <;> simp
theorem esc_lens : ∀ s : List UInt8, (s.flatMap esc).length ≤ 2 * s.length
  | [] => by simp
  | c :: s => by
    rw [List.flatMap_cons, List.length_append, List.length_cons]
    have := esc_len c
    have := esc_lens s
    omega
theorem qt_len (s : List UInt8) : (qt s).length ≤ 2 * s.length + 2 := by
  unfold qt
  have := esc_lens s
  simp only [List.length_cons, List.length_append, List.length_nil]; omega
theorem quoted_run {s : List UInt8} (hl : s.length ≤ M63) {kj : List UInt8 → Option (List UInt8)} : ∀ (J k : Nat) (x : List UInt8), k ≤ s.length → s.length - k < J → x.length + 2 * (s.length - k) ≤ 1000000000000 → value_quoted_l1 s kj J x (k : Int) = kj (x ++ (s.drop k).flatMap esc)
  | 0, k, x, h1, h2, _ => by omega
  | J + 1, k, x, h1, h2, h3 => by
    rw [value_quoted_l1]
    by_cases c : k < s.length
    · rw [if_pos (by omega), jn_eq', jBu, List.getElem?_eq_getElem c, Option.bind_some, List.drop_eq_getElem_cons c, List.flatMap_cons, Option.bind_some]
      have step : ∀ y : List UInt8, y.length + 1 + 2 * (s.length - (k + 1)) ≤ 1000000000000 → ((some s[k]).bind fun x12 => (app 140737488355328 y ([x12] : List UInt8)).bind fun x13 => value_quoted_l1 s kj J x13 (i64 ((k : Int) + 1))) = kj (y ++ (s[k] :: (s.drop (k + 1)).flatMap esc)) := fun y hy => by
        rw [Option.bind_some, jBf _ _ (by simp; omega), Option.bind_some, nxt c hl, quoted_run hl J (k + 1) _ (by omega) (by omega) (by simp; omega), List.append_assoc]; rfl
      by_cases c1 : s[k].toNat = 34
      · rw [if_pos (by omega), Option.bind_some, if_pos rfl, jBf _ _ (by simp; omega), Option.bind_some, esc_q (.inl c1)]
        refine (step _ (by simp; omega)).trans ?_
        rw [List.append_assoc]; rfl
      · rw [if_neg (by omega), Option.bind_some]
        by_cases c2 : s[k].toNat = 92
        · rw [decide_eq_true (show ((s[k].toNat : Nat) : Int) = 92 by omega), if_pos rfl, jBf _ _ (by simp; omega), Option.bind_some, esc_q (.inr c2)]
          refine (step _ (by simp; omega)).trans ?_
          rw [List.append_assoc]; rfl
        · rw [decide_eq_false (show ¬ ((s[k].toNat : Nat) : Int) = 92 by omega), if_neg (by decide), esc_n (by omega)]
          exact step _ (by omega)
    · rw [if_neg (by omega), List.drop_eq_nil_of_le (by omega)]; simp
theorem quoted_eq (b s : List UInt8) (h : b.length + 2 * s.length ≤ 100000000000) : value_quoted b s = some (b ++ qt s) := by
  unfold value_quoted
  have := FU_M
  have hM : M63 = 9223372036854775807 := rfl
  rw [jBf _ _ (by simp; omega), Option.bind_some, jn_eq', show (0 : Int) = ((0 : Nat) : Int) from rfl, quoted_run (by omega) FU 0 _ (by omega) (by omega) (by simp; omega)]
  have := esc_lens s
  rw [List.drop_zero, jBf _ _ (by simp only [List.length_append, List.length_cons, List.length_nil]; omega), Option.bind_some]
  unfold qt
  simp
theorem quoted_nl_run {s : List UInt8} (hl : s.length ≤ M63) {kj : List UInt8 → Option (List UInt8)} : ∀ (J k : Nat) (x : List UInt8), k ≤ s.length → s.length - k < J → x.length + 2 * (s.length - k) ≤ 1000000000000 → value_quoted_nl_l1 s kj J x (k : Int) = kj (x ++ (s.drop k).flatMap esc)
  | 0, k, x, h1, h2, _ => by omega
  | J + 1, k, x, h1, h2, h3 => by
    rw [value_quoted_nl_l1]
    by_cases c : k < s.length
    · rw [if_pos (by omega), jn_eq', jBu, List.getElem?_eq_getElem c, Option.bind_some, List.drop_eq_getElem_cons c, List.flatMap_cons, Option.bind_some]
      have step : ∀ y : List UInt8, y.length + 1 + 2 * (s.length - (k + 1)) ≤ 1000000000000 → ((some s[k]).bind fun x12 => (app 140737488355328 y ([x12] : List UInt8)).bind fun x13 => value_quoted_nl_l1 s kj J x13 (i64 ((k : Int) + 1))) = kj (y ++ (s[k] :: (s.drop (k + 1)).flatMap esc)) := fun y hy => by
        rw [Option.bind_some, jBf _ _ (by simp; omega), Option.bind_some, nxt c hl, quoted_nl_run hl J (k + 1) _ (by omega) (by omega) (by simp; omega), List.append_assoc]; rfl
      by_cases c1 : s[k].toNat = 34
      · rw [if_pos (by omega), Option.bind_some, if_pos rfl, jBf _ _ (by simp; omega), Option.bind_some, esc_q (.inl c1)]
        refine (step _ (by simp; omega)).trans ?_
        rw [List.append_assoc]; rfl
      · rw [if_neg (by omega), Option.bind_some]
        by_cases c2 : s[k].toNat = 92
        · rw [decide_eq_true (show ((s[k].toNat : Nat) : Int) = 92 by omega), if_pos rfl, jBf _ _ (by simp; omega), Option.bind_some, esc_q (.inr c2)]
          refine (step _ (by simp; omega)).trans ?_
          rw [List.append_assoc]; rfl
        · rw [decide_eq_false (show ¬ ((s[k].toNat : Nat) : Int) = 92 by omega), if_neg (by decide), esc_n (by omega)]
          exact step _ (by omega)
    · rw [if_neg (by omega), List.drop_eq_nil_of_le (by omega)]; simp
theorem quoted_nl_eq (s : List UInt8) (h : 2 * s.length ≤ 100000000000) : value_quoted_nl s = some (qt s) := by
  unfold value_quoted_nl
  have := FU_M
  have hM : M63 = 9223372036854775807 := rfl
  rw [jBf _ _ (by simp), Option.bind_some, jn_eq', show (0 : Int) = ((0 : Nat) : Int) from rfl, quoted_nl_run (by omega) FU 0 _ (by omega) (by omega) (by simp; omega)]
  have := esc_lens s
  rw [List.drop_zero, jBf _ _ (by simp only [List.length_append, List.length_cons, List.length_nil]; omega), Option.bind_some]
  unfold qt
  simp
end Go.Proofs

set_option linter.unusedVariables false
set_option linter.unusedSimpArgs false
namespace Go.Proofs
open Go.Fw
mutual
def tx : ApiValue → List UInt8
  | ⟨k, n, t, l, p⟩ => if k = 1 then [102, 97, 108, 115, 101] else if k = 2 then [116, 114, 117, 101] else if k = 3 then itoaF n else if k = 4 then qt t
    else if k = 5 then 91 :: (txL false true l p ++ [93]) else if k = 6 then 123 :: (txL true true l p ++ [125]) else [110, 117, 108, 108]
def txL : Bool → Bool → List ApiValue → List (List UInt8) → List UInt8
  | _, _, [], _ => []
  | o, f, x :: l, p => (if f = true then [] else [44]) ++ ((if o = true then qt (p.headD []) ++ [58] else []) ++ (tx x ++ txL o false l p.tail))
end
theorem tx_eq (v : ApiValue) : tx v = if v.Kind = 1 then [102, 97, 108, 115, 101] else if v.Kind = 2 then [116, 114, 117, 101] else if v.Kind = 3 then itoaF v.Num else if v.Kind = 4 then qt v.Text
    else if v.Kind = 5 then 91 :: (txL false true v.List_ v.Keys ++ [93]) else if v.Kind = 6 then 123 :: (txL true true v.List_ v.Keys ++ [125]) else [110, 117, 108, 108] := by cases v; rw [tx]
theorem wV_pos (v : ApiValue) : 1 ≤ wV v := by rw [wV_eq]; omega
theorem txL_len : ∀ (o f : Bool) (l : List ApiValue) (p : List (List UInt8)), (o = true → p.length = l.length) → (∀ k ∈ p, k.length ≤ 24) → (∀ x, x ∈ l → (tx x).length + 60 ≤ 500 * wV x) → (txL o f l p).length ≤ 500 * wL l
  | _, _, [], _, _, _, _ => by rw [txL]; simp
  | o, f, x :: l, p, hp, hk, hx => by
    rw [txL, wL]
    have h1 := hx x (by simp)
    have hk2 : ∀ k ∈ p.tail, k.length ≤ 24 := fun k h => hk k (List.mem_of_mem_tail h)
    have h2 := txL_len o false l p.tail (fun h => by rw [List.length_tail, hp h, List.length_cons]; omega) hk2 (fun y hy => hx y (by simp [hy]))
    have h3 : (if f = true then ([] : List UInt8) else [44]).length ≤ 1 := by split <;> simp
    have h4 : (if o = true then qt (p.headD []) ++ [58] else ([] : List UInt8)).length ≤ 51 := by
      split
      · have := qt_len (p.headD [])
        have h5 : (p.headD []).length ≤ 24 := by
          cases p with
          | nil => simp
          | cons u p => exact hk u (by simp)
        simp only [List.length_append, List.length_cons, List.length_nil]; omega
      · simp
    simp only [List.length_append]
    omega
theorem tx_len_n : ∀ (n : Nat) {v : ApiValue}, dpApiValue v ≤ n → TV v → WF v → KS v → (tx v).length + 60 ≤ 500 * wV v
  | 0, v, h, _, _, _ => by rw [dpApiValue_eq] at h; omega
  | n + 1, v, h, hv, hw, hk => by
    have hx : ∀ x, x ∈ v.List_ → (tx x).length + 60 ≤ 500 * wV x := fun x hx => tx_len_n n (by have := dp_sub hx; omega) (hv.sub x hx) (hw.sub x hx) (hk.sub x hx)
    rw [tx_eq]
    have h1 := wV_eq v
    split
    · simp; omega
    split
    · simp; omega
    split
    · have := itoaF_len hv.num; omega
    split
    · have := qt_len v.Text; omega
    split
    · have := txL_len false true v.List_ v.Keys (by simp) hk.key hx
      simp only [List.length_cons, List.length_append, List.length_nil]; omega
    split
    · rename_i c
      have := txL_len true true v.List_ v.Keys (fun _ => hw.obj c) hk.key hx
      simp only [List.length_cons, List.length_append, List.length_nil]; omega
    · simp; omega
theorem tx_len {v : ApiValue} (hv : TV v) (hw : WF v) (hk : KS v) : (tx v).length + 60 ≤ 500 * wV v := tx_len_n _ (Nat.le_refl _) hv hw hk
theorem wL_drop (l : List ApiValue) {k : Nat} (c : k < l.length) : wL (l.drop k) = wV l[k] + wL (l.drop (k + 1)) := by
  rw [List.drop_eq_getElem_cons c, wL]
theorem textL_run {v : ApiValue} (hv : TV v) (hw : WF v) (hk : KS v) {f : List UInt8 → ApiValue → Option (List UInt8)} (hf : ∀ x, x ∈ v.List_ → ∀ b : List UInt8, b.length + 700 * wV x ≤ 90000640 → f b x = some (b ++ tx x))
    {kj : List UInt8 → Option (List UInt8)} : ∀ (J k : Nat) (b : List UInt8), k ≤ v.List_.length → v.List_.length - k < J → b.length + 700 * wL (v.List_.drop k) ≤ 90000000 → value_text_s_l1 v f kj J b (k : Int) = kj (b ++ txL (decide (v.Kind = 6)) (decide (k = 0)) (v.List_.drop k) (v.Keys.drop k))
  | 0, k, b, h1, h2, _ => by omega
  | J + 1, k, b, h1, h2, h3 => by
    rw [value_text_s_l1]
    by_cases c : k < v.List_.length
    · have hm := List.getElem_mem c
      have hl := tx_len (hv.sub _ hm) (hw.sub _ hm) (hk.sub _ hm)
      have hwp := wV_pos v.List_[k]
      rw [wL_drop _ c] at h3
      rw [if_pos (by omega), jBu, List.getElem?_eq_getElem c, Option.bind_some, jn_eq', List.drop_eq_getElem_cons c, txL]
      have step : ∀ y : List UInt8, y.length ≤ b.length + 1 → (if v.Kind = 6 then (geti v.Keys (k : Int)).bind fun x19 => (value_quoted y x19).bind fun x20 => (app 140737488355328 x20 ([(58 : UInt8)] : List UInt8)).bind fun x21 => (f x21 v.List_[k]).bind fun x22 => value_text_s_l1 v f kj J x22 (i64 ((k : Int) + 1)) else (f y v.List_[k]).bind fun x23 => value_text_s_l1 v f kj J x23 (i64 ((k : Int) + 1)))
          = kj (y ++ ((if (decide (v.Kind = 6)) = true then qt ((v.Keys.drop k).headD []) ++ [58] else []) ++ (tx v.List_[k] ++ txL (decide (v.Kind = 6)) false (v.List_.drop (k + 1)) (v.Keys.drop k).tail))) := by
        intro y hy
        have hd0 : decide (k + 1 = 0) = false := decide_eq_false (by omega)
        by_cases k6 : v.Kind = 6
        · have ck : k < v.Keys.length := by rw [hw.obj k6]; exact c
          have hq := hk.key _ (List.getElem_mem ck)
          have hql := qt_len v.Keys[k]
          have hh : (v.Keys.drop k).headD [] = v.Keys[k] := by rw [List.drop_eq_getElem_cons ck]; rfl
          rw [if_pos k6, jBu, List.getElem?_eq_getElem ck, Option.bind_some, quoted_eq _ _ (by omega), Option.bind_some, jBf _ _ (by simp only [List.length_append, List.length_cons, List.length_nil]; omega), Option.bind_some, hf _ hm _ (by simp only [List.length_append, List.length_cons, List.length_nil]; omega), Option.bind_some, nxt c hv.list,
            textL_run hv hw hk hf J (k + 1) _ (by omega) (by omega) (by simp only [List.length_append, List.length_cons, List.length_nil]; omega), decide_eq_true k6, hd0, if_pos rfl, hh, List.tail_drop]
          simp only [List.append_assoc]
        · rw [if_neg k6, hf _ hm _ (by omega), Option.bind_some, nxt c hv.list, textL_run hv hw hk hf J (k + 1) _ (by omega) (by omega) (by simp only [List.length_append]; omega), decide_eq_false k6, hd0, if_neg (by decide), List.tail_drop]
          simp only [List.append_assoc, List.nil_append]
      by_cases k0 : k = 0
      · rw [if_neg (by omega), decide_eq_true k0, if_pos rfl, List.nil_append]
        exact step b (by omega)
      · rw [if_pos (by omega), jBf _ _ (by simp; omega), Option.bind_some, decide_eq_false k0, if_neg (by decide), ← List.append_assoc]
        exact step _ (by simp)
    · rw [if_neg (by omega), List.drop_eq_nil_of_le (by omega), txL, List.append_nil]
theorem text_run : ∀ (j : Nat) {v : ApiValue} (b : List UInt8), dpApiValue v ≤ j → TV v → WF v → KS v → b.length + 700 * wV v ≤ 90000640 → value_text_r j b v = some (b ++ tx v)
  | 0, v, b, h, _, _, _, _ => by rw [dpApiValue_eq] at h; omega
  | j + 1, v, b, h, hv, hw, hk, hb => by
    have hf : ∀ x, x ∈ v.List_ → ∀ b : List UInt8, b.length + 700 * wV x ≤ 90000640 → value_text_r j b x = some (b ++ tx x) := fun x hx b hb => text_run j b (by have := dp_sub hx; omega) (hv.sub x hx) (hw.sub x hx) (hk.sub x hx) hb
    have hwv := wV_eq v
    have hFU := FU_M
    have hL := hv.list
    rw [value_text_r, value_text_s, jn_eq', tx_eq]
    by_cases k1 : v.Kind = 1
    · rw [if_pos k1, if_pos k1, jBf _ _ (by simp; omega)]; rfl
    rw [if_neg k1, if_neg k1]
    by_cases k2 : v.Kind = 2
    · rw [if_pos k2, if_pos k2, jBf _ _ (by simp; omega)]; rfl
    rw [if_neg k2, if_neg k2]
    by_cases k3 : v.Kind = 3
    · rw [if_pos k3, if_pos k3, strconv_AppendInt_o, appendInt_eq _ hv.num (by omega)]; rfl
    rw [if_neg k3, if_neg k3]
    by_cases k4 : v.Kind = 4
    · rw [if_pos k4, if_pos k4, quoted_eq _ _ (by omega)]; rfl
    rw [if_neg k4, if_neg k4, jn_eq']
    have ht := tx_len hv hw hk
    rw [tx_eq, if_neg k1, if_neg k2, if_neg k3, if_neg k4] at ht
    by_cases k5 : v.Kind = 5
    · rw [if_pos k5, if_pos k5, decide_eq_true k5]
      rw [if_pos k5] at ht
      simp only [if_true, k5]
      rw [show geti ([([] : List UInt8), [], [], [], [], [91, 93], [123, 125]] : List (List UInt8)) 5 = some [91, 93] from rfl, Option.bind_some, show geti ([91, 93] : List UInt8) 0 = some 91 from rfl, Option.bind_some, jBf _ _ (by simp; omega), Option.bind_some, jn_eq', show (0 : Int) = ((0 : Nat) : Int) from rfl,
        textL_run hv hw hk hf FU 0 _ (by omega) (by omega) (by simp only [List.length_append, List.length_cons, List.length_nil, List.drop_zero]; omega), show geti ([91, 93] : List UInt8) 1 = some 93 from rfl, Option.bind_some]
      simp only [List.drop_zero, k5, List.length_cons, List.length_append, List.length_nil] at ht ⊢
      simp only [show decide ((5 : Int) = 6) = false from rfl, decide_true]
      rw [jBf _ _ (by simp only [List.length_append, List.length_cons, List.length_nil]; omega), Option.bind_some]
      simp
    rw [if_neg k5, if_neg k5]
    by_cases k6 : v.Kind = 6
    · rw [if_pos k6, decide_eq_true k6]
      rw [if_neg k5, if_pos k6] at ht
      simp only [if_true, k6]
      rw [show geti ([([] : List UInt8), [], [], [], [], [91, 93], [123, 125]] : List (List UInt8)) 6 = some [123, 125] from rfl, Option.bind_some, show geti ([123, 125] : List UInt8) 0 = some 123 from rfl, Option.bind_some, jBf _ _ (by simp; omega), Option.bind_some, jn_eq', show (0 : Int) = ((0 : Nat) : Int) from rfl,
        textL_run hv hw hk hf FU 0 _ (by omega) (by omega) (by simp only [List.length_append, List.length_cons, List.length_nil, List.drop_zero]; omega), show geti ([123, 125] : List UInt8) 1 = some 125 from rfl, Option.bind_some]
      simp only [List.drop_zero, k6, List.length_cons, List.length_append, List.length_nil] at ht ⊢
      simp only [decide_true]
      rw [jBf _ _ (by simp only [List.length_append, List.length_cons, List.length_nil]; omega), Option.bind_some]
      simp
    · rw [if_neg k6, decide_eq_false k6]
      simp only [Bool.false_eq_true, if_false]
      rw [jBf _ _ (by simp; omega)]; rfl
theorem text_eq {v : ApiValue} (b : List UInt8) (hv : TV v) (hw : WF v) (hk : KS v) (hb : b.length + 700 * wV v ≤ 90000640) : value_text b v = some (b ++ tx v) := by
  unfold value_text
  exact text_run _ b (by omega) hv hw hk hb
end Go.Proofs

set_option linter.unusedVariables false
set_option linter.unusedSimpArgs false
namespace Go.Proofs
open Go.Fw
theorem textNL_run {v : ApiValue} (hv : TV v) (hw : WF v) (hk : KS v) (hf : ∀ x, x ∈ v.List_ → ∀ b : List UInt8, b.length + 700 * wV x ≤ 90000640 → value_text b x = some (b ++ tx x))
    {kj : List UInt8 → Option (List UInt8)} : ∀ (J k : Nat) (b : List UInt8), k ≤ v.List_.length → v.List_.length - k < J → b.length + 700 * wL (v.List_.drop k) ≤ 90000000 → value_text_nl_l1 v kj J b (k : Int) = kj (b ++ txL (decide (v.Kind = 6)) (decide (k = 0)) (v.List_.drop k) (v.Keys.drop k))
  | 0, k, b, h1, h2, _ => by omega
  | J + 1, k, b, h1, h2, h3 => by
    rw [value_text_nl_l1]
    by_cases c : k < v.List_.length
    · have hm := List.getElem_mem c
      have hl := tx_len (hv.sub _ hm) (hw.sub _ hm) (hk.sub _ hm)
      have hwp := wV_pos v.List_[k]
      rw [wL_drop _ c] at h3
      rw [if_pos (by omega), jBu, List.getElem?_eq_getElem c, Option.bind_some, jn_eq', List.drop_eq_getElem_cons c, txL]
      have step : ∀ y : List UInt8, y.length ≤ b.length + 1 → (if v.Kind = 6 then (geti v.Keys (k : Int)).bind fun x19 => (value_quoted y x19).bind fun x20 => (app 140737488355328 x20 ([(58 : UInt8)] : List UInt8)).bind fun x21 => (value_text x21 v.List_[k]).bind fun x22 => value_text_nl_l1 v kj J x22 (i64 ((k : Int) + 1)) else (value_text y v.List_[k]).bind fun x23 => value_text_nl_l1 v kj J x23 (i64 ((k : Int) + 1)))
          = kj (y ++ ((if (decide (v.Kind = 6)) = true then qt ((v.Keys.drop k).headD []) ++ [58] else []) ++ (tx v.List_[k] ++ txL (decide (v.Kind = 6)) false (v.List_.drop (k + 1)) (v.Keys.drop k).tail))) := by
        intro y hy
        have hd0 : decide (k + 1 = 0) = false := decide_eq_false (by omega)
        by_cases k6 : v.Kind = 6
        · have ck : k < v.Keys.length := by rw [hw.obj k6]; exact c
          have hq := hk.key _ (List.getElem_mem ck)
          have hql := qt_len v.Keys[k]
          have hh : (v.Keys.drop k).headD [] = v.Keys[k] := by rw [List.drop_eq_getElem_cons ck]; rfl
          rw [if_pos k6, jBu, List.getElem?_eq_getElem ck, Option.bind_some, quoted_eq _ _ (by omega), Option.bind_some, jBf _ _ (by simp only [List.length_append, List.length_cons, List.length_nil]; omega), Option.bind_some, hf _ hm _ (by simp only [List.length_append, List.length_cons, List.length_nil]; omega), Option.bind_some, nxt c hv.list,
            textNL_run hv hw hk hf J (k + 1) _ (by omega) (by omega) (by simp only [List.length_append, List.length_cons, List.length_nil]; omega), decide_eq_true k6, hd0, if_pos rfl, hh, List.tail_drop]
          simp only [List.append_assoc]
        · rw [if_neg k6, hf _ hm _ (by omega), Option.bind_some, nxt c hv.list, textNL_run hv hw hk hf J (k + 1) _ (by omega) (by omega) (by simp only [List.length_append]; omega), decide_eq_false k6, hd0, if_neg (by decide), List.tail_drop]
          simp only [List.append_assoc, List.nil_append]
      by_cases k0 : k = 0
      · rw [if_neg (by omega), decide_eq_true k0, if_pos rfl, List.nil_append]
        exact step b (by omega)
      · rw [if_pos (by omega), jBf _ _ (by simp; omega), Option.bind_some, decide_eq_false k0, if_neg (by decide), ← List.append_assoc]
        exact step _ (by simp)
    · rw [if_neg (by omega), List.drop_eq_nil_of_le (by omega), txL, List.append_nil]
theorem text_nl_eq {v : ApiValue} (hv : TV v) (hw : WF v) (hk : KS v) (hb : 700 * wV v ≤ 90000640) : value_text_nl v = some (tx v) := by
  have hf : ∀ x, x ∈ v.List_ → ∀ b : List UInt8, b.length + 700 * wV x ≤ 90000640 → value_text b x = some (b ++ tx x) := fun x hx b hb => text_eq b (hv.sub x hx) (hw.sub x hx) (hk.sub x hx) hb
  have hwv := wV_eq v
  have hFU := FU_M
  have hL := hv.list
  rw [value_text_nl, jn_eq', tx_eq]
  by_cases k1 : v.Kind = 1
  · rw [if_pos k1, if_pos k1, jBf _ _ (by simp)]; rfl
  rw [if_neg k1, if_neg k1]
  by_cases k2 : v.Kind = 2
  · rw [if_pos k2, if_pos k2, jBf _ _ (by simp)]; rfl
  rw [if_neg k2, if_neg k2]
  by_cases k3 : v.Kind = 3
  · rw [if_pos k3, if_pos k3, appendInt_nl_eq hv.num]; rfl
  rw [if_neg k3, if_neg k3]
  by_cases k4 : v.Kind = 4
  · rw [if_pos k4, if_pos k4, quoted_nl_eq _ (by omega)]; rfl
  rw [if_neg k4, if_neg k4, jn_eq']
  have ht := tx_len hv hw hk
  rw [tx_eq, if_neg k1, if_neg k2, if_neg k3, if_neg k4] at ht
  by_cases k5 : v.Kind = 5
  · rw [if_pos k5, if_pos k5, decide_eq_true k5]
    rw [if_pos k5] at ht
    simp only [if_true, k5]
    rw [show geti ([([] : List UInt8), [], [], [], [], [91, 93], [123, 125]] : List (List UInt8)) 5 = some [91, 93] from rfl, Option.bind_some, show geti ([91, 93] : List UInt8) 0 = some 91 from rfl, Option.bind_some, jBf _ _ (by simp), Option.bind_some, jn_eq', show (0 : Int) = ((0 : Nat) : Int) from rfl,
      textNL_run hv hw hk hf FU 0 _ (by omega) (by omega) (by simp only [List.length_append, List.length_cons, List.length_nil, List.drop_zero]; omega), show geti ([91, 93] : List UInt8) 1 = some 93 from rfl, Option.bind_some]
    simp only [List.drop_zero, k5, List.length_cons, List.length_append, List.length_nil] at ht ⊢
    simp only [show decide ((5 : Int) = 6) = false from rfl, decide_true]
    rw [jBf _ _ (by simp only [List.length_append, List.length_cons, List.length_nil]; omega), Option.bind_some]
    simp
  rw [if_neg k5, if_neg k5]
  by_cases k6 : v.Kind = 6
  · rw [if_pos k6, decide_eq_true k6]
    rw [if_neg k5, if_pos k6] at ht
    simp only [if_true, k6]
    rw [show geti ([([] : List UInt8), [], [], [], [], [91, 93], [123, 125]] : List (List UInt8)) 6 = some [123, 125] from rfl, Option.bind_some, show geti ([123, 125] : List UInt8) 0 = some 123 from rfl, Option.bind_some, jBf _ _ (by simp), Option.bind_some, jn_eq', show (0 : Int) = ((0 : Nat) : Int) from rfl,
      textNL_run hv hw hk hf FU 0 _ (by omega) (by omega) (by simp only [List.length_append, List.length_cons, List.length_nil, List.drop_zero]; omega), show geti ([123, 125] : List UInt8) 1 = some 125 from rfl, Option.bind_some]
    simp only [List.drop_zero, k6, List.length_cons, List.length_append, List.length_nil] at ht ⊢
    simp only [decide_true]
    rw [jBf _ _ (by simp only [List.length_append, List.length_cons, List.length_nil]; omega), Option.bind_some]
    simp
  · rw [if_neg k6, decide_eq_false k6]
    simp only [Bool.false_eq_true, if_false]
    rw [jBf _ _ (by simp)]; rfl
def mayB (v : ApiValue) : Bool := shB 8 v && decide ((tx v).length ≤ 512)
theorem vmay_eq {v : ApiValue} (hv : TV v) (hb : KS v → wV v ≤ 4000) : value_May v = some (mayB v) := by
  unfold value_May mayB
  rw [shaped_eq hv, Option.bind_some]
  cases h : shB 8 v with
  | false => rw [if_neg (by decide)]; rfl
  | true =>
    rw [if_pos rfl, text_nl_eq hv (shB_wf 8 h) (shB_ks 8 h) (by have := hb (shB_ks 8 h); omega), Option.bind_some, Option.bind_some, Bool.true_and]
    exact congrArg some (decide_eq_decide.2 (by omega))
theorem mayB_wf {v : ApiValue} (h : mayB v = true) : WF v := by
  unfold mayB at h
  rw [Bool.and_eq_true] at h
  exact shB_wf 8 h.1
end Go.Proofs

set_option linter.unusedVariables false
set_option linter.unusedSimpArgs false
namespace Go.Proofs
open Go.Fw
def dpR : Nat → ApiValue → Nat
  | 0, _ => 20
  | m + 1, v => (v.List_.map (dpR m)).foldl max 0 + 1
theorem dpR_le : ∀ (m : Nat) (v : ApiValue), dpR m v ≤ 20 + m
  | 0, v => by rw [dpR]; omega
  | m + 1, v => by
    rw [dpR]
    have : ∀ (l : List ApiValue) (x : Nat), x ≤ 20 + m → (l.map (dpR m)).foldl max x ≤ 20 + m := by
      intro l
      induction l with
      | nil => intro x hx; simpa using hx
      | cons y l ih => intro x hx; rw [List.map_cons, List.foldl_cons]; exact ih _ (by have := dpR_le m y; omega)
    have := this v.List_ 0 (by omega)
    omega
theorem deepL_run {v : ApiValue} (hv : TV v) {f : ApiValue → Int → Option Int} {d : Int} {m : Nat} (hm : m ≤ 100) (hf : ∀ x, x ∈ v.List_ → f x (i64 (d - 1)) = some ((dpR m x : Nat) : Int)) {kj : Int → Option Int} :
    ∀ (J k y : Nat), k ≤ v.List_.length → v.List_.length - k < J → ref01_Deep_s_l1 v f d kj J (y : Int) (k : Int) = kj ((((v.List_.drop k).map (dpR m)).foldl max y : Nat) : Int)
  | 0, k, y, h1, h2 => by omega
  | J + 1, k, y, h1, h2 => by
    rw [ref01_Deep_s_l1]
    by_cases c : k < v.List_.length
    · rw [if_pos (by omega), jBu, List.getElem?_eq_getElem c, Option.bind_some, hf _ (List.getElem_mem c), Option.bind_some, nxt c hv.list, List.drop_eq_getElem_cons c, List.map_cons, List.foldl_cons,
        show max (y : Int) ((dpR m v.List_[k] : Nat) : Int) = ((max y (dpR m v.List_[k]) : Nat) : Int) by omega]
      exact deepL_run hv hm hf J (k + 1) _ (by omega) (by omega)
    · rw [if_neg (by omega), List.drop_eq_nil_of_le (by omega)]; rfl
theorem deep_run : ∀ (m j : Nat) {v : ApiValue}, m < j → m ≤ 100 → TV v → ref01_Deep_r j v (m : Int) = some ((dpR m v : Nat) : Int)
  | m, 0, v, h, _, _ => by omega
  | 0, j + 1, v, h, _, hv => by rw [ref01_Deep_r, ref01_Deep_s, if_pos (by decide)]; rfl
  | m + 1, j + 1, v, h, hm, hv => by
    have hFU := FU_M
    have hL := hv.list
    rw [ref01_Deep_r, ref01_Deep_s, if_neg (by omega), jn_eq', show (0 : Int) = ((0 : Nat) : Int) from rfl,
      deepL_run hv (m := m) (by omega) (fun x hx => by
        rw [i64_id (by omega) (by omega), show ((m + 1 : Nat) : Int) - 1 = (m : Int) by omega]
        exact deep_run m j (by omega) (by omega) (hv.sub x hx)) FU 0 0 (by omega) (by omega), List.drop_zero]
    have h20 := dpR_le (m + 1) v
    rw [dpR] at h20 ⊢
    rw [i64_id (by omega) (by omega)]; rfl
theorem deep_eq {v : ApiValue} (hv : TV v) : ref01_Deep v 15 = some ((dpR 15 v : Nat) : Int) := by
  have := FU_M
  unfold ref01_Deep
  rw [show (15 : Int) = ((15 : Nat) : Int) from rfl]
  exact deep_run 15 _ (by omega) (by omega) hv
theorem rplain_run {s : List UInt8} (hl : s.length ≤ M63) {kj : Unit → Option Bool} (hk : kj () = some true) : ∀ (J k : Nat), k ≤ s.length → s.length - k < J → ref01_plain_l1 s kj J (k : Int) = some (plB (s.drop k))
  | 0, k, h1, h2 => by omega
  | J + 1, k, h1, h2 => by
    rw [ref01_plain_l1]
    by_cases c : k < s.length
    · rw [if_pos (by omega), jBu, List.getElem?_eq_getElem c, Option.bind_some, List.drop_eq_getElem_cons c]
      show _ = some (okB s[k] && plB (s.drop (k + 1)))
      unfold okB
      by_cases c1 : s[k].toNat < 32
      · rw [if_pos (by omega), Option.bind_some, if_pos rfl, decide_eq_false (show ¬ 32 ≤ s[k].toNat by omega)]; rfl
      · rw [if_neg (by omega), Option.bind_some, Option.bind_some]
        by_cases c2 : 126 < s[k].toNat
        · rw [decide_eq_true (show (126 : Int) < _ by omega), if_pos rfl, decide_eq_false (show ¬ s[k].toNat ≤ 126 by omega)]; simp
        · rw [decide_eq_false (show ¬ (126 : Int) < _ by omega), if_neg (by decide), nxt c hl, rplain_run hl hk J (k + 1) (by omega) (by omega), decide_eq_true (show 32 ≤ s[k].toNat by omega), decide_eq_true (show s[k].toNat ≤ 126 by omega)]; rfl
    · rw [if_neg (by omega), hk, List.drop_eq_nil_of_le (by omega)]; rfl
theorem rplain_eq (s : List UInt8) (hl : s.length ≤ M63) : ref01_plain s = some (plB s) := by
  unfold ref01_plain
  have := FU_M
  rw [jn_eq', show (0 : Int) = ((0 : Nat) : Int) from rfl, rplain_run hl rfl FU 0 (by omega) (by omega)]; rfl
def kc (c : UInt8) : Bool := decide (33 ≤ c.toNat ∧ c.toNat ≤ 126 ∧ c.toNat ≠ 46 ∧ c.toNat ≠ 34)
theorem rKey_run {s : List UInt8} (hl : s.length ≤ M63) {kj : Unit → Option Bool} (hk : kj () = some true) : ∀ (J k : Nat), k ≤ s.length → s.length - k < J → ref01_Key_l1 s kj J (k : Int) = some ((s.drop k).all kc)
  | 0, k, h1, h2 => by omega
  | J + 1, k, h1, h2 => by
    rw [ref01_Key_l1]
    by_cases c : k < s.length
    · rw [if_pos (by omega), jBu, List.getElem?_eq_getElem c, Option.bind_some, List.drop_eq_getElem_cons c, List.all_cons]
      unfold kc
      simp only [Option.bind_some]
      by_cases c1 : 33 ≤ s[k].toNat ∧ s[k].toNat ≤ 126 ∧ s[k].toNat ≠ 46 ∧ s[k].toNat ≠ 34
      · rw [decide_eq_true c1, Bool.true_and, if_neg (by omega), Option.bind_some, decide_eq_false (show ¬ (126 : Int) < _ by omega), if_neg (by decide), Option.bind_some, decide_eq_false (show ¬ (s[k].toNat : Int) = 46 by omega), if_neg (by decide), Option.bind_some, decide_eq_false (show ¬ (s[k].toNat : Int) = 34 by omega), if_neg (by decide), nxt c hl]
        exact rKey_run hl hk J (k + 1) (by omega) (by omega)
      · rw [decide_eq_false c1, Bool.false_and]
        by_cases d1 : (s[k].toNat : Int) < 33
        · rw [if_pos d1]; rfl
        rw [if_neg d1, Option.bind_some]
        by_cases d2 : (126 : Int) < (s[k].toNat : Int)
        · rw [decide_eq_true d2]; rfl
        rw [decide_eq_false d2, if_neg (by decide), Option.bind_some]
        by_cases d3 : (s[k].toNat : Int) = 46
        · rw [decide_eq_true d3]; rfl
        rw [decide_eq_false d3, if_neg (by decide), Option.bind_some]
        have d4 : (s[k].toNat : Int) = 34 := by omega
        rw [decide_eq_true d4]; rfl
    · rw [if_neg (by omega), hk, List.drop_eq_nil_of_le (by omega)]; rfl
theorem any_cons (c : UInt8) (l q : List UInt8) : Lib.containsAny (c :: l) q = (q.contains c || Lib.containsAny l q) := by
  unfold Lib.containsAny
  rw [Lib.indexAny]
  have h := Lib.indexAny_ge q l
  cases q.contains c with
  | true => simp
  | false =>
    rw [if_neg (by decide), Bool.false_or]
    by_cases e : Lib.indexAny l q = -1
    · rw [if_pos (by simpa using e), e]
    · rw [if_neg (by simpa using e)]
      exact decide_eq_decide.2 (by omega)
theorem kc_one (c : UInt8) : kc c = (okB c && !([32, 46, 34] : List UInt8).contains c) := by
  apply b_eq
  unfold kc okB
  rw [Bool.and_eq_true, decide_eq_true_iff, Bool.and_eq_true, decide_eq_true_iff, decide_eq_true_iff, Bool.not_eq_true']
  have e : ([32, 46, 34] : List UInt8).contains c = false ↔ ¬ (c.toNat = 32 ∨ c.toNat = 46 ∨ c.toNat = 34) := by
    rw [← Bool.not_eq_true, List.contains_iff_mem]
    simp only [List.mem_cons, List.not_mem_nil, or_false, ← UInt8.toNat_inj]
    exact Iff.rfl
  rw [e]; omega
theorem kc_all : ∀ s : List UInt8, s.all kc = (plB s && !Lib.containsAny s [32, 46, 34])
  | [] => rfl
  | c :: s => by
    rw [List.all_cons, kc_all s, any_cons, kc_one]
    show _ = ((okB c && plB s) && _)
    cases okB c <;> cases plB s <;> cases ([32, 46, 34] : List UInt8).contains c <;> cases Lib.containsAny s [32, 46, 34] <;> rfl
theorem rKey_eq (s : List UInt8) (hl : s.length ≤ M63) : ref01_Key s = some (keyB s) := by
  unfold ref01_Key keyB
  have := FU_M
  by_cases c : 1 ≤ s.length ∧ s.length ≤ 24
  · rw [if_neg (by omega), jn_eq', show (0 : Int) = ((0 : Nat) : Int) from rfl, rKey_run hl rfl FU 0 (by omega) (by omega), List.drop_zero, kc_all, decide_eq_true c]; rfl
  · rw [if_pos (by omega), decide_eq_false c]; rfl
theorem rfK_run {v : ApiValue} (hv : TV v) {kj : Unit → Option Bool} : ∀ (J k : Nat), k ≤ v.Keys.length → v.Keys.length - k < J → ref01_fields_s_l1 v kj J (k : Int) = if kOK (prv v.Keys k) (v.Keys.drop k) = true then kj () else some false
  | 0, k, h1, h2 => by omega
  | J + 1, k, h1, h2 => by
    rw [ref01_fields_s_l1]
    by_cases c : k < v.Keys.length
    · rw [if_pos (by omega), jBu, List.getElem?_eq_getElem c, Option.bind_some, rKey_eq _ (hv.key _ (List.getElem_mem c)), Option.bind_some, List.drop_eq_getElem_cons c, kOK_cons]
      cases hk : keyB v.Keys[k] with
      | false => rw [if_pos (by decide), Bool.false_and, if_neg (by decide)]
      | true =>
        rw [if_neg (by decide), Bool.true_and]
        have hp : prv v.Keys (k + 1) = some v.Keys[k] := by unfold prv; rw [if_neg (by omega), Nat.add_sub_cancel, List.getElem?_eq_getElem c]
        by_cases c0 : k = 0
        · have e : prv v.Keys k = none := by unfold prv; rw [if_pos c0]
          rw [if_neg (by omega), nxt c hv.keys, rfK_run hv J (k + 1) (by omega) (by omega), hp, e]
          simp
        · have hlt : k - 1 < v.Keys.length := by omega
          have e : prv v.Keys k = some v.Keys[k - 1] := by unfold prv; rw [if_neg c0, List.getElem?_eq_getElem hlt]
          have ei : i64 ((k : Int) - 1) = ((k - 1 : Nat) : Int) := by rw [i64_id (by omega) (by have := hv.keys; have hM : M63 = 9223372036854775807 := rfl; omega)]; omega
          rw [if_pos (by omega), ei, jBu, List.getElem?_eq_getElem hlt, Option.bind_some, Option.bind_some, less_nlt, e]
          simp only
          by_cases hn : nlt v.Keys[k - 1] v.Keys[k]
          · rw [if_neg (by simp [hn]), nxt c hv.keys, rfK_run hv J (k + 1) (by omega) (by omega), hp]; simp [hn]
          · rw [if_pos (by simp [hn])]; simp [hn]
    · rw [if_neg (by omega), List.drop_eq_nil_of_le (by omega), kOK_nil, if_pos rfl]
mutual
def fdB : ApiValue → Bool
  | ⟨k, n, t, l, p⟩ => hdB ⟨k, n, t, l, p⟩ && (plB t && (kOK none p && fdL l))
def fdL : List ApiValue → Bool
  | [] => true
  | x :: l => fdB x && fdL l
end
theorem fdB_eq (v : ApiValue) : fdB v = (hdB v && (plB v.Text && (kOK none v.Keys && fdL v.List_))) := by cases v; rw [fdB]
theorem fdL_all : ∀ l : List ApiValue, fdL l = l.all fdB
  | [] => by rw [fdL]; rfl
  | x :: l => by rw [fdL, List.all_cons, fdL_all l]
theorem rfL_run {v : ApiValue} (hv : TV v) {f : ApiValue → Option Bool} (hf : ∀ x, x ∈ v.List_ → f x = some (fdB x)) {kj : Unit → Option Bool} (hk : kj () = some true) :
    ∀ (J k : Nat), k ≤ v.List_.length → v.List_.length - k < J → ref01_fields_s_l2 v f kj J (k : Int) = some (fdL (v.List_.drop k))
  | 0, k, h1, h2 => by omega
  | J + 1, k, h1, h2 => by
    rw [ref01_fields_s_l2]
    by_cases c : k < v.List_.length
    · rw [if_pos (by omega), jBu, List.getElem?_eq_getElem c, Option.bind_some, hf _ (List.getElem_mem c), Option.bind_some, List.drop_eq_getElem_cons c, fdL]
      cases fdB v.List_[k] with
      | false => rw [if_pos (by decide)]; rfl
      | true =>
        rw [if_neg (by decide), nxt c hv.list, Bool.true_and]
        exact rfL_run hv hf hk J (k + 1) (by omega) (by omega)
    · rw [if_neg (by omega), hk, List.drop_eq_nil_of_le (by omega), fdL]
theorem fields_run : ∀ (j : Nat) {v : ApiValue}, dpApiValue v ≤ j → TV v → ref01_fields_r j v = some (fdB v)
  | 0, v, h, _ => by rw [dpApiValue_eq] at h; omega
  | j + 1, v, h, hv => by
    have hFU := FU_M
    have hL := hv.list
    have hK := hv.keys
    rw [ref01_fields_r, ref01_fields_s, fdB_eq]
    have z : ∀ {α : Type} (l : List α), 0 < (l.length : Int) ↔ l ≠ [] := by
      intro α l; cases l <;> simp
    by_cases c : hdB v = true
    · have hc := hdB_iff.1 c
      rw [c, Bool.true_and, if_neg (by
        rw [z, z]
        rintro ((((((h | h) | ⟨h, h2⟩) | ⟨h, h2⟩) | ⟨h, h2⟩) | ⟨h, h2⟩) | ⟨h, h2⟩)
        · omega
        · omega
        · exact h2 (hc.2.2.1.resolve_left h)
        · exact h2 (hc.2.2.2.1.resolve_left h)
        · exact h2 (hc.2.2.2.2.2.2.resolve_left (by omega))
        · exact h2 (hc.2.2.2.2.1.resolve_left h)
        · have := hc.2.2.2.2.2.1 h; omega), rplain_eq _ hv.text, Option.bind_some, Option.bind_some]
      cases plB v.Text with
      | false => rw [if_pos (by decide)]; rfl
      | true =>
        rw [if_neg (by decide), Bool.true_and, jn_eq', jn_eq', show (0 : Int) = ((0 : Nat) : Int) from rfl, rfK_run hv FU 0 (by omega) (by omega), List.drop_zero, show prv v.Keys 0 = none from rfl]
        cases kOK none v.Keys with
        | false => rw [if_neg (by decide)]; rfl
        | true =>
          rw [if_pos rfl, rfL_run hv (fun x hx => fields_run j (by have := dp_sub hx; omega) (hv.sub x hx)) rfl FU 0 (by omega) (by omega), List.drop_zero, Bool.true_and]
    · have hn : ¬ (0 ≤ v.Kind ∧ v.Kind ≤ 6 ∧ (v.Kind = 3 ∨ v.Num = 0) ∧ (v.Kind = 4 ∨ v.Text = []) ∧ (v.Kind = 6 ∨ v.Keys = []) ∧ (v.Kind = 6 → v.Keys.length = v.List_.length) ∧ (5 ≤ v.Kind ∨ v.List_ = [])) := fun h => c (hdB_iff.2 h)
      rw [eq_false_of_ne_true c, Bool.false_and, if_pos (by
        apply Classical.byContradiction; intro g
        rw [z, z] at g
        simp only [not_or, not_and, ne_eq, Classical.not_not, Int.not_lt] at g
        refine hn ⟨g.1.1.1.1.1.1, g.1.1.1.1.1.2, ?_, ?_, ?_, ?_, ?_⟩
        · exact Classical.or_iff_not_imp_left.2 g.1.1.1.1.2
        · exact Classical.or_iff_not_imp_left.2 g.1.1.1.2
        · exact Classical.or_iff_not_imp_left.2 g.1.2
        · intro q; have := g.2 q; omega
        · by_cases q : v.Kind < 5
          · exact .inr (g.1.1.2 q)
          · exact .inl (by omega)), Option.bind_some, if_pos rfl]
theorem fields_eq {v : ApiValue} (hv : TV v) : ref01_fields v = some (fdB v) := by
  unfold ref01_fields
  exact fields_run _ (by omega) hv
theorem foldmax_le (l : List Nat) : ∀ (x d : Nat), l.foldl max x ≤ d ↔ x ≤ d ∧ ∀ y ∈ l, y ≤ d := by
  induction l with
  | nil => intro x d; simp
  | cons z l ih =>
    intro x d
    rw [List.foldl_cons, ih]
    simp only [List.mem_cons, forall_eq_or_imp]
    rw [Nat.max_le, and_assoc]
theorem fd_sh : ∀ (d m : Nat) (v : ApiValue), d < m → d < 20 → (shB d v = true ↔ fdB v = true ∧ dpR m v ≤ d)
  | _, 0, _, h, _ => by omega
  | 0, m + 1, v, _, _ => by simp [shB, dpR]
  | d + 1, m + 1, v, h, h2 => by
    have ih := fun x => fd_sh d m x (by omega) (by omega)
    rw [shB, fdB_eq, dpR, fdL_all]
    simp only [Bool.and_eq_true, List.all_eq_true]
    rw [Nat.add_le_add_iff_right, foldmax_le]
    simp only [List.mem_map, forall_exists_index, and_imp, forall_apply_eq_imp_iff₂]
    constructor
    · rintro ⟨a, b, c, e⟩
      exact ⟨⟨a, b, c, fun x hx => ((ih x).1 (e x hx)).1⟩, by omega, fun x hx => ((ih x).1 (e x hx)).2⟩
    · rintro ⟨⟨a, b, c, e⟩, _, f⟩
      exact ⟨a, b, c, fun x hx => (ih x).2 ⟨e x hx, f x hx⟩⟩
end Go.Proofs

set_option linter.unusedVariables false
set_option linter.unusedSimpArgs false
namespace Go.Proofs
open Go.Fw
theorem ofI8_of {u : Nat} (h : u < 256) : ofI8 (u : Int) = UInt8.ofNat u := by
  unfold ofI8
  congr 1; omega
theorem tdiv_abs (n : Int) : (n.tdiv 10).natAbs = n.natAbs / 10 := by rw [Int.natAbs_tdiv]; rfl
theorem tmod_abs (n : Int) : (n.tmod 10).natAbs = n.natAbs % 10 := by rw [Int.natAbs_tmod]; rfl
theorem digits_run {kj : List UInt8 → Option (List UInt8)} : ∀ (f J : Nat) (n : Int) (x : List UInt8), 1 ≤ f → n.natAbs < 10 ^ f → (-9223372036854775808 ≤ n ∧ n ≤ 9223372036854775807) → f < J → x.length + f ≤ 1000 →
    ref01_digits_l1 kj J n x = kj (decF f n.natAbs ++ x)
  | 0, _, _, _, h, _, _, _, _ => by omega
  | f + 1, 0, _, _, _, _, _, h, _ => by omega
  | f + 1, J + 1, n, x, _, hn, hr, hJ, hx => by
    have hd := tdiv_abs n
    have hm := tmod_abs n
    have hi : i64 (n.tdiv 10) = n.tdiv 10 := i64_id (by omega) (by omega)
    rw [ref01_digits_l1, jn_eq', hi, decF]
    have step : ∀ d : Int, d = ((n.natAbs % 10 : Nat) : Int) → ((app 9223372036854775807 ([ofI8 (i64 (48 + d))] : List UInt8) x).bind fun x7 => if n.tdiv 10 = 0 then kj x7 else ref01_digits_l1 kj J (n.tdiv 10) x7)
        = kj ((if n.natAbs < 10 then [UInt8.ofNat (48 + n.natAbs)] else decF f (n.natAbs / 10) ++ [UInt8.ofNat (48 + n.natAbs % 10)]) ++ x) := by
      intro d he
      rw [he, i64_id (by omega) (by omega), show (48 : Int) + ((n.natAbs % 10 : Nat) : Int) = ((48 + n.natAbs % 10 : Nat) : Int) by omega, ofI8_of (by omega), jBf _ _ (by simp only [List.length_cons, List.length_nil]; omega), Option.bind_some]
      by_cases c : n.natAbs < 10
      · rw [if_pos (by omega), if_pos c, show n.natAbs % 10 = n.natAbs by omega]
      · have hf : 1 ≤ f := by
          rcases f with _ | f
          · simp at hn; omega
          · omega
        rw [if_neg (by omega), if_neg c, digits_run f J (n.tdiv 10) _ hf (by rw [hd]; rw [Nat.pow_succ] at hn; omega) (by omega) (by omega) (by simp only [List.length_append, List.length_cons, List.length_nil]; omega), hd, List.append_assoc]
    by_cases c : n.tmod 10 < 0
    · rw [if_pos c]
      exact step _ (by rw [i64_id (by omega) (by omega)]; omega)
    · rw [if_neg c]
      exact step _ (by omega)
theorem digits_eq {n : Int} (h : -9223372036854775808 ≤ n ∧ n ≤ 9223372036854775807) : ref01_digits n = some (itoaF n) := by
  unfold ref01_digits itoaF
  have := FU_M
  rw [jn_eq', digits_run 30 FU n [] (by decide) (by omega) h (by omega) (by simp), List.append_nil]
  have hl := decF_len 30 n.natAbs 30 (by omega) (by decide)
  by_cases c : n < 0
  · rw [if_pos c, if_pos c, jBf _ _ (by simp only [List.length_cons, List.length_nil]; omega)]; rfl
  · rw [if_neg c, if_neg c, show n.natAbs = n.toNat by omega]
theorem rquoted_run {s : List UInt8} (hl : s.length ≤ M63) {kj : List UInt8 → Option (List UInt8)} : ∀ (J k : Nat) (x : List UInt8), k ≤ s.length → s.length - k < J → x.length + 2 * (s.length - k) ≤ 1000000000000 → ref01_quoted_l1 s kj J x (k : Int) = kj (x ++ (s.drop k).flatMap esc)
  | 0, k, x, h1, h2, _ => by omega
  | J + 1, k, x, h1, h2, h3 => by
    rw [ref01_quoted_l1]
    by_cases c : k < s.length
    · rw [if_pos (by omega), jBu, List.getElem?_eq_getElem c, List.drop_eq_getElem_cons c, List.flatMap_cons, jn_eq', Option.bind_some]
      by_cases c1 : s[k].toNat = 34 ∨ s[k].toNat = 92
      · have hc : ((if (s[k].toNat : Int) = 34 then some true else (some s[k]).bind fun x9 => some (decide ((x9.toNat : Int) = 92))) : Option Bool) = some true := by
          by_cases q : (s[k].toNat : Int) = 34
          · rw [if_pos q]
          · rw [if_neg q, Option.bind_some, decide_eq_true (by omega)]
        rw [hc, Option.bind_some, if_pos rfl, jBf _ _ (by simp; omega), Option.bind_some]
        dsimp only
        rw [Option.bind_some, jBf _ _ (by simp; omega), Option.bind_some, nxt c hl, rquoted_run hl J (k + 1) _ (by omega) (by omega) (by simp only [List.length_append, List.length_cons, List.length_nil]; omega), esc_q c1]
        simp
      · have hc : ((if (s[k].toNat : Int) = 34 then some true else (some s[k]).bind fun x9 => some (decide ((x9.toNat : Int) = 92))) : Option Bool) = some false := by
          rw [if_neg (by omega), Option.bind_some, decide_eq_false (by omega)]
        rw [hc, Option.bind_some, if_neg (by decide)]
        dsimp only
        rw [Option.bind_some, jBf _ _ (by simp; omega), Option.bind_some, nxt c hl, rquoted_run hl J (k + 1) _ (by omega) (by omega) (by simp only [List.length_append, List.length_cons, List.length_nil]; omega), esc_n c1]
        simp
    · rw [if_neg (by omega), List.drop_eq_nil_of_le (by omega)]; simp
theorem rquoted_eq (s : List UInt8) (h : 2 * s.length ≤ 100000000000) : ref01_quoted s = some (qt s) := by
  unfold ref01_quoted
  have := FU_M
  have hM : M63 = 9223372036854775807 := rfl
  rw [jn_eq', show (0 : Int) = ((0 : Nat) : Int) from rfl, rquoted_run (by omega) FU 0 _ (by omega) (by omega) (by simp; omega), List.drop_zero]
  have hq := qt_len s
  unfold qt at hq ⊢
  simp only [List.length_cons, List.length_append, List.length_nil] at hq
  rw [jBf _ _ (by simp only [List.length_append, List.length_cons, List.length_nil]; omega)]
  rfl
theorem fdB_wf : ∀ (n : Nat) {v : ApiValue}, dpApiValue v ≤ n → fdB v = true → WF v
  | 0, v, h, _ => by rw [dpApiValue_eq] at h; omega
  | n + 1, v, h, hf => by
    rw [fdB_eq, Bool.and_eq_true, Bool.and_eq_true, Bool.and_eq_true, hdB_iff, fdL_all, List.all_eq_true] at hf
    exact .mk hf.1.2.2.2.2.2.1 (fun c => hf.1.2.2.2.2.1.resolve_left c) (fun x hx => fdB_wf n (by have := dp_sub hx; omega) (hf.2.2.2 x hx))
theorem fdB_ks : ∀ (n : Nat) {v : ApiValue}, dpApiValue v ≤ n → fdB v = true → KS v
  | 0, v, h, _ => by rw [dpApiValue_eq] at h; omega
  | n + 1, v, h, hf => by
    rw [fdB_eq, Bool.and_eq_true, Bool.and_eq_true, Bool.and_eq_true, fdL_all, List.all_eq_true] at hf
    exact .mk (fun k hk => keyB_len (kOK_key hf.2.2.1 k hk)) (fun x hx => fdB_ks n (by have := dp_sub hx; omega) (hf.2.2.2 x hx))
theorem fdB_sub {v x : ApiValue} (h : fdB v = true) (hx : x ∈ v.List_) : fdB x = true := by
  rw [fdB_eq, Bool.and_eq_true, Bool.and_eq_true, Bool.and_eq_true, fdL_all, List.all_eq_true] at h
  exact h.2.2.2 x hx
theorem fdB_hd {v : ApiValue} (h : fdB v = true) : hdB v = true := by
  rw [fdB_eq, Bool.and_eq_true] at h; exact h.1
theorem printL_run {v : ApiValue} (hv : TV v) (hw : WF v) (hk : KS v) {f : ApiValue → Option (List UInt8)} (hf : ∀ x, x ∈ v.List_ → f x = some (tx x)) {kj : List UInt8 → Option (List UInt8)} :
    ∀ (J k : Nat) (b : List UInt8), k ≤ v.List_.length → v.List_.length - k < J → b.length + 700 * wL (v.List_.drop k) ≤ 90000000 → ref01_Print_s_l1 v f kj J b (k : Int) = kj (b ++ txL (decide (v.Kind = 6)) (decide (k = 0)) (v.List_.drop k) (v.Keys.drop k))
  | 0, k, b, h1, h2, _ => by omega
  | J + 1, k, b, h1, h2, h3 => by
    rw [ref01_Print_s_l1]
    by_cases c : k < v.List_.length
    · have hm := List.getElem_mem c
      have hl := tx_len (hv.sub _ hm) (hw.sub _ hm) (hk.sub _ hm)
      have hwp := wV_pos v.List_[k]
      rw [wL_drop _ c] at h3
      rw [if_pos (by omega), jBu, List.getElem?_eq_getElem c, jn_eq', List.drop_eq_getElem_cons c, txL]
      simp only [Option.bind_some, hf _ hm, jn_eq']
      have step : ∀ y : List UInt8, y.length ≤ b.length + 1 → (if v.Kind = 6 then (geti v.Keys (k : Int)).bind fun x12 => (ref01_quoted x12).bind fun x13 => (app 9223372036854775807 y x13).bind fun x14 => (app 9223372036854775807 x14 ([58] : List UInt8)).bind fun x15 => (app 9223372036854775807 x15 (tx v.List_[k])).bind fun x18 => ref01_Print_s_l1 v f kj J x18 (i64 ((k : Int) + 1)) else (app 9223372036854775807 y (tx v.List_[k])).bind fun x18 => ref01_Print_s_l1 v f kj J x18 (i64 ((k : Int) + 1)))
          = kj (y ++ ((if (decide (v.Kind = 6)) = true then qt ((v.Keys.drop k).headD []) ++ [58] else []) ++ (tx v.List_[k] ++ txL (decide (v.Kind = 6)) false (v.List_.drop (k + 1)) (v.Keys.drop k).tail))) := by
        intro y hy
        have hd0 : decide (k + 1 = 0) = false := decide_eq_false (by omega)
        by_cases k6 : v.Kind = 6
        · have ck : k < v.Keys.length := by rw [hw.obj k6]; exact c
          have hq := hk.key _ (List.getElem_mem ck)
          have hql := qt_len v.Keys[k]
          have hh : (v.Keys.drop k).headD [] = v.Keys[k] := by rw [List.drop_eq_getElem_cons ck]; rfl
          rw [if_pos k6, jBu, List.getElem?_eq_getElem ck, Option.bind_some, rquoted_eq _ (by omega), Option.bind_some, jBf _ _ (by omega), Option.bind_some, jBf _ _ (by simp only [List.length_append, List.length_cons, List.length_nil]; omega), Option.bind_some, jBf _ _ (by simp only [List.length_append, List.length_cons, List.length_nil]; omega), Option.bind_some, nxt c hv.list,
            printL_run hv hw hk hf J (k + 1) _ (by omega) (by omega) (by simp only [List.length_append, List.length_cons, List.length_nil]; omega), decide_eq_true k6, hd0, if_pos rfl, hh, List.tail_drop]
          simp only [List.append_assoc]
        · rw [if_neg k6, jBf _ _ (by omega), Option.bind_some, nxt c hv.list, printL_run hv hw hk hf J (k + 1) _ (by omega) (by omega) (by simp only [List.length_append]; omega), decide_eq_false k6, hd0, if_neg (by decide), List.tail_drop]
          simp only [List.append_assoc, List.nil_append]
      by_cases k0 : k = 0
      · rw [if_neg (by omega), decide_eq_true k0, if_pos rfl, List.nil_append]
        exact step b (by omega)
      · rw [if_pos (by omega), jBf _ _ (by simp; omega), Option.bind_some, decide_eq_false k0, show (if false = true then ([] : List UInt8) else [44]) = [44] from rfl, ← List.append_assoc]
        exact step _ (by simp)
    · rw [if_neg (by omega), List.drop_eq_nil_of_le (by omega), txL, List.append_nil]
theorem print_run : ∀ (j : Nat) {v : ApiValue}, dpApiValue v ≤ j → TV v → fdB v = true → 700 * wV v ≤ 90000000 → ref01_Print_r j v = some (tx v)
  | 0, v, h, _, _, _ => by rw [dpApiValue_eq] at h; omega
  | j + 1, v, h, hv, hfd, hb => by
    have hw := fdB_wf _ (Nat.le_refl _) hfd
    have hk := fdB_ks _ (Nat.le_refl _) hfd
    have hwv := wV_eq v
    have hsub : ∀ x, x ∈ v.List_ → wV x ≤ wL v.List_ := by
      have : ∀ (l : List ApiValue) (x : ApiValue), x ∈ l → wV x ≤ wL l := by
        intro l
        induction l with
        | nil => intro x hx; cases hx
        | cons y l ih =>
          intro x hx
          rw [wL]
          rcases List.mem_cons.1 hx with e | e
          · subst e; omega
          · have := ih x e; omega
      exact this _
    have hf : ∀ x, x ∈ v.List_ → ref01_Print_r j x = some (tx x) := fun x hx => print_run j (by have := dp_sub hx; omega) (hv.sub x hx) (fdB_sub hfd hx) (by have := hsub x hx; omega)
    have hFU := FU_M
    have hL := hv.list
    have hd := hdB_iff.1 (fdB_hd hfd)
    have ht := tx_len hv hw hk
    rw [tx_eq] at ht
    rw [ref01_Print_r, ref01_Print_s, tx_eq]
    by_cases k0 : v.Kind = 0
    · rw [if_pos k0, if_neg (by omega), if_neg (by omega), if_neg (by omega), if_neg (by omega), if_neg (by omega), if_neg (by omega)]
    rw [if_neg k0]
    by_cases k1 : v.Kind = 1
    · rw [if_pos k1, if_pos k1]
    rw [if_neg k1, if_neg k1]
    rw [if_neg k1] at ht
    by_cases k2 : v.Kind = 2
    · rw [if_pos k2, if_pos k2]
    rw [if_neg k2, if_neg k2]
    rw [if_neg k2] at ht
    by_cases k3 : v.Kind = 3
    · rw [if_pos k3, if_pos k3, digits_eq hv.num]; rfl
    rw [if_neg k3, if_neg k3]
    rw [if_neg k3] at ht
    by_cases k4 : v.Kind = 4
    · rw [if_pos k4, if_pos k4, rquoted_eq _ (by omega)]; rfl
    rw [if_neg k4, if_neg k4, jn_eq', show (0 : Int) = ((0 : Nat) : Int) from rfl, printL_run hv hw hk hf FU 0 [] (by omega) (by omega) (by simp only [List.length_nil, List.drop_zero]; omega)]
    rw [if_neg k4] at ht
    simp only [List.drop_zero, List.nil_append, decide_true]
    by_cases k5 : v.Kind = 5
    · rw [if_pos k5, if_pos k5, decide_eq_false (by omega)]
      rw [if_pos k5] at ht
      simp only [List.length_cons, List.length_append, List.length_nil] at ht
      rw [jBf _ _ (by simp only [List.length_cons, List.length_nil]; omega), Option.bind_some, jBf _ _ (by simp only [List.length_append, List.length_cons, List.length_nil]; omega)]; rfl
    · have k6 : v.Kind = 6 := by omega
      rw [if_neg k5, if_neg k5, if_pos k6, decide_eq_true k6]
      rw [if_neg k5, if_pos k6] at ht
      simp only [List.length_cons, List.length_append, List.length_nil] at ht
      rw [jBf _ _ (by simp only [List.length_cons, List.length_nil]; omega), Option.bind_some, jBf _ _ (by simp only [List.length_append, List.length_cons, List.length_nil]; omega)]; rfl
theorem print_eq {v : ApiValue} (hv : TV v) (hfd : fdB v = true) (hb : wV v ≤ 100000) : ref01_Print v = some (tx v) := by
  unfold ref01_Print
  exact print_run _ (by omega) hv hfd (by omega)
theorem rmay_eq {v : ApiValue} (hv : TV v) (hb : KS v → wV v ≤ 4000) : ref01_May v = some (mayB v) := by
  unfold ref01_May mayB
  rw [deep_eq hv, Option.bind_some, fields_eq hv]
  have hs := fd_sh 8 15 v (by decide) (by decide)
  by_cases c : dpR 15 v ≤ 8
  · rw [if_pos (by omega), Option.bind_some, Option.bind_some]
    cases hf : fdB v with
    | false =>
      have : shB 8 v = false := by
        cases q : shB 8 v with
        | false => rfl
        | true => have := (hs.1 q).1; rw [hf] at this; cases this
      rw [this]; rfl
    | true =>
      rw [hs.2 ⟨hf, c⟩, if_pos rfl, print_eq hv hf (by have := hb (fdB_ks _ (Nat.le_refl _) hf); omega), Option.bind_some, Option.bind_some, Bool.true_and]
      exact congrArg some (decide_eq_decide.2 (by omega))
  · have : shB 8 v = false := by
      cases q : shB 8 v with
      | false => rfl
      | true => exact absurd (hs.1 q).2 c
    rw [if_neg (by omega), this]; rfl
end Go.Proofs

set_option linter.unusedVariables false
set_option linter.unusedSimpArgs false
namespace Go.Proofs
open Go.Fw
def HX : List UInt8 := [48, 49, 50, 51, 52, 53, 54, 55, 56, 57, 97, 98, 99, 100, 101, 102]
def sL (x : St23) : List UInt8 := [x.e0, x.e1, x.e2, x.e3, x.e4, x.e5, x.e6, x.e7, x.e8, x.e9, x.e10, x.e11, x.e12, x.e13, x.e14, x.e15]
def mayR (r : ApiRev) : Bool := decide ((1 ≤ (r.Gen.toNat : Int)) ∧ ((r.Gen.toNat : Int) ≤ 4611686018427387903))
def zeroR : ApiRev := ⟨0, ⟨0, 0, 0, 0, 0, 0, 0, 0, 0, 0, 0, 0, 0, 0, 0, 0⟩⟩
def Tot {α : Type} (P : α → Prop) (o : Option α) : Prop := ∃ x, o = some x ∧ P x
theorem Tot.of {α : Type} {P : α → Prop} {x : α} (h : P x) : Tot P (some x) := ⟨x, rfl, h⟩
theorem Tot.bind {α β : Type} {P : β → Prop} {Q : α → Prop} {o : Option α} {k : α → Option β} (h : Tot Q o) (f : ∀ x, Q x → Tot P (k x)) : Tot P (o.bind k) := by
  obtain ⟨x, rfl, hx⟩ := h
  exact f x hx
theorem Tot.geti {α β : Type} {P : β → Prop} {l : List α} {i : Int} {k : α → Option β} (h : 0 ≤ i ∧ i < l.length) (f : ∀ x, Tot P (k x)) : Tot P ((Go.Fw.geti l i).bind k) := by
  obtain ⟨n, rfl⟩ : ∃ n : Nat, i = (n : Int) := ⟨i.toNat, by omega⟩
  rw [jBu, List.getElem?_eq_getElem (show n < l.length by omega)]
  exact f _
def InQ (y : Int × St125) : Prop := (0 ≤ y.1 ∧ y.1 < 8) ∧ (0 ≤ y.2.e0 ∧ y.2.e0 < 16) ∧ (0 ≤ y.2.e1 ∧ y.2.e1 < 16) ∧ (0 ≤ y.2.e2 ∧ y.2.e2 < 16) ∧ (0 ≤ y.2.e3 ∧ y.2.e3 < 16)
theorem set16 {l : List UInt32} (h : l.length = 16) {i : Nat} {v : UInt32} : (l.set i v).length = 16 := by rw [List.length_set]; exact h
theorem Tot.geti16 {β : Type} {P : β → Prop} {l : List UInt32} {i : Int} {k : UInt32 → Option β} (hl : l.length = 16) (h : 0 ≤ i ∧ i < 16) (f : ∀ x, Tot P (k x)) : Tot P ((Go.Fw.geti l i).bind k) := Tot.geti (by omega) f
end Go.Proofs

set_option linter.unusedVariables false
set_option linter.unusedSimpArgs false
namespace Go.Proofs
open Go.Fw
theorem concat2 (a b : List UInt8) (h : a.length + b.length ≤ 100000000000) : slices_Concat_byte_byte ([a, b] : List (List UInt8)) = some (a ++ b) := by
  have hF := FU_M
  have hM : M63 = 9223372036854775807 := rfl
  obtain ⟨J, hJ⟩ : ∃ J, FU = J + 3 := ⟨FU - 3, by omega⟩
  unfold slices_Concat_byte_byte
  rw [jn_eq', hJ]
  have i0 : i64 (0 + (a.length : Int)) = (a.length : Int) := by rw [i64_id (by omega) (by omega)]; omega
  have i1 : i64 ((a.length : Int) + (b.length : Int)) = (a.length : Int) + (b.length : Int) := i64_id (by omega) (by omega)
  have i2 : i64 (0 + 1) = 1 := by decide
  have i3 : i64 (1 + 1) = 2 := by decide
  have g0 : geti ([a, b] : List (List UInt8)) 0 = some a := rfl
  have g1 : geti ([a, b] : List (List UInt8)) 1 = some b := rfl
  have hl : (([a, b] : List (List UInt8)).length : Int) = 2 := rfl
  rw [slices_Concat_byte_byte_l1, hl, if_pos (by decide), g0, Option.bind_some, i0, if_neg (by omega), i2, slices_Concat_byte_byte_l1, hl, if_pos (by decide), g1, Option.bind_some, i1, if_neg (by omega), i3, slices_Concat_byte_byte_l1, hl, if_neg (by decide)]
  have hg : slices_Grow_byte_byte_nl ((a.length : Int) + (b.length : Int)) = some [] := by
    unfold slices_Grow_byte_byte_nl
    rw [i64_id (by omega) (by omega), if_neg (by omega)]
    by_cases c : 0 < (a.length : Int) + (b.length : Int) - 0
    · rw [if_pos c, if_pos c, if_pos (by omega)]
    · rw [if_neg c]
  rw [hg, Option.bind_some, jn_eq', slices_Concat_byte_byte_l2, hl, if_pos (by decide), g0, Option.bind_some, jBf _ _ (by simp; omega), Option.bind_some, i2, slices_Concat_byte_byte_l2, hl, if_pos (by decide), g1, Option.bind_some, jBf _ _ (by simp; omega), Option.bind_some, i3, slices_Concat_byte_byte_l2, hl, if_neg (by decide), List.nil_append]
end Go.Proofs

set_option linter.unusedVariables false
set_option linter.unusedSimpArgs false
namespace Go.Proofs
open Go.Fw
def rndP (x25 : List UInt8) (x2 : List UInt32) (x27 : List UInt32) (x28 : Int × St125) : Option (Bool × List UInt32) := (geti x25 (i64 (2 * x28.1))).bind fun x31 => (geti x25 (i64 ((i64 (2 * x28.1)) + 1))).bind fun x32 => (digest_number x31).bind fun x33 => (geti x2 x33).bind fun x34 => (geti x2 x33).bind fun x35 => (digest_number x32).bind fun x36 => (geti x2 x36).bind fun x37 => (geti x2 x36).bind fun x38 => jn (fun (_ : Unit) => (geti x27 x28.2.e0).bind fun x44 => (geti x27 x28.2.e1).bind fun x45 => (geti x27 x28.2.e0).bind fun x46 => (geti (x27.set (x28.2.e0 : Int).toNat (ofI32 ((x44.toNat : Int) + ((ofI32 ((x45.toNat : Int) + (x35.toNat : Int))).toNat : Int)))) x28.2.e3).bind fun x47 => (geti (x27.set (x28.2.e0 : Int).toNat (ofI32 ((x44.toNat : Int) + ((ofI32 ((x45.toNat : Int) + (x35.toNat : Int))).toNat : Int)))) x28.2.e0).bind fun x48 => (bits_RotateLeft32 (x47 ^^^ x48) (i64 (0 - 16))).bind fun x49 => (geti (x27.set (x28.2.e0 : Int).toNat (ofI32 ((x44.toNat : Int) + ((ofI32 ((x45.toNat : Int) + (x35.toNat : Int))).toNat : Int)))) x28.2.e3).bind fun x50 => (geti ((x27.set (x28.2.e0 : Int).toNat (ofI32 ((x44.toNat : Int) + ((ofI32 ((x45.toNat : Int) + (x35.toNat : Int))).toNat : Int)))).set (x28.2.e3 : Int).toNat x49) x28.2.e2).bind fun x51 => (geti ((x27.set (x28.2.e0 : Int).toNat (ofI32 ((x44.toNat : Int) + ((ofI32 ((x45.toNat : Int) + (x35.toNat : Int))).toNat : Int)))).set (x28.2.e3 : Int).toNat x49) x28.2.e3).bind fun x52 => (geti ((x27.set (x28.2.e0 : Int).toNat (ofI32 ((x44.toNat : Int) + ((ofI32 ((x45.toNat : Int) + (x35.toNat : Int))).toNat : Int)))).set (x28.2.e3 : Int).toNat x49) x28.2.e2).bind fun x53 => (geti (((x27.set (x28.2.e0 : Int).toNat (ofI32 ((x44.toNat : Int) + ((ofI32 ((x45.toNat : Int) + (x35.toNat : Int))).toNat : Int)))).set (x28.2.e3 : Int).toNat x49).set (x28.2.e2 : Int).toNat (ofI32 ((x51.toNat : Int) + (x52.toNat : Int)))) x28.2.e1).bind fun x54 => (geti (((x27.set (x28.2.e0 : Int).toNat (ofI32 ((x44.toNat : Int) + ((ofI32 ((x45.toNat : Int) + (x35.toNat : Int))).toNat : Int)))).set (x28.2.e3 : Int).toNat x49).set (x28.2.e2 : Int).toNat (ofI32 ((x51.toNat : Int) + (x52.toNat : Int)))) x28.2.e2).bind fun x55 => (bits_RotateLeft32 (x54 ^^^ x55) (i64 (0 - 12))).bind fun x56 => (geti (((x27.set (x28.2.e0 : Int).toNat (ofI32 ((x44.toNat : Int) + ((ofI32 ((x45.toNat : Int) + (x35.toNat : Int))).toNat : Int)))).set (x28.2.e3 : Int).toNat x49).set (x28.2.e2 : Int).toNat (ofI32 ((x51.toNat : Int) + (x52.toNat : Int)))) x28.2.e1).bind fun x57 => (geti ((((x27.set (x28.2.e0 : Int).toNat (ofI32 ((x44.toNat : Int) + ((ofI32 ((x45.toNat : Int) + (x35.toNat : Int))).toNat : Int)))).set (x28.2.e3 : Int).toNat x49).set (x28.2.e2 : Int).toNat (ofI32 ((x51.toNat : Int) + (x52.toNat : Int)))).set (x28.2.e1 : Int).toNat x56) x28.2.e0).bind fun x58 => (geti ((((x27.set (x28.2.e0 : Int).toNat (ofI32 ((x44.toNat : Int) + ((ofI32 ((x45.toNat : Int) + (x35.toNat : Int))).toNat : Int)))).set (x28.2.e3 : Int).toNat x49).set (x28.2.e2 : Int).toNat (ofI32 ((x51.toNat : Int) + (x52.toNat : Int)))).set (x28.2.e1 : Int).toNat x56) x28.2.e1).bind fun x59 => (geti ((((x27.set (x28.2.e0 : Int).toNat (ofI32 ((x44.toNat : Int) + ((ofI32 ((x45.toNat : Int) + (x35.toNat : Int))).toNat : Int)))).set (x28.2.e3 : Int).toNat x49).set (x28.2.e2 : Int).toNat (ofI32 ((x51.toNat : Int) + (x52.toNat : Int)))).set (x28.2.e1 : Int).toNat x56) x28.2.e0).bind fun x60 => (geti (((((x27.set (x28.2.e0 : Int).toNat (ofI32 ((x44.toNat : Int) + ((ofI32 ((x45.toNat : Int) + (x35.toNat : Int))).toNat : Int)))).set (x28.2.e3 : Int).toNat x49).set (x28.2.e2 : Int).toNat (ofI32 ((x51.toNat : Int) + (x52.toNat : Int)))).set (x28.2.e1 : Int).toNat x56).set (x28.2.e0 : Int).toNat (ofI32 ((x58.toNat : Int) + ((ofI32 ((x59.toNat : Int) + (x38.toNat : Int))).toNat : Int)))) x28.2.e3).bind fun x61 => (geti (((((x27.set (x28.2.e0 : Int).toNat (ofI32 ((x44.toNat : Int) + ((ofI32 ((x45.toNat : Int) + (x35.toNat : Int))).toNat : Int)))).set (x28.2.e3 : Int).toNat x49).set (x28.2.e2 : Int).toNat (ofI32 ((x51.toNat : Int) + (x52.toNat : Int)))).set (x28.2.e1 : Int).toNat x56).set (x28.2.e0 : Int).toNat (ofI32 ((x58.toNat : Int) + ((ofI32 ((x59.toNat : Int) + (x38.toNat : Int))).toNat : Int)))) x28.2.e0).bind fun x62 => (bits_RotateLeft32 (x61 ^^^ x62) (i64 (0 - 8))).bind fun x63 => (geti (((((x27.set (x28.2.e0 : Int).toNat (ofI32 ((x44.toNat : Int) + ((ofI32 ((x45.toNat : Int) + (x35.toNat : Int))).toNat : Int)))).set (x28.2.e3 : Int).toNat x49).set (x28.2.e2 : Int).toNat (ofI32 ((x51.toNat : Int) + (x52.toNat : Int)))).set (x28.2.e1 : Int).toNat x56).set (x28.2.e0 : Int).toNat (ofI32 ((x58.toNat : Int) + ((ofI32 ((x59.toNat : Int) + (x38.toNat : Int))).toNat : Int)))) x28.2.e3).bind fun x64 => (geti ((((((x27.set (x28.2.e0 : Int).toNat (ofI32 ((x44.toNat : Int) + ((ofI32 ((x45.toNat : Int) + (x35.toNat : Int))).toNat : Int)))).set (x28.2.e3 : Int).toNat x49).set (x28.2.e2 : Int).toNat (ofI32 ((x51.toNat : Int) + (x52.toNat : Int)))).set (x28.2.e1 : Int).toNat x56).set (x28.2.e0 : Int).toNat (ofI32 ((x58.toNat : Int) + ((ofI32 ((x59.toNat : Int) + (x38.toNat : Int))).toNat : Int)))).set (x28.2.e3 : Int).toNat x63) x28.2.e2).bind fun x65 => (geti ((((((x27.set (x28.2.e0 : Int).toNat (ofI32 ((x44.toNat : Int) + ((ofI32 ((x45.toNat : Int) + (x35.toNat : Int))).toNat : Int)))).set (x28.2.e3 : Int).toNat x49).set (x28.2.e2 : Int).toNat (ofI32 ((x51.toNat : Int) + (x52.toNat : Int)))).set (x28.2.e1 : Int).toNat x56).set (x28.2.e0 : Int).toNat (ofI32 ((x58.toNat : Int) + ((ofI32 ((x59.toNat : Int) + (x38.toNat : Int))).toNat : Int)))).set (x28.2.e3 : Int).toNat x63) x28.2.e3).bind fun x66 => (geti ((((((x27.set (x28.2.e0 : Int).toNat (ofI32 ((x44.toNat : Int) + ((ofI32 ((x45.toNat : Int) + (x35.toNat : Int))).toNat : Int)))).set (x28.2.e3 : Int).toNat x49).set (x28.2.e2 : Int).toNat (ofI32 ((x51.toNat : Int) + (x52.toNat : Int)))).set (x28.2.e1 : Int).toNat x56).set (x28.2.e0 : Int).toNat (ofI32 ((x58.toNat : Int) + ((ofI32 ((x59.toNat : Int) + (x38.toNat : Int))).toNat : Int)))).set (x28.2.e3 : Int).toNat x63) x28.2.e2).bind fun x67 => (geti (((((((x27.set (x28.2.e0 : Int).toNat (ofI32 ((x44.toNat : Int) + ((ofI32 ((x45.toNat : Int) + (x35.toNat : Int))).toNat : Int)))).set (x28.2.e3 : Int).toNat x49).set (x28.2.e2 : Int).toNat (ofI32 ((x51.toNat : Int) + (x52.toNat : Int)))).set (x28.2.e1 : Int).toNat x56).set (x28.2.e0 : Int).toNat (ofI32 ((x58.toNat : Int) + ((ofI32 ((x59.toNat : Int) + (x38.toNat : Int))).toNat : Int)))).set (x28.2.e3 : Int).toNat x63).set (x28.2.e2 : Int).toNat (ofI32 ((x65.toNat : Int) + (x66.toNat : Int)))) x28.2.e1).bind fun x68 => (geti (((((((x27.set (x28.2.e0 : Int).toNat (ofI32 ((x44.toNat : Int) + ((ofI32 ((x45.toNat : Int) + (x35.toNat : Int))).toNat : Int)))).set (x28.2.e3 : Int).toNat x49).set (x28.2.e2 : Int).toNat (ofI32 ((x51.toNat : Int) + (x52.toNat : Int)))).set (x28.2.e1 : Int).toNat x56).set (x28.2.e0 : Int).toNat (ofI32 ((x58.toNat : Int) + ((ofI32 ((x59.toNat : Int) + (x38.toNat : Int))).toNat : Int)))).set (x28.2.e3 : Int).toNat x63).set (x28.2.e2 : Int).toNat (ofI32 ((x65.toNat : Int) + (x66.toNat : Int)))) x28.2.e2).bind fun x69 => (bits_RotateLeft32 (x68 ^^^ x69) (i64 (0 - 7))).bind fun x70 => (geti (((((((x27.set (x28.2.e0 : Int).toNat (ofI32 ((x44.toNat : Int) + ((ofI32 ((x45.toNat : Int) + (x35.toNat : Int))).toNat : Int)))).set (x28.2.e3 : Int).toNat x49).set (x28.2.e2 : Int).toNat (ofI32 ((x51.toNat : Int) + (x52.toNat : Int)))).set (x28.2.e1 : Int).toNat x56).set (x28.2.e0 : Int).toNat (ofI32 ((x58.toNat : Int) + ((ofI32 ((x59.toNat : Int) + (x38.toNat : Int))).toNat : Int)))).set (x28.2.e3 : Int).toNat x63).set (x28.2.e2 : Int).toNat (ofI32 ((x65.toNat : Int) + (x66.toNat : Int)))) x28.2.e1).bind fun x71 => some (true, ((((((((x27.set (x28.2.e0 : Int).toNat (ofI32 ((x44.toNat : Int) + ((ofI32 ((x45.toNat : Int) + (x35.toNat : Int))).toNat : Int)))).set (x28.2.e3 : Int).toNat x49).set (x28.2.e2 : Int).toNat (ofI32 ((x51.toNat : Int) + (x52.toNat : Int)))).set (x28.2.e1 : Int).toNat x56).set (x28.2.e0 : Int).toNat (ofI32 ((x58.toNat : Int) + ((ofI32 ((x59.toNat : Int) + (x38.toNat : Int))).toNat : Int)))).set (x28.2.e3 : Int).toNat x63).set (x28.2.e2 : Int).toNat (ofI32 ((x65.toNat : Int) + (x66.toNat : Int)))).set (x28.2.e1 : Int).toNat x70))) (fun (kj39 : Unit → Option (Bool × (List UInt32))) => (geti x27 x28.2.e0).bind fun x40 => (geti x27 x28.2.e1).bind fun x41 => (geti x27 x28.2.e2).bind fun x42 => (geti x27 x28.2.e3).bind fun x43 => kj39 ())
theorem addA (a b c : UInt32) : ofI32 ((a.toNat : Int) + ((ofI32 ((b.toNat : Int) + (c.toNat : Int))).toNat : Int)) = ofI32 (((ofI32 ((a.toNat : Int) + (b.toNat : Int))).toNat : Int) + (c.toNat : Int)) := by
  unfold ofI32
  rw [UInt32.toNat_ofNat', UInt32.toNat_ofNat']
  congr 2
  omega
theorem rotE (x : UInt32) (k : Nat) (hk : k = 16 ∨ k = 12 ∨ k = 8 ∨ k = 7) : bits_RotateLeft32 x (i64 (0 - (k : Int))) = ref03_ror x (k : Int) := by
  unfold bits_RotateLeft32 ref03_ror
  rcases hk with rfl | rfl | rfl | rfl
  · rw [if_pos (by decide), if_pos (by decide), UInt32.or_comm]; rfl
  · rw [if_pos (by decide), if_pos (by decide), UInt32.or_comm]; rfl
  · rw [if_pos (by decide), if_pos (by decide), UInt32.or_comm]; rfl
  · rw [if_pos (by decide), if_pos (by decide), UInt32.or_comm]; rfl
theorem r16 (x : UInt32) : bits_RotateLeft32 x (i64 (0 - 16)) = ref03_ror x 16 := rotE x 16 (by decide)
theorem r12 (x : UInt32) : bits_RotateLeft32 x (i64 (0 - 12)) = ref03_ror x 12 := rotE x 12 (by decide)
theorem r8 (x : UInt32) : bits_RotateLeft32 x (i64 (0 - 8)) = ref03_ror x 8 := rotE x 8 (by decide)
theorem r7 (x : UInt32) : bits_RotateLeft32 x (i64 (0 - 7)) = ref03_ror x 7 := rotE x 7 (by decide)
theorem geti16 {α : Type} {l : List α} (hl : l.length = 16) {i : Int} (h : 0 ≤ i ∧ i < 16) : ∃ x, geti l i = some x := by
  obtain ⟨n, rfl⟩ : ∃ n : Nat, i = (n : Int) := ⟨i.toNat, by omega⟩
  exact ⟨l[n]'(by omega), by rw [jBu]; exact List.getElem?_eq_getElem (by omega)⟩
theorem Tot.ror {β : Type} {P : β → Prop} {a : UInt32} {b : Int} (hb : 0 ≤ b ∧ b ≤ 32) {k : UInt32 → Option β} (f : ∀ x, Tot P (k x)) : Tot P ((ref03_ror a b).bind k) := by
  unfold ref03_ror
  rw [if_pos hb.1, if_pos (by rw [i64_id (by omega) (by omega)]; omega)]
  exact f _
theorem rstir_tot {v : List UInt32} (hv : v.length = 16) {a b c d : Int} (ha : 0 ≤ a ∧ a < 16) (hb : 0 ≤ b ∧ b < 16) (hc : 0 ≤ c ∧ c < 16) (hd : 0 ≤ d ∧ d < 16) (x y : UInt32) : Tot (fun l : List UInt32 => l.length = 16) (ref03_stir v a b c d x y) := by
  unfold ref03_stir
  repeat (first
    | refine Tot.ror (by decide) fun _ => ?_
    | refine Tot.geti16 (by repeat (first | exact hv | refine set16 ?_)) (by assumption) fun _ => ?_)
  exact Tot.of (by repeat (first | exact hv | refine set16 ?_))
def S1 (m : List UInt32) (p q : Int) (a b c d : Int) (v : List UInt32) : Option (List UInt32) := (geti m p).bind fun x => (geti m q).bind fun y => ref03_stir v a b c d x y
theorem S1_tot {m v : List UInt32} (hm : m.length = 16) (hv : v.length = 16) {p q a b c d : Int} (hp : 0 ≤ p ∧ p < 16) (hq : 0 ≤ q ∧ q < 16) (ha : 0 ≤ a ∧ a < 16) (hb : 0 ≤ b ∧ b < 16) (hc : 0 ≤ c ∧ c < 16) (hd : 0 ≤ d ∧ d < 16) : Tot (fun l : List UInt32 => l.length = 16) (S1 m p q a b c d v) :=
  Tot.geti16 hm hp fun _ => Tot.geti16 hm hq fun _ => rstir_tot hv ha hb hc hd _ _
theorem bcg {α β γ : Type} {o : Option α} {f : α → Option β} {g : α → Option γ} {h : γ → Option β} (H : ∀ x, f x = (g x).bind h) : o.bind f = (o.bind g).bind h := by
  cases o with
  | none => rfl
  | some x => exact H x
theorem rnd_eq {row : List UInt8} {m v : List UInt32} (hm : m.length = 16) (hv : v.length = 16) {i : Int} {z : St125} {c1 c2 : UInt8} {p q : Int} (h1 : geti row (i64 (2 * i)) = some c1) (h2 : geti row (i64 ((i64 (2 * i)) + 1)) = some c2) (n1 : digest_number c1 = some p) (n2 : digest_number c2 = some q) (hp : 0 ≤ p ∧ p < 16) (hq : 0 ≤ q ∧ q < 16)
    (z0 : 0 ≤ z.e0 ∧ z.e0 < 16) (z1 : 0 ≤ z.e1 ∧ z.e1 < 16) (z2 : 0 ≤ z.e2 ∧ z.e2 < 16) (z3 : 0 ≤ z.e3 ∧ z.e3 < 16) : rndP row m v (i, z) = (S1 m p q z.e0 z.e1 z.e2 z.e3 v).bind fun l => some (true, l) := by
  obtain ⟨x1, e1⟩ := geti16 hm hp
  obtain ⟨x2, e2⟩ := geti16 hm hq
  obtain ⟨y0, f0⟩ := geti16 hv z0
  obtain ⟨y1, f1⟩ := geti16 hv z1
  obtain ⟨y2, f2⟩ := geti16 hv z2
  obtain ⟨y3, f3⟩ := geti16 hv z3
  unfold rndP S1
  rw [h1, Option.bind_some, h2, Option.bind_some, n1, Option.bind_some, e1]
  rw [Option.bind_some, Option.bind_some, n2, Option.bind_some, e2, Option.bind_some, Option.bind_some, Option.bind_some, Option.bind_some]
  rw [jn_eq', f0, Option.bind_some, f1, Option.bind_some, f2, Option.bind_some, f3, Option.bind_some]
  unfold ref03_stir
  rw [f0, f1]
  repeat rw [Option.bind_some]
  rw [addA]
  clear f0 f1 f2 f3 e1 e2 hv hm
  generalize v.set z.e0.toNat (ofI32 (((ofI32 ((y0.toNat : Int) + (y1.toNat : Int))).toNat : Int) + (x1.toNat : Int))) = v1
  refine bcg fun t1 => bcg fun t2 => ?_
  rw [r16]
  refine bcg fun t3 => bcg fun t4 => ?_
  generalize v1.set z.e3.toNat t3 = v2
  refine bcg fun t5 => bcg fun t6 => bcg fun t7 => ?_
  generalize v2.set z.e2.toNat (ofI32 ((t5.toNat : Int) + (t6.toNat : Int))) = v3
  refine bcg fun t8 => bcg fun t9 => ?_
  rw [r12]
  refine bcg fun t10 => bcg fun t11 => ?_
  generalize v3.set z.e1.toNat t10 = v4
  refine bcg fun t12 => bcg fun t13 => bcg fun t14 => ?_
  rw [addA]
  generalize v4.set z.e0.toNat (ofI32 (((ofI32 ((t12.toNat : Int) + (t13.toNat : Int))).toNat : Int) + (x2.toNat : Int))) = v5
  refine bcg fun t15 => bcg fun t16 => ?_
  rw [r8]
  refine bcg fun t17 => bcg fun t18 => ?_
  generalize v5.set z.e3.toNat t17 = v6
  refine bcg fun t19 => bcg fun t20 => bcg fun t21 => ?_
  generalize v6.set z.e2.toNat (ofI32 ((t19.toNat : Int) + (t20.toNat : Int))) = v7
  refine bcg fun t22 => bcg fun t23 => ?_
  rw [r7]
  exact bcg fun t24 => bcg fun t25 => rfl
theorem quad_eq : ∀ (a : Fin 4) (k : Fin 8), digest_quads_1_1 (a.val : Int) (k.val : Int) = some ((4 * a.val + (k.val + a.val * (k.val / 4)) % 4 : Nat) : Int) := by decide +kernel
theorem quad_at (a k : Nat) (ha : a < 4) (hk : k < 8) : digest_quads_1_1 (a : Int) (k : Int) = some ((4 * a + (k + a * (k / 4)) % 4 : Nat) : Int) := quad_eq ⟨a, ha⟩ ⟨k, hk⟩
def qd (a k : Nat) : Int := ((4 * a + (k + a * (k / 4)) % 4 : Nat) : Int)
theorem qd_ok (a k : Nat) (ha : a < 4) : 0 ≤ qd a k ∧ qd a k < 16 := by unfold qd; omega
def rel (r : List UInt8) (o : List Int) : Bool := (List.range 16).all fun k => match r[k]?, o[k]? with | some c, some n => digest_number c == some n && decide (0 ≤ n ∧ n < 16) | _, _ => false
theorem rel_at {r : List UInt8} {o : List Int} (h : rel r o = true) {k : Nat} (hk : k < 16) : ∃ c n, geti r (k : Int) = some c ∧ geti o (k : Int) = some n ∧ digest_number c = some n ∧ (0 ≤ n ∧ n < 16) := by
  have := List.all_eq_true.1 h k (List.mem_range.2 hk)
  rw [jBu, jBu]
  cases h1 : r[k]? with
  | none => rw [h1] at this; cases this
  | some c =>
    cases h2 : o[k]? with
    | none => rw [h1, h2] at this; cases this
    | some n =>
      rw [h1, h2] at this
      simp only [Bool.and_eq_true, beq_iff_eq, decide_eq_true_eq] at this
      exact ⟨c, n, rfl, rfl, this.1, this.2⟩
def nth (o : List Int) (k : Nat) : Int := (o[k]?).getD 0
def stp (m : List UInt32) (o : List Int) (k : Nat) (v : List UInt32) : Option (List UInt32) := S1 m (nth o (2 * k)) (nth o (2 * k + 1)) (qd 0 k) (qd 1 k) (qd 2 k) (qd 3 k) v
theorem nth_of {o : List Int} {k : Nat} {n : Int} (h : geti o (k : Int) = some n) : nth o k = n := by
  rw [jBu] at h; unfold nth; rw [h]; rfl
theorem stp_tot {m v : List UInt32} {r : List UInt8} {o : List Int} (hm : m.length = 16) (hv : v.length = 16) (h : rel r o = true) {k : Nat} (hk : k < 8) : Tot (fun l : List UInt32 => l.length = 16) (stp m o k v) := by
  obtain ⟨_, n1, _, g1, _, b1⟩ := rel_at h (k := 2 * k) (by omega)
  obtain ⟨_, n2, _, g2, _, b2⟩ := rel_at h (k := 2 * k + 1) (by omega)
  unfold stp
  rw [nth_of g1, nth_of g2]
  exact S1_tot hm hv b1 b2 (qd_ok _ _ (by decide)) (qd_ok _ _ (by decide)) (qd_ok _ _ (by decide)) (qd_ok _ _ (by decide))
theorem quads_step {m v : List UInt32} {r : List UInt8} {o : List Int} (hm : m.length = 16) (hv : v.length = 16) (h : rel r o = true) {k J : Nat} (hk : k < 8) :
    digest_quads_1_l1 (stopC (rndP r m)) (J + 1) (k : Int) (false, v) = (stp m o k v).bind fun l => digest_quads_1_l1 (stopC (rndP r m)) J ((k + 1 : Nat) : Int) (false, l) := by
  obtain ⟨c1, n1, l1, g1, m1, b1⟩ := rel_at h (k := 2 * k) (by omega)
  obtain ⟨c2, n2, l2, g2, m2, b2⟩ := rel_at h (k := 2 * k + 1) (by omega)
  have e1 : i64 (2 * (k : Int)) = ((2 * k : Nat) : Int) := by rw [i64_id (by omega) (by omega)]; omega
  have e2 : i64 (i64 (2 * (k : Int)) + 1) = ((2 * k + 1 : Nat) : Int) := by rw [e1, i64_id (by omega) (by omega)]; omega
  rw [digest_quads_1_l1, if_pos (by omega)]
  rw [show digest_quads_1_1 0 (k : Int) = some (qd 0 k) from quad_at 0 k (by decide) hk, show digest_quads_1_1 1 (k : Int) = some (qd 1 k) from quad_at 1 k (by decide) hk, show digest_quads_1_1 2 (k : Int) = some (qd 2 k) from quad_at 2 k (by decide) hk, show digest_quads_1_1 3 (k : Int) = some (qd 3 k) from quad_at 3 k (by decide) hk]
  simp only [Option.bind_some]
  unfold stopC
  rw [if_neg (show ¬ (false = true) by decide)]
  have hr := rnd_eq (z := ⟨qd 0 k, qd 1 k, qd 2 k, qd 3 k⟩) hm hv (e1.symm ▸ l1) (e2.symm ▸ l2) m1 m2 b1 b2 (qd_ok _ _ (by decide)) (qd_ok _ _ (by decide)) (qd_ok _ _ (by decide)) (qd_ok _ _ (by decide))
  have hs : (rndP r m v ((k : Int), ⟨qd 0 k, qd 1 k, qd 2 k, qd 3 k⟩)) = (stp m o k v).bind fun l => some (true, l) := by rw [hr]; unfold stp; rw [nth_of g1, nth_of g2]
  obtain ⟨l, hl, _⟩ := stp_tot hm hv h hk
  rw [show (rndP r m (false, v).2 ((k : Int), _)) = _ from hs, hl]
  simp only [Option.bind_some, Option.map_some, Bool.not_true]
  rw [if_neg (by decide), nxt (n := 8) hk (by decide)]
def rndR (m : List UInt32) (o : List Int) (v : List UInt32) : Option (List UInt32) :=
  (stp m o 0 v).bind fun v => (stp m o 1 v).bind fun v => (stp m o 2 v).bind fun v => (stp m o 3 v).bind fun v => (stp m o 4 v).bind fun v => (stp m o 5 v).bind fun v => (stp m o 6 v).bind fun v => stp m o 7 v
theorem rndR_tot {m v : List UInt32} {r : List UInt8} {o : List Int} (hm : m.length = 16) (hv : v.length = 16) (h : rel r o = true) : Tot (fun l : List UInt32 => l.length = 16) (rndR m o v) := by
  unfold rndR
  refine (stp_tot hm hv h (by decide)).bind fun v hv => (stp_tot hm hv h (by decide)).bind fun v hv => (stp_tot hm hv h (by decide)).bind fun v hv => (stp_tot hm hv h (by decide)).bind fun v hv => (stp_tot hm hv h (by decide)).bind fun v hv => (stp_tot hm hv h (by decide)).bind fun v hv => (stp_tot hm hv h (by decide)).bind fun v hv => stp_tot hm hv h (by decide)
theorem quads_all {m v : List UInt32} {r : List UInt8} {o : List Int} (hm : m.length = 16) (hv : v.length = 16) (h : rel r o = true) : digest_quads_1 (stopC (rndP r m)) (false, v) = (rndR m o v).bind fun l => some (false, l) := by
  have hF := FU_M
  have hM : M63 = 9223372036854775807 := rfl
  obtain ⟨J, hJ⟩ : ∃ J, FU = J + 9 := ⟨FU - 9, by omega⟩
  unfold digest_quads_1 rndR
  rw [hJ]
  have st : ∀ {v : List UInt32} (hv : v.length = 16) {k J : Nat} (hk : k < 8), _ := fun {v} hv {k J} hk => quads_step (o := o) (J := J) hm hv h hk
  obtain ⟨v1, q1, l1⟩ := stp_tot hm hv h (k := 0) (by decide)
  obtain ⟨v2, q2, l2⟩ := stp_tot hm l1 h (k := 1) (by decide)
  obtain ⟨v3, q3, l3⟩ := stp_tot hm l2 h (k := 2) (by decide)
  obtain ⟨v4, q4, l4⟩ := stp_tot hm l3 h (k := 3) (by decide)
  obtain ⟨v5, q5, l5⟩ := stp_tot hm l4 h (k := 4) (by decide)
  obtain ⟨v6, q6, l6⟩ := stp_tot hm l5 h (k := 5) (by decide)
  obtain ⟨v7, q7, l7⟩ := stp_tot hm l6 h (k := 6) (by decide)
  obtain ⟨v8, q8, l8⟩ := stp_tot hm l7 h (k := 7) (by decide)
  have s0 := quads_step (J := J + 8) hm hv h (k := 0) (by decide)
  have s1 := quads_step (J := J + 7) hm l1 h (k := 1) (by decide)
  have s2 := quads_step (J := J + 6) hm l2 h (k := 2) (by decide)
  have s3 := quads_step (J := J + 5) hm l3 h (k := 3) (by decide)
  have s4 := quads_step (J := J + 4) hm l4 h (k := 4) (by decide)
  have s5 := quads_step (J := J + 3) hm l5 h (k := 5) (by decide)
  have s6 := quads_step (J := J + 2) hm l6 h (k := 6) (by decide)
  have s7 := quads_step (J := J + 1) hm l7 h (k := 7) (by decide)
  rw [q1, Option.bind_some] at s0
  rw [q2, Option.bind_some] at s1
  rw [q3, Option.bind_some] at s2
  rw [q4, Option.bind_some] at s3
  rw [q5, Option.bind_some] at s4
  rw [q6, Option.bind_some] at s5
  rw [q7, Option.bind_some] at s6
  rw [q8, Option.bind_some] at s7
  rw [q1, Option.bind_some, q2, Option.bind_some, q3, Option.bind_some, q4, Option.bind_some, q5, Option.bind_some, q6, Option.bind_some, q7, Option.bind_some, q8, Option.bind_some]
  refine s0.trans (s1.trans (s2.trans (s3.trans (s4.trans (s5.trans (s6.trans (s7.trans ?_)))))))
  rw [digest_quads_1_l1, if_neg (by decide)]
theorem ref_round {m v : List UInt32} {r : List UInt8} {o : List Int} (hm : m.length = 16) (hv : v.length = 16) (h : rel r o = true) {kj : List UInt32 → Option St76} {O : List (List Int)} {J k : Nat} (hk : k < 10) (ho : geti O (k : Int) = some o) :
    ref03_Mix_l3 O m kj (J + 1) (k : Int) v = (rndR m o v).bind fun l => ref03_Mix_l3 O m kj J ((k + 1 : Nat) : Int) l := by
  have g : ∀ k : Nat, k < 16 → geti o (k : Int) = some (nth o k) := fun k hk => by
    obtain ⟨c, n, _, g, _, _⟩ := rel_at h hk
    rw [g, nth_of g]
  rw [ref03_Mix_l3, if_pos (by omega), ho, nxt (n := 10) hk (by decide)]
  have g0 := g 0 (by decide); have g1 := g 1 (by decide); have g2 := g 2 (by decide); have g3 := g 3 (by decide); have g4 := g 4 (by decide); have g5 := g 5 (by decide); have g6 := g 6 (by decide); have g7 := g 7 (by decide)
  have g8 := g 8 (by decide); have g9 := g 9 (by decide); have g10 := g 10 (by decide); have g11 := g 11 (by decide); have g12 := g 12 (by decide); have g13 := g 13 (by decide); have g14 := g 14 (by decide); have g15 := g 15 (by decide)
  unfold rndR stp S1
  have e : ∀ a k, qd a k = ((4 * a + (k + a * (k / 4)) % 4 : Nat) : Int) := fun _ _ => rfl
  simp only [Option.bind_assoc, Option.bind_some]
  rw [show geti o 0 = some (nth o 0) from g0, show geti o 1 = some (nth o 1) from g1, show geti o 2 = some (nth o 2) from g2, show geti o 3 = some (nth o 3) from g3, show geti o 4 = some (nth o 4) from g4, show geti o 5 = some (nth o 5) from g5, show geti o 6 = some (nth o 6) from g6, show geti o 7 = some (nth o 7) from g7,
    show geti o 8 = some (nth o 8) from g8, show geti o 9 = some (nth o 9) from g9, show geti o 10 = some (nth o 10) from g10, show geti o 11 = some (nth o 11) from g11, show geti o 12 = some (nth o 12) from g12, show geti o 13 = some (nth o 13) from g13, show geti o 14 = some (nth o 14) from g14, show geti o 15 = some (nth o 15) from g15]
  simp only [Option.bind_some]
  rfl
end Go.Proofs

set_option linter.unusedVariables false
set_option linter.unusedSimpArgs false
namespace Go.Proofs
open Go.Fw
def OP : List (List UInt8) := ([([48, 49, 50, 51, 52, 53, 54, 55, 56, 57, 97, 98, 99, 100, 101, 102] : List UInt8), ([101, 97, 52, 56, 57, 102, 100, 54, 49, 99, 48, 50, 98, 55, 53, 51] : List UInt8), ([98, 56, 99, 48, 53, 50, 102, 100, 97, 101, 51, 54, 55, 49, 57, 52] : List UInt8), ([55, 57, 51, 49, 100, 99, 98, 101, 50, 54, 53, 97, 52, 48, 102, 56] : List UInt8), ([57, 48, 53, 55, 50, 52, 97, 102, 101, 49, 98, 99, 54, 56, 51, 100] : List UInt8), ([50, 99, 54, 97, 48, 98, 56, 51, 52, 100, 55, 53, 102, 101, 49, 57] : List UInt8), ([99, 53, 49, 102, 101, 100, 52, 97, 48, 55, 54, 51, 57, 50, 56, 98] : List UInt8), ([100, 98, 55, 101, 99, 49, 51, 57, 53, 48, 102, 52, 56, 54, 50, 97] : List UInt8), ([54, 102, 101, 57, 98, 51, 48, 56, 99, 50, 100, 55, 49, 52, 97, 53] : List UInt8), ([97, 50, 56, 52, 55, 54, 49, 53, 102, 98, 57, 101, 51, 99, 100, 48] : List UInt8)] : List (List UInt8))
def OR : List (List Int) := ([([0, 1, 2, 3, 4, 5, 6, 7, 8, 9, 10, 11, 12, 13, 14, 15] : List Int), ([14, 10, 4, 8, 9, 15, 13, 6, 1, 12, 0, 2, 11, 7, 5, 3] : List Int), ([11, 8, 12, 0, 5, 2, 15, 13, 10, 14, 3, 6, 7, 1, 9, 4] : List Int), ([7, 9, 3, 1, 13, 12, 11, 14, 2, 6, 5, 10, 4, 0, 15, 8] : List Int), ([9, 0, 5, 7, 2, 4, 10, 15, 14, 1, 11, 12, 6, 8, 3, 13] : List Int), ([2, 12, 6, 10, 0, 11, 8, 3, 4, 13, 7, 5, 15, 14, 1, 9] : List Int), ([12, 5, 1, 15, 14, 13, 4, 10, 0, 7, 6, 3, 9, 2, 8, 11] : List Int), ([13, 11, 7, 14, 12, 1, 3, 9, 5, 0, 15, 4, 8, 6, 2, 10] : List Int), ([6, 15, 14, 9, 11, 3, 0, 8, 12, 2, 13, 7, 1, 4, 10, 5] : List Int), ([10, 2, 8, 4, 7, 6, 1, 5, 15, 11, 9, 14, 3, 12, 13, 0] : List Int)] : List (List Int))
theorem rel_all : ∀ k : Fin 10, rel (OP.getD k.val []) (OR.getD k.val []) = true := by decide +kernel
theorem OP_at {k : Nat} (h : k < 10) : geti OP (k : Int) = some (OP.getD k []) := by
  rw [jBu, List.getD_eq_getElem?_getD, List.getElem?_eq_getElem (show k < OP.length from h)]; rfl
theorem OR_at {k : Nat} (h : k < 10) : geti OR (k : Int) = some (OR.getD k []) := by
  rw [jBu, List.getD_eq_getElem?_getD, List.getElem?_eq_getElem (show k < OR.length from h)]; rfl
def endP (a0 : St76) (w : List UInt32) : Option St76 := jn (fun (x73 : UInt32) (x74 : UInt32) (x75 : UInt32) (x76 : UInt32) (x77 : UInt32) (x78 : UInt32) (x79 : UInt32) (x80 : UInt32) => some (⟨x73, x74, x75, x76, x77, x78, x79, x80⟩ : St76)) (fun (kj72 : UInt32 → UInt32 → UInt32 → UInt32 → UInt32 → UInt32 → UInt32 → UInt32 → Option St76) => digest_mix_l2 w kj72 FU 0 a0.e0 a0.e1 a0.e2 a0.e3 a0.e4 a0.e5 a0.e6 a0.e7)
theorem mixP_succ (m : List UInt32) (a0 : St76) (J : Nat) (i : Int) (v : List UInt32) : digest_mix_l1 OP m a0 (J + 1) i v = if i < 10 then (geti OP i).bind fun r => (digest_quads_1 (stopC (rndP r m)) (false, v)).bind fun z => digest_mix_l1 OP m a0 J (i64 (i + 1)) z.2 else endP a0 v := by
  rw [digest_mix_l1, jn_eq']
  unfold digest_quads endP
  rfl
theorem rounds {m : List UInt32} (hm : m.length = 16) (a0 : St76) (kj : List UInt32 → Option St76) : ∀ (J k : Nat) (v : List UInt32), k ≤ 10 → 10 - k < J → v.length = 16 → ∃ w, w.length = 16 ∧ digest_mix_l1 OP m a0 J (k : Int) v = endP a0 w ∧ ref03_Mix_l3 OR m kj J (k : Int) v = kj w
  | 0, k, _, _, h, _ => by omega
  | J + 1, k, v, h1, h2, hv => by
    by_cases c : k < 10
    · have hr := rel_all ⟨k, c⟩
      obtain ⟨l, e, hl⟩ := rndR_tot hm hv hr
      rw [mixP_succ, if_pos (by omega), OP_at c, Option.bind_some, quads_all hm hv hr, e, Option.bind_some, Option.bind_some, nxt (n := 10) c (by decide), ref_round hm hv hr c (OR_at c), e, Option.bind_some]
      exact rounds hm a0 kj J (k + 1) l (by omega) (by omega) hl
    · refine ⟨v, hv, ?_, ?_⟩
      · rw [mixP_succ, if_neg (by omega)]
      · rw [ref03_Mix_l3, if_neg (by omega)]
theorem sixteen {α : Type} {l : List α} (h : l.length = 16) : ∃ w0 w1 w2 w3 w4 w5 w6 w7 w8 w9 w10 w11 w12 w13 w14 w15 : α, l = [w0, w1, w2, w3, w4, w5, w6, w7, w8, w9, w10, w11, w12, w13, w14, w15] := by
  match l, h with
  | [w0, w1, w2, w3, w4, w5, w6, w7, w8, w9, w10, w11, w12, w13, w14, w15], _ => exact ⟨w0, w1, w2, w3, w4, w5, w6, w7, w8, w9, w10, w11, w12, w13, w14, w15, rfl⟩
def xo (a0 : St76) (w : List UInt32) : St76 := ⟨a0.e0 ^^^ (w.getD 0 0 ^^^ w.getD 8 0), a0.e1 ^^^ (w.getD 1 0 ^^^ w.getD 9 0), a0.e2 ^^^ (w.getD 2 0 ^^^ w.getD 10 0), a0.e3 ^^^ (w.getD 3 0 ^^^ w.getD 11 0), a0.e4 ^^^ (w.getD 4 0 ^^^ w.getD 12 0), a0.e5 ^^^ (w.getD 5 0 ^^^ w.getD 13 0), a0.e6 ^^^ (w.getD 6 0 ^^^ w.getD 14 0), a0.e7 ^^^ (w.getD 7 0 ^^^ w.getD 15 0)⟩
theorem endP_eq (a0 : St76) {w : List UInt32} (h : w.length = 16) : endP a0 w = some (xo a0 w) := by
  have hF := FU_M
  have hM : M63 = 9223372036854775807 := rfl
  obtain ⟨J, hJ⟩ : ∃ J, FU = J + 9 := ⟨FU - 9, by omega⟩
  obtain ⟨w0, w1, w2, w3, w4, w5, w6, w7, w8, w9, w10, w11, w12, w13, w14, w15, rfl⟩ := sixteen h
  unfold endP
  rw [jn_eq', hJ]
  have : digest_mix_l2 [w0, w1, w2, w3, w4, w5, w6, w7, w8, w9, w10, w11, w12, w13, w14, w15] (fun (x73 : UInt32) (x74 : UInt32) (x75 : UInt32) (x76 : UInt32) (x77 : UInt32) (x78 : UInt32) (x79 : UInt32) (x80 : UInt32) => some (⟨x73, x74, x75, x76, x77, x78, x79, x80⟩ : St76)) (J + 9) 0 a0.e0 a0.e1 a0.e2 a0.e3 a0.e4 a0.e5 a0.e6 a0.e7 = some ⟨a0.e0 ^^^ (w0 ^^^ w8), a0.e1 ^^^ (w1 ^^^ w9), a0.e2 ^^^ (w2 ^^^ w10), a0.e3 ^^^ (w3 ^^^ w11), a0.e4 ^^^ (w4 ^^^ w12), a0.e5 ^^^ (w5 ^^^ w13), a0.e6 ^^^ (w6 ^^^ w14), a0.e7 ^^^ (w7 ^^^ w15)⟩ := by kernel_rfl
  rw [this]
  rfl
theorem endR_eq (a0 : St76) {w : List UInt32} (h : w.length = 16) : ref03_Mix_l4 w (fun (x73 : UInt32) (x74 : UInt32) (x75 : UInt32) (x76 : UInt32) (x77 : UInt32) (x78 : UInt32) (x79 : UInt32) (x80 : UInt32) => some (⟨x73, x74, x75, x76, x77, x78, x79, x80⟩ : St76)) FU 0 a0.e0 a0.e1 a0.e2 a0.e3 a0.e4 a0.e5 a0.e6 a0.e7 = some (xo a0 w) := by
  have hF := FU_M
  have hM : M63 = 9223372036854775807 := rfl
  obtain ⟨J, hJ⟩ : ∃ J, FU = J + 9 := ⟨FU - 9, by omega⟩
  obtain ⟨w0, w1, w2, w3, w4, w5, w6, w7, w8, w9, w10, w11, w12, w13, w14, w15, rfl⟩ := sixteen h
  rw [hJ]
  have : ref03_Mix_l4 [w0, w1, w2, w3, w4, w5, w6, w7, w8, w9, w10, w11, w12, w13, w14, w15] (fun (x73 : UInt32) (x74 : UInt32) (x75 : UInt32) (x76 : UInt32) (x77 : UInt32) (x78 : UInt32) (x79 : UInt32) (x80 : UInt32) => some (⟨x73, x74, x75, x76, x77, x78, x79, x80⟩ : St76)) (J + 9) 0 a0.e0 a0.e1 a0.e2 a0.e3 a0.e4 a0.e5 a0.e6 a0.e7 = some ⟨(a0.e0 ^^^ w0) ^^^ w8, (a0.e1 ^^^ w1) ^^^ w9, (a0.e2 ^^^ w2) ^^^ w10, (a0.e3 ^^^ w3) ^^^ w11, (a0.e4 ^^^ w4) ^^^ w12, (a0.e5 ^^^ w5) ^^^ w13, (a0.e6 ^^^ w6) ^^^ w14, (a0.e7 ^^^ w7) ^^^ w15⟩ := by kernel_rfl
  rw [this]
  unfold xo
  simp only [UInt32.xor_assoc]
  rfl
def wP (a b c d : UInt8) : UInt32 := (((((0 : UInt32) ||| ofI32 (((ofI32 (a.toNat : Int)).toNat : Int) * 2 ^ 0)) ||| ofI32 (((ofI32 (b.toNat : Int)).toNat : Int) * 2 ^ 8)) ||| ofI32 (((ofI32 (c.toNat : Int)).toNat : Int) * 2 ^ 16)) ||| ofI32 (((ofI32 (d.toNat : Int)).toNat : Int) * 2 ^ 24))
def wR (a b c d : UInt8) : UInt32 := ofI32 (((ofI32 (((ofI32 (((ofI32 (a.toNat : Int)).toNat : Int) + ((ofI32 (256 * ((ofI32 (b.toNat : Int)).toNat : Int))).toNat : Int))).toNat : Int) + ((ofI32 (65536 * ((ofI32 (c.toNat : Int)).toNat : Int))).toNat : Int))).toNat : Int) + ((ofI32 (16777216 * ((ofI32 (d.toNat : Int)).toNat : Int))).toNat : Int))
theorem or_add {x y k : Nat} (h : x < 2 ^ k) : x ||| (y * 2 ^ k) = x + y * 2 ^ k := by
  rw [Nat.or_comm, Nat.mul_comm, ← Nat.two_pow_add_eq_or_of_lt h]; omega
theorem u32n {n : Nat} (h : n < 4294967296) : (ofI32 (n : Int)).toNat = n := by
  have := ofI32_nat (p := (n : Int)) (by omega) (by omega); omega
theorem w_eq (a b c d : UInt8) : wP a b c d = wR a b c d := by
  have ha := a.toNat_lt; have hb := b.toNat_lt; have hc := c.toNat_lt; have hd := d.toNat_lt
  unfold wP wR
  apply UInt32.toNat.inj
  generalize a.toNat = x at *
  generalize b.toNat = y at *
  generalize c.toNat = z at *
  generalize d.toNat = t at *
  have e0 : (ofI32 (x : Int)).toNat = x := u32n (by omega)
  have e1 : (ofI32 (y : Int)).toNat = y := u32n (by omega)
  have e2 : (ofI32 (z : Int)).toNat = z := u32n (by omega)
  have e3 : (ofI32 (t : Int)).toNat = t := u32n (by omega)
  simp only [UInt32.toNat_or, e0, e1, e2, e3]
  have f0 : ((x : Int) * 2 ^ 0) = ((x : Nat) : Int) := by omega
  have f1 : ((y : Int) * 2 ^ 8) = ((y * 256 : Nat) : Int) := by omega
  have f2 : ((z : Int) * 2 ^ 16) = ((z * 65536 : Nat) : Int) := by omega
  have f3 : ((t : Int) * 2 ^ 24) = ((t * 16777216 : Nat) : Int) := by omega
  rw [f0, f1, f2, f3, u32n (n := x) (by omega), u32n (n := y * 256) (by omega), u32n (n := z * 65536) (by omega), u32n (n := t * 16777216) (by omega)]
  have g1 : (256 * (y : Int)) = ((y * 256 : Nat) : Int) := by omega
  have g2 : (65536 * (z : Int)) = ((z * 65536 : Nat) : Int) := by omega
  have g3 : (16777216 * (t : Int)) = ((t * 16777216 : Nat) : Int) := by omega
  rw [g1, g2, g3, u32n (n := y * 256) (by omega), u32n (n := z * 65536) (by omega), u32n (n := t * 16777216) (by omega)]
  have k1 : ((x : Int) + ((y * 256 : Nat) : Int)) = ((x + y * 256 : Nat) : Int) := by omega
  rw [k1, u32n (n := x + y * 256) (by omega)]
  have k2 : (((x + y * 256 : Nat) : Int) + ((z * 65536 : Nat) : Int)) = ((x + y * 256 + z * 65536 : Nat) : Int) := by omega
  rw [k2, u32n (n := x + y * 256 + z * 65536) (by omega)]
  have k3 : (((x + y * 256 + z * 65536 : Nat) : Int) + ((t * 16777216 : Nat) : Int)) = ((x + y * 256 + z * 65536 + t * 16777216 : Nat) : Int) := by omega
  rw [k3, u32n (n := x + y * 256 + z * 65536 + t * 16777216) (by omega)]
  have z0 : (0 : UInt32).toNat = 0 := rfl
  rw [z0, Nat.zero_or, show y * 256 = y * 2 ^ 8 from rfl, or_add (show x < 2 ^ 8 by omega), show z * 65536 = z * 2 ^ 16 from rfl, or_add (show x + y * 2 ^ 8 < 2 ^ 16 by omega), show t * 16777216 = t * 2 ^ 24 from rfl, or_add (show x + y * 2 ^ 8 + z * 2 ^ 16 < 2 ^ 24 by omega)]
theorem sixtyfour {α : Type} {l : List α} (h : l.length = 64) : ∃ b0 b1 b2 b3 b4 b5 b6 b7 b8 b9 b10 b11 b12 b13 b14 b15 b16 b17 b18 b19 b20 b21 b22 b23 b24 b25 b26 b27 b28 b29 b30 b31 b32 b33 b34 b35 b36 b37 b38 b39 b40 b41 b42 b43 b44 b45 b46 b47 b48 b49 b50 b51 b52 b53 b54 b55 b56 b57 b58 b59 b60 b61 b62 b63 : α, l = [b0, b1, b2, b3, b4, b5, b6, b7, b8, b9, b10, b11, b12, b13, b14, b15, b16, b17, b18, b19, b20, b21, b22, b23, b24, b25, b26, b27, b28, b29, b30, b31, b32, b33, b34, b35, b36, b37, b38, b39, b40, b41, b42, b43, b44, b45, b46, b47, b48, b49, b50, b51, b52, b53, b54, b55, b56, b57, b58, b59, b60, b61, b62, b63] := by
  match l, h with
  | b0 :: b1 :: b2 :: b3 :: b4 :: b5 :: b6 :: b7 :: b8 :: b9 :: b10 :: b11 :: b12 :: b13 :: b14 :: b15 :: b16 :: b17 :: b18 :: b19 :: b20 :: b21 :: b22 :: b23 :: b24 :: b25 :: b26 :: b27 :: b28 :: b29 :: b30 :: b31 :: b32 :: b33 :: b34 :: b35 :: b36 :: b37 :: b38 :: b39 :: b40 :: b41 :: b42 :: b43 :: b44 :: b45 :: b46 :: b47 :: b48 :: b49 :: b50 :: b51 :: b52 :: b53 :: b54 :: b55 :: b56 :: b57 :: b58 :: b59 :: b60 :: b61 :: b62 :: b63 :: [], _ => exact ⟨b0, b1, b2, b3, b4, b5, b6, b7, b8, b9, b10, b11, b12, b13, b14, b15, b16, b17, b18, b19, b20, b21, b22, b23, b24, b25, b26, b27, b28, b29, b30, b31, b32, b33, b34, b35, b36, b37, b38, b39, b40, b41, b42, b43, b44, b45, b46, b47, b48, b49, b50, b51, b52, b53, b54, b55, b56, b57, b58, b59, b60, b61, b62, b63, rfl⟩
def wsP (l : List UInt8) : List UInt32 := (List.range 16).map fun k => wP (l.getD (4 * k) 0) (l.getD (4 * k + 1) 0) (l.getD (4 * k + 2) 0) (l.getD (4 * k + 3) 0)
theorem wsP_len (l : List UInt8) : (wsP l).length = 16 := by unfold wsP; rw [List.length_map, List.length_range]
theorem words_eq {l : List UInt8} (h : l.length = 64) : digest_words l = some (wsP l) := by
  have hF := FU_M
  have hM : M63 = 9223372036854775807 := rfl
  obtain ⟨J, hJ⟩ : ∃ J, FU = J + 65 := ⟨FU - 65, by omega⟩
  obtain ⟨b0, b1, b2, b3, b4, b5, b6, b7, b8, b9, b10, b11, b12, b13, b14, b15, b16, b17, b18, b19, b20, b21, b22, b23, b24, b25, b26, b27, b28, b29, b30, b31, b32, b33, b34, b35, b36, b37, b38, b39, b40, b41, b42, b43, b44, b45, b46, b47, b48, b49, b50, b51, b52, b53, b54, b55, b56, b57, b58, b59, b60, b61, b62, b63, rfl⟩ := sixtyfour h
  unfold digest_words
  rw [jn_eq', hJ]
  show _ = _
  kernel_rfl
theorem wordsR_eq {l : List UInt8} (h : l.length = 64) (kj : List UInt32 → Option St76) : ref03_Mix_l1 l kj FU 0 (List.replicate 16 0) = kj (wsP l) := by
  have hF := FU_M
  have hM : M63 = 9223372036854775807 := rfl
  obtain ⟨J, hJ⟩ : ∃ J, FU = J + 17 := ⟨FU - 17, by omega⟩
  obtain ⟨b0, b1, b2, b3, b4, b5, b6, b7, b8, b9, b10, b11, b12, b13, b14, b15, b16, b17, b18, b19, b20, b21, b22, b23, b24, b25, b26, b27, b28, b29, b30, b31, b32, b33, b34, b35, b36, b37, b38, b39, b40, b41, b42, b43, b44, b45, b46, b47, b48, b49, b50, b51, b52, b53, b54, b55, b56, b57, b58, b59, b60, b61, b62, b63, rfl⟩ := sixtyfour h
  have e : wsP [b0, b1, b2, b3, b4, b5, b6, b7, b8, b9, b10, b11, b12, b13, b14, b15, b16, b17, b18, b19, b20, b21, b22, b23, b24, b25, b26, b27, b28, b29, b30, b31, b32, b33, b34, b35, b36, b37, b38, b39, b40, b41, b42, b43, b44, b45, b46, b47, b48, b49, b50, b51, b52, b53, b54, b55, b56, b57, b58, b59, b60, b61, b62, b63] = [wR b0 b1 b2 b3, wR b4 b5 b6 b7, wR b8 b9 b10 b11, wR b12 b13 b14 b15, wR b16 b17 b18 b19, wR b20 b21 b22 b23, wR b24 b25 b26 b27, wR b28 b29 b30 b31, wR b32 b33 b34 b35, wR b36 b37 b38 b39, wR b40 b41 b42 b43, wR b44 b45 b46 b47, wR b48 b49 b50 b51, wR b52 b53 b54 b55, wR b56 b57 b58 b59, wR b60 b61 b62 b63] := by
    simp only [← w_eq]
    rfl
  rw [e, hJ]
  show _ = _
  kernel_rfl
def iv8 : List UInt32 := [1779033703, 3144134277, 1013904242, 2773480762, 1359893119, 2600822924, 528734635, 1541459225]
theorem init_eq (a0 : St76) (kj : List UInt32 → Option St76) : ref03_Mix_l2 a0 kj FU 0 (List.replicate 16 0) = kj ([a0.e0, a0.e1, a0.e2, a0.e3, a0.e4, a0.e5, a0.e6, a0.e7] ++ iv8) := by
  have hF := FU_M
  have hM : M63 = 9223372036854775807 := rfl
  obtain ⟨J, hJ⟩ : ∃ J, FU = J + 9 := ⟨FU - 9, by omega⟩
  rw [hJ]
  show _ = _
  kernel_rfl
end Go.Proofs

set_option linter.unusedVariables false
set_option linter.unusedSimpArgs false
namespace Go.Proofs
open Go.Fw
def V3 (a0 : St76) (p q r : UInt32) : List UInt32 := [a0.e0, a0.e1, a0.e2, a0.e3, a0.e4, a0.e5, a0.e6, a0.e7, 1779033703, 3144134277, 1013904242, 2773480762, p, q, r, 1541459225]
theorem lo_eq (n : UInt64) : ofI32 ((ofI64 ((n.toNat : Int).tmod 4294967296)).toNat : Int) = ofI32 (n.toNat : Int) := by
  have hn := n.toNat_lt
  rw [Int.tmod_eq_emod_of_nonneg (by omega), ofI64_nat (by omega) (by omega)]
  unfold ofI32
  congr 2
  omega
theorem hi_eq (n : UInt64) : ofI32 ((ofI64 ((n.toNat : Int).tdiv 4294967296)).toNat : Int) = ofI32 ((shr64 n 32).toNat : Int) := by
  have hn := n.toNat_lt
  rw [Int.tdiv_eq_ediv_of_nonneg (by omega), ofI64_nat (by omega) (by omega)]
  unfold shr64
  rw [UInt64.toNat_ofNat', show min (32 : Int).toNat 64 = 32 from rfl]
  congr 1
  omega
theorem mixP_run (a0 : St76) {s : List UInt8} (hs : s.length = 64) (n : UInt64) (b : Bool) : digest_mix a0 s n b = digest_mix_l1 OP (wsP s) a0 FU 0 (V3 a0 ((1359893119 : UInt32) ^^^ ofI32 (n.toNat : Int)) ((2600822924 : UInt32) ^^^ ofI32 ((shr64 n 32).toNat : Int)) (if b = true then (4294967295 : UInt32) ^^^ 528734635 else 528734635)) := by
  unfold digest_mix digest_first
  rw [Option.bind_some, words_eq hs, Option.bind_some, jn_eq']
  dsimp only
  rw [jn_eq']
  dsimp only
  have hv : cpyAt (cpyAt (List.replicate 16 (0 : UInt32)) 0 8 ([a0.e0, a0.e1, a0.e2, a0.e3, a0.e4, a0.e5, a0.e6, a0.e7] : List UInt32)) 8 16 ([1779033703, 3144134277, 1013904242, 2773480762, 1359893119, 2600822924, 528734635, 1541459225] : List UInt32) = V3 a0 1359893119 2600822924 528734635 := by
    show _ = _
    kernel_rfl
  rw [hv]
  have g12 : ∀ p q r, geti (V3 a0 p q r) 12 = some p := fun _ _ _ => rfl
  have g13 : ∀ p q r, geti (V3 a0 p q r) 13 = some q := fun _ _ _ => rfl
  have g14 : ∀ p q r, geti (V3 a0 p q r) 14 = some r := fun _ _ _ => rfl
  have s12 : ∀ p q r v, (V3 a0 p q r).set (12 : Int).toNat v = V3 a0 v q r := fun _ _ _ _ => rfl
  have s13 : ∀ p q r v, (V3 a0 p q r).set (13 : Int).toNat v = V3 a0 p v r := fun _ _ _ _ => rfl
  have s14 : ∀ p q r v, (V3 a0 p q r).set (14 : Int).toNat v = V3 a0 p q v := fun _ _ _ _ => rfl
  rw [g12, Option.bind_some, Option.bind_some, Option.bind_some, Option.bind_some, s12, g13, Option.bind_some, Option.bind_some, Option.bind_some, Option.bind_some, jn_eq', s13]
  dsimp only
  have ho : digest_orders = some OP := rfl
  cases b with
  | true => rw [if_pos rfl, if_pos rfl, g14, Option.bind_some, Option.bind_some, Option.bind_some, Option.bind_some, s14, ho, Option.bind_some]
  | false => rw [if_neg (by decide), if_neg (by decide), ho, Option.bind_some]
theorem mixR_run (a0 : St76) {s : List UInt8} (hs : s.length = 64) (n : UInt64) (b : Bool) : ref03_Mix a0 s n b = ref03_Mix_l3 OR (wsP s) (fun w => ref03_Mix_l4 w (fun (x73 : UInt32) (x74 : UInt32) (x75 : UInt32) (x76 : UInt32) (x77 : UInt32) (x78 : UInt32) (x79 : UInt32) (x80 : UInt32) => some (⟨x73, x74, x75, x76, x77, x78, x79, x80⟩ : St76)) FU 0 a0.e0 a0.e1 a0.e2 a0.e3 a0.e4 a0.e5 a0.e6 a0.e7) FU 0 (V3 a0 ((1359893119 : UInt32) ^^^ ofI32 (n.toNat : Int)) ((2600822924 : UInt32) ^^^ ofI32 ((shr64 n 32).toNat : Int)) (if b = true then (4294967295 : UInt32) ^^^ 528734635 else 528734635)) := by
  unfold ref03_Mix
  have hm : makel 70368744177664 (0 : UInt32) 16 = some (List.replicate 16 0) := by unfold makel; rw [if_pos (by decide)]; rfl
  rw [hm, Option.bind_some, jn_eq', wordsR_eq hs]
  rw [Option.bind_some, jn_eq', init_eq]
  have hv : ([a0.e0, a0.e1, a0.e2, a0.e3, a0.e4, a0.e5, a0.e6, a0.e7] ++ iv8) = V3 a0 1359893119 2600822924 528734635 := rfl
  rw [hv]
  have g12 : ∀ p q r, geti (V3 a0 p q r) 12 = some p := fun _ _ _ => rfl
  have g13 : ∀ p q r, geti (V3 a0 p q r) 13 = some q := fun _ _ _ => rfl
  have g14 : ∀ p q r, geti (V3 a0 p q r) 14 = some r := fun _ _ _ => rfl
  have s12 : ∀ p q r v, (V3 a0 p q r).set (12 : Int).toNat v = V3 a0 v q r := fun _ _ _ _ => rfl
  have s13 : ∀ p q r v, (V3 a0 p q r).set (13 : Int).toNat v = V3 a0 p v r := fun _ _ _ _ => rfl
  have s14 : ∀ p q r v, (V3 a0 p q r).set (14 : Int).toNat v = V3 a0 p q v := fun _ _ _ _ => rfl
  rw [g12, Option.bind_some, Option.bind_some, s12, g13, Option.bind_some, Option.bind_some, jn_eq', s13, lo_eq, hi_eq]
  dsimp only
  have ho : ref03_orders = some OR := rfl
  cases b with
  | true =>
    rw [if_pos rfl, if_pos rfl, g14, Option.bind_some, Option.bind_some, s14, ho, Option.bind_some, jn_eq', UInt32.xor_comm 528734635]
    refine congrArg (fun k => ref03_Mix_l3 OR (wsP s) k FU 0 _) ?_
    funext w; rw [jn_eq']
  | false =>
    rw [if_neg (by decide), if_neg (by decide), ho, Option.bind_some, jn_eq']
    refine congrArg (fun k => ref03_Mix_l3 OR (wsP s) k FU 0 _) ?_
    funext w; rw [jn_eq']
theorem mix_eq (a0 : St76) {s : List UInt8} (hs : s.length = 64) (n : UInt64) (b : Bool) : ∃ r, digest_mix a0 s n b = some r ∧ ref03_Mix a0 s n b = some r := by
  have hF := FU_M
  have hM : M63 = 9223372036854775807 := rfl
  rw [mixP_run a0 hs, mixR_run a0 hs]
  obtain ⟨w, hw, e1, e2⟩ := rounds (wsP_len s) a0 (fun w => ref03_Mix_l4 w (fun (x73 : UInt32) (x74 : UInt32) (x75 : UInt32) (x76 : UInt32) (x77 : UInt32) (x78 : UInt32) (x79 : UInt32) (x80 : UInt32) => some (⟨x73, x74, x75, x76, x77, x78, x79, x80⟩ : St76)) FU 0 a0.e0 a0.e1 a0.e2 a0.e3 a0.e4 a0.e5 a0.e6 a0.e7) FU 0 (V3 a0 ((1359893119 : UInt32) ^^^ ofI32 (n.toNat : Int)) ((2600822924 : UInt32) ^^^ ofI32 ((shr64 n 32).toNat : Int)) (if b = true then (4294967295 : UInt32) ^^^ 528734635 else 528734635)) (by omega) (by omega) rfl
  exact ⟨_, e1.trans (endP_eq a0 hw), e2.trans (endR_eq a0 hw)⟩
end Go.Proofs

set_option linter.unusedVariables false
set_option linter.unusedSimpArgs false
namespace Go.Proofs
open Go.Fw
def mx (h : St76) (b : List UInt8) (n : UInt64) (l : Bool) : St76 := (digest_mix h b n l).getD h
theorem mx_P (h : St76) {b : List UInt8} (hb : b.length = 64) (n : UInt64) (l : Bool) : digest_mix h b n l = some (mx h b n l) := by
  obtain ⟨r, e, _⟩ := mix_eq h hb n l
  unfold mx; rw [e]; rfl
theorem mx_R (h : St76) {b : List UInt8} (hb : b.length = 64) (n : UInt64) (l : Bool) : ref03_Mix h b n l = some (mx h b n l) := by
  obtain ⟨r, e, e2⟩ := mix_eq h hb n l
  unfold mx; rw [e, e2]; rfl
abbrev n64 (n : UInt64) : UInt64 := ofI64 ((n.toNat : Int) + 64)
def ab : Nat → St76 → List UInt8 → UInt64 → St76 × List UInt8 × UInt64
  | 0, h, r, n => (h, r, n)
  | k + 1, h, r, n => if 64 < r.length then ab k (mx h (r.take 64) (n64 n) false) (r.drop 64) (n64 n) else (h, r, n)
theorem ab_fuel : ∀ (k k' : Nat) (h : St76) (r : List UInt8) (n : UInt64), r.length ≤ k → r.length ≤ k' → ab k h r n = ab k' h r n
  | 0, 0, _, _, _, _, _ => rfl
  | 0, k' + 1, _, r, _, h1, _ => by rw [ab, ab, if_neg (by omega)]
  | k + 1, 0, _, r, _, _, h2 => by rw [ab, ab, if_neg (by omega)]
  | k + 1, k' + 1, h, r, n, h1, h2 => by
    rw [ab, ab]
    by_cases c : 64 < r.length
    · rw [if_pos c, if_pos c]
      exact ab_fuel k k' _ _ _ (by rw [List.length_drop]; omega) (by rw [List.length_drop]; omega)
    · rw [if_neg c, if_neg c]
def AB (h : St76) (r : List UInt8) (n : UInt64) : St76 × List UInt8 × UInt64 := ab r.length h r n
theorem AB_go {h : St76} {r : List UInt8} {n : UInt64} (c : 64 < r.length) : AB h r n = AB (mx h (r.take 64) (n64 n) false) (r.drop 64) (n64 n) := by
  unfold AB
  obtain ⟨k, hk⟩ : ∃ k, r.length = k + 1 := ⟨r.length - 1, by omega⟩
  rw [hk, ab, if_pos c]
  exact ab_fuel _ _ _ _ _ (by rw [List.length_drop]; omega) (Nat.le_refl _)
theorem AB_end {h : St76} {r : List UInt8} {n : UInt64} (c : ¬ 64 < r.length) : AB h r n = (h, r, n) := by
  unfold AB
  cases hr : r.length with
  | zero => rfl
  | succ k => rw [ab, if_neg c]
theorem AB_rest : ∀ (k : Nat) (h : St76) (r : List UInt8) (n : UInt64), r.length ≤ k → (AB h r n).2.1.length ≤ 64
  | k, h, r, n, hk => by
    by_cases c : 64 < r.length
    · rw [AB_go c]
      match k, hk with
      | 0, hk => omega
      | k + 1, hk => exact AB_rest k _ _ _ (by rw [List.length_drop]; omega)
    · rw [AB_end c]; show r.length ≤ 64; omega
theorem AB_app : ∀ (k : Nat) (h : St76) (r s : List UInt8) (n : UInt64), r.length ≤ k → AB h (r ++ s) n = AB (AB h r n).1 ((AB h r n).2.1 ++ s) (AB h r n).2.2
  | k, h, r, s, n, hk => by
    by_cases c : 64 < r.length
    · rw [AB_go c, AB_go (r := r ++ s) (by rw [List.length_append]; omega), List.take_append_of_le_length (by omega), List.drop_append_of_le_length (by omega)]
      match k, hk with
      | 0, hk => omega
      | k + 1, hk => exact AB_app k _ _ _ _ (by rw [List.length_drop]; omega)
    · rw [AB_end c]
def Wd (d : ApiDigest) (s : List UInt8) : ApiDigest := ⟨(AB d.H (d.Rest ++ s) d.N).1, (AB d.H (d.Rest ++ s) d.N).2.1, (AB d.H (d.Rest ++ s) d.N).2.2, d.Size⟩
theorem Wd_app (d : ApiDigest) (a b : List UInt8) : Wd (Wd d a) b = Wd d (a ++ b) := by
  have := AB_app _ d.H (d.Rest ++ a) b d.N (Nat.le_refl _)
  unfold Wd
  rw [← List.append_assoc, this]
theorem Wd_rest (d : ApiDigest) (s : List UInt8) : (Wd d s).Rest.length ≤ 64 := AB_rest _ _ _ _ (Nat.le_refl _)
theorem Wd_nil {d : ApiDigest} (h : d.Rest.length ≤ 64) : Wd d [] = d := by
  unfold Wd
  rw [List.append_nil, AB_end (by omega)]
abbrev KD : Type := UInt32 → UInt32 → UInt32 → UInt32 → UInt32 → UInt32 → UInt32 → UInt32 → (List UInt8) → UInt64 → Option ApiDigest
theorem sub64 {r : List UInt8} (c : 64 < r.length) : subl r 0 64 = some (r.take 64) ∧ subl r 64 (r.length : Int) = some (r.drop 64) := by
  constructor
  · unfold subl; rw [if_pos ⟨by decide, by decide, by omega⟩]; rfl
  · unfold subl; rw [if_pos ⟨by decide, by omega, by omega⟩]
    rw [Int.toNat_natCast, show (64 : Int).toNat = 64 from rfl, List.take_of_length_le (by simp)]
theorem writeP_run (kj : KD) : ∀ (J : Nat) (h : St76) (r : List UInt8) (n : UInt64), r.length < J →
    digest_Write_l1 kj J h.e0 h.e1 h.e2 h.e3 h.e4 h.e5 h.e6 h.e7 r n = kj (AB h r n).1.e0 (AB h r n).1.e1 (AB h r n).1.e2 (AB h r n).1.e3 (AB h r n).1.e4 (AB h r n).1.e5 (AB h r n).1.e6 (AB h r n).1.e7 (AB h r n).2.1 (AB h r n).2.2
  | 0, _, _, _, h => by omega
  | J + 1, h, r, n, hr => by
    rw [digest_Write_l1]
    by_cases c : 64 < r.length
    · rw [if_pos (by omega), (sub64 c).1, Option.bind_some, mx_P _ (by rw [List.length_take]; omega), Option.bind_some, (sub64 c).2, Option.bind_some, AB_go c]
      exact writeP_run kj J _ _ _ (by rw [List.length_drop]; omega)
    · rw [if_neg (by omega), AB_end c]
theorem writeR_run (kj : KD) : ∀ (J : Nat) (h : St76) (r : List UInt8) (n : UInt64), r.length < J →
    ref03_Write_l1 kj J h.e0 h.e1 h.e2 h.e3 h.e4 h.e5 h.e6 h.e7 r n = kj (AB h r n).1.e0 (AB h r n).1.e1 (AB h r n).1.e2 (AB h r n).1.e3 (AB h r n).1.e4 (AB h r n).1.e5 (AB h r n).1.e6 (AB h r n).1.e7 (AB h r n).2.1 (AB h r n).2.2
  | 0, _, _, _, h => by omega
  | J + 1, h, r, n, hr => by
    rw [ref03_Write_l1]
    by_cases c : 64 < r.length
    · rw [if_pos (by omega), (sub64 c).1, Option.bind_some, mx_R _ (by rw [List.length_take]; omega), Option.bind_some, (sub64 c).2, Option.bind_some, if_pos (by omega), AB_go c]
      exact writeR_run kj J _ _ _ (by rw [List.length_drop]; omega)
    · rw [if_neg (by omega), AB_end c]
theorem writeP_eq (d : ApiDigest) (s : List UInt8) (h : d.Rest.length + s.length ≤ 100000000000) : digest_Write d s = some (Wd d s) := by
  have hF := FU_M
  have hM : M63 = 9223372036854775807 := rfl
  unfold digest_Write
  rw [concat2 _ _ h, Option.bind_some, jn_eq', writeP_run _ FU _ _ _ (by rw [List.length_append]; omega)]
  have := AB_rest _ d.H (d.Rest ++ s) d.N (Nat.le_refl _)
  unfold slices_Clone_byte_byte
  rw [jBf _ _ (by simp; omega), Option.bind_some, Option.bind_some, List.nil_append]
  rfl
theorem writeR_eq (d : ApiDigest) (s : List UInt8) (h : d.Rest.length + s.length ≤ 100000000000) : ref03_Write d s = some (Wd d s) := by
  have hF := FU_M
  have hM : M63 = 9223372036854775807 := rfl
  unfold ref03_Write
  rw [jBf _ _ (by simp; omega), Option.bind_some, List.nil_append, jBf _ _ (by omega), Option.bind_some, jn_eq', writeR_run _ FU _ _ _ (by rw [List.length_append]; omega)]
  rfl
def D0 : ApiDigest := ⟨⟨(1779033703 : UInt32) ^^^ ((16842752 : UInt32) ^^^ 16), 3144134277, 1013904242, 2773480762, 1359893119, 2600822924, 528734635, 1541459225⟩, [], 0, 16⟩
theorem beginP : digest_Begin 16 = some (D0, 0) := by kernel_rfl
theorem beginR : ref03_Begin 16 = some D0 := by kernel_rfl
def pad (r : List UInt8) : List UInt8 := r ++ List.replicate (64 - r.length) 0
theorem pad_len {r : List UInt8} (h : r.length ≤ 64) : (pad r).length = 64 := by unfold pad; rw [List.length_append, List.length_replicate]; omega
theorem padP {r : List UInt8} (h : r.length ≤ 64) : cpyAt (List.replicate 64 (0 : UInt8)) 0 64 r = pad r := by
  unfold cpyAt pad
  rw [List.take_zero, List.nil_append, Nat.sub_zero, List.take_of_length_le h, List.drop_replicate, Nat.min_eq_left h, Nat.zero_add]
theorem padR_run {kj : List UInt8 → Option (List UInt8)} : ∀ (J m : Nat) (r : List UInt8), r.length + m = 64 → m < J → ref03_Sum_l1 kj J r = kj (r ++ List.replicate m 0)
  | 0, _, _, _, h => by omega
  | J + 1, 0, r, h, _ => by rw [ref03_Sum_l1, if_neg (by omega), List.replicate_zero, List.append_nil]
  | J + 1, m + 1, r, h, h2 => by
    rw [ref03_Sum_l1, if_pos (by omega), jBf _ _ (by simp; omega), Option.bind_some, padR_run J m _ (by simp; omega) (by omega), List.append_assoc]
    rfl
def b0 (x : UInt32) : UInt8 := UInt8.ofNat x.toNat
def b1 (x : UInt32) : UInt8 := UInt8.ofNat (x.toNat / 256)
def b2 (x : UInt32) : UInt8 := UInt8.ofNat (x.toNat / 65536)
def b3 (x : UInt32) : UInt8 := UInt8.ofNat (x.toNat / 16777216)
def out4 (h : St76) : List UInt8 := [b0 h.e0, b1 h.e0, b2 h.e0, b3 h.e0, b0 h.e1, b1 h.e1, b2 h.e1, b3 h.e1, b0 h.e2, b1 h.e2, b2 h.e2, b3 h.e2, b0 h.e3, b1 h.e3, b2 h.e3, b3 h.e3]
theorem u8m (a b : Nat) (h : a % 256 = b % 256) : ofI8 (a : Int) = UInt8.ofNat b := by
  apply UInt8.toNat.inj
  unfold ofI8
  rw [UInt8.toNat_ofNat', UInt8.toNat_ofNat']
  omega
theorem s0 (x : UInt32) : ofI8 ((shr32 x 0).toNat : Int) = b0 x := by
  have := x.toNat_lt
  unfold shr32 b0; rw [UInt32.toNat_ofNat']; exact u8m _ _ (by rw [show min (0 : Int).toNat 32 = 0 from rfl]; omega)
theorem s8 (x : UInt32) : ofI8 ((shr32 x 8).toNat : Int) = b1 x := by
  have := x.toNat_lt
  unfold shr32 b1; rw [UInt32.toNat_ofNat']; exact u8m _ _ (by rw [show min (8 : Int).toNat 32 = 8 from rfl]; omega)
theorem s16 (x : UInt32) : ofI8 ((shr32 x 16).toNat : Int) = b2 x := by
  have := x.toNat_lt
  unfold shr32 b2; rw [UInt32.toNat_ofNat']; exact u8m _ _ (by rw [show min (16 : Int).toNat 32 = 16 from rfl]; omega)
theorem s24 (x : UInt32) : ofI8 ((shr32 x 24).toNat : Int) = b3 x := by
  have := x.toNat_lt
  unfold shr32 b3; rw [UInt32.toNat_ofNat']; exact u8m _ _ (by rw [show min (24 : Int).toNat 32 = 24 from rfl]; omega)
def q1 (x : UInt32) : UInt32 := ofI32 ((x.toNat : Int).tdiv 256)
theorem q1_nat (x : UInt32) : (q1 x).toNat = x.toNat / 256 := by
  have := x.toNat_lt
  unfold q1
  rw [Int.tdiv_eq_ediv_of_nonneg (by omega)]
  have h := ofI32_nat (p := (x.toNat : Int) / 256) (by omega) (by omega)
  omega
def l8 (x : UInt32) : UInt8 := ofI8 ((ofI32 ((x.toNat : Int).tmod 256)).toNat : Int)
theorem l8_eq (x : UInt32) : l8 x = UInt8.ofNat x.toNat := by
  have := x.toNat_lt
  unfold l8
  rw [Int.tmod_eq_emod_of_nonneg (by omega)]
  have h := ofI32_nat (p := (x.toNat : Int) % 256) (by omega) (by omega)
  have e : (((ofI32 ((x.toNat : Int) % 256)).toNat : Int)) = ((x.toNat % 256 : Nat) : Int) := by omega
  rw [e]
  exact u8m _ _ (by omega)
theorem outP (h : St76) (x1 : ApiDigest) (hx : x1.Size = 16) : digest_Sum_l1 x1 h.e0 h.e1 h.e2 h.e3 h.e4 h.e5 h.e6 h.e7 (fun l => some l) FU [] 0 = some (out4 h) := by
  have hF := FU_M
  have hM : M63 = 9223372036854775807 := rfl
  obtain ⟨J, hJ⟩ : ∃ J, FU = J + 17 := ⟨FU - 17, by omega⟩
  obtain ⟨H, R, N, S⟩ := x1
  dsimp only at hx
  subst hx
  rw [hJ]
  have e : out4 h = [ofI8 ((shr32 h.e0 0).toNat : Int), ofI8 ((shr32 h.e0 8).toNat : Int), ofI8 ((shr32 h.e0 16).toNat : Int), ofI8 ((shr32 h.e0 24).toNat : Int), ofI8 ((shr32 h.e1 0).toNat : Int), ofI8 ((shr32 h.e1 8).toNat : Int), ofI8 ((shr32 h.e1 16).toNat : Int), ofI8 ((shr32 h.e1 24).toNat : Int), ofI8 ((shr32 h.e2 0).toNat : Int), ofI8 ((shr32 h.e2 8).toNat : Int), ofI8 ((shr32 h.e2 16).toNat : Int), ofI8 ((shr32 h.e2 24).toNat : Int), ofI8 ((shr32 h.e3 0).toNat : Int), ofI8 ((shr32 h.e3 8).toNat : Int), ofI8 ((shr32 h.e3 16).toNat : Int), ofI8 ((shr32 h.e3 24).toNat : Int)] := by
    simp only [s0, s8, s16, s24]; rfl
  rw [e]
  show _ = _
  kernel_rfl
theorem outR (h : St76) (x1 : ApiDigest) (hx : x1.Size = 16) : ref03_Sum_l2 h x1 (fun l => some l) FU [] 0 = some (out4 h) := by
  obtain ⟨H, R, N, S⟩ := x1
  dsimp only at hx
  subst hx
  have e : out4 h = [l8 h.e0, l8 (q1 h.e0), l8 (q1 (q1 h.e0)), l8 (q1 (q1 (q1 h.e0))), l8 h.e1, l8 (q1 h.e1), l8 (q1 (q1 h.e1)), l8 (q1 (q1 (q1 h.e1))), l8 h.e2, l8 (q1 h.e2), l8 (q1 (q1 h.e2)), l8 (q1 (q1 (q1 h.e2))), l8 h.e3, l8 (q1 h.e3), l8 (q1 (q1 h.e3)), l8 (q1 (q1 (q1 h.e3)))] := by
    simp only [l8_eq, q1_nat, Nat.div_div_eq_div_mul]; rfl
  rw [e]
  show _ = _
  kernel_rfl
end Go.Proofs

set_option linter.unusedVariables false
set_option linter.unusedSimpArgs false
namespace Go.Proofs
open Go.Fw
def lastN (d : ApiDigest) : UInt64 := ofI64 ((d.N.toNat : Int) + ((ofI64 (d.Rest.length : Int)).toNat : Int))
def sumO (d : ApiDigest) : List UInt8 := out4 (mx d.H (pad d.Rest) (lastN d) true)
theorem sumP_eq (d : ApiDigest) (hs : d.Size = 16) (hr : d.Rest.length ≤ 64) : digest_Sum d = some (sumO d) := by
  unfold digest_Sum
  have hz : digest_sized d.Size = some true := by rw [hs]; rfl
  rw [writeP_eq d [] (by simp; omega), Option.bind_some, Wd_nil hr, hz, Option.bind_some, if_neg (by decide), jn_eq', padP hr]
  have hm := mx_P d.H (pad_len hr) (ofI64 ((d.N.toNat : Int) + ((ofI64 (d.Rest.length : Int)).toNat : Int))) true
  rw [hm, Option.bind_some]
  dsimp only
  rw [jn_eq']
  exact outP (mx d.H (pad d.Rest) (lastN d) true) d hs
theorem sumR_eq (d : ApiDigest) (hs : d.Size = 16) (hr : d.Rest.length ≤ 64) : ref03_Sum d = some (sumO d) := by
  have hF := FU_M
  have hM : M63 = 9223372036854775807 := rfl
  unfold ref03_Sum
  rw [writeR_eq d [] (by simp; omega), Option.bind_some, Wd_nil hr, if_neg (by rw [hs]; decide), jn_eq', padR_run FU (64 - d.Rest.length) d.Rest (by omega) (by omega)]
  have hm := mx_R d.H (pad_len hr) (ofI64 ((d.N.toNat : Int) + ((ofI64 (d.Rest.length : Int)).toNat : Int))) true
  unfold pad at hm
  rw [hm, Option.bind_some, jn_eq']
  exact outR (mx d.H (pad d.Rest) (lastN d) true) d hs
abbrev KF : Type := UInt32 → UInt32 → UInt32 → UInt32 → UInt32 → UInt32 → UInt32 → UInt32 → (List UInt8) → UInt64 → Int → Option ((List UInt8) × Int)
theorem ofP_step {l : List (List UInt8)} {kj : KF} {J k : Nat} {d : ApiDigest} {s : List UInt8} (hk : k < 100) (h : geti l (k : Int) = some s) (hl : k < l.length) (hb : d.Rest.length + s.length ≤ 100000000000) :
    digest_Of_l1 l kj (J + 1) (k : Int) d.H.e0 d.H.e1 d.H.e2 d.H.e3 d.H.e4 d.H.e5 d.H.e6 d.H.e7 d.Rest d.N d.Size = digest_Of_l1 l kj J ((k + 1 : Nat) : Int) (Wd d s).H.e0 (Wd d s).H.e1 (Wd d s).H.e2 (Wd d s).H.e3 (Wd d s).H.e4 (Wd d s).H.e5 (Wd d s).H.e6 (Wd d s).H.e7 (Wd d s).Rest (Wd d s).N (Wd d s).Size := by
  rw [digest_Of_l1, if_pos (by omega), h, Option.bind_some]
  have := writeP_eq d s hb
  rw [show digest_Write (⟨(⟨d.H.e0, d.H.e1, d.H.e2, d.H.e3, d.H.e4, d.H.e5, d.H.e6, d.H.e7⟩ : St76), d.Rest, d.N, d.Size⟩ : ApiDigest) s = _ from this, Option.bind_some, nxt (n := 100) hk (by decide)]
theorem ofP_eq (a b c : List UInt8) (ha : a.length ≤ 1000000000) (hb : b.length ≤ 1000000000) (hc : c.length ≤ 1000000000) : digest_Of 16 [a, b, c] = some (sumO (Wd D0 (a ++ b ++ c)), 0) := by
  have hF := FU_M
  have hM : M63 = 9223372036854775807 := rfl
  obtain ⟨J, hJ⟩ : ∃ J, FU = J + 4 := ⟨FU - 4, by omega⟩
  unfold digest_Of
  rw [beginP, Option.bind_some, if_neg (by decide), jn_eq', hJ]
  have h0 : D0.Rest.length = 0 := rfl
  have h1 := Wd_rest D0 a
  have h2 := Wd_rest (Wd D0 a) b
  have s0 := ofP_step (l := [a, b, c]) (kj := fun (x3 : UInt32) (x4 : UInt32) (x5 : UInt32) (x6 : UInt32) (x7 : UInt32) (x8 : UInt32) (x9 : UInt32) (x10 : UInt32) (x11 : (List UInt8)) (x12 : UInt64) (x13 : Int) => (digest_Sum (⟨(⟨x3, x4, x5, x6, x7, x8, x9, x10⟩ : St76), x11, x12, x13⟩ : ApiDigest)).bind fun x28 => some (x28, 0)) (J := J + 3) (k := 0) (d := D0) (s := a) (by decide) rfl (by simp) (by omega)
  have s1 := ofP_step (l := [a, b, c]) (kj := fun (x3 : UInt32) (x4 : UInt32) (x5 : UInt32) (x6 : UInt32) (x7 : UInt32) (x8 : UInt32) (x9 : UInt32) (x10 : UInt32) (x11 : (List UInt8)) (x12 : UInt64) (x13 : Int) => (digest_Sum (⟨(⟨x3, x4, x5, x6, x7, x8, x9, x10⟩ : St76), x11, x12, x13⟩ : ApiDigest)).bind fun x28 => some (x28, 0)) (J := J + 2) (k := 1) (d := Wd D0 a) (s := b) (by decide) rfl (by simp) (by omega)
  have s2 := ofP_step (l := [a, b, c]) (kj := fun (x3 : UInt32) (x4 : UInt32) (x5 : UInt32) (x6 : UInt32) (x7 : UInt32) (x8 : UInt32) (x9 : UInt32) (x10 : UInt32) (x11 : (List UInt8)) (x12 : UInt64) (x13 : Int) => (digest_Sum (⟨(⟨x3, x4, x5, x6, x7, x8, x9, x10⟩ : St76), x11, x12, x13⟩ : ApiDigest)).bind fun x28 => some (x28, 0)) (J := J + 1) (k := 2) (d := Wd (Wd D0 a) b) (s := c) (by decide) rfl (by simp) (by omega)
  refine s0.trans (s1.trans (s2.trans ?_))
  rw [digest_Of_l1, if_neg (by simp)]
  have e : Wd (Wd (Wd D0 a) b) c = Wd D0 (a ++ b ++ c) := by rw [Wd_app, Wd_app, List.append_assoc]
  rw [e]
  have := sumP_eq (Wd D0 (a ++ b ++ c)) rfl (Wd_rest _ _)
  rw [show digest_Sum (⟨(⟨(Wd D0 (a ++ b ++ c)).H.e0, (Wd D0 (a ++ b ++ c)).H.e1, (Wd D0 (a ++ b ++ c)).H.e2, (Wd D0 (a ++ b ++ c)).H.e3, (Wd D0 (a ++ b ++ c)).H.e4, (Wd D0 (a ++ b ++ c)).H.e5, (Wd D0 (a ++ b ++ c)).H.e6, (Wd D0 (a ++ b ++ c)).H.e7⟩ : St76), (Wd D0 (a ++ b ++ c)).Rest, (Wd D0 (a ++ b ++ c)).N, (Wd D0 (a ++ b ++ c)).Size⟩ : ApiDigest) = _ from this, Option.bind_some]
theorem ofR_eq (s : List UInt8) (h : s.length ≤ 10000000000) : ref03_Of 16 s = some (sumO (Wd D0 s)) := by
  unfold ref03_Of
  have h0 : D0.Rest.length = 0 := rfl
  rw [beginR, Option.bind_some, writeR_eq D0 s (by omega), Option.bind_some, sumR_eq (Wd D0 s) rfl (Wd_rest _ _), Option.bind_some]
def sh (s : List UInt8) : St23 := (((ref03_Short s)).getD ⟨0, 0, 0, 0, 0, 0, 0, 0, 0, 0, 0, 0, 0, 0, 0, 0⟩)
theorem shortR_eq (s : List UInt8) (h : s.length ≤ 10000000000) : ref03_Short s = some (sh s) := by
  unfold sh ref03_Short
  rw [ofR_eq s h, Option.bind_some, Option.bind_some]
  rfl
theorem shortP_eq (a b c : List UInt8) (ha : a.length ≤ 1000000000) (hb : b.length ≤ 1000000000) (hc : c.length ≤ 1000000000) : digest_Short [a, b, c] = some (sh (a ++ b ++ c)) := by
  rw [← shortR_eq _ (by simp; omega)]
  unfold digest_Short ref03_Short
  rw [ofP_eq a b c ha hb hc, ofR_eq _ (by simp; omega), Option.bind_some, Option.bind_some]
  rfl
theorem vprint_eq {v : ApiValue} (hv : TV v) (hb : KS v → wV v ≤ 4000) : value_Print v = some (if mayB v = true then (tx v, 0) else ([], 1)) ∧ (mayB v = true → ref01_Print v = some (tx v) ∧ (tx v).length ≤ 512) := by
  unfold value_Print
  rw [vmay_eq hv hb, Option.bind_some]
  cases h : mayB v with
  | false => exact ⟨rfl, fun h => by cases h⟩
  | true =>
    have h2 := h
    unfold mayB at h2
    rw [Bool.and_eq_true] at h2
    have hk := shB_ks 8 h2.1
    have hw := hb hk
    have hfd := ((fd_sh 8 15 v (by decide) (by decide)).1 h2.1).1
    refine ⟨?_, fun _ => ⟨print_eq hv hfd (by omega), of_decide_eq_true h2.2⟩⟩
    rw [if_neg (by decide), text_nl_eq hv (mayB_wf h) hk (by omega), Option.bind_some, if_pos rfl]
def zeroM : ApiRev := ⟨0, ⟨0, 0, 0, 0, 0, 0, 0, 0, 0, 0, 0, 0, 0, 0, 0, 0⟩⟩
theorem headP (a : ApiRev) (x : UInt8) (kj : List UInt8 → Option (ApiRev × Int)) : rev_Make_l1 a kj FU [x] 7 = kj [x, ofI8 ((shr64 a.Gen 56).toNat : Int), ofI8 ((shr64 a.Gen 48).toNat : Int), ofI8 ((shr64 a.Gen 40).toNat : Int), ofI8 ((shr64 a.Gen 32).toNat : Int), ofI8 ((shr64 a.Gen 24).toNat : Int), ofI8 ((shr64 a.Gen 16).toNat : Int), ofI8 ((shr64 a.Gen 8).toNat : Int), ofI8 ((shr64 a.Gen 0).toNat : Int)] := by
  have hF := FU_M
  have hM : M63 = 9223372036854775807 := rfl
  obtain ⟨J, hJ⟩ : ∃ J, FU = J + 9 := ⟨FU - 9, by omega⟩
  rw [hJ]
  show _ = _
  kernel_rfl
theorem shr0 (n : UInt64) : shr64 n 0 = n := by
  apply UInt64.toNat.inj
  have := n.toNat_lt
  unfold shr64
  rw [UInt64.toNat_ofNat', show min (0 : Int).toNat 64 = 0 from rfl]
  omega
theorem make_eq (a : ApiRev) (d : Int) {v : ApiValue} (hv : TV v) (hb : KS v → wV v ≤ 4000) : ∃ r, rev_Make a d v = some r ∧ ref06_Make a d v = some r := by
  obtain ⟨hp, hr⟩ := vprint_eq hv hb
  unfold rev_Make ref06_Make
  rw [hp, Option.bind_some]
  have m1 : rev_May a = some (mayR a) := rfl
  have m2 : ref06_May a = some (mayR a) := by
    unfold ref06_May mayR
    exact congrArg some (decide_eq_decide.2 (by omega))
  rw [m1, m2, rmay_eq hv hb]
  simp only [Option.bind_some]
  generalize hq : (if ¬ ((a.Gen.toNat : Int) = 0 ∧ ([a.Sum.e0, a.Sum.e1, a.Sum.e2, a.Sum.e3, a.Sum.e4, a.Sum.e5, a.Sum.e6, a.Sum.e7, a.Sum.e8, a.Sum.e9, a.Sum.e10, a.Sum.e11, a.Sum.e12, a.Sum.e13, a.Sum.e14, a.Sum.e15] : List UInt8) = ([(0 : UInt8), (0 : UInt8), (0 : UInt8), (0 : UInt8), (0 : UInt8), (0 : UInt8), (0 : UInt8), (0 : UInt8), (0 : UInt8), (0 : UInt8), (0 : UInt8), (0 : UInt8), (0 : UInt8), (0 : UInt8), (0 : UInt8), (0 : UInt8)] : List UInt8)) then some (!mayR a) else some false) = o
  have ho : ∃ b, o = some b := by
    rw [← hq]; split
    · exact ⟨_, rfl⟩
    · exact ⟨_, rfl⟩
  obtain ⟨b, rfl⟩ := ho
  simp only [Option.bind_some]
  cases hm : mayB v with
  | false =>
    rw [if_neg (show ¬ (false = true) by decide)]
    have c1 : ((b = true ∨ (d ≠ 0 ∧ d ≠ 1)) ∨ ((([] : List UInt8), (1 : Int)).2 ≠ 0)) := .inr (by decide)
    rw [if_pos c1]
    refine ⟨_, rfl, ?_⟩
    by_cases c : (b = true ∨ d < 0) ∨ 1 < d
    · rw [if_pos c]; rfl
    · rw [if_neg c]; rfl
  | true =>
    obtain ⟨h1, h2⟩ := hr hm
    rw [if_pos rfl]
    by_cases c : (b = true ∨ d < 0) ∨ 1 < d
    · have c1 : ((b = true ∨ (d ≠ 0 ∧ d ≠ 1)) ∨ ((tx v, (0 : Int)).2 ≠ 0)) := by
        rcases c with (c | c) | c
        · exact .inl (.inl c)
        · exact .inl (.inr (by omega))
        · exact .inl (.inr (by omega))
      rw [if_pos c1, if_pos c, Option.bind_some, if_pos rfl]
      exact ⟨_, rfl, rfl⟩
    · have c1 : ¬ ((b = true ∨ (d ≠ 0 ∧ d ≠ 1)) ∨ ((tx v, (0 : Int)).2 ≠ 0)) := by
        rintro ((h | h) | h)
        · exact c (.inl (.inl h))
        · by_cases h0 : d < 0
          · exact c (.inl (.inr h0))
          · exact c (.inr (by omega))
        · exact h rfl
      rw [if_neg c1, if_neg c, Option.bind_some, if_neg (show ¬ ((!true) = true) by decide)]
      by_cases cg : (a.Gen.toNat : Int) = 4611686018427387903
      · rw [if_pos cg, if_pos cg]
        exact ⟨_, rfl, rfl⟩
      · rw [if_neg cg, if_neg cg, jn_eq', headP, shr0, jBf _ _ (by simp), Option.bind_some, h1, Option.bind_some, jBf _ _ (by simp only [List.length_append, List.length_cons, List.length_nil]; omega), Option.bind_some]
        dsimp only
        rw [shortP_eq _ _ _ (by simp) (by simp) (by omega), shortR_eq _ (by simp only [List.length_append, List.length_cons, List.length_nil]; omega)]
        exact ⟨_, rfl, rfl⟩
theorem rcmp_run {a b : ApiRev} {kj : Unit → Option Int} (hk : kj () = some 0) : ∀ (J k : Nat), k ≤ 16 → 16 - k < J → ref06_Cmp_l1 a b kj J (k : Int) = some (Lib.compareBytes ((sL a.Sum).drop k) ((sL b.Sum).drop k))
  | 0, k, _, h => by omega
  | J + 1, k, h1, h2 => by
    rw [ref06_Cmp_l1]
    have la : (sL a.Sum).length = 16 := rfl
    have lb : (sL b.Sum).length = 16 := rfl
    by_cases c : k < 16
    · rw [if_pos (by omega)]
      have ga : geti ([a.Sum.e0, a.Sum.e1, a.Sum.e2, a.Sum.e3, a.Sum.e4, a.Sum.e5, a.Sum.e6, a.Sum.e7, a.Sum.e8, a.Sum.e9, a.Sum.e10, a.Sum.e11, a.Sum.e12, a.Sum.e13, a.Sum.e14, a.Sum.e15] : List UInt8) (k : Int) = some ((sL a.Sum)[k]'(by omega)) := by rw [jBu]; exact List.getElem?_eq_getElem (by omega)
      have gb : geti ([b.Sum.e0, b.Sum.e1, b.Sum.e2, b.Sum.e3, b.Sum.e4, b.Sum.e5, b.Sum.e6, b.Sum.e7, b.Sum.e8, b.Sum.e9, b.Sum.e10, b.Sum.e11, b.Sum.e12, b.Sum.e13, b.Sum.e14, b.Sum.e15] : List UInt8) (k : Int) = some ((sL b.Sum)[k]'(by omega)) := by rw [jBu]; exact List.getElem?_eq_getElem (by omega)
      rw [ga, gb]
      simp only [Option.bind_some]
      rw [List.drop_eq_getElem_cons (show k < (sL a.Sum).length by omega), List.drop_eq_getElem_cons (show k < (sL b.Sum).length by omega), Lib.compareBytes]
      generalize (sL a.Sum)[k]'(by omega) = x
      generalize (sL b.Sum)[k]'(by omega) = y
      by_cases c1 : x < y
      · rw [if_pos (Int.ofNat_lt.2 (UInt8.lt_iff_toNat_lt.1 c1)), if_pos c1]
      · rw [if_neg (fun h => c1 (UInt8.lt_iff_toNat_lt.2 (Int.ofNat_lt.1 h))), if_neg c1]
        by_cases c2 : y < x
        · rw [if_pos (Int.ofNat_lt.2 (UInt8.lt_iff_toNat_lt.1 c2)), if_pos c2]
        · rw [if_neg (fun h => c2 (UInt8.lt_iff_toNat_lt.2 (Int.ofNat_lt.1 h))), if_neg c2, nxt (n := 16) c (by decide)]
          exact rcmp_run hk J (k + 1) (by omega) (by omega)
    · rw [if_neg (by omega), hk, List.drop_eq_nil_of_le (by omega), List.drop_eq_nil_of_le (by omega), Lib.compareBytes]
theorem rcmp_eq (a b : ApiRev) : ∃ c, rev_Cmp a b = some c ∧ ref06_Cmp a b = some c := by
  have hF := FU_M
  have hM : M63 = 9223372036854775807 := rfl
  obtain ⟨J, hJ⟩ : ∃ J, FU = J + 3 := ⟨FU - 3, by omega⟩
  have or2 : ∀ x y : Int, cmp_Or_int [x, y] = some (if x ≠ 0 then x else y) := by
    intro x y
    unfold cmp_Or_int
    rw [jn_eq', hJ, cmp_Or_int_l1]
    have g0 : geti ([x, y] : List Int) 0 = some x := rfl
    have g1 : geti ([x, y] : List Int) 1 = some y := rfl
    have i1 : i64 (0 + 1) = 1 := by decide
    have i2 : i64 (1 + 1) = 2 := by decide
    have hl : (([x, y] : List Int).length : Int) = 2 := rfl
    rw [hl, if_pos (by decide), g0, Option.bind_some, i1]
    by_cases c : x ≠ 0
    · rw [if_pos c, if_pos c]
    · rw [if_neg c, if_neg c, cmp_Or_int_l1, hl, if_pos (by decide), g1, Option.bind_some, i2]
      by_cases c2 : y ≠ 0
      · rw [if_pos c2]
      · rw [if_neg c2, cmp_Or_int_l1, hl, if_neg (by decide), Decidable.not_not.1 c2]
  have hc : cmp_Compare_uint64 a.Gen b.Gen = some (if (a.Gen.toNat : Int) < (b.Gen.toNat : Int) then -1 else if (b.Gen.toNat : Int) < (a.Gen.toNat : Int) then 1 else 0) := by
    unfold cmp_Compare_uint64 cmp_isNaN_uint64
    simp only [Option.bind_some, ne_eq, not_true_eq_false, decide_false, Bool.false_eq_true, if_false]
    split
    · rfl
    · split <;> rfl
  unfold rev_Cmp ref06_Cmp
  rw [hc, Option.bind_some, or2, Option.bind_some]
  by_cases e : (a.Gen.toNat : Int) = (b.Gen.toNat : Int)
  · rw [if_neg (show ¬ (a.Gen.toNat : Int) ≠ (b.Gen.toNat : Int) from fun h => h e), jn_eq', show (0 : Int) = ((0 : Nat) : Int) from rfl, rcmp_run rfl FU 0 (by omega) (by omega)]
    refine ⟨_, rfl, ?_⟩
    rw [if_neg (show ¬ (a.Gen.toNat : Int) < (b.Gen.toNat : Int) by omega), if_neg (show ¬ (b.Gen.toNat : Int) < (a.Gen.toNat : Int) by omega), if_neg (by decide), List.drop_zero, List.drop_zero]
    rfl
  · rw [if_pos e]
    by_cases c : (a.Gen.toNat : Int) < (b.Gen.toNat : Int)
    · rw [if_pos c, if_pos c, if_pos (by decide)]; exact ⟨_, rfl, rfl⟩
    · rw [if_neg c, if_neg c, if_pos (show (b.Gen.toNat : Int) < (a.Gen.toNat : Int) by omega), if_pos (by decide)]; exact ⟨_, rfl, rfl⟩
theorem RevMake_pure (a b : ApiRev) (d : Int) (v : ApiValue) (hv : TV v) : law06_RevMake a b d v = some true := by
  unfold law06_RevMake
  obtain ⟨l, e, g⟩ := long_eq hv
  rw [e, Option.bind_some]
  cases l with
  | true => rw [if_pos rfl, awake_true]; rfl
  | false =>
    rw [if_neg (by decide)]
    obtain ⟨r, e1, e2⟩ := make_eq a d hv (fun h => g h rfl)
    obtain ⟨c, f1, f2⟩ := rcmp_eq a b
    rw [e1, e2, Option.bind_some, Option.bind_some, if_pos ⟨rfl, rfl⟩, if_pos rfl]
    have m1 : rev_May a = some (mayR a) := rfl
    have m2 : ref06_May a = some (mayR a) := by
      unfold ref06_May mayR
      exact congrArg some (decide_eq_decide.2 (by omega))
    rw [m1, m2, Option.bind_some, Option.bind_some, if_pos (by simp), f1, f2, Option.bind_some, Option.bind_some, if_pos rfl, awake_true]
    rfl
end Go.Proofs
