import Derived.Test.YtepifllifhikiaaDoorP12
set_option linter.unusedVariables false
set_option linter.unusedSimpArgs false
namespace Go.Proofs
open Go.Fw
/-! Small tools. -/
theorem i64_id {p : Int} (h0 : -9223372036854775808 ≤ p) (h1 : p ≤ 9223372036854775807) : i64 p = p := i64_eq h0 h1
theorem jn_eq' {α β : Type} (f : α) (g : α → β) : jn f g = g f := by unfold jn; exact id rfl
theorem geti_at {α : Type} {l : List α} {i : Int} (h0 : 0 ≤ i) (h1 : i < (l.length : Int)) : ∃ x, geti l i = some x ∧ x ∈ l ∧ l[i.toNat]? = some x := by
  unfold geti
  rw [if_pos h0]
  have h2 : i.toNat < l.length := by omega
  exact ⟨l[i.toNat], List.getElem?_eq_getElem h2, List.getElem_mem h2, List.getElem?_eq_getElem h2⟩
theorem geti_nat {α : Type} (l : List α) (k : Nat) : geti l (k : Int) = l[k]? := by
  unfold geti
  rw [if_pos (by omega)]
  simp
theorem app_ok {α : Type} {cap : Nat} (a b : List α) (h : a.length + b.length ≤ 1000000) (hc : 1000000 ≤ cap) : app cap a b = some (a ++ b) := by
  unfold app
  rw [if_pos (by omega)]
theorem FU_big : 10000000000 ≤ FU := Nat.le_trans (by decide) FU_ge
theorem subl_head {α : Type} (l : List α) (k : Nat) (h : k ≤ l.length) : subl l 0 (k : Int) = some (l.take k) := by
  unfold subl
  rw [if_pos ⟨by omega, by omega, by omega⟩]
  simp
theorem subl_tail {α : Type} (l : List α) (k : Nat) (h : k ≤ l.length) : subl l (k : Int) (l.length : Int) = some (l.drop k) := by
  unfold subl
  rw [if_pos ⟨by omega, by omega, by omega⟩]
  simp only [Int.toNat_natCast, Option.some.injEq]
  rw [List.take_of_length_le]
  rw [List.length_drop]; omega
theorem half_eq {x : Int} (h0 : 0 ≤ x) (h1 : x ≤ 4611686018427387904) : i64 ((shr64 (ofI64 (i64 x)) 1).toNat : Int) = x / 2 := by
  rw [i64_id (p := x) (by omega) (by omega)]
  have e : (ofI64 x).toNat = x.toNat := by
    unfold ofI64
    rw [UInt64.toNat_ofNat', Nat.mod_eq_of_lt (by omega)]
    omega
  have e2 : (shr64 (ofI64 x) 1).toNat = x.toNat / 2 := by
    unfold shr64
    rw [e, show min (1 : Int).toNat 64 = 1 by decide, UInt64.toNat_ofNat', Nat.mod_eq_of_lt (by omega)]
  rw [e2, i64_id (by omega) (by omega)]
  omega
/-! The order of the names. -/
theorem cmp_refl : ∀ a : List UInt8, Lib.compareBytes a a = 0
  | [] => rfl
  | x :: r => by
    rw [Lib.compareBytes, if_neg (UInt8.lt_irrefl x), if_neg (UInt8.lt_irrefl x)]
    exact cmp_refl r
theorem cmp_zero : ∀ a b : List UInt8, Lib.compareBytes a b = 0 ↔ a = b
  | [], [] => by simp [Lib.compareBytes]
  | [], _ :: _ => by simp [Lib.compareBytes]
  | _ :: _, [] => by simp [Lib.compareBytes]
  | x :: a, y :: b => by
    rw [Lib.compareBytes]
    by_cases h1 : x < y
    · have : x ≠ y := fun e => UInt8.lt_irrefl y (e ▸ h1)
      simp [h1, this]
    · by_cases h2 : y < x
      · have : x ≠ y := fun e => UInt8.lt_irrefl y (by rw [e] at h2; exact h2)
        simp [h1, h2, this]
      · have e : x = y := UInt8.le_antisymm (UInt8.not_lt.1 h2) (UInt8.not_lt.1 h1)
        subst e
        simp [h1, cmp_zero a b]
/-- A name ahead of another one. -/
def nlt (a b : List UInt8) : Prop := Lib.compareBytes a b < 0
instance (a b : List UInt8) : Decidable (nlt a b) := by unfold nlt; infer_instance
theorem nlt_irrefl (a : List UInt8) : ¬ nlt a a := by unfold nlt; rw [cmp_refl]; decide
theorem nlt_cons {x y : UInt8} {a b : List UInt8} : nlt (x :: a) (y :: b) ↔ x < y ∨ (x = y ∧ nlt a b) := by
  unfold nlt
  rw [Lib.compareBytes]
  by_cases h1 : x < y
  · simp [h1]
  · by_cases h2 : y < x
    · have : x ≠ y := fun e => UInt8.lt_irrefl y (by rw [e] at h2; exact h2)
      simp [h1, h2, this]
    · have e : x = y := UInt8.le_antisymm (UInt8.not_lt.1 h2) (UInt8.not_lt.1 h1)
      subst e
      simp [h1]
theorem nlt_nil (a : List UInt8) : ¬ nlt a [] := by
  unfold nlt
  cases a <;> simp [Lib.compareBytes]
theorem nil_nlt (x : UInt8) (a : List UInt8) : nlt [] (x :: a) := by
  unfold nlt; simp [Lib.compareBytes]
theorem nlt_trans : ∀ {a b c : List UInt8}, nlt a b → nlt b c → nlt a c
  | _, _, [], _, h => absurd h (nlt_nil _)
  | _, [], _ :: _, h, _ => absurd h (nlt_nil _)
  | [], _ :: _, z :: c, _, _ => nil_nlt z c
  | x :: a, y :: b, z :: c, h1, h2 => by
    rw [nlt_cons] at h1 h2 ⊢
    rcases h1 with h1 | ⟨rfl, h1⟩
    · rcases h2 with h2 | ⟨rfl, h2⟩
      · exact .inl (UInt8.lt_trans h1 h2)
      · exact .inl h1
    · rcases h2 with h2 | ⟨rfl, h2⟩
      · exact .inl h2
      · exact .inr ⟨rfl, nlt_trans h1 h2⟩
theorem nlt_total : ∀ (a b : List UInt8), nlt a b ∨ a = b ∨ nlt b a
  | [], [] => .inr (.inl rfl)
  | [], y :: b => .inl (nil_nlt y b)
  | x :: a, [] => .inr (.inr (nil_nlt x a))
  | x :: a, y :: b => by
    rw [nlt_cons, nlt_cons]
    by_cases h1 : x < y
    · exact .inl (.inl h1)
    · by_cases h2 : y < x
      · exact .inr (.inr (.inl h2))
      · have e : x = y := UInt8.le_antisymm (UInt8.not_lt.1 h2) (UInt8.not_lt.1 h1)
        subst e
        rcases nlt_total a b with h | rfl | h
        · exact .inl (.inr ⟨rfl, h⟩)
        · exact .inr (.inl rfl)
        · exact .inr (.inr (.inr ⟨rfl, h⟩))
theorem nlt_asymm {a b : List UInt8} (h : nlt a b) : ¬ nlt b a := fun h2 => nlt_irrefl a (nlt_trans h h2)
theorem nlt_ne {a b : List UInt8} (h : nlt a b) : a ≠ b := fun e => nlt_irrefl b (e ▸ h)
theorem less_nlt : ∀ a b : List UInt8, Op.bytesLess a b = decide (nlt a b)
  | [], [] => by simp [Op.bytesLess, nlt_nil]
  | x :: a, [] => by simp [Op.bytesLess, nlt_nil]
  | [], y :: b => by simp [Op.bytesLess, nil_nlt]
  | x :: a, y :: b => by
    rw [Op.bytesLess, less_nlt a b]
    rw [show decide (nlt (x :: a) (y :: b)) = decide (x < y ∨ (x = y ∧ nlt a b)) from decide_eq_decide.2 nlt_cons]
    by_cases h1 : x < y <;> by_cases h2 : x = y <;> by_cases h3 : nlt a b <;> simp [h1, h2, h3]
/-! A picture: files by rising names. -/
abbrev Rowk := List KeysEntryInt
def Rise (p : Rowk) : Prop := p.Pairwise fun x y => nlt x.key_ y.key_
def lk (p : Rowk) (n : List UInt8) : Option Int := (p.find? fun f => f.key_ == n).map (·.v)
def get (p : Rowk) (n : List UInt8) : Int := (lk p n).getD 0
def wo (p : Rowk) (n : List UInt8) : Rowk := p.filter fun f => f.key_ != n
/-- How many names are ahead of a name. -/
def lb (p : Rowk) (n : List UInt8) : Nat := (p.takeWhile fun f => decide (nlt f.key_ n)).length
def wi (p : Rowk) (n : List UInt8) (b : Int) : Rowk := (wo p n).take (lb (wo p n) n) ++ ⟨n, b⟩ :: (wo p n).drop (lb (wo p n) n)
def total (p : Rowk) : Nat := (p.map fun f => f.v.natAbs).sum
theorem lb_le (p : Rowk) (n : List UInt8) : lb p n ≤ p.length := (List.takeWhile_sublist _).length_le
theorem lb_cons (f : KeysEntryInt) (p : Rowk) (n : List UInt8) : lb (f :: p) n = if nlt f.key_ n then lb p n + 1 else 0 := by
  unfold lb
  rw [List.takeWhile_cons]
  by_cases h : nlt f.key_ n <;> simp [h]
theorem lb_lt : ∀ {p : Rowk} {n : List UInt8} {k : Nat} {f : KeysEntryInt}, p[k]? = some f → k < lb p n → nlt f.key_ n
  | [], n, k, f, h, hk => by simp at h
  | g :: p, n, 0, f, h, hk => by
    rw [lb_cons] at hk
    simp at h
    subst h
    by_cases c : nlt g.key_ n
    · exact c
    · rw [if_neg c] at hk; omega
  | g :: p, n, k + 1, f, h, hk => by
    rw [lb_cons] at hk
    rw [List.getElem?_cons_succ] at h
    by_cases c : nlt g.key_ n
    · rw [if_pos c] at hk
      exact lb_lt h (by omega)
    · rw [if_neg c] at hk; omega
theorem lb_ge : ∀ {p : Rowk} {n : List UInt8} {k : Nat} {f : KeysEntryInt}, Rise p → p[k]? = some f → lb p n ≤ k → ¬ nlt f.key_ n
  | [], n, k, f, hr, h, hk => by simp at h
  | g :: p, n, 0, f, hr, h, hk => by
    rw [lb_cons] at hk
    simp at h
    subst h
    by_cases c : nlt g.key_ n
    · rw [if_pos c] at hk; omega
    · exact c
  | g :: p, n, k + 1, f, hr, h, hk => by
    rw [lb_cons] at hk
    rw [List.getElem?_cons_succ] at h
    have hr' := List.pairwise_cons.1 hr
    by_cases c : nlt g.key_ n
    · rw [if_pos c] at hk
      exact lb_ge hr'.2 h (by omega)
    · intro c2
      exact c (nlt_trans (hr'.1 f (List.mem_of_getElem? h)) c2)
theorem lk_none {p : Rowk} {n : List UInt8} : lk p n = none ↔ ∀ f ∈ p, f.key_ ≠ n := by
  unfold lk
  rw [Option.map_eq_none_iff, List.find?_eq_none]
  simp
theorem lk_cons (f : KeysEntryInt) (p : Rowk) (n : List UInt8) : lk (f :: p) n = if f.key_ = n then some f.v else lk p n := by
  unfold lk
  rw [List.find?_cons]
  by_cases h : f.key_ = n
  · simp [h]
  · have : (f.key_ == n) = false := by simpa using h
    rw [this, if_neg h]
theorem lk_at : ∀ {p : Rowk} {k : Nat} {f : KeysEntryInt}, Rise p → p[k]? = some f → lk p f.key_ = some f.v
  | [], k, f, hr, h => by simp at h
  | g :: p, 0, f, hr, h => by
    simp at h
    subst h
    rw [lk_cons, if_pos rfl]
  | g :: p, k + 1, f, hr, h => by
    rw [List.getElem?_cons_succ] at h
    have hr' := List.pairwise_cons.1 hr
    rw [lk_cons, if_neg (nlt_ne (hr'.1 f (List.mem_of_getElem? h)))]
    exact lk_at hr'.2 h
/-- What stands at the place of a name. -/
theorem lb_hit {p : Rowk} {n : List UInt8} (hr : Rise p) : (∃ f, p[lb p n]? = some f ∧ f.key_ = n ∧ lk p n = some f.v) ∨ ((∀ f, p[lb p n]? = some f → nlt n f.key_) ∧ lk p n = none) := by
  cases h : p[lb p n]? with
  | none =>
    refine .inr ⟨fun f e => (by cases e), lk_none.2 fun f hf => ?_⟩
    obtain ⟨k, hk⟩ := List.mem_iff_getElem?.1 hf
    have h1 := List.getElem?_eq_none_iff.1 h
    have h2 := (List.getElem?_eq_some_iff.1 hk).1
    exact nlt_ne (lb_lt hk (by omega))
  | some f =>
    by_cases c : f.key_ = n
    · exact .inl ⟨f, rfl, c, c ▸ lk_at hr h⟩
    · refine .inr ⟨fun g e => ?_, lk_none.2 fun g hg => ?_⟩
      · cases e
        rcases nlt_total f.key_ n with h1 | h1 | h1
        · exact absurd h1 (lb_ge hr h (Nat.le_refl _))
        · exact absurd h1 c
        · exact h1
      · obtain ⟨k, hk⟩ := List.mem_iff_getElem?.1 hg
        by_cases h3 : k < lb p n
        · exact nlt_ne (lb_lt hk h3)
        · by_cases h4 : k = lb p n
          · subst h4
            rw [hk] at h; cases h; exact c
          · have h5 : nlt f.key_ g.key_ := by
              have := List.pairwise_iff_getElem.1 hr (lb p n) k (List.getElem?_eq_some_iff.1 h).1 (List.getElem?_eq_some_iff.1 hk).1 (by omega)
              rwa [(List.getElem?_eq_some_iff.1 h).2, (List.getElem?_eq_some_iff.1 hk).2] at this
            intro e
            have h6 := lb_ge hr h (Nat.le_refl _)
            rw [e] at h5
            exact h6 h5
theorem bs_run {p : Rowk} {n : List UInt8} (hr : Rise p) (hl : p.length ≤ 1000000) (kj : Int → Option (Int × Bool)) : ∀ (J : Nat) (i j : Int), 0 ≤ i → i ≤ lb p n → (lb p n : Int) ≤ j → j ≤ p.length → j - i < J → slices_BinarySearchFunc_keys_entry_int_keys_entry_int_string_f45_l1 p n kj J i j = kj (lb p n)
  | 0, i, j, h0, h1, h2, h3, h4 => by omega
  | J + 1, i, j, h0, h1, h2, h3, h4 => by
    rw [slices_BinarySearchFunc_keys_entry_int_keys_entry_int_string_f45_l1]
    by_cases c : i < j
    · rw [if_pos c, half_eq (by omega) (by omega)]
      obtain ⟨f, e, hf, ek⟩ := geti_at (l := p) (i := (i + j) / 2) (by omega) (by omega)
      rw [e, Option.bind_some, keys_Index_int_place_1, Option.bind_some]
      by_cases c2 : Lib.compareBytes f.key_ n < 0
      · rw [if_pos c2, i64_id (by omega) (by omega)]
        have : ¬ lb p n ≤ ((i + j) / 2).toNat := fun h => lb_ge hr ek h c2
        exact bs_run hr hl kj J _ j (by omega) (by omega) h2 h3 (by omega)
      · rw [if_neg c2]
        have : ¬ ((i + j) / 2).toNat < lb p n := fun h => c2 (lb_lt ek h)
        exact bs_run hr hl kj J i _ h0 h1 (by omega) (by omega) (by omega)
    · rw [if_neg c]
      have : i = (lb p n : Int) := by omega
      rw [this]
theorem find_eq {p : Rowk} {n : List UInt8} (hr : Rise p) (hl : p.length ≤ 1000000) : slices_BinarySearchFunc_keys_entry_int_keys_entry_int_string_f45 p n = some ((lb p n : Int), (lk p n).isSome) := by
  unfold slices_BinarySearchFunc_keys_entry_int_keys_entry_int_string_f45
  have hFU := FU_big
  rw [jn_eq', bs_run hr hl _ FU 0 _ (Int.le_refl _) (by omega) (by have := lb_le p n; omega) (Int.le_refl _) (by omega)]
  rw [geti_nat]
  rcases lb_hit (n := n) hr with ⟨f, e, e2, e3⟩ | ⟨e, e2⟩
  · have h1 := (List.getElem?_eq_some_iff.1 e).1
    have h2 : Lib.compareBytes f.key_ n = 0 := (cmp_zero _ _).2 e2
    rw [if_pos (by omega), e, e3]
    simp [keys_Index_int_place_1, h2]
  · rw [e2]
    by_cases c : (lb p n : Int) < (p.length : Int)
    · rw [if_pos c]
      obtain ⟨f, hf⟩ : ∃ f, p[lb p n]? = some f := ⟨p[lb p n]'(by omega), List.getElem?_eq_getElem (by omega)⟩
      have h2 : ¬ Lib.compareBytes f.key_ n = 0 := fun h => nlt_ne (e f hf) ((cmp_zero _ _).1 h).symm
      rw [hf]
      simp [keys_Index_int_place_1, h2]
    · rw [if_neg c]; simp
/-! Laws of the row of files. -/
theorem wo_rise {p : Rowk} {n : List UInt8} (hr : Rise p) : Rise (wo p n) := List.Pairwise.filter _ hr
theorem mem_wo {p : Rowk} {n : List UInt8} {f : KeysEntryInt} : f ∈ wo p n ↔ f ∈ p ∧ f.key_ ≠ n := by unfold wo; simp
theorem wo_len (p : Rowk) (n : List UInt8) : (wo p n).length ≤ p.length := List.length_filter_le _ _
theorem wo_nil (n : List UInt8) : wo [] n = [] := rfl
theorem wo_cons (f : KeysEntryInt) (p : Rowk) (n : List UInt8) : wo (f :: p) n = if f.key_ = n then wo p n else f :: wo p n := by
  unfold wo
  rw [List.filter_cons]
  by_cases h : f.key_ = n <;> simp [h]
theorem lk_nil (n : List UInt8) : lk [] n = none := rfl
theorem lk_app (p q : Rowk) (n : List UInt8) : lk (p ++ q) n = (lk p n).or (lk q n) := by
  induction p with
  | nil => simp [lk_nil]
  | cons f p ih =>
    rw [List.cons_append, lk_cons, lk_cons, ih]
    by_cases h : f.key_ = n <;> simp [h]
theorem lk_wo (p : Rowk) (n m : List UInt8) : lk (wo p n) m = if m = n then none else lk p m := by
  induction p with
  | nil => simp [wo_nil, lk_nil]
  | cons f p ih =>
    rw [wo_cons, lk_cons]
    by_cases h : f.key_ = n
    · rw [if_pos h, ih]
      by_cases h2 : m = n
      · simp [h2]
      · rw [if_neg h2, if_neg h2, if_neg (fun e => h2 (by rw [← e, h]))]
    · rw [if_neg h, lk_cons, ih]
      by_cases h2 : f.key_ = m
      · rw [if_pos h2, if_pos h2, if_neg (fun e => h (by rw [h2, e]))]
      · rw [if_neg h2, if_neg h2]
theorem wo_self {p : Rowk} {n : List UInt8} (h : lk p n = none) : wo p n = p := by
  unfold wo
  rw [List.filter_eq_self]
  intro f hf
  have := lk_none.1 h f hf
  simpa using this
theorem lk_wi (p : Rowk) (n : List UInt8) (b : Int) (m : List UInt8) : lk (wi p n b) m = if m = n then some b else lk p m := by
  unfold wi
  rw [lk_app, lk_cons]
  have e : lk (wo p n) m = (lk ((wo p n).take (lb (wo p n) n)) m).or (lk ((wo p n).drop (lb (wo p n) n)) m) := by
    rw [← lk_app, List.take_append_drop]
  have e2 := lk_wo p n m
  by_cases h : m = n
  · subst h
    rw [if_pos rfl, if_pos rfl]
    rw [if_pos rfl, e] at e2
    cases h3 : lk ((wo p m).take (lb (wo p m) m)) m with
    | none => rfl
    | some x => rw [h3] at e2; cases e2
  · rw [if_neg (fun e => h e.symm), if_neg h, ← e, e2, if_neg h]
theorem wi_rise {p : Rowk} {n : List UInt8} {b : Int} (hr : Rise p) : Rise (wi p n b) := by
  have hw := wo_rise (n := n) hr
  have hn : lk (wo p n) n = none := by rw [lk_wo, if_pos rfl]
  unfold wi Rise
  have hta : (wo p n).take (lb (wo p n) n) ++ (wo p n).drop (lb (wo p n) n) = wo p n := List.take_append_drop _ _
  have hp : ((wo p n).take (lb (wo p n) n) ++ (wo p n).drop (lb (wo p n) n)).Pairwise fun x y => nlt x.key_ y.key_ := by rw [hta]; exact hw
  rw [List.pairwise_append] at hp ⊢
  have hl : ∀ f ∈ (wo p n).take (lb (wo p n) n), nlt f.key_ n := fun f hf => by
    obtain ⟨k, hk⟩ := List.mem_iff_getElem?.1 hf
    have h1 : k < lb (wo p n) n := by
      have := (List.getElem?_eq_some_iff.1 hk).1
      rw [List.length_take] at this; omega
    rw [List.getElem?_take, if_pos h1] at hk
    exact lb_lt hk h1
  have hg : ∀ f ∈ (wo p n).drop (lb (wo p n) n), nlt n f.key_ := fun f hf => by
    obtain ⟨k, hk⟩ := List.mem_iff_getElem?.1 hf
    rw [List.getElem?_drop] at hk
    have h1 := lb_ge (n := n) hw hk (by omega)
    rcases nlt_total f.key_ n with h2 | h2 | h2
    · exact absurd h2 h1
    · exact absurd h2 (lk_none.1 hn f (List.mem_of_getElem? hk))
    · exact h2
  refine ⟨hp.1, List.pairwise_cons.2 ⟨hg, hp.2.1⟩, fun f hf g hgm => ?_⟩
  rcases List.mem_cons.1 hgm with rfl | hgm
  · exact hl f hf
  · exact nlt_trans (hl f hf) (hg g hgm)
theorem wi_len (p : Rowk) (n : List UInt8) (b : Int) : (wi p n b).length ≤ p.length + 1 := by
  unfold wi
  have := wo_len p n
  have := lb_le (wo p n) n
  rw [List.length_append, List.length_cons, List.length_take, List.length_drop]; omega
/-- Two pictures that show the same are one. -/
theorem pic_ext : ∀ {p q : Rowk}, Rise p → Rise q → (∀ n, lk p n = lk q n) → p = q
  | [], [], _, _, _ => rfl
  | [], g :: q, _, _, h => by
    have := h g.key_
    rw [lk_nil, lk_cons, if_pos rfl] at this; cases this
  | f :: p, [], _, _, h => by
    have := h f.key_
    rw [lk_nil, lk_cons, if_pos rfl] at this; cases this
  | f :: p, g :: q, hp, hq, h => by
    have hp' := List.pairwise_cons.1 hp
    have hq' := List.pairwise_cons.1 hq
    have e : f.key_ = g.key_ := by
      rcases nlt_total f.key_ g.key_ with h1 | h1 | h1
      · have h2 := h f.key_
        rw [lk_cons, if_pos rfl, lk_cons, if_neg (fun e => nlt_ne h1 e.symm)] at h2
        have h3 : lk q f.key_ = none := lk_none.2 fun x hx e => nlt_asymm h1 (e ▸ hq'.1 x hx)
        rw [h3] at h2; cases h2
      · exact h1
      · have h2 := h g.key_
        rw [lk_cons, if_neg (fun e => nlt_ne h1 e.symm), lk_cons, if_pos rfl] at h2
        have h3 : lk p g.key_ = none := lk_none.2 fun x hx e => nlt_asymm h1 (e ▸ hp'.1 x hx)
        rw [h3] at h2; cases h2
    have e2 : f.v = g.v := by
      have h2 := h f.key_
      rw [lk_cons, if_pos rfl, lk_cons, if_pos e.symm] at h2
      exact Option.some.inj h2
    have e3 : p = q := pic_ext hp'.2 hq'.2 fun n => by
      have h2 := h n
      rw [lk_cons, lk_cons] at h2
      by_cases c : f.key_ = n
      · rw [lk_none.2 fun x hx e => (nlt_ne (hp'.1 x hx)) (by rw [c, e]), lk_none.2 fun x hx e4 => (nlt_ne (hq'.1 x hx)) (by rw [← e, c, e4])]
      · rw [if_neg c, if_neg (e ▸ c)] at h2; exact h2
    obtain ⟨fn, fb⟩ := f
    obtain ⟨gn, gb⟩ := g
    simp only at e e2
    subst e; subst e2; subst e3; rfl
end Go.Proofs
