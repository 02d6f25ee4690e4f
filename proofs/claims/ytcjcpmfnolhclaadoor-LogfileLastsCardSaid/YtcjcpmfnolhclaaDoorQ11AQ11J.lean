import Derived.Test.YtcjcpmfnolhclaaDoorP11D
set_option linter.unusedVariables false
set_option linter.unusedSimpArgs false
namespace Go.Proofs
open Go.Fw
set_option maxRecDepth 100000 in
theorem awake_true : law11_awake = some true := by
  decide +kernel
end Go.Proofs

set_option linter.unusedVariables false
set_option linter.unusedSimpArgs false
namespace Go.Proofs
open Go.Fw
/-! Nobody's log. -/
end Go.Proofs

set_option linter.unusedVariables false
set_option linter.unusedSimpArgs false
namespace Go.Proofs
open Go.Fw
/-! Small tools. -/
theorem i64_id {p : Int} (h0 : -9223372036854775808 ≤ p) (h1 : p ≤ 9223372036854775807) : i64 p = p := i64_eq h0 h1
theorem jn_eq' {α β : Type} (f : α) (g : α → β) : jn f g = g f := by unfold jn; exact id rfl
theorem geti_at {α : Type} {l : List α} {i : Int} (h0 : 0 ≤ i) (h1 : i < (l.length : Int)) : ∃ x, geti l i = some x ∧ x ∈ l ∧ l[i.toNat]? = some x := by
  unfold geti
  rw [if_pos h0]
  have h2 : i.toNat < l.length := by omega
  exact ⟨l[i.toNat], List.getElem?_eq_getElem h2, List.getElem_mem h2, List.getElem?_eq_getElem h2⟩
theorem geti_nat {α : Type} (l : List α) (k : Nat) : geti l (k : Int) = l[k]? := by
  unfold geti
  rw [if_pos (by omega)]
  simp
theorem app_ok {α : Type} {cap : Nat} (a b : List α) (h : a.length + b.length ≤ 1000000) (hc : 1000000 ≤ cap) : app cap a b = some (a ++ b) := by
  unfold app
  rw [if_pos (by omega)]
theorem FU_big : 10000000000 ≤ FU := Nat.le_trans (by decide) FU_ge
theorem subl_head {α : Type} (l : List α) (k : Nat) (h : k ≤ l.length) : subl l 0 (k : Int) = some (l.take k) := by
  unfold subl
  rw [if_pos ⟨by omega, by omega, by omega⟩]
  simp
theorem subl_tail {α : Type} (l : List α) (k : Nat) (h : k ≤ l.length) : subl l (k : Int) (l.length : Int) = some (l.drop k) := by
  unfold subl
  rw [if_pos ⟨by omega, by omega, by omega⟩]
  simp only [Int.toNat_natCast, Option.some.injEq]
  rw [List.take_of_length_le]
  rw [List.length_drop]; omega
theorem half_eq {x : Int} (h0 : 0 ≤ x) (h1 : x ≤ 4611686018427387904) : i64 ((shr64 (ofI64 (i64 x)) 1).toNat : Int) = x / 2 := by
  rw [i64_id (p := x) (by omega) (by omega)]
  have e : (ofI64 x).toNat = x.toNat := by
    unfold ofI64
    rw [UInt64.toNat_ofNat', Nat.mod_eq_of_lt (by omega)]
    omega
  have e2 : (shr64 (ofI64 x) 1).toNat = x.toNat / 2 := by
    unfold shr64
    rw [e, show min (1 : Int).toNat 64 = 1 by decide, UInt64.toNat_ofNat', Nat.mod_eq_of_lt (by omega)]
  rw [e2, i64_id (by omega) (by omega)]
  omega
/-! The order of the names. -/
theorem cmp_refl : ∀ a : List UInt8, Lib.compareBytes a a = 0
  | [] => rfl
  | x :: r => by
    rw [Lib.compareBytes, if_neg (UInt8.lt_irrefl x), if_neg (UInt8.lt_irrefl x)]
    exact cmp_refl r
theorem cmp_zero : ∀ a b : List UInt8, Lib.compareBytes a b = 0 ↔ a = b
  | [], [] => by simp [Lib.compareBytes]
  | [], _ :: _ => by simp [Lib.compareBytes]
  | _ :: _, [] => by simp [Lib.compareBytes]
  | x :: a, y :: b => by
    rw [Lib.compareBytes]
    by_cases h1 : x < y
    · have : x ≠ y := fun e => UInt8.lt_irrefl y (e ▸ h1)
      simp [h1, this]
    · by_cases h2 : y < x
      · have : x ≠ y := fun e => UInt8.lt_irrefl y (by rw [e] at h2; exact h2)
        simp [h1, h2, this]
      · have e : x = y := UInt8.le_antisymm (UInt8.not_lt.1 h2) (UInt8.not_lt.1 h1)
        subst e
        simp [h1, cmp_zero a b]
/-- A name ahead of another one. -/
def nlt (a b : List UInt8) : Prop := Lib.compareBytes a b < 0
instance (a b : List UInt8) : Decidable (nlt a b) := by unfold nlt; infer_instance
theorem nlt_irrefl (a : List UInt8) : ¬ nlt a a := by unfold nlt; rw [cmp_refl]; decide
theorem nlt_cons {x y : UInt8} {a b : List UInt8} : nlt (x :: a) (y :: b) ↔ x < y ∨ (x = y ∧ nlt a b) := by
  unfold nlt
  rw [Lib.compareBytes]
  by_cases h1 : x < y
  · simp [h1]
  · by_cases h2 : y < x
    · have : x ≠ y := fun e => UInt8.lt_irrefl y (by rw [e] at h2; exact h2)
      simp [h1, h2, this]
    · have e : x = y := UInt8.le_antisymm (UInt8.not_lt.1 h2) (UInt8.not_lt.1 h1)
      subst e
      simp [h1]
theorem nlt_nil (a : List UInt8) : ¬ nlt a [] := by
  unfold nlt
  cases a <;> simp [Lib.compareBytes]
theorem nil_nlt (x : UInt8) (a : List UInt8) : nlt [] (x :: a) := by
  unfold nlt; simp [Lib.compareBytes]
theorem nlt_trans : ∀ {a b c : List UInt8}, nlt a b → nlt b c → nlt a c
  | _, _, [], _, h => absurd h (nlt_nil _)
  | _, [], _ :: _, h, _ => absurd h (nlt_nil _)
  | [], _ :: _, z :: c, _, _ => nil_nlt z c
  | x :: a, y :: b, z :: c, h1, h2 => by
    rw [nlt_cons] at h1 h2 ⊢
    rcases h1 with h1 | ⟨rfl, h1⟩
    · rcases h2 with h2 | ⟨rfl, h2⟩
      · exact .inl (UInt8.lt_trans h1 h2)
      · exact .inl h1
    · rcases h2 with h2 | ⟨rfl, h2⟩
      · exact .inl h2
      · exact .inr ⟨rfl, nlt_trans h1 h2⟩
theorem nlt_total : ∀ (a b : List UInt8), nlt a b ∨ a = b ∨ nlt b a
  | [], [] => .inr (.inl rfl)
  | [], y :: b => .inl (nil_nlt y b)
  | x :: a, [] => .inr (.inr (nil_nlt x a))
  | x :: a, y :: b => by
    rw [nlt_cons, nlt_cons]
    by_cases h1 : x < y
    · exact .inl (.inl h1)
    · by_cases h2 : y < x
      · exact .inr (.inr (.inl h2))
      · have e : x = y := UInt8.le_antisymm (UInt8.not_lt.1 h2) (UInt8.not_lt.1 h1)
        subst e
        rcases nlt_total a b with h | rfl | h
        · exact .inl (.inr ⟨rfl, h⟩)
        · exact .inr (.inl rfl)
        · exact .inr (.inr (.inr ⟨rfl, h⟩))
theorem nlt_ne {a b : List UInt8} (h : nlt a b) : a ≠ b := fun e => nlt_irrefl b (e ▸ h)
/-! A picture: files by rising names. -/
abbrev Pic := List DiskFile
def Rise (p : Pic) : Prop := p.Pairwise fun x y => nlt x.name y.name
def lk (p : Pic) (n : List UInt8) : Option (List UInt8) := (p.find? fun f => f.name == n).map (·.b)
def get (p : Pic) (n : List UInt8) : List UInt8 := (lk p n).getD []
def wo (p : Pic) (n : List UInt8) : Pic := p.filter fun f => f.name != n
/-- How many names are ahead of a name. -/
def lb (p : Pic) (n : List UInt8) : Nat := (p.takeWhile fun f => decide (nlt f.name n)).length
def wi (p : Pic) (n b : List UInt8) : Pic := (wo p n).take (lb (wo p n) n) ++ ⟨n, b⟩ :: (wo p n).drop (lb (wo p n) n)
def total (p : Pic) : Nat := (p.map fun f => f.b.length).sum
theorem lb_le (p : Pic) (n : List UInt8) : lb p n ≤ p.length := (List.takeWhile_sublist _).length_le
theorem lb_cons (f : DiskFile) (p : Pic) (n : List UInt8) : lb (f :: p) n = if nlt f.name n then lb p n + 1 else 0 := by
  unfold lb
  rw [List.takeWhile_cons]
  by_cases h : nlt f.name n <;> simp [h]
theorem lb_lt : ∀ {p : Pic} {n : List UInt8} {k : Nat} {f : DiskFile}, p[k]? = some f → k < lb p n → nlt f.name n
  | [], n, k, f, h, hk => by simp at h
  | g :: p, n, 0, f, h, hk => by
    rw [lb_cons] at hk
    simp at h
    subst h
    by_cases c : nlt g.name n
    · exact c
    · rw [if_neg c] at hk; omega
  | g :: p, n, k + 1, f, h, hk => by
    rw [lb_cons] at hk
    rw [List.getElem?_cons_succ] at h
    by_cases c : nlt g.name n
    · rw [if_pos c] at hk
      exact lb_lt h (by omega)
    · rw [if_neg c] at hk; omega
theorem lb_ge : ∀ {p : Pic} {n : List UInt8} {k : Nat} {f : DiskFile}, Rise p → p[k]? = some f → lb p n ≤ k → ¬ nlt f.name n
  | [], n, k, f, hr, h, hk => by simp at h
  | g :: p, n, 0, f, hr, h, hk => by
    rw [lb_cons] at hk
    simp at h
    subst h
    by_cases c : nlt g.name n
    · rw [if_pos c] at hk; omega
    · exact c
  | g :: p, n, k + 1, f, hr, h, hk => by
    rw [lb_cons] at hk
    rw [List.getElem?_cons_succ] at h
    have hr' := List.pairwise_cons.1 hr
    by_cases c : nlt g.name n
    · rw [if_pos c] at hk
      exact lb_ge hr'.2 h (by omega)
    · intro c2
      exact c (nlt_trans (hr'.1 f (List.mem_of_getElem? h)) c2)
theorem lk_none {p : Pic} {n : List UInt8} : lk p n = none ↔ ∀ f ∈ p, f.name ≠ n := by
  unfold lk
  rw [Option.map_eq_none_iff, List.find?_eq_none]
  simp
theorem lk_cons (f : DiskFile) (p : Pic) (n : List UInt8) : lk (f :: p) n = if f.name = n then some f.b else lk p n := by
  unfold lk
  rw [List.find?_cons]
  by_cases h : f.name = n
  · simp [h]
  · have : (f.name == n) = false := by simpa using h
    rw [this, if_neg h]
theorem lk_at : ∀ {p : Pic} {k : Nat} {f : DiskFile}, Rise p → p[k]? = some f → lk p f.name = some f.b
  | [], k, f, hr, h => by simp at h
  | g :: p, 0, f, hr, h => by
    simp at h
    subst h
    rw [lk_cons, if_pos rfl]
  | g :: p, k + 1, f, hr, h => by
    rw [List.getElem?_cons_succ] at h
    have hr' := List.pairwise_cons.1 hr
    rw [lk_cons, if_neg (nlt_ne (hr'.1 f (List.mem_of_getElem? h)))]
    exact lk_at hr'.2 h
/-- What stands at the place of a name. -/
theorem lb_hit {p : Pic} {n : List UInt8} (hr : Rise p) : (∃ f, p[lb p n]? = some f ∧ f.name = n ∧ lk p n = some f.b) ∨ ((∀ f, p[lb p n]? = some f → nlt n f.name) ∧ lk p n = none) := by
  cases h : p[lb p n]? with
  | none =>
    refine .inr ⟨fun f e => (by cases e), lk_none.2 fun f hf => ?_⟩
    obtain ⟨k, hk⟩ := List.mem_iff_getElem?.1 hf
    have h1 := List.getElem?_eq_none_iff.1 h
    have h2 := (List.getElem?_eq_some_iff.1 hk).1
    exact nlt_ne (lb_lt hk (by omega))
  | some f =>
    by_cases c : f.name = n
    · exact .inl ⟨f, rfl, c, c ▸ lk_at hr h⟩
    · refine .inr ⟨fun g e => ?_, lk_none.2 fun g hg => ?_⟩
      · cases e
        rcases nlt_total f.name n with h1 | h1 | h1
        · exact absurd h1 (lb_ge hr h (Nat.le_refl _))
        · exact absurd h1 c
        · exact h1
      · obtain ⟨k, hk⟩ := List.mem_iff_getElem?.1 hg
        by_cases h3 : k < lb p n
        · exact nlt_ne (lb_lt hk h3)
        · by_cases h4 : k = lb p n
          · subst h4
            rw [hk] at h; cases h; exact c
          · have h5 : nlt f.name g.name := by
              have := List.pairwise_iff_getElem.1 hr (lb p n) k (List.getElem?_eq_some_iff.1 h).1 (List.getElem?_eq_some_iff.1 hk).1 (by omega)
              rwa [(List.getElem?_eq_some_iff.1 h).2, (List.getElem?_eq_some_iff.1 hk).2] at this
            intro e
            have h6 := lb_ge hr h (Nat.le_refl _)
            rw [e] at h5
            exact h6 h5
theorem bs_run {p : Pic} {n : List UInt8} (hr : Rise p) (hl : p.length ≤ 1000000) (kj : Int → Option (Int × Bool)) : ∀ (J : Nat) (i j : Int), 0 ≤ i → i ≤ lb p n → (lb p n : Int) ≤ j → j ≤ p.length → j - i < J → slices_BinarySearchFunc_disk_picture_disk_file_string_f61_l1 p n kj J i j = kj (lb p n)
  | 0, i, j, h0, h1, h2, h3, h4 => by omega
  | J + 1, i, j, h0, h1, h2, h3, h4 => by
    rw [slices_BinarySearchFunc_disk_picture_disk_file_string_f61_l1]
    by_cases c : i < j
    · rw [if_pos c, half_eq (by omega) (by omega)]
      obtain ⟨f, e, hf, ek⟩ := geti_at (l := p) (i := (i + j) / 2) (by omega) (by omega)
      rw [e, Option.bind_some, disk_picture_find_1, Option.bind_some]
      by_cases c2 : Lib.compareBytes f.name n < 0
      · rw [if_pos c2, i64_id (by omega) (by omega)]
        have : ¬ lb p n ≤ ((i + j) / 2).toNat := fun h => lb_ge hr ek h c2
        exact bs_run hr hl kj J _ j (by omega) (by omega) h2 h3 (by omega)
      · rw [if_neg c2]
        have : ¬ ((i + j) / 2).toNat < lb p n := fun h => c2 (lb_lt ek h)
        exact bs_run hr hl kj J i _ h0 h1 (by omega) (by omega) (by omega)
    · rw [if_neg c]
      have : i = (lb p n : Int) := by omega
      rw [this]
theorem find_eq {p : Pic} {n : List UInt8} (hr : Rise p) (hl : p.length ≤ 1000000) : disk_picture_find p n = some ((lb p n : Int), (lk p n).isSome) := by
  unfold disk_picture_find slices_BinarySearchFunc_disk_picture_disk_file_string_f61
  have hFU := FU_big
  rw [jn_eq', bs_run hr hl _ FU 0 _ (Int.le_refl _) (by omega) (by have := lb_le p n; omega) (Int.le_refl _) (by omega)]
  rw [geti_nat]
  rcases lb_hit (n := n) hr with ⟨f, e, e2, e3⟩ | ⟨e, e2⟩
  · have h1 := (List.getElem?_eq_some_iff.1 e).1
    have h2 : Lib.compareBytes f.name n = 0 := (cmp_zero _ _).2 e2
    rw [if_pos (by omega), e, e3]
    simp [disk_picture_find_1, h2]
  · rw [e2]
    by_cases c : (lb p n : Int) < (p.length : Int)
    · rw [if_pos c]
      obtain ⟨f, hf⟩ : ∃ f, p[lb p n]? = some f := ⟨p[lb p n]'(by omega), List.getElem?_eq_getElem (by omega)⟩
      have h2 : ¬ Lib.compareBytes f.name n = 0 := fun h => nlt_ne (e f hf) ((cmp_zero _ _).1 h).symm
      rw [hf]
      simp [disk_picture_find_1, h2]
    · rw [if_neg c]; simp
theorem bytes_eq {p : Pic} {n : List UInt8} (hr : Rise p) (hl : p.length ≤ 1000000) : disk_picture_bytes p n = some (get p n) := by
  unfold disk_picture_bytes get
  rw [find_eq hr hl, Option.bind_some]
  rcases lb_hit (n := n) hr with ⟨f, e, e2, e3⟩ | ⟨e, e2⟩
  · rw [e3]
    simp [geti_nat, e]
  · rw [e2]; simp
end Go.Proofs

set_option linter.unusedVariables false
set_option linter.unusedSimpArgs false
namespace Go.Proofs
open Go.Fw
/-! Laws of the row of files. -/
theorem wo_rise {p : Pic} {n : List UInt8} (hr : Rise p) : Rise (wo p n) := List.Pairwise.filter _ hr
theorem mem_wo {p : Pic} {n : List UInt8} {f : DiskFile} : f ∈ wo p n ↔ f ∈ p ∧ f.name ≠ n := by unfold wo; simp
theorem wo_len (p : Pic) (n : List UInt8) : (wo p n).length ≤ p.length := List.length_filter_le _ _
theorem wo_nil (n : List UInt8) : wo [] n = [] := rfl
theorem wo_cons (f : DiskFile) (p : Pic) (n : List UInt8) : wo (f :: p) n = if f.name = n then wo p n else f :: wo p n := by
  unfold wo
  rw [List.filter_cons]
  by_cases h : f.name = n <;> simp [h]
theorem lk_nil (n : List UInt8) : lk [] n = none := rfl
theorem lk_app (p q : Pic) (n : List UInt8) : lk (p ++ q) n = (lk p n).or (lk q n) := by
  induction p with
  | nil => simp [lk_nil]
  | cons f p ih =>
    rw [List.cons_append, lk_cons, lk_cons, ih]
    by_cases h : f.name = n <;> simp [h]
theorem lk_wo (p : Pic) (n m : List UInt8) : lk (wo p n) m = if m = n then none else lk p m := by
  induction p with
  | nil => simp [wo_nil, lk_nil]
  | cons f p ih =>
    rw [wo_cons, lk_cons]
    by_cases h : f.name = n
    · rw [if_pos h, ih]
      by_cases h2 : m = n
      · simp [h2]
      · rw [if_neg h2, if_neg h2, if_neg (fun e => h2 (by rw [← e, h]))]
    · rw [if_neg h, lk_cons, ih]
      by_cases h2 : f.name = m
      · rw [if_pos h2, if_pos h2, if_neg (fun e => h (by rw [h2, e]))]
      · rw [if_neg h2, if_neg h2]
theorem wo_self {p : Pic} {n : List UInt8} (h : lk p n = none) : wo p n = p := by
  unfold wo
  rw [List.filter_eq_self]
  intro f hf
  have := lk_none.1 h f hf
  simpa using this
theorem lk_wi (p : Pic) (n b m : List UInt8) : lk (wi p n b) m = if m = n then some b else lk p m := by
  unfold wi
  rw [lk_app, lk_cons]
  have e : lk (wo p n) m = (lk ((wo p n).take (lb (wo p n) n)) m).or (lk ((wo p n).drop (lb (wo p n) n)) m) := by
    rw [← lk_app, List.take_append_drop]
  have e2 := lk_wo p n m
  by_cases h : m = n
  · subst h
    rw [if_pos rfl, if_pos rfl]
    rw [if_pos rfl, e] at e2
    cases h3 : lk ((wo p m).take (lb (wo p m) m)) m with
    | none => rfl
    | some x => rw [h3] at e2; cases e2
  · rw [if_neg (fun e => h e.symm), if_neg h, ← e, e2, if_neg h]
theorem wi_rise {p : Pic} {n b : List UInt8} (hr : Rise p) : Rise (wi p n b) := by
  have hw := wo_rise (n := n) hr
  have hn : lk (wo p n) n = none := by rw [lk_wo, if_pos rfl]
  unfold wi Rise
  have hta : (wo p n).take (lb (wo p n) n) ++ (wo p n).drop (lb (wo p n) n) = wo p n := List.take_append_drop _ _
  have hp : ((wo p n).take (lb (wo p n) n) ++ (wo p n).drop (lb (wo p n) n)).Pairwise fun x y => nlt x.name y.name := by rw [hta]; exact hw
  rw [List.pairwise_append] at hp ⊢
  have hl : ∀ f ∈ (wo p n).take (lb (wo p n) n), nlt f.name n := fun f hf => by
    obtain ⟨k, hk⟩ := List.mem_iff_getElem?.1 hf
    have h1 : k < lb (wo p n) n := by
      have := (List.getElem?_eq_some_iff.1 hk).1
      rw [List.length_take] at this; omega
    rw [List.getElem?_take, if_pos h1] at hk
    exact lb_lt hk h1
  have hg : ∀ f ∈ (wo p n).drop (lb (wo p n) n), nlt n f.name := fun f hf => by
    obtain ⟨k, hk⟩ := List.mem_iff_getElem?.1 hf
    rw [List.getElem?_drop] at hk
    have h1 := lb_ge (n := n) hw hk (by omega)
    rcases nlt_total f.name n with h2 | h2 | h2
    · exact absurd h2 h1
    · exact absurd h2 (lk_none.1 hn f (List.mem_of_getElem? hk))
    · exact h2
  refine ⟨hp.1, List.pairwise_cons.2 ⟨hg, hp.2.1⟩, fun f hf g hgm => ?_⟩
  rcases List.mem_cons.1 hgm with rfl | hgm
  · exact hl f hf
  · exact nlt_trans (hl f hf) (hg g hgm)
theorem wi_len (p : Pic) (n b : List UInt8) : (wi p n b).length ≤ p.length + 1 := by
  unfold wi
  have := wo_len p n
  have := lb_le (wo p n) n
  rw [List.length_append, List.length_cons, List.length_take, List.length_drop]; omega
theorem total_cons (f : DiskFile) (p : Pic) : total (f :: p) = f.b.length + total p := by unfold total; simp
theorem total_app (p q : Pic) : total (p ++ q) = total p + total q := by unfold total; simp
theorem total_wo {p : Pic} (hr : Rise p) (n : List UInt8) : total (wo p n) + (get p n).length = total p := by
  induction p with
  | nil => rfl
  | cons f p ih =>
    have hr' := List.pairwise_cons.1 hr
    rw [wo_cons, total_cons]
    unfold get
    rw [lk_cons]
    by_cases h : f.name = n
    · rw [if_pos h, if_pos h, wo_self (lk_none.2 fun x hx e => (nlt_ne (hr'.1 x hx)) (by rw [h, e]))]
      simp; omega
    · rw [if_neg h, if_neg h, total_cons]
      have := ih hr'.2
      unfold get at this; omega
theorem total_wi {p : Pic} (hr : Rise p) (n b : List UInt8) : total (wi p n b) + (get p n).length = total p + b.length := by
  unfold wi
  have h1 := total_wo hr n
  have h2 : total ((wo p n).take (lb (wo p n) n)) + total ((wo p n).drop (lb (wo p n) n)) = total (wo p n) := by rw [← total_app, List.take_append_drop]
  rw [total_app, total_cons]
  simp only; omega
theorem get_wi (p : Pic) (n b m : List UInt8) : get (wi p n b) m = if m = n then b else get p m := by
  unfold get; rw [lk_wi]; split <;> rfl
theorem get_le {p : Pic} (hr : Rise p) (n : List UInt8) : (get p n).length ≤ total p := by have := total_wo hr n; omega
/-! What the program's functions compute. -/
theorem cat1 {ls : List (List DiskFile)} (kj : Int → Option (List DiskFile)) : ∀ (J k : Nat) (t : Nat), k ≤ ls.length → ls.length - k < J → t + ((ls.drop k).map List.length).sum ≤ 1000000 → ls.length ≤ 1000000 →
    slices_Concat_disk_picture_disk_file_l1 ls kj J (t : Int) (k : Int) = kj ((t + ((ls.drop k).map List.length).sum : Nat) : Int)
  | 0, k, t, h1, h2, h3, h4 => by omega
  | J + 1, k, t, h1, h2, h3, h4 => by
    rw [slices_Concat_disk_picture_disk_file_l1]
    by_cases c : k < ls.length
    · have e : ls.drop k = ls[k] :: ls.drop (k + 1) := List.drop_eq_getElem_cons c
      rw [e, List.map_cons, List.sum_cons] at h3 ⊢
      rw [if_pos (by omega), geti_nat, List.getElem?_eq_getElem c, Option.bind_some]
      rw [i64_id (by omega) (by omega), if_neg (by omega), i64_id (by omega) (by omega)]
      have := cat1 kj J (k + 1) (t + ls[k].length) (by omega) (by omega) (by omega) h4
      rw [show ((t : Nat) : Int) + (ls[k].length : Int) = ((t + ls[k].length : Nat) : Int) by omega, show (k : Int) + 1 = ((k + 1 : Nat) : Int) by omega, this]
      rw [Nat.add_assoc]
    · rw [if_neg (by omega), List.drop_eq_nil_of_le (by omega)]
      simp
theorem cat2 {ls : List (List DiskFile)} (kj : List DiskFile → Option (List DiskFile)) : ∀ (J k : Nat) (r : List DiskFile), k ≤ ls.length → ls.length - k < J → r.length + ((ls.drop k).map List.length).sum ≤ 1000000 → ls.length ≤ 1000000 →
    slices_Concat_disk_picture_disk_file_l2 ls kj J r (k : Int) = kj (r ++ (ls.drop k).flatten)
  | 0, k, t, h1, h2, h3, h4 => by omega
  | J + 1, k, r, h1, h2, h3, h4 => by
    rw [slices_Concat_disk_picture_disk_file_l2]
    by_cases c : k < ls.length
    · have e : ls.drop k = ls[k] :: ls.drop (k + 1) := List.drop_eq_getElem_cons c
      rw [e, List.map_cons, List.sum_cons] at h3
      rw [e, List.flatten_cons]
      rw [if_pos (by omega), geti_nat, List.getElem?_eq_getElem c, Option.bind_some, app_ok _ _ (by omega) (by omega), Option.bind_some, i64_id (by omega) (by omega)]
      have := cat2 kj J (k + 1) (r ++ ls[k]) (by omega) (by omega) (by rw [List.length_append]; omega) h4
      rw [show (k : Int) + 1 = ((k + 1 : Nat) : Int) by omega, this, List.append_assoc]
    · rw [if_neg (by omega), List.drop_eq_nil_of_le (by omega)]
      simp
theorem cat_eq (ls : List (List DiskFile)) (h : (ls.map List.length).sum ≤ 1000000) (h2 : ls.length ≤ 1000000) : slices_Concat_disk_picture_disk_file ls = some ls.flatten := by
  unfold slices_Concat_disk_picture_disk_file
  have hFU := FU_big
  rw [jn_eq']
  rw [show (0 : Int) = ((0 : Nat) : Int) from rfl, cat1 _ FU 0 0 (by omega) (by omega) (by simpa using h) h2, List.drop_zero]
  generalize hT : (0 + (ls.map List.length).sum) = T
  have hT' : T ≤ 1000000 := by omega
  have e : slices_Grow_disk_picture_disk_file_nl (T : Int) = some [] := by
    unfold slices_Grow_disk_picture_disk_file_nl
    rw [i64_id (by omega) (by omega), if_neg (by omega)]
    by_cases c : T = 0
    · subst c; simp
    · rw [if_pos (by omega), if_pos (by omega), if_pos (by omega)]
  rw [e, Option.bind_some, jn_eq', cat2 _ FU 0 [] (by omega) (by omega) (by simpa using h) h2, List.drop_zero]
  rfl
theorem bcat1 {ls : List (List UInt8)} (kj : Int → Option (List UInt8)) : ∀ (J k : Nat) (t : Nat), k ≤ ls.length → ls.length - k < J → t + ((ls.drop k).map List.length).sum ≤ 1000000 → ls.length ≤ 1000000 →
    slices_Concat_byte_byte_l1 ls kj J (t : Int) (k : Int) = kj ((t + ((ls.drop k).map List.length).sum : Nat) : Int)
  | 0, k, t, h1, h2, h3, h4 => by omega
  | J + 1, k, t, h1, h2, h3, h4 => by
    rw [slices_Concat_byte_byte_l1]
    by_cases c : k < ls.length
    · have e : ls.drop k = ls[k] :: ls.drop (k + 1) := List.drop_eq_getElem_cons c
      rw [e, List.map_cons, List.sum_cons] at h3 ⊢
      rw [if_pos (by omega), geti_nat, List.getElem?_eq_getElem c, Option.bind_some]
      rw [i64_id (by omega) (by omega), if_neg (by omega), i64_id (by omega) (by omega)]
      have := bcat1 kj J (k + 1) (t + ls[k].length) (by omega) (by omega) (by omega) h4
      rw [show ((t : Nat) : Int) + (ls[k].length : Int) = ((t + ls[k].length : Nat) : Int) by omega, show (k : Int) + 1 = ((k + 1 : Nat) : Int) by omega, this]
      rw [Nat.add_assoc]
    · rw [if_neg (by omega), List.drop_eq_nil_of_le (by omega)]
      simp
theorem bcat2 {ls : List (List UInt8)} (kj : List UInt8 → Option (List UInt8)) : ∀ (J k : Nat) (r : List UInt8), k ≤ ls.length → ls.length - k < J → r.length + ((ls.drop k).map List.length).sum ≤ 1000000 → ls.length ≤ 1000000 →
    slices_Concat_byte_byte_l2 ls kj J r (k : Int) = kj (r ++ (ls.drop k).flatten)
  | 0, k, t, h1, h2, h3, h4 => by omega
  | J + 1, k, r, h1, h2, h3, h4 => by
    rw [slices_Concat_byte_byte_l2]
    by_cases c : k < ls.length
    · have e : ls.drop k = ls[k] :: ls.drop (k + 1) := List.drop_eq_getElem_cons c
      rw [e, List.map_cons, List.sum_cons] at h3
      rw [e, List.flatten_cons]
      rw [if_pos (by omega), geti_nat, List.getElem?_eq_getElem c, Option.bind_some, app_ok _ _ (by omega) (by omega), Option.bind_some, i64_id (by omega) (by omega)]
      have := bcat2 kj J (k + 1) (r ++ ls[k]) (by omega) (by omega) (by rw [List.length_append]; omega) h4
      rw [show (k : Int) + 1 = ((k + 1 : Nat) : Int) by omega, this, List.append_assoc]
    · rw [if_neg (by omega), List.drop_eq_nil_of_le (by omega)]
      simp
theorem bcat_eq (ls : List (List UInt8)) (h : (ls.map List.length).sum ≤ 1000000) (h2 : ls.length ≤ 1000000) : slices_Concat_byte_byte ls = some ls.flatten := by
  unfold slices_Concat_byte_byte
  have hFU := FU_big
  rw [jn_eq']
  rw [show (0 : Int) = ((0 : Nat) : Int) from rfl, bcat1 _ FU 0 0 (by omega) (by omega) (by simpa using h) h2, List.drop_zero]
  generalize hT : (0 + (ls.map List.length).sum) = T
  have hT' : T ≤ 1000000 := by omega
  have e : slices_Grow_byte_byte_nl (T : Int) = some [] := by
    unfold slices_Grow_byte_byte_nl
    rw [i64_id (by omega) (by omega), if_neg (by omega)]
    by_cases c : T = 0
    · subst c; simp
    · rw [if_pos (by omega), if_pos (by omega), if_pos (by omega)]
  rw [e, Option.bind_some, jn_eq', bcat2 _ FU 0 [] (by omega) (by omega) (by simpa using h) h2, List.drop_zero]
  rfl
theorem wo_cut : ∀ {p : Pic} {n : List UInt8} {f : DiskFile}, Rise p → p[lb p n]? = some f → f.name = n → p.take (lb p n) ++ p.drop (lb p n + 1) = wo p n
  | [], n, f, hr, h, e => by simp at h
  | g :: p, n, f, hr, h, e => by
    have hr' := List.pairwise_cons.1 hr
    rw [lb_cons] at h ⊢
    by_cases c : nlt g.name n
    · rw [if_pos c] at h ⊢
      rw [List.getElem?_cons_succ] at h
      rw [List.take_succ_cons, List.drop_succ_cons, List.cons_append, wo_cut hr'.2 h e, wo_cons, if_neg (nlt_ne c)]
    · rw [if_neg c] at h ⊢
      simp at h
      subst h
      rw [wo_cons, if_pos e, wo_self (lk_none.2 fun x hx e2 => (nlt_ne (hr'.1 x hx)) (by rw [e, e2]))]
      simp
theorem without_eq {p : Pic} {n : List UInt8} (hr : Rise p) (hl : p.length ≤ 100000) : disk_picture_without p n = some (wo p n) := by
  unfold disk_picture_without
  rw [find_eq hr (by omega), Option.bind_some]
  rcases lb_hit (n := n) hr with ⟨f, e, e2, e3⟩ | ⟨e, e2⟩
  · have h1 := (List.getElem?_eq_some_iff.1 e).1
    rw [e3]
    simp only [Option.isSome_some, Bool.not_true, Bool.false_eq_true, if_false]
    rw [subl_head _ _ (by omega), Option.bind_some, i64_id (by omega) (by omega), show ((lb p n : Nat) : Int) + 1 = ((lb p n + 1 : Nat) : Int) by omega, subl_tail _ _ (by omega), Option.bind_some, cat_eq]
    · rw [Option.bind_some, ← wo_cut hr e e2]
      simp
    · simp; omega
    · simp
  · rw [e2, wo_self e2]; simp
theorem with_eq {p : Pic} {n b : List UInt8} (hr : Rise p) (hl : p.length ≤ 100000) : disk_picture_with p n b = some (wi p n b) := by
  unfold disk_picture_with
  have hw := wo_len p n
  have h1 := lb_le (wo p n) n
  rw [without_eq hr hl, Option.bind_some, find_eq (wo_rise hr) (by omega), Option.bind_some]
  simp only
  rw [subl_head _ _ h1, Option.bind_some, subl_tail _ _ h1, Option.bind_some, cat_eq]
  · rw [Option.bind_some]
    simp [wi]
  · simp; omega
  · simp
theorem sizes_run {XT : Type} {p : Pic} (a0 : XT → (List UInt8 × Int) → Option (Bool × XT)) (st : Nat → XT) (h : ∀ k f, p[k]? = some f → a0 (st k) (f.name, (f.b.length : Int)) = some (true, st (k + 1))) (hl : p.length ≤ 1000000) :
    ∀ (J k : Nat), k ≤ p.length → p.length - k < J → disk_picture_sizes_1_l1 p a0 J (k : Int) (st k) = some (st p.length)
  | 0, k, h1, h2 => by omega
  | J + 1, k, h1, h2 => by
    rw [disk_picture_sizes_1_l1]
    by_cases c : k < p.length
    · rw [if_pos (by omega), geti_nat, List.getElem?_eq_getElem c, Option.bind_some, h k _ (List.getElem?_eq_getElem c), Option.bind_some]
      simp only [Bool.not_true, Bool.false_eq_true, if_false]
      rw [i64_id (by omega) (by omega), show (k : Int) + 1 = ((k + 1 : Nat) : Int) by omega]
      exact sizes_run a0 st h hl J (k + 1) (by omega) (by omega)
    · rw [if_neg (by omega), show k = p.length by omega]
theorem take_snoc {α : Type} {p : List α} {k : Nat} {f : α} (h : p[k]? = some f) : p.take (k + 1) = p.take k ++ [f] := by
  rw [List.take_add_one, h]; rfl
theorem size_eq {p : Pic} (hl : p.length ≤ 1000000) (ht : total p ≤ 1000000000) : disk_picture_size p = some (total p : Int) := by
  unfold disk_picture_size disk_picture_sizes disk_picture_sizes_1
  have hFU := FU_big
  have := sizes_run (p := p) (stopC (fun (x2 : Int) (x3 : ((List UInt8) × Int)) => some (true, i64 (x2 + x3.2)))) (fun k => (false, ((total (p.take k) : Nat) : Int))) (fun k f hk => by
    have h2 : total (p.take (k + 1)) ≤ total p := by
      have := total_app (p.take (k + 1)) (p.drop (k + 1))
      rw [List.take_append_drop] at this; omega
    have e : total (p.take (k + 1)) = total (p.take k) + f.b.length := by
      rw [take_snoc hk, total_app, total_cons]; simp [total]
    unfold stopC
    simp only [Bool.false_eq_true, if_false, Option.map_some, Bool.not_true, Option.some.injEq, Prod.mk.injEq, true_and]
    rw [i64_id (by omega) (by omega), e]; omega) hl FU 0 (by omega) (by omega)
  simp only [List.take_zero, Option.bind_some] at this ⊢
  rw [show ((0 : Nat) : Int) = 0 from rfl, show total [] = 0 from rfl, show ((0 : Nat) : Int) = 0 from rfl] at this
  rw [this, List.take_of_length_le (Nat.le_refl _)]
  rfl
/-- The picture behind a call. -/
def nextP : DiskCall → Pic → Pic
  | .adding x, p => wi p x.file.name (get p x.file.name ++ x.file.b)
  | .putting x, p => wi p x.file.name x.file.b
def cBytes : DiskCall → Nat
  | .adding x => x.file.b.length
  | .putting x => x.file.b.length
theorem next_eq {c : DiskCall} {p : Pic} (hr : Rise p) (hl : p.length ≤ 100000) (ht : total p ≤ 100000) (hc : cBytes c ≤ 100000) : DiskCall_next c p = some (nextP c p) := by
  cases c with
  | adding x =>
    simp only [cBytes] at hc
    have := get_le hr x.file.name
    rw [DiskCall_next, disk_adding_next, bytes_eq hr (by omega), Option.bind_some, bcat_eq _ (by simp; omega) (by simp), Option.bind_some, with_eq hr hl, Option.bind_some]
    simp [nextP]
  | putting x => rw [DiskCall_next, disk_putting_next, with_eq hr hl, Option.bind_some]; rfl
theorem next_rise {c : DiskCall} {p : Pic} (hr : Rise p) : Rise (nextP c p) := by
  cases c with
  | adding x => exact wi_rise hr
  | putting x => exact wi_rise hr
theorem next_len (c : DiskCall) (p : Pic) : (nextP c p).length ≤ p.length + 1 := by
  cases c with
  | adding x => exact wi_len _ _ _
  | putting x => exact wi_len _ _ _
theorem next_total {c : DiskCall} {p : Pic} (hr : Rise p) : total (nextP c p) ≤ total p + cBytes c := by
  cases c with
  | adding x =>
    have := total_wi hr x.file.name (get p x.file.name ++ x.file.b)
    rw [List.length_append] at this
    simp only [nextP, cBytes]; omega
  | putting x =>
    have := total_wi hr x.file.name x.file.b
    simp only [nextP, cBytes]; omega
end Go.Proofs

set_option linter.unusedVariables false
set_option linter.unusedSimpArgs false
namespace Go.Proofs
open Go.Fw
/-! The disk, in plain functions. -/
def lastP (d : DiskDisk) : Pic := (d.pictures[d.calls.length]?).getD []
def nameOk (n : List UInt8) : Bool := decide (n ≠ []) && decide (n.length ≤ 16) && n.all (nameSet.contains ·)
def torn (c : DiskCall) (t : Int) (p : Pic) : Pic :=
  match c with
  | .adding x => if 0 < t then nextP (.adding ⟨⟨x.file.name, x.file.b.take t.toNat⟩⟩) p else p
  | _ => p
def tornC (c : Option DiskCall) (t : Int) (p : Pic) : Pic := match c with | none => p | some c => match c with | .adding x => if 0 < t ∧ x.file.b ≠ [] then torn (.adding x) t p else p | _ => p
def keptAt (d : DiskDisk) (k : Int) : Nat := (min (max k 0) (d.calls.length : Int)).toNat
def crashP (d : DiskDisk) (k t : Int) : Pic := tornC d.calls[keptAt d k]? t ((d.pictures[keptAt d k]?).getD [])
def crashT (d : DiskDisk) (k t : Int) : Int × DiskDisk := if d.down = true then (12, d) else (0, ⟨d.capacity, d.made, true, [crashP d k t], [], ⟨0, 0, 0⟩⟩)
def burnT (d : DiskDisk) : Int × DiskDisk := if d.fuse.n = 0 then (0, d) else if d.fuse.n = 1 then (12, (crashT d d.fuse.keep d.fuse.torn).2) else (0, ⟨d.capacity, d.made, d.down, d.pictures, d.calls, ⟨d.fuse.n - 1, d.fuse.keep, d.fuse.torn⟩⟩)
def grown (d : DiskDisk) (c : DiskCall) : DiskDisk := ⟨d.capacity, d.made, d.down, d.pictures ++ [nextP c (lastP d)], d.calls ++ [c], d.fuse⟩
def doesT (d : DiskDisk) (c : DiskCall) : Int × DiskDisk := if d.capacity < (total (nextP c (lastP d)) : Int) then (3, d) else burnT (grown d c)
def appendT (d : DiskDisk) (n b : List UInt8) : Int × DiskDisk := if d.down = true then (12, d) else if nameOk n = false then (1, d) else doesT d (.adding ⟨⟨n, b⟩⟩)
def putT (d : DiskDisk) (n b : List UInt8) : Int × DiskDisk := if d.down = true then (12, d) else if nameOk n = false then (1, d) else doesT d (.putting ⟨⟨n, b⟩⟩)
def onlyD (d : DiskDisk) (p : Pic) : DiskDisk := ⟨d.capacity, d.made, d.down, [p], [], d.fuse⟩
def syncT (d : DiskDisk) : Int × DiskDisk := if d.down = true then (12, d) else if (burnT d).1 = 0 then (0, onlyD (burnT d).2 (lastP (burnT d).2)) else burnT d
def startT (d : DiskDisk) : Int × DiskDisk := if d.down = true then (0, ⟨d.capacity, d.made, false, d.pictures, d.calls, d.fuse⟩) else (5, d)
def fuseT (d : DiskDisk) (n k t : Int) : Int × DiskDisk := if d.down = true then (12, d) else if n < 0 then (1, d) else (0, ⟨d.capacity, d.made, d.down, d.pictures, d.calls, ⟨n, k, t⟩⟩)
def readT (d : DiskDisk) (n : List UInt8) : List UInt8 × Int := if d.down = true then ([], 12) else if nameOk n = false then ([], 1) else match lk (lastP d) n with | none => ([], 4) | some b => (b, 0)
def cOk : DiskCall → Bool
  | .adding x => nameOk x.file.name
  | .putting x => nameOk x.file.name
/-- What is kept of the disk by all calls. -/
structure Inv (N : Nat) (d : DiskDisk) : Prop where
  made : d.made = true
  c0 : 0 ≤ d.capacity
  c1 : d.capacity ≤ 65536
  len : d.pictures.length = d.calls.length + 1
  cl : d.calls.length ≤ N
  rise : ∀ p ∈ d.pictures, Rise p
  plen : ∀ p ∈ d.pictures, p.length ≤ N
  tot : ∀ p ∈ d.pictures, (total p : Int) ≤ d.capacity
  f0 : 0 ≤ d.fuse.n
  f1 : d.fuse.n ≤ 9223372036854775807
  nam : ∀ c ∈ d.calls, cOk c = true
  nms : ∀ p ∈ d.pictures, ∀ f ∈ p, nameOk f.name = true
  step : ∀ i c p q, d.calls[i]? = some c → d.pictures[i]? = some p → d.pictures[i + 1]? = some q → q = nextP c p
theorem Inv.mono {N M : Nat} {d : DiskDisk} (h : Inv N d) (hM : N ≤ M) : Inv M d :=
  ⟨h.made, h.c0, h.c1, h.len, Nat.le_trans h.cl hM, h.rise, fun p hp => Nat.le_trans (h.plen p hp) hM, h.tot, h.f0, h.f1, h.nam, h.nms, h.step⟩
theorem Inv.at_ {N : Nat} {d : DiskDisk} (h : Inv N d) {k : Nat} (hk : k ≤ d.calls.length) : ∃ p, d.pictures[k]? = some p ∧ p ∈ d.pictures := by
  have : k < d.pictures.length := by rw [h.len]; omega
  exact ⟨d.pictures[k], List.getElem?_eq_getElem this, List.getElem_mem this⟩
theorem Inv.last {N : Nat} {d : DiskDisk} (h : Inv N d) : d.pictures[d.calls.length]? = some (lastP d) ∧ lastP d ∈ d.pictures := by
  obtain ⟨p, e, hp⟩ := h.at_ (Nat.le_refl _)
  unfold lastP
  rw [e]
  exact ⟨rfl, hp⟩
theorem Inv.lrise {N : Nat} {d : DiskDisk} (h : Inv N d) : Rise (lastP d) := h.rise _ h.last.2
theorem none_eq {N : Nat} {d : DiskDisk} (h : Inv N d) : disk_Disk_none d = some false := by unfold disk_Disk_none; rw [h.made]; rfl
theorem down_eq {N : Nat} {d : DiskDisk} (h : Inv N d) : disk_Disk_Down d = some d.down := by
  unfold disk_Disk_Down
  rw [none_eq h, Option.bind_some]
  simp
def seenT (d : DiskDisk) : Pic := if d.down = true then [] else lastP d
theorem seen_eq {N : Nat} {d : DiskDisk} (h : Inv N d) (hN : N ≤ 10000) : disk_Disk_seen d = some (seenT d) := by
  unfold disk_Disk_seen seenT
  rw [down_eq h, Option.bind_some]
  by_cases c : d.down = true
  · rw [if_pos c, if_pos c]
  · have := h.cl
    have hl := h.len
    rw [if_neg c, if_neg c, i64_id (by omega) (by omega), show (d.pictures.length : Int) - 1 = ((d.calls.length : Nat) : Int) by omega, geti_nat, h.last.1]
    rfl
theorem dw_nil : ∀ l : List UInt8, l.dropWhile (nameSet.contains ·) = [] ↔ ∀ x ∈ l, nameSet.contains x = true := fun l => by
  induction l with
  | nil => simp
  | cons y r ih =>
    rw [List.dropWhile_cons]
    by_cases c : nameSet.contains y = true
    · rw [if_pos c, ih]; simp only [List.mem_cons, forall_eq_or_imp]; exact ⟨fun h => ⟨c, h⟩, fun h => h.2⟩
    · rw [if_neg c]; simp only [List.mem_cons, forall_eq_or_imp]; exact ⟨fun h => (by cases h), fun h => absurd h.1 c⟩
theorem all_trim (n : List UInt8) : decide (Lib.trimS n nameSet = []) = n.all (nameSet.contains ·) := by
  have e : Lib.trimS n nameSet = [] ↔ ∀ x ∈ n, nameSet.contains x = true := by
    unfold Lib.trimS Lib.trimLeftS Lib.trimRightS
    constructor
    · intro h x hx
      have h2 := (dw_nil _).1 h
      by_cases c : (n.reverse.dropWhile (nameSet.contains ·)) = []
      · exact (dw_nil _).1 c x (List.mem_reverse.2 hx)
      · have h3 := List.head_dropWhile_not (nameSet.contains ·) c
        have h4 := h2 _ (List.mem_reverse.2 (List.head_mem c))
        rw [h4] at h3; cases h3
    · intro h
      have h1 : n.reverse.dropWhile (nameSet.contains ·) = [] := (dw_nil _).2 fun x hx => h x (List.mem_reverse.1 hx)
      rw [h1]; rfl
  rw [Bool.eq_iff_iff, decide_eq_true_iff, e, List.all_eq_true]
theorem name_eq (n : List UInt8) : disk_name n = some (nameOk n) := by
  unfold disk_name nameOk
  by_cases c : n ≠ ([] : List UInt8) ∧ (n.length : Int) ≤ 16
  · rw [if_pos c, if_pos (by omega), Option.bind_some, all_trim]
    have : n.length ≤ 16 := by omega
    simp [c.1, this]
  · rw [if_neg c, Option.bind_some]
    congr 1
    by_cases c1 : n = []
    · simp [c1]
    · have : ¬ n.length ≤ 16 := fun h => c ⟨c1, by omega⟩
      simp [this]
theorem first_run (l : List (List UInt8)) (kj : Unit → Option Int) (hl : l.length ≤ 1000) : ∀ (J k : Nat), k ≤ l.length → l.length - k < J → disk_Disk_first_l1 l kj J (k : Int) = if (l.drop k).all nameOk = true then kj () else some 1
  | 0, k, h1, h2 => by omega
  | J + 1, k, h1, h2 => by
    rw [disk_Disk_first_l1]
    by_cases c : k < l.length
    · rw [if_pos (by omega), geti_nat, List.getElem?_eq_getElem c, Option.bind_some, name_eq, Option.bind_some, List.drop_eq_getElem_cons c, List.all_cons]
      by_cases c2 : nameOk l[k] = true
      · rw [c2]
        simp only [Bool.not_true, Bool.false_eq_true, if_false, Bool.true_and]
        rw [i64_id (by omega) (by omega), show (k : Int) + 1 = ((k + 1 : Nat) : Int) by omega]
        exact first_run l kj hl J (k + 1) (by omega) (by omega)
      · have : nameOk l[k] = false := by simpa using c2
        rw [this]; simp
    · rw [if_neg (by omega), List.drop_eq_nil_of_le (by omega)]; simp
theorem first_eq {N : Nat} {d : DiskDisk} (h : Inv N d) (l : List (List UInt8)) (hl : l.length ≤ 1000) : disk_Disk_first d l = some (if d.down = true then 12 else if l.all nameOk = true then 0 else 1) := by
  unfold disk_Disk_first
  have hFU := FU_big
  rw [down_eq h, Option.bind_some, jn_eq', show (0 : Int) = ((0 : Nat) : Int) from rfl, first_run l _ hl FU 0 (by omega) (by omega), List.drop_zero]
  by_cases c : d.down = true
  · rw [if_pos c, if_pos c]
  · rw [if_neg c, if_neg c]; split <;> rfl
theorem lim_app {α : Type} {cap : Nat} (a b : List α) (h : a.length + b.length ≤ cap) : app cap a b = some (a ++ b) := by unfold app; rw [if_pos h]
theorem clone_eq (b : List UInt8) (h : b.length ≤ 1000000) : slices_Clone_byte_byte b = some b := by
  unfold slices_Clone_byte_byte
  rw [lim_app _ _ (by simp only [List.length_nil]; omega)]; rfl
theorem there1_eq {N : Nat} {d : DiskDisk} (h : Inv N d) (hN : N ≤ 10000) (a : List UInt8) : disk_Disk_there_nl d a = some (if d.down = true then 12 else if nameOk a = false then 1 else if lk (lastP d) a = none then 4 else 0) := by
  unfold disk_Disk_there_nl
  rw [app_ok _ _ (by simp) (by decide), Option.bind_some, first_eq h _ (by simp), Option.bind_some]
  by_cases c : d.down = true
  · simp [c]
  · by_cases c1 : nameOk a = true
    · have hs := seen_eq h hN
      rw [show seenT d = lastP d by unfold seenT; rw [if_neg c]] at hs
      have hp := h.plen _ h.last.2
      rw [hs]
      simp only [c, c1, Bool.false_eq_true, if_false, List.nil_append, List.all_cons, List.all_nil, Bool.and_true, Bool.true_and, if_true, Bool.true_eq_false]
      rw [if_neg (by decide), Option.bind_some, find_eq h.lrise (by omega), Option.bind_some]
      cases lk (lastP d) a <;> simp
    · have c4 : nameOk a = false := by simpa using c1
      rw [if_neg c, if_neg c, if_pos c4]
      simp [c4]
theorem kept_le (d : DiskDisk) (k : Int) : keptAt d k ≤ d.calls.length := by unfold keptAt; omega
theorem kept_int (d : DiskDisk) (k : Int) : min (max k 0) (d.calls.length : Int) = ((keptAt d k : Nat) : Int) := by unfold keptAt; omega
theorem Inv.cbytes {N : Nat} {d : DiskDisk} (h : Inv N d) {x : DiskAdding} {k : Nat} (hx : d.calls[k]? = some (.adding x)) : x.file.b.length ≤ 65536 := by
  have hk := (List.getElem?_eq_some_iff.1 hx).1
  obtain ⟨p, e, hp⟩ := h.at_ (k := k) (by omega)
  obtain ⟨q, e2, hq⟩ := h.at_ (k := k + 1) (by omega)
  have e3 := h.step k _ p q hx e e2
  have h1 := h.tot q hq
  have h2 := h.c1
  have h3 := total_wi (h.rise p hp) x.file.name (get p x.file.name ++ x.file.b)
  rw [List.length_append] at h3
  simp only [nextP] at e3
  rw [e3] at h1
  have h4 := get_le (h.rise p hp) x.file.name
  omega
theorem torn_eq (x : DiskAdding) (t : Int) (ht : 0 < t) : disk_adding_torn x t = some (.adding ⟨⟨x.file.name, x.file.b.take t.toNat⟩⟩) := by
  unfold disk_adding_torn
  rw [show min t (x.file.b.length : Int) = ((min t.toNat x.file.b.length : Nat) : Int) by omega, subl_head _ _ (by omega), Option.bind_some]
  congr 4
  rw [List.take_eq_take_iff]; omega
theorem crash_eq {N : Nat} {d : DiskDisk} (h : Inv N d) (hN : N ≤ 10000) (k t : Int) : disk_Disk_Crash d k t = some (crashT d k t) := by
  unfold disk_Disk_Crash crashT
  rw [down_eq h, Option.bind_some]
  by_cases c : d.down = true
  · rw [if_pos c, if_pos c]
  · rw [if_neg c, if_neg c, kept_int, geti_nat]
    obtain ⟨p, e, hp⟩ := h.at_ (kept_le d k)
    rw [e, Option.bind_some, jn_eq']
    unfold crashP
    rw [e, Option.getD_some]
    have hpl := h.plen p hp
    have hpt := h.tot p hp
    have hc := h.c1
    by_cases c2 : keptAt d k < d.calls.length
    · have e2 := List.getElem?_eq_getElem c2
      rw [if_pos (by omega), geti_nat, e2, Option.bind_some]
      cases e3 : d.calls[keptAt d k] with
      | adding x =>
        rw [e3] at e2
        have hb := h.cbytes e2
        simp only [DiskCall.as_adding, oc, tornC]
        by_cases c3 : 0 < t ∧ 0 < (x.file.b.length : Int)
        · have c4 : 0 < t ∧ x.file.b ≠ [] := ⟨c3.1, fun e => by have := c3.2; rw [e] at this; simp at this⟩
          rw [if_pos c3, if_pos c4, torn_eq x t c3.1, Option.bind_some, next_eq (h.rise p hp) (by omega) (by omega) (by simp only [cBytes]; rw [List.length_take]; omega), Option.bind_some]
          simp [torn, c3.1, disk_Disk_only]
        · have c4 : ¬ (0 < t ∧ x.file.b ≠ []) := fun h => c3 ⟨h.1, by have := List.length_pos_iff.2 h.2; omega⟩
          rw [if_neg c3, if_neg c4]
          simp [disk_Disk_only]
      | putting x => simp [DiskCall.as_adding, oc, disk_Disk_only, tornC]
    · have e2 : d.calls[keptAt d k]? = none := List.getElem?_eq_none (by omega)
      rw [if_neg (by omega), e2]
      simp [disk_Disk_only, tornC]
theorem burn_eq {N : Nat} {d : DiskDisk} (h : Inv N d) (hN : N ≤ 10000) : disk_Disk_burn d = some (burnT d) := by
  unfold disk_Disk_burn burnT
  have h0 := h.f0
  have h1 := h.f1
  by_cases c : d.fuse.n = 0
  · rw [if_pos c, if_pos c]
  · rw [if_neg c, if_neg c]
    by_cases c2 : d.fuse.n = 1
    · rw [if_pos c2, if_pos c2, crash_eq h hN, Option.bind_some]
    · rw [if_neg c2, if_neg c2, i64_id (by omega) (by omega)]
end Go.Proofs

set_option linter.unusedVariables false
set_option linter.unusedSimpArgs false
namespace Go.Proofs
open Go.Fw
theorem lastP_grown {N : Nat} {d : DiskDisk} (h : Inv N d) (c : DiskCall) : lastP (grown d c) = nextP c (lastP d) := by
  have hl := h.len
  show ((d.pictures ++ [nextP c (lastP d)])[(d.calls ++ [c]).length]?).getD [] = _
  rw [List.length_append, show d.calls.length + [c].length = d.pictures.length by simp; omega, List.getElem?_concat_length]
  rfl
theorem mem_wi {p : Pic} {n b : List UInt8} {f : DiskFile} (h : f ∈ wi p n b) : f = ⟨n, b⟩ ∨ f ∈ p := by
  unfold wi at h
  rcases List.mem_append.1 h with h | h
  · exact .inr (mem_wo.1 (List.mem_of_mem_take h)).1
  · rcases List.mem_cons.1 h with h | h
    · exact .inl h
    · exact .inr (mem_wo.1 (List.mem_of_mem_drop h)).1
theorem next_names {c : DiskCall} {p : Pic} (hp : ∀ f ∈ p, nameOk f.name = true) (hc : cOk c = true) : ∀ f ∈ nextP c p, nameOk f.name = true := by
  intro f hf
  cases c with
  | adding x => exact (mem_wi hf).elim (fun e => by subst e; exact hc) (hp f)
  | putting x => exact (mem_wi hf).elim (fun e => by subst e; exact hc) (hp f)
theorem Inv.grown {N : Nat} {d : DiskDisk} (h : Inv N d) {c : DiskCall} (hc : (total (nextP c (lastP d)) : Int) ≤ d.capacity) (hn : cOk c = true) : Inv (N + 1) (grown d c) := by
  have hl := h.last
  have hlen := h.len
  refine ⟨h.made, h.c0, h.c1, ?_, ?_, ?_, ?_, ?_, h.f0, h.f1, ?_, ?_, ?_⟩
  · show (d.pictures ++ [_]).length = (d.calls ++ [c]).length + 1
    simp; omega
  · show (d.calls ++ [c]).length ≤ N + 1
    have := h.cl; simp; omega
  · intro p hp
    rcases List.mem_append.1 (show p ∈ d.pictures ++ [_] from hp) with hp | hp
    · exact h.rise p hp
    · rw [List.mem_singleton.1 hp]; exact next_rise h.lrise
  · intro p hp
    rcases List.mem_append.1 (show p ∈ d.pictures ++ [_] from hp) with hp | hp
    · have := h.plen p hp; omega
    · rw [List.mem_singleton.1 hp]
      have := next_len c (lastP d)
      have := h.plen _ hl.2; omega
  · intro p hp
    rcases List.mem_append.1 (show p ∈ d.pictures ++ [_] from hp) with hp | hp
    · exact h.tot p hp
    · rw [List.mem_singleton.1 hp]; exact hc
  · intro y hy
    rcases List.mem_append.1 (show y ∈ d.calls ++ [c] from hy) with hp | hp
    · exact h.nam y hp
    · rw [List.mem_singleton.1 hp]; exact hn
  · intro p hp
    rcases List.mem_append.1 (show p ∈ d.pictures ++ [_] from hp) with hp | hp
    · exact h.nms p hp
    · rw [List.mem_singleton.1 hp]; exact next_names (h.nms _ hl.2) hn
  · intro i y p q e1 e2 e3
    have e1' : (d.calls ++ [c])[i]? = some y := e1
    have e2' : (d.pictures ++ [nextP c (lastP d)])[i]? = some p := e2
    have e3' : (d.pictures ++ [nextP c (lastP d)])[i + 1]? = some q := e3
    by_cases k : i < d.calls.length
    · rw [List.getElem?_append_left k] at e1'
      rw [List.getElem?_append_left (by omega)] at e2' e3'
      exact h.step i y p q e1' e2' e3'
    · have k2 : i = d.calls.length := by
        have := (List.getElem?_eq_some_iff.1 e1').1
        simp at this; omega
      subst k2
      rw [List.getElem?_concat_length] at e1'
      rw [List.getElem?_append_left (by omega), hl.1] at e2'
      rw [show d.calls.length + 1 = d.pictures.length by omega, List.getElem?_concat_length] at e3'
      cases e1'; cases e2'; cases e3'; rfl
theorem torn_total {N : Nat} {d : DiskDisk} (h : Inv N d) (k t : Int) : Rise (crashP d k t) ∧ (total (crashP d k t) : Int) ≤ d.capacity ∧ (crashP d k t).length ≤ N + 1 ∧ ∀ f ∈ crashP d k t, nameOk f.name = true := by
  unfold crashP
  obtain ⟨p, e, hp⟩ := h.at_ (kept_le d k)
  rw [e, Option.getD_some]
  have h1 := h.rise p hp
  have h2 := h.tot p hp
  have h3 := h.plen p hp
  have hz := h.nms p hp
  cases e2 : d.calls[keptAt d k]? with
  | none => exact ⟨h1, h2, by simp only [tornC]; omega, hz⟩
  | some c =>
    cases c with
    | adding x =>
      simp only [tornC, torn]
      split
      · rename_i c
        rw [if_pos c.1]
        have hk := (List.getElem?_eq_some_iff.1 e2).1
        obtain ⟨q, e3, hq⟩ := h.at_ (k := keptAt d k + 1) (by omega)
        have e4 := h.step _ _ p q e2 e e3
        have h4 := h.tot q hq
        have h5 := total_wi h1 x.file.name (get p x.file.name ++ x.file.b)
        simp only [nextP] at e4 ⊢
        have h6 := total_wi h1 x.file.name (get p x.file.name ++ x.file.b.take t.toNat)
        rw [← e4] at h5
        rw [List.length_append] at h5 h6
        have h7 : (x.file.b.take t.toNat).length ≤ x.file.b.length := by rw [List.length_take]; omega
        exact ⟨wi_rise h1, by omega, Nat.le_trans (wi_len _ _ _) (by omega), fun f hf => by
          rcases mem_wi hf with rfl | hf
          · exact h.nam _ (List.mem_of_getElem? e2)
          · exact hz f hf⟩
      · exact ⟨h1, h2, by omega, hz⟩
    | putting x => exact ⟨h1, h2, by simp only [tornC]; omega, hz⟩
/-- A disk with one picture. -/
theorem Inv.one {N : Nat} {d : DiskDisk} (h : Inv N d) {p : Pic} (dn : Bool) (f : DiskFuse) (hr : Rise p) (ht : (total p : Int) ≤ d.capacity) (hl : p.length ≤ N + 1) (hz : ∀ f ∈ p, nameOk f.name = true) (hf : 0 ≤ f.n ∧ f.n ≤ 9223372036854775807) : Inv (N + 1) ⟨d.capacity, d.made, dn, [p], [], f⟩ := by
  refine ⟨h.made, h.c0, h.c1, rfl, by simp, ?_, ?_, ?_, hf.1, hf.2, ?_, ?_, ?_⟩
  · intro q hq; rw [List.mem_singleton.1 hq]; exact hr
  · intro q hq; rw [List.mem_singleton.1 hq]; exact hl
  · intro q hq; rw [List.mem_singleton.1 hq]; exact ht
  · intro c hc; cases hc
  · intro q hq; rw [List.mem_singleton.1 hq]; exact hz
  · intro i c p q e; simp at e
theorem Inv.crash {N : Nat} {d : DiskDisk} (h : Inv N d) (k t : Int) : Inv (N + 1) (crashT d k t).2 := by
  unfold crashT
  by_cases c : d.down = true
  · rw [if_pos c]; exact h.mono (by omega)
  · rw [if_neg c]
    obtain ⟨h1, h2, h3, h4⟩ := torn_total h k t
    exact h.one true ⟨0, 0, 0⟩ h1 h2 h3 h4 ⟨by decide, by decide⟩
theorem Inv.fuse {N : Nat} {d : DiskDisk} (h : Inv N d) {f : DiskFuse} (hf : 0 ≤ f.n ∧ f.n ≤ 9223372036854775807) (dn : Bool) : Inv N ⟨d.capacity, d.made, dn, d.pictures, d.calls, f⟩ :=
  ⟨h.made, h.c0, h.c1, h.len, h.cl, h.rise, h.plen, h.tot, hf.1, hf.2, h.nam, h.nms, h.step⟩
theorem Inv.burn {N : Nat} {d : DiskDisk} (h : Inv N d) : Inv (N + 1) (burnT d).2 := by
  unfold burnT
  have := h.f0
  have := h.f1
  split
  · exact h.mono (by omega)
  · split
    · exact h.crash _ _
    · exact (h.fuse (f := ⟨d.fuse.n - 1, d.fuse.keep, d.fuse.torn⟩) ⟨by simp only; omega, by simp only; omega⟩ d.down).mono (by omega)
theorem Inv.does {N : Nat} {d : DiskDisk} (h : Inv N d) {c : DiskCall} (hn : cOk c = true) : Inv (N + 2) (doesT d c).2 := by
  unfold doesT
  split
  · exact h.mono (by omega)
  · exact (h.grown (by omega) hn).burn
theorem does_eq {N : Nat} {d : DiskDisk} (h : Inv N d) (hN : N ≤ 9000) (hd : d.down = false) {c : DiskCall} (hc : cBytes c ≤ 100000) (hn : cOk c = true) : disk_Disk_does d c = some (doesT d c) := by
  unfold disk_Disk_does doesT
  have hl := h.last
  have h1 := h.plen _ hl.2
  have h2 := h.tot _ hl.2
  have h3 := h.c1
  have h4 := next_total (c := c) h.lrise
  have h5 := next_len c (lastP d)
  have h6 := h.len
  have h7 := h.cl
  rw [seen_eq h (by omega), show seenT d = lastP d by unfold seenT; rw [if_neg (by rw [hd]; decide)], Option.bind_some, next_eq h.lrise (by omega) (by omega) hc, Option.bind_some, size_eq (by omega) (by omega), Option.bind_some]
  by_cases k : d.capacity < (total (nextP c (lastP d)) : Int)
  · rw [if_pos k, if_pos k]
  · rw [if_neg k, if_neg k, app_ok _ _ (by simp; omega) (by decide), Option.bind_some, app_ok _ _ (by simp; omega) (by decide), Option.bind_some]
    have := burn_eq (h.grown (by omega) hn) (by omega)
    unfold Go.Proofs.grown at this
    rw [this]; rfl
theorem append_eq {N : Nat} {d : DiskDisk} (h : Inv N d) (hN : N ≤ 9000) (n b : List UInt8) (hb : b.length ≤ 100000) : disk_Disk_Append d n b = some (appendT d n b) := by
  unfold disk_Disk_Append appendT
  rw [first_eq h _ (by simp), Option.bind_some]
  by_cases c : d.down = true
  · simp [c]
  · have c' : d.down = false := by simpa using c
    by_cases c1 : nameOk n = true
    · rw [show [n].all nameOk = nameOk n by simp, if_neg c, if_neg c, c1, if_pos rfl, if_neg (by decide), if_neg (by decide), clone_eq b (by omega), Option.bind_some, does_eq (c := .adding ⟨⟨n, b⟩⟩) h hN c' hb c1, Option.bind_some]
    · have c4 : nameOk n = false := by simpa using c1
      rw [show [n].all nameOk = nameOk n by simp, if_neg c, if_neg c, c4, if_neg (show ¬ (false = true) by decide), if_pos rfl, if_pos (show (1 : Int) ≠ 0 by decide)]
theorem put_eq {N : Nat} {d : DiskDisk} (h : Inv N d) (hN : N ≤ 9000) (n b : List UInt8) (hb : b.length ≤ 100000) : disk_Disk_Put d n b = some (putT d n b) := by
  unfold disk_Disk_Put putT
  rw [first_eq h _ (by simp), Option.bind_some]
  by_cases c : d.down = true
  · simp [c]
  · have c' : d.down = false := by simpa using c
    by_cases c1 : nameOk n = true
    · rw [show [n].all nameOk = nameOk n by simp, if_neg c, if_neg c, c1, if_pos rfl, if_neg (by decide), if_neg (by decide), clone_eq b (by omega), Option.bind_some, does_eq (c := .putting ⟨⟨n, b⟩⟩) h hN c' hb c1, Option.bind_some]
    · have c4 : nameOk n = false := by simpa using c1
      rw [show [n].all nameOk = nameOk n by simp, if_neg c, if_neg c, c4, if_neg (show ¬ (false = true) by decide), if_pos rfl, if_pos (show (1 : Int) ≠ 0 by decide)]
theorem seen_burn {N : Nat} {d : DiskDisk} (h : Inv N d) (hN : N ≤ 9000) (hd : d.down = false) (hb : (burnT d).1 = 0) : (burnT d).2.down = false ∧ lastP (burnT d).2 = lastP d := by
  unfold burnT at hb ⊢
  split
  · exact ⟨hd, rfl⟩
  · split
    · rename_i c1 c2
      rw [if_neg c1, if_pos c2] at hb; exact absurd (show (12 : Int) = 0 from hb) (by decide)
    · exact ⟨hd, rfl⟩
theorem sync_eq {N : Nat} {d : DiskDisk} (h : Inv N d) (hN : N ≤ 9000) : disk_Disk_Sync d = some (syncT d) := by
  unfold disk_Disk_Sync syncT
  rw [down_eq h, Option.bind_some]
  by_cases c : d.down = true
  · simp [c]
  · have c' : d.down = false := by simpa using c
    rw [if_neg c, if_neg c, burn_eq h (by omega), Option.bind_some]
    by_cases c1 : (burnT d).1 = 0
    · obtain ⟨h1, h2⟩ := seen_burn h hN c' c1
      rw [if_pos c1, if_pos c1, seen_eq h.burn (by omega), show seenT (burnT d).2 = lastP (burnT d).2 by unfold seenT; rw [if_neg (by rw [h1]; decide)], Option.bind_some, disk_Disk_only, Option.bind_some, c1]
      rfl
    · rw [if_neg c1, if_neg c1]
theorem start_eq {N : Nat} {d : DiskDisk} (h : Inv N d) : disk_Disk_Start d = some (startT d) := by
  unfold disk_Disk_Start startT
  rw [none_eq h, Option.bind_some]
  cases hd : d.down <;> simp
theorem fuse_eq {N : Nat} {d : DiskDisk} (h : Inv N d) (n k t : Int) : disk_Disk_Fuse d n k t = some (fuseT d n k t) := by
  unfold disk_Disk_Fuse fuseT
  rw [down_eq h, Option.bind_some]
  by_cases c : d.down = true
  · rw [if_pos c, if_pos c]
  · rw [if_neg c, if_neg c]; split <;> rfl
theorem get_len {N : Nat} {d : DiskDisk} (h : Inv N d) (n : List UInt8) : (get (lastP d) n).length ≤ 65536 := by
  have := get_le h.lrise n
  have := h.tot _ h.last.2
  have := h.c1; omega
theorem read_eq {N : Nat} {d : DiskDisk} (h : Inv N d) (hN : N ≤ 9000) (n : List UInt8) : disk_Disk_Read d n = some (readT d n) := by
  unfold disk_Disk_Read readT
  rw [there1_eq h (by omega), Option.bind_some]
  by_cases c : d.down = true
  · simp [c]
  · by_cases c1 : nameOk n = false
    · rw [if_neg c, if_neg c, if_pos c1, if_pos c1, if_pos (by decide)]
    · rw [if_neg c, if_neg c, if_neg c1, if_neg c1]
      have hp := h.plen _ h.last.2
      have hg := get_len h n
      cases c2 : lk (lastP d) n with
      | none => simp
      | some b =>
        have e : get (lastP d) n = b := by unfold get; rw [c2]; rfl
        simp only [reduceCtorEq, if_false]
        rw [if_neg (by decide), seen_eq h (by omega), show seenT d = lastP d by unfold seenT; rw [if_neg c], Option.bind_some, bytes_eq h.lrise (by omega), Option.bind_some, clone_eq _ (by omega), Option.bind_some, e]
theorem Inv.append {N : Nat} {d : DiskDisk} (h : Inv N d) (n b : List UInt8) : Inv (N + 2) (appendT d n b).2 := by
  unfold appendT
  split
  · exact h.mono (by omega)
  split
  · exact h.mono (by omega)
  · rename_i c; exact h.does (by simpa [cOk] using c)
theorem Inv.put {N : Nat} {d : DiskDisk} (h : Inv N d) (n b : List UInt8) : Inv (N + 2) (putT d n b).2 := by
  unfold putT
  split
  · exact h.mono (by omega)
  split
  · exact h.mono (by omega)
  · rename_i c; exact h.does (by simpa [cOk] using c)
theorem Inv.sync {N : Nat} {d : DiskDisk} (h : Inv N d) : Inv (N + 2) (syncT d).2 := by
  unfold syncT
  split
  · exact h.mono (by omega)
  split
  · have h2 := h.burn
    exact h2.one _ _ h2.lrise (h2.tot _ h2.last.2) (by have := h2.plen _ h2.last.2; omega) (h2.nms _ h2.last.2) ⟨h2.f0, h2.f1⟩
  · exact h.burn.mono (by omega)
theorem Inv.start {N : Nat} {d : DiskDisk} (h : Inv N d) : Inv N (startT d).2 := by
  unfold startT
  split
  · exact h.fuse ⟨h.f0, h.f1⟩ false
  · exact h
theorem Inv.fuseT {N : Nat} {d : DiskDisk} (h : Inv N d) (n k t : Int) (hn : n ≤ 9223372036854775807) : Inv N (fuseT d n k t).2 := by
  unfold Go.Proofs.fuseT
  split
  · exact h
  split
  · exact h
  · exact h.fuse (f := ⟨n, k, t⟩) ⟨by simp only; omega, hn⟩ d.down
end Go.Proofs

set_option linter.unusedVariables false
set_option linter.unusedSimpArgs false
namespace Go.Proofs
open Go.Fw
/-! Frames: what is made of a payload. -/
def TB : List UInt32 := (frame_turns).getD []
set_option maxRecDepth 100000 in
theorem turns_ok : frame_turns = some TB ∧ TB.length = 256 := by
  have h : (match frame_turns with | some l => decide (l.length = 256) | none => false) = true := by decide +kernel
  unfold TB
  cases e : frame_turns with
  | none => rw [e] at h; cases h
  | some l => rw [e] at h; exact ⟨rfl, of_decide_eq_true h⟩
theorem nxt {k n : Nat} (h : k < n) (hn : n ≤ 9223372036854775807) : i64 ((k : Int) + 1) = ((k + 1 : Nat) : Int) := by
  rw [i64_id (by omega) (by omega)]; rfl
def ckStep (c : UInt32) (b : UInt8) : UInt32 := (TB.getD ((ofI8 (c.toNat : Int)) ^^^ b).toNat 0) ^^^ (shr32 c 8)
theorem tb_at (b : UInt8) : geti TB (b.toNat : Int) = some (TB.getD b.toNat 0) := by
  have h := turns_ok.2
  have hb := b.toNat_lt
  have hlt : b.toNat < TB.length := by omega
  rw [geti_nat, List.getElem?_eq_getElem hlt, List.getD_eq_getElem?_getD, List.getElem?_eq_getElem hlt]
  rfl
theorem ck2_run {x : List UInt8} (hx : x.length ≤ 1000000) (kj : UInt32 → Option UInt32) : ∀ (J k : Nat) (c : UInt32), k ≤ x.length → x.length - k < J → frame_Check_l2 x TB kj J c (k : Int) = kj ((x.drop k).foldl ckStep c)
  | 0, k, _, _, h => by omega
  | J + 1, k, c, h1, h2 => by
    rw [frame_Check_l2]
    by_cases hc : k < x.length
    · rw [if_pos (by omega), geti_nat, List.getElem?_eq_getElem hc, Option.bind_some, tb_at, Option.bind_some, nxt (n := 1000000) (by omega) (by decide), ck2_run hx kj J (k + 1) _ (by omega) (by omega), List.drop_eq_getElem_cons hc]
      rfl
    · rw [if_neg (by omega), List.drop_eq_nil_of_le (by omega)]
      rfl
theorem ck1_run {l : List (List UInt8)} (hl : l.length ≤ 1000) (hx : ∀ x ∈ l, x.length ≤ 1000000) (kj : UInt32 → Option UInt32) : ∀ (J k : Nat) (c : UInt32), k ≤ l.length → l.length - k < J → frame_Check_l1 l TB kj J c (k : Int) = kj ((l.drop k).flatten.foldl ckStep c)
  | 0, k, _, _, h => by omega
  | J + 1, k, c, h1, h2 => by
    have hF := FU_big
    rw [frame_Check_l1, jn_eq']
    by_cases hc : k < l.length
    · have hm := hx _ (List.getElem_mem hc)
      rw [if_pos (by omega), jn_eq', geti_nat, List.getElem?_eq_getElem hc, Option.bind_some, show (0 : Int) = ((0 : Nat) : Int) from rfl, ck2_run hm _ FU 0 c (by omega) (by omega)]
      dsimp only
      rw [nxt (n := 1000) (by omega) (by decide), ck1_run hl hx kj J (k + 1) _ (by omega) (by omega), List.drop_eq_getElem_cons hc, List.flatten_cons, List.foldl_append, List.drop_zero]
    · rw [if_neg (by omega), List.drop_eq_nil_of_le (by omega)]
      rfl
def ck (x : List UInt8) : UInt32 := 4294967295 ^^^ x.foldl ckStep 4294967295
theorem check_eq (l : List (List UInt8)) (hl : l.length ≤ 1000) (hx : ∀ x ∈ l, x.length ≤ 1000000) : frame_Check l = some (ck l.flatten) := by
  have hF := FU_big
  unfold frame_Check
  rw [turns_ok.1, Option.bind_some, jn_eq', show (0 : Int) = ((0 : Nat) : Int) from rfl, ck1_run hl hx _ FU 0 _ (by omega) (by omega), List.drop_zero]
  rfl
def wd (x : UInt32) : List UInt8 := [ofI8 ((shr32 x 24).toNat : Int), ofI8 ((shr32 x 16).toNat : Int), ofI8 ((shr32 x 8).toNat : Int), ofI8 (x.toNat : Int)]
theorem word_eq (x : UInt32) : frame_word x = some (wd x) := rfl
theorem wd_len (x : UInt32) : (wd x).length = 4 := rfl
theorem rev4 (a b c d : UInt8) : slices_Reverse_byte_byte [a, b, c, d] = some [d, c, b, a] := by
  unfold slices_Reverse_byte_byte
  obtain ⟨J, hJ⟩ : ∃ J, FU = J + 3 := ⟨FU - 3, by have := FU_big; omega⟩
  rw [hJ]
  show _ = _
  kernel_rfl
def rwd (x : UInt32) : List UInt8 := [ofI8 (x.toNat : Int), ofI8 ((shr32 x 8).toNat : Int), ofI8 ((shr32 x 16).toNat : Int), ofI8 ((shr32 x 24).toNat : Int)]
def sm (s : UInt32) (len p : List UInt8) : UInt32 := ck ([rwd s, len, p].flatten)
theorem sum_eq (t : ApiTail) (len p : List UInt8) (h1 : len.length ≤ 1000000) (h2 : p.length ≤ 1000000) : frame_sum t len p = some (sm t.Sum len p) := by
  unfold frame_sum
  rw [word_eq, Option.bind_some, if_pos (by unfold wd; simp)]
  rw [show slices_Reverse_byte_byte (wd t.Sum) = some (rwd t.Sum) from rev4 _ _ _ _, Option.bind_some, check_eq _ (by simp) (by
    intro x hx
    simp only [List.mem_cons, List.not_mem_nil, or_false] at hx
    rcases hx with rfl | rfl | rfl
    · show 4 ≤ _; omega
    · exact h1
    · exact h2), Option.bind_some]
  rfl
/-- The length of a payload, as a word; a record; the sum behind it. -/
def lw (p : List UInt8) : List UInt8 := wd (ofI32 (p.length : Int))
def nx (s : UInt32) (p : List UInt8) : UInt32 := sm s (lw p) p
def recd (s : UInt32) (p : List UInt8) : List UInt8 := lw p ++ (wd (nx s p) ++ p)
theorem recd_len (s : UInt32) (p : List UInt8) : (recd s p).length = 8 + p.length := by
  unfold recd lw
  rw [List.length_append, List.length_append, wd_len, wd_len]; omega
theorem put_frame (t : ApiTail) (p : List UInt8) : frame_Put t p = some (if 16384 < p.length then ([], ⟨0, 0, 0⟩, 6) else (recd t.Sum p, ⟨i64 (t.Count + 1), i64 (t.Size + i64 (8 + (p.length : Int))), nx t.Sum p⟩, 0)) := by
  unfold frame_Put
  by_cases c : 16384 < p.length
  · rw [if_pos (by omega), if_pos c]
  · rw [if_neg (by omega), if_neg c, word_eq, Option.bind_some, show wd (ofI32 (p.length : Int)) = lw p from rfl, sum_eq _ _ _ (by show (wd _).length ≤ _; rw [wd_len]; omega) (by omega), Option.bind_some, word_eq, Option.bind_some, bcat_eq _ (by simp [lw, wd_len]; omega) (by simp), Option.bind_some]
    unfold frame_behind frame_Size
    simp only [Option.bind_some, List.flatten_cons, List.flatten_nil, List.append_nil]
    rfl
/-! The log's calls. -/
abbrev LG : List UInt8 := [108, 111, 103]
theorem lg_ok : nameOk LG = true := by decide +kernel
def lappT (x : LogfileLog) (b : List UInt8) (d : DiskDisk) : Int × LogfileLog × DiskDisk :=
  if d.down = true then (12, x, d) else if 16384 < b.length then (6, x, d) else
  if (appendT d x.name (recd x.tail.Sum b)).1 ≠ 0 then ((appendT d x.name (recd x.tail.Sum b)).1, x, (appendT d x.name (recd x.tail.Sum b)).2)
  else (0, ⟨x.on, x.name, x.all_ ++ [b], ⟨i64 (x.tail.Count + 1), i64 (x.tail.Size + i64 (8 + (b.length : Int))), nx x.tail.Sum b⟩⟩, (appendT d x.name (recd x.tail.Sum b)).2)
theorem lapp_eq {N : Nat} {d : DiskDisk} (h : Inv N d) (hN : N ≤ 9000) (x : LogfileLog) (b : List UInt8) (hx : x.all_.length ≤ 100000) : logfile_Log_Append_r2 x b d = some (lappT x b d) := by
  unfold logfile_Log_Append_r2 lappT logfile_Log_none_r1
  rw [Option.bind_some, down_eq h, Option.bind_some]
  by_cases c : d.down = true
  · rw [if_pos c, if_pos c]
  · rw [if_neg c, if_neg c, put_frame, Option.bind_some]
    by_cases c1 : 16384 < b.length
    · rw [if_pos c1, if_pos c1, if_pos (by show (6 : Int) ≠ 0; decide)]
    · rw [if_neg c1, if_neg c1, if_neg (by show ¬ (0 : Int) ≠ 0; decide), append_eq h hN _ _ (by show (recd _ _).length ≤ _; rw [recd_len]; omega), Option.bind_some]
      by_cases c2 : (appendT d x.name (recd x.tail.Sum b)).1 ≠ 0
      · rw [if_pos c2, if_pos c2]
      · rw [if_neg c2, if_neg c2, clone_eq b (by omega), Option.bind_some, app_ok _ _ (by simp; omega) (by decide), Option.bind_some]
theorem many_run {l : List Law11Act} (hb : ∀ a ∈ l, a.Bytes.length ≤ 140737488351232) {kj : Unit → Option Bool} : ∀ (J k n : Nat), k ≤ l.length → l.length - k < J → k ≤ n → n ≤ 300 →
    (law11_many_l1 l kj J (n : Int) (k : Int) = some true) ∨ (law11_many_l1 l kj J (n : Int) (k : Int) = kj () ∧ l.length ≤ 300)
  | 0, k, n, _, h, _, _ => by omega
  | J + 1, k, n, h1, h2, h3, h4 => by
    rw [law11_many_l1]
    by_cases c : k < l.length
    · have hm := hb _ (List.getElem_mem c)
      rw [if_pos (by omega), geti_nat, List.getElem?_eq_getElem c, Option.bind_some]
      generalize l[k].Bytes.length = m at hm ⊢
      have e1 : ((m : Int)).tdiv 128 = ((m / 128 : Nat) : Int) := by rw [Int.tdiv_eq_ediv_of_nonneg (by omega)]; omega
      rw [e1, i64_id (p := ((m / 128 : Nat) : Int)) (by omega) (by omega), i64_id (p := 1 + ((m / 128 : Nat) : Int)) (by omega) (by omega), i64_id (p := (n : Int) + (1 + ((m / 128 : Nat) : Int))) (by omega) (by omega)]
      by_cases c2 : 300 < (n : Int) + (1 + ((m / 128 : Nat) : Int))
      · rw [if_pos c2]; exact .inl rfl
      · rw [if_neg c2, i64_id (p := (k : Int) + 1) (by omega) (by omega)]
        have := many_run hb (kj := kj) J (k + 1) (n + (1 + m / 128)) (by omega) (by omega) (by omega) (by omega)
        have e2 : (((n + (1 + m / 128) : Nat)) : Int) = (n : Int) + (1 + ((m / 128 : Nat) : Int)) := by omega
        have e3 : ((k + 1 : Nat) : Int) = (k : Int) + 1 := by omega
        rw [e2, e3] at this
        exact this
    · rw [if_neg (by omega)]; exact .inr ⟨rfl, by omega⟩
theorem many_eq {l : List Law11Act} (hl : l.length ≤ 140737488351232) (hb : ∀ a ∈ l, a.Bytes.length ≤ 140737488351232) : ∃ b, law11_many l = some b ∧ (b = false → l.length ≤ 300) := by
  have hF := FU_ge
  unfold law11_many
  rw [jn_eq']
  rcases many_run hb (kj := fun _ => some false) FU 0 0 (by omega) (by omega) (by omega) (by omega) with h | ⟨h, h2⟩
  · exact ⟨true, h, fun h => by cases h⟩
  · exact ⟨false, h, fun _ => h2⟩
end Go.Proofs

set_option linter.unusedVariables false
set_option linter.unusedSimpArgs false
namespace Go.Proofs
open Go.Fw
/-! LogfileFull. -/
structure FI (N : Nat) (room : Int) (d : DiskDisk) (x : LogfileLog) : Prop where
  inv : Inv N d
  up : d.down = false
  fuse : d.fuse.n = 0
  cap : d.capacity = room
  name : x.name = LG
  size : x.tail.Size = (total (lastP d) : Int)
  len : x.all_.length ≤ N
theorem new_inv {room : Int} (h : ¬ (room < 0 ∨ 65536 < room)) : Inv 1 ⟨room, true, false, [[]], [], ⟨0, 0, 0⟩⟩ := by
  refine ⟨rfl, by show 0 ≤ room; omega, by show room ≤ 65536; omega, rfl, by simp, ?_, ?_, ?_, by show (0 : Int) ≤ 0; decide, by show (0 : Int) ≤ _; decide, ?_, ?_, ?_⟩
  · intro p hp; rw [List.mem_singleton.1 hp]; exact List.Pairwise.nil
  · intro p hp; rw [List.mem_singleton.1 hp]; simp
  · intro p hp; rw [List.mem_singleton.1 hp]; show (0 : Int) ≤ room; omega
  · intro c hc; cases hc
  · intro p hp f hf; rw [List.mem_singleton.1 hp] at hf; cases hf
  · intro i c p q e; simp at e
theorem all_nil : frame_All [] = some ([], ⟨0, 0, 0⟩) := by kernel_rfl
theorem open_new {room : Int} (h : ¬ (room < 0 ∨ 65536 < room)) : logfile_Open ⟨room, true, false, [[]], [], ⟨0, 0, 0⟩⟩ LG = some (some ⟨⟨()⟩, LG, [], ⟨0, 0, 0⟩⟩, 0, ⟨room, true, false, [[]], [], ⟨0, 0, 0⟩⟩) := by
  have hi := new_inv h
  unfold logfile_Open
  rw [down_eq hi, Option.bind_some, if_neg (by simp), read_eq hi (by decide), Option.bind_some]
  have hr : readT ⟨room, true, false, [[]], [], ⟨0, 0, 0⟩⟩ LG = ([], 4) := by
    unfold readT
    rw [if_neg (by simp), if_neg (by rw [lg_ok]; decide)]
    rfl
  rw [hr, if_neg (by decide), all_nil, Option.bind_some, if_pos (show (0 : Int) = ((([] : List UInt8).length : Nat) : Int) from rfl)]
end Go.Proofs

set_option linter.unusedVariables false
set_option linter.unusedSimpArgs false
namespace Go.Proofs
open Go.Fw
/-! A log's bytes, and what they tell. -/
def enc : UInt32 → List (List UInt8) → List UInt8
  | _, [] => []
  | s, b :: l => recd s b ++ enc (nx s b) l
def sx : UInt32 → List (List UInt8) → UInt32
  | s, [] => s
  | s, b :: l => sx (nx s b) l
theorem enc_app : ∀ (s : UInt32) (l : List (List UInt8)) (b : List UInt8), enc s (l ++ [b]) = enc s l ++ recd (sx s l) b
  | s, [], b => by simp [enc, sx]
  | s, a :: l, b => by
    rw [List.cons_append, enc, enc, sx, enc_app (nx s a) l b, List.append_assoc]
theorem sx_app : ∀ (s : UInt32) (l : List (List UInt8)) (b : List UInt8), sx s (l ++ [b]) = nx (sx s l) b
  | s, [], b => rfl
  | s, a :: l, b => by rw [List.cons_append, sx, sx, sx_app]
/-- The beginning of a record. -/
def Junk (s : UInt32) (j : List UInt8) : Prop := j = [] ∨ ∃ b : List UInt8, b.length ≤ 16384 ∧ ∃ t, t < 8 + b.length ∧ j = (recd s b).take t
theorem or_add {x y k : Nat} (h : x < 2 ^ k) : x ||| (y * 2 ^ k) = x + y * 2 ^ k := by
  rw [Nat.or_comm, Nat.mul_comm, ← Nat.two_pow_add_eq_or_of_lt h]; omega
theorem u32n {n : Nat} (h : n < 4294967296) : (ofI32 (n : Int)).toNat = n := by
  have := ofI32_nat (p := (n : Int)) (by omega) (by omega); omega
theorem u8n {n : Nat} : (ofI8 (n : Int)).toNat = n % 256 := by
  unfold ofI8; rw [UInt8.toNat_ofNat']; omega
theorem num_wd (x : UInt32) (r : List UInt8) : frame_number (wd x ++ r) = some x := by
  have hx := x.toNat_lt
  unfold frame_number
  have g0 : geti (wd x ++ r) 0 = some (ofI8 ((shr32 x 24).toNat : Int)) := rfl
  have g1 : geti (wd x ++ r) 1 = some (ofI8 ((shr32 x 16).toNat : Int)) := rfl
  have g2 : geti (wd x ++ r) 2 = some (ofI8 ((shr32 x 8).toNat : Int)) := rfl
  have g3 : geti (wd x ++ r) 3 = some (ofI8 (x.toNat : Int)) := rfl
  rw [g0, Option.bind_some, g1, Option.bind_some, g2, Option.bind_some, g3, Option.bind_some]
  refine congrArg some (UInt32.toNat.inj ?_)
  have h24 : (shr32 x 24).toNat = x.toNat / 16777216 := by unfold shr32; rw [UInt32.toNat_ofNat', show min (24 : Int).toNat 32 = 24 from rfl]; omega
  have h16 : (shr32 x 16).toNat = x.toNat / 65536 := by unfold shr32; rw [UInt32.toNat_ofNat', show min (16 : Int).toNat 32 = 16 from rfl]; omega
  have h8 : (shr32 x 8).toNat = x.toNat / 256 := by unfold shr32; rw [UInt32.toNat_ofNat', show min (8 : Int).toNat 32 = 8 from rfl]; omega
  simp only [UInt32.toNat_or, h24, h16, h8, u8n]
  generalize x.toNat = n at hx ⊢
  rw [show min (24 : Int).toNat 32 = 24 from rfl, show min (16 : Int).toNat 32 = 16 from rfl, show min (8 : Int).toNat 32 = 8 from rfl]
  rw [u32n (n := n / 16777216 % 256) (by omega), u32n (n := n / 65536 % 256) (by omega), u32n (n := n / 256 % 256) (by omega), u32n (n := n % 256) (by omega)]
  have f3 : (((n / 16777216 % 256 : Nat) : Int) * 2 ^ 24) = ((n / 16777216 % 256 * 2 ^ 24 : Nat) : Int) := by omega
  have f2 : (((n / 65536 % 256 : Nat) : Int) * 2 ^ 16) = ((n / 65536 % 256 * 2 ^ 16 : Nat) : Int) := by omega
  have f1 : (((n / 256 % 256 : Nat) : Int) * 2 ^ 8) = ((n / 256 % 256 * 2 ^ 8 : Nat) : Int) := by omega
  rw [f1, f2, f3, u32n (n := n / 16777216 % 256 * 2 ^ 24) (by omega), u32n (n := n / 65536 % 256 * 2 ^ 16) (by omega), u32n (n := n / 256 % 256 * 2 ^ 8) (by omega)]
  rw [Nat.or_comm, Nat.or_comm (n / 16777216 % 256 * 2 ^ 24 ||| n / 65536 % 256 * 2 ^ 16), ← Nat.or_assoc, or_add (show n % 256 < 2 ^ 8 by omega), Nat.or_comm (n / 16777216 % 256 * 2 ^ 24), ← Nat.or_assoc, or_add (show n % 256 + n / 256 % 256 * 2 ^ 8 < 2 ^ 16 by omega), or_add (show n % 256 + n / 256 % 256 * 2 ^ 8 + n / 65536 % 256 * 2 ^ 16 < 2 ^ 24 by omega)]
  omega
theorem lw_num {b : List UInt8} (hb : b.length ≤ 16384) (r : List UInt8) : ∃ x : UInt32, frame_number (lw b ++ r) = some x ∧ x.toNat = b.length := ⟨_, num_wd _ r, u32n (by omega)⟩
theorem subl_mid {α : Type} {l : List α} {a b : Int} {i j : Nat} (ha : a = (i : Int)) (hb : b = (j : Int)) (hij : i ≤ j) (hj : j ≤ l.length) : subl l a b = some ((l.drop i).take (j - i)) := by
  subst ha hb
  unfold subl
  rw [if_pos ⟨by omega, by omega, by omega⟩, Int.toNat_natCast, Int.toNat_natCast]
def tl (l : List (List UInt8)) : ApiTail := ⟨(l.length : Int), ((enc 0 l).length : Int), sx 0 l⟩
abbrev RS : Type := (List (List UInt8)) × Int × Int × UInt32
def recC : RS → (List UInt8 × ApiTail) → Option (Bool × RS) := fun x2 x3 => (slices_Clone_byte_byte x3.1).bind fun x9 => (app 5864062014805 x2.1 ([x9] : List (List UInt8))).bind fun x10 => some (true, (x10, x3.2.Count, x3.2.Size, x3.2.Sum))
theorem rec_run : ∀ (J : Nat) (l acc : List (List UInt8)) (s : UInt32) (cnt size : Nat) (junk : List UInt8), l.length < J → (∀ b ∈ l, b.length ≤ 16384) → Junk (sx s l) junk → (enc s l ++ junk).length ≤ 100000 → acc.length + l.length ≤ 100000 → cnt + l.length ≤ 1000000 → size + (enc s l).length ≤ 1000000 →
    frame_records_1_l1 (stopC recC) J (false, (acc, (cnt : Int), (size : Int), s)) (enc s l ++ junk) (cnt : Int) (size : Int) s = some (false, (acc ++ l, ((cnt + l.length : Nat) : Int), ((size + (enc s l).length : Nat) : Int), sx s l))
  | 0, _, _, _, _, _, _, h, _, _, _, _, _, _ => by omega
  | J + 1, [], acc, s, cnt, size, junk, _, _, hj, hl, _, _, _ => by
    rw [frame_records_1_l1, enc, List.nil_append, List.append_nil, sx]
    show (if 8 ≤ (junk.length : Int) then _ else _) = some (false, (acc, ((cnt + 0 : Nat) : Int), ((size + 0 : Nat) : Int), s))
    by_cases c : 8 ≤ junk.length
    · rcases hj with rfl | ⟨b, hb, t, ht, rfl⟩
      · simp at c
      · rw [sx] at c ⊢
        have hr := recd_len s b
        have hlen : ((recd s b).take t).length = t := by rw [List.length_take]; omega
        rw [hlen] at c
        have e : (recd s b).take t = lw b ++ (wd (nx s b) ++ b).take (t - 4) := by
          unfold recd
          rw [List.take_append, show (lw b).length = 4 from rfl, List.take_of_length_le (by show 4 ≤ t; omega)]
        obtain ⟨x, e1, e2⟩ := lw_num hb ((wd (nx s b) ++ b).take (t - 4))
        rw [hlen, if_pos (by omega), e, e1, Option.bind_some, if_pos (by
          refine .inr ?_
          rw [i64_id (by omega) (by omega), e2]; omega)]
        rfl
    · rw [if_neg (by omega)]; rfl
  | J + 1, b :: l, acc, s, cnt, size, junk, hJ, hb, hj, hl, ha, hc, hz => by
    have hb0 := hb b (List.mem_cons_self ..)
    have hr := recd_len s b
    simp only [enc, List.length_append, List.length_cons] at hl ha hc hz hJ
    rw [hr] at hl hz
    rw [frame_records_1_l1, enc, List.append_assoc]
    generalize hrest : enc (nx s b) l ++ junk = rest
    have hrl : rest.length = (enc (nx s b) l).length + junk.length := by rw [← hrest, List.length_append]
    have eX : recd s b ++ rest = lw b ++ (wd (nx s b) ++ (b ++ rest)) := by unfold recd; simp only [List.append_assoc]
    have hX : (recd s b ++ rest).length = 8 + b.length + rest.length := by rw [List.length_append, hr]
    obtain ⟨x, e1, e2⟩ := lw_num hb0 (wd (nx s b) ++ (b ++ rest))
    rw [if_pos (by omega), hX, eX, e1, Option.bind_some, if_neg (by
      rw [i64_id (by omega) (by omega), e2]; omega)]
    have i1 : i64 (8 + (x.toNat : Int)) = ((8 + b.length : Nat) : Int) := by rw [i64_id (by omega) (by omega), e2]; omega
    rw [← eX, i1, subl_mid (i := 8) (j := 8 + b.length) (by rfl) rfl (by omega) (by omega), Option.bind_some, jn_eq']
    have p7 : ((recd s b ++ rest).drop 8).take (8 + b.length - 8) = b := by
      rw [eX, ← List.append_assoc, List.drop_append_of_le_length (by simp [lw, wd_len]), List.drop_eq_nil_of_le (by simp [lw, wd_len]), List.nil_append, Nat.add_sub_cancel_left, List.take_append_of_le_length (Nat.le_refl _), List.take_length]
    have p9 : ((recd s b ++ rest).drop 0).take (4 - 0) = lw b := by
      rw [eX, List.drop_zero, List.take_append_of_le_length (by show 4 ≤ 4; omega)]
      exact List.take_of_length_le (by show 4 ≤ 4; omega)
    have p11 : ((recd s b ++ rest).drop 4).take ((8 + b.length + rest.length) - 4) = wd (nx s b) ++ (b ++ rest) := by
      rw [eX, List.drop_append_of_le_length (by show 4 ≤ 4; omega), List.drop_eq_nil_of_le (by show 4 ≤ 4; omega), List.nil_append]
      exact List.take_of_length_le (by simp [wd_len]; omega)
    rw [p7, subl_mid (i := 0) (j := 4) (by rfl) (by rfl) (by omega) (by omega), Option.bind_some, p9, sum_eq _ _ _ (by show 4 ≤ _; omega) (by omega), Option.bind_some,
      subl_mid (i := 4) (j := 8 + b.length + rest.length) (by rfl) rfl (by omega) (by omega), Option.bind_some, p11, num_wd, Option.bind_some]
    have i3 : i64 ((cnt : Int) + 1) = ((cnt + 1 : Nat) : Int) := by rw [i64_id (by omega) (by omega)]; omega
    have i4 : i64 ((size : Int) + i64 (8 + (b.length : Int))) = ((size + (8 + b.length) : Nat) : Int) := by rw [i64_id (p := 8 + (b.length : Int)) (by omega) (by omega), i64_id (by omega) (by omega)]; omega
    have hbe : frame_behind ⟨(cnt : Int), (size : Int), s⟩ b (nx s b) = some ⟨((cnt + 1 : Nat) : Int), ((size + (8 + b.length) : Nat) : Int), nx s b⟩ := by
      unfold frame_behind frame_Size
      rw [Option.bind_some, i3, i4]
    have hyc : stopC recC (false, (acc, (cnt : Int), (size : Int), s)) (b, ⟨((cnt + 1 : Nat) : Int), ((size + (8 + b.length) : Nat) : Int), nx s b⟩) = some (true, (false, (acc ++ [b], ((cnt + 1 : Nat) : Int), ((size + (8 + b.length) : Nat) : Int), nx s b))) := by
      unfold stopC recC
      rw [if_neg (by simp), clone_eq b (by omega), Option.bind_some, app_ok _ _ (by simp; omega) (by decide), Option.bind_some]
      rfl
    rw [if_neg (show ¬ ((sm s (lw b) b).toNat : Int) ≠ ((nx s b).toNat : Int) from fun h => h rfl)]
    dsimp only
    rw [Option.bind_some, num_wd, Option.bind_some, hbe, Option.bind_some, hyc, Option.bind_some, if_neg (by simp),
      subl_mid (i := 8 + b.length) (j := 8 + b.length + rest.length) rfl rfl (by omega) (by omega), Option.bind_some]
    have p19 : ((recd s b ++ rest).drop (8 + b.length)).take ((8 + b.length + rest.length) - (8 + b.length)) = rest := by
      rw [List.drop_append_of_le_length (by omega), List.drop_eq_nil_of_le (by omega), List.nil_append]
      exact List.take_of_length_le (by omega)
    rw [p19, ← hrest]
    dsimp only
    rw [rec_run J l (acc ++ [b]) (nx s b) (cnt + 1) (size + (8 + b.length)) junk (by omega) (fun y hy => hb y (List.mem_cons_of_mem _ hy)) hj (by rw [hrest]; omega) (by simp; omega) (by omega) (by omega)]
    rw [sx, List.append_assoc, List.length_append, hr, List.length_cons]
    congr 4
    · omega
    · congr 1; omega
theorem all_eq {l : List (List UInt8)} {junk : List UInt8} (hb : ∀ b ∈ l, b.length ≤ 16384) (hj : Junk (sx 0 l) junk) (hl : (enc 0 l ++ junk).length ≤ 100000) (hn : l.length ≤ 100000) : frame_All (enc 0 l ++ junk) = some (l, tl l) := by
  have hF := FU_big
  unfold frame_All frame_records
  rw [Option.bind_some]
  have := rec_run FU l [] 0 0 0 junk (by omega) hb hj hl (by simp; omega) (by omega) (by rw [List.length_append] at hl; omega)
  unfold frame_records_1
  rw [show (fun (x2 : ((List (List UInt8)) × Int × Int × UInt32)) (x3 : ((List UInt8) × ApiTail)) => (slices_Clone_byte_byte x3.1).bind fun x9 => (app 5864062014805 x2.1 ([x9] : List (List UInt8))).bind fun x10 => some (true, (x10, x3.2.Count, x3.2.Size, x3.2.Sum))) = recC from rfl]
  rw [show frame_records_1_l1 (stopC recC) FU (false, ([], 0, 0, (0 : UInt32))) (enc 0 l ++ junk) 0 0 (0 : UInt32) = _ from this, Option.bind_some]
  simp only [List.nil_append, Nat.zero_add]
  rfl
end Go.Proofs

set_option linter.unusedVariables false
set_option linter.unusedSimpArgs false
namespace Go.Proofs
open Go.Fw
/-! LogfileLasts: what is kept. -/
/-- What a file may hold: the records up to some place behind the last Sync, and the beginning of one more. -/
def Okc (all : List (List UInt8)) (syn : Nat) (c : List UInt8) : Prop := ∃ m junk, syn ≤ m ∧ m ≤ all.length ∧ c = enc 0 (all.take m) ++ junk ∧ Junk (sx 0 (all.take m)) junk
theorem Okc.more {all : List (List UInt8)} {syn : Nat} {c : List UInt8} (h : Okc all syn c) (b : List UInt8) : Okc (all ++ [b]) syn c := by
  obtain ⟨m, j, h1, h2, h3, h4⟩ := h
  have e : (all ++ [b]).take m = all.take m := List.take_append_of_le_length h2
  exact ⟨m, j, h1, by rw [List.length_append]; omega, by rw [e]; exact h3, by rw [e]; exact h4⟩
/-- What a call that waits is. -/
def CallOk (all : List (List UInt8)) (syn : Nat) (c : DiskCall) (p : Pic) : Prop := match c with
  | .adding y => ∃ m, ∃ h : m < all.length, syn ≤ m ∧ get p LG = enc 0 (all.take m) ∧ y = ⟨⟨LG, recd (sx 0 (all.take m)) all[m]⟩⟩
  | .putting _ => True
theorem CallOk.more {all : List (List UInt8)} {syn : Nat} {c : DiskCall} {p : Pic} (h : CallOk all syn c p) (b : List UInt8) : CallOk (all ++ [b]) syn c p := by
  cases c with
  | putting y => trivial
  | adding y =>
    obtain ⟨m, hm, h1, h2, h3⟩ := h
    have e : (all ++ [b]).take m = all.take m := List.take_append_of_le_length (by omega)
    refine ⟨m, by rw [List.length_append]; omega, h1, by rw [e]; exact h2, ?_⟩
    rw [h3, e, List.getElem_append_left hm]
/-- The disk's part. -/
structure UD (d : DiskDisk) (all : List (List UInt8)) (syn : Nat) : Prop where
  pics : ∀ p ∈ d.pictures, Okc all syn (get p LG)
  steps : ∀ (i : Nat) (c : DiskCall) (p : Pic), d.calls[i]? = some c → d.pictures[i]? = some p → CallOk all syn c p
structure UP (d : DiskDisk) (x : LogfileLog) (all : List (List UInt8)) (syn : Nat) : Prop where
  up : d.down = false
  ud : UD d all syn
  last : get (lastP d) LG = enc 0 all
  name : x.name = LG
  recs : x.all_ = all
  tail : x.tail = tl all
structure DN (d : DiskDisk) (all : List (List UInt8)) (syn : Nat) : Prop where
  down : d.down = true
  fuse : d.fuse.n = 0
  calls : d.calls = []
  pics : ∃ p, d.pictures = [p] ∧ Okc all syn (get p LG)
theorem Junk.take {s : UInt32} {b : List UInt8} (hb : b.length ≤ 16384) {t : Nat} (ht : t < 8 + b.length) : Junk s ((recd s b).take t) := .inr ⟨b, hb, t, ht, rfl⟩
theorem take_snoc2 {α : Type} {l : List α} {m : Nat} (h : m < l.length) : l.take (m + 1) = l.take m ++ [l[m]] := by
  rw [List.take_add_one, List.getElem?_eq_getElem h]; rfl
theorem crash_okc {N : Nat} {d : DiskDisk} {all : List (List UInt8)} {syn : Nat} (h : Inv N d) (u : UD d all syn) (hb : ∀ b ∈ all, b.length ≤ 16384) (k t : Int) : Okc all syn (get (crashP d k t) LG) := by
  obtain ⟨p, e, hp⟩ := h.at_ (kept_le d k)
  have hok := u.pics p hp
  unfold crashP
  rw [e, Option.getD_some]
  cases e2 : d.calls[keptAt d k]? with
  | none => exact hok
  | some c =>
    cases c with
    | putting y => exact hok
    | adding y =>
      simp only [tornC]
      split
      · rename_i hc
        obtain ⟨m, hm, h1, h2, h3⟩ := u.steps _ _ _ e2 e
        subst h3
        have hbm := hb _ (List.getElem_mem hm)
        unfold torn
        dsimp only
        rw [if_pos hc.1]
        simp only [nextP]
        rw [get_wi, if_pos rfl, h2]
        by_cases ht : t.toNat < 8 + (all[m]).length
        · exact ⟨m, _, h1, by omega, rfl, Junk.take hbm ht⟩
        · refine ⟨m + 1, [], by omega, by omega, ?_, .inl rfl⟩
          have e9 : (recd (sx 0 (all.take m)) all[m]).take t.toNat = recd (sx 0 (all.take m)) all[m] := List.take_of_length_le (by rw [recd_len]; omega)
          rw [take_snoc2 hm, enc_app, List.append_nil]
          exact congrArg _ e9
      · exact hok
theorem crash_dn {N : Nat} {d : DiskDisk} {all : List (List UInt8)} {syn : Nat} (h : Inv N d) (hd : d.down = false) (u : UD d all syn) (hb : ∀ b ∈ all, b.length ≤ 16384) (k t : Int) : (crashT d k t).1 = 0 ∧ DN (crashT d k t).2 all syn := by
  unfold crashT
  rw [if_neg (by rw [hd]; decide)]
  exact ⟨rfl, rfl, rfl, rfl, _, rfl, crash_okc h u hb k t⟩
theorem UD.fuse {d : DiskDisk} {all : List (List UInt8)} {syn : Nat} (u : UD d all syn) (f : DiskFuse) (dn : Bool) : UD ⟨d.capacity, d.made, dn, d.pictures, d.calls, f⟩ all syn := ⟨u.pics, u.steps⟩
/-- A record more. -/
theorem UD.grown {N : Nat} {d : DiskDisk} {all : List (List UInt8)} {syn : Nat} (h : Inv N d) (u : UD d all syn) (hl : get (lastP d) LG = enc 0 all) (hs : syn ≤ all.length) (b : List UInt8) :
    UD (grown d (.adding ⟨⟨LG, recd (sx 0 all) b⟩⟩)) (all ++ [b]) syn ∧ get (lastP (grown d (.adding ⟨⟨LG, recd (sx 0 all) b⟩⟩))) LG = enc 0 (all ++ [b]) := by
  have hlen := h.len
  have e : get (nextP (.adding ⟨⟨LG, recd (sx 0 all) b⟩⟩) (lastP d)) LG = enc 0 (all ++ [b]) := by
    simp only [nextP]
    rw [get_wi, if_pos rfl, hl, enc_app]
  refine ⟨⟨?_, ?_⟩, by rw [lastP_grown h, e]⟩
  · intro p hp
    rcases List.mem_append.1 (show p ∈ d.pictures ++ [_] from hp) with hp | hp
    · exact (u.pics p hp).more b
    · rw [List.mem_singleton.1 hp, e]
      exact ⟨(all ++ [b]).length, [], by rw [List.length_append]; omega, Nat.le_refl _, by rw [List.take_length, List.append_nil], .inl rfl⟩
  · intro i c p e1 e2
    have e1' : (d.calls ++ [DiskCall.adding ⟨⟨LG, recd (sx 0 all) b⟩⟩])[i]? = some c := e1
    have e2' : (d.pictures ++ [nextP (.adding ⟨⟨LG, recd (sx 0 all) b⟩⟩) (lastP d)])[i]? = some p := e2
    by_cases k : i < d.calls.length
    · rw [List.getElem?_append_left k] at e1'
      rw [List.getElem?_append_left (by omega)] at e2'
      exact (u.steps i c p e1' e2').more b
    · have k2 : i = d.calls.length := by
        have := (List.getElem?_eq_some_iff.1 e1').1
        simp at this; omega
      subst k2
      rw [List.getElem?_concat_length] at e1'
      rw [List.getElem?_append_left (by omega), h.last.1] at e2'
      cases e1'; cases e2'
      refine ⟨all.length, by simp, hs, ?_, ?_⟩
      · rw [hl, List.take_left' rfl]
      · rw [List.take_left' rfl]; simp
/-- burn: nothing, or a crash. -/
theorem burn_cases (d : DiskDisk) : (burnT d).1 = 0 ∧ (∃ f : DiskFuse, burnT d = (0, ⟨d.capacity, d.made, d.down, d.pictures, d.calls, f⟩)) ∨ burnT d = (12, (crashT d d.fuse.keep d.fuse.torn).2) := by
  unfold burnT
  split
  · exact .inl ⟨rfl, d.fuse, rfl⟩
  · split
    · exact .inr rfl
    · exact .inl ⟨rfl, ⟨d.fuse.n - 1, d.fuse.keep, d.fuse.torn⟩, rfl⟩
/-- Append, of a log that stands with its disk. -/
theorem app_step {N : Nat} {d : DiskDisk} {x : LogfileLog} {all : List (List UInt8)} {syn : Nat} (h : Inv N d) (u : UP d x all syn) (hs : syn ≤ all.length) (hb : ∀ b ∈ all, b.length ≤ 16384) (hn : all.length ≤ 10000) (b : List UInt8) :
    ((lappT x b d).1 ≠ 0 ∧ (lappT x b d).1 ≠ 12 ∧ (lappT x b d).2 = (x, d)) ∨
    (b.length ≤ 16384 ∧ (lappT x b d).1 = 0 ∧ UP (lappT x b d).2.2 (lappT x b d).2.1 (all ++ [b]) syn) ∨
    (b.length ≤ 16384 ∧ (lappT x b d).1 = 12 ∧ DN (lappT x b d).2.2 (all ++ [b]) syn) := by
  unfold lappT
  rw [if_neg (by rw [u.up]; decide)]
  by_cases c1 : 16384 < b.length
  · rw [if_pos c1]; exact .inl ⟨by show (6 : Int) ≠ 0; decide, by show (6 : Int) ≠ 12; decide, rfl⟩
  · rw [if_neg c1]
    have ht : x.tail.Sum = sx 0 all := by rw [u.tail]; rfl
    rw [ht, u.name]
    have ea : appendT d LG (recd (sx 0 all) b) = doesT d (.adding ⟨⟨LG, recd (sx 0 all) b⟩⟩) := by
      unfold appendT
      rw [if_neg (by rw [u.up]; decide), if_neg (by rw [lg_ok]; decide)]
    rw [ea]
    unfold doesT
    by_cases c2 : d.capacity < ((total (nextP (.adding ⟨⟨LG, recd (sx 0 all) b⟩⟩) (lastP d)) : Nat) : Int)
    · rw [if_pos c2, if_pos (by show (3 : Int) ≠ 0; decide)]
      exact .inl ⟨by show (3 : Int) ≠ 0; decide, by show (3 : Int) ≠ 12; decide, rfl⟩
    · rw [if_neg c2]
      have hg := h.grown (c := .adding ⟨⟨LG, recd (sx 0 all) b⟩⟩) (by omega) lg_ok
      obtain ⟨u2, l2⟩ := UD.grown h u.ud u.last hs b
      have hup : (grown d (.adding ⟨⟨LG, recd (sx 0 all) b⟩⟩)).down = false := u.up
      have hb2 : ∀ y ∈ all ++ [b], y.length ≤ 16384 := fun y hy => by
        rcases List.mem_append.1 hy with hy | hy
        · exact hb y hy
        · rw [List.mem_singleton.1 hy]; omega
      have hcap : ((enc 0 all).length : Int) ≤ 65536 := by
        have := get_len h LG
        rw [u.last] at this; omega
      generalize grown d (.adding ⟨⟨LG, recd (sx 0 all) b⟩⟩) = d2 at hg u2 l2 hup ⊢
      rcases burn_cases d2 with ⟨_, f, e⟩ | e
      · rw [e, if_neg (by show ¬ (0 : Int) ≠ 0; decide)]
        refine .inr (.inl ⟨by omega, rfl, hup, u2.fuse f d2.down, l2, rfl, ?_, ?_⟩)
        · show x.all_ ++ [b] = _; rw [u.recs]
        · show (⟨_, _, _⟩ : ApiTail) = tl (all ++ [b])
          unfold tl
          rw [enc_app, sx_app, List.length_append, List.length_append, recd_len, u.tail]
          unfold tl
          dsimp only
          rw [i64_id (p := 8 + (b.length : Int)) (by omega) (by omega), i64_id (by omega) (by omega), i64_id (by omega) (by omega)]
          congr 1
      · rw [e, if_pos (by show (12 : Int) ≠ 0; decide)]
        exact .inr (.inr ⟨by omega, rfl, (crash_dn hg hup u2 hb2 _ _).2⟩)
theorem sync_step {N : Nat} {d : DiskDisk} {x : LogfileLog} {all : List (List UInt8)} {syn : Nat} (h : Inv N d) (hN : N ≤ 9000) (u : UP d x all syn) (hb : ∀ b ∈ all, b.length ≤ 16384) :
    ((syncT d).1 = 0 ∧ UP (syncT d).2 x all all.length) ∨ ((syncT d).1 ≠ 0 ∧ DN (syncT d).2 all syn) := by
  unfold syncT
  rw [if_neg (by rw [u.up]; decide)]
  rcases burn_cases d with ⟨e0, f, e⟩ | e
  · have hl : lastP (burnT d).2 = lastP d := by rw [e]; rfl
    rw [if_pos e0, hl]
    refine .inl ⟨rfl, ?_⟩
    have e1 : (burnT d).2.down = false := by rw [e]; exact u.up
    have hc : Okc all all.length (get (lastP d) LG) := ⟨all.length, [], Nat.le_refl _, Nat.le_refl _, by rw [u.last, List.take_length, List.append_nil], .inl rfl⟩
    refine ⟨e1, ⟨?_, ?_⟩, u.last, u.name, u.recs, u.tail⟩
    · intro p hp
      rw [List.mem_singleton.1 (show p ∈ [lastP d] from hp)]; exact hc
    · intro i c p e1 _
      have : ([] : List DiskCall)[i]? = some c := e1
      simp at this
  · rw [if_neg (by rw [e]; show ¬ (12 : Int) = 0; decide), e]
    exact .inr ⟨by show (12 : Int) ≠ 0; decide, (crash_dn h u.up u.ud hb _ _).2⟩
/-! The log is opened. -/
theorem put_total {p : Pic} (hr : Rise p) (n b : List UInt8) : total (nextP (.putting ⟨⟨n, b⟩⟩) p) + (get p n).length = total p + b.length := by
  have := total_wi hr n b
  simp only [nextP]; omega
theorem read_up {d : DiskDisk} (hd : d.down = false) : (readT d LG).1 = get (lastP d) LG ∧ (readT d LG).2 ≠ 1 := by
  unfold readT
  rw [if_neg (by rw [hd]; decide), if_neg (by rw [lg_ok]; decide)]
  unfold get
  cases lk (lastP d) LG with
  | none => exact ⟨rfl, by show (4 : Int) ≠ 1; decide⟩
  | some b => exact ⟨rfl, by show (0 : Int) ≠ 1; decide⟩
theorem open_same {N : Nat} {d : DiskDisk} {l : List (List UInt8)} (h : Inv N d) (hN : N ≤ 9000) (hd : d.down = false) (hl : get (lastP d) LG = enc 0 l) (hb : ∀ b ∈ l, b.length ≤ 16384) (hn : l.length ≤ 10000) :
    logfile_Open d LG = some (some ⟨⟨()⟩, LG, l, tl l⟩, 0, d) := by
  obtain ⟨r1, r2⟩ := read_up hd
  have hlen := get_len h LG
  unfold logfile_Open
  rw [down_eq h, Option.bind_some, if_neg (by rw [hd]; decide), read_eq h hN, Option.bind_some, if_neg r2, r1, hl]
  have := all_eq (l := l) (junk := []) hb (.inl rfl) (by rw [List.append_nil, ← hl]; omega) (by omega)
  rw [List.append_nil] at this
  rw [this, Option.bind_some, if_pos (show (tl l).Size = ((enc 0 l).length : Int) from rfl)]
theorem open_cut {N : Nat} {d : DiskDisk} {l : List (List UInt8)} {junk : List UInt8} (h : Inv N d) (hN : N ≤ 8000) (hd : d.down = false) (hf : d.fuse.n = 0) (hl : get (lastP d) LG = enc 0 l ++ junk) (hj : Junk (sx 0 l) junk) (hne : junk ≠ []) (hb : ∀ b ∈ l, b.length ≤ 16384) (hn : l.length ≤ 10000) :
    logfile_Open d LG = some (some ⟨⟨()⟩, LG, l, tl l⟩, 0, grown d (.putting ⟨⟨LG, enc 0 l⟩⟩)) ∧ Inv (N + 1) (grown d (.putting ⟨⟨LG, enc 0 l⟩⟩)) := by
  obtain ⟨r1, r2⟩ := read_up hd
  have hlen := get_len h LG
  have hpt := put_total h.lrise LG (enc 0 l)
  rw [hl, List.length_append] at hlen hpt
  have htl := h.tot _ h.last.2
  have hjl : 0 < junk.length := List.length_pos_iff.2 hne
  have hcap : ((total (nextP (.putting ⟨⟨LG, enc 0 l⟩⟩) (lastP d)) : Nat) : Int) ≤ d.capacity := by omega
  have hg := h.grown (c := .putting ⟨⟨LG, enc 0 l⟩⟩) hcap lg_ok
  refine ⟨?_, hg⟩
  unfold logfile_Open
  rw [down_eq h, Option.bind_some, if_neg (by rw [hd]; decide), read_eq h (by omega), Option.bind_some, if_neg r2, r1, hl]
  rw [all_eq hb hj (by rw [List.length_append]; omega) (by omega), Option.bind_some, if_neg (by
    show ¬ ((enc 0 l).length : Int) = _
    rw [List.length_append]; omega)]
  have hs : subl (enc 0 l ++ junk) 0 (tl l).Size = some (enc 0 l) := by
    have := subl_mid (l := enc 0 l ++ junk) (a := 0) (b := (tl l).Size) (i := 0) (j := (enc 0 l).length) rfl rfl (by omega) (by rw [List.length_append]; omega)
    rw [this, List.drop_zero, Nat.sub_zero, List.take_left' rfl]
  have hp : putT d LG (enc 0 l) = (0, grown d (.putting ⟨⟨LG, enc 0 l⟩⟩)) := by
    unfold putT doesT
    rw [if_neg (by rw [hd]; decide), if_neg (by rw [lg_ok]; decide), if_neg (by omega)]
    unfold burnT
    rw [if_pos (show (grown d (.putting ⟨⟨LG, enc 0 l⟩⟩)).fuse.n = 0 from hf)]
  rw [hs, Option.bind_some, put_eq h (by omega) _ _ (by omega), Option.bind_some, hp, if_neg (by show ¬ (0 : Int) ≠ 0; decide)]
end Go.Proofs

set_option linter.unusedVariables false
set_option linter.unusedSimpArgs false
namespace Go.Proofs
open Go.Fw
/-! LogfileLasts. -/
theorem same_run {a : List (List UInt8)} (ha : a.length ≤ 1000000) {kj : Unit → Option Bool} (hk : kj () = some true) : ∀ (J k : Nat), k ≤ a.length → a.length - k < J → ref11_Same_l1 a a kj J (k : Int) = some true
  | 0, k, _, h => by omega
  | J + 1, k, h1, h2 => by
    rw [ref11_Same_l1]
    by_cases c : k < a.length
    · rw [if_pos (by omega), geti_nat, List.getElem?_eq_getElem c, Option.bind_some, Option.bind_some, if_neg (fun h => h rfl), nxt (n := 1000000) (by omega) (by decide)]
      exact same_run ha hk J (k + 1) (by omega) (by omega)
    · rw [if_neg (by omega), hk]
theorem same_eq {a : List (List UInt8)} (ha : a.length ≤ 1000000) : ref11_Same a a = some true := by
  have hF := FU_big
  unfold ref11_Same
  rw [if_neg (fun h => h rfl), jn_eq', show (0 : Int) = ((0 : Nat) : Int) from rfl, same_run ha rfl FU 0 (by omega) (by omega)]
theorem recs_run {a : List (List UInt8)} (ha : a.length ≤ 1000000) (hb : ∀ b ∈ a, b.length ≤ 1000000) {kj : List (List UInt8) → Option (List (List UInt8))} : ∀ (J k : Nat), k ≤ a.length → a.length - k < J → logfile_Log_Records_r1_l1 a kj J (k : Int) a = kj a
  | 0, k, _, h => by omega
  | J + 1, k, h1, h2 => by
    rw [logfile_Log_Records_r1_l1]
    by_cases c : k < a.length
    · rw [if_pos (by omega), geti_nat, List.getElem?_eq_getElem c, Option.bind_some, clone_eq _ (hb _ (List.getElem_mem c)), Option.bind_some, Option.bind_some, nxt (n := 1000000) (by omega) (by decide), Int.toNat_natCast, List.set_getElem_self]
      exact recs_run ha hb J (k + 1) (by omega) (by omega)
    · rw [if_neg (by omega)]
theorem recs_eq (x : LogfileLog) (d : DiskDisk) (ha : x.all_.length ≤ 100000) (hb : ∀ b ∈ x.all_, b.length ≤ 1000000) : logfile_Log_Records_r1 x d = some x.all_ := by
  have hF := FU_big
  unfold logfile_Log_Records_r1 logfile_Log_none_r1 slices_Clone_byte_byte_o
  rw [Option.bind_some, app_ok _ _ (by simp; omega) (by decide), Option.bind_some, List.nil_append, Option.bind_some, jn_eq', show (0 : Int) = ((0 : Nat) : Int) from rfl, recs_run (by omega) hb FU 0 (by omega) (by omega)]
/-- A disk that is down starts; the log is opened; opened once more it is the same. -/
theorem opens_step {N : Nat} {d : DiskDisk} {all : List (List UInt8)} {syn : Nat} (h : Inv N d) (hN : N ≤ 7000) (dn : DN d all syn) (hb : ∀ b ∈ all, b.length ≤ 16384) (hn : all.length ≤ 10000) :
    ∃ m d2, syn ≤ m ∧ m ≤ all.length ∧ Inv (N + 1) d2 ∧ logfile_Open (startT d).2 LG = some (some ⟨⟨()⟩, LG, all.take m, tl (all.take m)⟩, 0, d2) ∧ UP d2 ⟨⟨()⟩, LG, all.take m, tl (all.take m)⟩ (all.take m) syn := by
  obtain ⟨p, hp, m, junk, h1, h2, h3, h4⟩ := dn.pics
  have hs := h.start
  have hup : (startT d).2.down = false := by unfold startT; rw [if_pos dn.down]
  have hfu : (startT d).2.fuse.n = 0 := by unfold startT; rw [if_pos dn.down]; exact dn.fuse
  have hpi : (startT d).2.pictures = [p] := by unfold startT; rw [if_pos dn.down]; exact hp
  have hca : (startT d).2.calls = [] := by unfold startT; rw [if_pos dn.down]; exact dn.calls
  have hla : lastP (startT d).2 = p := by unfold lastP; rw [hca, hpi]; rfl
  have hbm : ∀ b ∈ all.take m, b.length ≤ 16384 := fun b hx => hb b (List.mem_of_mem_take hx)
  have hlm : (all.take m).length = m := by rw [List.length_take]; omega
  have hself : ∀ q : Pic, get q LG = enc 0 (all.take m) ++ junk → Okc (all.take m) syn (get q LG) := fun q hq => ⟨m, junk, h1, by omega, by rw [hq, List.take_take, Nat.min_self], by rw [List.take_take, Nat.min_self]; exact h4⟩
  generalize (startT d).2 = d1 at hs hup hfu hpi hca hla ⊢
  by_cases hj : junk = []
  · subst hj
    rw [List.append_nil] at h3
    refine ⟨m, d1, h1, h2, hs.mono (by omega), open_same hs (by omega) hup (by rw [hla, h3]) hbm (by omega), hup, ⟨?_, ?_⟩, by rw [hla, h3], rfl, rfl, rfl⟩
    · intro q hq
      rw [hpi] at hq
      rw [List.mem_singleton.1 hq]
      exact hself p (by rw [h3, List.append_nil])
    · intro i c q e1 _
      rw [hca] at e1; simp at e1
  · obtain ⟨ho, hi⟩ := open_cut hs (by omega) hup hfu (by rw [hla, h3]) h4 hj hbm (by omega)
    have hlast : get (lastP (grown d1 (.putting ⟨⟨LG, enc 0 (all.take m)⟩⟩))) LG = enc 0 (all.take m) := by
      rw [lastP_grown hs]
      simp only [nextP]
      rw [get_wi, if_pos rfl]
    refine ⟨m, _, h1, h2, hi, ho, hup, ⟨?_, ?_⟩, hlast, rfl, rfl, rfl⟩
    · intro q hq
      rcases List.mem_append.1 (show q ∈ d1.pictures ++ [_] from hq) with hq | hq
      · rw [hpi] at hq
        rw [List.mem_singleton.1 hq]
        exact hself p h3
      · rw [List.mem_singleton.1 hq]
        rw [lastP_grown hs] at hlast
        rw [hlast]
        exact ⟨m, [], h1, by omega, by rw [List.take_take, Nat.min_self, List.append_nil], .inl rfl⟩
    · intro i c q e1 _
      have e1' : (d1.calls ++ [DiskCall.putting ⟨⟨LG, enc 0 (all.take m)⟩⟩])[i]? = some c := e1
      rw [hca, List.nil_append] at e1'
      have : c = DiskCall.putting ⟨⟨LG, enc 0 (all.take m)⟩⟩ := by
        match i, e1' with
        | 0, e => cases e; rfl
        | i + 1, e => simp at e
      subst this
      trivial
/-- Either it stands with its log, or it is down. -/
def ST (d : DiskDisk) (x : LogfileLog) (all : List (List UInt8)) (syn : Nat) : Prop := UP d x all syn ∨ DN d all syn
theorem lasts_run {l : List Law11Act} (hl : l.length ≤ 300) (hN : ∀ a ∈ l, a.N ≤ 9223372036854775807) (hbl : ∀ a ∈ l, a.Bytes.length ≤ 140737488351232) {kj : DiskDisk → Option Bool} (hk : ∀ d, kj d = some true) : ∀ (J k syn : Nat) (d : DiskDisk) (x : LogfileLog) (all : List (List UInt8)), k ≤ l.length → l.length - k < J →
    Inv (1 + 10 * k) d → ST d x all syn → syn ≤ all.length → all.length ≤ k → (∀ b ∈ all, b.length ≤ 16384) → x.all_.length ≤ k → law11_LogfileLasts_l1 l kj J x (syn : Int) all (k : Int) d = some true
  | 0, k, _, _, _, _, _, h, _, _, _, _, _, _ => by omega
  | J + 1, k, syn, d, x, all, h1, h2, hi, hs, hsy, hn, hb, hxn => by
    rw [law11_LogfileLasts_l1]
    by_cases c : k < l.length
    · have hNa := hN _ (List.getElem_mem c)
      have hBa := hbl _ (List.getElem_mem c)
      rw [if_pos (by omega), geti_nat, List.getElem?_eq_getElem c, Option.bind_some]
      generalize l[k] = a at hNa hBa ⊢
      rw [down_eq hi, Option.bind_some, jn_eq']
      -- what follows the act
      have rest : ∀ (syn : Nat) (all : List (List UInt8)) (d2 : DiskDisk) (x2 : LogfileLog), Inv (1 + 10 * k + 3) d2 → ST d2 x2 all syn → syn ≤ all.length → all.length ≤ k + 1 → (∀ b ∈ all, b.length ≤ 16384) → x2.all_.length ≤ k + 1 →
          jn (fun (x28 : LogfileLog) (x29 : (List (List UInt8))) (x30 : DiskDisk) => (disk_Disk_Down x30).bind fun x49 => (if (!x49) = true then (logfile_Log_Records_r1 x28 x30).bind fun x51 => (ref11_Same x51 x29).bind fun x52 => some (!x52) else some false).bind fun x50 => if x50 = true then some false else law11_LogfileLasts_l1 l kj J x28 (syn : Int) x29 (i64 ((k : Int) + 1)) x30) (fun (kj27 : LogfileLog → (List (List UInt8)) → DiskDisk → Option Bool) => (if a.Do = 2 then some true else (disk_Disk_Down d2).bind fun x32 => some (decide ((x32 = true) ∧ ((k : Int).tmod 3 = 0)))).bind fun x31 => if x31 = true then (law11_opens d2 a.Keep a.Torn).bind fun x33 => if (!x33.2.1) = true then some false else (x33.1).bind fun x34 => (logfile_Log_Records_r1 x34 x33.2.2).bind fun x35 => (if ((x35.length : Int) < (syn : Int)) ∨ ((all.length : Int) < (x35.length : Int)) then some true else (subl all 0 (x35.length : Int)).bind fun x37 => (ref11_Same x35 x37).bind fun x38 => some (!x38)).bind fun x36 => if x36 = true then some false else (disk_Disk_Read x33.2.2 ([108, 111, 103] : List UInt8)).bind fun x39 => (logfile_Open x33.2.2 ([108, 111, 103] : List UInt8)).bind fun x40 => (disk_Disk_Read x40.2.2 ([108, 111, 103] : List UInt8)).bind fun x41 => oc x40.1 (some false) fun x42 => (if (x40.2.1 ≠ 0) ∨ False then some true else (logfile_Log_Records_r1 x42 x40.2.2).bind fun x44 => (ref11_Same x44 x35).bind fun x45 => some (!x45)).bind fun x43 => (if (x43 = true) ∨ (x39.1 ≠ x41.1) then some true else (logfile_Log_Size_r1 x42 x40.2.2).bind fun x47 => some (decide ((x41.1.length : Int) ≠ x47))).bind fun x46 => if x46 = true then some false else (subl all 0 (x35.length : Int)).bind fun x48 => kj27 x42 x48 x40.2.2 else kj27 x2 all d2) = some true := by
        intro syn all d2 x2 hi2 hs2 hsy hn hb hxn2
        -- the end of a round
        have fin : ∀ (x28 : LogfileLog) (x29 : List (List UInt8)) (x30 : DiskDisk), Inv (1 + 10 * (k + 1)) x30 → ST x30 x28 x29 syn → syn ≤ x29.length → x29.length ≤ k + 1 → (∀ b ∈ x29, b.length ≤ 16384) → x28.all_.length ≤ k + 1 →
            ((disk_Disk_Down x30).bind fun x49 => (if (!x49) = true then (logfile_Log_Records_r1 x28 x30).bind fun x51 => (ref11_Same x51 x29).bind fun x52 => some (!x52) else some false).bind fun x50 => if x50 = true then some false else law11_LogfileLasts_l1 l kj J x28 (syn : Int) x29 (i64 ((k : Int) + 1)) x30) = some true := by
          intro x28 x29 x30 hi3 hs3 hy3 hn3 hb3 hx3
          have go := lasts_run hl hN hbl hk J (k + 1) syn x30 x28 x29 (by omega) (by omega) hi3 hs3 hy3 hn3 hb3 hx3
          rw [down_eq hi3, Option.bind_some, nxt (n := 1000) (by omega) (by decide)]
          rcases hs3 with u | dn
          · rw [u.up, if_pos (by decide), recs_eq x28 x30 (by omega) (by rw [u.recs]; exact fun b hx => Nat.le_trans (hb3 b hx) (by decide)), Option.bind_some, u.recs, same_eq (by omega), Option.bind_some, Option.bind_some, if_neg (by decide)]
            exact go
          · rw [dn.down, if_neg (by decide), Option.bind_some, if_neg (by decide)]
            exact go
        rw [jn_eq']
        have hco : ∃ q : Bool, (if a.Do = 2 then some true else (disk_Disk_Down d2).bind fun x32 => some (decide ((x32 = true) ∧ ((k : Int).tmod 3 = 0)))) = some q ∧ (q = true → d2.down = true ∨ a.Do = 2) := by
          by_cases ca : a.Do = 2
          · rw [if_pos ca]; exact ⟨true, rfl, fun _ => .inr ca⟩
          · rw [if_neg ca, down_eq hi2, Option.bind_some]
            exact ⟨_, rfl, fun h => .inl (of_decide_eq_true h).1⟩
        obtain ⟨q, eq, hq⟩ := hco
        rw [eq, Option.bind_some]
        cases q with
        | false =>
          rw [if_neg (by decide)]
          exact fin x2 all d2 (hi2.mono (by omega)) hs2 hsy hn hb hxn2
        | true =>
          rw [if_pos rfl]
          -- down, however it stood
          have hdn : ∃ d3, disk_Disk_Crash d2 a.Keep a.Torn = some ((crashT d2 a.Keep a.Torn).1, d3) ∧ Inv (1 + 10 * k + 4) d3 ∧ DN d3 all syn := by
            rw [crash_eq hi2 (by omega)]
            rcases hs2 with u | dn
            · exact ⟨_, rfl, hi2.crash _ _, (crash_dn hi2 u.up u.ud hb _ _).2⟩
            · have e : crashT d2 a.Keep a.Torn = (12, d2) := by unfold crashT; rw [if_pos dn.down]
              rw [e]
              exact ⟨d2, rfl, hi2.mono (by omega), dn⟩
          obtain ⟨d3, ec, hi3, dn3⟩ := hdn
          obtain ⟨m, d4, hm1, hm2, hi4, eo, u4⟩ := opens_step hi3 (by omega) dn3 hb (by omega)
          have hlm : (all.take m).length = m := by rw [List.length_take]; omega
          have hbm : ∀ b ∈ all.take m, b.length ≤ 16384 := fun b hx => hb b (List.mem_of_mem_take hx)
          have hops : law11_opens d2 a.Keep a.Torn = some (some ⟨⟨()⟩, LG, all.take m, tl (all.take m)⟩, true, d4) := by
            unfold law11_opens
            rw [ec, Option.bind_some, start_eq hi3, Option.bind_some, eo, Option.bind_some, jn_eq', if_neg (by show ¬ (0 : Int) = 12; decide)]
            dsimp only [oc]
            rw [show decide ((0 : Int) = 0 ∧ True) = true from rfl]
          have hsub : subl all 0 (((all.take m).length : Nat) : Int) = some (all.take m) := by
            have := subl_mid (l := all) (a := 0) (b := (((all.take m).length : Nat) : Int)) (i := 0) (j := m) rfl (by rw [hlm]) (by omega) hm2
            rw [this, List.drop_zero, Nat.sub_zero]
          have hr4 := read_up u4.up
          have hsm : ref11_Same (all.take m) (all.take m) = some true := same_eq (by omega)
          have ho2 := open_same hi4 (by omega) u4.up u4.last hbm (by omega)
          rw [hops, Option.bind_some]
          dsimp only
          rw [if_neg (by decide), Option.bind_some, recs_eq _ d4 (by show (all.take m).length ≤ _; omega) (fun b hx => Nat.le_trans (hbm b hx) (by decide)), Option.bind_some, hsub, if_neg (by rw [hlm]; omega), Option.bind_some, hsm, Option.bind_some, Option.bind_some, if_neg (by decide), read_eq hi4 (by omega), Option.bind_some, ho2, Option.bind_some]
          dsimp only [oc]
          rw [read_eq hi4 (by omega), Option.bind_some, if_neg (by simp), recs_eq _ d4 (by show (all.take m).length ≤ _; omega) (fun b hx => Nat.le_trans (hbm b hx) (by decide)), Option.bind_some, hsm, Option.bind_some, Option.bind_some, if_neg (by simp)]
          unfold logfile_Log_Size_r1 logfile_Log_none_r1
          rw [Option.bind_some, Option.bind_some, hr4.1, u4.last]
          have hd0 : decide ((((enc 0 (all.take m)).length : Nat) : Int) ≠ (tl (all.take m)).Size) = false := decide_eq_false (fun h => h rfl)
          dsimp only
          rw [hd0, Option.bind_some, if_neg (by decide), Option.bind_some]
          have fz := fin ⟨⟨()⟩, LG, all.take m, tl (all.take m)⟩ (all.take m) d4 (hi4.mono (by omega)) (.inl u4) (by omega) (by omega) hbm (by show (all.take m).length ≤ _; omega)
          rw [recs_eq _ d4 (by show (all.take m).length ≤ _; omega) (fun b hx => Nat.le_trans (hbm b hx) (by decide))] at fz
          exact fz
      have cast0 : ((all.length : Nat) : Int) = ((all.length : Nat) : Int) := rfl
      by_cases c0 : a.Do = 0
      · rw [if_pos c0, lapp_eq hi (by omega) x _ (by omega), Option.bind_some]
        rcases hs with u | dn
        · have hxa := u.recs
          rcases app_step hi u hsy hb (by omega) a.Bytes with ⟨e1, e2, e3⟩ | ⟨hb1, e1, u2⟩ | ⟨hb1, e1, dn2⟩
          · rw [if_neg (by rintro (h | h); exact e1 h; exact e2 h.2), e3]
            exact rest syn all d x (hi.mono (by omega)) (.inl u) hsy (by omega) hb (by omega)
          · have hi2 : Inv (1 + 10 * k + 2) (lappT x a.Bytes d).2.2 := by
              unfold lappT
              split
              · exact hi.mono (by omega)
              split
              · exact hi.mono (by omega)
              split
              · exact hi.append _ _
              · exact hi.append _ _
            have hx2 : (lappT x a.Bytes d).2.1.all_.length ≤ k + 1 := by rw [u2.recs, List.length_append]; simp; omega
            rw [if_pos (.inl e1), app_ok _ _ (by simp; omega) (by decide), Option.bind_some, List.nil_append, app_ok _ _ (by simp; omega) (by decide), Option.bind_some]
            refine rest syn (all ++ [a.Bytes]) _ _ (hi2.mono (by omega)) (.inl u2) (by rw [List.length_append]; omega) (by rw [List.length_append]; simp; omega) ?_ hx2
            intro b hx
            rcases List.mem_append.1 hx with hx | hx
            · exact hb b hx
            · rw [List.mem_singleton.1 hx]; exact hb1
          · have hi2 : Inv (1 + 10 * k + 2) (lappT x a.Bytes d).2.2 := by
              unfold lappT
              split
              · exact hi.mono (by omega)
              split
              · exact hi.mono (by omega)
              split
              · exact hi.append _ _
              · exact hi.append _ _
            have hx2 : (lappT x a.Bytes d).2.1.all_.length ≤ k + 1 := by
              unfold lappT
              split
              · show x.all_.length ≤ _; omega
              split
              · show x.all_.length ≤ _; omega
              split
              · show x.all_.length ≤ _; omega
              · show (x.all_ ++ [a.Bytes]).length ≤ _; simp; omega
            rw [if_pos (.inr ⟨by rw [u.up]; decide, e1⟩), app_ok _ _ (by simp; omega) (by decide), Option.bind_some, List.nil_append, app_ok _ _ (by simp; omega) (by decide), Option.bind_some]
            refine rest syn (all ++ [a.Bytes]) _ _ (hi2.mono (by omega)) (.inr dn2) (by rw [List.length_append]; omega) (by rw [List.length_append]; simp; omega) ?_ hx2
            intro b hx
            rcases List.mem_append.1 hx with hx | hx
            · exact hb b hx
            · rw [List.mem_singleton.1 hx]; exact hb1
        · have e : lappT x a.Bytes d = (12, x, d) := by unfold lappT; rw [if_pos dn.down]
          rw [e, if_neg (by
            rw [dn.down]
            rintro (h | h)
            · exact absurd (show (12 : Int) = 0 from h) (by decide)
            · exact absurd h.1 (by decide))]
          exact rest syn all d x (hi.mono (by omega)) (.inr dn) hsy (by omega) hb (by omega)
      · rw [if_neg c0]
        by_cases c1 : a.Do = 1
        · rw [if_pos c1]
          unfold logfile_Log_Sync_r1 logfile_Log_none_r1
          rw [Option.bind_some, sync_eq hi (by omega), Option.bind_some, Option.bind_some]
          have hi2 := hi.sync
          rcases hs with u | dn
          · rcases sync_step hi (by omega) u hb with ⟨e1, u2⟩ | ⟨e1, dn2⟩
            · rw [if_pos e1]
              exact rest all.length all _ x (hi2.mono (by omega)) (.inl u2) (Nat.le_refl _) (by omega) hb (by omega)
            · rw [if_neg e1]
              exact rest syn all _ x (hi2.mono (by omega)) (.inr dn2) hsy (by omega) hb (by omega)
          · have e : syncT d = (12, d) := by unfold syncT; rw [if_pos dn.down]
            rw [e, if_neg (by show ¬ (12 : Int) = 0; decide)]
            exact rest syn all d x (hi.mono (by omega)) (.inr dn) hsy (by omega) hb (by omega)
        · rw [if_neg c1]
          by_cases c6 : a.Do = 6
          · rw [if_pos c6, fuse_eq hi, Option.bind_some]
            have hi2 := hi.fuseT a.N a.Keep a.Torn hNa
            refine rest syn all _ x (hi2.mono (by omega)) ?_ hsy (by omega) hb (by omega)
            rcases hs with u | dn
            · left
              unfold fuseT
              rw [if_neg (by rw [u.up]; decide)]
              split
              · exact u
              · exact ⟨u.up, u.ud.fuse _ _, u.last, u.name, u.recs, u.tail⟩
            · right
              unfold fuseT
              rw [if_pos dn.down]; exact dn
          · rw [if_neg c6]
            exact rest syn all d x (hi.mono (by omega)) hs hsy (by omega) hb (by omega)
    · rw [if_neg (by omega)]; exact hk d
theorem LogfileLasts_pure (room : Int) (l : List Law11Act) (hl : l.length ≤ 140737488351232) (hb : ∀ a ∈ l, a.Bytes.length ≤ 140737488351232) (hN : ∀ a ∈ l, a.N ≤ 9223372036854775807) : law11_LogfileLasts room l = some true := by
  have hF := FU_ge
  unfold law11_LogfileLasts disk_New
  by_cases c : room < 0 ∨ 65536 < room
  · rw [if_pos c, Option.bind_some, if_pos (show (1 : Int) ≠ 0 by decide), Option.bind_some, if_pos rfl, awake_true]; rfl
  · obtain ⟨b, e, h300⟩ := many_eq hl hb
    rw [if_neg c, Option.bind_some, if_neg (show ¬ (0 : Int) ≠ 0 by decide), e, Option.bind_some, Option.bind_some]
    cases b with
    | true => rw [if_pos rfl, awake_true]; rfl
    | false =>
      rw [if_neg (by decide)]
      dsimp only
      rw [Option.bind_some, open_new c, Option.bind_some]
      dsimp only [oc]
      rw [if_neg (by simp), jn_eq']
      refine lasts_run (h300 rfl) hN hb (fun d => by rw [awake_true]; rfl) FU 0 0 _ _ _ (by omega) (by omega) (new_inv c) (.inl ⟨rfl, ⟨?_, ?_⟩, rfl, rfl, rfl, rfl⟩) (by simp) (by simp) (by simp) (by simp)
      · intro p hp
        rw [List.mem_singleton.1 hp]
        exact ⟨0, [], by simp, by simp, rfl, .inl rfl⟩
      · intro i c p e _
        simp at e
end Go.Proofs
