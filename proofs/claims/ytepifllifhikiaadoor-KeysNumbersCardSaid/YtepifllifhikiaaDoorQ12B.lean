import Derived.Test.YtepifllifhikiaaDoorQ12A
set_option linter.unusedVariables false
set_option linter.unusedSimpArgs false
namespace Go.Proofs
open Go.Fw
/-! The index's calls, in plain functions. -/
theorem take_snoc {α : Type} {p : List α} {k : Nat} {f : α} (h : p[k]? = some f) : p.take (k + 1) = p.take k ++ [f] := by
  rw [List.take_add_one, h]; rfl
theorem wo_cut : ∀ {p : Rowk} {n : List UInt8} {f : KeysEntryInt}, Rise p → p[lb p n]? = some f → f.key_ = n → p.take (lb p n) ++ p.drop (lb p n + 1) = wo p n
  | [], n, f, hr, h, e => by simp at h
  | g :: p, n, f, hr, h, e => by
    have hr' := List.pairwise_cons.1 hr
    rw [lb_cons] at h ⊢
    by_cases c : nlt g.key_ n
    · rw [if_pos c] at h ⊢
      rw [List.getElem?_cons_succ] at h
      rw [List.take_succ_cons, List.drop_succ_cons, List.cons_append, wo_cut hr'.2 h e, wo_cons, if_neg (nlt_ne c)]
    · rw [if_neg c] at h ⊢
      simp at h
      subst h
      rw [wo_cons, if_pos e, wo_self (lk_none.2 fun x hx e2 => (nlt_ne (hr'.1 x hx)) (by rw [e, e2]))]
      simp
theorem set_cut : ∀ {p : Rowk} {n : List UInt8} {b : Int} {f : KeysEntryInt}, Rise p → p[lb p n]? = some f → f.key_ = n → p.set (lb p n) ⟨n, b⟩ = wi p n b
  | [], n, b, f, hr, h, e => by simp at h
  | g :: p, n, b, f, hr, h, e => by
    have hr' := List.pairwise_cons.1 hr
    unfold wi
    rw [lb_cons] at h ⊢
    by_cases c : nlt g.key_ n
    · rw [if_pos c] at h ⊢
      rw [List.getElem?_cons_succ] at h
      have ih := set_cut (b := b) hr'.2 h e
      rw [List.set_cons_succ, ih, wo_cons, if_neg (nlt_ne c), lb_cons, if_pos c]
      rfl
    · rw [if_neg c] at h ⊢
      simp at h
      subst h
      have hn : lk p n = none := lk_none.2 fun x hx e2 => (nlt_ne (hr'.1 x hx)) (by rw [e, e2])
      rw [wo_cons, if_pos e, wo_self hn]
      have h0 : lb p n = 0 := by
        cases p with
        | nil => rfl
        | cons x p => rw [lb_cons, if_neg (fun h => nlt_asymm h (e ▸ hr'.1 x (by simp)))]
      rw [h0]; rfl
theorem place_eq {p : Rowk} {n : List UInt8} (hr : Rise p) (hl : p.length ≤ 1000000) : keys_Index_int_place ⟨p⟩ n = some ((lb p n : Int), (lk p n).isSome) := by
  unfold keys_Index_int_place keys_Index_int_rows
  rw [Option.bind_some, find_eq hr hl]; rfl
theorem get_eq {p : Rowk} {n : List UInt8} (hr : Rise p) (hl : p.length ≤ 1000000) : keys_Index_int_Get ⟨p⟩ n = some ((lk p n).getD 0, (lk p n).isSome) := by
  unfold keys_Index_int_Get
  rw [place_eq hr hl, Option.bind_some]
  rcases lb_hit (n := n) hr with ⟨f, e, e2, e3⟩ | ⟨e, e2⟩
  · rw [e3]; simp [geti_nat, e]
  · rw [e2]; simp
theorem set_eq {p : Rowk} {n : List UInt8} {v : Int} (hr : Rise p) (hl : p.length ≤ 100000) : keys_Index_int_Set ⟨p⟩ n v = some ((lk p n).isNone, ⟨wi p n v⟩) := by
  unfold keys_Index_int_Set
  rw [place_eq hr (by omega), Option.bind_some]
  rcases lb_hit (n := n) hr with ⟨f, e, e2, e3⟩ | ⟨e, e2⟩
  · rw [e3]
    have := set_cut (b := v) hr e e2
    simp only [Option.isSome_some, if_true, geti_nat, e, Option.bind_some, Int.toNat_natCast, e2, this, Option.isNone_some]
  · rw [e2]
    have h1 := lb_le p n
    simp only [Option.isSome_none, Bool.false_eq_true, if_false, Option.isNone_none]
    unfold insl
    rw [if_pos ⟨by omega, by omega, by omega⟩, Option.bind_some, Int.toNat_natCast]
    unfold wi
    rw [wo_self e2]
theorem del_eq {p : Rowk} {n : List UInt8} (hr : Rise p) (hl : p.length ≤ 100000) : keys_Index_int_Delete ⟨p⟩ n = some ((lk p n).isSome, ⟨wo p n⟩) := by
  unfold keys_Index_int_Delete
  rw [place_eq hr (by omega), Option.bind_some]
  rcases lb_hit (n := n) hr with ⟨f, e, e2, e3⟩ | ⟨e, e2⟩
  · have h1 := (List.getElem?_eq_some_iff.1 e).1
    rw [e3]
    simp only [Option.isSome_some, if_true]
    unfold dell
    rw [i64_id (by omega) (by omega), if_pos ⟨by omega, by omega, rfl, by omega⟩, Option.bind_some, Int.toNat_natCast, wo_cut hr e e2]
  · rw [e2, wo_self e2]; simp
theorem len_eq (p : Rowk) : keys_Index_int_Len ⟨p⟩ = some (p.length : Int) := rfl
theorem first_eq {p : Rowk} {n : List UInt8} (hr : Rise p) (hl : p.length ≤ 1000000) : keys_Index_int_First ⟨p⟩ n = some (match p[lb p n]? with | some f => (f.key_, true) | none => ([], false)) := by
  unfold keys_Index_int_First
  rw [place_eq hr hl, Option.bind_some, len_eq, Option.bind_some]
  by_cases c : (p.length : Int) ≤ (lb p n : Int)
  · rw [if_pos c, List.getElem?_eq_none (by omega)]
  · have c2 : lb p n < p.length := by omega
    rw [if_neg c]
    simp only [geti_nat, List.getElem?_eq_getElem c2]
    rfl
/-- The entries from a key on, to another one. -/
def betw (p : Rowk) (a b : List UInt8) : Rowk := p.filter fun f => !decide (nlt f.key_ a) && (decide (b = []) || decide (nlt f.key_ b))
theorem lb_zero {g : KeysEntryInt} {p : Rowk} {b : List UInt8} (hr : Rise (g :: p)) (h : ¬ nlt g.key_ b) : ∀ f ∈ g :: p, ¬ nlt f.key_ b := by
  intro f hf
  rcases List.mem_cons.1 hf with rfl | hf
  · exact h
  · exact fun h2 => h (nlt_trans ((List.pairwise_cons.1 hr).1 f hf) h2)
theorem drop_lb : ∀ {p : Rowk} {a : List UInt8}, Rise p → p.drop (lb p a) = p.filter fun f => !decide (nlt f.key_ a)
  | [], a, hr => rfl
  | g :: p, a, hr => by
    rw [lb_cons]
    by_cases c : nlt g.key_ a
    · rw [if_pos c, List.drop_succ_cons, drop_lb (List.pairwise_cons.1 hr).2, List.filter_cons, if_neg (by simp [c])]
    · rw [if_neg c, List.drop_zero, List.filter_eq_self.2]
      intro f hf
      simpa using lb_zero hr c f hf
theorem take_lb : ∀ {p : Rowk} {a : List UInt8}, Rise p → p.take (lb p a) = p.filter fun f => decide (nlt f.key_ a)
  | [], a, hr => rfl
  | g :: p, a, hr => by
    rw [lb_cons]
    by_cases c : nlt g.key_ a
    · rw [if_pos c, List.take_succ_cons, take_lb (List.pairwise_cons.1 hr).2, List.filter_cons, if_pos (by simp [c])]
    · rw [if_neg c, List.take_zero, List.filter_eq_nil_iff.2]
      intro f hf
      simpa using lb_zero hr c f hf
theorem rise_drop {p : Rowk} (hr : Rise p) (k : Nat) : Rise (p.drop k) := List.Pairwise.sublist (List.drop_sublist k p) hr
theorem rise_take {p : Rowk} (hr : Rise p) (k : Nat) : Rise (p.take k) := List.Pairwise.sublist (List.take_sublist k p) hr
theorem lb_take {p : Rowk} {a b : List UInt8} (h : lb p a ≤ lb p b) : lb (p.take (lb p b)) a = lb p a := by
  induction p with
  | nil => rfl
  | cons g p ih =>
    rw [lb_cons] at h ⊢
    rw [lb_cons] at h ⊢
    by_cases cb : nlt g.key_ b
    · rw [if_pos cb] at h ⊢
      rw [List.take_succ_cons, lb_cons]
      by_cases ca : nlt g.key_ a
      · rw [if_pos ca] at h ⊢
        rw [if_pos ca, ih (by omega)]
      · rw [if_neg ca, if_neg ca]
    · rw [if_neg cb] at h ⊢
      by_cases ca : nlt g.key_ a
      · rw [if_pos ca] at h; omega
      · rw [if_neg ca]; rfl
theorem betw_cut {p : Rowk} {a b : List UInt8} (hr : Rise p) (hb : b ≠ []) : (p.drop (min (lb p a) (lb p b))).take (lb p b - min (lb p a) (lb p b)) = betw p a b := by
  have e : betw p a b = (p.filter fun f => decide (nlt f.key_ b)).filter fun f => !decide (nlt f.key_ a) := by
    unfold betw
    rw [List.filter_filter]
    simp [hb]
  rw [e, ← take_lb hr, ← drop_lb (rise_take hr _), ← List.drop_take]
  by_cases c : lb p a ≤ lb p b
  · rw [Nat.min_eq_left c, lb_take c]
  · rw [Nat.min_eq_right (by omega)]
    rw [List.drop_eq_nil_of_le (by rw [List.length_take]; omega), List.drop_eq_nil_of_le]
    rw [List.length_take]
    have h1 : ∀ (q : Rowk), (∀ f ∈ q, nlt f.key_ a) → lb q a = q.length := by
      intro q
      induction q with
      | nil => intro _; rfl
      | cons g q ih => intro h; rw [lb_cons, if_pos (h g (by simp)), ih (fun f hf => h f (by simp [hf])), List.length_cons]
    rw [h1]
    · rw [List.length_take]; omega
    · intro f hf
      obtain ⟨k, hk⟩ := List.mem_iff_getElem?.1 hf
      have h2 := (List.getElem?_eq_some_iff.1 hk).1
      rw [List.length_take] at h2
      rw [List.getElem?_take, if_pos (by omega)] at hk
      exact lb_lt hk (by omega)
theorem betw_all (p : Rowk) : betw p [] [] = p := by
  unfold betw
  rw [List.filter_eq_self]
  intro f hf
  simp [nlt_nil]
theorem betw_open {p : Rowk} {a : List UInt8} (hr : Rise p) : p.drop (lb p a) = betw p a [] := by
  rw [drop_lb hr]; unfold betw; simp
theorem betw_len (p : Rowk) (a b : List UInt8) : (betw p a b).length ≤ p.length := List.length_filter_le _ _
theorem betw_rise {p : Rowk} {a b : List UInt8} (hr : Rise p) : Rise (betw p a b) := List.Pairwise.filter _ hr
theorem clone_eq (p : Rowk) (hl : p.length ≤ 1000000) : slices_Clone_keys_entry_int_keys_entry_int p = some p := by
  unfold slices_Clone_keys_entry_int_keys_entry_int
  rw [app_ok _ _ (by simpa using hl) (by decide)]; rfl
theorem copy_eq (p : Rowk) (hl : p.length ≤ 1000000) : keys_Index_int_Copy ⟨p⟩ = some ⟨p⟩ := by
  unfold keys_Index_int_Copy
  rw [clone_eq p hl]; rfl
/-- Who goes over a row, to an end or till he is stopped. -/
def over {XT : Type} (c : XT → (List UInt8 × Int) → Option (Bool × XT)) : Rowk → XT → Option XT
  | [], x => some x
  | f :: p, x => (c x (f.key_, f.v)).bind fun r => if r.1 = true then over c p r.2 else some r.2
theorem scan_run {XT : Type} {q : Rowk} (a0 : XT → (List UInt8 × Int) → Option (Bool × XT)) (hl : q.length ≤ 1000000) : ∀ (J k : Nat) (x : XT), k ≤ q.length → q.length - k < J → keys_Index_int_Scan_1_l1 q a0 J (k : Int) x = over a0 (q.drop k) x
  | 0, k, x, h1, h2 => by omega
  | J + 1, k, x, h1, h2 => by
    rw [keys_Index_int_Scan_1_l1]
    by_cases c : k < q.length
    · rw [if_pos (by omega), geti_nat, List.getElem?_eq_getElem c, Option.bind_some, List.drop_eq_getElem_cons c, over]
      congr 1
      funext r
      cases h : r.1 with
      | true =>
        simp only [Bool.not_true, Bool.false_eq_true, if_false, if_true]
        rw [i64_id (by omega) (by omega), show (k : Int) + 1 = ((k + 1 : Nat) : Int) by omega]
        exact scan_run a0 hl J (k + 1) _ (by omega) (by omega)
      | false => simp
    · rw [if_neg (by omega), List.drop_eq_nil_of_le (by omega), over]
theorem scan_eq {XT : Type} {p : Rowk} {a b : List UInt8} (a0 : XT → (List UInt8 × Int) → Option (Bool × XT)) (x : XT) (hr : Rise p) (hl : p.length ≤ 1000000) : keys_Index_int_Scan_1 a0 x ⟨p⟩ a b = over a0 (betw p a b) x := by
  unfold keys_Index_int_Scan_1
  have hFU := FU_big
  rw [place_eq hr hl, Option.bind_some, len_eq, Option.bind_some, jn_eq']
  have h1 := lb_le p a
  have h2 := lb_le p b
  simp only [keys_Index_int_rows, Option.bind_some]
  by_cases c : b ≠ []
  · rw [if_pos c, place_eq hr hl, Option.bind_some]
    simp only
    have e : subl p (min (lb p a : Int) (lb p b : Int)) (lb p b : Int) = some (betw p a b) := by
      unfold subl
      rw [if_pos ⟨by omega, by omega, by omega⟩, ← betw_cut hr c]
      congr 1
      rw [show (min (lb p a : Int) (lb p b : Int)).toNat = min (lb p a) (lb p b) by omega, Int.toNat_natCast]
    rw [e, Option.bind_some, clone_eq _ (Nat.le_trans (betw_len _ _ _) hl), Option.bind_some]
    have := scan_run (q := betw p a b) a0 (Nat.le_trans (betw_len _ _ _) hl) FU 0 x (by omega) (by have := betw_len p a b; omega)
    exact this
  · rw [if_neg c]
    have hb : b = [] := by simpa using c
    subst hb
    have e : subl p (min (lb p a : Int) (p.length : Int)) (p.length : Int) = some (betw p a []) := by
      rw [show min (lb p a : Int) (p.length : Int) = ((lb p a : Nat) : Int) by omega, subl_tail _ _ h1, betw_open hr]
    rw [e, Option.bind_some, clone_eq _ (Nat.le_trans (betw_len _ _ _) hl), Option.bind_some]
    have := scan_run (q := betw p a []) a0 (Nat.le_trans (betw_len _ _ _) hl) FU 0 x (by omega) (by have := betw_len p a []; omega)
    exact this
/-- What is taken of a row, at most so many. -/
def takeM (most : Int) (p : Rowk) : Rowk := if 0 ≤ most then p.take most.toNat else p
def toR (f : KeysEntryInt) : Ref12Entry := ⟨f.key_, f.v⟩
theorem over_row (most : Int) : ∀ (p : Rowk) (r : List Ref12Entry), r.length + p.length ≤ 1000000 →
    (over (stopC (fun (x1 : (List Ref12Entry)) (x2 : ((List UInt8) × Int)) => if (0 ≤ most) ∧ (most ≤ (x1.length : Int)) then some (false, x1) else (app 5864062014805 x1 ([(⟨x2.1, x2.2⟩ : Ref12Entry)] : List Ref12Entry)).bind fun x5 => some (true, x5))) p (false, r)).map (·.2) = some (r ++ (takeM (if 0 ≤ most then max (most - r.length) 0 else most) p).map toR)
  | [], r, h => by simp [over, takeM]
  | f :: p, r, h => by
    rw [over]
    unfold stopC
    simp only [Bool.false_eq_true, if_false]
    simp at h
    by_cases c : (0 ≤ most) ∧ (most ≤ (r.length : Int))
    · rw [if_pos c]
      have e : max (most - (r.length : Int)) 0 = 0 := by omega
      simp [takeM, c.1, e]
    · rw [if_neg c, app_ok _ _ (by simp; omega) (by decide)]
      have ih := over_row most p (r ++ [⟨f.key_, f.v⟩]) (by simp; omega)
      unfold stopC at ih
      simp only [Option.bind_some, Option.map_some, Bool.not_true, if_true]
      rw [ih]
      congr 1
      by_cases c2 : 0 ≤ most
      · have c3 : ¬ most ≤ (r.length : Int) := fun h => c ⟨c2, h⟩
        obtain ⟨m, rfl⟩ : ∃ m : Nat, most = m := ⟨most.toNat, by omega⟩
        have e1 : (max ((m : Int) - ((r ++ [(⟨f.key_, f.v⟩ : Ref12Entry)]).length : Int)) 0).toNat = m - r.length - 1 := by simp; omega
        have e2 : (max ((m : Int) - (r.length : Int)) 0).toNat = (m - r.length - 1) + 1 := by omega
        have e3 : (0 : Int) ≤ max ((m : Int) - ((r ++ [(⟨f.key_, f.v⟩ : Ref12Entry)]).length : Int)) 0 := by omega
        have e4 : (0 : Int) ≤ max ((m : Int) - (r.length : Int)) 0 := by omega
        simp only [takeM, if_pos c2, if_pos e3, if_pos e4, e1, e2, List.take_succ_cons, List.map_cons, List.append_assoc, List.singleton_append]
        rfl
      · simp only [takeM, if_neg c2, List.map_cons, List.append_assoc, List.singleton_append]
        rfl
theorem row_eq {p : Rowk} {a b : List UInt8} {most : Int} (hr : Rise p) (hl : p.length ≤ 100000) : law12_row_c39 ⟨p⟩ a b most = some ((takeM most (betw p a b)).map toR) := by
  unfold law12_row_c39
  rw [scan_eq _ _ hr (by omega)]
  have := over_row most (betw p a b) [] (by have := betw_len p a b; simp; omega)
  cases h : over (stopC (fun (x1 : (List Ref12Entry)) (x2 : ((List UInt8) × Int)) => if (0 ≤ most) ∧ (most ≤ (x1.length : Int)) then some (false, x1) else (app 5864062014805 x1 ([(⟨x2.1, x2.2⟩ : Ref12Entry)] : List Ref12Entry)).bind fun x5 => some (true, x5))) (betw p a b) (false, []) with
  | none => rw [h] at this; cases this
  | some x =>
    rw [h] at this
    simp only [Option.map_some, Option.some.injEq, List.nil_append, List.length_nil] at this
    rw [Option.bind_some, this]
    congr 2
    by_cases c : 0 ≤ most
    · rw [if_pos c]
      congr 1
      simp; omega
    · rw [if_neg c]
theorem over_keys : ∀ (p : Rowk) (r : List (List UInt8)), r.length + p.length ≤ 1000000 →
    (over (stopC (fun (x2 : (List (List UInt8))) (x3 : ((List UInt8) × Int)) => (app 8796093022208 x2 ([x3.1] : List (List UInt8))).bind fun x6 => some (true, x6))) p (false, r)).bind (fun x5 => some x5.2) = some (r ++ p.map (·.key_))
  | [], r, h => by simp [over]
  | f :: p, r, h => by
    rw [over]
    unfold stopC
    simp at h
    simp only [Bool.false_eq_true, if_false]
    rw [app_ok _ _ (by simp; omega) (by decide)]
    have ih := over_keys p (r ++ [f.key_]) (by simp; omega)
    unfold stopC at ih
    simp only [Option.bind_some, Option.map_some, Bool.not_true, if_true]
    rw [ih]
    simp
theorem keys_eq {p : Rowk} (hr : Rise p) (hl : p.length ≤ 100000) : keys_Index_int_Keys ⟨p⟩ = some (p.map (·.key_)) := by
  unfold keys_Index_int_Keys
  simp only [keys_Index_int_Scan, Option.bind_some]
  rw [scan_eq _ _ hr (by omega), betw_all, over_keys p [] (by simp; omega)]
  simp
end Go.Proofs
