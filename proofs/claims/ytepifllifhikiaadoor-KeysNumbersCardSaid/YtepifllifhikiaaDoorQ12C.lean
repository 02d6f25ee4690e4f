import Derived.Test.YtepifllifhikiaaDoorQ12B
set_option linter.unusedVariables false
set_option linter.unusedSimpArgs false
namespace Go.Proofs
open Go.Fw
set_option maxRecDepth 100000 in
theorem awake_true : law12_awake = some true := by
  with_unfolding_all decide
/-! The document's row. -/
instance : DecidableEq Ref12Entry := fun a b => if h : a.Key = b.Key ∧ a.V = b.V then isTrue (by cases a; cases b; simp_all) else isFalse (fun e => h (by rw [e]; exact ⟨rfl, rfl⟩))
theorem same_run {a b : List Ref12Entry} (he : a.length = b.length) (hl : a.length ≤ 1000000) (kj : Unit → Option Bool) (hk : kj () = some true) : ∀ (J k : Nat), k ≤ a.length → a.length - k < J → law12_same_l1 a b kj J (k : Int) = some (decide (a.drop k = b.drop k))
  | 0, k, h1, h2 => by omega
  | J + 1, k, h1, h2 => by
    rw [law12_same_l1]
    by_cases c : k < a.length
    · have c2 : k < b.length := by omega
      rw [if_pos (by omega), geti_nat, geti_nat, List.getElem?_eq_getElem c, List.getElem?_eq_getElem c2, Option.bind_some, Option.bind_some]
      have ha : a.drop k = a[k] :: a.drop (k + 1) := List.drop_eq_getElem_cons c
      have hb : b.drop k = b[k] :: b.drop (k + 1) := List.drop_eq_getElem_cons c2
      have hd : (a.drop k = b.drop k) ↔ (a[k] = b[k] ∧ a.drop (k + 1) = b.drop (k + 1)) := by rw [ha, hb, List.cons.injEq]
      have e : (a[k].Key = b[k].Key ∧ a[k].V = b[k].V) ↔ a[k] = b[k] := by
        cases a[k]; cases b[k]; simp
      by_cases c3 : a[k] = b[k]
      · rw [if_neg (by simpa using e.2 c3), i64_id (by omega) (by omega), show (k : Int) + 1 = ((k + 1 : Nat) : Int) by omega, same_run he hl kj hk J (k + 1) (by omega) (by omega)]
        exact congrArg some (decide_eq_decide.2 ⟨fun h => hd.2 ⟨c3, h⟩, fun h => (hd.1 h).2⟩)
      · rw [if_pos (by simpa using fun h1 h2 => c3 (e.1 ⟨h1, h2⟩))]
        exact congrArg some (decide_eq_false (fun h => c3 (hd.1 h).1)).symm
    · rw [if_neg (by omega), hk, List.drop_eq_nil_of_le (by omega), List.drop_eq_nil_of_le (by omega)]
      simp
theorem same_eq (a b : List Ref12Entry) (hl : a.length ≤ 1000000) : law12_same a b = some (decide (a = b)) := by
  unfold law12_same
  have hFU := FU_big
  by_cases c : a.length = b.length
  · rw [if_neg (by omega), jn_eq', show (0 : Int) = ((0 : Nat) : Int) from rfl, same_run c hl _ rfl FU 0 (by omega) (by omega)]
    simp
  · rw [if_pos (by omega)]
    have : a ≠ b := fun e => c (by rw [e])
    simp [this]
theorem rget_run {m : List Ref12Entry} {k : List UInt8} (hl : m.length ≤ 1000000) (kj : Unit → Option Int) : ∀ (J n : Nat), n ≤ m.length → m.length - n < J →
    (∃ i e, n ≤ i ∧ m[i]? = some e ∧ e.Key = k ∧ ref12_Get_l1 m k kj J (n : Int) = some (i : Int)) ∨ ((∀ i e, n ≤ i → m[i]? = some e → e.Key ≠ k) ∧ ref12_Get_l1 m k kj J (n : Int) = kj ())
  | 0, n, h1, h2 => by omega
  | J + 1, n, h1, h2 => by
    rw [ref12_Get_l1]
    by_cases c : n < m.length
    · rw [if_pos (by omega), geti_nat, List.getElem?_eq_getElem c, Option.bind_some]
      by_cases c2 : m[n].Key = k
      · rw [if_pos c2]
        exact .inl ⟨n, m[n], Nat.le_refl _, List.getElem?_eq_getElem c, c2, rfl⟩
      · rw [if_neg c2, i64_id (by omega) (by omega), show (n : Int) + 1 = ((n + 1 : Nat) : Int) by omega]
        rcases rget_run hl kj J (n + 1) (by omega) (by omega) with ⟨i, e, h3, h4, h5, h6⟩ | ⟨h3, h4⟩
        · exact .inl ⟨i, e, by omega, h4, h5, h6⟩
        · refine .inr ⟨fun i e hi he => ?_, h4⟩
          by_cases c3 : i = n
          · subst c3
            rw [List.getElem?_eq_getElem c] at he
            cases he; exact c2
          · exact h3 i e (by omega) he
    · rw [if_neg (by omega)]
      exact .inr ⟨fun i e hi he => (by rw [List.getElem?_eq_none (by omega)] at he; cases he), rfl⟩
theorem rget_eq {p : Rowk} {k : List UInt8} (hr : Rise p) (hl : p.length ≤ 1000000) :
    (∃ (i : Nat) (v : Int), ref12_Get (p.map toR) k = some (i : Int) ∧ (p.map toR)[i]? = some ⟨k, v⟩ ∧ lk p k = some v) ∨ (ref12_Get (p.map toR) k = some (-1) ∧ lk p k = none) := by
  unfold ref12_Get
  have hFU := FU_big
  rw [jn_eq']
  rcases rget_run (m := p.map toR) (k := k) (by simpa using hl) (fun _ => some (-1)) FU 0 (by omega) (by simp; omega) with ⟨i, e, h3, h4, h5, h6⟩ | ⟨h3, h4⟩
  · refine .inl ⟨i, e.V, h6, by rw [h4]; cases e; simp_all, ?_⟩
    rw [List.getElem?_map] at h4
    obtain ⟨f, hf, rfl⟩ := Option.map_eq_some_iff.1 h4
    have := lk_at hr hf
    rw [show f.key_ = k from h5] at this
    exact this
  · refine .inr ⟨h4, lk_none.2 fun f hf e => ?_⟩
    obtain ⟨i, hi⟩ := List.mem_iff_getElem?.1 hf
    exact h3 i (toR f) (by omega) (by rw [List.getElem?_map, hi]; rfl) e
/-- What Set makes of what is left of a row. -/
def setF (k : List UInt8) (v : Int) : List Ref12Entry → Bool → List Ref12Entry
  | [], put => if put then [] else [⟨k, v⟩]
  | e :: m, put => (if put = false ∧ ¬ nlt e.Key k then [⟨k, v⟩] else []) ++ (if e.Key ≠ k then [e] else []) ++ setF k v m (put || !decide (nlt e.Key k))
theorem rset_run {m : List Ref12Entry} {k : List UInt8} {v : Int} (hl : m.length ≤ 100000) (kj : List Ref12Entry → Bool → Option (List Ref12Entry)) (hk : ∀ x b, x.length ≤ 300000 → kj x b = some (if b then x else x ++ [⟨k, v⟩])) : ∀ (J n : Nat) (x : List Ref12Entry) (b : Bool), n ≤ m.length → m.length - n < J → x.length ≤ 2 * n →
    ref12_Set_l1 m k v kj J x b (n : Int) = some (x ++ setF k v (m.drop n) b)
  | 0, n, x, b, h1, h2, h3 => by omega
  | J + 1, n, x, b, h1, h2, h3 => by
    rw [ref12_Set_l1]
    by_cases c : n < m.length
    · rw [if_pos (by omega), jn_eq', geti_nat, List.getElem?_eq_getElem c, List.drop_eq_getElem_cons c, setF]
      simp only [Option.bind_some, less_nlt]
      rw [i64_id (by omega) (by omega), show (n : Int) + 1 = ((n + 1 : Nat) : Int) by omega]
      cases b with
      | true =>
        simp only [Bool.not_true, Bool.false_eq_true, if_false, Option.bind_some, Bool.true_eq_false, false_and, Bool.true_or, List.nil_append]
        by_cases c2 : m[n].Key ≠ k
        · rw [if_pos c2, if_pos c2, app_ok _ _ (by simp; omega) (by decide), Option.bind_some, rset_run hl kj hk J (n + 1) _ _ (by omega) (by omega) (by simp; omega)]
          simp
        · rw [if_neg c2, if_neg c2, rset_run hl kj hk J (n + 1) _ _ (by omega) (by omega) (by omega)]
          simp
      | false =>
        simp only [Bool.not_false, if_true, Option.bind_some, true_and, Bool.false_or]
        by_cases c1 : nlt m[n].Key k
        · simp only [c1, decide_true, Bool.not_true, Bool.false_eq_true, if_false, not_true_eq_false, List.nil_append]
          rw [if_pos (nlt_ne c1), if_pos (nlt_ne c1), app_ok _ _ (by simp; omega) (by decide), Option.bind_some, rset_run hl kj hk J (n + 1) _ _ (by omega) (by omega) (by simp; omega)]
          simp
        · simp only [c1, decide_false, Bool.not_false, if_true, not_false_eq_true]
          rw [app_ok _ _ (by simp; omega) (by decide), Option.bind_some]
          by_cases c2 : m[n].Key ≠ k
          · rw [if_pos c2, if_pos c2, app_ok _ _ (by simp; omega) (by decide), Option.bind_some, rset_run hl kj hk J (n + 1) _ _ (by omega) (by omega) (by simp; omega)]
            simp
          · rw [if_neg c2, if_neg c2, rset_run hl kj hk J (n + 1) _ _ (by omega) (by omega) (by simp; omega)]
            simp
    · rw [if_neg (by omega), List.drop_eq_nil_of_le (by omega), hk x b (by omega), setF]
      cases b <;> simp
theorem setF_true {k : List UInt8} {v : Int} : ∀ {p : Rowk}, (∀ f ∈ p, nlt k f.key_) → setF k v (p.map toR) true = p.map toR
  | [], h => rfl
  | f :: p, h => by
    rw [List.map_cons, setF, Bool.true_or, setF_true (fun g hg => h g (by simp [hg]))]
    have : (toR f).Key ≠ k := fun e => nlt_ne (h f (by simp)) e.symm
    simp [this]
theorem wi_cons (f : KeysEntryInt) (p : Rowk) (k : List UInt8) (v : Int) (h : nlt f.key_ k) : wi (f :: p) k v = f :: wi p k v := by
  unfold wi
  rw [wo_cons, if_neg (nlt_ne h), lb_cons, if_pos h]; rfl
theorem wi_ge {f : KeysEntryInt} {p : Rowk} {k : List UInt8} {v : Int} (hr : Rise (f :: p)) (h : ¬ nlt f.key_ k) : wi (f :: p) k v = ⟨k, v⟩ :: wo (f :: p) k := by
  have hz : lb (wo (f :: p) k) k = 0 := by
    have h2 := lb_zero hr h
    cases hw : wo (f :: p) k with
    | nil => rfl
    | cons g q =>
      rw [lb_cons, if_neg (h2 g ((mem_wo.1 (by rw [hw]; simp)).1))]
  unfold wi
  rw [hz]; rfl
theorem setF_eq {k : List UInt8} {v : Int} : ∀ {p : Rowk}, Rise p → setF k v (p.map toR) false = (wi p k v).map toR
  | [], hr => rfl
  | f :: p, hr => by
    have hr' := List.pairwise_cons.1 hr
    rw [List.map_cons, setF]
    by_cases c : nlt f.key_ k
    · have c' : nlt (toR f).Key k := c
      rw [wi_cons f p k v c, List.map_cons, ← setF_eq hr'.2]
      simp [c', nlt_ne c']
    · have c' : ¬ nlt (toR f).Key k := c
      rw [wi_ge hr c]
      by_cases c2 : f.key_ = k
      · have c3 : (toR f).Key = k := c2
        rw [wo_cons, if_pos c2, wo_self (lk_none.2 fun g hg e => (nlt_ne (hr'.1 g hg)) (by rw [c2, e]))]
        have := setF_true (v := v) (p := p) (k := k) (fun g hg => c2 ▸ hr'.1 g hg)
        have hi := nlt_irrefl k
        simp [c', c3, this, hi]
        rfl
      · have c3 : (toR f).Key ≠ k := c2
        have c4 : nlt k f.key_ := by
          rcases nlt_total f.key_ k with h | h | h
          · exact absurd h c
          · exact absurd h c2
          · exact h
        rw [wo_cons, if_neg c2, wo_self (lk_none.2 fun g hg e => nlt_irrefl k (by have := nlt_trans c4 (hr'.1 g hg); rwa [e] at this))]
        have := setF_true (v := v) (p := p) (k := k) (fun g hg => nlt_trans c4 (hr'.1 g hg))
        simp [c', c3, this]
        rfl
theorem rset_eq {p : Rowk} {k : List UInt8} {v : Int} (hr : Rise p) (hl : p.length ≤ 100000) : ref12_Set (p.map toR) k v = some ((wi p k v).map toR) := by
  unfold ref12_Set
  have hFU := FU_big
  rw [jn_eq']
  have := rset_run (m := p.map toR) (k := k) (v := v) (by simpa using hl) (fun (x2 : (List Ref12Entry)) (x3 : Bool) => if (!x3) = true then (app 5864062014805 x2 ([(⟨k, v⟩ : Ref12Entry)] : List Ref12Entry)).bind fun x16 => some x16 else some x2) (fun x b hx => by
    cases b
    · simp only [Bool.not_false, if_true]
      rw [app_ok _ _ (by simp; omega) (by decide)]; simp
    · simp) FU 0 [] false (by omega) (by simp; omega) (by simp)
  rw [List.drop_zero, setF_eq hr, List.nil_append] at this
  exact this
theorem rdel_run {m : List Ref12Entry} {k : List UInt8} (hl : m.length ≤ 100000) : ∀ (J n : Nat) (x : List Ref12Entry), n ≤ m.length → m.length - n < J → x.length ≤ n →
    ref12_Delete_l1 m k (fun (x2 : (List Ref12Entry)) => some x2) J x (n : Int) = some (x ++ (m.drop n).filter fun e => e.Key != k)
  | 0, n, x, h1, h2, h3 => by omega
  | J + 1, n, x, h1, h2, h3 => by
    rw [ref12_Delete_l1]
    by_cases c : n < m.length
    · rw [if_pos (by omega), geti_nat, List.getElem?_eq_getElem c, List.drop_eq_getElem_cons c, List.filter_cons]
      simp only [Option.bind_some]
      rw [i64_id (by omega) (by omega), show (n : Int) + 1 = ((n + 1 : Nat) : Int) by omega]
      by_cases c2 : m[n].Key ≠ k
      · rw [if_pos c2, if_pos (by simpa using c2), app_ok _ _ (by simp; omega) (by decide), Option.bind_some, rdel_run hl J (n + 1) _ (by omega) (by omega) (by simp; omega)]
        simp
      · rw [if_neg c2, if_neg (by simpa using c2), rdel_run hl J (n + 1) _ (by omega) (by omega) (by omega)]
    · rw [if_neg (by omega), List.drop_eq_nil_of_le (by omega)]; simp
theorem rdel_eq {p : Rowk} {k : List UInt8} (hl : p.length ≤ 100000) : ref12_Delete (p.map toR) k = some ((wo p k).map toR) := by
  unfold ref12_Delete
  have hFU := FU_big
  rw [jn_eq']
  have := rdel_run (m := p.map toR) (k := k) (by simpa using hl) FU 0 [] (by omega) (by simp; omega) (by simp)
  rw [List.drop_zero, List.nil_append, List.filter_map] at this
  exact this
theorem rscan_run {m : List Ref12Entry} {a b : List UInt8} (hl : m.length ≤ 100000) : ∀ (J n : Nat) (x : List Ref12Entry), n ≤ m.length → m.length - n < J → x.length ≤ n →
    ref12_Scan_l1 m a b (fun (x2 : (List Ref12Entry)) => some x2) J x (n : Int) = some (x ++ (m.drop n).filter fun e => !decide (nlt e.Key a) && (decide (b = []) || decide (nlt e.Key b)))
  | 0, n, x, h1, h2, h3 => by omega
  | J + 1, n, x, h1, h2, h3 => by
    rw [ref12_Scan_l1]
    by_cases c : n < m.length
    · rw [if_pos (by omega), geti_nat, List.getElem?_eq_getElem c, List.drop_eq_getElem_cons c, List.filter_cons]
      simp only [Option.bind_some, less_nlt]
      rw [i64_id (by omega) (by omega), show (n : Int) + 1 = ((n + 1 : Nat) : Int) by omega]
      have r1 := rscan_run (a := a) (b := b) hl J (n + 1) (x ++ [m[n]]) (by omega) (by omega) (by simp; omega)
      have r2 := rscan_run (a := a) (b := b) hl J (n + 1) x (by omega) (by omega) (by omega)
      have ha : app 5864062014805 x [m[n]] = some (x ++ [m[n]]) := app_ok _ _ (by simp; omega) (by decide)
      by_cases c1 : nlt m[n].Key a
      · simp only [c1, decide_true, Bool.not_true, Bool.false_eq_true, if_false, Option.bind_some, r2, Bool.false_and]
      · by_cases c2 : b = []
        · subst c2
          simp only [c1, decide_false, Bool.not_false, if_true, Option.bind_some, ha, r1, decide_true, Bool.true_or, Bool.and_true, List.append_assoc, List.singleton_append]
        · by_cases c3 : nlt m[n].Key b
          · simp only [c1, c2, c3, decide_false, Bool.not_false, if_true, if_false, Option.bind_some, ha, r1, decide_true, Bool.or_true, Bool.false_or, Bool.and_true, List.append_assoc, List.singleton_append]
          · simp only [c1, c2, c3, decide_false, Bool.not_false, if_true, if_false, Option.bind_some, r2, Bool.or_self, Bool.and_false, Bool.false_eq_true]
    · rw [if_neg (by omega), List.drop_eq_nil_of_le (by omega)]; simp
theorem rscan_eq {p : Rowk} {a b : List UInt8} (hl : p.length ≤ 100000) : ref12_Scan (p.map toR) a b = some ((betw p a b).map toR) := by
  unfold ref12_Scan
  have hFU := FU_big
  rw [jn_eq']
  have := rscan_run (m := p.map toR) (a := a) (b := b) (by simpa using hl) FU 0 [] (by omega) (by simp; omega) (by simp)
  rw [List.drop_zero, List.nil_append, List.filter_map] at this
  exact this
end Go.Proofs
