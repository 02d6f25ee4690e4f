import Derived.Test.YtepifllifhikiaaDoorQ12D
set_option linter.unusedVariables false
set_option linter.unusedSimpArgs false
namespace Go.Proofs
open Go.Fw
/-! KeysRow -/
/-- What a set or a deletion makes of a row. -/
def opP (p : Rowk) (a : Law12Act) : Rowk := if a.Do = 0 then wi p a.Key a.V else wo p a.Key
def opv (a : Law12Act) : Option Int := if a.Do = 0 then some a.V else none
theorem opP_rise {p : Rowk} {a : Law12Act} (hr : Rise p) : Rise (opP p a) := by
  unfold opP
  split
  · exact wi_rise hr
  · exact wo_rise hr
theorem opP_len (p : Rowk) (a : Law12Act) : (opP p a).length ≤ p.length + 1 := by
  unfold opP
  split
  · exact wi_len _ _ _
  · exact Nat.le_trans (wo_len _ _) (by omega)
theorem lk_opP (p : Rowk) (a : Law12Act) (k : List UInt8) : lk (opP p a) k = if k = a.Key then opv a else lk p k := by
  unfold opP opv
  by_cases h : a.Do = 0
  · rw [if_pos h, if_pos h, lk_wi]
  · rw [if_neg h, if_neg h, lk_wo]
def allP (p : Rowk) (l : List Law12Act) : Rowk := l.foldl opP p
theorem allP_rise : ∀ {l : List Law12Act} {p : Rowk}, Rise p → Rise (allP p l)
  | [], p, h => h
  | a :: l, p, h => allP_rise (l := l) (opP_rise h)
theorem allP_len : ∀ (l : List Law12Act) (p : Rowk), (allP p l).length ≤ p.length + l.length
  | [], p => by simp [allP]
  | a :: l, p => by
    have h1 := allP_len l (opP p a)
    have h2 := opP_len p a
    show (allP (opP p a) l).length ≤ _
    rw [List.length_cons]; omega
theorem lk_allP_other : ∀ {l : List Law12Act} {p : Rowk} {k : List UInt8}, (∀ a ∈ l, a.Key ≠ k) → lk (allP p l) k = lk p k
  | [], p, k, h => rfl
  | a :: l, p, k, h => by
    show lk (allP (opP p a) l) k = _
    rw [lk_allP_other (fun b hb => h b (by simp [hb])), lk_opP, if_neg (fun e => h a (by simp) e.symm)]
theorem lk_allP_last {l : List Law12Act} {p : Rowk} {j : Nat} (hj : j < l.length) (h : ∀ m, j < m → ∀ hm : m < l.length, l[m].Key ≠ l[j].Key) : lk (allP p l) l[j].Key = opv l[j] := by
  have e : l = l.take j ++ l[j] :: l.drop (j + 1) := by rw [← List.drop_eq_getElem_cons hj, List.take_append_drop]
  have : allP p l = allP (opP (allP p (l.take j)) l[j]) (l.drop (j + 1)) := by
    conv => lhs; rw [e]
    unfold allP
    rw [List.foldl_append, List.foldl_cons]
  rw [this, lk_allP_other, lk_opP, if_pos rfl]
  intro a ha
  obtain ⟨m, hm⟩ := List.mem_iff_getElem?.1 ha
  rw [List.getElem?_drop] at hm
  obtain ⟨h1, h2⟩ := List.getElem?_eq_some_iff.1 hm
  rw [← h2]
  exact h (j + 1 + m) (by omega) h1
theorem krow1 {l : List Law12Act} (hl : l.length ≤ 400) (kj : KeysIndexInt → Option Bool) : ∀ (J n : Nat) (p : Rowk), n ≤ l.length → l.length - n < J → Rise p → p.length ≤ n →
    law12_KeysRow_l1 l kj J (n : Int) ⟨p⟩ = kj ⟨allP p (l.drop n)⟩
  | 0, n, p, h1, h2, h3, h4 => by omega
  | J + 1, n, p, h1, h2, h3, h4 => by
    rw [law12_KeysRow_l1]
    by_cases c : n < l.length
    · rw [if_pos (by omega), geti_nat, List.getElem?_eq_getElem c, List.drop_eq_getElem_cons c]
      simp only [Option.bind_some]
      rw [i64_id (by omega) (by omega), show (n : Int) + 1 = ((n + 1 : Nat) : Int) by omega]
      have h5 := opP_len p l[n]
      have ih := krow1 hl kj J (n + 1) (opP p l[n]) (by omega) (by omega) (opP_rise h3) (by omega)
      show _ = kj ⟨allP (opP p l[n]) (l.drop (n + 1))⟩
      rw [← ih]
      unfold opP
      by_cases c2 : l[n].Do = 0
      · rw [if_pos c2, if_pos c2, set_eq h3 (by omega), Option.bind_some]
      · rw [if_neg c2, if_neg c2, del_eq h3 (by omega), Option.bind_some]
    · rw [if_neg (by omega), List.drop_eq_nil_of_le (by omega)]
      rfl
theorem krow3 {l : List Law12Act} (hl : l.length ≤ 400) {i : Nat} (hi : i < l.length) (kj : Int → Option Bool) : ∀ (J n : Nat) (j : Nat) (hj : j < l.length), n ≤ l.length → l.length - n < J → l[j].Key = l[i].Key → (∀ m, j < m → m < n → ∀ hm : m < l.length, l[m].Key ≠ l[i].Key) →
    ∃ (q : Nat) (hq : q < l.length), l[q].Key = l[i].Key ∧ (∀ m, q < m → ∀ hm : m < l.length, l[m].Key ≠ l[i].Key) ∧ law12_KeysRow_l3 l (i : Int) kj J (j : Int) (n : Int) = kj (q : Int)
  | 0, n, j, hj, h1, h2, h3, h4 => by omega
  | J + 1, n, j, hj, h1, h2, h3, h4 => by
    rw [law12_KeysRow_l3]
    by_cases c : n < l.length
    · rw [if_pos (by omega), geti_nat, List.getElem?_eq_getElem c, geti_nat, List.getElem?_eq_getElem hi]
      simp only [Option.bind_some]
      rw [i64_id (by omega) (by omega), show (n : Int) + 1 = ((n + 1 : Nat) : Int) by omega]
      by_cases c2 : l[n].Key = l[i].Key
      · rw [if_pos c2]
        exact krow3 hl hi kj J (n + 1) n c (by omega) (by omega) c2 (fun m h5 h6 => by omega)
      · rw [if_neg c2]
        refine krow3 hl hi kj J (n + 1) j hj (by omega) (by omega) h3 (fun m h5 h6 hm => ?_)
        by_cases c3 : m = n
        · subst c3; exact c2
        · exact h4 m h5 (by omega) hm
    · rw [if_neg (by omega)]
      exact ⟨j, hj, h3, fun m h5 hm => h4 m h5 (by omega) hm, rfl⟩
theorem krow2 {l : List Law12Act} (hl : l.length ≤ 400) (kj : Unit → Option Bool) : ∀ (J n : Nat), n ≤ l.length → l.length - n < J → law12_KeysRow_l2 l ⟨allP [] l⟩ kj J (n : Int) = kj ()
  | 0, n, h1, h2 => by omega
  | J + 1, n, h1, h2 => by
    rw [law12_KeysRow_l2, jn_eq']
    by_cases c : n < l.length
    · rw [if_pos (by omega), jn_eq', jn_eq', i64_id (by omega) (by omega), show (n : Int) + 1 = ((n + 1 : Nat) : Int) by omega]
      obtain ⟨q, hq, h3, h4, h5⟩ := krow3 hl c (fun (x19 : Int) => (geti l (n : Int)).bind fun x24 => (keys_Index_int_Get ⟨allP [] l⟩ x24.Key).bind fun x25 => (geti l x19).bind fun x26 => (if (!(x25.2 == decide (x26.Do = 0))) = true then some true else (if x25.2 = true then (geti l x19).bind fun x29 => some (decide (x25.1 ≠ x29.V)) else some false).bind fun x28 => some x28).bind fun x27 => if x27 = true then some false else law12_KeysRow_l2 l ⟨allP [] l⟩ kj J ((n + 1 : Nat) : Int)) FU n n c (by omega) (by have := FU_big; omega) rfl (fun m h5 h6 => by omega)
      have hlen := allP_len l []
      have hr := allP_rise (l := l) (p := []) List.Pairwise.nil
      have e := lk_allP_last (p := []) hq (fun m h6 hm => by rw [h3]; exact h4 m h6 hm)
      rw [h3] at e
      refine h5.trans ?_
      simp only [geti_nat, List.getElem?_eq_getElem c, List.getElem?_eq_getElem hq, Option.bind_some]
      rw [get_eq hr (by simp at hlen; omega), Option.bind_some, e]
      unfold opv
      rw [krow2 hl kj J (n + 1) (by omega) (by omega)]
      by_cases c2 : l[q].Do = 0
      · simp [c2]
      · simp [c2]
    · rw [if_neg (by omega)]
/-- How many keys are between. -/
def cnt (ks : List (List UInt8)) (a b : List UInt8) : Nat := (ks.filter fun k => !decide (nlt k a) && (decide (b = []) || decide (nlt k b))).length
theorem krow4 {ks : List (List UInt8)} {a b : List UInt8} (hl : ks.length ≤ 1000) (hs : ks.Pairwise nlt) (kj : Int → Option Bool) : ∀ (J n c : Nat), n ≤ ks.length → ks.length - n < J → c ≤ n →
    law12_KeysRow_l4 ks a b kj J (c : Int) (n : Int) = kj ((c + cnt (ks.drop n) a b : Nat) : Int)
  | 0, n, c, h1, h2, h3 => by omega
  | J + 1, n, c, h1, h2, h3 => by
    rw [law12_KeysRow_l4]
    by_cases cn : n < ks.length
    · rw [if_pos (by omega), geti_nat, List.getElem?_eq_getElem cn]
      simp only [Option.bind_some, less_nlt]
      rw [i64_id (p := (n : Int) + 1) (by omega) (by omega), show (n : Int) + 1 = ((n + 1 : Nat) : Int) by omega, i64_id (p := (c : Int) + 1) (by omega) (by omega), show (c : Int) + 1 = ((c + 1 : Nat) : Int) by omega]
      have r1 := krow4 (a := a) (b := b) hl hs kj J (n + 1) (c + 1) (by omega) (by omega) (by omega)
      have r2 := krow4 (a := a) (b := b) hl hs kj J (n + 1) c (by omega) (by omega) (by omega)
      have key : ((if (!decide (nlt ks[n] a)) = true then (if b = [] then some true else some (decide (nlt ks[n] b))).bind fun x => some x else some false).bind fun x38 => if x38 = true then law12_KeysRow_l4 ks a b kj J ((c + 1 : Nat) : Int) ((n + 1 : Nat) : Int) else law12_KeysRow_l4 ks a b kj J (c : Int) ((n + 1 : Nat) : Int)) = kj ((c + cnt (ks.drop n) a b : Nat) : Int) := by
        rw [r1, r2, List.drop_eq_getElem_cons cn]
        unfold cnt
        rw [List.filter_cons]
        by_cases c1 : nlt ks[n] a
        · simp [c1]
        · by_cases c2 : b = []
          · simp [c1, c2]; congr 1; omega
          · by_cases c3 : nlt ks[n] b
            · simp [c1, c2, c3]; congr 1; omega
            · simp [c1, c2, c3]
      by_cases c0 : 0 < n
      · have hp : n - 1 < ks.length := by omega
        have e1 : i64 ((n : Int) - 1) = ((n - 1 : Nat) : Int) := by rw [i64_id (by omega) (by omega)]; omega
        have hlt : nlt ks[n - 1] ks[n] := List.pairwise_iff_getElem.1 hs (n - 1) n hp cn (by omega)
        rw [if_pos (by omega), e1, geti_nat, List.getElem?_eq_getElem hp, Option.bind_some, if_neg (by simp [hlt])]
        exact key
      · rw [if_neg (by omega)]
        exact key
    · rw [if_neg (by omega), List.drop_eq_nil_of_le (by omega)]; rfl
theorem krow5 {s : List Ref12Entry} {a b : List UInt8} (hl : s.length ≤ 1000) (hs : s.Pairwise fun x y => nlt x.Key y.Key) (hb : ∀ e ∈ s, ¬ nlt e.Key a ∧ (b = [] ∨ nlt e.Key b)) (kj : Unit → Option Bool) : ∀ (J n : Nat), n ≤ s.length → s.length - n < J → law12_KeysRow_l5 s a b kj J (n : Int) = kj ()
  | 0, n, h1, h2 => by omega
  | J + 1, n, h1, h2 => by
    rw [law12_KeysRow_l5]
    by_cases cn : n < s.length
    · rw [if_pos (by omega), geti_nat, List.getElem?_eq_getElem cn]
      simp only [Option.bind_some, less_nlt]
      rw [i64_id (p := (n : Int) + 1) (by omega) (by omega), show (n : Int) + 1 = ((n + 1 : Nat) : Int) by omega]
      have r1 := krow5 hl hs hb kj J (n + 1) (by omega) (by omega)
      obtain ⟨h3, h4⟩ := hb s[n] (List.getElem_mem cn)
      rw [if_neg (by simp [h3])]
      have key : (if (0 : Int) < (n : Int) then (geti s (i64 ((n : Int) - 1))).bind fun x51 => if (!decide (nlt x51.Key s[n].Key)) = true then some false else law12_KeysRow_l5 s a b kj J ((n + 1 : Nat) : Int) else law12_KeysRow_l5 s a b kj J ((n + 1 : Nat) : Int)) = kj () := by
        by_cases c0 : 0 < n
        · have hp : n - 1 < s.length := by omega
          have e1 : i64 ((n : Int) - 1) = ((n - 1 : Nat) : Int) := by rw [i64_id (by omega) (by omega)]; omega
          have hlt : nlt s[n - 1].Key s[n].Key := List.pairwise_iff_getElem.1 hs (n - 1) n hp cn (by omega)
          rw [if_pos (by omega), e1, geti_nat, List.getElem?_eq_getElem hp, Option.bind_some, if_neg (by simp [hlt]), r1]
        · rw [if_neg (by omega), r1]
      by_cases c2 : b = []
      · rw [if_neg (by simp [c2])]; exact key
      · rw [if_pos c2, if_neg (by simpa using h4.resolve_left c2)]; exact key
    · rw [if_neg (by omega)]
theorem KeysRow_pure (l : List Law12Act) (a b : List UInt8) (hb : ∀ x ∈ l, x.Key.length ≤ 140737488351232 ∧ x.To.length ≤ 140737488351232) (hl : l.length ≤ 140737488351232) : law12_KeysRow l a b = some true := by
  unfold law12_KeysRow
  have hFU := FU_big
  rcases long_eq hb hl with h | ⟨h, h2⟩
  · rw [h, Option.bind_some, if_pos (.inl rfl), awake_true]; rfl
  · rw [h, Option.bind_some]
    by_cases c : 1000 < i64 ((a.length : Int) + (b.length : Int))
    · rw [if_pos (.inr c), awake_true]; rfl
    · rw [if_neg (by simpa using c)]
      simp only [keys_New_int, Option.bind_some, jn_eq']
      have hr := allP_rise (l := l) (p := []) List.Pairwise.nil
      have hlen := allP_len l []
      simp only [List.length_nil, Nat.zero_add] at hlen
      rw [show (0 : Int) = ((0 : Nat) : Int) from rfl, krow1 h2 _ FU 0 [] (by omega) (by omega) List.Pairwise.nil (by simp), List.drop_zero, krow2 h2 _ FU 0 (by omega) (by omega), keys_eq hr (by omega), Option.bind_some]
      have hks : ((allP [] l).map (·.key_)).Pairwise nlt := List.pairwise_map.2 hr
      rw [krow4 (by simp; omega) hks _ FU 0 0 (by omega) (by simp; omega) (Nat.le_refl _), List.drop_zero]
      simp only [keys_Index_int_Scan, Option.bind_some]
      rw [row_eq hr (by omega), Option.bind_some]
      have e : takeM (-1) (betw (allP [] l) a b) = betw (allP [] l) a b := by unfold takeM; rw [if_neg (by decide)]
      have hbl := betw_len (allP [] l) a b
      rw [e, krow5 (s := (betw (allP [] l) a b).map toR) (by simp; omega) (List.pairwise_map.2 (betw_rise hr)) (fun x hx => by
        obtain ⟨f, hf, rfl⟩ := List.mem_map.1 hx
        unfold betw at hf
        have := (List.mem_filter.1 hf).2
        simpa [toR] using this) _ FU 0 (by omega) (by simp; omega)]
      have e2 : (((betw (allP [] l) a b).map toR).length : Int) = ((0 + cnt ((allP [] l).map (·.key_)) a b : Nat) : Int) := by
        unfold cnt betw
        rw [List.filter_map, List.length_map, List.length_map, Nat.zero_add]
        rfl
      rw [if_pos e2, awake_true]; rfl
end Go.Proofs
