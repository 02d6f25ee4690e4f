import Derived.Test.YtepifllifhikiaaDoorQ12C
set_option linter.unusedVariables false
set_option linter.unusedSimpArgs false
namespace Go.Proofs
open Go.Fw
/-! KeysPlays -/
theorem long_run {l : List Law12Act} (hb : ∀ a ∈ l, a.Key.length ≤ 140737488351232 ∧ a.To.length ≤ 140737488351232) (hl : l.length ≤ 140737488351232) (kj : Unit → Option Bool) : ∀ (J k n : Nat), n ≤ 400 → k ≤ l.length → l.length - k < J →
    law12_long_l1 l kj J (n : Int) (k : Int) = some true ∨ (law12_long_l1 l kj J (n : Int) (k : Int) = kj () ∧ n + (l.length - k) ≤ 400)
  | 0, k, n, h0, h1, h2 => by omega
  | J + 1, k, n, h0, h1, h2 => by
    rw [law12_long_l1]
    by_cases c : k < l.length
    · rw [if_pos (by omega), geti_nat, List.getElem?_eq_getElem c]
      simp only [Option.bind_some]
      have hm := hb l[k] (List.getElem_mem c)
      generalize l[k].Key.length = u at hm
      generalize l[k].To.length = w at hm
      have e1 : i64 ((u : Int) + (w : Int)) = ((u + w : Nat) : Int) := by rw [i64_id (by omega) (by omega)]; omega
      have e2 : (((u + w : Nat) : Int)).tdiv 64 = (((u + w) / 64 : Nat) : Int) := by
        rw [Int.tdiv_eq_ediv_of_nonneg (by omega)]; omega
      rw [e1, e2, i64_id (p := (((u + w) / 64 : Nat) : Int)) (by omega) (by omega), i64_id (p := 1 + (((u + w) / 64 : Nat) : Int)) (by omega) (by omega), i64_id (p := (n : Int) + (1 + (((u + w) / 64 : Nat) : Int))) (by omega) (by omega), i64_id (p := (k : Int) + 1) (by omega) (by omega)]
      by_cases c2 : 400 < (n : Int) + (1 + (((u + w) / 64 : Nat) : Int))
      · rw [if_pos c2]; exact .inl rfl
      · rw [if_neg c2, show (n : Int) + (1 + (((u + w) / 64 : Nat) : Int)) = ((n + (1 + (u + w) / 64) : Nat) : Int) by omega, show (k : Int) + 1 = ((k + 1 : Nat) : Int) by omega]
        rcases long_run hb hl kj J (k + 1) (n + (1 + (u + w) / 64)) (by omega) (by omega) (by omega) with h | ⟨h, h3⟩
        · exact .inl h
        · exact .inr ⟨h, by omega⟩
    · rw [if_neg (by omega)]
      exact .inr ⟨rfl, by omega⟩
theorem long_eq {l : List Law12Act} (hb : ∀ a ∈ l, a.Key.length ≤ 140737488351232 ∧ a.To.length ≤ 140737488351232) (hl : l.length ≤ 140737488351232) : law12_long l = some true ∨ (law12_long l = some false ∧ l.length ≤ 400) := by
  unfold law12_long
  have hFU := FU_ge
  rw [jn_eq']
  rcases long_run hb hl (fun (_ : Unit) => some false) FU 0 0 (by omega) (by omega) (by omega) with h | ⟨h, h3⟩
  · exact .inl h
  · exact .inr ⟨h, by omega⟩
/-- What an act makes of a row. -/
def actP (p : Rowk) (a : Law12Act) : Rowk := if a.Do = 0 then wi p a.Key a.V else if a.Do = 1 then wo p a.Key else p
theorem actP_rise {p : Rowk} {a : Law12Act} (hr : Rise p) : Rise (actP p a) := by
  unfold actP
  split
  · exact wi_rise hr
  · split
    · exact wo_rise hr
    · exact hr
theorem actP_len (p : Rowk) (a : Law12Act) : (actP p a).length ≤ p.length + 1 := by
  unfold actP
  split
  · exact wi_len _ _ _
  · split
    · exact Nat.le_trans (wo_len _ _) (by omega)
    · omega
theorem rget_lt {p : Rowk} {k : List UInt8} (hr : Rise p) (hl : p.length ≤ 1000000) : ∃ i, ref12_Get (p.map toR) k = some i ∧ decide (i < 0) = (lk p k).isNone ∧ decide (0 ≤ i) = (lk p k).isSome := by
  rcases rget_eq (k := k) hr hl with ⟨i, v, h1, h2, h3⟩ | ⟨h1, h2⟩
  · refine ⟨i, h1, ?_, ?_⟩
    · rw [h3]; simp
    · rw [h3]; simp
  · refine ⟨-1, h1, ?_, ?_⟩
    · rw [h2]; simp
    · rw [h2]; simp
theorem first_betw {p : Rowk} {n : List UInt8} (hr : Rise p) : p[lb p n]? = (betw p n [])[0]? := by
  rw [← betw_open hr]
  simp
theorem act_eq {p : Rowk} {a : Law12Act} (hr : Rise p) (hl : p.length ≤ 10000) : law12_act ⟨p⟩ (p.map toR) a = some ((actP p a).map toR, true, ⟨actP p a⟩) := by
  unfold law12_act actP
  obtain ⟨i, e1, e2, e3⟩ := rget_lt (k := a.Key) hr (by omega)
  have hrg := rget_eq (k := a.Key) hr (by omega)
  rw [e1] at hrg ⊢
  rw [Option.bind_some]
  by_cases h0 : a.Do = 0
  · rw [if_pos h0, if_pos h0, rset_eq hr (by omega), Option.bind_some, set_eq hr (by omega), Option.bind_some, e2]
    simp
  rw [if_neg h0, if_neg h0]
  by_cases h1 : a.Do = 1
  · rw [if_pos h1, if_pos h1, rdel_eq (by omega), Option.bind_some, del_eq hr (by omega), Option.bind_some, e3]
    simp
  rw [if_neg h1, if_neg h1]
  by_cases h2 : a.Do = 2
  · rw [if_pos h2, get_eq hr (by omega), Option.bind_some, e3]
    rcases hrg with ⟨j, v, h3, h4, h5⟩ | ⟨h3, h4⟩
    · injection h3 with h3
      subst h3
      have e4 : max (j : Int) 0 = (j : Int) := by omega
      rw [h5, e4]
      simp [geti_nat, h4]
    · rw [h4]; simp
  rw [if_neg h2]
  by_cases h3 : a.Do = 3
  · rw [if_pos h3, rscan_eq (by omega), Option.bind_some, first_eq hr (by omega), Option.bind_some, first_betw hr]
    cases hb : betw p a.Key [] with
    | nil => simp
    | cons f q => simp [geti, toR]
  rw [if_neg h3]
  by_cases h4 : a.Do = 4
  · rw [if_pos h4, rscan_eq (by omega), Option.bind_some, jn_eq']
    have hbl := betw_len p a.Key a.To
    have key : (keys_Index_int_Scan ⟨p⟩ a.Key a.To).bind (fun x18 => (law12_row_c39 ⟨p⟩ x18.1 x18.2 a.V).bind fun x19 => (law12_same x19 ((takeM a.V (betw p a.Key a.To)).map toR)).bind fun x20 => some (p.map toR, x20, (⟨p⟩ : KeysIndexInt))) = some (p.map toR, true, ⟨p⟩) := by
      simp only [keys_Index_int_Scan, Option.bind_some]
      have htl : (takeM a.V (betw p a.Key a.To)).length ≤ 1000000 := by
        unfold takeM
        split
        · rw [List.length_take]; omega
        · omega
      rw [row_eq hr (by omega), Option.bind_some, same_eq _ _ (by simpa using htl), Option.bind_some]
      simp
    by_cases c : 0 ≤ a.V
    · rw [if_pos c]
      have e5 : subl ((betw p a.Key a.To).map toR) 0 (min a.V (((betw p a.Key a.To).map toR).length : Int)) = some ((takeM a.V (betw p a.Key a.To)).map toR) := by
        obtain ⟨m, hm⟩ : ∃ m : Nat, a.V = m := ⟨a.V.toNat, by omega⟩
        rw [hm, List.length_map, show min (m : Int) ((betw p a.Key a.To).length : Int) = ((min m (betw p a.Key a.To).length : Nat) : Int) by omega, subl_head _ _ (by simp; omega)]
        unfold takeM
        rw [if_pos (by omega), Int.toNat_natCast, List.map_take]
        refine congrArg some (List.take_eq_take_iff.2 ?_)
        rw [List.length_map]; omega
      rw [e5, Option.bind_some]
      exact key
    · rw [if_neg c]
      have e5 : takeM a.V (betw p a.Key a.To) = betw p a.Key a.To := by unfold takeM; rw [if_neg c]
      rw [e5] at key
      exact key
  rw [if_neg h4]
theorem stands_run {p : Rowk} {m : List Ref12Entry} (hr : Rise p) (hl : p.length ≤ 10000) (hm : m = p.map toR) (kj : List (List UInt8) → Option Bool) (hk : ∀ x, kj x = some true) : ∀ (J n : Nat) (x : List (List UInt8)), n ≤ p.length → p.length - n < J → x.length = p.length → x.drop n = (p.drop n).map (·.key_) →
    law12_stands_l1 ⟨p⟩ m kj J (n : Int) x = some true
  | 0, n, x, h1, h2, h3, h4 => by omega
  | J + 1, n, x, h1, h2, h3, h4 => by
    rw [law12_stands_l1]
    by_cases c : n < p.length
    · have cx : n < x.length := by omega
      rw [List.drop_eq_getElem_cons c, List.drop_eq_getElem_cons cx, List.map_cons] at h4
      injection h4 with h5 h6
      have e1 : x[n]? = some p[n].key_ := by rw [List.getElem?_eq_getElem cx, h5]
      have e2 : m[n]? = some (toR p[n]) := by rw [hm, List.getElem?_map, List.getElem?_eq_getElem c]; rfl
      have e3 : lk p p[n].key_ = some p[n].v := lk_at hr (List.getElem?_eq_getElem c)
      rw [if_pos (by omega), geti_nat, e1, Option.bind_some, get_eq hr (by omega), Option.bind_some, e3, Option.bind_some, geti_nat, e2, Option.bind_some, if_neg (by simp [toR]), Option.bind_some]
      simp only [Option.getD_some, Option.isSome_some, Bool.not_true, Bool.false_eq_true, if_false, Option.bind_some]
      rw [if_neg (by simp [toR]), i64_id (by omega) (by omega), show (n : Int) + 1 = ((n + 1 : Nat) : Int) by omega, Int.toNat_natCast]
      refine stands_run hr hl hm kj hk J (n + 1) _ (by omega) (by omega) (by simpa using h3) ?_
      rw [List.drop_set_of_lt (by omega)]
      exact h6
    · rw [if_neg (by omega), hk]
theorem stands_eq {p : Rowk} (hr : Rise p) (hl : p.length ≤ 10000) : law12_stands ⟨p⟩ (p.map toR) = some true := by
  unfold law12_stands
  have hFU := FU_big
  rw [keys_eq hr (by omega), Option.bind_some, if_neg (by simp), len_eq]
  simp only [Option.bind_some, keys_Index_int_Scan, List.length_map]
  simp only [ne_eq, not_true_eq_false, decide_false, Bool.false_eq_true, if_false]
  rw [row_eq hr (by omega), Option.bind_some, betw_all]
  have e : takeM (-1) p = p := by unfold takeM; rw [if_neg (by decide)]
  rw [e, same_eq _ _ (by simp; omega), Option.bind_some]
  simp only [decide_true, Bool.not_true, Option.bind_some, Bool.false_eq_true, if_false]
  rw [jn_eq']
  exact stands_run hr hl rfl _ (fun _ => rfl) FU 0 _ (by omega) (by omega) (by simp) (by simp)
theorem plays_run {l : List Law12Act} (hl : l.length ≤ 400) (kj : Unit → Option Bool) (hk : kj () = some true) : ∀ (J n : Nat) (p : Rowk), n ≤ l.length → l.length - n < J → Rise p → p.length ≤ n →
    law12_KeysPlays_l1 l kj J ⟨p⟩ (p.map toR) (n : Int) = some true
  | 0, n, p, h1, h2, h3, h4 => by omega
  | J + 1, n, p, h1, h2, h3, h4 => by
    rw [law12_KeysPlays_l1]
    by_cases c : n < l.length
    · rw [if_pos (by omega), jn_eq', geti_nat, List.getElem?_eq_getElem c]
      simp only [Option.bind_some]
      have key : (law12_act ⟨p⟩ (p.map toR) l[n]).bind (fun x17 => (if (!x17.2.1) = true then some true else (law12_stands x17.2.2 x17.1).bind fun x19 => some (!x19)).bind fun x18 => if x18 = true then some false else law12_KeysPlays_l1 l kj J x17.2.2 x17.1 (i64 ((n : Int) + 1))) = some true := by
        have h5 := actP_len p l[n]
        rw [act_eq h3 (by omega), Option.bind_some]
        simp only [Bool.not_true, Bool.false_eq_true, if_false]
        rw [stands_eq (actP_rise h3) (by omega)]
        simp only [Option.bind_some, Bool.not_true, Bool.false_eq_true, if_false]
        rw [i64_id (by omega) (by omega), show (n : Int) + 1 = ((n + 1 : Nat) : Int) by omega]
        exact plays_run hl kj hk J (n + 1) _ (by omega) (by omega) (actP_rise h3) (by omega)
      by_cases h5 : l[n].Do = 5
      · have h6 := wi_len p [99, 111, 112, 105, 101, 100] 1
        rw [if_pos h5, copy_eq p (by omega), Option.bind_some, set_eq h3 (by omega), Option.bind_some, del_eq (wi_rise h3) (by omega), Option.bind_some]
        exact key
      · rw [if_neg h5]; exact key
    · rw [if_neg (by omega)]; exact hk
theorem KeysPlays_pure (l : List Law12Act) (hb : ∀ a ∈ l, a.Key.length ≤ 140737488351232 ∧ a.To.length ≤ 140737488351232) (hl : l.length ≤ 140737488351232) : law12_KeysPlays l = some true := by
  unfold law12_KeysPlays
  have hFU := FU_big
  rcases long_eq hb hl with h | ⟨h, h2⟩
  · rw [h, Option.bind_some, if_pos rfl, awake_true]; rfl
  · rw [h, Option.bind_some, if_neg (by decide)]
    simp only [keys_New_int, Option.bind_some, jn_eq']
    exact plays_run h2 _ (by rw [awake_true]; rfl) FU 0 [] (by omega) (by omega) List.Pairwise.nil (by simp)
end Go.Proofs
