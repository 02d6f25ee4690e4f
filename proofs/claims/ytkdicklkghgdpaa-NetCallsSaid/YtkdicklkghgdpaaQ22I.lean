import Derived.Test.YtkdicklkghgdpaaQ22H
set_option linter.unusedVariables false
set_option linter.unusedSimpArgs false
namespace Go.Proofs
open Go.Fw
theorem cnt_nil (f t : Int) : cnt [] f t = 0 := rfl
theorem cnt_cons (q : UInt64 × ApiMessage) (b : Bag) (f t : Int) : cnt (q :: b) f t = cnt b f t + (if q.2.From = f ∧ q.2.To = t then 1 else 0) := by
  unfold cnt
  rw [List.countP_cons]
  congr 1
  simp [way]
theorem drop_of {α : Type} {l : List α} {i : Nat} {x : α} (h : l[i]? = some x) : l.drop i = x :: l.drop (i + 1) := by
  have hi := (List.getElem?_eq_some_iff.1 h).1
  rw [List.drop_eq_getElem_cons hi, (List.getElem?_eq_some_iff.1 h).2]
theorem between_l1 {m : Ref22Net} {f t : Int} (hl : m.All.length ≤ 1000) : ∀ (j : Nat) (c : Int) (i : Nat), i ≤ m.All.length → 0 ≤ c → c ≤ i → (m.All.length : Int) - i < j → ref22_Net_Between_l1 m f t (fun x => some x) j c (i : Int) = some (c + (cnt (bagOf i (m.All.drop i)) f t : Int))
  | 0, c, i, h0, h1, h2, h3 => by omega
  | j + 1, c, i, h0, h1, h2, h3 => by
    rw [ref22_Net_Between_l1]
    by_cases cc : (i : Int) < (m.All.length : Int)
    · rw [if_pos cc]
      obtain ⟨x, e, hx, e2⟩ := geti_at (l := m.All) (i := (i : Int)) (by omega) cc
      rw [Int.toNat_natCast] at e2
      rw [drop_of e2, bagOf]
      have ei : i64 ((i : Int) + 1) = ((i + 1 : Nat) : Int) := by rw [i64_id (by omega) (by omega)]; omega
      have ih := between_l1 (m := m) (f := f) (t := t) hl j
      simp only [e, Option.bind_some, ei]
      cases ho : x.Out with
      | true =>
        simp only [Bool.not_true, Bool.false_eq_true, if_false, Option.bind_some, if_true]
        exact ih c (i + 1) (by omega) h1 (by omega) (by omega)
      | false =>
        simp only [Bool.not_false, if_true, Option.bind_some, Bool.false_eq_true, if_false, cnt_cons]
        by_cases c1 : x.M.From = f
        · by_cases c2 : x.M.To = t
          · simp only [c1, c2, decide_true, if_true, Option.bind_some, and_self]
            rw [i64_id (p := c + 1) (by omega) (by omega), ih (c + 1) (i + 1) (by omega) (by omega) (by omega) (by omega)]
            congr 1; omega
          · simp only [c1, c2, decide_true, if_true, Option.bind_some, decide_false, Bool.false_eq_true, if_false, and_false, Nat.add_zero]
            exact ih c (i + 1) (by omega) h1 (by omega) (by omega)
        · simp only [c1, decide_false, Bool.false_eq_true, if_false, Option.bind_some, false_and, Nat.add_zero]
          exact ih c (i + 1) (by omega) h1 (by omega) (by omega)
    · rw [if_neg cc, List.drop_of_length_le (by omega)]
      simp [bagOf, cnt_nil]
theorem between_eq {m : Ref22Net} (hl : m.All.length ≤ 1000) (f t : Int) : ref22_Net_Between m f t = some (cnt (bagOf 0 m.All) f t : Int) := by
  have hFU : 2000000 ≤ FU := Nat.le_trans (by decide) FU_ge
  unfold ref22_Net_Between
  rw [jn_eq']
  show ref22_Net_Between_l1 m f t (fun x => some x) FU 0 0 = _
  generalize FU = J at hFU ⊢
  have := between_l1 (m := m) (f := f) (t := t) hl J 0 0 (by omega) (by omega) (by omega) (by omega)
  rw [List.drop_zero, Int.zero_add] at this
  exact this
theorem ref_put {n : NetNet} {m : Ref22Net} {rep : Int} {K : Nat} (h : Rel n m rep K) (hK : K ≤ 900) {x : ApiMessage} (hx : Vm rep x) : ∃ i e n' m' K', net_Net_put n x = some (i, e, n') ∧ ref22_Net_put m x = some (i, e, m') ∧ Rel n' m' rep K' ∧ K' ≤ K + 1 := by
  have hl := h.len
  have hxl := hx.len
  by_cases c : 32 ≤ cnt (bagOf 0 m.All) x.From x.To
  · refine ⟨_, _, n, m, K, put_full h.inv hx c, ?_, h, by omega⟩
    unfold ref22_Net_put
    rw [between_eq (by omega), Option.bind_some, if_pos (by omega)]
  · obtain ⟨n', e1, h1⟩ := put_ok h.inv hx (by omega) (by omega)
    refine ⟨_, _, n', ⟨m.Replicas, m.All ++ [⟨x, false⟩]⟩, K + 1, e1, ?_, ⟨?_, h.rep, by simp [hl]⟩, by omega⟩
    · unfold ref22_Net_put
      rw [between_eq (by omega), Option.bind_some, if_neg (by omega), app_ok _ _ (by rw [List.length_nil]; omega) (by decide), Option.bind_some, jn_eq']
      show (app 2932031007402 [] m.All).bind _ = _
      rw [app_ok _ _ (by rw [List.length_nil]; omega) (by decide), Option.bind_some, List.nil_append, List.nil_append, app_ok _ _ (by simp only [List.length_cons, List.length_nil]; omega) (by decide), Option.bind_some]
      show some (ofI64 ((m.All ++ [_]).length : Int), (0 : Int), _) = _
      rw [List.length_append, List.length_cons, List.length_nil, ofI64_nat' (by omega), hl]
    · show Inv n' rep (K + 1) (bagOf 0 (m.All ++ [_]))
      rw [bagOf_app]
      have : bagOf (0 + m.All.length) [(⟨x, false⟩ : Ref22Letter)] = [(UInt64.ofNat (K + 1), x)] := by simp [bagOf, hl]
      rw [this]
      exact h1
theorem ref_send {n : NetNet} {m : Ref22Net} {rep : Int} {K : Nat} (h : Rel n m rep K) (hK : K ≤ 900) (f t : Int) (l : List UInt8) : ∃ i e n' m' K', net_Net_Send n f t l = some (i, e, n') ∧ ref22_Net_Send m f t l = some (i, e, m') ∧ Rel n' m' rep K' ∧ K' ≤ K + 1 := by
  have hr := h.rep
  by_cases c : 1 ≤ f ∧ f ≤ rep ∧ 1 ≤ t ∧ t ≤ rep ∧ f ≠ t
  · have hc : ¬ (((((f < 1) ∨ (t < 1)) ∨ (m.Replicas < f)) ∨ (m.Replicas < t)) ∨ (f = t)) := by
      rw [hr]; rintro ((((h | h) | h) | h) | h) <;> omega
    by_cases c2 : 16384 < l.length
    · refine ⟨_, _, n, m, K, send_long h.inv c c2, ?_, h, by omega⟩
      unfold ref22_Net_Send
      rw [if_neg hc, if_pos (by omega)]
    · rw [send_put h.inv c (by omega)]
      obtain ⟨i, e, n', m', K', g1, g2, g3, g4⟩ := ref_put h hK (x := ⟨f, t, l⟩) ⟨c.1, c.2.1, c.2.2.1, c.2.2.2.1, c.2.2.2.2, by show l.length ≤ 16384; omega⟩
      refine ⟨i, e, n', m', K', g1, ?_, g3, g4⟩
      unfold ref22_Net_Send
      rw [if_neg hc, if_neg (by omega), g2]
      rfl
  · refine ⟨_, _, n, m, K, send_arg h.inv c, ?_, h, by omega⟩
    unfold ref22_Net_Send
    rw [hr, if_pos]
    apply Classical.byContradiction
    intro hn
    apply c
    simp only [not_or] at hn
    omega
theorem ref_del {n : NetNet} {m : Ref22Net} {rep : Int} {K : Nat} (h : Rel n m rep K) (hK : K ≤ 900) (id : UInt64) : ∃ x e n' m', net_Net_Deliver n id = some (x, e, n') ∧ ref22_Net_Deliver m id = some (x, e, m') ∧ Rel n' m' rep K := by
  have hl := h.len
  cases hg : mget id (bagOf 0 m.All) with
  | none =>
    refine ⟨_, _, n, m, del_none h.inv id hg, ?_, h⟩
    unfold ref22_Net_Deliver
    simp [ref_at h (by omega) id, hg]
  | some x =>
    obtain ⟨n', e1, h1⟩ := del_eq h.inv id hg
    have hid := h.inv.ids _ (mget_mem hg)
    simp only at hid
    have hg2 := hg
    rw [mget_bagOf m.All 0 id (by omega) (by omega), show id.toNat - (0 + 1) = id.toNat - 1 by omega] at hg2
    obtain ⟨g1, e3⟩ : ∃ g1, m.All[id.toNat - 1]? = some g1 := ⟨_, List.getElem?_eq_getElem (show id.toNat - 1 < m.All.length by omega)⟩
    have ed : mdel id (bagOf 0 m.All) = bagOf 0 (m.All.set (id.toNat - 1) { g1 with Out := true }) := by
      have := mdel_bagOf m.All 0 (id.toNat - 1) g1 (by omega) e3
      rw [show 0 + (id.toNat - 1) + 1 = id.toNat by omega, of_toNat] at this
      exact this
    have e5 : (ofI64 ((id.toNat : Int) - 1)).toNat = id.toNat - 1 := by
      rw [show (id.toNat : Int) - 1 = ((id.toNat - 1 : Nat) : Int) by omega, ofI64_nat' (by omega), u64_nat (by omega)]
    refine ⟨_, _, n', ⟨m.Replicas, m.All.set (id.toNat - 1) { g1 with Out := true }⟩, e1, ?_, ⟨by rw [← ed]; exact h1, h.rep, by simp [hl]⟩⟩
    unfold ref22_Net_Deliver
    have eg : geti m.All ((id.toNat - 1 : Nat) : Int) = some g1 := by unfold geti; rw [if_pos (by omega), Int.toNat_natCast, e3]
    simp only [ref_at h (by omega) id, hg, Option.bind_some, if_true]
    rw [app_ok _ _ (by rw [List.length_nil]; omega) (by decide), Option.bind_some, List.nil_append, e5, eg, Option.bind_some]
    rfl
theorem ref_dbl {n : NetNet} {m : Ref22Net} {rep : Int} {K : Nat} (h : Rel n m rep K) (hK : K ≤ 900) (id : UInt64) : ∃ i e n' m' K', net_Net_Double n id = some (i, e, n') ∧ ref22_Net_Double m id = some (i, e, m') ∧ Rel n' m' rep K' ∧ K' ≤ K + 1 := by
  cases hg : mget id (bagOf 0 m.All) with
  | none =>
    refine ⟨_, _, n, m, K, dbl_none h.inv id hg, ?_, h, by omega⟩
    unfold ref22_Net_Double
    simp [ref_at h (by omega) id, hg]
  | some x =>
    obtain ⟨i, e, n', m', K', g1, g2, g3, g4⟩ := ref_put h hK (h.inv.msg _ (mget_mem hg))
    refine ⟨i, e, n', m', K', by rw [dbl_put h.inv id hg]; exact g1, ?_, g3, g4⟩
    unfold ref22_Net_Double
    simp only [ref_at h (by omega) id, hg, Option.bind_some, ne_eq, not_true_eq_false, if_false, g2]
theorem letters_l1 {m : Ref22Net} (hl : m.All.length ≤ 1000) : ∀ (j : Nat) (c : List ApiLetter) (i : Nat), i ≤ m.All.length → c.length ≤ i → (m.All.length : Int) - i < j → ref22_Net_Letters_l1 m (fun x => some x) j c (i : Int) = some (c ++ (bagOf i (m.All.drop i)).map letterOf)
  | 0, c, i, h0, h2, h3 => by omega
  | j + 1, c, i, h0, h2, h3 => by
    rw [ref22_Net_Letters_l1]
    by_cases cc : (i : Int) < (m.All.length : Int)
    · rw [if_pos cc]
      obtain ⟨x, e, hx, e2⟩ := geti_at (l := m.All) (i := (i : Int)) (by omega) cc
      rw [Int.toNat_natCast] at e2
      rw [drop_of e2, bagOf]
      have ei : i64 ((i : Int) + 1) = ((i + 1 : Nat) : Int) := by rw [i64_id (by omega) (by omega)]; omega
      have ih := letters_l1 (m := m) hl j
      simp only [e, Option.bind_some, ei]
      cases ho : x.Out with
      | true =>
        simp only [Bool.not_true, Bool.false_eq_true, if_false, Option.bind_some, if_true]
        exact ih c (i + 1) (by omega) (by omega) (by omega)
      | false =>
        simp only [Bool.not_false, if_true, Option.bind_some, Bool.false_eq_true, if_false]
        rw [app_ok _ _ (by simp only [List.length_cons, List.length_nil]; omega) (by decide), Option.bind_some, ih _ (i + 1) (by omega) (by simp only [List.length_append, List.length_cons, List.length_nil]; omega) (by omega), ofI64_nat' (by omega), List.map_cons, List.append_assoc]
        rfl
    · rw [if_neg cc, List.drop_of_length_le (by omega)]
      simp [bagOf]
theorem ref_letters {m : Ref22Net} (hl : m.All.length ≤ 1000) : ref22_Net_Letters m = some ((bagOf 0 m.All).map letterOf) := by
  have hFU : 2000000 ≤ FU := Nat.le_trans (by decide) FU_ge
  unfold ref22_Net_Letters
  rw [jn_eq']
  show ref22_Net_Letters_l1 m (fun x => some x) FU [] 0 = _
  generalize FU = J at hFU ⊢
  have := letters_l1 (m := m) hl J [] 0 (by omega) (by simp) (by omega)
  rw [List.drop_zero, List.nil_append] at this
  exact this
end Go.Proofs
