import Derived.Test.YtcagpghggohoiaaY02K
set_option linter.unusedSimpArgs false
set_option linter.unusedVariables false
namespace Go.Proofs
open Go.Fw


theorem blen_mono {x y : Nat} (h : blen x < blen y) : x < y := by
  rcases Nat.lt_or_ge x y with h1 | h1
  · exact h1
  · have h2 := blen_lt x
    have := blen_le (Nat.lt_of_le_of_lt h1 h2)
    omega
theorem lessB_be : ∀ (n x y : Nat) (u v : List UInt8), x < 256 ^ n → y < 256 ^ n → x ≠ y → lessB (be n x ++ u) (be n y ++ v) = decide (x < y)
  | 0, x, y, u, v, hx, hy, hne => by simp at hx hy; omega
  | n + 1, x, y, u, v, hx, hy, hne => by
    rw [Nat.pow_succ] at hx hy
    simp only [be, List.append_assoc, List.cons_append, List.nil_append]
    by_cases he : x / 256 = y / 256
    · have hm : x % 256 ≠ y % 256 := by omega
      rw [he, lessB_split]
      have h1 : UInt8.ofNat (x % 256) ≠ UInt8.ofNat (y % 256) := by
        intro h
        have := congrArg UInt8.toNat h
        rw [UInt8.toNat_ofNat', UInt8.toNat_ofNat'] at this
        omega
      simp only [lessB, if_neg h1]
      rw [UInt8.toNat_ofNat', UInt8.toNat_ofNat']
      congr 1
      simp only [eq_iff_iff]
      omega
    · rw [lessB_be n _ _ _ _ (by omega) (by omega) he]
      congr 1
      simp only [eq_iff_iff]
      omega
theorem lessB_enc (x y : Nat) (u v : List UInt8) (hx : x < 18446744073709551616) (hy : y < 18446744073709551616) (hne : x ≠ y) : lessB (encN x ++ u) (encN y ++ v) = decide (x < y) := by
  have bx := blen_le8 hx
  have by' := blen_le8 hy
  have hof : ∀ n, n < 256 → (UInt8.ofNat n).toNat = n := fun n h => by rw [UInt8.toNat_ofNat']; omega
  have hofne : ∀ n m, n < 256 → m < 256 → n ≠ m → UInt8.ofNat n ≠ UInt8.ofNat m := fun n m h1 h2 h3 h => h3 (by rw [← hof n h1, ← hof m h2, h])
  unfold encN
  split <;> rename_i h1 <;> split <;> rename_i h2
  · simp only [List.cons_append, List.nil_append, lessB, if_neg (hofne x y (by omega) (by omega) hne), hof x (by omega), hof y (by omega)]
  · have := blen_pos1 (x := y) (by omega)
    simp only [List.cons_append, List.nil_append, lessB, if_neg (hofne x (247 + blen y) (by omega) (by omega) (by omega)), hof x (by omega), hof _ (show 247 + blen y < 256 by omega)]
    congr 1
    simp only [eq_iff_iff]
    omega
  · have := blen_pos1 (x := x) (by omega)
    simp only [List.cons_append, List.nil_append, lessB, if_neg (hofne (247 + blen x) y (by omega) (by omega) (by omega)), hof y (by omega), hof _ (show 247 + blen x < 256 by omega)]
    congr 1
    simp only [eq_iff_iff]
    omega
  · have px := blen_pos1 (x := x) (by omega)
    have py := blen_pos1 (x := y) (by omega)
    by_cases hb : blen x = blen y
    · simp only [List.cons_append, hb, lessB, if_pos]
      exact lessB_be _ x y u v (by rw [← hb]; exact blen_lt x) (blen_lt y) hne
    · simp only [List.cons_append, lessB, if_neg (hofne (247 + blen x) (247 + blen y) (by omega) (by omega) (by omega)), hof _ (show 247 + blen x < 256 by omega), hof _ (show 247 + blen y < 256 by omega)]
      congr 1
      simp only [eq_iff_iff]
      rcases Nat.lt_or_gt_of_ne hb with h | h
      · have := blen_mono h
        omega
      · have := blen_mono h
        omega
theorem encs_split (l : List Nat) (i : Nat) (h : i < l.length) : encs l = encs (l.take i) ++ (encN (l.getD i default) ++ encs (l.drop (i + 1))) := by
  have e : l = l.take i ++ l.getD i default :: l.drop (i + 1) := by
    conv => lhs; rw [← List.take_append_drop i l]
    congr 1
    rw [List.drop_eq_getElem_cons h]
    simp [List.getD, h]
  conv => lhs; rw [e]
  simp [encs]
theorem order_at {l m : List Nat} {i : Nat} (hl : ∀ x ∈ l, x < 18446744073709551616) (hm : ∀ x ∈ m, x < 18446744073709551616) (h : l.take i = m.take i) (hi : i < l.length) (hj : i < m.length) (hne : l.getD i default ≠ m.getD i default) : lessB (encs l) (encs m) = decide (((l.getD i default : Nat) : Int) < ((m.getD i default : Nat) : Int)) := by
  have hx : l.getD i default < 18446744073709551616 := by simp only [List.getD, List.getElem?_eq_getElem hi, Option.getD_some]; exact hl _ (List.getElem_mem hi)
  have hy : m.getD i default < 18446744073709551616 := by simp only [List.getD, List.getElem?_eq_getElem hj, Option.getD_some]; exact hm _ (List.getElem_mem hj)
  rw [encs_split l i hi, encs_split m i hj, h, lessB_split, lessB_enc _ _ _ _ hx hy hne]
  congr 1
  simp
theorem order_end {l m : List Nat} {i : Nat} (h : l.take i = m.take i) (hi : i ≤ l.length) (hj : i ≤ m.length) (hc : i = l.length ∨ i = m.length) : lessB (encs l) (encs m) = decide ((l.length : Int) < (m.length : Int)) := by
  have e1 : encs l = encs (l.take i) ++ encs (l.drop i) := by
    conv => lhs; rw [← List.take_append_drop i l]
    simp [encs, -List.take_append_drop]
  have e2 : encs m = encs (l.take i) ++ encs (m.drop i) := by
    rw [h]
    conv => lhs; rw [← List.take_append_drop i m]
    simp [encs, -List.take_append_drop]
  have h1 : l.length = i + (l.drop i).length := by simp; omega
  have h2 : m.length = i + (m.drop i).length := by simp; omega
  have hp : ∀ x (r : List Nat), ∃ c t, encs (x :: r) = c :: t := by
    intro x r
    have : 0 < (encs (x :: r)).length := by
      have := encN_len x
      have h3 : 1 ≤ sizeN x := by unfold sizeN; split <;> omega
      simp only [encs, List.map_cons, List.flatten_cons, List.length_append]
      omega
    cases hq : encs (x :: r) with
    | nil => rw [hq] at this; simp at this
    | cons c t => exact ⟨c, t, rfl⟩
  rw [e1, e2, lessB_split, h1, h2]
  rcases hc with hc | hc
  · have : l.drop i = [] := List.drop_eq_nil_of_le (by omega)
    rw [this]
    cases hq : m.drop i with
    | nil => simp [encs, lessB]
    | cons x r => obtain ⟨c, t, e⟩ := hp x r; rw [e]; simp [encs, lessB] <;> omega
  · have : m.drop i = [] := List.drop_eq_nil_of_le (by omega)
    rw [this]
    cases hq : l.drop i with
    | nil => simp [encs, lessB]
    | cons x r => obtain ⟨c, t, e⟩ := hp x r; rw [e]; simp [encs, lessB] <;> omega



end Go.Proofs
