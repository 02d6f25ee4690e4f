import Derived.Test.YtcagpghggohoiaaQ02A
set_option linter.unusedSimpArgs false
set_option linter.unusedVariables false
namespace Go.Proofs
open Go.Fw
theorem ltFU {k : Nat} (h : k ≤ 18446744073709551616) : k < FU := by have := FU_ge; omega
theorem FU_succ : ∃ m, FU = m + 1 ∧ 18446744073709551616 ≤ m := ⟨FU - 1, by have := FU_ge; omega⟩
theorem geti_nat {α : Type} (l : List α) (i : Nat) : geti l (i : Int) = l[i]? := by unfold geti; rw [if_pos (by omega), Int.toNat_natCast]
theorem bind_some' {α β : Type} (x : α) (f : α → Option β) : (some x).bind f = f x := rfl
theorem jn_eq {α β : Type} (f : α) (g : α → β) : jn f g = g f := rfl

/-! the document's words for numbers -/
theorem shr8_toNat (x : UInt64) : (shr64 x 8).toNat = x.toNat / 256 := by
  unfold shr64
  rw [UInt64.toNat_ofNat']
  have := x.toNat_lt
  have e : (2:Nat) ^ min (8:Int).toNat 64 = 256 := rfl
  rw [e, Nat.mod_eq_of_lt (by omega)]
theorem ofI8_u64 (x : Nat) : ofI8 ((x : Nat) : Int) = UInt8.ofNat (x % 256) := by
  unfold ofI8
  congr 1
theorem whole_loop (kj : List UInt8 → Option (List UInt8)) (x n : Nat) : ∀ (m : Nat) (j : Nat) (y : UInt64) (l : List UInt8), m < j → m ≤ n → n ≤ 1000000 → y.toNat = x / 256 ^ (n - m) → l = List.replicate m 0 ++ be (n - m) x → ref02_whole_l1 kj j y ((m : Int) - 1) l = kj (be n x) := by
  intro m
  induction m with
  | zero =>
    intro j y l hj hm hn hy hl
    obtain ⟨j, rfl⟩ : ∃ i, j = i + 1 := ⟨j - 1, by omega⟩
    rw [ref02_whole_l1, if_neg (by omega), hl]
    simp
  | succ m ih =>
    intro j y l hj hm hn hy hl
    obtain ⟨j, rfl⟩ : ∃ i, j = i + 1 := ⟨j - 1, by omega⟩
    rw [ref02_whole_l1, if_pos (by omega)]
    have e1 : (((m + 1 : Nat) : Int) - 1) = (m : Int) := by omega
    have e2 : l[m]? = some 0 := by rw [hl, List.getElem?_append_left (by simp), List.getElem?_replicate, if_pos (by omega)]
    rw [e1, geti_nat, e2, bind_some', i64_eq (by omega) (by omega)]
    refine ih j _ _ (by omega) (by omega) hn ?_ ?_
    · rw [shr8_toNat, hy, Nat.div_div_eq_div_mul, ← Nat.pow_succ]
      congr 2; omega
    · rw [Int.toNat_natCast, hl, ofI8_u64, hy]
      have e3 : n - m = (n - (m + 1)) + 1 := by omega
      rw [e3, be_front]
      rw [List.set_append_left _ _ (by simp)]
      rw [List.replicate_succ', List.set_append_right _ _ (by simp)]
      simp
theorem whole_eq (x : UInt64) (n : Nat) (hn : n ≤ 1000000) : ref02_whole x (n : Int) = some (be n x.toNat) := by
  unfold ref02_whole makel
  rw [if_pos ⟨by omega, by omega⟩, bind_some', jn_eq, i64_eq (by omega) (by omega), Int.toNat_natCast]
  exact whole_loop _ x.toNat n n FU x _ (ltFU (by omega)) (Nat.le_refl _) hn (by simp) (by simp [be])
theorem four_eq (x : UInt32) : ref02_Four x = some (be 4 x.toNat) := by
  unfold ref02_Four
  have h := whole_eq (ofI64 (x.toNat : Int)) 4 (by omega)
  have hx := x.toNat_lt
  have e : (ofI64 (x.toNat : Int)).toNat = x.toNat := by have := ofI64_nat (p := (x.toNat : Int)) (by omega) (by omega); omega
  rw [e, show ((4 : Nat) : Int) = 4 from rfl] at h
  rw [h]; rfl
theorem needs_step (x : UInt64) (n : Nat) (hn : n < 8) : (0 < ((shr64 x (i64 (8 * (n : Int)))).toNat : Int)) ↔ 256 ^ n ≤ x.toNat := by
  have hx := x.toNat_lt
  have e : i64 (8 * (n : Int)) = ((8 * n : Nat) : Int) := by rw [i64_eq (by omega) (by omega)]; omega
  rw [e]
  have e2 : (shr64 x ((8 * n : Nat) : Int)).toNat = x.toNat / 256 ^ n := by
    unfold shr64
    rw [Int.toNat_natCast, Nat.min_eq_left (by omega), Nat.pow_mul, UInt64.toNat_ofNat', Nat.mod_eq_of_lt (Nat.lt_of_le_of_lt (Nat.div_le_self _ _) hx)]
  rw [e2]
  have hp : 0 < 256 ^ n := Nat.pow_pos (by omega)
  have : 0 < x.toNat / 256 ^ n ↔ 256 ^ n ≤ x.toNat := Nat.div_pos_iff.trans ⟨fun h => h.2, fun h => ⟨hp, h⟩⟩
  omega
theorem blen_gt {x n : Nat} (h : 256 ^ n ≤ x) : n < blen x := by
  have h1 := blen_lt x
  rcases Nat.lt_or_ge n (blen x) with h2 | h2
  · exact h2
  · have := Nat.pow_le_pow_right (show 0 < 256 by omega) h2
    omega
theorem needs_loop (kj : Int → Option Int) (x : UInt64) : ∀ (d : Nat) (n j : Nat), n + d = blen x.toNat → d < j → ref02_needs_l1 x kj j (n : Int) = kj (blen x.toNat : Int) := by
  have h8 := blen_le8 (x := x.toNat) x.toNat_lt
  intro d
  induction d with
  | zero =>
    intro n j hd hj
    obtain ⟨j, rfl⟩ : ∃ i, j = i + 1 := ⟨j - 1, by omega⟩
    rw [ref02_needs_l1]
    by_cases hn : n < 8
    · have h := needs_step x n hn
      have h2 : ¬ 256 ^ n ≤ x.toNat := fun h2 => by have := blen_gt h2; omega
      have e : i64 (8 * (n : Int)) = ((8 * n : Nat) : Int) := by rw [i64_eq (by omega) (by omega)]; omega
      rw [if_pos (by omega), if_pos (by rw [e]; omega), decide_eq_false (fun hh => h2 (h.1 hh)), bind_some', if_neg (by decide)]
      congr 1; omega
    · rw [if_neg (by omega), bind_some', if_neg (by decide)]
      congr 1; omega
  | succ d ih =>
    intro n j hd hj
    obtain ⟨j, rfl⟩ : ∃ i, j = i + 1 := ⟨j - 1, by omega⟩
    rw [ref02_needs_l1]
    have hn : n < 8 := by omega
    have h := needs_step x n hn
    have h2 : 256 ^ n ≤ x.toNat := by
      have h3 := blen_ge (x := x.toNat) (fun e => by rw [e, blen_zero] at hd; omega)
      have := Nat.pow_le_pow_right (show 0 < 256 by omega) (show n ≤ blen x.toNat - 1 by omega)
      omega
    have e : i64 (8 * (n : Int)) = ((8 * n : Nat) : Int) := by rw [i64_eq (by omega) (by omega)]; omega
    rw [if_pos (by omega), if_pos (by rw [e]; omega), decide_eq_true (h.2 h2), bind_some', if_pos rfl, i64_eq (by omega) (by omega)]
    have := ih (n + 1) j (by omega) (by omega)
    rw [← this]; rfl
theorem needs_eq (x : UInt64) : ref02_needs x = some (blen x.toNat : Int) := by
  unfold ref02_needs
  have h8 := blen_le8 (x := x.toNat) x.toNat_lt
  rw [jn_eq]
  exact needs_loop _ x (blen x.toNat) 0 FU (by omega) (ltFU (by omega))
theorem ofI64_small (n : Nat) (h : n < 18446744073709551616) : (ofI64 (n : Int)).toNat = n := by have := ofI64_nat (p := (n : Int)) (by omega) (by omega); omega
theorem short_eq (x : UInt64) : ref02_Short x = some (encN x.toNat) := by
  have hx := x.toNat_lt
  have h8 := blen_le8 (x := x.toNat) hx
  unfold ref02_Short encN
  by_cases h : x.toNat ≤ 247
  · rw [if_pos (by omega), if_pos h]
    have := whole_eq x 1 (by omega)
    rw [show ((1 : Nat) : Int) = 1 from rfl] at this
    rw [this, bind_some']
    simp only [be, List.nil_append]
    rw [Nat.mod_eq_of_lt (by omega)]
  · rw [if_neg (by omega), if_neg h, needs_eq, bind_some', i64_eq (by omega) (by omega)]
    have h1 := whole_eq (ofI64 (247 + (blen x.toNat : Int))) 1 (by omega)
    have h2 := whole_eq x (blen x.toNat) (by omega)
    rw [show ((1 : Nat) : Int) = 1 from rfl] at h1
    rw [h1, bind_some', h2, bind_some']
    unfold app
    rw [if_pos (by rw [be_len, be_len]; omega), bind_some']
    have e : (247 + (blen x.toNat : Int)) = ((247 + blen x.toNat : Nat) : Int) := by omega
    rw [e, ofI64_small _ (by omega)]
    simp only [be, List.nil_append, List.cons_append]
    rw [Nat.mod_eq_of_lt (by omega)]
theorem text_ref (s : List UInt8) (h : s.length ≤ 1000000) : ref02_Text s = some (encN s.length ++ s) := by
  unfold ref02_Text
  rw [short_eq, bind_some', ofI64_small _ (by omega)]
  unfold app
  have := sizeN_le (x := s.length) (by omega)
  rw [if_pos (by rw [encN_len]; omega)]; rfl

/-! the sum of bytes -/
theorem shl_or (x : UInt64) (c : UInt8) : (ofI64 ((x.toNat : Int) * 2 ^ (min (8 : Int).toNat 64))) ||| (ofI64 (c.toNat : Int)) = UInt64.ofNat (x.toNat * 256 + c.toNat) := by
  have hx := x.toNat_lt
  have hc := c.toNat_lt
  apply UInt64.toNat.inj
  rw [UInt64.toNat_or, ofI64_small _ (by omega), UInt64.toNat_ofNat']
  have e1 : (ofI64 ((x.toNat : Int) * 2 ^ (min (8 : Int).toNat 64))).toNat = 2 ^ 8 * (x.toNat % 2 ^ 56) := by
    unfold ofI64
    rw [UInt64.toNat_ofNat']
    have : ((x.toNat : Int) * 2 ^ (min (8 : Int).toNat 64)) = ((x.toNat * 256 : Nat) : Int) := by
      have e : (2:Int) ^ (min (8 : Int).toNat 64) = 256 := rfl
      rw [e]; omega
    rw [this]
    omega
  rw [e1, ← Nat.two_pow_add_eq_or_of_lt (by omega)]
  omega
theorem ofNat_mul (a c : Nat) : UInt64.ofNat ((UInt64.ofNat a).toNat * 256 + c) = UInt64.ofNat (a * 256 + c) := by
  apply UInt64.toNat.inj
  rw [UInt64.toNat_ofNat', UInt64.toNat_ofNat', UInt64.toNat_ofNat']
  omega
theorem sum_loop (kj : UInt64 → Option UInt64) : ∀ (l : List UInt8) (a j : Nat), l.length < j → ref02_sum_l1 kj j l (UInt64.ofNat a) = kj (UInt64.ofNat (l.foldl (fun x c => x * 256 + c.toNat) a)) := by
  intro l
  induction l with
  | nil =>
    intro a j hj
    obtain ⟨j, rfl⟩ : ∃ i, j = i + 1 := ⟨j - 1, by omega⟩
    rw [ref02_sum_l1, if_neg (by simp)]; rfl
  | cons c l ih =>
    intro a j hj
    obtain ⟨j, rfl⟩ : ∃ i, j = i + 1 := ⟨j - 1, by omega⟩
    rw [List.length_cons] at hj
    rw [ref02_sum_l1, if_pos (by rw [List.length_cons]; omega)]
    have e1 : geti (c :: l) 0 = some c := rfl
    have e2 : subl (c :: l) 1 (((c :: l).length : Nat) : Int) = some l := by
      unfold subl
      rw [if_pos ⟨by omega, by simp; omega, by omega⟩]
      simp
    rw [e1, bind_some', e2, bind_some', shl_or, ofNat_mul]
    exact ih (a * 256 + c.toNat) j (by omega)
theorem sum_eq (l : List UInt8) (h : l.length ≤ 1000000) : ref02_sum l = some (UInt64.ofNat (valB l)) := by
  unfold ref02_sum
  rw [jn_eq]
  exact sum_loop _ l 0 FU (ltFU (by omega))

/-! the document's Reader -/
theorem cpy_zero (n : Nat) (l B : List UInt8) (hl : l.length = n) (h : n ≤ B.length) : cpy l B = B.take n := by
  unfold cpy
  rw [hl, List.drop_eq_nil_of_le (by omega), List.append_nil]
theorem off_eq (B : List UInt8) (bad : Bool) (n : Int) (right : Bool) (hB : B.length ≤ 1000000) : ref02_Reader_off ⟨B, bad⟩ n right = if bad = false ∧ right = true ∧ 0 ≤ n ∧ n ≤ B.length then some (B.take n.toNat, ⟨B.drop n.toNat, false⟩) else some ([], ⟨B, true⟩) := by
  unfold ref02_Reader_off
  simp only
  by_cases h : bad = false ∧ right = true ∧ 0 ≤ n ∧ n ≤ B.length
  · obtain ⟨h1, h2, h3, h4⟩ := h
    subst h1; subst h2
    have hc : ¬ ((((false = true) ∨ ((!true) = true)) ∨ (n < 0)) ∨ ((B.length : Int) < n)) := by simp; omega
    rw [if_neg hc, if_pos ⟨rfl, rfl, h3, h4⟩]
    obtain ⟨m, rfl⟩ := Int.eq_ofNat_of_zero_le h3
    have hw := whole_eq 0 m (by omega)
    rw [show ((0 : UInt64).toNat) = 0 from rfl] at hw
    rw [hw, bind_some']
    have e : subl B (m : Int) (B.length : Int) = some (B.drop m) := by
      unfold subl
      rw [if_pos ⟨by omega, by omega, by omega⟩]
      rw [Int.toNat_natCast, Int.toNat_natCast, List.take_of_length_le (by rw [List.length_drop]; omega)]
    rw [e, bind_some', decide_eq_false hc, cpy_zero m _ _ (be_len _ _) (by omega), Int.toNat_natCast]
  · have hc : ((((bad = true) ∨ ((!right) = true)) ∨ (n < 0)) ∨ ((B.length : Int) < n)) := by
      cases bad <;> cases right <;> simp at h ⊢
      omega
    rw [if_pos hc, if_neg h, decide_eq_true hc]
theorem off_nt_eq (B : List UInt8) (bad : Bool) (n : Int) (right : Bool) (hB : B.length ≤ 1000000) (hr : right = true → 0 < n) : ref02_Reader_off_nt ⟨B, bad⟩ n right = if bad = false ∧ right = true ∧ 0 ≤ n ∧ n ≤ B.length then some (B.take n.toNat, ⟨B.drop n.toNat, false⟩) else some ([], ⟨B, true⟩) := by
  unfold ref02_Reader_off_nt
  simp only
  by_cases h : bad = false ∧ right = true ∧ 0 ≤ n ∧ n ≤ B.length
  · obtain ⟨h1, h2, h3, h4⟩ := h
    have hr := hr h2
    subst h1; subst h2
    have hc : ¬ ((((false = true) ∨ ((!true) = true)) ∨ (n < 0)) ∨ ((B.length : Int) < n)) := by simp; omega
    rw [if_neg hc, if_pos ⟨rfl, rfl, h3, h4⟩]
    obtain ⟨m, rfl⟩ := Int.eq_ofNat_of_zero_le h3
    have hw := whole_eq 0 m (by omega)
    rw [show ((0 : UInt64).toNat) = 0 from rfl] at hw
    rw [hw, bind_some']
    have e : subl B (m : Int) (B.length : Int) = some (B.drop m) := by
      unfold subl
      rw [if_pos ⟨by omega, by omega, by omega⟩]
      rw [Int.toNat_natCast, Int.toNat_natCast, List.take_of_length_le (by rw [List.length_drop]; omega)]
    have hne : cpy (be m 0) B ≠ [] := by
      rw [cpy_zero m _ _ (be_len _ _) (by omega)]
      intro h
      rw [List.take_eq_nil_iff] at h
      rcases h with h | h
      · omega
      · rw [h] at h4; simp at h4; omega
    rw [e, bind_some', if_pos hne, decide_eq_false hc, cpy_zero m _ _ (be_len _ _) (by omega), Int.toNat_natCast]
  · have hc : ((((bad = true) ∨ ((!right) = true)) ∨ (n < 0)) ∨ ((B.length : Int) < n)) := by
      cases bad <;> cases right <;> simp at h ⊢
      omega
    rw [if_pos hc, if_neg h, decide_eq_true hc]
set_option maxRecDepth 100000 in
theorem ahead_eq (B : List UInt8) (bad : Bool) (hB : B.length ≤ 1000000) : ref02_Reader_ahead ⟨B, bad⟩ = some (match dec B with | some y => ((sizeN y : Int), UInt64.ofNat y) | none => (0, 0)) := by
  unfold ref02_Reader_ahead
  rw [jn_eq]
  simp only
  cases B with
  | nil => rfl
  | cons c t =>
    have hc := c.toNat_lt
    have e1 : geti (c :: t) 0 = some c := rfl
    rw [List.length_cons] at hB
    rw [if_pos (by rw [List.length_cons]; omega), e1, bind_some']
    have e2 : i64 (1 + (max 0 (i64 ((c.toNat : Int) - 247)))) = 1 + ((c.toNat - 247 : Nat) : Int) := by
      rw [i64_eq (p := (c.toNat : Int) - 247) (by omega) (by omega), i64_eq (by omega) (by omega)]
      omega
    rw [e2]
    simp only [dec]
    by_cases hs : c.toNat ≤ 247
    · have e3 : c.toNat - 247 = 0 := by omega
      have e4 : sizeN c.toNat = 1 := by unfold sizeN; rw [if_pos hs]
      rw [e3, if_neg (by rw [List.length_cons]; omega), if_pos (by rfl), bind_some', if_pos hs]
      simp only [e4]
      congr 2
      apply UInt64.toNat.inj
      rw [ofI64_small _ (by omega), UInt64.toNat_ofNat', Nat.mod_eq_of_lt (by omega)]
    · rw [if_neg hs]
      by_cases hn : c.toNat - 247 ≤ t.length
      · have e5 : subl (c :: t) 1 (1 + ((c.toNat - 247 : Nat) : Int)) = some (t.take (c.toNat - 247)) := by
          unfold subl
          rw [if_pos ⟨by omega, by omega, by simp; omega⟩]
          have e6 : (1 + ((c.toNat - 247 : Nat) : Int)).toNat - (1 : Int).toNat = c.toNat - 247 := by omega
          rw [e6]; rfl
        have hl : (t.take (c.toNat - 247)).length = c.toNat - 247 := by rw [List.length_take]; omega
        have hlt := valB_lt (t.take (c.toNat - 247))
        rw [hl] at hlt
        have h8 := Nat.pow_le_pow_right (show 0 < 256 by omega) (show c.toNat - 247 ≤ 8 by omega)
        have e8 : (256:Nat) ^ 8 = 18446744073709551616 := by simp
        have hv : valB (t.take (c.toNat - 247)) < 18446744073709551616 := Nat.lt_of_lt_of_le hlt (e8 ▸ h8)
        have e7 : (UInt64.ofNat (valB (t.take (c.toNat - 247)))).toNat = valB (t.take (c.toNat - 247)) := by rw [UInt64.toNat_ofNat', Nat.mod_eq_of_lt hv]
        rw [if_neg (by rw [List.length_cons]; omega), if_neg (by omega), e5, bind_some', sum_eq _ (by rw [hl]; omega), bind_some', needs_eq, e7]
        generalize valB (t.take (c.toNat - 247)) = v at *
        by_cases h1 : v < 248
        · rw [if_pos (by omega), bind_some', if_pos rfl, if_neg (by omega)]
        · rw [if_neg (by omega), bind_some', bind_some', i64_eq (by omega) (by omega)]
          by_cases h2 : blen v = c.toNat - 247
          · rw [decide_eq_false (by omega), if_neg (by decide), if_pos ⟨hn, by omega, h2⟩]
            have e9 : sizeN v = 1 + (c.toNat - 247) := by unfold sizeN; rw [if_neg (by omega), h2]
            simp only [e9]
            congr 2
          · rw [decide_eq_true (by omega), if_pos rfl, if_neg (by omega)]
      · rw [if_pos (by right; rw [List.length_cons]; omega), if_neg (by omega)]
end Go.Proofs
