import Derived.Test.YtcagpghggohoiaaQ02B
set_option linter.unusedSimpArgs false
set_option linter.unusedVariables false
namespace Go.Proofs
open Go.Fw
/-! items -/
def kd (a : Law02Item) : Int := (i64 ((a.Kind.tmod 5) + 5)).tmod 5
theorem kind_eq (a : Law02Item) : law02_kind a = some (kd a) := rfl
theorem kd_range (a : Law02Item) : 0 ≤ kd a ∧ kd a ≤ 4 := by
  unfold kd
  have h1 := Int.tmod_lt_of_pos a.Kind (show (0:Int) < 5 by omega)
  have h2 := Int.lt_tmod_of_pos a.Kind (show (0:Int) < 5 by omega)
  rw [i64_eq (by omega) (by omega)]
  have h3 := Int.tmod_lt_of_pos (a.Kind.tmod 5 + 5) (show (0:Int) < 5 by omega)
  have h4 := Int.tmod_nonneg 5 (show 0 ≤ a.Kind.tmod 5 + 5 by omega)
  omega
/-- What an item writes. -/
def enc1 (x : Law02Item) : List UInt8 := if kd x = 0 then [ofI8 (x.X.toNat : Int)] else if kd x = 1 then be 4 (ofI32 (x.X.toNat : Int)).toNat else if kd x = 2 then encN x.X.toNat else if kd x = 3 then encN x.S.length ++ x.S else x.S
theorem enc1_len (x : Law02Item) (h : x.S.length < 18446744073709551616) : (enc1 x).length ≤ x.S.length + 9 := by
  have h1 := sizeN_le (x := x.X.toNat) x.X.toNat_lt
  have h2 := sizeN_le (x := x.S.length) h
  unfold enc1
  split
  · simp
  · split
    · rw [be_len]; omega
    · split
      · rw [encN_len]; omega
      · split
        · rw [List.length_append, encN_len]; omega
        · omega
theorem write_eq (w : List UInt8) (x : Law02Item) (h : w.length + x.S.length + 9 ≤ 140737488355328) : law02_write w x = some (w ++ enc1 x) := by
  unfold law02_write enc1
  rw [kind_eq, bind_some']
  have hr := kd_range x
  by_cases h0 : kd x = 0
  · rw [if_pos h0, if_pos h0]; unfold code_Writer_U8; rw [if_pos (by omega), bind_some', UInt8.ofNat_toNat]
  · rw [if_neg h0, if_neg h0]
    by_cases h1 : kd x = 1
    · rw [if_pos h1, if_pos h1]; unfold code_Writer_U32; rw [if_pos (by omega), bind_some']
    · rw [if_neg h1, if_neg h1]
      by_cases h2 : kd x = 2
      · rw [if_pos h2, if_pos h2]; unfold code_Writer_Uint; rw [if_pos (by omega), bind_some']
      · rw [if_neg h2, if_neg h2]
        by_cases h3 : kd x = 3
        · rw [if_pos h3, if_pos h3]; unfold code_Writer_Text; rw [if_pos (by omega), bind_some']
        · rw [if_neg h3, if_neg h3, if_pos (by omega)]; unfold code_Writer_Raw; rw [if_pos (by omega), bind_some']
theorem bytes_eq (x : Law02Item) (h : x.S.length ≤ 1000000) : law02_bytes x = some (enc1 x) := by
  unfold law02_bytes enc1
  rw [kind_eq, bind_some']
  by_cases h0 : kd x = 0
  · rw [if_pos h0, if_pos h0]
  · rw [if_neg h0, if_neg h0]
    by_cases h1 : kd x = 1
    · rw [if_pos h1, if_pos h1, four_eq]; rfl
    · rw [if_neg h1, if_neg h1]
      by_cases h2 : kd x = 2
      · rw [if_pos h2, if_pos h2, short_eq]; rfl
      · rw [if_neg h2, if_neg h2]
        by_cases h3 : kd x = 3
        · rw [if_pos h3, if_pos h3, text_ref _ h]; rfl
        · rw [if_neg h3, if_neg h3]
theorem put_nil_loop (l : List UInt64) : ∀ (d i j : Nat), i + d = l.length → l.length < 1000 → d < j → code_Writer_Put_nil_l1 l j (i : Int) = some () := by
  intro d
  induction d with
  | zero =>
    intro i j hi hl hj
    obtain ⟨j, rfl⟩ : ∃ i, j = i + 1 := ⟨j - 1, by omega⟩
    rw [code_Writer_Put_nil_l1, if_neg (by omega)]
  | succ d ih =>
    intro i j hi hl hj
    obtain ⟨j, rfl⟩ : ∃ i, j = i + 1 := ⟨j - 1, by omega⟩
    rw [code_Writer_Put_nil_l1, if_pos (by omega), geti_nat, List.getElem?_eq_getElem (by omega), bind_some']
    unfold code_laid code_Writer_Raw_nil
    rw [bind_some', bind_some', i64_eq (by omega) (by omega)]
    exact ih (i + 1) j (by omega) hl (by omega)
theorem write_nil_eq (x : Law02Item) : law02_write_nil x = some () := by
  have hp : ∀ y, code_Writer_Put_nil [y] = some () := fun y => put_nil_loop [y] 1 0 FU rfl (by simp) (ltFU (by omega))
  unfold law02_write_nil
  rw [kind_eq, bind_some']
  unfold code_Writer_U8_nil code_Writer_U32_nil code_Writer_Uint_nil code_Writer_Text_nil code_Writer_Raw_nil
  rw [hp, hp]
  simp only [bind_some']
  split
  · rfl
  · split
    · rfl
    · split
      · rfl
      · split
        · rfl
        · split <;> rfl

/-! how long -/
def cost : List Law02Item → Nat
  | [] => 0
  | x :: l => 1 + x.S.length / 16 + cost l
theorem cost_len : ∀ l : List Law02Item, l.length ≤ cost l
  | [] => Nat.le_refl _
  | x :: l => by have := cost_len l; simp only [List.length_cons, cost]; omega
theorem cost_mem : ∀ {l : List Law02Item} {x : Law02Item}, x ∈ l → x.S.length ≤ 16 * cost l
  | y :: l, x, h => by
    simp only [cost]
    rcases List.mem_cons.1 h with h | h
    · subst h; omega
    · have := cost_mem h; omega
theorem cost_drop (l : List Law02Item) (i : Nat) (h : i < l.length) : cost (l.drop i) = 1 + l[i].S.length / 16 + cost (l.drop (i + 1)) := by
  rw [List.drop_eq_getElem_cons h]; rfl
theorem long_loop (a : List Law02Item) (kj : Unit → Option Bool) (ha : ∀ x ∈ a, x.S.length ≤ 9223372036854775807) (hl : a.length ≤ 9223372036854775807) : ∀ (d i j n : Nat), i + d = a.length → d < j → n ≤ 2000 →
    law02_long_l1 a kj j (n : Int) (i : Int) = if 2000 < n + cost (a.drop i) then some true else kj () := by
  intro d
  induction d with
  | zero =>
    intro i j n hi hj hn
    obtain ⟨j, rfl⟩ : ∃ i, j = i + 1 := ⟨j - 1, by omega⟩
    rw [law02_long_l1, if_neg (by omega), List.drop_eq_nil_of_le (by omega), show cost ([] : List Law02Item) = 0 from rfl, if_neg (by omega)]
  | succ d ih =>
    intro i j n hi hj hn
    obtain ⟨j, rfl⟩ : ∃ i, j = i + 1 := ⟨j - 1, by omega⟩
    have hi' : i < a.length := by omega
    have hx := ha a[i] (List.getElem_mem hi')
    have e0 : ((a[i].S.length : Nat) : Int).tdiv 16 = ((a[i].S.length / 16 : Nat) : Int) := by rw [Int.tdiv_eq_ediv_of_nonneg (by omega)]; omega
    rw [law02_long_l1, if_pos (by omega), geti_nat, List.getElem?_eq_getElem hi', bind_some', e0, i64_eq (p := ((a[i].S.length / 16 : Nat) : Int)) (by omega) (by omega), i64_eq (p := 1 + _) (by omega) (by omega), i64_eq (p := (n : Int) + _) (by omega) (by omega), i64_eq (by omega) (by omega), cost_drop a i hi']
    by_cases hc : 2000 < n + (1 + a[i].S.length / 16)
    · rw [if_pos (by omega), if_pos (by omega)]
    · rw [if_neg (by omega)]
      have := ih (i + 1) j (n + (1 + a[i].S.length / 16)) (by omega) (by omega) (by omega)
      rw [Nat.add_assoc n] at this
      rw [← this]
      congr 1
theorem long_eq (a : List Law02Item) (ha : ∀ x ∈ a, x.S.length ≤ 9223372036854775807) (hl : a.length ≤ 9223372036854775807) : law02_long a = some (decide (2000 < cost a)) := by
  unfold law02_long
  rw [jn_eq]
  have := long_loop a (fun _ => some false) ha hl a.length 0 FU 0 (by omega) (ltFU (by omega)) (by omega)
  rw [show ((0 : Nat) : Int) = 0 from rfl] at this
  rw [this, List.drop_zero, Nat.zero_add]
  by_cases h : 2000 < cost a
  · rw [if_pos h, decide_eq_true h]
  · rw [if_neg h, decide_eq_false h]

/-! a number's bytes, of which one is another one -/
theorem uint_code (r : Rd) (hb : r.bad = false) (hl : r.pl ≤ r.all.length) : code_Reader_Uint r = some (ofI64 (r.uint.1 : Int), r.uint.2) := by
  unfold code_Reader_Uint
  rw [if_pos]
  rw [uint_eq hb hl]
  cases hd : dec r.left with
  | none => simp
  | some y => exact (dec_some hd).1
set_option maxRecDepth 100000 in
theorem CodeChanged_pure (x : UInt64) (at_ : Int) (by_ : UInt8) (hat : at_ ≤ 9223372036854775807) : law02_CodeChanged x at_ by_ = some true := by
  have hx := x.toNat_lt
  have hs := sizeN_le (x := x.toNat) hx
  have hlen := encN_len x.toNat
  unfold law02_CodeChanged code_NewWriter code_Writer_Uint
  rw [bind_some', if_pos (by simp), bind_some', List.nil_append]
  unfold code_Writer_Bytes code_Size
  rw [if_pos (by omega), bind_some']
  obtain ⟨c, t, hct⟩ : ∃ c t, encN x.toNat = c :: t := by
    cases h : encN x.toNat with
    | nil => rw [h] at hlen; simp at hlen; omega
    | cons c t => exact ⟨c, t, rfl⟩
  have hc : c.toNat = if x.toNat ≤ 247 then x.toNat else 246 + sizeN x.toNat := by
    unfold encN at hct
    have h8 := blen_le8 hx
    unfold sizeN
    split at hct
    · rename_i hh
      rw [if_pos hh]
      injection hct with e _
      rw [← e, UInt8.toNat_ofNat']; omega
    · rename_i hh
      rw [if_neg hh, if_neg hh]
      injection hct with e _
      rw [← e, UInt8.toNat_ofNat']; omega
  have hsz : (sizeN x.toNat = 1 ∧ x.toNat ≤ 247) ∨ (1 < sizeN x.toNat ∧ 247 < x.toNat) := by
    unfold sizeN
    split
    · left; omega
    · right
      have := blen_pos1 (x := x.toNat) (by omega)
      omega
  have hcl := c.toNat_lt
  have hg0 : geti (encN x.toNat) 0 = some c := by rw [hct]; rfl
  rw [hg0]
  rw [if_neg (by omega), bind_some', bind_some', hlen, decide_eq_false (by simp), if_neg (by decide), bind_some', bind_some']
  rw [decide_eq_false (by split at hc <;> omega), if_neg (by decide), bind_some']
  have e1 : (if 247 < (c.toNat : Int) then some (decide (((sizeN x.toNat : Nat) : Int) ≠ i64 ((c.toNat : Int) - 246))) else some false) = some false := by
    split
    · rw [i64_eq (by omega) (by omega), decide_eq_false (by split at hc <;> omega)]
    · rfl
  rw [bind_some', e1, bind_some', bind_some', if_neg (by decide), if_pos (by omega)]
  generalize hi : (max 0 at_).tmod (((sizeN x.toNat : Nat) : Int)) = i
  have hi0 : 0 ≤ i := by rw [← hi]; exact Int.tmod_nonneg _ (by omega)
  have hi1 : i < (sizeN x.toNat : Int) := by rw [← hi]; exact Int.tmod_lt_of_pos _ (by omega)
  obtain ⟨k, rfl⟩ := Int.eq_ofNat_of_zero_le hi0
  have hk : k < (encN x.toNat).length := by omega
  rw [geti_nat, List.getElem?_eq_getElem hk, bind_some', bind_some', Int.toNat_natCast]
  generalize hd : ofI8 (((encN x.toNat)[k].toNat : Int) + ((ofI8 (1 + ((ofI8 ((by_.toNat : Int).tmod 255)).toNat : Int))).toNat : Int)) = d
  have hne : d ≠ (encN x.toNat)[k] := by
    intro e
    have h1 := congrArg UInt8.toNat hd
    rw [e] at h1
    have hk' := (encN x.toNat)[k].toNat_lt
    have hb := by_.toNat_lt
    have h2 : (by_.toNat : Int).tmod 255 = ((by_.toNat % 255 : Nat) : Int) := by rw [Int.tmod_eq_emod_of_nonneg (by omega)]; omega
    have h3 : ((ofI8 ((by_.toNat : Int).tmod 255)).toNat : Int) = ((by_.toNat % 255 : Nat) : Int) := by rw [h2]; exact ofI8_nat (by omega) (by omega)
    have h4 : ((ofI8 (1 + ((ofI8 ((by_.toNat : Int).tmod 255)).toNat : Int))).toNat : Int) = ((1 + by_.toNat % 255 : Nat) : Int) := by
      rw [h3]
      have := ofI8_nat (p := 1 + ((by_.toNat % 255 : Nat) : Int)) (by omega) (by omega)
      omega
    rw [h4] at h1
    unfold ofI8 at h1
    rw [UInt8.toNat_ofNat'] at h1
    omega
  generalize hb : (encN x.toNat).set k d = b
  have hbl : b.length = sizeN x.toNat := by rw [← hb, List.length_set, hlen]
  have hbne : b ≠ encN x.toNat := by
    intro e
    have := congrArg (fun l => l[k]?) (hb.trans e)
    simp only [List.getElem?_set_self hk, List.getElem?_eq_getElem hk] at this
    exact hne (Option.some.inj this)
  unfold code_NewReader
  rw [if_pos (by unfold BIG; omega), bind_some', uint_code _ rfl (Nat.zero_le _), bind_some']
  have hu := uint_eq (r := ⟨b, 0, false⟩) rfl (Nat.zero_le _)
  have hleft : (⟨b, 0, false⟩ : Rd).left = b := rfl
  rw [hleft] at hu
  unfold code_Reader_End law02_awake
  cases hdec : dec b with
  | none =>
    rw [hdec] at hu
    rw [hu]
    simp [bind_some']
  | some y =>
    rw [hdec] at hu
    rw [hu]
    obtain ⟨hy, hB, hsz⟩ := dec_some hdec
    rw [bind_some']
    simp only
    by_cases he : sizeN y < b.length
    · rw [if_pos (.inl (by simpa using he))]
      simp [bind_some']
    · have hyl : b.drop (sizeN y) = [] := List.drop_eq_nil_of_le (by omega)
      rw [hyl, List.append_nil] at hB
      have hyx : y ≠ x.toNat := fun e => hbne (by rw [hB, e])
      have hyx' : (((ofI64 (y : Int)).toNat : Nat) : Int) ≠ (x.toNat : Int) := by rw [ofI64_small _ hy]; omega
      rw [if_pos (.inr hyx')]
      rfl
end Go.Proofs
