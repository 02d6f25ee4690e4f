import Derived.Test.YtcagpghggohoiaaQ02E
set_option linter.unusedSimpArgs false
set_option linter.unusedVariables false
namespace Go.Proofs
open Go.Fw
/-! what is written is read again -/
def nv (x : Law02Item) : UInt64 := if kd x = 0 then ofI64 ((ofI8 (x.X.toNat : Int)).toNat : Int) else if kd x = 1 then ofI64 ((ofI32 (x.X.toNat : Int)).toNat : Int) else if kd x = 2 then x.X else 0
def tv (x : Law02Item) : List UInt8 := if kd x = 3 ∨ kd x = 4 then x.S else []
/-- The item by which another one is read. -/
def asked (x : Law02Item) : Law02Item := ⟨x.Kind, (x.S.length : Int), x.X, x.S⟩
theorem kd_asked (x : Law02Item) : kd (asked x) = kd x := rfl
theorem ofI8_valB (c : UInt8) : ofI8 ((valB [c] : Nat) : Int) = c := by rw [valB_one, ofI8_toNat]
theorem ofI32_valB (v : UInt32) : ofI32 ((valB (be 4 v.toNat) : Nat) : Int) = v := by
  have := v.toNat_lt
  rw [valB_be, Nat.mod_eq_of_lt (by omega), ofI32_toNat]
theorem left_len {r : Rd} (h : r.pl ≤ r.all.length) : r.left.length = r.all.length - r.pl := by unfold Rd.left; rw [List.length_drop]
theorem read_whole {r : Rd} {x : Law02Item} {rest : List UInt8} (hS : x.S.length ≤ 1000000) (hb : r.bad = false) (hl : r.pl ≤ r.all.length) (h : r.left = enc1 x ++ rest) : law02_read r (asked x) = some (nv x, tv x, ⟨r.all, r.pl + (enc1 x).length, false⟩) := by
  have hk := kd_range x
  have hlen := congrArg List.length h
  rw [List.length_append] at hlen
  unfold law02_read
  rw [kind_eq, bind_some', kd_asked]
  unfold nv tv
  by_cases h0 : kd x = 0
  · have he : enc1 x = [ofI8 (x.X.toNat : Int)] := by unfold enc1; rw [if_pos h0]
    rw [if_pos h0, if_pos h0, if_neg (by omega)]
    unfold code_Reader_U8
    have ht := rd_take_ok (n := 1) hb hl (by rw [hlen, he]; simp)
    rw [h, he] at ht
    simp only [List.cons_append, List.nil_append, List.take_succ_cons, List.take_zero] at ht
    rw [show ((1 : Nat) : Int) = 1 from rfl] at ht
    rw [ht, bind_some', ofI8_valB, he]; rfl
  rw [if_neg h0, if_neg h0]
  by_cases h1 : kd x = 1
  · have he : enc1 x = be 4 (ofI32 (x.X.toNat : Int)).toNat := by unfold enc1; rw [if_neg h0, if_pos h1]
    rw [if_pos h1, if_pos h1, if_neg (by omega)]
    unfold code_Reader_U32
    have ht := rd_take_ok (n := 4) hb hl (by rw [hlen, he, be_len]; omega)
    rw [h, he, List.take_append_of_le_length (by rw [be_len]; omega), List.take_of_length_le (by rw [be_len]; omega)] at ht
    rw [show ((4 : Nat) : Int) = 4 from rfl] at ht
    rw [ht, bind_some', ofI32_valB, he, be_len]
  rw [if_neg h1, if_neg h1]
  by_cases h2 : kd x = 2
  · have he : enc1 x = encN x.X.toNat := by unfold enc1; rw [if_neg h0, if_neg h1, if_pos h2]
    rw [if_pos h2, if_pos h2, if_neg (by omega), uint_code r hb hl, uint_eq hb hl, h, he, dec_enc _ x.X.toNat_lt, bind_some', encN_len]
    dsimp only
    rw [ofI64_toNat]
  rw [if_neg h2, if_neg h2]
  by_cases h3 : kd x = 3
  · have he : enc1 x = encN x.S.length ++ x.S := by unfold enc1; rw [if_neg h0, if_neg h1, if_neg h2, if_pos h3]
    rw [if_pos h3, if_pos (.inl h3)]
    unfold code_Reader_Text
    have hm : (asked x).Most = (x.S.length : Int) := rfl
    rw [hm, if_pos (by omega), text_eq hb hl, h, he, List.append_assoc, dec_enc _ (by omega), bind_some']
    dsimp only
    have e2 : (encN x.S.length ++ (x.S ++ rest)).drop (sizeN x.S.length) = x.S ++ rest := by
      rw [← encN_len, List.drop_left]
    rw [if_pos ⟨by omega, by omega, by rw [List.length_append, encN_len, List.length_append]; omega⟩, e2, List.take_left, List.length_append, encN_len, ← Nat.add_assoc]
  · have he : enc1 x = x.S := by unfold enc1; rw [if_neg h0, if_neg h1, if_neg h2, if_neg h3]
    rw [if_neg h3, if_pos (.inr (by omega))]
    unfold code_Reader_Raw
    have hm : (asked x).Most = (x.S.length : Int) := rfl
    have ht := rd_take_ok (n := x.S.length) hb hl (by rw [hlen, he]; omega)
    rw [h, he, List.take_left] at ht
    rw [hm, ht, bind_some', he]
theorem read_bad {r : Rd} (x : Law02Item) (hS : x.S.length ≤ 1000000) (hb : r.bad = true) : ∃ n t, law02_read r (asked x) = some (n, t, r) := by
  have hU : code_Reader_Uint r = some (0, r) := by unfold code_Reader_Uint; rw [uint_bad hb]; rfl
  have hm : (asked x).Most = (x.S.length : Int) := rfl
  have hT : code_Reader_Text r (asked x).Most = some ([], r) := by unfold code_Reader_Text; rw [hm, if_pos (by omega), text_bad hb]
  unfold law02_read code_Reader_U8 code_Reader_U32 code_Reader_Raw
  rw [kind_eq, bind_some', hU, hT, rd_take_bad hb, rd_take_bad hb, rd_take_bad hb]
  simp only [bind_some']
  split
  · exact ⟨_, _, rfl⟩
  · split
    · exact ⟨_, _, rfl⟩
    · split
      · exact ⟨_, _, rfl⟩
      · split <;> exact ⟨_, _, rfl⟩
theorem dec_short {p q : List UInt8} {y : Nat} (hy : y < 18446744073709551616) (h : p ++ q = encN y) (hq : q ≠ []) : dec p = none := by
  cases hd : dec p with
  | none => rfl
  | some z =>
    exfalso
    obtain ⟨hz, he, hs⟩ := dec_some hd
    have h1 : dec (encN y) = some y := by have := dec_enc y hy []; rwa [List.append_nil] at this
    rw [← h, he, List.append_assoc, dec_enc z hz] at h1
    have hzy := Option.some.inj h1
    subst hzy
    have := congrArg List.length h
    rw [List.length_append, encN_len] at this
    have h0 : q.length = 0 := by omega
    exact hq (List.eq_nil_of_length_eq_zero h0)
theorem read_short {r : Rd} {x : Law02Item} {q : List UInt8} (hS : x.S.length ≤ 1000000) (hb : r.bad = false) (hl : r.pl ≤ r.all.length) (h : r.left ++ q = enc1 x) (hq : q ≠ []) : ∃ n t r', law02_read r (asked x) = some (n, t, r') ∧ r'.bad = true ∧ r'.all = r.all ∧ r'.pl = r.pl := by
  have hk := kd_range x
  have hql : 0 < q.length := List.length_pos_iff.2 hq
  have hlen := congrArg List.length h
  rw [List.length_append] at hlen
  unfold law02_read
  rw [kind_eq, bind_some', kd_asked]
  by_cases h0 : kd x = 0
  · have he : enc1 x = [ofI8 (x.X.toNat : Int)] := by unfold enc1; rw [if_pos h0]
    rw [he] at hlen
    simp only [List.length_singleton] at hlen
    rw [if_pos h0]
    unfold code_Reader_U8
    rw [rd_take_no hb hl (by right; omega), bind_some']
    exact ⟨_, _, _, rfl, rfl, rfl, rfl⟩
  rw [if_neg h0]
  by_cases h1 : kd x = 1
  · have he : enc1 x = be 4 (ofI32 (x.X.toNat : Int)).toNat := by unfold enc1; rw [if_neg h0, if_pos h1]
    rw [he, be_len] at hlen
    rw [if_pos h1]
    unfold code_Reader_U32
    rw [rd_take_no hb hl (by right; omega), bind_some']
    exact ⟨_, _, _, rfl, rfl, rfl, rfl⟩
  rw [if_neg h1]
  by_cases h2 : kd x = 2
  · have he : enc1 x = encN x.X.toNat := by unfold enc1; rw [if_neg h0, if_neg h1, if_pos h2]
    rw [he] at h
    rw [if_pos h2, uint_code r hb hl, uint_eq hb hl, dec_short x.X.toNat_lt h hq, bind_some']
    exact ⟨_, _, _, rfl, rfl, rfl, rfl⟩
  rw [if_neg h2]
  have hm : (asked x).Most = (x.S.length : Int) := rfl
  by_cases h3 : kd x = 3
  · have he : enc1 x = encN x.S.length ++ x.S := by unfold enc1; rw [if_neg h0, if_neg h1, if_neg h2, if_pos h3]
    have hsz := encN_len x.S.length
    rw [if_pos h3]
    unfold code_Reader_Text
    rw [hm, if_pos (by omega), text_eq hb hl]
    by_cases hlt : r.left.length < sizeN x.S.length
    · have e1 : dec r.left = none := by
        refine dec_short (y := x.S.length) (q := (encN x.S.length).drop r.left.length) (by omega) ?_ ?_
        · have e2 : r.left = (encN x.S.length).take r.left.length := by
            have := congrArg (List.take r.left.length) h
            rw [List.take_left, he, List.take_append_of_le_length (by omega)] at this
            exact this
          rw [e2]
          rw [List.length_take, Nat.min_eq_left (by omega), List.take_append_drop]
        · intro e
          have := congrArg List.length e
          rw [List.length_drop] at this
          simp at this
          omega
      rw [e1, bind_some']
      exact ⟨_, _, _, rfl, rfl, rfl, rfl⟩
    · have e1 : r.left = encN x.S.length ++ r.left.drop (sizeN x.S.length) := by
        have := congrArg (List.take (sizeN x.S.length)) h
        rw [he, List.take_append_of_le_length (by omega), ← hsz, List.take_left] at this
        rw [hsz] at this
        calc r.left = r.left.take (sizeN x.S.length) ++ r.left.drop (sizeN x.S.length) := (List.take_append_drop _ _).symm
          _ = _ := by rw [this]
      rw [he, List.length_append, hsz] at hlen
      have e2 : dec r.left = some x.S.length := by rw [e1]; exact dec_enc _ (by omega) _
      rw [e2, bind_some']
      dsimp only
      rw [if_neg (by omega)]
      exact ⟨_, _, _, rfl, rfl, rfl, rfl⟩
  · have he : enc1 x = x.S := by unfold enc1; rw [if_neg h0, if_neg h1, if_neg h2, if_neg h3]
    rw [he] at hlen
    rw [if_neg h3]
    unfold code_Reader_Raw
    rw [hm, rd_take_no hb hl (by right; omega), bind_some']
    exact ⟨_, _, _, rfl, rfl, rfl, rfl⟩
/-- All that items write. -/
def encA (l : List Law02Item) : List UInt8 := (l.map enc1).flatten
theorem encA_len (l : List Law02Item) (h : ∀ x ∈ l, x.S.length ≤ 32000) : (encA l).length ≤ l.length * 32009 := by
  induction l with
  | nil => simp [encA]
  | cons x l ih =>
    have h1 := ih (fun y hy => h y (List.mem_cons_of_mem _ hy))
    have h2 := h x (List.mem_cons_self ..)
    have h3 := enc1_len x (by omega)
    have e : encA (x :: l) = enc1 x ++ encA l := rfl
    rw [e, List.length_append, List.length_cons]
    omega
theorem encA_append (l m : List Law02Item) : encA (l ++ m) = encA l ++ encA m := by unfold encA; rw [List.map_append, List.flatten_append]
theorem encA_single (x : Law02Item) : encA [x] = enc1 x := by simp [encA]
theorem encA_cons (x : Law02Item) (l : List Law02Item) : encA (x :: l) = enc1 x ++ encA l := rfl
theorem encA_split (l : List Law02Item) (i : Nat) (h : i < l.length) : encA l = encA (l.take i) ++ (enc1 l[i] ++ encA (l.drop (i + 1))) := by
  have : l = l.take i ++ l[i] :: l.drop (i + 1) := by rw [← List.drop_eq_getElem_cons h, List.take_append_drop]
  conv => lhs; rw [this]
  rw [encA_append, encA_cons]
theorem encA_take (l : List Law02Item) (i : Nat) (h : i < l.length) : (encA (l.take (i + 1))).length = (encA (l.take i)).length + (enc1 l[i]).length := by
  rw [List.take_succ_eq_append_getElem h, encA_append, encA_single, List.length_append]
theorem again_write (a : List Law02Item) (kj : List UInt8 → Option Bool) (hs : ∀ x ∈ a, x.S.length ≤ 32000) (ha : a.length ≤ 2000) : ∀ (d i j : Nat), i + d = a.length → d < j → law02_CodeAgain_l1 a kj j (i : Int) (encA (a.take i)) = kj (encA a) := by
  intro d
  induction d with
  | zero =>
    intro i j hi hj
    obtain ⟨j, rfl⟩ : ∃ i, j = i + 1 := ⟨j - 1, by omega⟩
    rw [law02_CodeAgain_l1, if_neg (by omega), List.take_of_length_le (by omega)]
  | succ d ih =>
    intro i j hi hj
    obtain ⟨j, rfl⟩ : ∃ i, j = i + 1 := ⟨j - 1, by omega⟩
    have hlt : i < a.length := by omega
    have hl := encA_len (a.take i) (fun x hx => hs x (List.mem_of_mem_take hx))
    rw [List.length_take] at hl
    have hx := hs a[i] (List.getElem_mem hlt)
    have hm : min i a.length * 32009 ≤ 2000 * 32009 := Nat.mul_le_mul_right _ (by omega)
    rw [law02_CodeAgain_l1, if_pos (by omega), geti_nat, List.getElem?_eq_getElem hlt, bind_some', write_eq _ _ (by omega), bind_some', i64_eq (by omega) (by omega)]
    have e : encA (a.take i) ++ enc1 a[i] = encA (a.take (i + 1)) := by
      rw [List.take_succ_eq_append_getElem hlt, encA_append, encA_single]
    rw [e]
    exact ih (i + 1) j (by omega) (by omega)
theorem nv_ok (x : Law02Item) : ¬ (((((kd x = 0) ∧ (((nv x).toNat : Int) ≠ ((ofI64 ((ofI8 (x.X.toNat : Int)).toNat : Int)).toNat : Int))) ∨ ((kd x = 1) ∧ (((nv x).toNat : Int) ≠ ((ofI64 ((ofI32 (x.X.toNat : Int)).toNat : Int)).toNat : Int)))) ∨ ((kd x = 2) ∧ (((nv x).toNat : Int) ≠ (x.X.toNat : Int)))) ∨ ((2 < kd x) ∧ (tv x ≠ x.S))) := by
  have hk := kd_range x
  unfold nv tv
  rintro (((⟨h, h'⟩ | ⟨h, h'⟩) | ⟨h, h'⟩) | ⟨h, h'⟩)
  · rw [if_pos h] at h'; exact h' rfl
  · rw [if_neg (by omega), if_pos h] at h'; exact h' rfl
  · rw [if_neg (by omega), if_neg (by omega), if_pos h] at h'; exact h' rfl
  · rw [if_pos (by omega)] at h'; exact h' rfl
theorem again_loop (a : List Law02Item) (c : Int) (m : Nat) (hc : (max 0 c).tmod (i64 (((encA a).length : Int) + 1)) = (m : Int)) (hm : m ≤ (encA a).length) (kj : Rd → Rd → Option Bool) (hs : ∀ x ∈ a, x.S.length ≤ 32000) (ha : a.length ≤ 2000)
    (hk : ∀ s, kj ⟨encA a, (encA a).length, false⟩ s = some true) : ∀ (d i j : Nat) (s : Rd), i + d = a.length → d < j → s.all = (encA a).take m → ((s.bad = true ∧ m < (encA (a.take i)).length) ∨ (s.bad = false ∧ s.pl = (encA (a.take i)).length ∧ s.pl ≤ m)) →
    law02_CodeAgain_l2 a c (encA a) kj j (i : Int) ⟨encA a, (encA (a.take i)).length, false⟩ s = some true := by
  intro d
  induction d with
  | zero =>
    intro i j s hi hj hal hst
    obtain ⟨j, rfl⟩ : ∃ i, j = i + 1 := ⟨j - 1, by omega⟩
    rw [law02_CodeAgain_l2, if_neg (by omega), List.take_of_length_le (by omega)]; exact hk s
  | succ d ih =>
    intro i j s hi hj hal hst
    obtain ⟨j, rfl⟩ : ∃ i, j = i + 1 := ⟨j - 1, by omega⟩
    have hlt : i < a.length := by omega
    have hx := hs a[i] (List.getElem_mem hlt)
    have hsp := encA_split a i hlt
    have htk := encA_take a i hlt
    have hle : (encA (a.take i)).length ≤ (encA a).length := by rw [hsp]; simp
    have hle2 : (encA (a.take (i + 1))).length ≤ (encA a).length := by rw [htk, hsp]; simp
    have hleft : (⟨encA a, (encA (a.take i)).length, false⟩ : Rd).left = enc1 a[i] ++ encA (a.drop (i + 1)) := by
      rw [left_mk, hsp, List.drop_left]
    have hrd := read_whole (r := ⟨encA a, (encA (a.take i)).length, false⟩) (x := a[i]) (by omega) rfl hle hleft
    unfold asked at hrd
    rw [law02_CodeAgain_l2, if_pos (by omega), geti_nat, List.getElem?_eq_getElem hlt, bind_some', hrd, bind_some', kind_eq, bind_some']
    have hkd : kd ⟨a[i].Kind, (a[i].S.length : Int), a[i].X, a[i].S⟩ = kd a[i] := rfl
    rw [hkd]
    dsimp only
    rw [if_neg (nv_ok a[i])]
    unfold code_Reader_Err code_Reader_At
    dsimp only
    rw [← htk, hc, bind_some', bind_some']
    rw [decide_eq_false (by simp), if_neg (by decide)]
    have fin : ∀ n t s', law02_read s (asked a[i]) = some (n, t, s') → s'.all = (encA a).take m →
        ((s'.bad = true ∧ m < (encA (a.take (i + 1))).length) ∨ (s'.bad = false ∧ s'.pl = (encA (a.take (i + 1))).length ∧ s'.pl ≤ m ∧ n = nv a[i] ∧ t = tv a[i])) →
        ((law02_read s (⟨a[i].Kind, (a[i].S.length : Int), a[i].X, a[i].S⟩ : Law02Item)).bind fun x25 => (some (((encA (a.take (i + 1))).length : Nat) : Int)).bind fun x26 => (if x26 ≤ (m : Int) then (if ((x25.1.toNat : Int) ≠ ((nv a[i]).toNat : Int)) ∨ (x25.2.1 ≠ tv a[i]) then some true else (some (x25.2.2.pl : Int)).bind fun x29 => (some (((encA (a.take (i + 1))).length : Nat) : Int)).bind fun x30 => some (decide (x29 ≠ x30))).bind fun x28 => some (x28) else some false).bind fun x27 => (if x27 = true then some true else (some (((encA (a.take (i + 1))).length : Nat) : Int)).bind fun x32 => (if (m : Int) < x32 then (some (if x25.2.2.bad = true then (2 : Int) else 0)).bind fun x34 => some (decide (x34 ≠ 2)) else some false).bind fun x33 => some (x33)).bind fun x31 => if x31 = true then some false else law02_CodeAgain_l2 a c (encA a) kj j (i64 ((i : Int) + 1)) ⟨encA a, (encA (a.take (i + 1))).length, false⟩ x25.2.2) = some true := by
      intro n t s' hr hal' hst'
      unfold asked at hr
      rw [hr, bind_some', bind_some']
      have hnx := ih (i + 1) j s' (by omega) (by omega) hal' (by
        rcases hst' with h | ⟨h1, h2, h3, _⟩
        · exact .inl h
        · exact .inr ⟨h1, h2, h3⟩)
      rw [i64_eq (by omega) (by omega)]
      rcases hst' with ⟨h1, h2⟩ | ⟨h1, h2, h3, h4, h5⟩
      · rw [if_neg (by omega), bind_some', if_neg (by decide), bind_some', if_pos (by omega)]
        dsimp only
        rw [if_pos h1, bind_some', decide_eq_false (by simp), bind_some', bind_some', if_neg (by decide)]
        exact hnx
      · subst h4 h5
        rw [if_pos (by omega), if_neg (by simp), bind_some', bind_some', decide_eq_false (by dsimp only; omega), bind_some', bind_some', if_neg (by decide), bind_some', if_neg (by omega), bind_some', bind_some', if_neg (by decide)]
        exact hnx
    have hml : ((encA a).take m).length = m := by rw [List.length_take]; omega
    rcases hst with ⟨h1, h2⟩ | ⟨h1, h2, h3⟩
    · obtain ⟨n, t, hr⟩ := read_bad a[i] (by omega) h1
      exact fin n t s hr hal (.inl ⟨h1, by omega⟩)
    · have hsl : s.pl ≤ s.all.length := by rw [hal, hml]; exact h3
      have hleft2 : s.left = (enc1 a[i] ++ encA (a.drop (i + 1))).take (m - s.pl) := by
        unfold Rd.left
        rw [hal, List.drop_take, h2, hsp, List.drop_left]
      by_cases hfit : (encA (a.take (i + 1))).length ≤ m
      · have hr := read_whole (r := s) (x := a[i]) (rest := (encA (a.drop (i + 1))).take (m - s.pl - (enc1 a[i]).length)) (by omega) h1 hsl (by
          rw [hleft2, List.take_append, List.take_of_length_le (by omega)])
        refine fin _ _ _ hr hal (.inr ⟨rfl, ?_, ?_, rfl, rfl⟩)
        · show s.pl + _ = _
          omega
        · show s.pl + _ ≤ _
          omega
      · have hq : s.left ++ (enc1 a[i]).drop (m - s.pl) = enc1 a[i] := by
          rw [hleft2, List.take_append_of_le_length (by omega), List.take_append_drop]
        obtain ⟨n, t, s', hr, hb', hal', hpl'⟩ := read_short (r := s) (x := a[i]) (by omega) h1 hsl hq (by
          intro e
          have := congrArg List.length e
          rw [List.length_drop] at this
          simp at this
          omega)
        exact fin n t s' hr (hal'.trans hal) (.inl ⟨hb', by omega⟩)
theorem CodeAgain_pure (a : List Law02Item) (c : Int) (ha : ∀ x ∈ a, x.S.length ≤ 9223372036854775807) (hl : a.length ≤ 9223372036854775807) : law02_CodeAgain a c = some true := by
  unfold law02_CodeAgain
  rw [long_eq a ha hl, bind_some']
  unfold law02_awake
  by_cases h : 2000 < cost a
  · rw [if_pos (by simpa using h)]; rfl
  · rw [if_neg (by simpa using h)]
    obtain ⟨h1, h2⟩ := cost_small h
    have hel := encA_len a h2
    have hel2 : a.length * 32009 ≤ 2000 * 32009 := Nat.mul_le_mul_right _ h1
    unfold code_NewWriter
    rw [bind_some', jn_eq]
    have hw := again_write a (fun x5 => (code_Writer_Bytes x5).bind fun x10 => (code_NewReader x10).bind fun x11 => if i64 ((x10.length : Int) + 1) ≠ 0 then (subl x10 0 ((max 0 c).tmod (i64 ((x10.length : Int) + 1)))).bind fun x12 => (code_NewReader x12).bind fun x13 => jn (fun (x15 : Rd) (x16 : Rd) => (code_Reader_End x15).bind fun x35 => (if x35.1 = 0 then (some true).bind fun x37 => some (true) else some false).bind fun x36 => some x36) (fun (kj14 : Rd → Rd → Option Bool) => law02_CodeAgain_l2 a c x10 kj14 FU 0 x11 x13) else none) h2 h1 a.length 0 FU (by omega) (ltFU (by omega))
    refine hw.trans ?_
    unfold code_Writer_Bytes code_NewReader
    have hi : i64 (((encA a).length : Int) + 1) = ((encA a).length : Int) + 1 := i64_eq (by omega) (by omega)
    obtain ⟨m, hm⟩ : ∃ m : Nat, (max 0 c).tmod (i64 (((encA a).length : Int) + 1)) = (m : Int) := ⟨_, (Int.toNat_of_nonneg (Int.tmod_nonneg _ (by omega))).symm⟩
    have hml : m ≤ (encA a).length := by
      have := Int.tmod_lt_of_pos (max 0 c) (show 0 < i64 (((encA a).length : Int) + 1) by rw [hi]; omega)
      rw [hm, hi] at this; omega
    have hsub : subl (encA a) 0 (m : Int) = some ((encA a).take m) := by
      unfold subl
      rw [if_pos ⟨by omega, by omega, by omega⟩, Int.toNat_natCast]; rfl
    rw [if_pos (by omega), bind_some', if_pos (by unfold BIG; omega), bind_some', if_pos (by rw [hi]; omega), hm, hsub, bind_some', if_pos (by rw [List.length_take]; unfold BIG; omega), bind_some', jn_eq]
    exact again_loop a c m hm hml _ h2 h1 (fun s => by
      unfold code_Reader_End
      rw [bind_some']
      dsimp only
      rw [if_neg (show ¬ ((encA a).length < (encA a).length ∨ false = true) by simp)]; rfl) a.length 0 FU ⟨(encA a).take m, 0, false⟩ (by omega) (ltFU (by omega)) rfl (.inr ⟨rfl, rfl, Nat.zero_le _⟩)
end Go.Proofs
