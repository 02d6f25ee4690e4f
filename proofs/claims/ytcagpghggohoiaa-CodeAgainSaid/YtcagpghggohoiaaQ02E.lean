import Derived.Test.YtcagpghggohoiaaQ02D
set_option linter.unusedSimpArgs false
set_option linter.unusedVariables false
namespace Go.Proofs
open Go.Fw
/-! what is read -/
theorem ofNat_eq_of (n : Nat) (h : n < 18446744073709551616) : UInt64.ofNat n = ofI64 (n : Int) := by
  apply UInt64.toNat.inj
  rw [ofI64_small n h, UInt64.toNat_ofNat', Nat.mod_eq_of_lt h]
theorem wide_eq (B : List UInt8) (bad : Bool) (n : Nat) (hB : B.length ≤ 1000000) : ref02_Reader_Wide ⟨B, bad⟩ (n : Int) = some (if bad = false ∧ n ≤ B.length then (UInt64.ofNat (valB (B.take n)), ⟨B.drop n, false⟩) else (0, ⟨B, true⟩)) := by
  unfold ref02_Reader_Wide
  rw [off_eq _ _ _ _ hB]
  by_cases h : bad = false ∧ n ≤ B.length
  · rw [if_pos ⟨h.1, rfl, by omega, by omega⟩, if_pos h, bind_some', Int.toNat_natCast, sum_eq _ (by rw [List.length_take]; omega)]; rfl
  · rw [if_neg (fun hh => h ⟨hh.1, by omega⟩), if_neg h, bind_some', sum_eq _ (by simp)]; rfl
theorem ruint_eq (B : List UInt8) (bad : Bool) (hB : B.length ≤ 1000000) : ref02_Reader_Uint ⟨B, bad⟩ = some (match bad, dec B with
    | false, some y => (ofI64 (y : Int), ⟨B.drop (sizeN y), false⟩)
    | _, _ => (0, ⟨B, true⟩)) := by
  unfold ref02_Reader_Uint
  rw [ahead_eq _ _ hB, bind_some']
  cases hd : dec B with
  | none =>
    simp only
    rw [off_nt_eq _ _ _ _ hB (by simp), if_neg (by simp), bind_some', if_pos rfl]
  | some y =>
    obtain ⟨hy, he, hs⟩ := dec_some hd
    have hsz := sizeN_le hy
    simp only
    rw [off_nt_eq _ _ _ _ hB (by intro _; omega)]
    cases bad with
    | true => rw [if_neg (by simp), bind_some', if_pos rfl]
    | false =>
      rw [if_pos ⟨rfl, by rw [decide_eq_true]; omega, by omega, by omega⟩, bind_some', Int.toNat_natCast, if_neg, ofNat_eq_of y hy]
      intro h
      rw [List.take_eq_nil_iff] at h
      rcases h with h | h
      · omega
      · rw [h] at hs; simp at hs; omega
theorem rtext_eq (B : List UInt8) (bad : Bool) (m : Int) (hB : B.length ≤ 1000000) (hm : m < 9223372036854775808) : ref02_Reader_Text ⟨B, bad⟩ m = some (match bad, dec B with
    | false, some y => if 0 ≤ m ∧ (y : Int) ≤ m ∧ sizeN y + y ≤ B.length then ((B.drop (sizeN y)).take y, ⟨B.drop (sizeN y + y), false⟩) else ([], ⟨B, true⟩)
    | _, _ => ([], ⟨B, true⟩)) := by
  unfold ref02_Reader_Text
  rw [ahead_eq _ _ hB, bind_some']
  cases hd : dec B with
  | none =>
    simp only
    rw [jn_eq, if_pos (by simp)]
    dsimp only
    rw [off_nt_eq _ _ _ _ hB (by simp), if_neg (by simp), bind_some', if_pos rfl]
  | some y =>
    obtain ⟨hy, he, hs⟩ := dec_some hd
    have hsz := sizeN_le hy
    have ey : (UInt64.ofNat y).toNat = y := by rw [UInt64.toNat_ofNat', Nat.mod_eq_of_lt hy]
    have e1 : (ofI64 (max m 0)).toNat = (max m 0).toNat := by
      have := ofI64_small (max m 0).toNat (by omega)
      rw [← this]; congr 2; omega
    have e2 : (ofI64 (i64 ((B.length : Int) - (sizeN y : Int)))).toNat = B.length - sizeN y := by
      rw [i64_eq (by omega) (by omega)]
      have := ofI64_small (B.length - sizeN y) (by omega)
      rw [← this]; congr 2; omega
    simp only
    rw [jn_eq, ey, e1, e2]
    by_cases hc : 0 ≤ m ∧ (y : Int) ≤ m ∧ sizeN y + y ≤ B.length
    · have hc' : (((0 < (sizeN y : Int)) ∧ (0 ≤ m)) ∧ ((y : Int) ≤ ((max m 0).toNat : Int))) ∧ ((y : Int) ≤ ((B.length - sizeN y : Nat) : Int)) := by omega
      rw [if_neg (fun h => h hc'), decide_eq_true hc']
      dsimp only
      rw [ey, i64_eq (p := (y : Int)) (by omega) (by omega), i64_eq (by omega) (by omega), off_nt_eq _ _ _ _ hB (by intro _; omega)]
      cases bad with
      | true => rw [if_neg (by simp), bind_some', if_pos rfl]
      | false =>
        have e3 : ((sizeN y : Int) + (y : Int)).toNat = sizeN y + y := by omega
        rw [if_pos ⟨rfl, rfl, by omega, by omega⟩, bind_some', e3, if_neg]
        · dsimp only
          rw [if_pos hc]
          have e4 : subl (B.take (sizeN y + y)) (sizeN y : Int) (((B.take (sizeN y + y)).length : Nat) : Int) = some ((B.drop (sizeN y)).take y) := by
            unfold subl
            rw [if_pos ⟨by omega, by rw [List.length_take]; omega, Int.le_refl _⟩, Int.toNat_natCast, Int.toNat_natCast, List.length_take, List.drop_take, List.take_take]
            congr 2; omega
          rw [e4]; rfl
        · intro h
          rw [List.take_eq_nil_iff] at h
          rcases h with h | h
          · omega
          · rw [h] at hs; simp at hs; omega
    · have hc' : ¬ ((((0 < (sizeN y : Int)) ∧ (0 ≤ m)) ∧ ((y : Int) ≤ ((max m 0).toNat : Int))) ∧ ((y : Int) ≤ ((B.length - sizeN y : Nat) : Int))) := by omega
      rw [if_pos hc', decide_eq_false hc']
      dsimp only
      rw [off_nt_eq _ _ _ _ hB (by simp), if_neg (by simp), bind_some', if_pos rfl]
      cases bad
      · simp only; rw [if_neg hc]
      · rfl
/-- The document's Reader, and the program's: they have the same left, and the same faults. -/
structure Rel (r : Rd) (m : Ref02Reader) : Prop where
  b : m.B = r.left
  bad : m.Bad = r.bad
  le : r.pl ≤ r.all.length
theorem left_mk (l : List UInt8) (p : Nat) (b : Bool) : (⟨l, p, b⟩ : Rd).left = l.drop p := rfl
theorem take_rel {r : Rd} {B : List UInt8} {bad : Bool} (h : Rel r ⟨B, bad⟩) (n : Int) : (bad = false ∧ 0 ≤ n ∧ n ≤ B.length ∧ r.take n = (B.take n.toNat, ⟨r.all, r.pl + n.toNat, false⟩) ∧ Rel ⟨r.all, r.pl + n.toNat, false⟩ ⟨B.drop n.toNat, false⟩) ∨ ((bad = true ∨ n < 0 ∨ (B.length : Int) < n) ∧ r.take n = ([], ⟨r.all, r.pl, true⟩) ∧ Rel ⟨r.all, r.pl, true⟩ ⟨B, true⟩) := by
  obtain ⟨h1, h2, h3⟩ := h
  simp only at h1 h2
  have hl : r.left.length = r.all.length - r.pl := by unfold Rd.left; rw [List.length_drop]
  cases bad with
  | true =>
    refine .inr ⟨.inl rfl, ?_, h1, rfl, h3⟩
    have := rd_take_bad (n := n) h2.symm
    rw [this]; cases r; simp at h2; subst h2; rfl
  | false =>
    by_cases hn : 0 ≤ n ∧ n ≤ B.length
    · obtain ⟨k, rfl⟩ := Int.eq_ofNat_of_zero_le hn.1
      refine .inl ⟨rfl, hn.1, hn.2, ?_, ?_, rfl, ?_⟩
      · rw [Int.toNat_natCast, h1]; exact rd_take_ok h2.symm h3 (by rw [← h1]; omega)
      · rw [left_mk, h1, Int.toNat_natCast]; unfold Rd.left; rw [List.drop_drop]
      · show r.pl + (k : Int).toNat ≤ r.all.length
        rw [h1, hl] at hn; omega
    · exact .inr ⟨.inr (by omega), rd_take_no h2.symm h3 (by rw [← h1]; omega), h1, rfl, h3⟩
theorem Rd.bad_eq {r : Rd} (h : r.bad = true) : r = ⟨r.all, r.pl, true⟩ := by cases r; simp at h; subst h; rfl
theorem read_rel {r : Rd} {B : List UInt8} {bad : Bool} (h : Rel r ⟨B, bad⟩) (x : Law02Item) (hm : x.Most < 9223372036854775808) (hB : B.length ≤ 1000000) :
    ∃ u t r' m', law02_read r x = some (u, t, r') ∧ law02_meant ⟨B, bad⟩ x = some (u, t, m') ∧ Rel r' m' ∧ r'.all = r.all ∧ m'.B.length ≤ B.length := by
  have hr := kd_range x
  unfold law02_read law02_meant
  rw [kind_eq, bind_some', bind_some']
  by_cases h0 : kd x = 0
  · rw [if_pos h0, if_pos h0]
    unfold code_Reader_U8
    have hw := wide_eq B bad 1 hB
    rw [show ((1 : Nat) : Int) = 1 from rfl] at hw
    rw [hw]
    rcases take_rel h 1 with ⟨e1, e2, e3, e4, e5⟩ | ⟨e1, e4, e5⟩
    · rw [e4, if_pos ⟨e1, by omega⟩]
      refine ⟨_, _, _, _, rfl, ?_, e5, rfl, by simp⟩
      have e6 : (1 : Int).toNat = 1 := rfl
      simp only [bind_some', e6]
      have e7 := valB_lt (B.take 1)
      have e8 : (B.take 1).length = 1 := by rw [List.length_take]; omega
      rw [e8] at e7
      congr 2
      rw [ofNat_eq_of _ (by omega)]
      congr 1
      exact (ofI8_nat (by omega) (by omega)).symm
    · rw [e4, if_neg (by intro hh; rcases e1 with e1 | e1 | e1; rw [hh.1] at e1; cases e1; omega; omega)]
      exact ⟨_, _, _, _, rfl, rfl, e5, rfl, Nat.le_refl _⟩
  rw [if_neg h0, if_neg h0]
  by_cases h1 : kd x = 1
  · rw [if_pos h1, if_pos h1]
    unfold code_Reader_U32
    have hw := wide_eq B bad 4 hB
    rw [show ((4 : Nat) : Int) = 4 from rfl] at hw
    rw [hw]
    rcases take_rel h 4 with ⟨e1, e2, e3, e4, e5⟩ | ⟨e1, e4, e5⟩
    · rw [e4, if_pos ⟨e1, by omega⟩]
      refine ⟨_, _, _, _, rfl, ?_, e5, rfl, by simp⟩
      have e6 : (4 : Int).toNat = 4 := rfl
      simp only [bind_some', e6]
      have e7 := valB_lt (B.take 4)
      have e8 : (B.take 4).length = 4 := by rw [List.length_take]; omega
      rw [e8] at e7
      congr 2
      rw [ofNat_eq_of _ (by omega)]
      congr 1
      exact (ofI32_nat (by omega) (by omega)).symm
    · rw [e4, if_neg (by intro hh; rcases e1 with e1 | e1 | e1; rw [hh.1] at e1; cases e1; omega; omega)]
      exact ⟨_, _, _, _, rfl, rfl, e5, rfl, Nat.le_refl _⟩
  rw [if_neg h1, if_neg h1]
  obtain ⟨hb1, hb2, hb3⟩ := h
  simp only at hb1 hb2
  by_cases h2 : kd x = 2
  · rw [if_pos h2, if_pos h2, ruint_eq _ _ hB]
    cases bad with
    | true =>
      have e := uint_bad hb2.symm
      unfold code_Reader_Uint
      rw [e, if_pos (by simp)]
      exact ⟨_, _, _, _, rfl, rfl, ⟨hb1, hb2, hb3⟩, rfl, Nat.le_refl _⟩
    | false =>
      have e := uint_eq hb2.symm hb3
      rw [uint_code r hb2.symm hb3, e, ← hb1]
      cases hd : dec B with
      | none => exact ⟨_, _, _, _, rfl, rfl, ⟨hb1, rfl, hb3⟩, rfl, Nat.le_refl _⟩
      | some y =>
        obtain ⟨hy, he, hs⟩ := dec_some hd
        refine ⟨_, _, _, _, rfl, rfl, ⟨?_, rfl, ?_⟩, rfl, by simp⟩
        · rw [left_mk]; simp only; rw [hb1]; unfold Rd.left; rw [List.drop_drop]
        · show r.pl + sizeN y ≤ r.all.length
          rw [hb1] at hs; unfold Rd.left at hs; rw [List.length_drop] at hs
          have := sizeN_le hy; omega
  rw [if_neg h2, if_neg h2]
  by_cases h3 : kd x = 3
  · rw [if_pos h3, if_pos h3, rtext_eq _ _ _ hB hm]
    unfold code_Reader_Text
    rw [if_pos hm]
    cases bad with
    | true =>
      rw [text_bad hb2.symm]
      exact ⟨_, _, _, _, rfl, rfl, ⟨hb1, hb2, hb3⟩, rfl, Nat.le_refl _⟩
    | false =>
      rw [text_eq hb2.symm hb3, ← hb1]
      cases hd : dec B with
      | none => exact ⟨_, _, _, _, rfl, rfl, ⟨hb1, rfl, hb3⟩, rfl, Nat.le_refl _⟩
      | some y =>
        simp only
        split
        · rename_i hc
          refine ⟨_, _, _, _, rfl, rfl, ⟨?_, rfl, ?_⟩, rfl, by simp⟩
          · rw [left_mk]; simp only; rw [hb1]; unfold Rd.left; rw [List.drop_drop, Nat.add_assoc]
          · show r.pl + sizeN y + y ≤ r.all.length
            have := hc.2.2
            rw [hb1] at this; unfold Rd.left at this; rw [List.length_drop] at this
            obtain ⟨hy, he, hs⟩ := dec_some hd
            have := sizeN_le hy
            omega
        · exact ⟨_, _, _, _, rfl, rfl, ⟨hb1, rfl, hb3⟩, rfl, Nat.le_refl _⟩
  rw [if_neg h3, if_neg h3]
  unfold code_Reader_Raw ref02_Reader_Raw
  rw [off_eq _ _ _ _ hB]
  rcases take_rel ⟨hb1, hb2, hb3⟩ x.Most with ⟨e1, e2, e3, e4, e5⟩ | ⟨e1, e4, e5⟩
  · rw [e4, if_pos ⟨e1, rfl, e2, e3⟩]
    exact ⟨_, _, _, _, rfl, rfl, e5, rfl, by simp⟩
  · rw [e4, if_neg (by intro hh; rcases e1 with e1 | e1 | e1; rw [hh.1] at e1; cases e1; omega; omega)]
    exact ⟨_, _, _, _, rfl, rfl, e5, rfl, Nat.le_refl _⟩
theorem reads_loop (a : List Law02Item) (b : List UInt8) (e : Int) (kj : Rd → List UInt8 → Bool → Option Bool) (hm : ∀ x ∈ a, x.Most < 9223372036854775808) (ha : a.length ≤ 2000) (hb : b.length ≤ 60000)
    (hk : ∀ r B bad, Rel r ⟨B, bad⟩ → r.all = b → kj r B bad = some true) : ∀ (d i j : Nat) (r : Rd) (B : List UInt8) (bad : Bool), i + d = a.length → d < j → Rel r ⟨B, bad⟩ → r.all = b →
    law02_CodeReads_l1 a b e kj j (i : Int) r B bad = some true := by
  intro d
  induction d with
  | zero =>
    intro i j r B bad hi hj hr hal
    obtain ⟨j, rfl⟩ : ∃ i, j = i + 1 := ⟨j - 1, by omega⟩
    rw [law02_CodeReads_l1, if_neg (by omega)]; exact hk r B bad hr hal
  | succ d ih =>
    intro i j r B bad hi hj hr hal
    obtain ⟨j, rfl⟩ : ∃ i, j = i + 1 := ⟨j - 1, by omega⟩
    have hlt : i < a.length := by omega
    rw [law02_CodeReads_l1, if_pos (by omega), jn_eq]
    have go : ∀ (r : Rd) (bad : Bool), Rel r ⟨B, bad⟩ → r.all = b → ((geti a (i : Int)).bind fun x16 => (law02_read r x16).bind fun x17 => (geti a (i : Int)).bind fun x18 => (law02_meant (⟨B, bad⟩ : Ref02Reader) x18).bind fun x19 => if (x17.1.toNat : Int) ≠ (x19.1.toNat : Int) then some false else if x17.2.1 ≠ x19.2.1 then some false else (code_Reader_At x17.2.2).bind fun x20 => if x20 ≠ i64 ((b.length : Int) - (x19.2.2.B.length : Int)) then some false else (code_Reader_Err x17.2.2).bind fun x21 => if (decide (x21 = 0) == x19.2.2.Bad) = true then some false else law02_CodeReads_l1 a b e kj j (i64 ((i : Int) + 1)) x17.2.2 x19.2.2.B x19.2.2.Bad) = some true := by
      intro r bad hr hal
      have hBl : B.length ≤ b.length := by
        have := hr.b
        simp only at this
        rw [this]; unfold Rd.left; rw [List.length_drop, hal]; omega
      obtain ⟨u, t, r', m', e1, e2, e3, e4, e5⟩ := read_rel hr a[i] (hm _ (List.getElem_mem hlt)) (by omega)
      obtain ⟨B', bad'⟩ := m'
      have hle := e3.le
      have hbl : B'.length = b.length - r'.pl := by
        have := e3.b
        simp only at this
        rw [this]; unfold Rd.left; rw [List.length_drop, e4, hal]
      rw [e4, hal] at hle
      unfold code_Reader_At code_Reader_Err
      rw [geti_nat, List.getElem?_eq_getElem hlt, bind_some', e1, bind_some', bind_some', e2, bind_some', if_neg (by simp), if_neg (by simp), bind_some', i64_eq (p := (b.length : Int) - _) (by dsimp only; omega) (by dsimp only; omega), if_neg (by dsimp only; omega), bind_some', i64_eq (by omega) (by omega)]
      have hbb : bad' = r'.bad := e3.bad
      simp only
      rw [if_neg (by rw [hbb]; cases r'.bad <;> simp)]
      exact ih (i + 1) j r' B' bad' (by omega) (by omega) e3 (e4.trans hal)
    by_cases he : (i : Int) = e
    · rw [if_pos he]
      unfold code_Reader_Fail
      rw [bind_some']
      exact go r.fail true ⟨hr.b, rfl, hr.le⟩ hal
    · rw [if_neg he]
      exact go r bad hr hal
theorem CodeReads_pure (b : List UInt8) (a : List Law02Item) (e : Int) (ha : ∀ x ∈ a, x.S.length ≤ 9223372036854775807) (hm : ∀ x ∈ a, x.Most < 9223372036854775808) (hl : a.length ≤ 9223372036854775807) : law02_CodeReads b a e = some true := by
  unfold law02_CodeReads
  rw [long_eq a ha hl, bind_some']
  unfold law02_awake
  by_cases h : 2000 < cost a ∨ 60000 < b.length
  · rw [if_pos (by simp; omega)]; rfl
  · rw [if_neg (by simp; omega)]
    obtain ⟨h1, h2⟩ := cost_small (a := a) (by omega)
    unfold code_NewReader
    rw [if_pos (by unfold BIG; omega), bind_some', jn_eq]
    refine reads_loop a b e _ hm h1 (by omega) ?_ a.length 0 FU ⟨b, 0, false⟩ b false (by omega) (ltFU (by omega)) ⟨rfl, rfl, Nat.zero_le _⟩ rfl
    intro r B bad hr hal
    have hB : B.length = b.length - r.pl := by
      have := hr.b
      simp only at this
      rw [this]; unfold Rd.left; rw [List.length_drop, hal]
    have hle := hr.le
    rw [hal] at hle
    have hbad : bad = r.bad := hr.bad
    unfold ref02_Reader_End code_Reader_End code_Reader_Err
    rw [off_eq _ _ _ _ (by omega)]
    subst hbad
    rw [hal]
    dsimp only
    by_cases hz : r.bad = false ∧ B.length = 0
    · have e1 : ¬ (r.pl < b.length ∨ r.bad = true) := by rw [hz.1]; simp; omega
      rw [if_pos ⟨hz.1, by rw [decide_eq_true]; omega, by omega, by omega⟩, bind_some', bind_some', bind_some', if_neg e1]
      rw [hz.1]
      have e2 : decide (r.pl < b.length) = false := decide_eq_false (by omega)
      simp [bind_some', e2]
    · have e1 : (r.pl < b.length ∨ r.bad = true) := by
        cases hb : r.bad
        · left; rw [hb] at hz; simp at hz
          have : B.length ≠ 0 := fun e => hz (List.eq_nil_of_length_eq_zero e)
          omega
        · right; rfl
      rw [if_neg (by intro hh; apply hz; refine ⟨hh.1, ?_⟩; have := hh.2.1; simp at this; rw [this]; rfl), bind_some', bind_some', bind_some', if_pos e1]
      have e2 : (decide (r.pl < b.length) || r.bad) = true := by rcases e1 with e | e <;> simp [e]
      simp [bind_some', e2]
end Go.Proofs
