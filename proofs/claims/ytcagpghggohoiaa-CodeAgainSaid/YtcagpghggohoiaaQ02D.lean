import Derived.Test.YtcagpghggohoiaaQ02C
set_option linter.unusedSimpArgs false
set_option linter.unusedVariables false
namespace Go.Proofs
open Go.Fw
/-! what is written -/
theorem bump_loop (kj : List UInt8 → Option Bool) : ∀ (d : Nat) (i j : Nat) (l : List UInt8), i + d = l.length → l.length ≤ 9223372036854775807 → d < j → ∃ l', law02_CodeWrites_l2 kj j (i : Int) l = kj l' := by
  intro d
  induction d with
  | zero =>
    intro i j l hi hl hj
    obtain ⟨j, rfl⟩ : ∃ i, j = i + 1 := ⟨j - 1, by omega⟩
    exact ⟨l, by rw [law02_CodeWrites_l2, if_neg (by omega)]⟩
  | succ d ih =>
    intro i j l hi hl hj
    obtain ⟨j, rfl⟩ : ∃ i, j = i + 1 := ⟨j - 1, by omega⟩
    rw [law02_CodeWrites_l2, if_pos (by omega), geti_nat, List.getElem?_eq_getElem (by omega), bind_some', bind_some', i64_eq (by omega) (by omega)]
    exact ih (i + 1) j _ (by rw [List.length_set]; omega) (by rw [List.length_set]; omega) (by omega)
theorem rest_loop (a : List Law02Item) (kj : List UInt8 → Int → List UInt8 → Option Bool) (hs : ∀ x ∈ a, x.S.length ≤ 32000) (h4 : 4 ≤ a.length) (ha : a.length ≤ 2000) : ∀ (d i j : Nat) (w : List UInt8), i + d + 3 = a.length → w.length + d * 32009 ≤ 140737488355328 → d < j →
    ∃ w', w'.length ≤ w.length + d * 32009 ∧ law02_CodeWrites_l3 a kj j w (i : Int) w = kj w' (i64 ((a.length : Int) - 4)) w' := by
  intro d
  induction d with
  | zero =>
    intro i j w hi hw hj
    obtain ⟨j, rfl⟩ : ∃ i, j = i + 1 := ⟨j - 1, by omega⟩
    refine ⟨w, by omega, ?_⟩
    rw [law02_CodeWrites_l3, if_neg (by rw [i64_eq (by omega) (by omega)]; omega)]
  | succ d ih =>
    intro i j w hi hw hj
    obtain ⟨j, rfl⟩ : ∃ i, j = i + 1 := ⟨j - 1, by omega⟩
    have hi' : i < a.length := by omega
    have hx := hs a[i] (List.getElem_mem hi')
    have hel := enc1_len a[i] (by omega)
    have hd : (d + 1) * 32009 = d * 32009 + 32009 := by omega
    obtain ⟨w', h1, h2⟩ := ih (i + 1) j (w ++ enc1 a[i]) (by omega) (by rw [List.length_append]; omega) (by omega)
    refine ⟨w', by rw [List.length_append] at h1; omega, ?_⟩
    rw [law02_CodeWrites_l3, if_pos (by rw [i64_eq (by omega) (by omega)]; omega), geti_nat, List.getElem?_eq_getElem hi', bind_some', write_eq _ _ (by omega), bind_some', bind_some', bytes_eq _ (by omega), bind_some']
    unfold app
    rw [if_pos (by omega), bind_some', i64_eq (p := (i : Int) + 1) (by omega) (by omega)]
    exact h2
theorem writes_loop (a : List Law02Item) (kj : List UInt8 → List UInt8 → Option Bool) (hs : ∀ x ∈ a, x.S.length ≤ 32000) (ha : a.length ≤ 2000) (hk : ∀ w, w.length ≤ 140737488355328 → kj w w = some true) : ∀ (d i j : Nat) (w : List UInt8), i + d = a.length → w.length + d * 64050009 ≤ 140737488355328 → d < j →
    law02_CodeWrites_l1 a kj j w (i : Int) w = some true := by
  intro d
  induction d using Nat.strongRecOn with
  | _ d ih =>
    intro i j w hi hw hj
    obtain ⟨j, rfl⟩ : ∃ i, j = i + 1 := ⟨j - 1, by omega⟩
    rw [law02_CodeWrites_l1, jn_eq]
    by_cases hlt : i < a.length
    · have hx := hs a[i] (List.getElem_mem hlt)
      have hel := enc1_len a[i] (by omega)
      rw [if_pos (by omega), jn_eq, geti_nat, List.getElem?_eq_getElem hlt, bind_some', write_eq _ _ (by omega), bind_some', bind_some', write_nil_eq, bind_some', bind_some', bytes_eq _ (by omega), bind_some']
      unfold app code_Writer_Bytes code_Writer_Bytes_nil code_Size
      rw [if_pos (by omega), bind_some', if_pos (by rw [List.length_append]; omega), bind_some', if_neg (by simp), bind_some', if_neg (by simp), bind_some', bind_some', bind_some', short_eq, bind_some', if_neg (by rw [encN_len]; simp), jn_eq]
      obtain ⟨l', hl'⟩ := bump_loop (fun x29 => if (40 < (i : Int)) ∧ ((i : Int) < i64 ((a.length : Int) - 3)) then law02_CodeWrites_l3 a (fun x12 x13 x14 => law02_CodeWrites_l1 a kj j x12 (i64 (x13 + 1)) x14) FU (w ++ enc1 a[i]) 42 (w ++ enc1 a[i]) else law02_CodeWrites_l1 a kj j (w ++ enc1 a[i]) (i64 ((i : Int) + 1)) (w ++ enc1 a[i])) (w ++ enc1 a[i]).length 0 FU (w ++ enc1 a[i]) (by omega) (by rw [List.length_append]; omega) (ltFU (by rw [List.length_append]; omega))
      refine hl'.trans ?_
      rw [i64_eq (p := (a.length : Int) - 3) (by omega) (by omega)]
      by_cases hc : (40 < (i : Int)) ∧ ((i : Int) < (a.length : Int) - 3)
      · rw [if_pos hc]
        obtain ⟨w', h1, h2⟩ := rest_loop a (fun x12 x13 x14 => law02_CodeWrites_l1 a kj j x12 (i64 (x13 + 1)) x14) hs (by omega) ha (a.length - 45) 42 FU (w ++ enc1 a[i]) (by omega) (by rw [List.length_append]; omega) (ltFU (by omega))
        refine h2.trans ?_
        rw [i64_eq (p := (a.length : Int) - 4) (by omega) (by omega), i64_eq (by omega) (by omega)]
        have e : (a.length : Int) - 4 + 1 = ((a.length - 3 : Nat) : Int) := by omega
        rw [e]
        rw [List.length_append] at h1
        exact ih 3 (by omega) (a.length - 3) j w' (by omega) (by omega) (by omega)
      · rw [if_neg hc, i64_eq (by omega) (by omega)]
        exact ih (d - 1) (by omega) (i + 1) j _ (by omega) (by rw [List.length_append]; omega) (by omega)
    · rw [if_neg (by omega)]
      exact hk w (by omega)
theorem cost_small {a : List Law02Item} (h : ¬ 2000 < cost a) : a.length ≤ 2000 ∧ ∀ x ∈ a, x.S.length ≤ 32000 :=
  ⟨by have := cost_len a; omega, fun x hx => by have := cost_mem hx; omega⟩
theorem CodeWrites_pure (a : List Law02Item) (ha : ∀ x ∈ a, x.S.length ≤ 9223372036854775807) (hl : a.length ≤ 9223372036854775807) : law02_CodeWrites a = some true := by
  unfold law02_CodeWrites
  rw [long_eq a ha hl, bind_some']
  unfold law02_awake
  by_cases h : 2000 < cost a
  · rw [if_pos (by simpa using h)]; rfl
  · rw [if_neg (by simpa using h)]
    obtain ⟨h1, h2⟩ := cost_small h
    unfold code_NewWriter
    rw [bind_some', jn_eq]
    exact writes_loop a _ h2 h1 (fun w hw => by
      unfold code_Writer_Bytes
      rw [if_pos (by omega), bind_some', if_pos rfl]; rfl) a.length 0 FU [] (by omega) (by simp; omega) (ltFU (by omega))

/-! nobody's Reader -/
theorem read_nil_eq (x : Law02Item) : law02_read_nil x = some (0, []) := by
  have h0 : ofI64 ((valB [] : Nat) : Int) = 0 := rfl
  have h1 : (ofI8 (((0 : UInt64).toNat : Nat) : Int)) = 0 := rfl
  have h2 : (ofI64 (((0 : UInt8).toNat : Nat) : Int)) = 0 := rfl
  have h3 : (ofI32 (((0 : UInt64).toNat : Nat) : Int)) = 0 := rfl
  have h4 : (ofI64 (((0 : UInt32).toNat : Nat) : Int)) = 0 := rfl
  have t : ∀ n, code_Reader_take_nil n = some [] := fun n => rfl
  have n0 : code_number [] = some 0 := by unfold code_number; rw [if_pos (by simp), h0]
  unfold law02_read_nil code_Reader_U8_nil code_Reader_U32_nil code_Reader_Raw_nil code_Reader_Uint_nil code_Reader_Text_nil
  rw [kind_eq, bind_some', t, t, t]
  simp only [bind_some', n0, h1, h2, h3, h4]
  split
  · rfl
  · split
    · rfl
    · split
      · rfl
      · split <;> rfl
theorem read_end (x : Law02Item) (hm : x.Most < 9223372036854775808) (bad : Bool) : ∃ bad', law02_read ⟨[], 0, bad⟩ x = some (0, [], ⟨[], 0, bad'⟩) := by
  have h1 : (ofI8 ((valB [] : Nat) : Int)) = 0 := rfl
  have h2 : (ofI64 (((0 : UInt8).toNat : Nat) : Int)) = 0 := rfl
  have h3 : (ofI32 ((valB [] : Nat) : Int)) = 0 := rfl
  have h4 : (ofI64 (((0 : UInt32).toNat : Nat) : Int)) = 0 := rfl
  have ht : ∀ n : Int, ∃ b, (⟨[], 0, bad⟩ : Rd).take n = ([], ⟨[], 0, b⟩) := by
    intro n
    cases bad with
    | true => exact ⟨true, rd_take_bad rfl⟩
    | false =>
      by_cases hn : n = 0
      · subst hn; exact ⟨false, rfl⟩
      · refine ⟨true, rd_take_no rfl (Nat.zero_le _) ?_⟩
        have : (⟨[], 0, false⟩ : Rd).left = [] := rfl
        rw [this]; simp; omega
  have hu : (⟨[], 0, bad⟩ : Rd).uint = (0, ⟨[], 0, true⟩) := by
    cases bad with
    | true => exact uint_bad rfl
    | false => exact uint_eq (r := ⟨[], 0, false⟩) rfl (Nat.zero_le _)
  have htx : (⟨[], 0, bad⟩ : Rd).text x.Most = ([], ⟨[], 0, true⟩) := by
    cases bad with
    | true => exact text_bad rfl
    | false => exact text_eq (r := ⟨[], 0, false⟩) rfl (Nat.zero_le _)
  have hU : code_Reader_Uint ⟨[], 0, bad⟩ = some (0, ⟨[], 0, true⟩) := by unfold code_Reader_Uint; rw [hu]; rfl
  have hT : code_Reader_Text ⟨[], 0, bad⟩ x.Most = some ([], ⟨[], 0, true⟩) := by unfold code_Reader_Text; rw [if_pos hm, htx]
  unfold law02_read code_Reader_U8 code_Reader_U32 code_Reader_Raw
  rw [kind_eq, bind_some', hU, hT]
  obtain ⟨b1, e1⟩ := ht 1
  obtain ⟨b4, e4⟩ := ht 4
  obtain ⟨bm, em⟩ := ht x.Most
  rw [e1, e4, em]
  simp only [bind_some', h1, h2, h3, h4]
  split
  · exact ⟨_, rfl⟩
  · split
    · exact ⟨_, rfl⟩
    · split
      · exact ⟨_, rfl⟩
      · split <;> exact ⟨_, rfl⟩
theorem nobody_loop (a : List Law02Item) (kj : Rd → Option Bool) (hm : ∀ x ∈ a, x.Most < 9223372036854775808) (ha : a.length ≤ 2000) (hk : ∀ b, kj ⟨[], 0, b⟩ = some true) : ∀ (d i j : Nat) (b : Bool), i + d = a.length → d < j → law02_CodeNobody_l1 a kj j (i : Int) ⟨[], 0, b⟩ = some true := by
  intro d
  induction d with
  | zero =>
    intro i j b hi hj
    obtain ⟨j, rfl⟩ : ∃ i, j = i + 1 := ⟨j - 1, by omega⟩
    rw [law02_CodeNobody_l1, if_neg (by omega)]; exact hk b
  | succ d ih =>
    intro i j b hi hj
    obtain ⟨j, rfl⟩ : ∃ i, j = i + 1 := ⟨j - 1, by omega⟩
    have hlt : i < a.length := by omega
    obtain ⟨b', hr⟩ := read_end a[i] (hm _ (List.getElem_mem hlt)) b
    rw [law02_CodeNobody_l1, if_pos (by omega), geti_nat, List.getElem?_eq_getElem hlt, bind_some', read_nil_eq, bind_some', bind_some', hr, bind_some']
    unfold code_Reader_At_nil code_Reader_Err_nil code_Reader_End_nil code_Reader_Err_nil code_Reader_At
    have e0 : (((0 : UInt64).toNat : Nat) : Int) = 0 := rfl
    simp only [bind_some', e0]
    rw [i64_eq (by omega) (by omega)]
    have := ih (i + 1) j b' (by omega) (by omega)
    simpa using this
theorem CodeNobody_pure (a : List Law02Item) (ha : ∀ x ∈ a, x.S.length ≤ 9223372036854775807) (hm : ∀ x ∈ a, x.Most < 9223372036854775808) (hl : a.length ≤ 9223372036854775807) : law02_CodeNobody a = some true := by
  unfold law02_CodeNobody
  rw [long_eq a ha hl, bind_some']
  unfold law02_awake code_Reader_Fail_nil code_Reader_End code_Reader_At
  by_cases h : 2000 < cost a
  · rw [if_pos (by simpa using h)]; rfl
  · rw [if_neg (by simpa using h)]
    obtain ⟨h1, h2⟩ := cost_small h
    simp only [bind_some', jn_eq]
    have := nobody_loop a (fun _ => some true) hm h1 (fun _ => rfl) a.length 0 FU false (by omega) (ltFU (by omega))
    simpa using this
end Go.Proofs
