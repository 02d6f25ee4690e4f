import Derived.Test.YtepifllifhikiaaDoorQ12F
set_option linter.unusedVariables false
set_option linter.unusedSimpArgs false
namespace Go.Proofs
open Go.Fw
/-! KeysNobody -/
theorem find_nilk (k : List UInt8) : slices_BinarySearchFunc_keys_entry_int_keys_entry_int_string_f45 [] k = some (0, false) := by
  have := find_eq (p := []) (n := k) List.Pairwise.nil (by simp)
  exact this
theorem placeN (k : List UInt8) : keys_Index_int_place_nil k = some (0, false) := by
  unfold keys_Index_int_place_nil keys_Index_int_rows_nil
  rw [Option.bind_some, find_nilk]; rfl
theorem scanN {XT : Type} (c : XT → (List UInt8 × Int) → Option (Bool × XT)) (x : XT) (a b : List UInt8) : keys_Index_int_Scan_1_b c x a b = some x := by
  obtain ⟨J, hJ⟩ := FU_ex 1 (by decide)
  unfold keys_Index_int_Scan_1_b
  have e1 : keys_Index_int_Len_nil = some 0 := rfl
  rw [placeN, Option.bind_some, e1, Option.bind_some, jn_eq', placeN, Option.bind_some]
  have e2 : keys_Index_int_rows_nil = some [] := rfl
  rw [e2]
  simp only [Option.bind_some]
  have e3 : subl ([] : Rowk) (min 0 0) 0 = some [] := rfl
  have e4 : (if b ≠ ([] : List UInt8) then (subl ([] : Rowk) (min 0 0) 0).bind (fun x7 => (slices_Clone_keys_entry_int_keys_entry_int x7).bind fun x8 => keys_Index_int_Scan_1_b_l1 x8 c FU 0 x) else (subl ([] : Rowk) (min 0 0) 0).bind (fun x7 => (slices_Clone_keys_entry_int_keys_entry_int x7).bind fun x8 => keys_Index_int_Scan_1_b_l1 x8 c FU 0 x)) = some x := by
    rw [e3, Option.bind_some, clone_eq [] (by simp), Option.bind_some, hJ, keys_Index_int_Scan_1_b_l1]
    simp
  by_cases h : b ≠ []
  · rw [if_pos h] at e4 ⊢; exact e4
  · rw [if_neg h] at e4 ⊢; exact e4
theorem mergeN {XT : Type} (c : XT → (List UInt8 × Int) → Option (Bool × XT)) (x : XT) : keys_Merge_int_1_b c x = some x := by
  obtain ⟨J, hJ⟩ := FU_ex 1 (by decide)
  unfold keys_Merge_int_1_b
  rw [jn_eq', init0, Option.bind_some, hJ, keys_Merge_int_1_b_l1]
  simp
theorem KeysNobody_pure (a : Law12Act) : law12_KeysNobody a = some true := by
  unfold law12_KeysNobody
  have r0 : Rise [] := List.Pairwise.nil
  have g0 : keys_Index_int_Get_nil a.Key = some (0, false) := by unfold keys_Index_int_Get_nil; rw [placeN]; rfl
  have f0 : keys_Index_int_First_nil a.Key = some ([], false) := by unfold keys_Index_int_First_nil; rw [placeN]; rfl
  have s0 : keys_Index_int_Set_nil a.Key a.V = some false := rfl
  have d0 : keys_Index_int_Delete_nil a.Key = some false := by unfold keys_Index_int_Delete_nil; rw [placeN]; rfl
  have l0 : keys_Index_int_Len_nil = some 0 := rfl
  have k0 : keys_Index_int_Keys_nil = some [] := by
    unfold keys_Index_int_Keys_nil
    simp only [keys_Index_int_Scan_nil, Option.bind_some]
    rw [scanN]; rfl
  have w0 : law12_row_c39q a.Key a.To (-1) = some [] := by
    unfold law12_row_c39q
    rw [scanN]; rfl
  have m0 : law12_row_c31q (-1) = some [] := by
    unfold law12_row_c31q
    rw [mergeN]; rfl
  have c0 : keys_Index_int_Copy_nil = some none := rfl
  have q0 : keys_Merge_int_q = some () := rfl
  have sc : keys_Index_int_Scan_nil a.Key a.To = some (a.Key, a.To) := rfl
  have e1 : wi [] a.Key a.V = [⟨a.Key, a.V⟩] := rfl
  have hw := wi_rise (p := []) (n := a.Key) (b := a.V) r0
  have hg := get_eq (p := wi [] a.Key a.V) (n := a.Key) hw (by simp [e1])
  have hd := del_eq (p := wi [] a.Key a.V) (n := a.Key) hw (by simp [e1])
  rw [lk_wi, if_pos rfl, e1] at hg hd
  simp only [g0, f0, s0, d0, l0, k0, w0, m0, c0, q0, sc, len_eq, set_eq r0 (show ([] : Rowk).length ≤ 100000 by simp), e1, hg, hd, Option.bind_some, oc, awake_true]
  simp [lk_nil, len_eq, hg, hd, awake_true]
/-! KeysNumbers -/
/-- So many digits of a number. -/
def Dg : Nat → Nat → List UInt8
  | 0, _ => []
  | k + 1, u => Dg k (u / 10) ++ [UInt8.ofNat (48 + u % 10)]
theorem Dg_len : ∀ k u, (Dg k u).length = k
  | 0, _ => rfl
  | k + 1, u => by rw [Dg, List.length_append, Dg_len k]; rfl
theorem repeatL_snoc (c : Nat) : Lib.repeatL [48] (c + 1) = Lib.repeatL [48] c ++ [(48 : UInt8)] := by
  induction c with
  | zero => rfl
  | succ c ih =>
    have e : [48] ++ Lib.repeatL [48] c = Lib.repeatL [48] c ++ [48] := ih
    rw [Lib.repeatL, ih, ← List.append_assoc, e]
theorem Dg_small : ∀ (k u : Nat), u < 10 → Dg (k + 1) u = Lib.repeatL [48] k ++ [UInt8.ofNat (48 + u)]
  | 0, u, h => by rw [Dg, Nat.mod_eq_of_lt h]; rfl
  | k + 1, u, h => by
    rw [Dg, Nat.div_eq_of_lt h, Dg_small k 0 (by decide), Nat.mod_eq_of_lt h, repeatL_snoc]
    rfl
theorem dec_fill : ∀ (k f u : Nat), u < 10 ^ k → k ≤ f → 0 < k → ∃ L, (decF f u).length = L ∧ L ≤ k ∧ Lib.repeatL [48] (k - L) ++ decF f u = Dg k u
  | 0, f, u, h, _, h0 => absurd h0 (by omega)
  | k + 1, 0, u, h, h1, h0 => absurd h1 (by omega)
  | k + 1, f + 1, u, h, h1, h0 => by
    rw [decF]
    by_cases c : u < 10
    · rw [if_pos c]
      refine ⟨1, rfl, by omega, ?_⟩
      rw [Dg_small k u c]; rfl
    · rw [if_neg c]
      have hk : 0 < k := by
        rcases Nat.eq_zero_or_pos k with rfl | h2
        · simp at h; omega
        · exact h2
      obtain ⟨L, h2, h3, h4⟩ := dec_fill k f (u / 10) (by rw [Nat.pow_succ] at h; omega) (by omega) hk
      refine ⟨L + 1, by rw [List.length_append, h2]; rfl, by omega, ?_⟩
      rw [Dg, ← h4, show k + 1 - (L + 1) = k - L by omega, List.append_assoc]
theorem clamp (a : Int) : ∃ u : Nat, min (max a 0) 9999999999 = (u : Int) ∧ u < 10 ^ 10 := ⟨(min (max a 0) 9999999999).toNat, by omega, by omega⟩
theorem number_eq {a : Int} {u : Nat} (h : min (max a 0) 9999999999 = (u : Int)) (hu : u < 10 ^ 10) : keys_Number a = some (Dg 10 u) := by
  unfold keys_Number
  rw [h]
  have e : itoaF (u : Int) = decF 30 u := by unfold itoaF; rw [if_neg (by omega), Int.toNat_natCast]
  obtain ⟨L, h1, h2, h3⟩ := dec_fill 10 30 u hu (by decide) (by decide)
  rw [e, h1, i64_id (by omega) (by omega), if_pos ⟨by omega, by omega⟩, if_pos ⟨by omega, by omega, by decide⟩]
  rw [show (10 - (L : Int)).toNat = 10 - L by omega, app_ok, Option.bind_some, h3]
  · have := congrArg List.length h3
    rw [List.length_append, Dg_len] at this; omega
  · decide
theorem rnum_run (kj : List UInt8 → Option (List UInt8)) : ∀ (n J : Nat) (u : Nat) (A : List UInt8), A.length = 10 → n ≤ 10 → n < J → u < 10000000000 → ref12_Number_l1 kj J (u : Int) ((n : Int) - 1) A = kj (Dg n u ++ A.drop n)
  | n, 0, u, A, h1, h2, h3, h4 => by omega
  | 0, J + 1, u, A, h1, h2, h3, h4 => by
    rw [ref12_Number_l1, if_neg (by omega)]; rfl
  | n + 1, J + 1, u, A, h1, h2, h3, h4 => by
    have hn : n < A.length := by omega
    rw [ref12_Number_l1, if_pos (by omega), show ((n + 1 : Nat) : Int) - 1 = (n : Int) by omega, geti_nat, List.getElem?_eq_getElem hn, Option.bind_some]
    have e1 : i64 ((u : Int).tdiv 10) = ((u / 10 : Nat) : Int) := by
      rw [Int.tdiv_eq_ediv_of_nonneg (by omega), i64_id (by omega) (by omega)]; omega
    have e2 : ofI8 (i64 (48 + ((u : Int).tmod 10))) = UInt8.ofNat (48 + u % 10) := by
      rw [Int.tmod_eq_emod_of_nonneg (by omega), i64_id (by omega) (by omega)]
      unfold ofI8
      congr 1
      omega
    rw [e1, e2, i64_id (by omega) (by omega), rnum_run kj n J (u / 10) _ (by simpa using h1) (by omega) (by omega) (by omega), Int.toNat_natCast, Dg]
    congr 1
    rw [List.drop_eq_getElem_cons (by simpa using hn), List.append_assoc]
    congr 1
    rw [List.getElem_set_self, List.drop_set_of_lt (by omega)]
    rfl
theorem rnumber_eq {a : Int} {u : Nat} (h : min (max a 0) 9999999999 = (u : Int)) (hu : u < 10 ^ 10) : ref12_Number a = some (Dg 10 u) := by
  unfold ref12_Number
  have hFU := FU_big
  have hr := rnum_run (fun (x6 : List UInt8) => some x6) 10 FU u (List.replicate 10 0) (by simp) (Nat.le_refl _) (by omega) (by omega)
  rw [List.drop_eq_nil_of_le (by simp), List.append_nil] at hr
  simp only [jn_eq']
  have e9 : ((10 : Nat) : Int) - 1 = 9 := by decide
  rw [e9] at hr
  by_cases h1 : a < 0
  · rw [if_pos h1, if_neg (by decide)]
    have : u = 0 := by omega
    subst this
    exact hr
  · rw [if_neg h1]
    by_cases h2 : 9999999999 < a
    · rw [if_pos h2]
      have : u = 9999999999 := by omega
      subst this
      exact hr
    · rw [if_neg h2]
      have : a = (u : Int) := by omega
      rw [this]
      exact hr
theorem nlt_snoc : ∀ (A B : List UInt8) (x y : UInt8), A.length = B.length → (nlt (A ++ [x]) (B ++ [y]) ↔ nlt A B ∨ (A = B ∧ x < y))
  | [], [], x, y, _ => by
    rw [List.nil_append, List.nil_append, nlt_cons]
    constructor
    · rintro (h | ⟨_, h⟩)
      · exact .inr ⟨rfl, h⟩
      · exact absurd h (nlt_irrefl _)
    · rintro (h | ⟨_, h⟩)
      · exact absurd h (nlt_irrefl _)
      · exact .inl h
  | a :: A, b :: B, x, y, hl => by
    rw [List.cons_append, List.cons_append, nlt_cons, nlt_cons, nlt_snoc A B x y (by simpa using hl)]
    constructor
    · rintro (h1 | ⟨h1, h2 | ⟨h2, h3⟩⟩)
      · exact .inl (.inl h1)
      · exact .inl (.inr ⟨h1, h2⟩)
      · exact .inr ⟨by rw [h1, h2], h3⟩
    · rintro ((h1 | ⟨h1, h2⟩) | ⟨h1, h2⟩)
      · exact .inl h1
      · exact .inr ⟨h1, .inl h2⟩
      · injection h1 with h3 h4
        exact .inr ⟨h3, .inr ⟨h4, h2⟩⟩
  | [], _ :: _, _, _, h => by simp at h
  | _ :: _, [], _, _, h => by simp at h
theorem Dg_lt : ∀ (k u v : Nat), u < 10 ^ k → v < 10 ^ k → (nlt (Dg k u) (Dg k v) ↔ u < v)
  | 0, u, v, h1, h2 => by
    simp at h1 h2
    subst h1; subst h2
    simp [Dg, nlt_irrefl]
  | k + 1, u, v, h1, h2 => by
    have a1 : u / 10 < 10 ^ k := by rw [Nat.pow_succ] at h1; omega
    have a2 : v / 10 < 10 ^ k := by rw [Nat.pow_succ] at h2; omega
    have ih := Dg_lt k (u / 10) (v / 10) a1 a2
    have ih2 := Dg_lt k (v / 10) (u / 10) a2 a1
    rw [Dg, Dg, nlt_snoc _ _ _ _ (by rw [Dg_len, Dg_len]), ih]
    have hlt : (UInt8.ofNat (48 + u % 10) < UInt8.ofNat (48 + v % 10)) ↔ u % 10 < v % 10 := by
      rw [UInt8.lt_iff_toNat_lt, UInt8.toNat_ofNat', UInt8.toNat_ofNat']
      have m1 : (48 + u % 10) % 2 ^ 8 = 48 + u % 10 := Nat.mod_eq_of_lt (by omega)
      have m2 : (48 + v % 10) % 2 ^ 8 = 48 + v % 10 := Nat.mod_eq_of_lt (by omega)
      rw [m1, m2]
      omega
    rw [hlt]
    constructor
    · rintro (h | ⟨h, h3⟩)
      · omega
      · have : ¬ u / 10 < v / 10 := fun h4 => by rw [h] at ih; exact nlt_irrefl _ (ih.2 h4)
        have : ¬ v / 10 < u / 10 := fun h4 => by rw [h] at ih2; exact nlt_irrefl _ (ih2.2 h4)
        omega
    · intro h
      by_cases c : u / 10 < v / 10
      · exact .inl c
      · have e : u / 10 = v / 10 := by omega
        exact .inr ⟨by rw [e], by omega⟩
theorem KeysNumbers_pure (a b : Int) : law12_KeysNumbers a b = some true := by
  unfold law12_KeysNumbers
  obtain ⟨u, h1, h2⟩ := clamp a
  obtain ⟨v, h3, h4⟩ := clamp b
  rw [number_eq h1 h2, rnumber_eq h1 h2, number_eq h3 h4, rnumber_eq h3 h4, h1, h3, awake_true]
  have e : decide (nlt (Dg 10 u) (Dg 10 v)) = decide ((u : Int) < (v : Int)) := decide_eq_decide.2 ((Dg_lt 10 u v h2 h4).trans (by omega))
  have e2 : (decide (nlt (Dg 10 u) (Dg 10 v)) == decide ((u : Int) < (v : Int))) = true := by rw [e]; simp
  simp only [Option.bind_some, less_nlt, e2, ne_eq, not_true_eq_false, decide_false, Bool.false_eq_true, if_false, if_true]
end Go.Proofs
