import Derived.Test.YtcagpghggohoiaaP02
set_option linter.unusedSimpArgs false
set_option linter.unusedVariables false
namespace Go.Proofs
open Go.Fw

/-! numbers as bytes, and back -/
/-- The number at the front of bytes. -/
def dec : List UInt8 → Option Nat
  | [] => none
  | c :: t => if c.toNat ≤ 247 then some c.toNat else if c.toNat - 247 ≤ t.length ∧ 247 < valB (t.take (c.toNat - 247)) ∧ blen (valB (t.take (c.toNat - 247))) = c.toNat - 247 then some (valB (t.take (c.toNat - 247))) else none
theorem dec_enc (y : Nat) (h : y < 18446744073709551616) (rest : List UInt8) : dec (encN y ++ rest) = some y := by
  unfold encN
  have hb := blen_le8 h
  split
  · rename_i hy
    have e : (UInt8.ofNat y).toNat = y := by rw [UInt8.toNat_ofNat']; omega
    simp only [List.cons_append, List.nil_append, dec]
    rw [e, if_pos hy]
  · rename_i hy
    have e : (UInt8.ofNat (247 + blen y)).toNat = 247 + blen y := by rw [UInt8.toNat_ofNat']; omega
    have hp := blen_pos1 (x := y) (by omega)
    have e2 : (be (blen y) y ++ rest).take (blen y) = be (blen y) y := by rw [List.take_append_of_le_length (by rw [be_len]; exact Nat.le_refl _), List.take_of_length_le (by rw [be_len]; exact Nat.le_refl _)]
    have e3 : valB (be (blen y) y) = y := by rw [valB_be, Nat.mod_eq_of_lt (blen_lt y)]
    simp only [List.cons_append, dec]
    rw [e, if_neg (by omega), Nat.add_sub_cancel_left, e2, e3, if_pos ⟨by rw [List.length_append, be_len]; omega, by omega, rfl⟩]
set_option maxRecDepth 100000 in
theorem dec_some {B : List UInt8} {y : Nat} (h : dec B = some y) : y < 18446744073709551616 ∧ B = encN y ++ B.drop (sizeN y) ∧ sizeN y ≤ B.length := by
  cases B with
  | nil => cases h
  | cons c t =>
    have hc := c.toNat_lt
    simp only [dec] at h
    split at h
    · rename_i h1
      obtain rfl := Option.some.inj h
      have e : encN c.toNat = [c] := by unfold encN; rw [if_pos h1, UInt8.ofNat_toNat]
      have e2 : sizeN c.toNat = 1 := by unfold sizeN; rw [if_pos h1]
      exact ⟨by omega, by rw [e, e2]; rfl, by rw [e2]; simp⟩
    · rename_i h1
      split at h
      · rename_i h2
        obtain ⟨h3, h4, h5⟩ := h2
        have h6 := Option.some.inj h
        have hl : (t.take (c.toNat - 247)).length = c.toNat - 247 := by rw [List.length_take]; omega
        have hlt := valB_lt (t.take (c.toNat - 247))
        rw [hl] at hlt
        have h8 := Nat.pow_le_pow_right (show 0 < 256 by omega) (show c.toNat - 247 ≤ 8 by omega)
        rw [h6] at h4 h5 hlt
        have e2 : sizeN y = c.toNat - 246 := by unfold sizeN; rw [if_neg (by omega), h5]; omega
        have e : encN y = c :: t.take (c.toNat - 247) := by
          unfold encN
          rw [if_neg (by omega), h5]
          have e4 : be (c.toNat - 247) y = t.take (c.toNat - 247) := by
            have := be_valB (t.take (c.toNat - 247))
            rw [hl, h6] at this
            exact this
          rw [e4, show 247 + (c.toNat - 247) = c.toNat by omega, UInt8.ofNat_toNat]
        have e8 : (256:Nat) ^ 8 = 18446744073709551616 := by simp
        refine ⟨Nat.lt_of_lt_of_le hlt (e8 ▸ h8), ?_, by rw [e2, List.length_cons]; omega⟩
        rw [e, e2, show c.toNat - 246 = (c.toNat - 247) + 1 by omega, List.drop_succ_cons, List.cons_append, List.take_append_drop]
      · cases h

/-- What is left to read. -/
def Rd.left (r : Rd) : List UInt8 := r.all.drop r.pl
theorem rd_take_ok {r : Rd} {n : Nat} (hb : r.bad = false) (hl : r.pl ≤ r.all.length) (h : n ≤ r.left.length) : r.take n = (r.left.take n, ⟨r.all, r.pl + n, false⟩) := by
  unfold Rd.take
  rw [hb]
  unfold Rd.left at h ⊢
  rw [List.length_drop] at h
  rw [if_neg (by decide), if_pos ⟨by omega, by omega⟩]
  simp
theorem rd_take_no {r : Rd} {n : Int} (hb : r.bad = false) (hl : r.pl ≤ r.all.length) (h : n < 0 ∨ (r.left.length : Int) < n) : r.take n = ([], ⟨r.all, r.pl, true⟩) := by
  unfold Rd.take
  rw [hb]
  unfold Rd.left at h
  rw [List.length_drop] at h
  rw [if_neg (by decide), if_neg (by omega)]
  rfl
theorem rd_take_bad {r : Rd} {n : Int} (hb : r.bad = true) : r.take n = ([], r) := by unfold Rd.take; rw [if_pos hb]
theorem uint_bad {r : Rd} (hb : r.bad = true) : r.uint = (0, r) := by unfold Rd.uint Rd.whole; rw [if_pos hb]
theorem text_bad {r : Rd} {m : Int} (hb : r.bad = true) : r.text m = ([], r) := by unfold Rd.text Rd.whole; rw [if_pos hb]
theorem sizeN_one {v n : Nat} (hn : 0 < n) : (sizeN v = n + 1) ↔ (247 < v ∧ blen v = n) := by
  unfold sizeN
  split <;> constructor
  · intro h; omega
  · intro h; omega
  · intro h; omega
  · intro h; omega
set_option maxRecDepth 100000 in
theorem uint_eq {r : Rd} (hb : r.bad = false) (hl : r.pl ≤ r.all.length) : r.uint = match dec r.left with
    | some y => (y, ⟨r.all, r.pl + sizeN y, false⟩)
    | none => (0, ⟨r.all, r.pl, true⟩) := by
  have hw : r.uint = if r.uint1.2.bad = true then (0, { r.uint1.2 with pl := r.pl }) else r.uint1 := by
    unfold Rd.uint Rd.whole
    rw [hb, if_neg (by decide)]
  cases hB : r.left with
  | nil =>
    have h1 : r.take 1 = ([], ⟨r.all, r.pl, true⟩) := rd_take_no hb hl (by rw [hB]; right; simp)
    have h2 : r.uint1 = (0, ⟨r.all, r.pl, true⟩) := by
      unfold Rd.uint1
      rw [h1]; rfl
    rw [hw, h2]; rfl
  | cons c t =>
    have hc := c.toNat_lt
    have h1 : r.take 1 = ([c], ⟨r.all, r.pl + 1, false⟩) := by
      have := rd_take_ok (n := 1) hb hl (by rw [hB]; simp)
      rw [hB] at this
      simpa using this
    have hleft : (⟨r.all, r.pl + 1, false⟩ : Rd).left = t := by
      unfold Rd.left at hB ⊢
      show r.all.drop (r.pl + 1) = t
      rw [← List.drop_drop, hB]; rfl
    have hlt : r.pl + 1 ≤ r.all.length := by
      have := congrArg List.length hB
      unfold Rd.left at this
      rw [List.length_drop, List.length_cons] at this
      omega
    by_cases hs : c.toNat ≤ 247
    · have h2 : r.uint1 = (c.toNat, ⟨r.all, r.pl + 1, false⟩) := by
        unfold Rd.uint1
        rw [h1]; simp only [valB_one]; rw [if_pos hs]
      have e2 : sizeN c.toNat = 1 := by unfold sizeN; rw [if_pos hs]
      simp only [dec]; rw [if_pos hs, hw, h2]; simp [e2]
    · have h2 : r.uint1 = if sizeN (valB ((⟨r.all, r.pl + 1, false⟩ : Rd).take ((c.toNat : Int) - 247)).1) = c.toNat - 247 + 1 then (valB ((⟨r.all, r.pl + 1, false⟩ : Rd).take ((c.toNat : Int) - 247)).1, ((⟨r.all, r.pl + 1, false⟩ : Rd).take ((c.toNat : Int) - 247)).2) else (valB ((⟨r.all, r.pl + 1, false⟩ : Rd).take ((c.toNat : Int) - 247)).1, ((⟨r.all, r.pl + 1, false⟩ : Rd).take ((c.toNat : Int) - 247)).2.fail) := by
        unfold Rd.uint1
        rw [h1]; simp only [valB_one]; rw [if_neg hs]
      simp only [dec]
      rw [if_neg hs]
      by_cases hn : c.toNat - 247 ≤ t.length
      · have h3 : (⟨r.all, r.pl + 1, false⟩ : Rd).take ((c.toNat : Int) - 247) = (t.take (c.toNat - 247), ⟨r.all, r.pl + 1 + (c.toNat - 247), false⟩) := by
          have := rd_take_ok (r := ⟨r.all, r.pl + 1, false⟩) (n := c.toNat - 247) rfl hlt (by rw [hleft]; exact hn)
          rw [hleft] at this
          rw [show ((c.toNat : Int) - 247) = ((c.toNat - 247 : Nat) : Int) by omega]
          exact this
        rw [h3] at h2
        have hso := sizeN_one (v := valB (t.take (c.toNat - 247))) (n := c.toNat - 247) (by omega)
        by_cases hz : 247 < valB (t.take (c.toNat - 247)) ∧ blen (valB (t.take (c.toNat - 247))) = c.toNat - 247
        · have e5 := hso.2 hz
          rw [if_pos e5] at h2
          rw [if_pos ⟨hn, hz⟩, hw, h2]
          show (if false = true then _ else _) = _
          rw [if_neg (by decide)]
          show (_, _) = (_, _)
          rw [e5, Nat.add_assoc, Nat.add_comm 1]
        · rw [if_neg (fun h => hz (hso.1 h))] at h2
          rw [if_neg (fun h => hz h.2), hw, h2]
          rfl
      · have h3 : (⟨r.all, r.pl + 1, false⟩ : Rd).take ((c.toNat : Int) - 247) = ([], ⟨r.all, r.pl + 1, true⟩) := rd_take_no rfl hlt (by rw [hleft]; right; omega)
        rw [h3] at h2
        have e6 : sizeN (valB []) = 1 := by simp [valB, sizeN]
        simp only [e6] at h2
        rw [if_neg (by omega)] at h2
        rw [if_neg (fun h => hn h.1), hw, h2]
        rfl
theorem text_eq {r : Rd} {m : Int} (hb : r.bad = false) (hl : r.pl ≤ r.all.length) : r.text m = match dec r.left with
    | some y => if 0 ≤ m ∧ (y : Int) ≤ m ∧ sizeN y + y ≤ r.left.length then ((r.left.drop (sizeN y)).take y, ⟨r.all, r.pl + sizeN y + y, false⟩) else ([], ⟨r.all, r.pl, true⟩)
    | none => ([], ⟨r.all, r.pl, true⟩) := by
  have hw : r.text m = if (r.text1 m).2.bad = true then ([], { (r.text1 m).2 with pl := r.pl }) else r.text1 m := by
    unfold Rd.text Rd.whole
    rw [hb, if_neg (by decide)]
  have hu := uint_eq hb hl
  cases hd : dec r.left with
  | none =>
    rw [hd] at hu
    have h2 : r.text1 m = ([], ⟨r.all, r.pl, true⟩) := by
      unfold Rd.text1
      rw [hu]
      simp only
      split
      · rfl
      · exact rd_take_bad rfl
    rw [hw, h2]; rfl
  | some y =>
    rw [hd] at hu
    obtain ⟨hy, hB, hsz⟩ := dec_some hd
    have hll : r.left.length = r.all.length - r.pl := by unfold Rd.left; rw [List.length_drop]
    have hleft : (⟨r.all, r.pl + sizeN y, false⟩ : Rd).left = r.left.drop (sizeN y) := by
      unfold Rd.left
      show r.all.drop (r.pl + sizeN y) = _
      rw [List.drop_drop]
    have h2 : r.text1 m = if m < 0 ∨ (y : Int) > m then ([], (⟨r.all, r.pl + sizeN y, false⟩ : Rd).fail) else (⟨r.all, r.pl + sizeN y, false⟩ : Rd).take y := by
      unfold Rd.text1
      rw [hu]
    simp only
    by_cases hm : m < 0 ∨ (y : Int) > m
    · rw [if_pos hm] at h2
      rw [if_neg (by omega), hw, h2]; rfl
    · rw [if_neg hm] at h2
      by_cases hy2 : sizeN y + y ≤ r.left.length
      · rw [if_pos ⟨by omega, by omega, hy2⟩]
        have := rd_take_ok (r := ⟨r.all, r.pl + sizeN y, false⟩) (n := y) rfl (by show r.pl + sizeN y ≤ r.all.length; omega) (by rw [hleft, List.length_drop]; omega)
        rw [hw, h2, this, hleft]
        rfl
      · rw [if_neg (fun h => hy2 h.2.2)]
        have := rd_take_no (r := ⟨r.all, r.pl + sizeN y, false⟩) (n := (y : Int)) rfl (by show r.pl + sizeN y ≤ r.all.length; omega) (by rw [hleft, List.length_drop]; right; omega)
        rw [hw, h2, this]; rfl
end Go.Proofs
