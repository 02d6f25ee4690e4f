import Derived.Lib.BitFns
import Derived.Lib.ItoaNum
namespace Go.Fw

/-- How many bytes a number has to the base 256, without noughts ahead. -/
def blen (x : Nat) : Nat := if x = 0 then 0 else blen (x / 256) + 1
termination_by x
decreasing_by omega

/-- A number as so many bytes, the highest first. -/
def be : Nat → Nat → List UInt8
  | 0, _ => []
  | k + 1, x => be k (x / 256) ++ [UInt8.ofNat (x % 256)]

/-- A number's bytes. -/
def encN (x : Nat) : List UInt8 := if x ≤ 247 then [UInt8.ofNat x] else UInt8.ofNat (247 + blen x) :: be (blen x) x
def sizeN (x : Nat) : Nat := if x ≤ 247 then 1 else 1 + blen x
/-- Bytes as a number. -/
def valB (l : List UInt8) : Nat := l.foldl (fun x c => x * 256 + c.toNat) 0

theorem blen_zero : blen 0 = 0 := by rw [blen]; simp
theorem blen_pos {x : Nat} (h : x ≠ 0) : blen x = blen (x / 256) + 1 := by rw [blen]; simp [h]
theorem blen_lt (x : Nat) : x < 256 ^ blen x := by
  induction x using Nat.strongRecOn with
  | _ x ih =>
    by_cases h : x = 0
    · subst h; rw [blen_zero]; decide
    · rw [blen_pos h, Nat.pow_succ]
      have := ih (x / 256) (by omega)
      omega
theorem blen_ge {x : Nat} (h : x ≠ 0) : 256 ^ (blen x - 1) ≤ x := by
  induction x using Nat.strongRecOn with
  | _ x ih =>
    rw [blen_pos h, Nat.add_sub_cancel]
    by_cases h2 : x / 256 = 0
    · rw [h2, blen_zero]; simp; omega
    · have h3 := ih (x / 256) (by omega) h2
      rw [blen_pos h2, Nat.add_sub_cancel] at h3
      rw [blen_pos h2, Nat.pow_succ]
      omega
theorem blen_le {x k : Nat} (h : x < 256 ^ k) : blen x ≤ k := by
  induction k generalizing x with
  | zero => have : x = 0 := by simpa using h
            subst this; rw [blen_zero]; exact Nat.le_refl _
  | succ k ih =>
    by_cases h0 : x = 0
    · subst h0; rw [blen_zero]; omega
    · rw [blen_pos h0]
      have : blen (x / 256) ≤ k := ih (by rw [Nat.pow_succ] at h; omega)
      omega
theorem blen_le8 {x : Nat} (h : x < 18446744073709551616) : blen x ≤ 8 := blen_le (by simpa using h)
theorem blen_eq {x k : Nat} (h0 : 256 ^ k ≤ x) (h1 : x < 256 ^ (k + 1)) : blen x = k + 1 := by
  have h2 := blen_le h1
  have hx : x ≠ 0 := by have : 0 < 256 ^ k := Nat.pow_pos (by omega); omega
  rcases Nat.lt_or_ge (blen x) (k + 1) with h | h
  · have h3 := blen_lt x
    have : 256 ^ blen x ≤ 256 ^ k := Nat.pow_le_pow_right (by omega) (by omega)
    omega
  · omega
theorem blen_pos1 {x : Nat} (h : x ≠ 0) : 1 ≤ blen x := by rw [blen_pos h]; omega

theorem bitLen_blen (x : Nat) (h : x < 18446744073709551616) : (Lib.bitLen x + 7) / 8 = blen x := by
  induction x using Nat.strongRecOn with
  | _ x ih =>
    by_cases h0 : x = 0
    · subst h0; rw [blen_zero]; decide
    · by_cases h1 : x < 256
      · have hb : blen x = 1 := by rw [blen_pos h0, Nat.div_eq_of_lt h1, blen_zero]
        rw [hb]
        have h8 : Lib.bitLen x ≤ 8 := Lib.bitLen_le x 8 (by omega) (by simpa using h1)
        have h2 : 1 ≤ Lib.bitLen x := by
          rw [Lib.bitLen_half x h0 (by simpa using h)]; omega
        omega
      · rw [Lib.bitLen_shift8 x (by omega) h, blen_pos h0, ← ih (x / 256) (by omega) (by omega)]
        omega

@[simp] theorem be_len (k x : Nat) : (be k x).length = k := by
  induction k generalizing x with
  | zero => rfl
  | succ k ih => simp [be, ih]
theorem be_drop (a k x : Nat) : (be (a + k) x).drop a = be k x := by
  induction k generalizing x with
  | zero => rw [Nat.add_zero, List.drop_eq_nil_of_le (by rw [be_len]; exact Nat.le_refl _)]; rfl
  | succ k ih =>
    rw [← Nat.add_assoc]
    simp only [be]
    rw [List.drop_append_of_le_length (by rw [be_len]; omega), ih]
/-- One byte more at the front. -/
theorem be_front (k x : Nat) : be (k + 1) x = UInt8.ofNat (x / 256 ^ k % 256) :: be k x := by
  induction k generalizing x with
  | zero => simp [be]
  | succ k ih =>
    rw [be, ih (x / 256)]
    simp only [be, List.cons_append]
    rw [Nat.div_div_eq_div_mul, Nat.pow_succ, Nat.mul_comm 256]
theorem valB_append (l m : List UInt8) : valB (l ++ m) = valB l * 256 ^ m.length + valB m := by
  unfold valB
  rw [List.foldl_append]
  generalize l.foldl (fun x c => x * 256 + c.toNat) 0 = a
  induction m generalizing a with
  | nil => simp
  | cons c m ih =>
    simp only [List.foldl_cons, List.length_cons]
    rw [ih, ih (0 * 256 + c.toNat)]
    rw [Nat.pow_succ, Nat.add_mul, Nat.zero_mul, Nat.zero_add, Nat.mul_assoc, Nat.mul_comm 256, Nat.add_assoc]
theorem valB_one (c : UInt8) : valB [c] = c.toNat := by simp [valB]
theorem valB_cons (c : UInt8) (l : List UInt8) : valB (c :: l) = c.toNat * 256 ^ l.length + valB l := by
  have := valB_append [c] l
  rw [valB_one] at this
  exact this
theorem valB_snoc (l : List UInt8) (c : UInt8) : valB (l ++ [c]) = valB l * 256 + c.toNat := by
  rw [valB_append, valB_one]; simp
theorem valB_be (k x : Nat) : valB (be k x) = x % 256 ^ k := by
  induction k generalizing x with
  | zero => simp [be, valB, Nat.mod_one]
  | succ k ih =>
    rw [be, valB_snoc, ih, Nat.pow_succ]
    have h1 : (UInt8.ofNat (x % 256)).toNat = x % 256 := by simp
    rw [h1]
    have := Nat.mod_mul_left_div_self x 256 (256 ^ k)
    have h3 : x % (256 ^ k * 256) = (x / 256 % 256 ^ k) * 256 + x % 256 := by
      rw [Nat.mul_comm (256 ^ k), Nat.mod_mul]; omega
    rw [h3]
theorem valB_lt (l : List UInt8) : valB l < 256 ^ l.length := by
  induction l with
  | nil => simp [valB]
  | cons c l ih =>
    rw [valB_cons, List.length_cons, Nat.pow_succ]
    have := c.toNat_lt
    have h : c.toNat * 256 ^ l.length + 256 ^ l.length ≤ 256 * 256 ^ l.length := by
      rw [show c.toNat * 256 ^ l.length + 256 ^ l.length = (c.toNat + 1) * 256 ^ l.length by rw [Nat.add_mul, Nat.one_mul]]
      exact Nat.mul_le_mul_right _ (by omega)
    rw [Nat.mul_comm (256 ^ l.length)]
    omega
theorem be_valB (l : List UInt8) : be l.length (valB l) = l := by
  induction l with
  | nil => rfl
  | cons c l ih =>
    rw [List.length_cons, be_front, valB_cons]
    have h := valB_lt l
    have hp : 0 < 256 ^ l.length := Nat.pow_pos (by omega)
    have h1 : (c.toNat * 256 ^ l.length + valB l) / 256 ^ l.length = c.toNat := by
      rw [Nat.mul_comm, Nat.mul_add_div hp, Nat.div_eq_of_lt h, Nat.add_zero]
    have h2 : be l.length (c.toNat * 256 ^ l.length + valB l) = be l.length (valB l) := by
      have key : ∀ (k a b : Nat), be k (a * 256 ^ k + b) = be k b := by
        intro k
        induction k with
        | zero => intro a b; rfl
        | succ k ihk =>
          intro a b
          simp only [be]
          have e1 : (a * 256 ^ (k + 1) + b) / 256 = a * 256 ^ k + b / 256 := by rw [Nat.pow_succ, ← Nat.mul_assoc]; omega
          have e2 : (a * 256 ^ (k + 1) + b) % 256 = b % 256 := by rw [Nat.pow_succ, ← Nat.mul_assoc]; omega
          rw [e1, e2, ihk]
      exact key _ _ _
    rw [h1, h2, ih]
    have := c.toNat_lt
    rw [Nat.mod_eq_of_lt (by omega)]
    simp
theorem encN_len (x : Nat) : (encN x).length = sizeN x := by
  unfold encN sizeN
  split
  · rfl
  · simp [be_len]; omega
theorem sizeN_le {x : Nat} (h : x < 18446744073709551616) : 1 ≤ sizeN x ∧ sizeN x ≤ 9 := by
  unfold sizeN
  have := blen_le8 h
  split <;> omega

end Go.Fw
