import Derived.Test.YtkdicklkghgdpaaQ22C
set_option linter.unusedVariables false
set_option linter.unusedSimpArgs false
namespace Go.Proofs
open Go.Fw
/-- What was given, and what is out, beside a bag. -/
structure Told (K : Nat) (b : Bag) (gv : List ApiMessage) (out : List Int) : Prop where
  gl : gv.length = K + 1
  ol : out.length = K + 1
  is : ∀ i : Nat, 1 ≤ i → i ≤ K → (out[i]? = some 0 ∧ ∃ m, gv[i]? = some m ∧ mget (UInt64.ofNat i) b = some m) ∨ (out[i]? = some 1 ∧ mget (UInt64.ofNat i) b = none)
theorem ofI64_nat' {n : Nat} (h : n ≤ 1000000) : ofI64 (n : Int) = UInt64.ofNat n := by
  unfold ofI64
  congr 1
  omega
theorem u64_nat {n : Nat} (h : n ≤ 1000000) : (UInt64.ofNat n).toNat = n := by rw [UInt64.toNat_ofNat']; omega
theorem of_toNat (i : UInt64) : UInt64.ofNat i.toNat = i := by simp
/-- Is it there? -/
def isThere (b : Bag) (id : UInt64) : Bool := (mget id b).isSome
theorem there_eq {n : NetNet} {rep : Int} {K : Nat} {b : Bag} {gv : List ApiMessage} {out : List Int} (h : Inv n rep K b) (ht : Told K b gv out) (hK : K ≤ 1000) (id : UInt64) :
    (if (1 ≤ (id.toNat : Int)) ∧ ((id.toNat : Int) < ((ofI64 (gv.length : Int)).toNat : Int)) then (geti out (id.toNat : Int)).bind fun x16 => some (decide (x16 = 0)) else some false) = some (isThere b id) := by
  rw [ht.gl, ofI64_nat' (by omega), u64_nat (by omega)]
  by_cases c : (1 ≤ (id.toNat : Int)) ∧ ((id.toNat : Int) < ((K + 1 : Nat) : Int))
  · rw [if_pos c]
    have hi := ht.is id.toNat (by omega) (by omega)
    rw [of_toNat] at hi
    unfold geti
    rw [if_pos (by omega), Int.toNat_natCast]
    rcases hi with ⟨h1, m, h2, h3⟩ | ⟨h1, h3⟩
    · rw [h1]; simp [isThere, h3]
    · rw [h1]; simp [isThere, h3]
  · rw [if_neg c]
    have : mget id b = none := mget_none (fun p hp e => by
      have := h.ids p hp
      rw [e] at this
      omega)
    simp [isThere, this]
theorem told_put {K : Nat} {b : Bag} {gv : List ApiMessage} {out : List Int} (ht : Told K b gv out) (hb : ∀ p ∈ b, p.1.toNat ≤ K) (hK : K ≤ 1000) (m : ApiMessage) : Told (K + 1) (b ++ [(UInt64.ofNat (K + 1), m)]) (gv ++ [m]) (out ++ [0]) := by
  refine ⟨by rw [List.length_append, ht.gl]; rfl, by rw [List.length_append, ht.ol]; rfl, fun i h1 h2 => ?_⟩
  have hap : ∀ (l : Bag) (q : UInt64) (p : UInt64 × ApiMessage), mget q (l ++ [p]) = match mget q l with | some y => some y | none => if p.1 = q then some p.2 else none := by
    intro l q p
    induction l with
    | nil => obtain ⟨k, v⟩ := p; simp [mget]
    | cons x l ih =>
      obtain ⟨k, v⟩ := x
      simp only [List.cons_append, mget]
      by_cases hk : k = q
      · simp [hk]
      · simp [hk, ih]
  by_cases c : i ≤ K
  · have e1 : (out ++ [0])[i]? = out[i]? := List.getElem?_append_left (by rw [ht.ol]; omega)
    have e2 : (gv ++ [m])[i]? = gv[i]? := List.getElem?_append_left (by rw [ht.gl]; omega)
    rw [e1, e2, hap]
    rcases ht.is i h1 c with ⟨g1, y, g2, g3⟩ | ⟨g1, g3⟩
    · exact .inl ⟨g1, y, g2, by rw [g3]⟩
    · refine .inr ⟨g1, ?_⟩
      rw [g3]
      simp only
      rw [if_neg]
      intro e
      have := congrArg UInt64.toNat e
      rw [u64_nat (by omega), u64_nat (by omega)] at this
      omega
  · obtain rfl : i = K + 1 := by omega
    refine .inl ⟨?_, m, ?_, ?_⟩
    · rw [List.getElem?_append_right (by rw [ht.ol]; omega), ht.ol]; simp
    · rw [List.getElem?_append_right (by rw [ht.gl]; omega), ht.gl]; simp
    · rw [hap, mget_none (fun p hp e => by
        have := hb p hp
        rw [e, u64_nat (by omega)] at this
        omega)]
      simp
theorem told_del {n : NetNet} {rep : Int} {K : Nat} {b : Bag} {gv : List ApiMessage} {out : List Int} (h : Inv n rep K b) (ht : Told K b gv out) (hK : K ≤ 1000) {id : UInt64} {m : ApiMessage} (hg : mget id b = some m) : Told K (mdel id b) gv (out.set id.toNat 1) := by
  have hid := h.ids _ (mget_mem hg)
  simp only at hid
  refine ⟨ht.gl, by rw [List.length_set]; exact ht.ol, fun i h1 h2 => ?_⟩
  rw [List.getElem?_set]
  by_cases c : id.toNat = i
  · rw [if_pos c, if_pos (by rw [ht.ol]; omega)]
    refine .inr ⟨rfl, ?_⟩
    rw [← c, of_toNat]
    exact mget_none (fun p hp => mdel_not h.ord p hp)
  · rw [if_neg c]
    have hne : UInt64.ofNat i ≠ id := by
      intro e
      have := congrArg UInt64.toNat e
      rw [u64_nat (by omega)] at this
      omega
    have e2 : mget (UInt64.ofNat i) (mdel id b) = mget (UInt64.ofNat i) b := by
      clear hg hid h2 ht h
      induction b with
      | nil => rfl
      | cons x b ih =>
        obtain ⟨k, v⟩ := x
        simp only [mdel]
        by_cases hk : k = id
        · rw [if_pos hk]; simp only [mget]; rw [if_neg (by rw [hk]; exact fun e => hne e.symm)]
        · rw [if_neg hk]; simp only [mget, ih]
    rw [e2]
    exact ht.is i h1 h2
end Go.Proofs
