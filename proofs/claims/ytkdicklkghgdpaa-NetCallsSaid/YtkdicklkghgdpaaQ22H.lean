import Derived.Test.YtkdicklkghgdpaaQ22E
set_option linter.unusedVariables false
set_option linter.unusedSimpArgs false
namespace Go.Proofs
open Go.Fw
/-- The bag that a row of all letters stands for. -/
def bagOf : Nat → List Ref22Letter → Bag
  | _, [] => []
  | k, x :: r => if x.Out = true then bagOf (k + 1) r else (UInt64.ofNat (k + 1), x.M) :: bagOf (k + 1) r
theorem bagOf_app : ∀ (l : List Ref22Letter) (k : Nat) (x : Ref22Letter), bagOf k (l ++ [x]) = bagOf k l ++ bagOf (k + l.length) [x]
  | [], k, x => by simp [bagOf]
  | y :: r, k, x => by
    rw [List.cons_append, bagOf, bagOf, bagOf_app r (k + 1) x, List.length_cons, show k + 1 + r.length = k + (r.length + 1) by omega]
    split <;> simp
theorem bagOf_ids : ∀ (l : List Ref22Letter) (k : Nat), k + l.length ≤ 1000000 → ∀ p ∈ bagOf k l, k + 1 ≤ p.1.toNat ∧ p.1.toNat ≤ k + l.length
  | [], k, h, p, hp => by cases hp
  | y :: r, k, h, p, hp => by
    rw [List.length_cons] at h ⊢
    rw [bagOf] at hp
    have hn : (UInt64.ofNat (k + 1)).toNat = k + 1 := u64_nat (by omega)
    split at hp
    · have := bagOf_ids r (k + 1) (by omega) p hp; omega
    · rcases List.mem_cons.1 hp with rfl | hp
      · simp only; omega
      · have := bagOf_ids r (k + 1) (by omega) p hp; omega
theorem mget_bagOf : ∀ (l : List Ref22Letter) (k : Nat) (q : UInt64), k + l.length ≤ 1000000 → k + 1 ≤ q.toNat → mget q (bagOf k l) = (l[q.toNat - (k + 1)]?).bind fun x => if x.Out = true then none else some x.M
  | [], k, q, h, h1 => by simp [bagOf, mget]
  | y :: r, k, q, h, h1 => by
    rw [List.length_cons] at h
    have hn : (UInt64.ofNat (k + 1)).toNat = k + 1 := u64_nat (by omega)
    by_cases c : q.toNat = k + 1
    · have hq : q = UInt64.ofNat (k + 1) := by apply UInt64.toNat_inj.1; omega
      have e0 : q.toNat - (k + 1) = 0 := by omega
      rw [e0, List.getElem?_cons_zero, Option.bind_some, bagOf]
      have hnot : ∀ p ∈ bagOf (k + 1) r, p.1 ≠ q := fun p hp e => by
        have := (bagOf_ids r (k + 1) (by omega) p hp).1
        rw [e] at this; omega
      split
      · exact mget_none hnot
      · rw [hq]; simp [mget]
    · have hq : UInt64.ofNat (k + 1) ≠ q := fun e => by rw [← e, hn] at c; exact c rfl
      have ih := mget_bagOf r (k + 1) q (by omega) (by omega)
      have e1 : q.toNat - (k + 1) = (q.toNat - (k + 1 + 1)) + 1 := by omega
      rw [e1, List.getElem?_cons_succ, ← ih, bagOf]
      split
      · rfl
      · rw [mget, if_neg hq]
theorem mget_low {l : List Ref22Letter} {k : Nat} {q : UInt64} (h : k + l.length ≤ 1000000) (hq : q.toNat ≤ k) : mget q (bagOf k l) = none :=
  mget_none fun p hp e => by have := (bagOf_ids l k h p hp).1; rw [e] at this; omega
theorem mdel_none {b : Bag} {q : UInt64} (h : ∀ p ∈ b, p.1 ≠ q) : mdel q b = b := by
  induction b with
  | nil => rfl
  | cons y r ih =>
    have h1 := h y (List.mem_cons_self ..)
    have h2 := ih fun p hp => h p (List.mem_cons_of_mem _ hp)
    simp [mdel, h1, h2]
theorem mdel_bagOf : ∀ (l : List Ref22Letter) (k i : Nat) (x : Ref22Letter), k + l.length ≤ 1000000 → l[i]? = some x → mdel (UInt64.ofNat (k + i + 1)) (bagOf k l) = bagOf k (l.set i { x with Out := true })
  | [], k, i, x, h, hx => by simp at hx
  | y :: r, k, 0, x, h, hx => by
    rw [List.length_cons] at h
    simp only [List.getElem?_cons_zero, Option.some.injEq] at hx
    subst hx
    have hnot : ∀ p ∈ bagOf (k + 1) r, p.1 ≠ UInt64.ofNat (k + 1) := fun p hp e => by
      have := (bagOf_ids r (k + 1) (by omega) p hp).1
      rw [e, u64_nat (by omega)] at this; omega
    rw [List.set_cons_zero, bagOf, bagOf, Nat.add_zero]
    simp only [if_true]
    split
    · exact mdel_none hnot
    · simp [mdel, mdel_none hnot]
  | y :: r, k, i + 1, x, h, hx => by
    rw [List.length_cons] at h
    have hi := (List.getElem?_eq_some_iff.1 hx).1
    rw [List.length_cons] at hi
    rw [List.getElem?_cons_succ] at hx
    have ih := mdel_bagOf r (k + 1) i x (by omega) hx
    have hne : UInt64.ofNat (k + 1) ≠ UInt64.ofNat (k + (i + 1) + 1) := fun e => by
      have := congrArg UInt64.toNat e
      rw [u64_nat (by omega), u64_nat (by omega)] at this; omega
    rw [List.set_cons_succ, bagOf, bagOf, show k + (i + 1) + 1 = k + 1 + i + 1 by omega] at *
    split
    · exact ih
    · rw [mdel, if_neg hne, ih]
structure Rel (n : NetNet) (m : Ref22Net) (rep : Int) (K : Nat) : Prop where
  inv : Inv n rep K (bagOf 0 m.All)
  rep : m.Replicas = rep
  len : m.All.length = K
theorem fit (c : Nat) {n : Nat} (h : n ≤ c) : n ≤ c := h
theorem app_ok {α : Type} {cap : Nat} (a b : List α) (h : a.length + b.length ≤ 1000000) (hc : 1000000 ≤ cap) : app cap a b = some (a ++ b) := by
  unfold app
  rw [if_pos (by omega)]
/-! The document's operations. -/
theorem ref_at {n : NetNet} {m : Ref22Net} {rep : Int} {K : Nat} (h : Rel n m rep K) (hK : K ≤ 1000) (id : UInt64) : ref22_Net_At m id = match mget id (bagOf 0 m.All) with | some x => some (x, 0) | none => some (⟨0, 0, []⟩, 4) := by
  have hl := h.len
  have eK : (ofI64 (m.All.length : Int)).toNat = K := by rw [ofI64_nat' (by omega), u64_nat (by omega)]; exact hl
  unfold ref22_Net_At
  simp only [eK]
  by_cases c1 : id.toNat = 0
  · rw [mget_low (by omega) (by omega)]
    simp [c1]
  · rw [mget_bagOf m.All 0 id (by omega) (by omega)]
    by_cases c2 : K < id.toNat
    · have e : m.All[id.toNat - (0 + 1)]? = none := List.getElem?_eq_none (by omega)
      rw [e]
      have : ((K : Nat) : Int) < (id.toNat : Int) := by omega
      simp [this]
    · have hc : ¬ (((id.toNat : Int) < 1) ∨ ((K : Nat) : Int) < (id.toNat : Int)) := by omega
      have e1 : (ofI64 ((id.toNat : Int) - 1)).toNat = id.toNat - 1 := by
        rw [show (id.toNat : Int) - 1 = ((id.toNat - 1 : Nat) : Int) by omega, ofI64_nat' (by omega), u64_nat (by omega)]
      simp only [if_neg hc, e1]
      obtain ⟨x, g1, g2, g3⟩ := geti_at (l := m.All) (i := ((id.toNat - 1 : Nat) : Int)) (by omega) (by omega)
      rw [Int.toNat_natCast] at g3
      rw [show id.toNat - (0 + 1) = id.toNat - 1 by omega, g3]
      simp only [g1, Option.bind_some]
      cases x.Out <;> simp
end Go.Proofs
