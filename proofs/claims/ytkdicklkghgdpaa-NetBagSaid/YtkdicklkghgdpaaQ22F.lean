import Derived.Test.YtkdicklkghgdpaaQ22E
set_option linter.unusedVariables false
set_option linter.unusedSimpArgs false
namespace Go.Proofs
open Go.Fw
/-- How many of the first i numbers are there. -/
def cl (b : Bag) (i : Nat) : Nat := (List.range i).countP fun k => isThere b (UInt64.ofNat (k + 1))
theorem cl_succ (b : Bag) (i : Nat) : cl b (i + 1) = cl b i + (if isThere b (UInt64.ofNat (i + 1)) then 1 else 0) := by
  unfold cl
  rw [List.range_succ, List.countP_append, List.countP_cons]
  simp
theorem cl_nil (i : Nat) : cl [] i = 0 := by
  unfold cl
  rw [List.countP_eq_zero]
  intro k _
  simp [isThere, mget]
theorem cl_cons {q : UInt64 × ApiMessage} {b : Bag} (hq : q.1.toNat ≤ 1000) (hq1 : 1 ≤ q.1.toNat) (hn : ∀ p ∈ b, p.1 ≠ q.1) : ∀ i, i ≤ 1000 → cl (q :: b) i = cl b i + (if q.1.toNat ≤ i then 1 else 0)
  | 0, _ => by
    have : ¬ q.1.toNat ≤ 0 := by omega
    simp [cl, this]
  | i + 1, hi => by
    rw [cl_succ, cl_succ, cl_cons hq hq1 hn i (by omega)]
    by_cases c : q.1 = UInt64.ofNat (i + 1)
    · have e : q.1.toNat = i + 1 := by rw [c, u64_nat (by omega)]
      have h1 : isThere (q :: b) (UInt64.ofNat (i + 1)) = true := by obtain ⟨k, v⟩ := q; simp only at c; simp [isThere, mget, c]
      have h2 : isThere b (UInt64.ofNat (i + 1)) = false := by
        rw [← c]
        simp [isThere, mget_none hn]
      have n1 : ¬ q.1.toNat ≤ i := by omega
      have n2 : q.1.toNat ≤ i + 1 := by omega
      rw [h1, h2, if_neg n1, if_pos n2]
      simp
    · have h1 : isThere (q :: b) (UInt64.ofNat (i + 1)) = isThere b (UInt64.ofNat (i + 1)) := by obtain ⟨k, v⟩ := q; simp only at c; unfold isThere; rw [mget, if_neg c]
      have e : q.1.toNat ≠ i + 1 := fun e => c (by rw [← e, of_toNat])
      rw [h1]
      by_cases c2 : q.1.toNat ≤ i
      · have c3 : q.1.toNat ≤ i + 1 := by omega
        rw [if_pos c2, if_pos c3]; omega
      · have c3 : ¬ q.1.toNat ≤ i + 1 := by omega
        rw [if_neg c2, if_neg c3]; omega
theorem cl_all {K : Nat} (hK : K ≤ 1000) : ∀ {b : Bag}, (b.map fun q => q.1.toNat).Pairwise (· < ·) → (∀ q ∈ b, 1 ≤ q.1.toNat ∧ q.1.toNat ≤ K) → cl b K = b.length
  | [], _, _ => cl_nil K
  | q :: b, ho, hi => by
    simp only [List.map_cons, List.pairwise_cons] at ho
    have h1 := hi q (by simp)
    rw [cl_cons (by omega) h1.1 (fun p hp e => by
      have := ho.1 p.1.toNat (List.mem_map.2 ⟨p, hp, rfl⟩)
      rw [e] at this; omega) K hK, cl_all hK ho.2 (fun p hp => hi p (by simp [hp])), if_pos h1.2]
    simp
theorem once_l2 {n : NetNet} {rep : Int} {K : Nat} {b : Bag} {gv : List ApiMessage} {out : List Int} {kj : Int → Option Bool} (h : Inv n rep K b) (ht : Told K b gv out) (hK : K ≤ 400) (hk : kj (b.length : Int) = some true) : ∀ (j : Nat) (i : Nat), i ≤ K → (K : Int) - i < j → law22_NetOnce_l2 gv n out kj j (cl b i : Int) ((i : Int) + 1) = some true
  | 0, i, h1, h2 => by omega
  | j + 1, i, h1, h2 => by
    rw [law22_NetOnce_l2]
    have hcl : cl b i ≤ i := by
      have : cl b i ≤ (List.range i).length := List.countP_le_length
      rwa [List.length_range] at this
    by_cases c : i < K
    · rw [if_pos (by rw [ht.gl]; omega)]
      have e0 : ofI64 ((i : Int) + 1) = UInt64.ofNat (i + 1) := by
        have := ofI64_nat' (n := i + 1) (by omega)
        rw [← this]; congr 1
      have hs := cl_succ b i
      rw [e0, at_eq h]
      have hg : ∀ {α : Type} (l : List α), geti l ((i : Int) + 1) = l[i + 1]? := fun l => by
        unfold geti; rw [if_pos (by omega)]; congr 1
      rcases ht.is (i + 1) (by omega) (by omega) with ⟨g1, m, g2, g3⟩ | ⟨g1, g3⟩
      · rw [g3]
        have e3 : isThere b (UInt64.ofNat (i + 1)) = true := by unfold isThere; rw [g3]; rfl
        rw [e3] at hs
        rw [Option.bind_some, hg, g1, Option.bind_some, if_neg (by simp), if_pos rfl, hg, g2, Option.bind_some]
        rw [show ref22_Same m m = some true from by simp [ref22_Same], Option.bind_some, if_neg (by simp), Option.bind_some]
        rw [i64_id (p := 1 - 0) (by omega) (by omega), i64_id (p := (cl b i : Int) + (1 - 0)) (by omega) (by omega), i64_id (p := (i : Int) + 1 + 1) (by omega) (by omega)]
        have := once_l2 h ht hK hk j (i + 1) (by omega) (by omega)
        rw [hs] at this
        simpa using this
      · rw [g3]
        have e3 : isThere b (UInt64.ofNat (i + 1)) = false := by unfold isThere; rw [g3]; rfl
        rw [e3] at hs
        rw [Option.bind_some, hg, g1, Option.bind_some, if_neg (by simp), if_neg (by simp), Option.bind_some]
        rw [i64_id (p := 1 - 1) (by omega) (by omega), i64_id (p := (cl b i : Int) + (1 - 1)) (by omega) (by omega), i64_id (p := (i : Int) + 1 + 1) (by omega) (by omega)]
        have := once_l2 h ht hK hk j (i + 1) (by omega) (by omega)
        rw [hs] at this
        simpa using this
    · rw [if_neg (by rw [ht.gl]; omega)]
      obtain rfl : i = K := by omega
      rw [cl_all (by omega) h.ord h.ids]
      exact hk
theorem NetOnce_pure (rep : Int) (l : List Law22Call) (hl : l.length ≤ 9223372036854775807) (ho : ∀ x ∈ l, okCall x) : law22_NetOnce rep l = some true := by
  have hFU : 2000000 ≤ FU := Nat.le_trans (by decide) FU_ge
  unfold law22_NetOnce
  generalize FU = J at hFU ⊢
  by_cases hr : rep < 1 ∨ 4 < rep
  · simp [new_bad hr, awake_true]
  · obtain ⟨n, e, h⟩ := new_ok (rep := rep) (by omega) (by omega)
    obtain ⟨v, e2, hv⟩ := many_ok hl ho
    simp only [e, Option.bind_some, ne_eq, not_true_eq_false, if_false, e2]
    split
    · simp [awake_true]
    · rename_i hc
      have hc1 : v = false := by cases v <;> simp_all
      have hlen := hv hc1
      rw [jn_eq']
      refine once_l1 hlen ?_ J _ _ 0 n 0 [] h ⟨rfl, rfl, fun i h1 h2 => by omega⟩ (by omega) (by omega) (by omega) (by omega)
      intro n1 K1 b1 gv1 out1 h1 ht1 hK1
      rw [jn_eq']
      have := once_l2 (kj := fun x40 => (net_Net_Count n1).bind fun x49 => (if x49 = x40 then (law22_awake).bind fun x51 => some x51 else some false).bind fun x50 => some x50) h1 ht1 hK1 (by rw [count_all h1]; simp [awake_true]) J 0 (by omega) (by omega)
      exact this
end Go.Proofs
