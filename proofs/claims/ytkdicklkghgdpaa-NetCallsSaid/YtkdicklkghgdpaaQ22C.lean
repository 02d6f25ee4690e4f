import Derived.Test.YtkdicklkghgdpaaQ22B
set_option linter.unusedVariables false
set_option linter.unusedSimpArgs false
namespace Go.Proofs
open Go.Fw
theorem geti_at {α : Type} {l : List α} {i : Int} (h0 : 0 ≤ i) (h1 : i < (l.length : Int)) : ∃ x, geti l i = some x ∧ x ∈ l ∧ l[i.toNat]? = some x := by
  unfold geti
  rw [if_pos h0]
  have h2 : i.toNat < l.length := by omega
  exact ⟨l[i.toNat], List.getElem?_eq_getElem h2, List.getElem_mem h2, List.getElem?_eq_getElem h2⟩
theorem jn_eq' {α β : Type} (f : α) (g : α → β) : jn f g = g f := by unfold jn; exact id rfl
theorem ltFU' {j : Nat} (h : j ≤ 1000000) : j < FU := by have := FU_ge; omega
def okCall (x : Law22Call) : Prop := x.Bytes.length ≤ 9223372036854775807
theorem many_l1 {l : List Law22Call} (hl : l.length ≤ 9223372036854775807) (ho : ∀ x ∈ l, okCall x) : ∀ (j : Nat) (n i : Int), 0 ≤ i → i ≤ n → n ≤ 400 → i ≤ l.length → 401 - n < j → ∃ v, law22_many_l1 l (fun _ => some false) j n i = some v ∧ (v = false → l.length ≤ 400)
  | 0, n, i, h0, h1, h2, h3, h4 => by omega
  | j + 1, n, i, h0, h1, h2, h3, h4 => by
    rw [law22_many_l1]
    by_cases c : i < (l.length : Int)
    · rw [if_pos c]
      obtain ⟨x, e, hx, _⟩ := geti_at h0 c
      have hb := ho x hx
      unfold okCall at hb
      rw [e, Option.bind_some]
      have hd0 : 0 ≤ (x.Bytes.length : Int).tdiv 200 := Int.tdiv_nonneg (by omega) (by omega)
      have hd1 : (x.Bytes.length : Int).tdiv 200 ≤ (x.Bytes.length : Int) := Int.tdiv_le_self _ (by omega)
      have hd2 : (x.Bytes.length : Int).tdiv 200 ≤ 9223372036854775807 / 200 := by
        rw [Int.tdiv_eq_ediv_of_nonneg (by omega)]; omega
      generalize (x.Bytes.length : Int).tdiv 200 = d at hd0 hd1 hd2
      rw [i64_id (p := d) (by omega) (by omega), i64_id (p := 1 + d) (by omega) (by omega), i64_id (p := n + (1 + d)) (by omega) (by omega)]
      by_cases c2 : 400 < n + (1 + d)
      · rw [if_pos c2]; exact ⟨true, rfl, fun h => by cases h⟩
      · rw [if_neg c2, i64_id (p := i + 1) (by omega) (by omega)]
        exact many_l1 hl ho j _ _ (by omega) (by omega) (by omega) (by omega) (by omega)
    · rw [if_neg c]; exact ⟨false, rfl, fun _ => by omega⟩
theorem many_ok {l : List Law22Call} (hl : l.length ≤ 9223372036854775807) (ho : ∀ x ∈ l, okCall x) : ∃ v, law22_many l = some v ∧ (v = false → l.length ≤ 400) := by
  unfold law22_many
  have := ltFU' (j := 401) (by omega)
  exact many_l1 hl ho FU 0 0 (by omega) (by omega) (by omega) (by omega) (by omega)
theorem put_inv {n : NetNet} {rep : Int} {K : Nat} {b : Bag} (h : Inv n rep K b) {m : ApiMessage} (hm : Vm rep m) (hK : K < 1000000) : ∃ i e n' K' b', net_Net_put n m = some (i, e, n') ∧ Inv n' rep K' b' ∧ K' ≤ K + 1 := by
  by_cases c : 32 ≤ cnt b m.From m.To
  · exact ⟨_, _, n, K, b, put_full h hm c, h, by omega⟩
  · obtain ⟨n', h1, h2⟩ := put_ok h hm (by omega) hK
    exact ⟨_, _, n', _, _, h1, h2, by omega⟩
theorem send_inv {n : NetNet} {rep : Int} {K : Nat} {b : Bag} (h : Inv n rep K b) (f t : Int) (l : List UInt8) (hK : K < 1000000) : ∃ i e n' K' b', net_Net_Send n f t l = some (i, e, n') ∧ Inv n' rep K' b' ∧ K' ≤ K + 1 := by
  by_cases c : 1 ≤ f ∧ f ≤ rep ∧ 1 ≤ t ∧ t ≤ rep ∧ f ≠ t
  · by_cases c2 : 16384 < l.length
    · exact ⟨_, _, n, K, b, send_long h c c2, h, by omega⟩
    · rw [send_put h c (by omega)]
      exact put_inv h ⟨c.1, c.2.1, c.2.2.1, c.2.2.2.1, c.2.2.2.2, by show l.length ≤ 16384; omega⟩ hK
  · exact ⟨_, _, n, K, b, send_arg h c, h, by omega⟩
theorem del_inv {n : NetNet} {rep : Int} {K : Nat} {b : Bag} (h : Inv n rep K b) (id : UInt64) : ∃ m e n' b', net_Net_Deliver n id = some (m, e, n') ∧ Inv n' rep K b' := by
  cases hg : mget id b with
  | none => exact ⟨_, _, n, b, del_none h id hg, h⟩
  | some m => obtain ⟨n', h1, h2⟩ := del_eq h id hg; exact ⟨_, _, n', _, h1, h2⟩
theorem dbl_inv {n : NetNet} {rep : Int} {K : Nat} {b : Bag} (h : Inv n rep K b) (id : UInt64) (hK : K < 1000000) : ∃ i e n' K' b', net_Net_Double n id = some (i, e, n') ∧ Inv n' rep K' b' ∧ K' ≤ K + 1 := by
  cases hg : mget id b with
  | none => exact ⟨_, _, n, K, b, dbl_none h id hg, h, by omega⟩
  | some m => rw [dbl_put h id hg]; exact put_inv h (h.msg _ (mget_mem hg)) hK
theorem room_l1 {l : List Law22Call} {rep : Int} {kj : NetNet → Option Bool} (hl : l.length ≤ 400) (hk : ∀ n K b, Inv n rep K b → K ≤ 400 → kj n = some true) : ∀ (j : Nat) (i : Int) (n : NetNet) (K : Nat) (b : Bag), Inv n rep K b → 0 ≤ i → i ≤ l.length → (K : Int) ≤ i → (l.length : Int) - i < j → law22_NetRoom_l1 l kj j i n = some true
  | 0, i, n, K, b, h, h0, h1, h2, h3 => by omega
  | j + 1, i, n, K, b, h, h0, h1, h2, h3 => by
    rw [law22_NetRoom_l1]
    by_cases c : i < (l.length : Int)
    · rw [if_pos c]
      obtain ⟨x, e, hx, _⟩ := geti_at h0 c
      simp only [e, Option.bind_some]
      rw [i64_id (p := i + 1) (by omega) (by omega)]
      by_cases c0 : x.Do = 0
      · rw [if_pos c0]
        obtain ⟨_, _, n', K', b', e1, h4, h5⟩ := send_inv h x.A x.B x.Bytes (by omega)
        rw [e1, Option.bind_some]
        exact room_l1 hl hk j _ _ _ _ h4 (by omega) (by omega) (by omega) (by omega)
      · rw [if_neg c0]
        by_cases c1 : x.Do = 1
        · rw [if_pos c1]
          obtain ⟨_, _, n', b', e1, h4⟩ := del_inv h x.Id
          rw [e1, Option.bind_some]
          exact room_l1 hl hk j _ _ _ _ h4 (by omega) (by omega) (by omega) (by omega)
        · rw [if_neg c1]
          by_cases c3 : x.Do = 3
          · rw [if_pos c3]
            obtain ⟨_, _, n', K', b', e1, h4, h5⟩ := dbl_inv h x.Id (by omega)
            rw [e1, Option.bind_some]
            exact room_l1 hl hk j _ _ _ _ h4 (by omega) (by omega) (by omega) (by omega)
          · rw [if_neg c3]
            exact room_l1 hl hk j _ _ _ _ h (by omega) (by omega) (by omega) (by omega)
    · rw [if_neg c]; exact hk n K b h (by omega)
/-- One of that way, if there is any. -/
def inWay (b : Bag) (f t : Int) (c : Int) (id : UInt64) : Prop := c ≠ 0 → ∃ m, mget id b = some m ∧ m.From = f ∧ m.To = t
theorem cnt_take (b : Bag) (f t : Int) {i : Nat} {q : UInt64 × ApiMessage} (h : b[i]? = some q) : cnt (b.take (i + 1)) f t = cnt (b.take i) f t + (if q.2.From = f ∧ q.2.To = t then 1 else 0) := by
  have hi : i < b.length := (List.getElem?_eq_some_iff.1 h).1
  have e : b.take (i + 1) = b.take i ++ [q] := by
    rw [List.take_succ_eq_append_getElem hi]
    have := (List.getElem?_eq_some_iff.1 h).2
    rw [this]
  rw [e]
  exact cnt_app _ q.1 q.2 f t
theorem room_l2 {b : Bag} {f t : Int} {kj : Int → UInt64 → Option Bool} (hl : b.length ≤ 1000000) (ho : (b.map fun q => q.1.toNat).Pairwise (· < ·)) (hk : ∀ id, inWay b f t (cnt b f t : Int) id → kj (cnt b f t : Int) id = some true) : ∀ (j : Nat) (c : Int) (id : UInt64) (i : Int), 0 ≤ i → i ≤ b.length → c = (cnt (b.take i.toNat) f t : Int) → inWay b f t c id → (b.length : Int) - i < j → law22_NetRoom_l2 (b.map letterOf) f t kj j c id i = some true
  | 0, c, id, i, h0, h1, h2, h3, h4 => by omega
  | j + 1, c, id, i, h0, h1, h2, h3, h4 => by
    rw [law22_NetRoom_l2]
    have hcl : cnt (b.take i.toNat) f t ≤ b.length := Nat.le_trans List.countP_le_length (by rw [List.length_take]; omega)
    by_cases cc : i < ((b.map letterOf).length : Int)
    · rw [if_pos cc]
      rw [List.length_map] at cc
      obtain ⟨q, e, hq, e2⟩ := geti_at h0 cc
      have e3 : geti (b.map letterOf) i = some (letterOf q) := by unfold geti at e ⊢; rw [if_pos h0] at e ⊢; rw [List.getElem?_map, e]; rfl
      have hc := cnt_take b f t e2
      have ei : (i + 1).toNat = i.toNat + 1 := by omega
      simp only [e3, Option.bind_some]
      rw [i64_id (p := c + 1) (by omega) (by omega), i64_id (p := i + 1) (by omega) (by omega)]
      by_cases c1 : q.2.From = f
      · by_cases c2 : q.2.To = t
        · rw [if_pos ⟨c1, c2⟩] at hc
          simp only [letterOf, c1, c2, if_true, Option.bind_some, decide_true]
          by_cases c3 : c = 0
          · rw [if_pos c3]
            exact room_l2 hl ho hk j _ _ _ (by omega) (by omega) (by rw [ei, hc]; omega) (fun _ => ⟨q.2, mget_of ho hq, c1, c2⟩) (by omega)
          · rw [if_neg c3]
            exact room_l2 hl ho hk j _ _ _ (by omega) (by omega) (by rw [ei, hc]; omega) (fun _ => h3 c3) (by omega)
        · rw [if_neg (fun h => c2 h.2)] at hc
          simp only [letterOf, c1, c2, if_true, Option.bind_some, decide_false, Bool.false_eq_true, if_false]
          exact room_l2 hl ho hk j _ _ _ (by omega) (by omega) (by rw [ei, hc]; omega) h3 (by omega)
      · rw [if_neg (fun h => c1 h.1)] at hc
        simp only [letterOf, c1, if_false, Option.bind_some, Bool.false_eq_true]
        exact room_l2 hl ho hk j _ _ _ (by omega) (by omega) (by rw [ei, hc]; omega) h3 (by omega)
    · rw [if_neg cc]
      rw [List.length_map] at cc
      have : b.take i.toNat = b := List.take_of_length_le (by omega)
      rw [this] at h2
      subst h2
      exact hk id h3
theorem room_l3 {f t : Int} {l : List UInt8} {rep : Int} {kj : UInt64 → NetNet → Option Bool} (hv : Vm rep ⟨f, t, l⟩) (hk : ∀ id n K b, Inv n rep K b → K ≤ 500 → cnt b f t = 32 → inWay b f t 32 id → kj id n = some true) : ∀ (j : Nat) (c : Int) (id : UInt64) (n : NetNet) (K : Nat) (b : Bag), Inv n rep K b → c = (cnt b f t : Int) → (K : Int) ≤ 400 + c → inWay b f t c id → 32 - c < j → law22_NetRoom_l3 f t l kj j c id n = some true
  | 0, c, id, n, K, b, h, h1, h2, h3, h4 => by have := h.full f t; omega
  | j + 1, c, id, n, K, b, h, h1, h2, h3, h4 => by
    rw [law22_NetRoom_l3]
    have hf := h.full f t
    by_cases cc : c < 32
    · rw [if_pos cc, send_put h ⟨hv.f1, hv.f2, hv.t1, hv.t2, hv.ne⟩ hv.len]
      obtain ⟨n', e, h5⟩ := put_ok h hv (by show cnt b f t < 32; omega) (by omega)
      rw [e, Option.bind_some]
      simp only [ne_eq, not_true_eq_false, if_false]
      rw [i64_id (p := c + 1) (by omega) (by omega)]
      have hc := cnt_app b (UInt64.ofNat (K + 1)) ⟨f, t, l⟩ f t
      rw [if_pos ⟨rfl, rfl⟩] at hc
      by_cases c0 : c = 0
      · rw [if_pos c0]
        exact room_l3 hv hk j _ _ _ _ _ h5 (by rw [hc]; omega) (by omega) (fun _ => ⟨⟨f, t, l⟩, mget_of h5.ord (by simp), rfl, rfl⟩) (by omega)
      · rw [if_neg c0]
        refine room_l3 hv hk j _ _ _ _ _ h5 (by rw [hc]; omega) (by omega) (fun _ => ?_) (by omega)
        obtain ⟨m, g1, g2, g3⟩ := h3 c0
        exact ⟨m, mget_of h5.ord (List.mem_append.2 (.inl (mget_mem g1))), g2, g3⟩
    · rw [if_neg cc]
      exact hk id n K b h (by omega) (by omega) (by have : c = 32 := by omega
                                                    rw [this] at h3; exact h3)
theorem NetRoom_pure (rep : Int) (l : List Law22Call) (f t : Int) (bs : List UInt8) (hl : l.length ≤ 9223372036854775807) (ho : ∀ x ∈ l, okCall x) : law22_NetRoom rep l f t bs = some true := by
  have hFU : 2000000 ≤ FU := Nat.le_trans (by decide) FU_ge
  unfold law22_NetRoom
  generalize FU = J at hFU ⊢
  by_cases hr : rep < 1 ∨ 4 < rep
  · simp [new_bad hr, awake_true]
  · obtain ⟨n, e, h⟩ := new_ok (rep := rep) (by omega) (by omega)
    obtain ⟨v, e2, hv⟩ := many_ok hl ho
    simp only [e, Option.bind_some, ne_eq, not_true_eq_false, if_false, e2]
    split
    · simp [awake_true]
    · rename_i hc
      have hc1 : v = false := by cases v <;> simp_all
      have hlen := hv hc1
      have hvm : Vm rep ⟨f, t, bs⟩ := by
        refine ⟨?_, ?_, ?_, ?_, ?_, ?_⟩ <;> simp only <;> first | omega | (intro h; exact hc (.inr h))
      rw [jn_eq']
      refine room_l1 hlen ?_ J 0 n 0 [] h (by omega) (by omega) (by omega) (by omega)
      intro n1 K1 b1 h1 hK1
      show (net_Net_Letters n1).bind _ = _
      rw [letters_all h1 (by omega), Option.bind_some, jn_eq']
      have hs := h1.small
      have hfull := h1.full f t
      refine room_l2 (by omega) h1.ord ?_ J 0 0 0 (by omega) (by omega) (by simp [cnt]) (fun h => absurd rfl h) (by omega)
      intro id hid
      show (if _ then _ else _) = _
      rw [if_neg (by omega), jn_eq']
      refine room_l3 hvm ?_ J _ id n1 K1 b1 h1 rfl (by omega) hid (by omega)
      intro id2 n2 K2 b2 h2 hK2 hc2 hid2
      obtain ⟨m, g1, g2, g3⟩ := hid2 (by omega)
      have hm := h2.msg _ (mget_mem g1)
      simp only at hm
      show (net_Net_Send n2 f t bs).bind _ = _
      rw [send_put h2 ⟨hvm.f1, hvm.f2, hvm.t1, hvm.t2, hvm.ne⟩ hvm.len, put_full h2 hvm (by show 32 ≤ cnt b2 f t; omega), Option.bind_some]
      simp only
      rw [dbl_put h2 id2 g1, put_full h2 hm (by rw [g2, g3]; omega), Option.bind_some]
      simp only
      obtain ⟨n3, e3, h3⟩ := del_eq h2 id2 g1
      have e4 : net_Net_Drop n2 id2 = some (0, n3) := by unfold net_Net_Drop; rw [e3]; rfl
      rw [e4, Option.bind_some]
      simp only
      have hc3 := cnt_del g1 f t
      rw [if_pos ⟨g2, g3⟩] at hc3
      obtain ⟨n4, e5, h4⟩ := put_ok h3 hvm (by show cnt (mdel id2 b2) f t < 32; omega) (by omega)
      rw [send_put h3 ⟨hvm.f1, hvm.f2, hvm.t1, hvm.t2, hvm.ne⟩ hvm.len, e5, Option.bind_some]
      simp only
      rw [at_eq h4, mget_of h4.ord (y := ⟨f, t, bs⟩) (by simp)]
      simp [awake_true]
end Go.Proofs
