import Derived.Test.YtkdicklkghgdpaaQ22F
set_option linter.unusedVariables false
set_option linter.unusedSimpArgs false
namespace Go.Proofs
open Go.Fw
theorem drop_inv {n : NetNet} {rep : Int} {K : Nat} {b : Bag} (h : Inv n rep K b) (id : UInt64) : ∃ e n' b', net_Net_Drop n id = some (e, n') ∧ Inv n' rep K b' := by
  obtain ⟨m, e, n', b', h1, h2⟩ := del_inv h id
  exact ⟨e, n', b', by unfold net_Net_Drop; rw [h1]; rfl, h2⟩
theorem bag_l1 {l : List Law22Call} {rep : Int} {kj : NetNet → Option Bool} (hl : l.length ≤ 400) (hk : ∀ n K b, Inv n rep K b → K ≤ 400 → kj n = some true) : ∀ (j : Nat) (i : Int) (n : NetNet) (K : Nat) (b : Bag), Inv n rep K b → 0 ≤ i → i ≤ l.length → (K : Int) ≤ i → (l.length : Int) - i < j → law22_NetBag_l1 l kj j i n = some true
  | 0, i, n, K, b, h, h0, h1, h2, h3 => by omega
  | j + 1, i, n, K, b, h, h0, h1, h2, h3 => by
    rw [law22_NetBag_l1]
    by_cases c : i < (l.length : Int)
    · rw [if_pos c]
      obtain ⟨x, e, hx, _⟩ := geti_at h0 c
      simp only [e, Option.bind_some]
      rw [i64_id (p := i + 1) (by omega) (by omega)]
      by_cases c0 : x.Do = 0
      · rw [if_pos c0]
        obtain ⟨_, _, n', K', b', e1, h4, h5⟩ := send_inv h x.A x.B x.Bytes (by omega)
        rw [e1, Option.bind_some]
        exact bag_l1 hl hk j _ _ _ _ h4 (by omega) (by omega) (by omega) (by omega)
      · rw [if_neg c0]
        by_cases c1 : x.Do = 2
        · rw [if_pos c1]
          obtain ⟨_, n', b', e1, h4⟩ := drop_inv h x.Id
          rw [e1, Option.bind_some]
          exact bag_l1 hl hk j _ _ _ _ h4 (by omega) (by omega) (by omega) (by omega)
        · rw [if_neg c1]
          by_cases c3 : x.Do = 3
          · rw [if_pos c3]
            obtain ⟨_, _, n', K', b', e1, h4, h5⟩ := dbl_inv h x.Id (by omega)
            rw [e1, Option.bind_some]
            exact bag_l1 hl hk j _ _ _ _ h4 (by omega) (by omega) (by omega) (by omega)
          · rw [if_neg c3]
            exact bag_l1 hl hk j _ _ _ _ h (by omega) (by omega) (by omega) (by omega)
    · rw [if_neg c]; exact hk n K b h (by omega)
theorem geti_map' {α β : Type} {f : α → β} {l : List α} {i : Int} {x : α} (h : geti l i = some x) : geti (l.map f) i = some (f x) := by
  unfold geti at h ⊢
  by_cases c : 0 ≤ i
  · rw [if_pos c] at h ⊢; rw [List.getElem?_map, h]; rfl
  · rw [if_neg c] at h; cases h
theorem bag_l2 {b : Bag} {rep : Int} {K : Nat} {kj : NetNet → List ApiMessage → Option Bool} (hl : b.length ≤ 1000) (hk : ∀ n come, Inv n rep K [] → (∀ (i : Nat) q, b[i]? = some q → come[i]? = some q.2) → kj n come = some true) : ∀ (j : Nat) (i : Nat) (n : NetNet) (come : List ApiMessage), Inv n rep K (b.drop i) → i ≤ b.length → come.length = b.length → (∀ (k : Nat) q, k < i → b[k]? = some q → come[k]? = some q.2) → b.length - i < j → law22_NetBag_l2 (b.map letterOf) kj j (i : Int) n come = some true
  | 0, i, n, come, h, h1, h2, h3, h4 => by omega
  | j + 1, i, n, come, h, h1, h2, h3, h4 => by
    rw [law22_NetBag_l2]
    by_cases c : i < b.length
    · rw [if_pos (by rw [List.length_map]; omega)]
      obtain ⟨q, e, hq, e2⟩ := geti_at (l := b) (i := (i : Int)) (by omega) (by omega)
      rw [Int.toNat_natCast] at e2
      have hd : b.drop i = q :: b.drop (i + 1) := by
        rw [List.drop_eq_getElem_cons c]
        have := (List.getElem?_eq_some_iff.1 e2).2
        rw [this]
      have hg : mget q.1 (b.drop i) = some q.2 := by rw [hd]; obtain ⟨k, v⟩ := q; simp [mget]
      have hdel : mdel q.1 (b.drop i) = b.drop (i + 1) := by rw [hd]; obtain ⟨k, v⟩ := q; simp [mdel]
      obtain ⟨n', e3, h5⟩ := del_eq h q.1 hg
      rw [hdel] at h5
      have e4 := geti_map' (f := letterOf) e
      obtain ⟨y, e5, _, _⟩ := geti_at (l := come) (i := (i : Int)) (by omega) (by omega)
      rw [e4, Option.bind_some]
      show (net_Net_Deliver n q.1).bind _ = _
      rw [e3, Option.bind_some]
      rw [if_neg (by simp), Option.bind_some, if_neg (by simp [letterOf]), Option.bind_some, if_neg (by simp [letterOf]), Option.bind_some, if_neg (by simp [letterOf]), e5, Option.bind_some, i64_id (p := (i : Int) + 1) (by omega) (by omega), Int.toNat_natCast]
      refine bag_l2 hl hk j (i + 1) n' _ h5 (by omega) (by rw [List.length_set]; exact h2) ?_ (by omega)
      intro k p hk' hp
      rw [List.getElem?_set]
      by_cases ck : i = k
      · subst ck
        rw [if_pos rfl, if_pos (by omega)]
        rw [e2] at hp
        obtain rfl := Option.some.inj hp
        rfl
      · rw [if_neg ck]
        exact h3 k p (by omega) hp
    · rw [if_neg (by rw [List.length_map]; omega)]
      have : b.drop i = [] := List.drop_eq_nil_of_le (by omega)
      rw [this] at h
      exact hk n come h (fun k q hq => h3 k q (by have := (List.getElem?_eq_some_iff.1 hq).1; omega) hq)
theorem bag_l4 {b c : Bag} {come : List ApiMessage} {at' : Int} {q : UInt64 × ApiMessage} {nx : NetNet} {kj : NetNet → Option Bool} (hl : b.length ≤ 1000) (ho : (b.map fun q => q.1.toNat).Pairwise (· < ·)) (hq : q ∈ b) (hcome : ∀ (i : Nat) q, b[i]? = some q → come[i]? = some q.2) (ha : geti (c.map letterOf) at' = some (letterOf q)) (hk : kj nx = some true) : ∀ (j : Nat) (i : Nat), i ≤ b.length → b.length - i < j → law22_NetBag_l4 (b.map letterOf) (c.map letterOf) at' come (q.2, 0, nx) kj j (i : Int) = some true
  | 0, i, h1, h2 => by omega
  | j + 1, i, h1, h2 => by
    rw [law22_NetBag_l4]
    by_cases cc : i < b.length
    · rw [if_pos (by rw [List.length_map]; omega)]
      obtain ⟨p, e, hp, e2⟩ := geti_at (l := b) (i := (i : Int)) (by omega) (by omega)
      rw [Int.toNat_natCast] at e2
      rw [geti_map' (f := letterOf) e, Option.bind_some, ha, Option.bind_some, i64_id (p := (i : Int) + 1) (by omega) (by omega)]
      have ih := bag_l4 hl ho hq hcome ha hk j (i + 1) (by omega) (by omega)
      by_cases cid : ((letterOf p).Id.toNat : Int) = ((letterOf q).Id.toNat : Int)
      · rw [if_pos cid]
        have e3 : p.1 = q.1 := UInt64.toNat.inj (by simp only [letterOf] at cid; omega)
        have e4 : p.2 = q.2 := by
          have g1 := mget_of ho hp
          have g2 := mget_of ho hq
          rw [e3] at g1
          rw [g1] at g2
          exact Option.some.inj g2
        have e5 : geti come (i : Int) = some q.2 := by
          unfold geti
          rw [if_pos (by omega), Int.toNat_natCast, hcome i p e2, e4]
        rw [e5, Option.bind_some, show ref22_Same q.2 q.2 = some true from by simp [ref22_Same], Option.bind_some, if_neg (by simp)]
        exact ih
      · rw [if_neg cid]; exact ih
    · rw [if_neg (by rw [List.length_map]; omega)]
      exact hk
theorem andI_bound (p : Int) : 0 ≤ andI p 65535 ∧ andI p 65535 ≤ 65535 := by
  unfold andI
  have h : (BitVec.ofInt IntKind.i64.bits p &&& BitVec.ofInt IntKind.i64.bits 65535).toNat ≤ 65535 := by
    rw [BitVec.toNat_and]
    exact Nat.le_trans Nat.and_le_right (by decide)
  generalize (BitVec.ofInt IntKind.i64.bits p &&& BitVec.ofInt IntKind.i64.bits 65535).toNat = z at h
  have := i64_id (p := (z : Int)) (by omega) (by omega)
  unfold i64 at this
  rw [this]
  omega
theorem bag_l3 {b : Bag} {rep : Int} {K : Nat} {come : List ApiMessage} {ord : List Int} {J : Nat} {kj : NetNet → Option Bool} (hJ : FU = J) (hFU : 2000000 ≤ J) (hl : b.length ≤ 400) (hK : K ≤ 400) (ho : (b.map fun q => q.1.toNat).Pairwise (· < ·)) (hcome : ∀ (i : Nat) q, b[i]? = some q → come[i]? = some q.2) (hk : ∀ n, Inv n rep K [] → kj n = some true) : ∀ (j : Nat) (i : Nat) (n : NetNet) (c : Bag), Inv n rep K c → (∀ q ∈ c, q ∈ b) → c.length + i ≤ 400 → c.length < j → law22_NetBag_l3 (b.map letterOf) come ord kj j (i : Int) n = some true
  | 0, i, n, c, h, h1, h2, h3 => by omega
  | j + 1, i, n, c, h, h1, h2, h3 => by
    rw [law22_NetBag_l3, jn_eq', count_all h, Option.bind_some]
    cases hc : c with
    | nil =>
      rw [if_neg (by simp)]
      rw [hc] at h
      exact hk n h
    | cons q0 c0 =>
      rw [← hc]
      have hpos : 0 < c.length := by rw [hc]; simp
      rw [if_pos ⟨by omega, by omega⟩, jn_eq', letters_all h (by omega), Option.bind_some, if_neg (by rw [List.length_map]; omega), jn_eq']
      have go : ∀ at' : Int, 0 ≤ at' → at' < (c.length : Int) → (geti (c.map letterOf) at').bind (fun x47 => (net_Net_Deliver n x47.Id).bind fun x48 => if x48.2.1 ≠ 0 then some false else law22_NetBag_l4 (b.map letterOf) (c.map letterOf) at' come x48 (fun (x42 : NetNet) => law22_NetBag_l3 (b.map letterOf) come ord kj j (i64 ((i : Int) + 1)) x42) FU 0) = some true := by
        intro at' a0 a1
        obtain ⟨q, e, hq, e2⟩ := geti_at (l := c) (i := at') a0 a1
        have hg := mget_of h.ord hq
        obtain ⟨n', e3, h5⟩ := del_eq h q.1 hg
        rw [geti_map' (f := letterOf) e, Option.bind_some]
        show (net_Net_Deliver n q.1).bind _ = _
        rw [e3, Option.bind_some, if_neg (by simp), hJ]
        have hlen : (mdel q.1 c).length + 1 = c.length := by have := (mdel_perm hg).length_eq; rw [List.length_cons] at this; omega
        refine bag_l4 (by omega) ho (h1 q hq) hcome (geti_map' (f := letterOf) e) ?_ J 0 (by omega) (by omega)
        rw [i64_id (p := (i : Int) + 1) (by omega) (by omega)]
        exact bag_l3 hJ hFU hl hK ho hcome hk j (i + 1) n' _ h5 (fun p hp => h1 p ((mdel_sub q.1 c).subset hp)) (by omega) (by omega)
      by_cases co : (i : Int) < (ord.length : Int)
      · rw [if_pos co]
        obtain ⟨o, e, _, _⟩ := geti_at (l := ord) (i := (i : Int)) (by omega) co
        rw [e, Option.bind_some, if_pos (by rw [List.length_map]; omega), List.length_map]
        have hb := andI_bound o
        exact go _ (Int.tmod_nonneg _ hb.1) (Int.tmod_lt_of_pos _ (by omega))
      · rw [if_neg co]
        exact go 0 (by omega) (by omega)
theorem NetBag_pure (rep : Int) (l : List Law22Call) (ord : List Int) (hl : l.length ≤ 9223372036854775807) (ho : ∀ x ∈ l, okCall x) : law22_NetBag rep l ord = some true := by
  have hFU : 2000000 ≤ FU := Nat.le_trans (by decide) FU_ge
  obtain ⟨J, hJ⟩ : ∃ J, FU = J := ⟨_, rfl⟩
  rw [hJ] at hFU
  unfold law22_NetBag
  rw [hJ]
  by_cases hr : rep < 1 ∨ 4 < rep
  · simp [new_bad hr, awake_true]
  · obtain ⟨n, e, h⟩ := new_ok (rep := rep) (by omega) (by omega)
    obtain ⟨v, e2, hv⟩ := many_ok hl ho
    simp only [e, Option.bind_some, ne_eq, not_true_eq_false, if_false, e2]
    split
    · simp [awake_true]
    · rename_i hc
      have hc1 : v = false := by cases v <;> simp_all
      have hlen := hv hc1
      rw [jn_eq']
      refine bag_l1 hlen ?_ J 0 n 0 [] h (by omega) (by omega) (by omega) (by omega)
      intro n1 K b h1 hK
      have hs := h1.small
      have hmk : makel 7036874417766 (⟨0, 0, []⟩ : ApiMessage) ((b.map letterOf).length : Int) = some (List.replicate b.length ⟨0, 0, []⟩) := by
        unfold makel
        rw [List.length_map, if_pos (by omega), Int.toNat_natCast]
      show (net_Net_Copy n1).bind _ = _
      rw [copy_all h1, Option.bind_some, letters_all h1 (by omega), Option.bind_some, hmk, Option.bind_some, Option.bind_some, jn_eq']
      refine bag_l2 (by omega) ?_ J 0 n1 _ h1 (by omega) (by simp) (fun k q hk => by omega) (by omega)
      intro n2 come h2 hcome
      show jn _ _ = _
      rw [jn_eq']
      refine bag_l3 hJ hFU (by omega) hK h1.ord hcome ?_ J 0 n1 b h1 (fun q hq => hq) (by omega) (by omega)
      intro n3 h3
      show (net_Net_Send n2 1 2 []).bind _ = _
      by_cases r2 : 2 ≤ rep
      · have hvm : Vm rep ⟨1, 2, []⟩ := ⟨by simp, by simp only; omega, by simp, by simp only; omega, by simp, by simp⟩
        obtain ⟨n4, e4, h4⟩ := put_ok h2 hvm (by simp [cnt]) (by omega)
        obtain ⟨n5, e5, h5⟩ := put_ok h3 hvm (by simp [cnt]) (by omega)
        rw [send_put h2 ⟨by omega, by omega, by omega, by omega, by omega⟩ (by simp), e4, Option.bind_some, send_put h3 ⟨by omega, by omega, by omega, by omega, by omega⟩ (by simp), e5, Option.bind_some, count_all h4, Option.bind_some, count_all h5, Option.bind_some]
        simp [awake_true]
      · rw [send_arg h2 (by omega), Option.bind_some, send_arg h3 (by omega), Option.bind_some, count_all h2, Option.bind_some, count_all h3, Option.bind_some]
        simp [awake_true]
end Go.Proofs
