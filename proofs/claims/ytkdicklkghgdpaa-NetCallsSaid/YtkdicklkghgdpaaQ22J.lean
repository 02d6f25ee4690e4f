import Derived.Test.YtkdicklkghgdpaaQ22I
import Derived.Test.YtkdicklkghgdpaaQ22C
set_option linter.unusedVariables false
set_option linter.unusedSimpArgs false
namespace Go.Proofs
open Go.Fw
theorem many_l2 {l : List Law22Call} (hl : l.length ≤ 9223372036854775807) (ho : ∀ x ∈ l, okCall x) : ∀ (j : Nat) (n i : Int), 0 ≤ i → i ≤ n → n ≤ 400 → i ≤ l.length → 401 - n < j → law22_many_l1 l (fun _ => some false) j n i = some false → ∀ (k : Nat) x, i ≤ k → l[k]? = some x → x.Bytes.length ≤ 100000
  | 0, n, i, h0, h1, h2, h3, h4 => by omega
  | j + 1, n, i, h0, h1, h2, h3, h4 => by
    rw [law22_many_l1]
    by_cases c : i < (l.length : Int)
    · rw [if_pos c]
      obtain ⟨x, e, hx, e2⟩ := geti_at h0 c
      have hb := ho x hx
      unfold okCall at hb
      rw [e, Option.bind_some]
      have hd0 : 0 ≤ (x.Bytes.length : Int).tdiv 200 := Int.tdiv_nonneg (by omega) (by omega)
      have hd3 : (x.Bytes.length : Int).tdiv 200 = (x.Bytes.length : Int) / 200 := Int.tdiv_eq_ediv_of_nonneg (by omega)
      have hd2 : (x.Bytes.length : Int).tdiv 200 ≤ 9223372036854775807 / 200 := by
        rw [hd3]; omega
      have hd4 : (x.Bytes.length : Int).tdiv 200 ≤ 400 → x.Bytes.length ≤ 100000 := by
        rw [hd3]; omega
      generalize (x.Bytes.length : Int).tdiv 200 = d at hd0 hd2 hd4
      rw [i64_id (p := d) (by omega) (by omega), i64_id (p := 1 + d) (by omega) (by omega), i64_id (p := n + (1 + d)) (by omega) (by omega)]
      by_cases c2 : 400 < n + (1 + d)
      · rw [if_pos c2]; intro h; cases h
      · rw [if_neg c2, i64_id (p := i + 1) (by omega) (by omega)]
        intro hf k y hk hy
        by_cases ck : (k : Int) = i
        · have : k = i.toNat := by omega
          subst this
          rw [e2] at hy
          cases hy
          exact hd4 (by omega)
        · exact many_l2 hl ho j _ _ (by omega) (by omega) (by omega) (by omega) (by omega) hf k y (by omega) hy
    · intro _ k y hk hy
      have := (List.getElem?_eq_some_iff.1 hy).1
      omega
theorem many_small {l : List Law22Call} (hl : l.length ≤ 9223372036854775807) (ho : ∀ x ∈ l, okCall x) (h : law22_many l = some false) : ∀ x ∈ l, x.Bytes.length ≤ 100000 := by
  unfold law22_many at h
  have := ltFU' (j := 401) (by omega)
  intro x hx
  obtain ⟨k, hk, e⟩ := List.getElem_of_mem hx
  exact many_l2 hl ho FU 0 0 (by omega) (by omega) (by omega) (by omega) (by omega) h k x (by omega) (by rw [List.getElem?_eq_getElem hk, e])
theorem call_l1_ok {kj : List UInt8 → Option (Bool × NetNet × Ref22Net)} {r : Option (Bool × NetNet × Ref22Net)} (hk : ∀ l, kj l = r) : ∀ (j : Nat) (i : Int) (l : List UInt8), 0 ≤ i → i ≤ l.length → l.length ≤ 100000 → (l.length : Int) - i < j → law22_call_l1 kj j i l = r
  | 0, i, l, h0, h1, h2, h3 => by omega
  | j + 1, i, l, h0, h1, h2, h3 => by
    rw [law22_call_l1]
    by_cases c : i < (l.length : Int)
    · rw [if_pos c]
      obtain ⟨x, e, _, _⟩ := geti_at h0 c
      rw [e, Option.bind_some, Option.bind_some, i64_id (p := i + 1) (by omega) (by omega)]
      exact call_l1_ok hk j _ _ (by omega) (by rw [List.length_set]; omega) (by rw [List.length_set]; omega) (by rw [List.length_set]; omega)
    · rw [if_neg c]; exact hk l
theorem call_l2_ok {kj : List UInt8 → Option (Bool × NetNet × Ref22Net)} {r : Option (Bool × NetNet × Ref22Net)} (hk : ∀ l, kj l = r) : ∀ (j : Nat) (i : Int) (l : List UInt8), 0 ≤ i → i ≤ l.length → l.length ≤ 100000 → (l.length : Int) - i < j → law22_call_l2 kj j i l = r
  | 0, i, l, h0, h1, h2, h3 => by omega
  | j + 1, i, l, h0, h1, h2, h3 => by
    rw [law22_call_l2]
    by_cases c : i < (l.length : Int)
    · rw [if_pos c]
      obtain ⟨x, e, _, _⟩ := geti_at h0 c
      rw [e, Option.bind_some, Option.bind_some, i64_id (p := i + 1) (by omega) (by omega)]
      exact call_l2_ok hk j _ _ (by omega) (by rw [List.length_set]; omega) (by rw [List.length_set]; omega) (by rw [List.length_set]; omega)
    · rw [if_neg c]; exact hk l
theorem same_self (m : ApiMessage) : ref22_Same m m = some true := by simp [ref22_Same]
theorem call_ok0 {n : NetNet} {m : Ref22Net} {rep : Int} {K : Nat} (h : Rel n m rep K) (hK : K ≤ 900) {x : Law22Call} (hx : x.Bytes.length ≤ 100000) (c0 : x.Do = 0) : ∃ n' m' K', law22_call n m x = some (true, n', m') ∧ Rel n' m' rep K' ∧ K' ≤ K + 1 := by
  have hFU : 2000000 ≤ FU := Nat.le_trans (by decide) FU_ge
  unfold law22_call
  generalize FU = J at hFU ⊢
  rw [jn_eq']
  obtain ⟨i, e, n', m', K', g1, g2, g3, g4⟩ := ref_send h hK x.A x.B x.Bytes
  refine ⟨n', m', K', ?_, g3, g4⟩
  show (if _ then _ else _) = _
  rw [if_pos c0, app_ok _ _ (by rw [List.length_nil]; omega) (by decide), Option.bind_some, List.nil_append, g1, Option.bind_some, jn_eq']
  refine call_l1_ok (fun l => ?_) J 0 x.Bytes (by omega) (by omega) hx (by omega)
  show (ref22_Net_Send m x.A x.B x.Bytes).bind _ = _
  rw [g2]
  simp
theorem call_ok1 {n : NetNet} {m : Ref22Net} {rep : Int} {K : Nat} (h : Rel n m rep K) (hK : K ≤ 900) {x : Law22Call} (hx : x.Bytes.length ≤ 100000) (c0 : ¬x.Do = 0) (c1 : x.Do = 1) : ∃ n' m' K', law22_call n m x = some (true, n', m') ∧ Rel n' m' rep K' ∧ K' ≤ K + 1 := by
  have hFU : 2000000 ≤ FU := Nat.le_trans (by decide) FU_ge
  unfold law22_call
  generalize FU = J at hFU ⊢
  rw [jn_eq']
  obtain ⟨y, e, n', m', g1, g2, g3⟩ := ref_del h hK x.Id
  refine ⟨n', m', K, ?_, g3, by omega⟩
  show (if _ then _ else _) = _
  rw [if_neg c0, if_pos c1, g1, g2]
  simp [same_self]
theorem call_ok2 {n : NetNet} {m : Ref22Net} {rep : Int} {K : Nat} (h : Rel n m rep K) (hK : K ≤ 900) {x : Law22Call} (hx : x.Bytes.length ≤ 100000) (c0 : ¬x.Do = 0) (c1 : ¬x.Do = 1) (c2 : x.Do = 2) : ∃ n' m' K', law22_call n m x = some (true, n', m') ∧ Rel n' m' rep K' ∧ K' ≤ K + 1 := by
  have hFU : 2000000 ≤ FU := Nat.le_trans (by decide) FU_ge
  unfold law22_call
  generalize FU = J at hFU ⊢
  rw [jn_eq']
  obtain ⟨y, e, n', m', g1, g2, g3⟩ := ref_del h hK x.Id
  refine ⟨n', m', K, ?_, g3, by omega⟩
  show (if _ then _ else _) = _
  rw [if_neg c0, if_neg c1, if_pos c2, g2]
  unfold net_Net_Drop
  rw [g1]
  simp
theorem call_ok3 {n : NetNet} {m : Ref22Net} {rep : Int} {K : Nat} (h : Rel n m rep K) (hK : K ≤ 900) {x : Law22Call} (hx : x.Bytes.length ≤ 100000) (c0 : ¬x.Do = 0) (c1 : ¬x.Do = 1) (c2 : ¬x.Do = 2) (c3 : x.Do = 3) : ∃ n' m' K', law22_call n m x = some (true, n', m') ∧ Rel n' m' rep K' ∧ K' ≤ K + 1 := by
  have hFU : 2000000 ≤ FU := Nat.le_trans (by decide) FU_ge
  unfold law22_call
  generalize FU = J at hFU ⊢
  rw [jn_eq']
  obtain ⟨i, e, n', m', K', g1, g2, g3, g4⟩ := ref_dbl h hK x.Id
  refine ⟨n', m', K', ?_, g3, g4⟩
  show (if _ then _ else _) = _
  rw [if_neg c0, if_neg c1, if_neg c2, if_pos c3, g1, g2]
  simp
theorem at_both {n : NetNet} {m : Ref22Net} {rep : Int} {K : Nat} (h : Rel n m rep K) (hK : K ≤ 900) (id : UInt64) : ∃ y e, net_Net_At n id = some (y, e) ∧ ref22_Net_At m id = some (y, e) ∧ y.Bytes.length ≤ 16384 := by
  have e8 := at_eq h.inv id
  have e9 := ref_at h (by omega) id
  cases hg : mget id (bagOf 0 m.All) with
  | none => rw [hg] at e8 e9; exact ⟨_, _, e8, e9, by simp⟩
  | some y => rw [hg] at e8 e9; exact ⟨_, _, e8, e9, (h.inv.msg _ (mget_mem hg)).len⟩
theorem call_last {n : NetNet} {m : Ref22Net} {rep : Int} {K : Nat} (h : Rel n m rep K) (hK : K ≤ 900) (id : UInt64) {J : Nat} (hJ : 200000 < J) : ((net_Net_At n id).bind fun x19 => (ref22_Net_At m id).bind fun x20 => (if x19.2 = x20.2 then (ref22_Same x19.1 x20.1).bind fun x22 => some x22 else some false).bind fun x21 => jn (fun (x24 : (List UInt8)) => some (x21, n, m)) (fun (kj23 : (List UInt8) → Option (Bool × NetNet × Ref22Net)) => law22_call_l2 kj23 J 0 x19.1.Bytes)) = some (true, n, m) := by
  obtain ⟨y, e, e1, e2, hy⟩ := at_both h hK id
  rw [e1, e2, Option.bind_some, Option.bind_some, if_pos rfl, same_self, Option.bind_some, Option.bind_some, jn_eq']
  exact call_l2_ok (fun _ => rfl) J 0 y.Bytes (by omega) (by omega) (by omega) (by omega)
theorem call_ok4 {n : NetNet} {m : Ref22Net} {rep : Int} {K : Nat} (h : Rel n m rep K) (hK : K ≤ 900) {x : Law22Call} (hx : x.Bytes.length ≤ 100000) (c0 : ¬x.Do = 0) (c1 : ¬x.Do = 1) (c2 : ¬x.Do = 2) (c3 : ¬x.Do = 3) : ∃ n' m' K', law22_call n m x = some (true, n', m') ∧ Rel n' m' rep K' ∧ K' ≤ K + 1 := by
  have hFU : 2000000 ≤ FU := Nat.le_trans (by decide) FU_ge
  unfold law22_call
  generalize FU = J at hFU ⊢
  rw [jn_eq']
  refine ⟨n, m, K, ?_, h, by omega⟩
  show (if _ then _ else _) = _
  rw [if_neg c0, if_neg c1, if_neg c2, if_neg c3]
  exact call_last h hK x.Id (by omega)
theorem call_ok {n : NetNet} {m : Ref22Net} {rep : Int} {K : Nat} (h : Rel n m rep K) (hK : K ≤ 900) {x : Law22Call} (hx : x.Bytes.length ≤ 100000) : ∃ n' m' K', law22_call n m x = some (true, n', m') ∧ Rel n' m' rep K' ∧ K' ≤ K + 1 := by
  by_cases c0 : x.Do = 0
  · exact call_ok0 h hK hx c0
  by_cases c1 : x.Do = 1
  · exact call_ok1 h hK hx c0 c1
  by_cases c2 : x.Do = 2
  · exact call_ok2 h hK hx c0 c1 c2
  by_cases c3 : x.Do = 3
  · exact call_ok3 h hK hx c0 c1 c2 c3
  exact call_ok4 h hK hx c0 c1 c2 c3
theorem shows_l1 {n : NetNet} {m : Ref22Net} {rep : Int} {K : Nat} (h : Rel n m rep K) (hK : K ≤ 900) : ∀ (j : Nat) (i : Int), 0 ≤ i → i ≤ (bagOf 0 m.All).length → ((bagOf 0 m.All).length : Int) - i < j → law22_shows_l1 ((bagOf 0 m.All).map letterOf) n ((bagOf 0 m.All).map letterOf) m (fun _ => some true) j i = some true
  | 0, i, h0, h1, h2 => by omega
  | j + 1, i, h0, h1, h2 => by
    rw [law22_shows_l1]
    have hs := h.inv.small
    by_cases c : i < (((bagOf 0 m.All).map letterOf).length : Int)
    · rw [if_pos c]
      rw [List.length_map] at c
      obtain ⟨q, e, hq, e2⟩ := geti_at h0 c
      have e3 : geti ((bagOf 0 m.All).map letterOf) i = some (letterOf q) := by unfold geti at e ⊢; rw [if_pos h0] at e ⊢; rw [List.getElem?_map, e]; rfl
      have hg : mget q.1 (bagOf 0 m.All) = some q.2 := mget_of h.inv.ord hq
      have e4 : net_Net_At n (letterOf q).Id = some (q.2, 0) := by have := at_eq h.inv (letterOf q).Id; rw [show (letterOf q).Id = q.1 from rfl, hg] at this; exact this
      have e5 : ref22_Net_At m (letterOf q).Id = some (q.2, 0) := by have := ref_at h (by omega) (letterOf q).Id; rw [show (letterOf q).Id = q.1 from rfl, hg] at this; exact this
      simp only [e3, Option.bind_some, e4, e5, same_self, and_self, not_true_eq_false, if_false, ne_eq, Bool.not_true, Bool.false_eq_true]
      rw [i64_id (p := i + 1) (by omega) (by omega)]
      exact shows_l1 h hK j _ (by omega) (by omega) (by omega)
    · rw [if_neg c]
theorem shows_ok {n : NetNet} {m : Ref22Net} {rep : Int} {K : Nat} (h : Rel n m rep K) (hK : K ≤ 900) : law22_shows n m = some true := by
  have hFU : 2000000 ≤ FU := Nat.le_trans (by decide) FU_ge
  have hl := h.len
  have hs := h.inv.small
  unfold law22_shows
  generalize FU = J at hFU ⊢
  have e1 : net_Net_Replicas n = some rep := by unfold net_Net_Replicas net_Net_none; simp [h.inv.bag, h.inv.r]
  simp only [letters_all h.inv (by omega), ref_letters (m := m) (by omega), Option.bind_some, ne_eq, not_true_eq_false, if_false, count_all h.inv, List.length_map, e1, h.rep]
  rw [jn_eq']
  exact shows_l1 h hK J 0 (by omega) (by omega) (by omega)
theorem calls_l1 {l : List Law22Call} {rep : Int} {kj : NetNet → Ref22Net → Option Bool} (hl : l.length ≤ 400) (hb : ∀ x ∈ l, x.Bytes.length ≤ 100000) (hk : ∀ n m K, Rel n m rep K → K ≤ 400 → kj n m = some true) : ∀ (j : Nat) (i : Int) (n : NetNet) (m : Ref22Net) (K : Nat), Rel n m rep K → 0 ≤ i → i ≤ l.length → (K : Int) ≤ i → (l.length : Int) - i < j → law22_NetCalls_l1 l kj j i n m = some true
  | 0, i, n, m, K, h, h0, h1, h2, h3 => by omega
  | j + 1, i, n, m, K, h, h0, h1, h2, h3 => by
    rw [law22_NetCalls_l1]
    by_cases c : i < (l.length : Int)
    · rw [if_pos c]
      obtain ⟨x, e, hx, _⟩ := geti_at h0 c
      obtain ⟨n', m', K', g1, g2, g3⟩ := call_ok h (by omega) (hb x hx)
      simp only [e, Option.bind_some, g1, Bool.not_true, Bool.false_eq_true, if_false, shows_ok g2 (by omega)]
      rw [i64_id (p := i + 1) (by omega) (by omega)]
      have := calls_l1 hl hb hk j (i + 1) n' m' K' g2 (by omega) (by omega) (by omega) (by omega)
      split <;> simpa using this
    · rw [if_neg c]; exact hk n m K h (by omega)
theorem calls_l2 {l : List Law22Call} {rep : Int} {kj : NetNet → Int → List Ref22Letter → Option Bool} (hl : l.length ≤ 400) (hb : ∀ x ∈ l, x.Bytes.length ≤ 100000) (hk : ∀ n r a K, Rel n ⟨r, a⟩ rep K → K ≤ 800 → kj n r a = some true) : ∀ (j : Nat) (i : Int) (n : NetNet) (r : Int) (a : List Ref22Letter) (K : Nat), Rel n ⟨r, a⟩ rep K → 0 ≤ i → i ≤ l.length → (K : Int) ≤ 400 + i → (l.length : Int) - i < j → law22_NetCalls_l2 l kj j i n r a = some true
  | 0, i, n, r, a, K, h, h0, h1, h2, h3 => by omega
  | j + 1, i, n, r, a, K, h, h0, h1, h2, h3 => by
    rw [law22_NetCalls_l2]
    by_cases c : i < (l.length : Int)
    · rw [if_pos c]
      obtain ⟨x, e, hx, _⟩ := geti_at h0 c
      obtain ⟨n', m', K', g1, g2, g3⟩ := call_ok h (by omega) (hb x hx)
      simp only [e, Option.bind_some, g1, Bool.not_true, Bool.false_eq_true, if_false]
      rw [i64_id (p := i + 1) (by omega) (by omega)]
      exact calls_l2 hl hb hk j (i + 1) n' m'.Replicas m'.All K' g2 (by omega) (by omega) (by omega) (by omega)
    · rw [if_neg c]; exact hk n r a K h (by omega)
theorem NetCalls_pure (rep : Int) (l more : List Law22Call) (hl : l.length ≤ 9223372036854775807) (ho : ∀ x ∈ l, okCall x) (hm : more.length ≤ 9223372036854775807) (hom : ∀ x ∈ more, okCall x) : law22_NetCalls rep l more = some true := by
  have hFU : 2000000 ≤ FU := Nat.le_trans (by decide) FU_ge
  unfold law22_NetCalls
  generalize hJ : FU = J at hFU ⊢
  by_cases hr : rep < 1 ∨ 4 < rep
  · have e2 : ref22_New rep = some none := by unfold ref22_New; rw [if_pos hr]
    simp [new_bad hr, e2, oc, awake_true]
  · obtain ⟨n, e, h⟩ := new_ok (rep := rep) (by omega) (by omega)
    obtain ⟨v, e3, hv⟩ := many_ok hl ho
    obtain ⟨w, e4, hw⟩ := many_ok hm hom
    have e2 : ref22_New rep = some (some ⟨rep, []⟩) := by unfold ref22_New; rw [if_neg hr]
    simp only [e, e2, Option.bind_some, oc, e3, e4, ne_eq, not_true_eq_false, or_self, if_false]
    cases v with
    | true => simp [awake_true]
    | false =>
      cases w with
      | true => simp [awake_true]
      | false =>
        simp only [Bool.false_eq_true, if_false, Option.bind_some]
        rw [jn_eq']
        refine calls_l1 (hv rfl) (many_small hl ho e3) ?_ J 0 n ⟨rep, []⟩ 0 ⟨h, rfl, rfl⟩ (by omega) (by omega) (by omega) (by have := hv rfl; omega)
        intro n1 m1 K1 h1 hK1
        show (net_Net_Copy n1).bind _ = _
        rw [copy_all h1.inv, Option.bind_some, Option.bind_some, jn_eq']
        refine calls_l2 (hw rfl) (many_small hm hom e4) ?_ J 0 n1 m1.Replicas m1.All K1 h1 (by omega) (by omega) (by omega) (by have := hw rfl; omega)
        intro n2 r2 a2 K2 h2 hK2
        show (law22_shows n1 m1).bind _ = _
        rw [shows_ok h1 (by omega), Option.bind_some, if_pos rfl, shows_ok h2 (by omega)]
        simp [awake_true]
end Go.Proofs
