import Derived.Test.YtkdicklkghgdpaaQ22A
set_option linter.unusedVariables false
set_option linter.unusedSimpArgs false
namespace Go.Proofs
open Go.Fw
abbrev Bag := List (UInt64 × ApiMessage)
def slot (f t : Int) : Nat := (f - 1).toNat * 4 + (t - 1).toNat
def way (f t : Int) (q : UInt64 × ApiMessage) : Bool := decide (q.2.From = f ∧ q.2.To = t)
def cnt (b : Bag) (f t : Int) : Nat := b.countP (way f t)
structure Vm (rep : Int) (m : ApiMessage) : Prop where
  f1 : 1 ≤ m.From
  f2 : m.From ≤ rep
  t1 : 1 ≤ m.To
  t2 : m.To ≤ rep
  ne : m.From ≠ m.To
  len : m.Bytes.length ≤ 16384
structure Inv (n : NetNet) (rep : Int) (K : Nat) (b : Bag) : Prop where
  r : n.replicas = rep
  r1 : 1 ≤ rep
  r4 : rep ≤ 4
  bag : n.bag = some b
  last : n.last.toNat = K
  ord : (b.map fun q => q.1.toNat).Pairwise (· < ·)
  ids : ∀ q ∈ b, 1 ≤ q.1.toNat ∧ q.1.toNat ≤ K
  msg : ∀ q ∈ b, Vm rep q.2
  len : n.between.length = 16
  bet : ∀ f t, 1 ≤ f → f ≤ 4 → 1 ≤ t → t ≤ 4 → n.between[slot f t]? = some (cnt b f t : Int)
  full : ∀ f t, cnt b f t ≤ 32
  small : b.length ≤ K
/-! maps -/
theorem mget_mem {α : Type} {q : UInt64} {y : α} : ∀ {b : List (UInt64 × α)}, mget q b = some y → (q, y) ∈ b
  | [], h => by cases h
  | (k, v) :: r, h => by
    simp only [mget] at h
    by_cases hk : k = q
    · rw [if_pos hk] at h; obtain rfl := Option.some.inj h; subst hk; simp
    · rw [if_neg hk] at h; exact List.mem_cons_of_mem _ (mget_mem h)
theorem mget_none {α : Type} {q : UInt64} : ∀ {b : List (UInt64 × α)}, (∀ p ∈ b, p.1 ≠ q) → mget q b = none
  | [], _ => rfl
  | (k, v) :: r, h => by
    simp only [mget]
    rw [if_neg (h (k, v) (by simp))]
    exact mget_none (fun p hp => h p (by simp [hp]))
theorem mget_of {α : Type} {q : UInt64} {y : α} : ∀ {b : List (UInt64 × α)}, (b.map fun p => p.1.toNat).Pairwise (· < ·) → (q, y) ∈ b → mget q b = some y
  | [], _, h => by cases h
  | (k, v) :: r, ho, h => by
    simp only [List.map_cons, List.pairwise_cons] at ho
    simp only [mget]
    rcases List.mem_cons.1 h with e | h
    · injection e with e1 e2; subst e1; subst e2; simp
    · have h2 := ho.1 q.toNat (List.mem_map.2 ⟨(q, y), h, rfl⟩)
      rw [if_neg (by rintro rfl; omega)]
      exact mget_of ho.2 h
theorem mdel_sub {α : Type} (q : UInt64) : ∀ (b : List (UInt64 × α)), (mdel q b).Sublist b
  | [] => List.Sublist.slnil
  | (k, v) :: r => by
    simp only [mdel]
    by_cases hk : k = q
    · rw [if_pos hk]; exact List.sublist_cons_self _ _
    · rw [if_neg hk]; exact (mdel_sub q r).cons_cons _
theorem mdel_perm {α : Type} {q : UInt64} {y : α} : ∀ {b : List (UInt64 × α)}, mget q b = some y → b.Perm ((q, y) :: mdel q b)
  | [], h => by cases h
  | (k, v) :: r, h => by
    simp only [mget] at h
    simp only [mdel]
    by_cases hk : k = q
    · rw [if_pos hk] at h ⊢; obtain rfl := Option.some.inj h; subst hk; exact .refl _
    · rw [if_neg hk] at h ⊢; exact ((mdel_perm h).cons _).trans (.swap _ _ _)
theorem mdel_not {α : Type} {q : UInt64} : ∀ {b : List (UInt64 × α)}, (b.map fun p => p.1.toNat).Pairwise (· < ·) → ∀ p ∈ mdel q b, p.1 ≠ q
  | [], _, p, h => by cases h
  | (k, v) :: r, ho, p, h => by
    simp only [List.map_cons, List.pairwise_cons] at ho
    simp only [mdel] at h
    by_cases hk : k = q
    · rw [if_pos hk] at h
      have h2 := ho.1 p.1.toNat (List.mem_map.2 ⟨p, h, rfl⟩)
      rintro rfl; subst hk; omega
    · rw [if_neg hk] at h
      rcases List.mem_cons.1 h with rfl | h
      · exact hk
      · exact mdel_not ho.2 p h
theorem cnt_del {b : Bag} {q : UInt64} {y : ApiMessage} (h : mget q b = some y) (f t : Int) : cnt b f t = cnt (mdel q b) f t + (if y.From = f ∧ y.To = t then 1 else 0) := by
  unfold cnt
  rw [(mdel_perm h).countP_eq, List.countP_cons]
  simp [way]
theorem cnt_app (b : Bag) (q : UInt64) (y : ApiMessage) (f t : Int) : cnt (b ++ [(q, y)]) f t = cnt b f t + (if y.From = f ∧ y.To = t then 1 else 0) := by
  unfold cnt
  rw [List.countP_append, List.countP_cons]
  simp [way]
/-! single operations -/
theorem i64_id {p : Int} (h0 : -9223372036854775808 ≤ p) (h1 : p ≤ 9223372036854775807) : i64 p = p := i64_eq h0 h1
theorem room_eq {rep : Int} {m : ApiMessage} (h : Vm rep m) (hr : rep ≤ 4) : net_room m = some (3 + slot m.From m.To) := by
  have h1 := h.f1; have h2 := h.f2; have h3 := h.t1; have h4 := h.t2
  unfold net_room slot
  rw [i64_id (p := m.From - 1) (by omega) (by omega), i64_id (p := m.To - 1) (by omega) (by omega), if_pos (by omega)]
  congr 1
  omega
theorem own_eq {m : ApiMessage} (h : m.Bytes.length ≤ 16384) : net_own m = some m := by
  unfold net_own slices_Clone_byte_byte app
  rw [if_pos (by simp only [List.length_nil]; omega)]
  rfl
theorem slot_lt {f t : Int} (h1 : 1 ≤ f) (h2 : f ≤ 4) (h3 : 1 ≤ t) (h4 : t ≤ 4) : slot f t < 16 := by unfold slot; omega
theorem slot_inj {f t f' t' : Int} (h1 : 1 ≤ f) (h2 : f ≤ 4) (h3 : 1 ≤ t) (h4 : t ≤ 4) (g1 : 1 ≤ f') (g2 : f' ≤ 4) (g3 : 1 ≤ t') (g4 : t' ≤ 4) (e : slot f t = slot f' t') : f = f' ∧ t = t' := by unfold slot at e; omega
theorem Inv.get {n : NetNet} {rep : Int} {K : Nat} {b : Bag} (h : Inv n rep K b) {m : ApiMessage} (hm : Vm rep m) : geti n.between (((3 + slot m.From m.To : Nat) : Int) - ((3 : Nat) : Int)) = some (cnt b m.From m.To : Int) := by
  have h1 := hm.f1; have h2 := hm.f2; have h3 := hm.t1; have h4 := hm.t2; have h5 := h.r4
  have e : (((3 + slot m.From m.To : Nat) : Int) - ((3 : Nat) : Int)) = ((slot m.From m.To : Nat) : Int) := by omega
  rw [e]
  unfold geti
  rw [if_pos (by omega), Int.toNat_natCast]
  exact h.bet _ _ h1 (by omega) h3 (by omega)
theorem at_eq {n : NetNet} {rep : Int} {K : Nat} {b : Bag} (h : Inv n rep K b) (id : UInt64) : net_Net_At n id = match mget id b with | some m => some (m, 0) | none => some (⟨0, 0, []⟩, 4) := by
  unfold net_Net_At net_Net_none
  simp only [h.bag, Option.isNone_some, Option.bind_some, Bool.false_eq_true, if_false]
  cases hg : mget id b with
  | none => simp
  | some m =>
    have := (h.msg _ (mget_mem hg)).len
    simp [own_eq this]
theorem put_full {n : NetNet} {rep : Int} {K : Nat} {b : Bag} (h : Inv n rep K b) {m : ApiMessage} (hm : Vm rep m) (hf : 32 ≤ cnt b m.From m.To) : net_Net_put n m = some (0, 3, n) := by
  unfold net_Net_put
  have hf' : (32 : Int) ≤ (cnt b m.From m.To : Int) := by omega
  simp only [room_eq hm h.r4, Option.bind_some, h.get hm, if_pos hf']
theorem put_ok {n : NetNet} {rep : Int} {K : Nat} {b : Bag} (h : Inv n rep K b) {m : ApiMessage} (hm : Vm rep m) (hf : cnt b m.From m.To < 32) (hK : K < 1000000) :
    ∃ n', net_Net_put n m = some (UInt64.ofNat (K + 1), 0, n') ∧ Inv n' rep (K + 1) (b ++ [(UInt64.ofNat (K + 1), m)]) := by
  have h1 := hm.f1; have h2 := hm.f2; have h3 := hm.t1; have h4 := hm.t2; have h5 := h.r4
  have hf' : ¬ (32 : Int) ≤ (cnt b m.From m.To : Int) := by omega
  have eK : ofI64 ((n.last.toNat : Int) + 1) = UInt64.ofNat (K + 1) := by
    rw [h.last]
    unfold ofI64
    congr 1
    omega
  have eN : (UInt64.ofNat (K + 1)).toNat = K + 1 := by rw [UInt64.toNat_ofNat']; omega
  have hnone : mget (UInt64.ofNat (K + 1)) b = none := mget_none (fun p hp e => by
    have := (h.ids p hp).2
    rw [e, eN] at this; omega)
  have e3 : (((3 + slot m.From m.To : Nat) : Int) - ((3 : Nat) : Int)).toNat = slot m.From m.To := by omega
  have ei : i64 ((cnt b m.From m.To : Int) + 1) = ((cnt b m.From m.To + 1 : Nat) : Int) := by rw [i64_id (by omega) (by omega)]; omega
  refine ⟨⟨n.replicas, UInt64.ofNat (K + 1), some (b ++ [(UInt64.ofNat (K + 1), m)]), n.between.set (slot m.From m.To) ((cnt b m.From m.To + 1 : Nat) : Int)⟩, ?_, ?_⟩
  · unfold net_Net_put
    simp only [room_eq hm h.r4, Option.bind_some, h.get hm, if_neg hf', own_eq hm.len, h.bag, eK, hnone, Option.isNone_none, if_true, e3, ei]
  · refine ⟨h.r, h.r1, h.r4, rfl, eN, ?_, ?_, ?_, ?_, ?_, ?_, ?_⟩
    · rw [List.map_append, List.pairwise_append]
      refine ⟨h.ord, by simp, ?_⟩
      intro x hx y hy
      obtain ⟨p, hp, rfl⟩ := List.mem_map.1 hx
      simp only [List.map_cons, List.map_nil, List.mem_singleton] at hy
      rw [hy, eN]
      have := (h.ids p hp).2
      omega
    · intro q hq
      rcases List.mem_append.1 hq with hq | hq
      · have := h.ids q hq; omega
      · simp only [List.mem_singleton] at hq; subst hq; simp only [eN]; omega
    · intro q hq
      rcases List.mem_append.1 hq with hq | hq
      · exact h.msg q hq
      · simp only [List.mem_singleton] at hq; subst hq; exact hm
    · rw [List.length_set]; exact h.len
    · intro f t g1 g2 g3 g4
      rw [cnt_app, List.getElem?_set]
      by_cases e : slot m.From m.To = slot f t
      · obtain ⟨e1, e2⟩ := slot_inj h1 (by omega) h3 (by omega) g1 g2 g3 g4 e
        rw [if_pos e, if_pos (by rw [h.len]; exact slot_lt h1 (by omega) h3 (by omega)), if_pos ⟨e1, e2⟩, e1, e2]
      · rw [if_neg e, if_neg (by rintro ⟨rfl, rfl⟩; exact e rfl), Nat.add_zero]
        exact h.bet f t g1 g2 g3 g4
    · intro f t
      rw [cnt_app]
      have := h.full f t
      by_cases e : m.From = f ∧ m.To = t
      · rw [if_pos e, ← e.1, ← e.2]; omega
      · rw [if_neg e]; omega
    · rw [List.length_append]; have := h.small; simp only [List.length_cons, List.length_nil]; omega
theorem del_eq {n : NetNet} {rep : Int} {K : Nat} {b : Bag} (h : Inv n rep K b) (id : UInt64) {m : ApiMessage} (hg : mget id b = some m) :
    ∃ n', net_Net_Deliver n id = some (m, 0, n') ∧ Inv n' rep K (mdel id b) := by
  have hm := h.msg _ (mget_mem hg)
  have h1 := hm.f1; have h2 := hm.f2; have h3 := hm.t1; have h4 := hm.t2; have h5 := h.r4
  simp only at h1 h2 h3 h4 hm
  have hc := cnt_del hg m.From m.To
  rw [if_pos ⟨rfl, rfl⟩] at hc
  have hfull := h.full m.From m.To
  have e3 : (((3 + slot m.From m.To : Nat) : Int) - ((3 : Nat) : Int)).toNat = slot m.From m.To := by omega
  have ei : i64 ((cnt b m.From m.To : Int) - 1) = ((cnt (mdel id b) m.From m.To : Nat) : Int) := by rw [i64_id (by omega) (by omega)]; omega
  have hsub := mdel_sub id b
  refine ⟨⟨n.replicas, n.last, some (mdel id b), n.between.set (slot m.From m.To) ((cnt (mdel id b) m.From m.To : Nat) : Int)⟩, ?_, ?_⟩
  · unfold net_Net_Deliver
    simp only [at_eq h, hg, Option.bind_some, if_true, room_eq hm h.r4, h.get hm, h.bag, e3, ei]
  · refine ⟨h.r, h.r1, h.r4, rfl, h.last, h.ord.sublist (hsub.map _), fun q hq => h.ids q (hsub.subset hq), fun q hq => h.msg q (hsub.subset hq), by rw [List.length_set]; exact h.len, ?_, ?_, Nat.le_trans hsub.length_le h.small⟩
    · intro f t g1 g2 g3 g4
      rw [List.getElem?_set]
      have hc2 := cnt_del hg f t
      by_cases e : slot m.From m.To = slot f t
      · obtain ⟨e1, e2⟩ := slot_inj h1 (by omega) h3 (by omega) g1 g2 g3 g4 e
        rw [if_pos e, if_pos (by rw [h.len]; exact slot_lt h1 (by omega) h3 (by omega)), e1, e2]
      · rw [if_neg e, h.bet f t g1 g2 g3 g4, hc2, if_neg (by rintro ⟨rfl, rfl⟩; exact e rfl), Nat.add_zero]
    · intro f t
      have := cnt_del hg f t
      have := h.full f t
      omega
theorem del_none {n : NetNet} {rep : Int} {K : Nat} {b : Bag} (h : Inv n rep K b) (id : UInt64) (hg : mget id b = none) : net_Net_Deliver n id = some (⟨0, 0, []⟩, 4, n) := by
  unfold net_Net_Deliver
  simp [at_eq h, hg]
theorem send_arg {n : NetNet} {rep : Int} {K : Nat} {b : Bag} (h : Inv n rep K b) {f t : Int} {l : List UInt8} (hb : ¬ (1 ≤ f ∧ f ≤ rep ∧ 1 ≤ t ∧ t ≤ rep ∧ f ≠ t)) : net_Net_Send n f t l = some (0, 1, n) := by
  unfold net_Net_Send net_Net_Replicas net_Net_none
  simp only [h.bag, Option.isNone_some, Option.bind_some, Bool.false_eq_true, if_false, h.r]
  by_cases c : min f t < 1
  · simp [c]
  · by_cases c2 : rep < max f t
    · simp [c, c2]
    · have : f = t := by
        apply Classical.byContradiction
        intro hne
        exact hb (by omega)
      rw [if_neg c]
      simp [c2, this]
theorem send_long {n : NetNet} {rep : Int} {K : Nat} {b : Bag} (h : Inv n rep K b) {f t : Int} {l : List UInt8} (hb : 1 ≤ f ∧ f ≤ rep ∧ 1 ≤ t ∧ t ≤ rep ∧ f ≠ t) (hl : 16384 < l.length) : net_Net_Send n f t l = some (0, 6, n) := by
  unfold net_Net_Send net_Net_Replicas net_Net_none
  simp only [h.bag, Option.isNone_some, Option.bind_some, Bool.false_eq_true, if_false, h.r]
  have c : ¬ min f t < 1 := by omega
  have c2 : ¬ rep < max f t := by omega
  have c3 : (16384 : Int) < (l.length : Int) := by omega
  simp [c, c2, c3, hb.2.2.2.2]
theorem send_put {n : NetNet} {rep : Int} {K : Nat} {b : Bag} (h : Inv n rep K b) {f t : Int} {l : List UInt8} (hb : 1 ≤ f ∧ f ≤ rep ∧ 1 ≤ t ∧ t ≤ rep ∧ f ≠ t) (hl : l.length ≤ 16384) : net_Net_Send n f t l = net_Net_put n ⟨f, t, l⟩ := by
  unfold net_Net_Send net_Net_Replicas net_Net_none
  simp only [h.bag, Option.isNone_some, Option.bind_some, Bool.false_eq_true, if_false, h.r]
  have c : ¬ min f t < 1 := by omega
  have c2 : ¬ rep < max f t := by omega
  have c3 : ¬ (16384 : Int) < (l.length : Int) := by omega
  simp only [c, if_false, Option.bind_some, c2, decide_false, Bool.false_eq_true, hb.2.2.2.2, or_self, c3]
  cases net_Net_put n ⟨f, t, l⟩ <;> rfl
theorem dbl_none {n : NetNet} {rep : Int} {K : Nat} {b : Bag} (h : Inv n rep K b) (id : UInt64) (hg : mget id b = none) : net_Net_Double n id = some (0, 4, n) := by
  unfold net_Net_Double
  simp [at_eq h, hg]
theorem dbl_put {n : NetNet} {rep : Int} {K : Nat} {b : Bag} (h : Inv n rep K b) (id : UInt64) {m : ApiMessage} (hg : mget id b = some m) : net_Net_Double n id = net_Net_put n m := by
  unfold net_Net_Double
  simp only [at_eq h, hg, Option.bind_some, ne_eq, not_true_eq_false, if_false]
  cases net_Net_put n m <;> rfl
theorem letters_all {n : NetNet} {rep : Int} {K : Nat} {b : Bag} (h : Inv n rep K b) (hK : K ≤ 1000000) : net_Net_Letters n = some (b.map letterOf) := by
  unfold net_Net_Letters
  rw [h.bag]
  have := h.small
  simp only [Option.isNone_some, Bool.false_eq_true, if_false, Option.bind_some, if_pos (And.intro (show b.length ≤ 1000000 by omega) h.ord)]
theorem count_all {n : NetNet} {rep : Int} {K : Nat} {b : Bag} (h : Inv n rep K b) : net_Net_Count n = some (b.length : Int) := by
  unfold net_Net_Count net_Net_none
  simp [h.bag]
theorem copy_all {n : NetNet} {rep : Int} {K : Nat} {b : Bag} (h : Inv n rep K b) : net_Net_Copy n = some (some n) := by
  unfold net_Net_Copy net_Net_none
  obtain ⟨r, l, bg, bt⟩ := n
  have := h.bag
  simp only at this
  subst this
  simp
theorem new_ok {rep : Int} (h1 : 1 ≤ rep) (h4 : rep ≤ 4) : ∃ n, net_New rep = some (some n, 0) ∧ Inv n rep 0 [] := by
  refine ⟨⟨rep, 0, some [], List.replicate 16 0⟩, ?_, rfl, h1, h4, rfl, rfl, by simp, by simp, by simp, by simp, ?_, by simp [cnt], by simp⟩
  · unfold net_New
    rw [if_neg (by omega)]
  · intro f t g1 g2 g3 g4
    have := slot_lt g1 g2 g3 g4
    show (List.replicate 16 (0 : Int))[slot f t]? = _
    rw [List.getElem?_replicate, if_pos this]
    rfl
theorem new_bad {rep : Int} (h : rep < 1 ∨ 4 < rep) : net_New rep = some (none, 1) := by
  unfold net_New
  rw [if_pos h]
end Go.Proofs
