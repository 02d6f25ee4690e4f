import Derived.Test.YtoeanjoenlghlaaDoorFwMap
set_option linter.unusedSimpArgs false
set_option linter.unusedVariables false
namespace Go.Fw
/-! a walk over a map -/
/-- What of a map's rows has not been handed out. -/
def leftR {α : Type} : List MapEntry → List (UInt64 × α) → Array Nat → List (UInt64 × α)
  | e :: es, x :: r, seen => if seen.contains e.born then leftR es r seen else x :: leftR es r seen
  | _, _, _ => []
theorem leftR_none {α : Type} {s : St} {f : α → D} : ∀ {es : List MapEntry} {r : List (UInt64 × α)}, EntsR s f es r → leftR es r #[] = r
  | [], [], _ => rfl
  | e :: es, x :: r, h => by simp [leftR, leftR_none h.2]
  | [], _ :: _, h => h.elim
  | _ :: _, [], h => h.elim
theorem leftR_nil {α : Type} : ∀ {es : List MapEntry} {r : List (UInt64 × α)} {seen : Array Nat}, (∀ e ∈ es, seen.contains e.born = true) → leftR es r seen = []
  | [], [], _, _ => rfl
  | e :: es, x :: r, seen, h => by rw [leftR, if_pos (h e (by simp))]; exact leftR_nil (fun e' h' => h e' (by simp [h']))
  | [], _ :: _, _, _ => rfl
  | _ :: _, [], _, _ => rfl
theorem leftR_other {α : Type} {seen : Array Nat} {n : Nat} : ∀ {es : List MapEntry} {r : List (UInt64 × α)}, n ∉ es.map (·.born) → leftR es r (seen.push n) = leftR es r seen
  | [], [], _ => rfl
  | e :: es, x :: r, h => by
    have hx : (e.born == n) = false := by
      cases hc : e.born == n with
      | false => rfl
      | true => exact absurd (List.mem_cons.2 (Or.inl (beq_iff_eq.1 hc).symm)) h
    simp only [leftR, contains_push, hx, Bool.or_false, leftR_other (seen := seen) (fun h' => h (List.mem_cons.2 (Or.inr h')))]
  | [], _ :: _, _ => rfl
  | _ :: _, [], _ => rfl
theorem leftR_take {α : Type} {s : St} {f : α → D} {seen : Array Nat} {e : MapEntry} (hs : seen.contains e.born = false) : ∀ {es : List MapEntry} {r : List (UInt64 × α)}, EntsR s f es r → (es.map (·.born)).Nodup → e ∈ es →
    ∃ x, e.key = .int .u64 (x.1.toNat : Int) ∧ R s e.val (f x.2) ∧ (leftR es r seen).Perm (x :: leftR es r (seen.push e.born))
  | [], [], _, _, he => by simp at he
  | e0 :: es, x :: r, h, hn, he => by
    have hn' : e0.born ∉ es.map (·.born) ∧ (es.map (·.born)).Nodup := List.nodup_cons.1 hn
    rcases List.mem_cons.1 he with rfl | he
    · refine ⟨x, h.1.1, h.1.2, ?_⟩
      simp only [leftR, hs, contains_push, beq_self_eq_true, Bool.or_true, if_true, Bool.false_eq_true, if_false, leftR_other hn'.1]
      exact .refl _
    · obtain ⟨y, h1, h2, h3⟩ := leftR_take hs h.2 hn'.2 he
      have hx : (e0.born == e.born) = false := by
        cases hc : e0.born == e.born with
        | false => rfl
        | true => exact absurd (by rw [beq_iff_eq.1 hc]; exact List.mem_map.2 ⟨e, he, rfl⟩) hn'.1
      refine ⟨y, h1, h2, ?_⟩
      simp only [leftR, contains_push, hx, Bool.or_false]
      by_cases hc : seen.contains e0.born = true
      · rw [if_pos hc, if_pos hc]; exact h3
      · rw [if_neg hc, if_neg hc]; exact (List.Perm.cons _ h3).trans (List.Perm.swap _ _ _)
  | [], _ :: _, h, _, _ => h.elim
  | _ :: _, [], h, _, _ => h.elim

/-- A map and one who walks over it: got has been handed out; last: what was handed out last. -/
def RangeO {α : Type} (s : St) (li l : Lab) (f : α → D) (vm : Value) (b : Nat) (r got : List (UInt64 × α)) (last : Option (Value × Value)) : Prop :=
  l.o ≠ 0 ∧ li.o ≠ 0 ∧ ∃ (m : Nat) (es : List MapEntry) (clock : Nat) (seen : Array Nat), vm = .map (some m) ∧ m < s.n ∧ s.g m = l ∧ s.w.heap[m]? = some (.map es.toArray clock) ∧ EntsR s f es r ∧ (es.map (·.born)).Nodup ∧ (∀ e ∈ es, e.born < clock) ∧
    b < s.n ∧ s.g b = li ∧ s.w.heap[b]? = some (.mapIter (some m) clock seen clock) ∧ r.Perm (got ++ leftR es r seen) ∧ (∀ p, last = some p → ∃ e ∈ es, ∃ seen0, seen = Array.push seen0 e.born ∧ e.key = p.1 ∧ e.val = p.2)
theorem RangeO.up {α : Type} {K : Lab → Prop} {s s' : St} {li l : Lab} {f : α → D} {vm : Value} {b : Nat} {r got : List (UInt64 × α)} {last : Option (Value × Value)} (h : RangeO s li l f vm b r got last) (st : Step K s s') (hk : ¬ K l) (hk2 : ¬ K li) : RangeO s' li l f vm b r got last := by
  obtain ⟨h0, h00, m, es, clock, seen, e, hm, hg, hh, he, hn, hc, hb, hgb, hhb, hp, hl⟩ := h
  obtain ⟨k1, k2⟩ := st.keep m hm (by rw [hg]; exact hk)
  obtain ⟨k3, k4⟩ := st.keep b hb (by rw [hgb]; exact hk2)
  exact ⟨h0, h00, m, es, clock, seen, e, Nat.lt_of_lt_of_le hm st.size, k2.trans hg, k1.trans hh, he.up st, hn, hc, Nat.lt_of_lt_of_le hb st.size, k4.trans hgb, k3.trans hhb, hp, hl⟩
theorem RangeO.up2 {α : Type} {K : Lab → Prop} {s s' : St} {li l : Lab} {f : α → D} {vm : Value} {b : Nat} {r got : List (UInt64 × α)} {last : Option (Value × Value)} (h : RangeO s li l f vm b r got last) (st : Step K s s') (hk : ¬ K l := by first | exact id | (simp only [KU, KN, KC, KO, K0, KB] <;> omega)) (hk2 : ¬ K li := by first | exact id | (simp only [KU, KN, KC, KO, K0, KB] <;> omega)) : RangeO s' li l f vm b r got last := h.up st hk hk2
theorem RangeO.map {α : Type} {s : St} {li l : Lab} {f : α → D} {vm : Value} {b : Nat} {r got : List (UInt64 × α)} {last : Option (Value × Value)} (h : RangeO s li l f vm b r got last) : MapO s l f vm (some r) := by
  obtain ⟨h0, h00, m, es, clock, seen, e, hm, hg, hh, he, hn, hc, hb, hgb, hhb, hp, hl⟩ := h
  exact ⟨h0, m, es, clock, e, hm, hg, hh, he, hn, hc⟩

section
variable {P : Program}
/-- 'next' over a map, the iterator's block anywhere. -/
theorem run_next_any (w : World) (ty : TypeId) (bm b c : Nat) (seen : Array Nat) (es : Array MapEntry) (hb : w.heap[bm]? = some (.map es c)) (hi : w.heap[b]? = some (.mapIter (some bm) c seen c)) (hold : ∀ x ∈ es.toList, x.born < c) :
    ((leftOf es seen).size = 0 ∧ (Instr.next (.pointer (some ⟨b, 0, none⟩)) false ty).run P w = .ok (.tuple #[.bool false]) w) ∨
    ∃ e ∈ (leftOf es seen).toList, ∃ w1 : World, (w1.Alike w ∧ w1.tape = w.tape) ∧ (Instr.next (.pointer (some ⟨b, 0, none⟩)) false ty).run P w = .ok (.tuple #[.bool true, e.key, e.val]) { w1 with heap := w1.heap.setIfInBounds b (.mapIter (some bm) c (seen.push e.born) c) } := by
  simp only [Instr.next, getObj, Sem.run_bind, Sem.run, hi, hb, Result.andThen, next_test_false seen es c c hold (Nat.le_refl _), Bool.false_eq_true, if_false]
  unfold leftOf
  have hmem : ∀ x ∈ (Array.filter (fun e => !seen.contains e.born) es).toList, x.born < c := fun x hx => hold x (by simp at hx ⊢; exact hx.1)
  generalize Array.filter (fun e => !seen.contains e.born) es = L at hmem ⊢
  have e1 : L.filter (fun x => decide (x.born < c)) = L := Array.filter_eq_self.2 (fun x hx => by simpa using hmem x (by simpa using hx))
  have e2 : L.filter (fun x => decide (x.born ≥ c)) = #[] := by
    rw [Array.filter_eq_empty_iff]
    intro x hx
    have := hmem x (by simpa using hx)
    simp
    omega
  simp only [e1, e2, Array.append_empty]
  by_cases h0 : L.size = 0
  · left
    have : L = #[] := Array.eq_empty_of_size_eq_zero h0
    subst this
    refine ⟨rfl, ?_⟩
    simp [choose, Sem.run, Question.forced]
  · right
    have hne : L.isEmpty = false := by simp [Array.isEmpty, h0]
    simp only [hne, Bool.false_eq_true, if_false, Array.empty_append, Array.size_map]
    have hch : ∃ (j : Nat) (w1 : World), j < L.size ∧ (w1.Alike w ∧ w1.tape = w.tape) ∧ (choose (Question.mapNext L.size)).run P w = .ok j w1 := by
      by_cases hf : L.size ≤ 1
      · exact ⟨0, w, by omega, ⟨⟨rfl, rfl, rfl⟩, rfl⟩, by simp [choose, Sem.run, Question.forced, hf]⟩
      · exact ⟨_, w.drew, Nat.mod_lt _ (by omega), ⟨⟨rfl, rfl, rfl⟩, rfl⟩, by
          simp only [choose, Sem.run, Question.forced, decide_eq_true_eq, hf, if_false, Question.cut]
          rfl⟩
    obtain ⟨j, w1, hj, hal, hrun⟩ := hch
    refine ⟨L[j], by simp, w1, hal, ?_⟩
    have hset : ∀ (o' : Obj), (setObj b o').run P w1 = .ok () { w1 with heap := w1.heap.setIfInBounds b o' } := fun o' => by
      have hb1 : w1.heap[b]? = some (.mapIter (some bm) c seen c) := by rw [hal.1.1]; exact hi
      simp only [setObj, Sem.run, hb1]
    simp only [hrun, Array.getElem?_map, Array.getElem?_eq_getElem hj, Option.map_some, Sem.run_bind, hset, Result.andThen]
    rfl
theorem run_entry_any (w : World) (bm b c : Nat) (seen : Array Nat) (es : Array MapEntry) (e : MapEntry) (hb : w.heap[bm]? = some (.map es c)) (hi : w.heap[b]? = some (.mapIter (some bm) c (seen.push e.born) c)) (he : e ∈ es.toList) (hn : (es.toList.map (·.born)).Nodup) :
    (Instr.entry (.pointer (some ⟨b, 0, none⟩))).run P w = .ok (.tuple #[e.key, e.val]) w := by
  have hf : es.find? (·.born == e.born) = some e := by rw [← Array.find?_toList]; exact find_born e es.toList hn he
  simp only [Instr.entry, getObj, Sem.run_bind, Sem.run, hi, hb, Result.andThen, Array.back?_push, bne_self_eq_false, Bool.false_eq_true, if_false, hf]
  rfl
end
section
variable {P : Program} {n : Nat} {Df : Md} {ops : Array Oper} {Q : Post} {rest : List Oper} {ρ : Env} {s : St} {w0 : World}
variable {d : Nat} {ty : TypeId} {pos : String} {aft : Array Edge} {x y z : Operand} {tx tyy : TypeId} {α : Type} {f : α → D} {l li : Lab} {vm : Value}
theorem k_range_map {r : List (UInt64 × α)} (hT : ∃ k e, mapT P tx k e) (hx : ev ρ x = some vm) (hm : MapO s l f vm (some r)) (hd : Nat.blt d n = true)
    (hK : ∀ s' b, Step K0 s s' → s.n ≤ b → b < s'.n → RangeO s' ⟨b + 1, 0⟩ l f vm b r [] none → KL P n Df ops Q rest ((d, .pointer (some ⟨b, 0, none⟩)) :: ρ) s'.w) :
    KL P n Df ops Q (⟨some d, .range tx x, ty, pos, aft, none⟩ :: rest) ρ s.w := by
  obtain ⟨k, e, hT⟩ := hT
  have hm' := hm
  obtain ⟨h0, m, es, clock, rfl, hlt, hg, hh, he, hn, hc⟩ := hm
  have st : Step K0 s (s.to (s.w.alloc (.mapIter (some m) clock #[] clock)) ⟨s.n + 1, 0⟩ (Nat.le_refl _)) := St.to_alloc
  obtain ⟨h0, m', es', clock', e', hlt', hg', hh', he', hn', hc'⟩ := hm'.up st id
  injection e' with e'; injection e' with e'; subst e'
  have hsame : (s.w.alloc (.mapIter (some m) clock #[] clock)).heap[m]? = some (.map es.toArray clock) := by rw [heap_alloc_old _ _ hlt]; exact hh
  refine .val rfl rfl hd (v := .pointer (some ⟨s.n, 0, none⟩)) (w' := s.w.alloc (.mapIter (some m) clock #[] clock)) (fun η ha => ?_)
    (hK (s.to _ ⟨s.n + 1, 0⟩ (Nat.le_refl _)) s.n st (Nat.le_refl _) (by show s.n < (s.w.alloc _).heap.size; simp) ⟨h0, by simp, m, es, clock, #[], rfl, hlt', hg', hsame, he.up st, hn, hc, by show s.n < (s.w.alloc _).heap.size; simp, St.to_g_new (Nat.le_refl _), heap_alloc_new _ _, by rw [leftR_none he]; exact .refl _, by simp⟩)
  simp only [execOp, ha.ev hx, Sem.run_bind]
  have := run_range_map (P := P) s.w tx k e m es.toArray clock hT.1 hh
  simp [this]
theorem k_next_map {r got : List (UInt64 × α)} {last : Option (Value × Value)} {b : Nat} (hx : ev ρ x = some (.pointer (some ⟨b, 0, none⟩))) (hm : RangeO s li l f vm b r got last) (hne : li.o ≠ l.o ∨ li.c ≠ l.c) (hd : Nat.blt d n = true)
    (hE : r.Perm got → KL P n Df ops Q rest ((d, .tuple #[.bool false]) :: ρ) s.w)
    (hN : ∀ s' q v, Step (KC li.o li.c) s s' → R s' v (f q.2) → RangeO s' li l f vm b r (got ++ [q]) (some (.int .u64 (q.1.toNat : Int), v)) → KL P n Df ops Q rest ((d, .tuple #[.bool true, .int .u64 (q.1.toNat : Int), v]) :: ρ) s'.w) :
    KL P n Df ops Q (⟨some d, .next x false, ty, pos, aft, none⟩ :: rest) ρ s.w := by
  obtain ⟨h0, h00, m, es, clock, seen, rfl, hm, hg, hh, he, hn, hc, hb, hgb, hhb, hp, hl⟩ := hm
  rcases run_next_any (P := P) s.w ty m b clock seen es.toArray hh hhb (by simpa using hc) with ⟨h1, h2⟩ | ⟨e, h1, w1, h2, h3⟩
  · have hz : leftR es r seen = [] := leftR_nil (fun e he => by have := all_seen es.toArray seen h1 e (by simpa using he); exact this)
    rw [hz, List.append_nil] at hp
    refine .val rfl rfl hd (v := .tuple #[.bool false]) (w' := s.w) (fun η ha => ?_) (hE hp)
    simp only [execOp, ha.ev hx, Sem.run_bind]
    simp [h2]
  · have hme := mem_left h1
    obtain ⟨q, k1, k2, k3⟩ := leftR_take hme.2 he hn (by simpa using hme.1)
    have hmb : m ≠ b := by
      rintro rfl
      rw [hgb] at hg
      subst hg
      rcases hne with h | h <;> exact h rfl
    let s' : St := s.re { w1 with heap := w1.heap.setIfInBounds b (.mapIter (some m) clock (seen.push e.born) clock) }
    have st : Step (KC li.o li.c) s s' := by
      obtain ⟨⟨a1, a2, a3⟩, a4⟩ := h2
      refine ⟨a2, a4, a3, by show s.w.heap.size ≤ (w1.heap.setIfInBounds b _).size; simp [a1], fun c hc' hk => ⟨?_, rfl⟩, fun c hc' => h00 hc'.1.symm⟩
      have hne : b ≠ c := by rintro rfl; exact hk (by rw [hgb]; exact ⟨rfl, rfl⟩)
      show (w1.heap.setIfInBounds b _)[c]? = s.w.heap[c]?
      simp [hne, a1]
    have hh2 : s'.w.heap[m]? = some (.map es.toArray clock) := by
      show (w1.heap.setIfInBounds b _)[m]? = _
      rw [Array.getElem?_setIfInBounds_ne (Ne.symm hmb), h2.1.1]; exact hh
    have hh3 : s'.w.heap[b]? = some (.mapIter (some m) clock (seen.push e.born) clock) := by
      show (w1.heap.setIfInBounds b _)[b]? = _
      have : b < w1.heap.size := by rw [h2.1.1]; exact hb
      simp [this]
    rw [k1] at h3
    refine .val rfl rfl hd (v := .tuple #[.bool true, .int .u64 (q.1.toNat : Int), e.val]) (w' := s'.w) (fun η ha => ?_) (hN s' q e.val st (k2.up st) ⟨h0, h00, m, es, clock, seen.push e.born, rfl, Nat.lt_of_lt_of_le hm st.size, hg, hh2, he.up st, hn, hc, Nat.lt_of_lt_of_le hb st.size, hgb, hh3, hp.trans ?_, ?_⟩)
    · simp only [execOp, ha.ev hx, Sem.run_bind]
      simp [h3, s', St.re]
    · rw [List.append_assoc]; exact (List.Perm.refl _).append k3
    · rintro p hp'
      injection hp' with hp'; subst hp'
      exact ⟨e, by simpa using hme.1, seen, rfl, k1, rfl⟩
theorem k_entry_map {r got : List (UInt64 × α)} {p : Value × Value} {b : Nat} (hx : ev ρ x = some (.pointer (some ⟨b, 0, none⟩))) (hm : RangeO s li l f vm b r got (some p)) (hd : Nat.blt d n = true)
    (hK : KL P n Df ops Q rest ((d, .tuple #[p.1, p.2]) :: ρ) s.w) :
    KL P n Df ops Q (⟨some d, .entry x, ty, pos, aft, none⟩ :: rest) ρ s.w := by
  obtain ⟨h0, h00, m, es, clock, seen, rfl, hm, hg, hh, he, hn, hc, hb, hgb, hhb, hp, hl⟩ := hm
  obtain ⟨e, h1, seen0, rfl, h2, h3⟩ := hl p rfl
  refine .val rfl rfl hd (v := .tuple #[p.1, p.2]) (w' := s.w) (fun η ha => ?_) hK
  have := run_entry_any (P := P) s.w m b clock seen0 es.toArray e hh hhb (by simpa using h1) (by simpa using hn)
  simp only [execOp, ha.ev hx, Sem.run_bind]
  simp [this, h2, h3]
end
end Go.Fw
