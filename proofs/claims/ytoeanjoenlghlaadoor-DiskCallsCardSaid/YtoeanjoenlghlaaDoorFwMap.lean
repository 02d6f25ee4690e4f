import Derived.Test.YtoeanjoenlghlaaDoorFwS
import Derived.MapKept
import Derived.Laws.IdiomRangeMap
set_option linter.unusedSimpArgs false
set_option linter.unusedVariables false
namespace Go.Fw
/-! maps from numbers of 64 bits -/
def mget {α : Type} (q : UInt64) : List (UInt64 × α) → Option α
  | [] => none
  | (k, v) :: r => if k = q then some v else mget q r
def mdel {α : Type} (q : UInt64) : List (UInt64 × α) → List (UInt64 × α)
  | [] => []
  | (k, v) :: r => if k = q then r else (k, v) :: mdel q r
def EntsR {α : Type} (s : St) (f : α → D) : List MapEntry → List (UInt64 × α) → Prop
  | [], [] => True
  | e :: es, x :: r => (e.key = .int .u64 (x.1.toNat : Int) ∧ R s e.val (f x.2)) ∧ EntsR s f es r
  | _, _ => False
theorem EntsR.up {α : Type} {K : Lab → Prop} {s s' : St} {f : α → D} (st : Step K s s') : ∀ {es : List MapEntry} {r : List (UInt64 × α)}, EntsR s f es r → EntsR s' f es r
  | [], [], h => h
  | e :: es, x :: r, h => ⟨⟨h.1.1, h.1.2.up st⟩, EntsR.up st h.2⟩
  | [], _ :: _, h => h.elim
  | _ :: _, [], h => h.elim
theorem EntsR.len {α : Type} {s : St} {f : α → D} : ∀ {es : List MapEntry} {r : List (UInt64 × α)}, EntsR s f es r → es.length = r.length
  | [], [], _ => rfl
  | e :: es, x :: r, h => by simp [EntsR.len h.2]
  | [], _ :: _, h => h.elim
  | _ :: _, [], h => h.elim
theorem EntsR.append {α : Type} {s : St} {f : α → D} {e : MapEntry} {x : UInt64 × α} (hx : e.key = .int .u64 (x.1.toNat : Int) ∧ R s e.val (f x.2)) : ∀ {es : List MapEntry} {r : List (UInt64 × α)}, EntsR s f es r → EntsR s f (es ++ [e]) (r ++ [x])
  | [], [], _ => ⟨hx, trivial⟩
  | _ :: es, _ :: r, h => ⟨h.1, EntsR.append hx h.2⟩
  | [], _ :: _, h => h.elim
  | _ :: _, [], h => h.elim
/-- Where a key stands. -/
theorem find_some {α : Type} {s : St} {f : α → D} {q : UInt64} {y : α} : ∀ {es : List MapEntry} {r : List (UInt64 × α)} (i : Nat), EntsR s f es r → mget q r = some y →
    ∃ j v, Instr.findNow (.int .u64) (.int .u64 (q.toNat : Int)) es i = some (some (i + j, v)) ∧ R s v (f y) ∧ j < es.length ∧ EntsR s f (es.eraseIdx j) (mdel q r)
  | [], [], i, _, h => by cases h
  | e :: es, x :: r, i, h, hg => by
    obtain ⟨⟨h1, h2⟩, h3⟩ := h
    simp only [mget] at hg
    by_cases hk : x.1 = q
    · rw [if_pos hk] at hg
      refine ⟨0, e.val, ?_, ?_, by simp, ?_⟩
      · simp [Instr.findNow, h1, Instr.sameNow, hk]
      · rw [← Option.some.inj hg]; exact h2
      · simp only [mdel, List.eraseIdx_cons_zero]
        rw [if_pos hk]; exact h3
    · rw [if_neg hk] at hg
      obtain ⟨j, v, g1, g2, g3, g4⟩ := find_some (i + 1) h3 hg
      refine ⟨j + 1, v, ?_, g2, by simp; omega, ?_⟩
      · have hne : ((q.toNat : Int) == (x.1.toNat : Int)) = false := beq_eq_false_iff_ne.2 (fun e => hk (UInt64.toNat.inj (by omega)))
        simp only [Instr.findNow, h1, Instr.sameNow, if_true, hne]
        rw [g1, Nat.add_assoc, Nat.add_comm 1]
      · simp only [mdel, List.eraseIdx_cons_succ]
        rw [if_neg hk]; exact ⟨⟨h1, h2⟩, g4⟩
  | [], _ :: _, _, h, _ => h.elim
  | _ :: _, [], _, h, _ => h.elim
theorem find_none {α : Type} {s : St} {f : α → D} {q : UInt64} : ∀ {es : List MapEntry} {r : List (UInt64 × α)} (i : Nat), EntsR s f es r → mget q r = none →
    Instr.findNow (.int .u64) (.int .u64 (q.toNat : Int)) es i = some none
  | [], [], i, _, _ => rfl
  | e :: es, x :: r, i, h, hg => by
    obtain ⟨⟨h1, h2⟩, h3⟩ := h
    simp only [mget] at hg
    by_cases hk : x.1 = q
    · rw [if_pos hk] at hg; cases hg
    · rw [if_neg hk] at hg
      have hne : ((q.toNat : Int) == (x.1.toNat : Int)) = false := beq_eq_false_iff_ne.2 (fun e => hk (UInt64.toNat.inj (by omega)))
      simp only [Instr.findNow, h1, Instr.sameNow, if_true, hne, find_none (i + 1) h3 hg]
  | [], _ :: _, _, h, _ => h.elim
  | _ :: _, [], _, h, _ => h.elim
/-- A map in memory, with its entries in the order in which they came. -/
def MapO {α : Type} (s : St) (l : Lab) (f : α → D) (v : Value) : Option (List (UInt64 × α)) → Prop
  | none => v = .map none
  | some r => l.o ≠ 0 ∧ ∃ (m : Nat) (es : List MapEntry) (clock : Nat), v = .map (some m) ∧ m < s.n ∧ s.g m = l ∧ s.w.heap[m]? = some (.map es.toArray clock) ∧ EntsR s f es r ∧ (es.map (·.born)).Nodup ∧ ∀ e ∈ es, e.born < clock
theorem MapO.up {α : Type} {K : Lab → Prop} {s s' : St} {l : Lab} {f : α → D} {v : Value} {b : Option (List (UInt64 × α))} (h : MapO s l f v b) (st : Step K s s') (hk : ¬ K l) : MapO s' l f v b := by
  cases b with
  | none => exact h
  | some r =>
    obtain ⟨h0, m, es, clock, e, hm, hg, hh, he, hn, hc⟩ := h
    obtain ⟨k1, k2⟩ := st.keep m hm (by rw [hg]; exact hk)
    exact ⟨h0, m, es, clock, e, Nat.lt_of_lt_of_le hm st.size, k2.trans hg, k1.trans hh, he.up st, hn, hc⟩
theorem MapO.one1 {α : Type} {s : St} {l : Lab} {f : α → D} {v : Value} {b : Option (List (UInt64 × α))} (h : MapO s l f v b) : v.oneCell' = true ∧ v.cells.toList = [v] := by
  cases b with
  | none => obtain rfl : v = .map none := h; exact ⟨rfl, rfl⟩
  | some r => obtain ⟨_, m, _, _, rfl, _⟩ := h; exact ⟨rfl, rfl⟩

def mapT (P : Program) (t k e : TypeId) : Prop := P.underlying t = some (.map k e) ∧ P.underlying k = some (.int .u64)

/-- Another object at a place: the step. -/
theorem setObj_step {s : St} {m : Nat} {l : Lab} {o : Obj} (hm : m < s.n) (hg : s.g m = l) (h0 : l.o ≠ 0) : Step (KC l.o l.c) s (s.re { s.w with heap := s.w.heap.setIfInBounds m o }) ∧ (s.re { s.w with heap := s.w.heap.setIfInBounds m o }).w.heap[m]? = some o := by
  refine ⟨⟨rfl, rfl, rfl, by show s.w.heap.size ≤ (s.w.heap.setIfInBounds m o).size; simp, fun b hb hk => ⟨?_, rfl⟩, fun c hc => h0 hc.1.symm⟩, ?_⟩
  · have hne : m ≠ b := by rintro rfl; exact hk (by rw [hg]; exact ⟨rfl, rfl⟩)
    show (s.w.heap.setIfInBounds m o)[b]? = s.w.heap[b]?
    simp [hne]
  · show (s.w.heap.setIfInBounds m o)[m]? = some o
    have : m < s.w.heap.size := hm
    simp [this]

section
variable {P : Program} {n : Nat} {Df : Md} {ops : Array Oper} {Q : Post} {rest : List Oper} {ρ : Env} {s : St} {w0 : World}
variable {d : Nat} {ty : TypeId} {pos : String} {aft : Array Edge} {x y z : Operand} {tx tyy : TypeId} {α : Type} {f : α → D} {l : Lab} {vm : Value}

theorem k_makeMap (hd : Nat.blt d n = true)
    (hK : ∀ s' v b, Step K0 s s' → s.n ≤ b → b < s'.n → MapO s' ⟨b + 1, 0⟩ f v (some []) → KL P n Df ops Q rest ((d, v) :: ρ) s'.w) :
    KL P n Df ops Q (⟨some d, .makeMap tx none, ty, pos, aft, none⟩ :: rest) ρ s.w := by
  have st : Step K0 s (s.to (s.w.alloc (.map #[] 0)) ⟨s.n + 1, 0⟩ (Nat.le_refl _)) := St.to_alloc
  refine .val rfl rfl hd (v := .map (some s.n)) (w' := s.w.alloc (.map #[] 0)) (fun η ha => ?_)
    (hK (s.to _ ⟨s.n + 1, 0⟩ (Nat.le_refl _)) _ s.n st (Nat.le_refl _) (by show s.n < (s.w.alloc _).heap.size; simp) ⟨by simp, s.n, [], 0, rfl, by show s.n < (s.w.alloc _).heap.size; simp, St.to_g_new (Nat.le_refl _), heap_alloc_new _ _, trivial, by simp, by simp⟩)
  simp [execOp, Instr.makeMap, newObj, Sem.run]
theorem run_lookup {t k e : TypeId} {b : List (UInt64 × α)} {q : UInt64} {zv : Value} {df : α} (hT : mapT P t k e) (hz : zeroT P e = some zv) (hzr : R s zv (f df)) (hm : MapO s l f vm (some b)) : ∃ v, R s v (f ((mget q b).getD df)) ∧ (Instr.lookup t vm (.int .u64 (q.toNat : Int)) true).run P s.w = .ok (.tuple #[v, .bool (mget q b).isSome]) s.w := by
  obtain ⟨h0, m, es, clock, rfl, hlt, hg, hh, he, hn, hc⟩ := hm
  have hck : ∀ emp, (Instr.checkKey emp 10000 k (.int .u64 (q.toNat : Int))).run P s.w = .ok () s.w := fun emp => MapKept.run_checkKey hT.2 (by simp [MapKept.IsKey]) emp 9999
  cases hq : mget q b with
  | none =>
    have hf := find_none 0 he hq
    refine ⟨zv, hzr, ?_⟩
    simp [Instr.lookup, run_underlying hT.1, MapKept.run_getObj_map hh, hck, MapKept.run_findKey hT.2 hf, run_zeroValue hz]
  | some y =>
    obtain ⟨j, v, hf, hr, _, _⟩ := find_some 0 he hq
    refine ⟨v, hr, ?_⟩
    simp [Instr.lookup, run_underlying hT.1, MapKept.run_getObj_map hh, hck, MapKept.run_findKey hT.2 hf]
theorem k_lookup {k e : TypeId} {b : List (UInt64 × α)} {q : UInt64} {zv : Value} {df : α} (hT : mapT P tx k e) (hz : zeroT P e = some zv) (hzr : R s zv (f df)) (hx : ev ρ x = some vm) (hy : ev ρ y = some (.int .u64 (q.toNat : Int))) (hm : MapO s l f vm (some b)) (hd : Nat.blt d n = true)
    (hK : ∀ v, R s v (f ((mget q b).getD df)) → KL P n Df ops Q rest ((d, .tuple #[v, .bool (mget q b).isSome]) :: ρ) s.w) :
    KL P n Df ops Q (⟨some d, .lookup tx x y true, ty, pos, aft, none⟩ :: rest) ρ s.w := by
  obtain ⟨v, hr, hrun⟩ := run_lookup (q := q) hT hz hzr hm
  refine .val rfl rfl hd (v := .tuple #[v, .bool (mget q b).isSome]) (w' := s.w) (fun η ha => ?_) (hK v hr)
  simp [execOp, ha.ev hx, ha.ev hy, hrun]
theorem mapUpdate_new {t k e : TypeId} {b : List (UInt64 × α)} {q : UInt64} {v : Value} {y : α} (hT : mapT P t k e) (hm : MapO s l f vm (some b)) (hq : mget q b = none) (hv : R s v (f y)) :
    ∃ s', Step (KC l.o l.c) s s' ∧ MapO s' l f vm (some (b ++ [(q, y)])) ∧ (Instr.mapUpdate t vm (.int .u64 (q.toNat : Int)) v).run P s.w = .ok () s'.w := by
  obtain ⟨h0, m, es, clock, rfl, hlt, hg, hh, he, hn, hc⟩ := hm
  have hck : ∀ emp, (Instr.checkKey emp 10000 k (.int .u64 (q.toNat : Int))).run P s.w = .ok () s.w := fun emp => MapKept.run_checkKey hT.2 (by simp [MapKept.IsKey]) emp 9999
  have hf := find_none 0 he hq
  obtain ⟨st, hh'⟩ := setObj_step (o := .map (es ++ [({ key := .int .u64 (q.toNat : Int), val := v, born := clock } : MapEntry)]).toArray (clock + 1)) hlt hg h0
  refine ⟨_, st, ⟨h0, m, _, _, rfl, Nat.lt_of_lt_of_le hlt st.size, hg, hh', (EntsR.append ⟨rfl, hv⟩ he).up st, ?_, ?_⟩, ?_⟩
  · rw [List.map_append, List.nodup_append]
    refine ⟨hn, by simp, ?_⟩
    intro a ha b' hb'
    obtain ⟨e', he', rfl⟩ := List.mem_map.1 ha
    have := hc e' he'
    simp at hb'
    omega
  · intro e' he'
    rcases List.mem_append.1 he' with h | h
    · have := hc e' h; omega
    · simp at h; subst h; simp
  · simp [Instr.mapUpdate, run_underlying hT.1, MapKept.run_getObj_map hh, hck, MapKept.run_findKey hT.2 hf, MapKept.run_setObj_map _ hh, St.re]
theorem delete_some {t k e : TypeId} {b : List (UInt64 × α)} {q : UInt64} {y : α} (hT : mapT P t k e) (hm : MapO s l f vm (some b)) (hq : mget q b = some y) :
    ∃ s', Step (KC l.o l.c) s s' ∧ MapO s' l f vm (some (mdel q b)) ∧ (Builtin.delete_ #[t, k] ty #[vm, .int .u64 (q.toNat : Int)]).run P s.w = .ok (.tuple #[]) s'.w := by
  obtain ⟨h0, m, es, clock, rfl, hlt, hg, hh, he, hn, hc⟩ := hm
  have hck : ∀ emp, (Instr.checkKey emp 10000 k (.int .u64 (q.toNat : Int))).run P s.w = .ok () s.w := fun emp => MapKept.run_checkKey hT.2 (by simp [MapKept.IsKey]) emp 9999
  obtain ⟨j, v, hf, hr, hj, hd⟩ := find_some 0 he hq
  obtain ⟨st, hh'⟩ := setObj_step (o := .map (es.eraseIdx j).toArray clock) hlt hg h0
  refine ⟨_, st, ⟨h0, m, _, _, rfl, Nat.lt_of_lt_of_le hlt st.size, hg, hh', hd.up st, ?_, fun e' he' => hc e' (List.mem_of_mem_eraseIdx he')⟩, ?_⟩
  · exact List.Nodup.sublist ((List.eraseIdx_sublist _ _).map _) hn
  · rw [Nat.zero_add] at hf
    have e1 : es.toArray.eraseIdxIfInBounds j = (es.eraseIdx j).toArray := by simp [Array.eraseIdxIfInBounds, hj]
    simp [Builtin.delete_, run_underlying hT.1, MapKept.run_getObj_map hh, hck, MapKept.run_findKey hT.2 hf, MapKept.run_setObj_map _ hh, St.re, e1]
theorem k_mapUpdate {k e : TypeId} {b : List (UInt64 × α)} {q : UInt64} {v : Value} {y' : α} (hT : mapT P tx k e) (hx : ev ρ x = some vm) (hy : ev ρ y = some (.int .u64 (q.toNat : Int))) (hz : ev ρ z = some v) (hm : MapO s l f vm (some b)) (hq : mget q b = none) (hv : R s v (f y'))
    (hK : ∀ s', Step (KC l.o l.c) s s' → MapO s' l f vm (some (b ++ [(q, y')])) → KL P n Df ops Q rest ρ s'.w) :
    KL P n Df ops Q (⟨none, .mapUpdate tx x y z, ty, pos, aft, none⟩ :: rest) ρ s.w := by
  obtain ⟨s', st, hm', hrun⟩ := mapUpdate_new (q := q) hT hm hq hv
  refine .eff rfl rfl (fun η ha => ?_) (hK s' st hm')
  simp [execOp, ha.ev hx, ha.ev hy, ha.ev hz, hrun]
theorem k_delete {k e : TypeId} {b : List (UInt64 × α)} {q : UInt64} {y' : α} (hT : mapT P tx k e) (hx : ev ρ x = some vm) (hy : ev ρ y = some (.int .u64 (q.toNat : Int))) (hm : MapO s l f vm (some b)) (hq : mget q b = some y')
    (hK : ∀ s', Step (KC l.o l.c) s s' → MapO s' l f vm (some (mdel q b)) → KL P n Df ops Q rest ρ s'.w) :
    KL P n Df ops Q (⟨none, .call { callee := .builtin .delete, args := #[x, y], argTypes := #[tx, k] }, ty, pos, aft, none⟩ :: rest) ρ s.w := by
  obtain ⟨s', st, hm', hrun⟩ := delete_some (q := q) (ty := ty) hT hm hq
  refine .effv rfl rfl (v := .tuple #[]) (w' := s'.w) (fun η ha => ?_) (hK s' st hm')
  simp [execOp, resolve, invoke, builtin, ha.ev hx, ha.ev hy, hrun]
theorem k_len_map {k e : TypeId} {b : List (UInt64 × α)} (hT : mapT P tx k e) (hx : ev ρ x = some vm) (hm : MapO s l f vm (some b)) (hd : Nat.blt d n = true)
    (hK : KL P n Df ops Q rest ((d, .int .i64 (b.length : Int)) :: ρ) s.w) :
    KL P n Df ops Q (⟨some d, .call { callee := .builtin .len, args := #[x], argTypes := #[tx] }, ty, pos, aft, none⟩ :: rest) ρ s.w := by
  obtain ⟨h0, m, es, clock, rfl, hlt, hg, hh, he, hn, hc⟩ := hm
  have hl := he.len
  refine .val rfl rfl hd (v := .int .i64 (b.length : Int)) (w' := s.w) (fun η ha => ?_) hK
  simp [execOp, resolve, invoke, builtin, ha.ev hx, Builtin.len_, Builtin.lenOf, run_underlying hT.1, MapKept.run_getObj_map hh, goInt, hl]
theorem run_eql_map_nil {t k e : TypeId} (ht : P.underlying t = some (.map k e)) (a : Option Nat) (w : World) (j : Nat) : (Op.equalIn (j + 1) t (.map a) (.map none)).run P w = .ok a.isNone w := by
  unfold Op.equalIn
  cases a <;> simp [run_underlying ht]
theorem k_eql_nilmap {k e : TypeId} {b : Option (List (UInt64 × α))} (hT : mapT P tx k e) (hx : ev ρ x = some vm) (hy : ev ρ y = some (.map none)) (hm : MapO s l f vm b) (hd : Nat.blt d n = true)
    (hK : KL P n Df ops Q rest ((d, .bool b.isNone) :: ρ) w0) : KL P n Df ops Q (⟨some d, .binOp .eql tx x y tyy, ty, pos, aft, none⟩ :: rest) ρ w0 := by
  have key : ∀ a : Option Nat, (Op.equal tx (.map a) (.map none)).run P w0 = .ok a.isNone w0 := fun a => run_eql_map_nil hT.1 a w0 9999
  cases b with
  | none =>
    obtain rfl : vm = .map none := hm
    refine .val rfl rfl hd (v := .bool true) (fun η ha => ?_) hK
    simp [execOp, ha.ev hx, ha.ev hy, eqGuard, binOp, key]
  | some r =>
    obtain ⟨h0, m, es, clock, rfl, hlt, hg, hh, he, hn, hc⟩ := hm
    refine .val rfl rfl hd (v := .bool false) (fun η ha => ?_) hK
    simp [execOp, ha.ev hx, ha.ev hy, eqGuard, binOp, key]
end

abbrev cI (z : Int) : Value := .int .i64 z
theorem MapO.up2 {α : Type} {K : Lab → Prop} {s s' : St} {l : Lab} {f : α → D} {v : Value} {b : Option (List (UInt64 × α))} (h : MapO s l f v b) (st : Step K s s') (hk : ¬ K l := by first | exact id | (simp only [KU, KN, KC, KO, K0, KB] <;> omega)) : MapO s' l f v b := h.up st hk
theorem MapO.relabel {α : Type} {s : St} {l : Lab} {f : α → D} {v : Value} {b : Option (List (UInt64 × α))} (q c : Nat) (h : MapO s l f v b) (hq : q < l.o) (hs : q ≤ s.n) : ∃ s', s'.w = s.w ∧ Step (KC l.o l.c) s s' ∧ MapO s' ⟨q + 1, c⟩ f v b := by
  classical
  cases b with
  | none => exact ⟨s, rfl, (Step.refl s).of0 (fun c hc => by have := hc.1; simp at this; omega), h⟩
  | some r =>
    obtain ⟨h0, m, es, clock, e, hm, hg, hh, he, hn, hc⟩ := h
    let s' : St := ⟨s.w, fun b => if b = m then ⟨q + 1, c⟩ else s.g b, fun b => by
      by_cases hb : b = m
      · have := s.wf b; subst hb; rw [hg] at this; simp; omega
      · simp [hb]; exact s.wf b⟩
    have hst : Step (KC l.o l.c) s s' := ⟨rfl, rfl, rfl, Nat.le_refl _, fun b hb hk => ⟨rfl, by
      by_cases hvb : b = m
      · subst hvb; exact absurd ⟨by rw [hg], by rw [hg]⟩ hk
      · simp [s', hvb]⟩, fun c hc => h0 hc.1.symm⟩
    exact ⟨s', rfl, hst, Nat.succ_ne_zero _, m, es, clock, e, hm, by simp [s'], hh, he.up hst, hn, hc⟩
theorem Blk.relabel {s : St} {b : Nat} {l : Lab} {cs : List Value} {T : TypeId} (q c : Nat) (h : Blk s b l cs T) (hq : q < l.o) (hs : q ≤ s.n) : ∃ s', s'.w = s.w ∧ Step (KC l.o l.c) s s' ∧ Blk s' b ⟨q + 1, c⟩ cs T := by
  classical
  let s' : St := ⟨s.w, fun b' => if b' = b then ⟨q + 1, c⟩ else s.g b', fun b' => by
    by_cases hb : b' = b
    · have := s.wf b'; subst hb; rw [h.lab] at this; simp; omega
    · simp [hb]; exact s.wf b'⟩
  have hst : Step (KC l.o l.c) s s' := ⟨rfl, rfl, rfl, Nat.le_refl _, fun b' hb hk => ⟨rfl, by
    by_cases hvb : b' = b
    · subst hvb; exact absurd ⟨by rw [h.lab], by rw [h.lab]⟩ hk
    · simp [s', hvb]⟩, fun c hc => by have := hc.1; simp at this; omega⟩
  exact ⟨s', rfl, hst, ⟨h.heap, by simp [s']⟩⟩
theorem CellsOf.mp {α : Type} {s : St} {l : Lab} {f : α → D} {v : Value} {b : Option (List (UInt64 × α))} (h : MapO s l f v b) : CellsOf v [v] := ⟨h.one1.2, by simp [h.one1.1]⟩

section
variable {P : Program} {n : Nat} {Df : Md} {ops : Array Oper} {Q : Post} {rest : List Oper} {ρ : Env} {s : St} {w0 : World}
variable {d : Nat} {ty : TypeId} {pos : String} {aft : Array Edge} {x y : Operand} {tx tyy : TypeId}
/-- A number of a row at the end of a block. -/
theorem k_load_arr {b i : Nat} {z : Int} {pre : List Value} {xs : List Int} {l : Lab} {T : TypeId} (m : Nat) (hT : oneT P tx = true) (hx : ev ρ x = some (.pointer (some ⟨b, i, none⟩))) (hb : Blk s b l (pre ++ xs.map cI) T) (hm : pre.length = m) (hg : geti xs ((i : Int) - (m : Int)) = some z) (hd : Nat.blt d n = true)
    (hK : KL P n Df ops Q rest ((d, .int .i64 z) :: ρ) s.w) : KL P n Df ops Q (⟨some d, .load tx x, ty, pos, aft, none⟩ :: rest) ρ s.w := by
  obtain ⟨h0, h1, h2⟩ := geti_out hg
  refine k_load_blk hT hx hb ?_ hd hK
  rw [List.getElem?_append_right (by omega), List.getElem?_map, hm, show i - m = ((i : Int) - (m : Int)).toNat by omega, h2]
  rfl
theorem k_store_arr {b i : Nat} {z v : Int} {pre : List Value} {xs : List Int} {l : Lab} {T : TypeId} (m : Nat) (hT : sizeT P tx 1 = true) (hx : ev ρ x = some (.pointer (some ⟨b, i, none⟩))) (hy : ev ρ y = some (.int .i64 v)) (hb : Blk s b l (pre ++ xs.map cI) T) (hl0 : l.o ≠ 0) (hm : pre.length = m) (hg : geti xs ((i : Int) - (m : Int)) = some z)
    (hK : ∀ s', Step (KC l.o l.c) s s' → Blk s' b l (pre ++ (xs.set ((i : Int) - (m : Int)).toNat v).map cI) T → KL P n Df ops Q rest ρ s'.w) :
    KL P n Df ops Q (⟨none, .store tx x y, ty, pos, aft, none⟩ :: rest) ρ s.w := by
  obtain ⟨h0, h1, h2⟩ := geti_out hg
  have hlen : (pre ++ xs.map cI).length = m + xs.length := by rw [List.length_append, List.length_map, hm]
  have e : (pre ++ xs.map cI).take i ++ [Value.int .i64 v] ++ (pre ++ xs.map cI).drop (i + 1) = pre ++ (xs.set ((i : Int) - (m : Int)).toNat v).map cI := by
    have hi : i = m + ((i : Int) - (m : Int)).toNat := by omega
    generalize ((i : Int) - (m : Int)).toNat = j at hi h2
    subst hi
    subst hm
    have hj : j < xs.length := (List.getElem?_eq_some_iff.1 h2).1
    rw [List.take_append, List.drop_append, List.take_of_length_le (by omega), List.drop_eq_nil_of_le (by omega), List.nil_append]
    rw [List.set_eq_take_append_cons_drop, if_pos hj]
    simp [List.map_take, List.map_drop, Nat.add_assoc]
  have hble : Nat.ble (i + 1) (pre ++ xs.map cI).length = true := by simp only [Nat.ble_eq, hlen]; omega
  exact k_store_c (cs' := pre ++ (xs.set ((i : Int) - (m : Int)).toNat v).map cI) hT hx hy hb hl0 (CellsOf.lit (vs := [.int .i64 v]) rfl rfl) rfl hble e hK
end
end Go.Fw
