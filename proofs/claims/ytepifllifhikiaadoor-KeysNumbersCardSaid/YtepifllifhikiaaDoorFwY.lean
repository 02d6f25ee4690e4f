import Derived.Test.YtepifllifhikiaaDoorFwX
import Derived.Laws.IdiomCopy
set_option linter.unusedSimpArgs false
set_option linter.unusedVariables false
namespace Go.Fw

theorem RCs.drop {s : St} {w : Nat} {xs : List Value} {ds : List D} (h : RCs s w xs ds) (k : Nat) : RCs s w (xs.drop (k * w)) (ds.drop k) := by
  refine ⟨by rw [List.length_drop, List.length_drop, h.1, Nat.sub_mul], fun i hi => ?_⟩
  have hi' : k + i < ds.length := by rw [List.length_drop] at hi; omega
  have h2 := h.2 (k + i) hi'
  rw [List.getElem_drop, List.drop_drop, ← Nat.add_mul]
  exact h2
theorem RCs.take {s : St} {w : Nat} {xs : List Value} {ds : List D} (h : RCs s w xs ds) (k : Nat) : RCs s w (xs.take (k * w)) (ds.take k) := by
  refine ⟨by rw [List.length_take, List.length_take, h.1]; rcases Nat.le_total k ds.length with hh | hh <;> simp [Nat.min_eq_left, Nat.min_eq_right, hh, Nat.mul_le_mul_right], fun i hi => ?_⟩
  have hi' : i < k ∧ i < ds.length := by rw [List.length_take] at hi; omega
  have h2 := h.2 i hi'.2
  rw [List.getElem_take]
  have e : ((xs.take (k * w)).drop (i * w)).take w = (xs.drop (i * w)).take w := by
    have hm : i * w + w ≤ k * w := by
      calc i * w + w = (i + 1) * w := by rw [Nat.add_mul, Nat.one_mul]
        _ ≤ k * w := Nat.mul_le_mul_right _ hi'.1
    rw [List.drop_take, List.take_take]
    congr 1
    omega
  rw [e]
  exact h2

/-- Elements written over the beginning of a slice of one's own, one cell each. -/
theorem Own.put1 {s : St} {l : Lab} {e : TypeId} {v : Value} {ds : List D} (h : Own s l e 1 v ds) {g len cap : Nat} (hv : v = .slice (some ⟨g, 0, none⟩) len cap) {xs : List Value} {es : List D} (hr : RCs s 1 xs es) (hle : es.length ≤ ds.length) (hpos : 0 < ds.length) :
    Step (KC l.o l.c) s (s.re (s.w.setCells g 0 xs)) ∧ Own (s.re (s.w.setCells g 0 xs)) l e 1 v (es ++ ds.drop es.length) := by
  have h0 := h.1
  have hl1 := h.2.1
  obtain ⟨cur, hgg, hgl, hsz, hlc, hcm, hrr, hlen⟩ := h.heap hv hpos
  have hcl : cur.toList.length = cap := by rw [Array.length_toList, hsz, Nat.mul_one]
  have hxl : xs.length = es.length := by rw [hr.1, Nat.mul_one]
  obtain ⟨r1, r2, r3, r4⟩ := setCells_rest g xs 0 s.w
  have hset := heap_setCells g xs 0 s.w cur.toList e (0, 0) (by simpa using hgg) (by rw [hcl]; omega)
  have st : Step (KC l.o l.c) s (s.re (s.w.setCells g 0 xs)) := by
    refine ⟨r1, r2, r3, Nat.le_of_eq r4.symm, fun b' hb' hk => ⟨heap_setCells_ne g b' ?_ xs _ s.w, rfl⟩, fun c hc => h0 hc.1.symm⟩
    rintro rfl
    exact hk (by rw [hgl]; exact ⟨rfl, rfl⟩)
  have hdl : (es ++ ds.drop es.length).length = ds.length := by rw [List.length_append, List.length_drop]; omega
  refine ⟨st, h0, by show l.o ≤ (s.w.setCells _ _ _).heap.size + 1; rw [r4]; exact hl1, _, ⟨?_, .inr ⟨g, cap, _, ?_, Nat.zero_le _, hset, by rw [hdl]; exact hlc, hcm, ?_, rfl⟩⟩, ?_, ?_⟩
  · rw [hdl]
    simp only [List.length_take, List.toList_toArray, List.length_append, List.length_drop, Array.length_toList, hsz]
    omega
  · rw [hv, hlen, hdl]
  · simp only [List.size_toArray, List.length_take, List.length_append, List.length_drop, Array.length_toList, hsz]
    omega
  · intro g' hg'
    rw [hv] at hg'
    simp [Value.ownBlock] at hg'
    subst hg'
    exact hgl
  · have h3 := (hr.append (hrr.drop es.length)).up st
    have e2 : xs ++ (cur.toList.take (ds.length * 1)).drop (es.length * 1) = (cur.toList.take 0 ++ xs ++ cur.toList.drop (0 + xs.length)).take ((es ++ ds.drop es.length).length * 1) := by
      rw [hdl, Nat.mul_one, Nat.mul_one, List.take_zero, List.nil_append, Nat.zero_add, List.take_append, List.take_of_length_le (show xs.length ≤ ds.length by omega), hxl, List.drop_take]
    rw [e2] at h3
    simpa using h3

section
variable {P : Program} {n : Nat} {Df : Md} {ops : Array Oper} {Q : Post} {rest : List Oper} {ρ : Env} {s : St} {w0 : World}
variable {d : Nat} {ty : TypeId} {pos : String} {aft : Array Edge} {x y : Operand} {tx tyy : TypeId}

theorem run_copy1 {l lx : Lab} {dT sT e bytes : Nat} {z v vy : Value} {ds es : List D} (hT : elemT P dT e 1 bytes z) (h : Own s l e 1 v ds) (hs : SL s lx vy 1 es) :
    ∃ s', Step (KC l.o l.c) s s' ∧ Own s' l e 1 v (es.take ds.length ++ ds.drop es.length) ∧ (Builtin.copy_ #[dT, sT] ty #[v, vy]).run P s.w = .ok (goInt ((min es.length ds.length : Nat) : Int)) s'.w := by
  obtain ⟨i, h1, h2, h3, h4, h5, h6, h7⟩ := hT
  have hsz : (P.info? e).map (·.size) = some 1 := by rw [h2]; simp [h4]
  obtain ⟨a, cap, hv, hz⟩ := h.sl.val
  obtain ⟨a2, cap2, hvy, hz2⟩ := hs.val
  by_cases h0 : min es.length ds.length = 0
  · have hrun := run_copy_none (P := P) s.w dT sT ty e a a2 ds.length cap es.length cap2 h1 hsz h0
    refine ⟨s, (Step.refl s).of0 (fun c hc => h.1 hc.1.symm), ?_, ?_⟩
    · have e1 : es.take ds.length ++ ds.drop es.length = ds := by
        by_cases he : es.length = 0
        · have : es = [] := List.eq_nil_of_length_eq_zero he
          subst this; simp
        · have hd : ds = [] := List.eq_nil_of_length_eq_zero (by omega)
          subst hd; simp
      rw [e1]; exact h
    · rw [hv, hvy, hrun, h0]; rfl
  · rcases hs.cells with ⟨he, _⟩ | ⟨b, off, cap3, xs, hvy', hr, hc⟩
    · subst he; simp at h0
    · obtain ⟨g, hag⟩ : ∃ g, a = some ⟨g, 0, none⟩ := by
        obtain ⟨_, _, ys, ho, _, _⟩ := h
        rcases ho.2 with ⟨hn, hz'⟩ | ⟨g, cp, cur, hv', _⟩
        · omega
        · rw [hv] at hv'; injection hv' with e1 e2 e3; exact ⟨g, e1⟩
      subst hag
      obtain ⟨cur, hgg, hgl, hcs, hlc, hcm, hrr, hlen⟩ := h.heap hv (by omega)
      have hxl : xs.length = es.length := by rw [hr.1, Nat.mul_one]
      have hput := h.put1 hv (hr.take ds.length) (by rw [List.length_take]; omega) (by omega)
      rw [Nat.mul_one] at hput
      have hl1 : (xs.take ds.length).length = min es.length ds.length := by rw [List.length_take, hxl, Nat.min_comm]
      have hrun := run_copy_cells (P := P) s.w dT sT ty e g 0 ds.length cap ⟨b, off, none⟩ es.length cap3 (xs.take ds.length) h1 hsz hl1
        (fun j u hu => by
          rw [List.getElem?_take] at hu
          split at hu
          · exact hc j u hu
          · cases hu)
        (fun j hj => by simp [World.cell?, hgg]; omega) (fun j hj => by simp [World.frozen?, hgg])
        (fun u hu => by
          have := hr.one_cells u (List.mem_of_mem_take hu)
          exact this)
      refine ⟨_, hput.1, ?_, ?_⟩
      · have e1 : (es.take ds.length).length = min ds.length es.length := List.length_take
        have h9 := hput.2
        have e2 : ds.drop (es.take ds.length).length = ds.drop es.length := by
          rw [e1]
          rcases Nat.le_total ds.length es.length with hh | hh
          · rw [Nat.min_eq_left hh, List.drop_eq_nil_of_le (Nat.le_refl _), List.drop_eq_nil_of_le hh]
          · rw [Nat.min_eq_right hh]
        rw [e2] at h9
        exact h9
      · rw [hv, hvy', hrun, hl1]
        rfl

theorem k_copy {l lx : Lab} {dT sT e bytes : Nat} {z v vy : Value} {ds es : List D} (hT : elemT P dT e 1 bytes z) (hx : ev ρ x = some v) (hy : ev ρ y = some vy) (h : Own s l e 1 v ds) (hs : SL s lx vy 1 es) (hd : Nat.blt d n = true)
    (hK : ∀ s', Step (KC l.o l.c) s s' → Own s' l e 1 v (es.take ds.length ++ ds.drop es.length) → KL P n Df ops Q rest ((d, .int .i64 ((min es.length ds.length : Nat) : Int)) :: ρ) s'.w) :
    KL P n Df ops Q (⟨some d, .call { callee := .builtin .copy, args := [x, y].toArray, argTypes := [dT, sT].toArray }, ty, pos, aft, none⟩ :: rest) ρ s.w := by
  obtain ⟨s', st, ho, hrun⟩ := run_copy1 (P := P) (ty := ty) (dT := dT) (sT := sT) hT h hs
  refine .val rfl rfl hd (v := .int .i64 ((min es.length ds.length : Nat) : Int)) (w' := s'.w) (fun η ha => ?_) (hK s' st ho)
  simp [execOp, resolve, invoke, builtin, ha.ev hx, ha.ev hy, hrun, goInt]
theorem k_copyn {l lx : Lab} {dT sT e bytes : Nat} {z v vy : Value} {ds es : List D} (hT : elemT P dT e 1 bytes z) (hx : ev ρ x = some v) (hy : ev ρ y = some vy) (h : Own s l e 1 v ds) (hs : SL s lx vy 1 es)
    (hK : ∀ s', Step (KC l.o l.c) s s' → Own s' l e 1 v (es.take ds.length ++ ds.drop es.length) → KL P n Df ops Q rest ρ s'.w) :
    KL P n Df ops Q (⟨none, .call { callee := .builtin .copy, args := [x, y].toArray, argTypes := [dT, sT].toArray }, ty, pos, aft, none⟩ :: rest) ρ s.w := by
  obtain ⟨s', st, ho, hrun⟩ := run_copy1 (P := P) (ty := ty) (dT := dT) (sT := sT) hT h hs
  refine .effv rfl rfl (v := .int .i64 ((min es.length ds.length : Nat) : Int)) (w' := s'.w) (fun η ha => ?_) (hK s' st ho)
  simp [execOp, resolve, invoke, builtin, ha.ev hx, ha.ev hy, hrun, goInt]
def cpy {α : Type} (l m : List α) : List α := m.take l.length ++ l.drop m.length
theorem cpy_map {α : Type} (f : α → D) (l m : List α) : (cpy l m).map f = (m.map f).take (l.map f).length ++ (l.map f).drop (m.map f).length := by
  unfold cpy; simp [List.map_take, List.map_drop]
end
end Go.Fw
namespace Go.Fw
section
variable {P : Program} {n : Nat} {Df : Md} {ops : Array Oper} {Q : Post} {rest : List Oper} {ρ : Env} {s : St} {w0 : World}
variable {d : Nat} {ty : TypeId} {pos : String} {aft : Array Edge} {x y : Operand} {tx tyy : TypeId}
theorem nilt_dec {α : Type} {s : St} {f : α → D} {v : Value} {w : Nat} {l : List α} [Decidable (l = [])] (h : R s v (.sl w (l.map f))) (hn : l = [] → v = .slice none 0 0) : ∃ a c, v = .slice a l.length c ∧ a.isNone = decide (l = []) := by
  obtain ⟨a, c, e, hz⟩ := (SL.of_R h).val
  rw [List.length_map] at e hz
  refine ⟨a, c, e, ?_⟩
  by_cases hl : l = []
  · have e2 := hn hl
    rw [e] at e2; injection e2 with e3 _ _
    subst e3; simp [hl]
  · cases a with
    | none => exact absurd (List.eq_nil_of_length_eq_zero (hz rfl).1) hl
    | some a => simp [hl]
theorem k_eql_nilt {α : Type} {f : α → D} {v : Value} {w : Nat} {l : List α} [Decidable (l = [])] {e : TypeId} (hT : P.underlying tx = some (.slice e)) (hx : ev ρ x = some v) (h : R s v (.sl w (l.map f))) (hn : l = [] → v = .slice none 0 0) (hy : ev ρ y = some (.slice none 0 0)) (hd : Nat.blt d n = true)
    (hK : KL P n Df ops Q rest ((d, .bool (decide (l = []))) :: ρ) w0) : KL P n Df ops Q (⟨some d, .binOp .eql tx x y tyy, ty, pos, aft, none⟩ :: rest) ρ w0 := by
  obtain ⟨a, c, rfl, e⟩ := nilt_dec h hn
  refine k_eql_snil hT hx hy hd ?_
  rw [e]; exact hK
theorem k_neq_nilt {α : Type} {f : α → D} {v : Value} {w : Nat} {l : List α} [Decidable (l = [])] {e : TypeId} (hT : P.underlying tx = some (.slice e)) (hx : ev ρ x = some v) (h : R s v (.sl w (l.map f))) (hn : l = [] → v = .slice none 0 0) (hy : ev ρ y = some (.slice none 0 0)) (hd : Nat.blt d n = true)
    (hK : KL P n Df ops Q rest ((d, .bool (decide (l ≠ []))) :: ρ) w0) : KL P n Df ops Q (⟨some d, .binOp .neq tx x y tyy, ty, pos, aft, none⟩ :: rest) ρ w0 := by
  obtain ⟨a, c, rfl, e⟩ := nilt_dec h hn
  refine k_neq_snil hT hx hy hd ?_
  rw [e]
  have : (!decide (l = [])) = decide (l ≠ []) := by by_cases h : l = [] <;> simp [h]
  rw [this]; exact hK
end
end Go.Fw
