import Derived.Test.YtepifllifhikiaaDoorFwG
set_option linter.unusedSimpArgs false
set_option linter.unusedVariables false
namespace Go.Fw

theorem cells_of_one {v : Value} (h : v.oneCell' = true) : v.cells = #[v] := by cases v <;> first | rfl | simp [Value.oneCell'] at h
theorem R.rc {s : St} {v : Value} {d : D} (h : R s v d) : RC s v.cells.toList d := by
  cases d with
  | agg ds => obtain ⟨cs, rfl, h⟩ := h; exact h
  | _ =>
    have h' : RC s [v] _ := h
    have := h'.one_cells v (by simp)
    rw [cells_of_one this]
    exact h'
/-- Values, each a datum. -/
def RVs (s : St) : List Value → List D → Prop
  | [], [] => True
  | v :: vs, d :: ds => R s v d ∧ RVs s vs ds
  | _, _ => False
theorem RVs.cells {s : St} {w : Nat} : ∀ {vs : List Value} {ds : List D}, RVs s vs ds → (∀ d ∈ ds, d.wd = w) → RCs s w (vs.map fun v => v.cells.toList).flatten ds
  | [], [], _, _ => by simpa using RCs.nil
  | v :: vs, d :: ds, ⟨h, hr⟩, hw => by
    have h1 := RCs.one h.rc
    rw [hw d (by simp)] at h1
    have := h1.append (RVs.cells hr (fun d hd => hw d (by simp [hd])))
    simpa using this
  | [], _ :: _, h, _ => h.elim
  | _ :: _, [], h, _ => h.elim
theorem RVs.len {s : St} : ∀ {vs : List Value} {ds : List D}, RVs s vs ds → vs.length = ds.length
  | [], [], _ => rfl
  | v :: vs, d :: ds, ⟨h, hr⟩ => by simp [RVs.len hr]
  | [], _ :: _, h => h.elim
  | _ :: _, [], h => h.elim

theorem RVs.sizes {s : St} {w : Nat} : ∀ {vs : List Value} {ds : List D}, RVs s vs ds → (∀ d ∈ ds, d.wd = w) → ∀ v ∈ vs, v.cells.size = w
  | [], [], _, _ => fun v hv => by simp at hv
  | u :: us, d :: ds, ⟨h, hr⟩, hw => fun v hv => by
    rcases List.mem_cons.1 hv with rfl | hv
    · have := h.rc.len
      rw [hw d (by simp)] at this
      simpa using this
    · exact RVs.sizes hr (fun d hd => hw d (by simp [hd])) v hv
  | [], _ :: _, h, _ => h.elim
  | _ :: _, [], h, _ => h.elim

theorem foldl_put (off : Nat) : ∀ (xs : List Value) (k : Nat) (cells : Array Value), off + k + xs.length ≤ cells.size →
    ((xs.zipIdx k).foldl (fun cs (p : Value × Nat) => cs.setIfInBounds (off + p.2) p.1) cells).toList = cells.toList.take (off + k) ++ xs ++ cells.toList.drop (off + k + xs.length)
  | [], k, cells, hl => by simp
  | x :: xs, k, cells, hl => by
    simp only [List.length_cons] at hl
    simp only [List.zipIdx_cons, List.foldl_cons]
    rw [foldl_put off xs (k + 1) _ (by simp; omega)]
    have e1 : List.take (off + k + 1) (cells.toList.set (off + k) x) = List.take (off + k) cells.toList ++ [x] := by
      rw [List.take_succ_eq_append_getElem (by simp; omega)]
      simp [List.take_set_of_le]
    have e2 : List.drop (off + k + 1 + xs.length) (cells.toList.set (off + k) x) = List.drop (off + k + (xs.length + 1)) cells.toList := by
      rw [show off + k + 1 + xs.length = off + k + (xs.length + 1) by omega, List.drop_set_of_lt (by omega)]
    rw [← Nat.add_assoc, Array.toList_setIfInBounds, e1, e2]
    simp

/-- The parts of a literal, in their order. -/
def evp (ρ : Env) : Nat → List (Nat × Operand) → Option (List Value)
  | _, [] => some []
  | i, (j, x) :: r => match Nat.beq i j with
    | false => none
    | true => match ev ρ x with
      | none => none
      | some v => match evp ρ (i + 1) r with
        | none => none
        | some vs => some (v :: vs)

theorem Agr.evp {ρ : Env} {η : Operand → Value} (h : Agr ρ η) : ∀ {i : Nat} {xs : List (Nat × Operand)} {vs : List Value}, Fw.evp ρ i xs = some vs → xs.map (fun (p : Nat × Operand) => (p.1, η p.2)) = (vs.zipIdx i).map fun p => (p.2, p.1)
  | i, [], vs, e => by simp [Fw.evp] at e; simp [e]
  | i, (j, x) :: r, vs, e => by
    simp only [Fw.evp] at e
    cases hj : Nat.beq i j with
    | false => rw [hj] at e; simp at e
    | true =>
      rw [hj] at e
      have hij : i = j := Nat.eq_of_beq_eq_true hj
      subst hij
      cases hv : Fw.ev ρ x with
      | none => rw [hv] at e; simp at e
      | some v =>
        rw [hv] at e
        cases hr : Fw.evp ρ (i + 1) r with
        | none => simp only [hr] at e; simp at e
        | some us =>
          simp only [hr] at e
          simp at e
          subst e
          simp only [List.map_cons, h.ev hv, h.evp hr, List.zipIdx_cons]

theorem fill_all (w : Nat) : ∀ (vs : List Value) (k : Nat) (cells : Array Value), (∀ v ∈ vs, v.cells.size = w) → (k + vs.length) * w = cells.size →
    ∃ out : Array Value, Instr.fill (fun i => some (i * w, w)) cells ((vs.zipIdx k).map fun p => (p.2, p.1)) = some out ∧ out.toList = cells.toList.take (k * w) ++ (vs.map fun v => v.cells.toList).flatten
  | [], k, cells, _, hl => ⟨cells, rfl, by simp at hl; simp; rw [List.take_of_length_le (by simp; omega)]⟩
  | v :: vs, k, cells, hw, hl => by
    have hv : v.cells.size = w := hw v (by simp)
    have hmul : (k + 1) * w = k * w + w := by rw [Nat.add_mul, Nat.one_mul]
    have hl' : k * w + w ≤ cells.size := by
      rw [← hl, ← hmul]; exact Nat.mul_le_mul_right _ (by simp only [List.length_cons]; omega)
    let c2 := v.cells.zipIdx.foldl (fun cs (x : Value × Nat) => cs.setIfInBounds (k * w + x.2) x.1) cells
    have hc2 : c2.toList = cells.toList.take (k * w) ++ v.cells.toList ++ cells.toList.drop (k * w + w) := by
      have := foldl_put (k * w) v.cells.toList 0 cells (by simpa [hv] using hl')
      simp only [Nat.add_zero, Array.length_toList, hv] at this
      rw [← this]
      show (v.cells.zipIdx.foldl _ cells).toList = _
      rw [← Array.foldl_toList, Array.toList_zipIdx]
    have hsz : c2.size = cells.size := by
      have := congrArg List.length hc2
      simp only [Array.length_toList, List.length_append, List.length_take, List.length_drop, hv] at this
      omega
    obtain ⟨out, h1, h2⟩ := fill_all w vs (k + 1) c2 (fun u hu => hw u (by simp [hu])) (by rw [hsz, ← hl]; congr 1; simp only [List.length_cons]; omega)
    refine ⟨out, ?_, ?_⟩
    · simp only [List.zipIdx_cons, List.map_cons, Instr.fill]
      rw [if_neg (by intro h; simp only [Bool.or_eq_true, decide_eq_true_eq] at h; rcases h with h | h; exact h hv; rw [hv] at h; exact absurd h (Nat.not_lt.2 hl'))]
      exact h1
    · have hl2 : (cells.toList.take (k * w) ++ v.cells.toList).length = k * w + w := by
        rw [List.length_append, List.length_take, Array.length_toList, Array.length_toList, hv, Nat.min_eq_left (by omega)]
      rw [h2, hc2, hmul, List.take_append_of_le_length (Nat.le_of_eq hl2.symm), List.take_of_length_le (Nat.le_of_eq hl2)]
      simp

/-- The element type of a slice type, its size. -/
def sliceT (P : Program) (t e : TypeId) (w : Nat) (z : Value) : Prop := P.underlying t = some (.slice e) ∧ sizeT P e w = true ∧ zeroT P e = some z ∧ z.cells.size = w ∧ 0 < w

section
variable {P : Program} {n : Nat} {Df : Md} {ops : Array Oper} {Q : Post} {rest : List Oper} {ρ : Env} {s : St}
variable {d : Nat} {ty : TypeId} {pos : String} {aft : Array Edge} {x y : Operand} {tx tyy : TypeId}

theorem run_buildSlice {P : Program} {w0 : World} {t e w m : Nat} {z : Value} {vs : List Value} (hT : sliceT P t e w z) (hm : vs.length = m) (hw : ∀ v ∈ vs, v.cells.size = w) (hs : m * w ≤ 16777216) :
    (Instr.buildSlice t m ((vs.zipIdx 0).map fun p => (p.2, p.1)).toArray).run P w0 =
      .ok (.slice (some ⟨w0.heap.size, 0, none⟩) m m) (w0.alloc (.cells ((vs.map fun v => v.cells.toList).flatten).toArray e)) := by
  obtain ⟨h1, h2, h3, h4, h5⟩ := hT
  have hns : ¬ (2 ^ 24 < m * w) := by omega
  obtain ⟨out, o1, o2⟩ := fill_all w vs 0 ((Array.range (m * w)).map (z.cells[· % z.cells.size]!)) hw (by simp [hm])
  simp only [Nat.zero_mul, List.take_zero, List.nil_append] at o2
  have ho : out = ((vs.map fun v => v.cells.toList).flatten).toArray := by rw [← o2]
  by_cases hz : m * w = 0
  · have hm0 : m = 0 := by
      rcases Nat.mul_eq_zero.1 hz with h | h
      · exact h
      · omega
    subst hm0
    have hv : vs = [] := List.eq_nil_of_length_eq_zero hm
    subst hv
    simp [Instr.buildSlice, run_underlying h1, run_sizeOf h2, Instr.fill, newRow, Array.range_zero']
  · subst ho
    simp [Instr.buildSlice, run_underlying h1, run_sizeOf h2, hns, hz, run_zeroValue h3, newRow]
    simp [o1]

theorem blk_row {s : St} {xs : List Value} {e w : Nat} {ds : List D} {l : Lab} {hl : l.o ≤ s.n + 1} (hr : RCs s w xs ds) :
    SL (s.to (s.w.alloc (.cells xs.toArray e)) l hl) l (.slice (some ⟨s.n, 0, none⟩) ds.length ds.length) w ds := by
  have st : Step K0 s (s.to (s.w.alloc (.cells xs.toArray e)) l hl) := St.to_alloc
  have hb : Blk (s.to (s.w.alloc (.cells xs.toArray e)) l hl) s.n l xs e := by simpa using blk_alloc (s := s) (cs := xs.toArray) (T := e) (l := l) (hl := hl)
  refine .inr ⟨s.n, 0, ds.length, fun i => (xs.drop (i * w)).take w, rfl, hb.lt, hb.lab, Nat.le_refl _, ?_, ?_, fun i hi => (hr.2 i hi).up st⟩
  · intro i hi
    have : i * w + w ≤ xs.length := by
      rw [hr.1]; calc i * w + w = (i + 1) * w := by rw [Nat.add_mul, Nat.one_mul]
        _ ≤ ds.length * w := Nat.mul_le_mul_right _ hi
    simp; omega
  · intro i hi j hj
    rw [hb.cell]
    simp [List.getElem?_take, hj]

/-- A literal of a slice: nobody writes it any more. -/
theorem k_bslice {t e w m : Nat} {z : Value} {ps : List (Nat × Operand)} {vs : List Value} {ds : List D} (hT : sliceT P t e w z) (hx : evp ρ 0 ps = some vs) (hr : RVs s vs ds) (hm : ds.length = m) (hw : ds.all (fun d => Nat.beq d.wd w) = true) (hs : Nat.ble (m * w) 16777216 = true) (hd : Nat.blt d n = true)
    (hK : ∀ s' v, Step K0 s s' → R s' v (.sl w ds) → KL P n Df ops Q rest ((d, v) :: ρ) s'.w) :
    KL P n Df ops Q (⟨some d, .buildSlice t m ps.toArray, ty, pos, aft, none⟩ :: rest) ρ s.w := by
  have hw' : ∀ d ∈ ds, d.wd = w := fun d hd => Nat.eq_of_beq_eq_true (List.all_eq_true.1 hw d hd)
  have hcs := hr.cells hw'
  have hl0 : L0.o ≤ s.n + 1 := Nat.zero_le _
  have hlen := hr.len
  have hvw := hr.sizes hw'
  refine .val rfl rfl hd (v := .slice (some ⟨s.n, 0, none⟩) m m) (w' := s.w.alloc (.cells ((vs.map fun v => v.cells.toList).flatten).toArray e)) (fun η ha => ?_) (hK (s.to _ L0 hl0) _ St.to_alloc (R.of_SL (by rw [← hm]; exact blk_row hcs)))
  have := run_buildSlice (P := P) (w0 := s.w) (vs := vs) (m := m) hT (by omega) hvw (by simpa using hs)
  simp only [execOp]
  have hev := ha.evp hx
  have hpa : (ps.toArray.map fun (p : Nat × Operand) => (p.1, η p.2)) = ((vs.zipIdx 0).map fun p => (p.2, p.1)).toArray := by rw [← hev]; simp
  simp [hpa, this]

/-- A literal of a slice that is appended to. -/
theorem k_bslice_own {t e w m : Nat} {z : Value} {ps : List (Nat × Operand)} {vs : List Value} {ds : List D} (hT : sliceT P t e w z) (hx : evp ρ 0 ps = some vs) (hr : RVs s vs ds) (hm : ds.length = m) (hw : ds.all (fun d => Nat.beq d.wd w) = true) (hs : Nat.ble (m * w) 16777216 = true) (hd : Nat.blt d n = true)
    (hK : ∀ s' v b, Step K0 s s' → s.n ≤ b → Own s' ⟨b + 1, 0⟩ e w v ds → KL P n Df ops Q rest ((d, v) :: ρ) s'.w) :
    KL P n Df ops Q (⟨some d, .buildSlice t m ps.toArray, ty, pos, aft, none⟩ :: rest) ρ s.w := by
  have hw' : ∀ d ∈ ds, d.wd = w := fun d hd => Nat.eq_of_beq_eq_true (List.all_eq_true.1 hw d hd)
  have hcs := hr.cells hw'
  have hlen := hr.len
  have hvw := hr.sizes hw'
  have st : Step K0 s (s.to (s.w.alloc (.cells ((vs.map fun v => v.cells.toList).flatten).toArray e)) ⟨s.n + 1, 0⟩ (Nat.le_refl _)) := St.to_alloc
  have hs' : m * w ≤ 16777216 := by simpa using hs
  have hm2 : m ≤ 16777216 := by
    have h1 : m * 1 ≤ m * w := Nat.mul_le_mul_left m hT.2.2.2.2
    omega
  refine .val rfl rfl hd (v := .slice (some ⟨s.n, 0, none⟩) m m) (w' := s.w.alloc (.cells ((vs.map fun v => v.cells.toList).flatten).toArray e)) (fun η ha => ?_) (hK (s.to _ ⟨s.n + 1, 0⟩ (Nat.le_refl _)) _ s.n st (Nat.le_refl _) ⟨by simp, ?_, _, ⟨hcs.1, .inr ⟨s.n, m, _, by rw [hm], Nat.zero_le _, heap_alloc_new _ _, by omega, by unfold maxLen; omega, by simp [hcs.1, hm], ?_⟩⟩, ?_, hcs.up st⟩)
  · have := run_buildSlice (P := P) (w0 := s.w) (vs := vs) (m := m) hT (by omega) hvw hs'
    simp only [execOp]
    have hev := ha.evp hx
    have hpa : (ps.toArray.map fun (p : Nat × Operand) => (p.1, η p.2)) = ((vs.zipIdx 0).map fun p => (p.2, p.1)).toArray := by rw [← hev]; simp
    simp [hpa, this]
  · show s.n + 1 ≤ (s.w.alloc _).heap.size + 1
    simp
  · rw [List.toList_toArray, List.take_of_length_le (by rw [hcs.1]; exact Nat.le_refl _)]
  · intro g hg
    simp [Value.ownBlock] at hg
    exact St.to_g_new (by omega)

end
end Go.Fw
