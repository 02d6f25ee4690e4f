import Derived.Test.YtepifllifhikiaaDoorFwE
import Derived.Laws.IdiomCopy
import Derived.Laws.BytesArg
set_option linter.unusedSimpArgs false
set_option linter.unusedVariables false
namespace Go.Fw

/-- The state behind an operation: new blocks bear the label l. -/
def St.to (s : St) (w' : World) (l : Lab) (hl : l.o ≤ s.n + 1) : St :=
  ⟨w', fun b => if b < s.n then s.g b else l, fun b => by
    by_cases h : b < s.n
    · simp [h]; exact s.wf b
    · simp [h]; omega⟩

theorem St.to_g_old {s : St} {w' : World} {l : Lab} {hl : l.o ≤ s.n + 1} {b : Nat} (h : b < s.n) : (s.to w' l hl).g b = s.g b := by simp [St.to, h]
theorem St.to_g_new {s : St} {w' : World} {l : Lab} {hl : l.o ≤ s.n + 1} {b : Nat} (h : s.n ≤ b) : (s.to w' l hl).g b = l := by
  simp [St.to, Nat.not_lt.2 h]

theorem St.to_step {s : St} {w' : World} {l : Lab} {hl : l.o ≤ s.n + 1} {K : Lab → Prop} (h1 : w'.os = s.w.os) (h2 : w'.tape = s.w.tape) (h3 : w'.output = s.w.output) (h4 : s.n ≤ w'.heap.size)
    (h5 : ∀ b, b < s.n → ¬ K (s.g b) → w'.heap[b]? = s.w.heap[b]?) (hi : ∀ c, ¬ K ⟨0, c⟩) : Step K s (s.to w' l hl) :=
  ⟨h1, h2, h3, h4, fun b hb hk => ⟨h5 b hb hk, St.to_g_old hb⟩, hi⟩

theorem St.to_alloc {s : St} {o : Obj} {l : Lab} {hl : l.o ≤ s.n + 1} : Step K0 s (s.to (s.w.alloc o) l hl) :=
  St.to_step rfl rfl rfl (by simp) (fun b hb _ => RowKit.Below.heap_alloc _ _ _ hb) (fun _ h => h)

theorem blk_alloc {s : St} {cs : Array Value} {T : TypeId} {l : Lab} {hl : l.o ≤ s.n + 1} : Blk (s.to (s.w.alloc (.cells cs T)) l hl) s.n l cs.toList T :=
  ⟨⟨(0, 0), by show (s.w.alloc (.cells cs T)).heap[s.n]? = _; rw [heap_alloc_new], .inl rfl⟩, St.to_g_new (Nat.le_refl _)⟩

section
variable {P : Program} {n : Nat} {Df : Md} {ops : Array Oper} {Q : Post} {rest : List Oper} {ρ : Env} {s : St}
variable {d : Nat} {ty : TypeId} {pos : String} {aft : Array Edge} {x y : Operand} {tx tyy : TypeId}

/-! new variables -/
theorem k_box {v : Value} (hx : ev ρ x = some v) (hd : Nat.blt d n = true)
    (hK : ∀ s' b, Step K0 s s' → Blk s' b ⟨b + 1, 0⟩ v.cells.toList tx → s.n ≤ b → KL P n Df ops Q rest ((d, .pointer (some ⟨b, 0, none⟩)) :: ρ) s'.w) :
    KL P n Df ops Q (⟨some d, .box tx x, ty, pos, aft, none⟩ :: rest) ρ s.w :=
  .val rfl rfl hd (fun η ha => by simp [execOp, ha.ev hx, Instr.box, newVar, newRow]; rfl) (hK (s.to (s.w.alloc (.cells v.cells tx)) ⟨s.n + 1, 0⟩ (Nat.le_refl _)) s.n St.to_alloc blk_alloc (Nat.le_refl _))
theorem k_alloc {z : Value} (hz : zeroT P tx = some z) (hd : Nat.blt d n = true)
    (hK : ∀ s' b, Step K0 s s' → Blk s' b ⟨b + 1, 0⟩ z.cells.toList tx → s.n ≤ b → KL P n Df ops Q rest ((d, .pointer (some ⟨b, 0, none⟩)) :: ρ) s'.w) :
    KL P n Df ops Q (⟨some d, .alloc tx, ty, pos, aft, none⟩ :: rest) ρ s.w :=
  .val rfl rfl hd (fun η ha => by simp [execOp, Instr.alloc, run_zeroValue hz, newVar, newRow]; rfl) (hK (s.to (s.w.alloc (.cells z.cells tx)) ⟨s.n + 1, 0⟩ (Nat.le_refl _)) s.n St.to_alloc blk_alloc (Nat.le_refl _))

/-! stores -/
theorem heap_setCells (b : Nat) : ∀ (vs : List Value) (o : Nat) (w : World) (cs : List Value) (T : TypeId) (fr : Nat × Nat), w.heap[b]? = some (.cells cs.toArray T fr) → o + vs.length ≤ cs.length →
    (w.setCells b o vs).heap[b]? = some (.cells (cs.take o ++ vs ++ cs.drop (o + vs.length)).toArray T fr)
  | [], o, w, cs, T, fr, h, hl => by simp [World.setCells, h]
  | v :: r, o, w, cs, T, fr, h, hl => by
    simp only [List.length_cons] at hl
    have h1 : (w.setCell ⟨b, o, none⟩ v).heap[b]? = some (.cells (cs.set o v).toArray T fr) := by
      simp [World.setCell, Array.getElem?_modify, h]
    have := heap_setCells b r (o + 1) (w.setCell ⟨b, o, none⟩ v) (cs.set o v) T fr h1 (by simp; omega)
    simp only [World.setCells]
    rw [this]
    have e1 : List.take (o + 1) (cs.set o v) = List.take o cs ++ [v] := by
      rw [List.take_succ_eq_append_getElem (by simp; omega)]
      simp [List.take_set_of_le]
    have e2 : List.drop (o + 1 + r.length) (cs.set o v) = List.drop (o + (r.length + 1)) cs := by
      rw [show o + 1 + r.length = o + (r.length + 1) by omega, List.drop_set_of_lt (by omega)]
    rw [e1, e2]
    simp

theorem heap_setCells_ne (b b' : Nat) (h : b' ≠ b) : ∀ (vs : List Value) (o : Nat) (w : World), (w.setCells b o vs).heap[b']? = w.heap[b']?
  | [], _, _ => rfl
  | v :: r, o, w => by simp only [World.setCells]; rw [heap_setCells_ne b b' h r (o + 1)]; exact RowKit.Below.heap_setCell _ _ _ _ h
theorem setCells_rest (b : Nat) : ∀ (vs : List Value) (o : Nat) (w : World), (w.setCells b o vs).os = w.os ∧ (w.setCells b o vs).tape = w.tape ∧ (w.setCells b o vs).output = w.output ∧ (w.setCells b o vs).heap.size = w.heap.size
  | [], _, _ => ⟨rfl, rfl, rfl, rfl⟩
  | v :: r, o, w => by
    obtain ⟨h1, h2, h3, h4⟩ := setCells_rest b r (o + 1) (w.setCell ⟨b, o, none⟩ v)
    exact ⟨h1, h2, h3, h4.trans (by simp [World.setCell])⟩

/-- The state behind a store. -/
def St.re (s : St) (w' : World) : St := ⟨w', s.g, s.wf⟩

theorem Blk.store {s : St} {b : Nat} {l : Lab} {cs : List Value} {T : TypeId} (h : Blk s b l cs T) (hl0 : l.o ≠ 0) (o : Nat) (vs : List Value) (hl : o + vs.length ≤ cs.length) :
    Step (KC l.o l.c) s (s.re (s.w.setCells b o vs)) ∧ Blk (s.re (s.w.setCells b o vs)) b l (cs.take o ++ vs ++ cs.drop (o + vs.length)) T := by
  obtain ⟨r1, r2, r3, r4⟩ := setCells_rest b vs o s.w
  refine ⟨⟨r1, r2, r3, Nat.le_of_eq r4.symm, fun b' hb' hk => ⟨?_, rfl⟩, fun c hc => hl0 hc.1.symm⟩, ?_⟩
  · refine heap_setCells_ne b b' ?_ vs o s.w
    rintro rfl
    exact hk (by rw [h.lab]; exact ⟨rfl, rfl⟩)
  · obtain ⟨fr, h1, h2⟩ := h.heap
    refine ⟨⟨fr, heap_setCells b vs o s.w cs T fr h1 hl, ?_⟩, h.lab⟩
    rcases h2 with h2 | h2
    · exact .inl h2
    · refine .inr ?_
      simp only [List.length_append, List.length_take, List.length_drop]
      omega

theorem run_storeVar {P : Program} {t : TypeId} {b i : Nat} {l : Lab} {cs : List Value} {T : TypeId} {v : Value} {m : Nat} (hT : sizeT P t m = true) (hm : v.cells.size = m) (h1 : v.cells.toList.all Value.oneCell' = true) (hb : Blk s b l cs T) (hi : i + m ≤ cs.length) :
    (storeVar t ⟨b, i, none⟩ v).run P s.w = .ok () (s.w.setCells b i v.cells.toList) := by
  have hst := run_storeCells_cells (P := P) b i v.cells.toList 0 s.w (fun j hj => by
      have hj' : j < m := by simpa [hm] using hj
      rw [hb.cell]; simp; omega) (fun j hj => by
      have hj' : j < m := by simpa [hm] using hj
      exact hb.frozen _ (by omega)) (List.all_eq_true.1 h1)
  simp only [Nat.add_zero] at hst
  simp [storeVar, run_sizeOf hT, hm, hst]

theorem k_store_blk {b i m : Nat} {l : Lab} {cs : List Value} {T : TypeId} {v : Value} (hT : sizeT P tx m = true) (hx : ev ρ x = some (.pointer (some ⟨b, i, none⟩))) (hy : ev ρ y = some v) (hb : Blk s b l cs T) (hl0 : l.o ≠ 0)
    (hm : v.cells.size = m) (h1 : v.cells.toList.all Value.oneCell' = true) (hi : Nat.ble (i + m) cs.length = true)
    (hK : ∀ s', Step (KC l.o l.c) s s' → Blk s' b l (cs.take i ++ v.cells.toList ++ cs.drop (i + m)) T → KL P n Df ops Q rest ρ s'.w) :
    KL P n Df ops Q (⟨none, .store tx x y, ty, pos, aft, none⟩ :: rest) ρ s.w := by
  have hi' : i + m ≤ cs.length := by simpa using hi
  have hb' := hb.store hl0 i v.cells.toList (by simpa [hm] using hi')
  have hlen : v.cells.toList.length = m := by simpa using hm
  rw [hlen] at hb'
  refine .eff rfl rfl (fun η ha => ?_) (hK _ hb'.1 hb'.2)
  simp [execOp, ha.ev hx, ha.ev hy, Instr.storeAt, Instr.sureAddr, run_storeVar hT hm h1 hb hi']
  rfl

/-! rows of cells -/
/-- The cells xs are so many data, w cells each. -/
def RCs (s : St) (w : Nat) (xs : List Value) (ds : List D) : Prop := xs.length = ds.length * w ∧ ∀ i (hi : i < ds.length), RC s ((xs.drop (i * w)).take w) ds[i]

theorem RCs.up {K : Lab → Prop} {s s' : St} {w : Nat} {xs : List Value} {ds : List D} (h : RCs s w xs ds) (st : Step K s s') : RCs s' w xs ds := ⟨h.1, fun i hi => (h.2 i hi).up st⟩
theorem RCs.nil {s : St} {w : Nat} : RCs s w [] [] := ⟨by simp, fun i hi => by simp at hi⟩
theorem RCs.append {s : St} {w : Nat} {xs ys : List Value} {ds es : List D} (h : RCs s w xs ds) (h' : RCs s w ys es) : RCs s w (xs ++ ys) (ds ++ es) := by
  refine ⟨by simp [h.1, h'.1, Nat.add_mul], fun i hi => ?_⟩
  by_cases hlt : i < ds.length
  · rw [List.getElem_append_left hlt]
    have h1 := h.2 i hlt
    have hle : i * w + w ≤ xs.length := by
      rw [h.1]; calc i * w + w = (i + 1) * w := by rw [Nat.add_mul, Nat.one_mul]
        _ ≤ ds.length * w := Nat.mul_le_mul_right _ hlt
    rw [List.drop_append_of_le_length (by omega), List.take_append_of_le_length (by simp; omega)]
    exact h1
  · have hge : ds.length ≤ i := Nat.not_lt.1 hlt
    rw [List.getElem_append_right hge]
    have h1 := h'.2 (i - ds.length) (by simp at hi; omega)
    have e : i * w = xs.length + (i - ds.length) * w := by
      rw [h.1, ← Nat.add_mul]; congr 1; omega
    rw [e, List.drop_append, List.drop_eq_nil_of_le (by omega), Nat.add_sub_cancel_left, List.nil_append]
    exact h1
theorem RCs.one {s : St} {xs : List Value} {d : D} (h : RC s xs d) : RCs s d.wd xs [d] :=
  ⟨by simp [h.len], fun i hi => by
    have hi0 : i = 0 := by simpa using hi
    subst hi0
    simp only [Nat.zero_mul, List.drop_zero, List.getElem_cons_zero]
    rw [List.take_of_length_le (by rw [h.len]; exact Nat.le_refl _)]
    exact h⟩

theorem SL.cells {s : St} {l : Lab} {v : Value} {w : Nat} {ds : List D} (h : SL s l v w ds) :
    (ds = [] ∧ ∃ a cap, v = .slice a 0 cap ∧ (a = none → cap = 0)) ∨ ∃ b off cap xs, v = .slice (some ⟨b, off, none⟩) ds.length cap ∧ RCs s w xs ds ∧ (∀ j u, xs[j]? = some u → s.w.cell? ((⟨b, off, none⟩ : Addr).add j) = some u) := by
  rcases h with h | ⟨b, off, cap, cs, e, hb, hg, hcap, hw, hc, h⟩
  · exact .inl h
  · refine .inr ⟨b, off, cap, ((List.range ds.length).map cs).flatten, e, ?_, ?_⟩
    · have key : ∀ (m : Nat), m ≤ ds.length → RCs s w (((List.range m).map cs).flatten) (ds.take m) := by
        intro m
        induction m with
        | zero => intro _; simpa using RCs.nil
        | succ m ih =>
          intro hm
          have hlt : m < ds.length := by omega
          have h1 := RCs.one (h m hlt)
          rw [← (h m hlt).len, hw m hlt] at h1
          have := (ih (by omega)).append h1
          rw [List.take_succ_eq_append_getElem hlt, List.range_succ]
          simpa using this
      simpa using key ds.length (Nat.le_refl _)
    · have key : ∀ (m : Nat), m ≤ ds.length → ∀ j u, (((List.range m).map cs).flatten)[j]? = some u → s.w.cell? ⟨b, off + j, none⟩ = some u := by
        intro m
        induction m with
        | zero => intro _ j u hu; simp at hu
        | succ m ih =>
          intro hm j u hu
          have hlt : m < ds.length := by omega
          have hlen : ∀ k, k ≤ m → (((List.range k).map cs).flatten).length = k * w := by
            intro k hk
            induction k with
            | zero => simp
            | succ k ihk =>
              rw [List.range_succ]
              simp only [List.map_append, List.flatten_append, List.length_append, ihk (by omega), List.map_cons, List.map_nil, List.flatten_cons, List.flatten_nil, List.append_nil]
              rw [hw k (by omega), Nat.add_mul, Nat.one_mul]
          rw [List.range_succ, List.map_append, List.flatten_append] at hu
          by_cases hj : j < m * w
          · rw [List.getElem?_append_left (by rw [hlen m (Nat.le_refl _)]; exact hj)] at hu
            exact ih (by omega) j u hu
          · rw [List.getElem?_append_right (by rw [hlen m (Nat.le_refl _)]; omega), hlen m (Nat.le_refl _)] at hu
            simp only [List.map_cons, List.map_nil, List.flatten_cons, List.flatten_nil, List.append_nil] at hu
            have hjw : j - m * w < w := by
              have := (List.getElem?_eq_some_iff.1 hu).1
              rwa [hw m hlt] at this
            have := hc m hlt (j - m * w) hjw
            rw [show off + j = off + m * w + (j - m * w) by omega, this]
            exact hu
      intro j u hu
      have ha : (⟨b, off, none⟩ : Addr).add j = ⟨b, off + j, none⟩ := by unfold Addr.add; split <;> simp_all
      rw [ha]
      exact key ds.length (Nat.le_refl _) j u hu

/-- A slice that its owner may append to. -/
def Own (s : St) (l : Lab) (e : TypeId) (w : Nat) (v : Value) (ds : List D) : Prop :=
  l.o ≠ 0 ∧ l.o ≤ s.n + 1 ∧ ∃ xs : List Value, s.w.ownsRow 0 e w v ds.length xs ∧ (∀ g, v.ownBlock = some g → s.g g = l) ∧ RCs s w xs ds

theorem ownBlock_lt {w : World} {base e size n : Nat} {v : Value} {xs : List Value} (h : w.ownsRow base e size v n xs) {g : Nat} (hg : v.ownBlock = some g) : g < w.heap.size := (h.lt g hg).2

theorem Own.up {K : Lab → Prop} {s s' : St} {l : Lab} {e : TypeId} {w : Nat} {v : Value} {ds : List D} (h : Own s l e w v ds) (st : Step K s s') (hk : ¬ K l) : Own s' l e w v ds := by
  obtain ⟨h0, h1, xs, ho, hg, hr⟩ := h
  refine ⟨h0, Nat.le_trans h1 (Nat.add_le_add_right st.size 1), xs, ?_, ?_, hr.up st⟩
  · refine ⟨ho.1, ?_⟩
    rcases ho.2 with hn | ⟨g, cap, cur, rfl, hb, hgg, r⟩
    · exact .inl hn
    · have hlt : g < s.n := (Array.getElem?_eq_some_iff.1 hgg).1
      have hl : s.g g = l := hg g rfl
      exact .inr ⟨g, cap, cur, rfl, hb, by rw [(st.keep g hlt (by rw [hl]; exact hk)).1]; exact hgg, r⟩
  · intro g hgb
    have hlt := ownBlock_lt ho hgb
    have hl := hg g hgb
    rw [(st.keep g hlt (by rw [hl]; exact hk)).2]
    exact hl

theorem Own.nil {s : St} {l : Lab} {e : TypeId} {w : Nat} (h0 : l.o ≠ 0) (h1 : l.o ≤ s.n + 1) : Own s l e w (.slice none 0 0) [] :=
  ⟨h0, h1, [], World.ownsRow_nil _ _ _ _, fun g hg => by simp [Value.ownBlock] at hg, RCs.nil⟩

theorem Own.sl {s : St} {l : Lab} {e : TypeId} {w : Nat} {v : Value} {ds : List D} (h : Own s l e w v ds) : SL s l v w ds := by
  obtain ⟨h0, h1, xs, ho, hg, hr⟩ := h
  rcases ho.2 with ⟨rfl, hn⟩ | ⟨g, cap, cur, rfl, hb, hgg, hle, hcm, hcs, ht⟩
  · exact .inl ⟨List.eq_nil_of_length_eq_zero hn, none, 0, rfl, fun _ => rfl⟩
  · have hlt : g < s.n := (Array.getElem?_eq_some_iff.1 hgg).1
    refine .inr ⟨g, 0, cap, fun i => (xs.drop (i * w)).take w, rfl, hlt, hg g rfl, hle, ?_, ?_, hr.2⟩
    · intro i hi
      have : i * w + w ≤ xs.length := by
        rw [hr.1]; calc i * w + w = (i + 1) * w := by rw [Nat.add_mul, Nat.one_mul]
          _ ≤ ds.length * w := Nat.mul_le_mul_right _ hi
      simp; omega
    · intro i hi j hj
      have hle2 : i * w + w ≤ xs.length := by
        rw [hr.1]; calc i * w + w = (i + 1) * w := by rw [Nat.add_mul, Nat.one_mul]
          _ ≤ ds.length * w := Nat.mul_le_mul_right _ hi
      have hc := ho.cells (g := g) rfl (i * w + j)
      have ha : (⟨g, 0, none⟩ : Addr).add (i * w + j) = ⟨g, i * w + j, none⟩ := by unfold Addr.add; split <;> simp_all
      rw [ha] at hc
      have hx : xs[i * w + j]? = some xs[i * w + j] := List.getElem?_eq_getElem (by omega)
      rw [Nat.zero_add, hc _ hx]
      simp [List.getElem?_take, hj, hx]

/-- The owner lets go: nobody writes the slice any more. -/
theorem Own.freeze {s : St} {l : Lab} {e : TypeId} {w : Nat} {v : Value} {ds : List D} (h : Own s l e w v ds) : ∃ s', s'.w = s.w ∧ Step (KC l.o l.c) s s' ∧ R s' v (.sl w ds) := by
  classical
  have h0 := h.1
  have hg := h.2.2
  let s' : St := ⟨s.w, fun b => if v.ownBlock = some b then L0 else s.g b, fun b => by by_cases hb : v.ownBlock = some b <;> simp [hb]; exact s.wf b⟩
  have hst : Step (KC l.o l.c) s s' := ⟨rfl, rfl, rfl, Nat.le_refl _, fun b hb hk => ⟨rfl, by
    obtain ⟨xs, ho, hg, hr⟩ := hg
    by_cases hvb : v.ownBlock = some b
    · exact absurd ⟨by rw [hg b hvb], by rw [hg b hvb]⟩ hk
    · simp [s', hvb]⟩, fun c hc => h0 hc.1.symm⟩
  refine ⟨s', rfl, hst, R.of_SL ?_⟩
  rcases h.sl with hn | ⟨b, off, cap, cs, hv, hb, hgb, hcap, hw, hc, hr⟩
  · exact .inl hn
  · exact .inr ⟨b, off, cap, cs, hv, hb, by simp [s', hv, Value.ownBlock], hcap, hw, hc, fun i hi => (hr i hi).up hst⟩

end
end Go.Fw
