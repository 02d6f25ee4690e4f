import Derived.Tactics
import Derived.Below
import Derived.Laws.World
namespace Go.Fw

/-- A block's label: its owner and the part of the owner it is; owner 0: nobody writes it any more. -/
structure Lab where
  o : Nat
  c : Nat

abbrev L0 : Lab := ⟨0, 0⟩

/-- A world with a label for each block. -/
structure St where
  w : World
  g : Nat → Lab
  wf : ∀ b, (g b).o ≤ b + 1

abbrev St.n (s : St) : Nat := s.w.heap.size

/-- From s to s' nothing is written but what bears a label in K, and new blocks. -/
structure Step (K : Lab → Prop) (s s' : St) : Prop where
  os : s'.w.os = s.w.os
  tape : s'.w.tape = s.w.tape
  output : s'.w.output = s.w.output
  size : s.n ≤ s'.n
  keep : ∀ b, b < s.n → ¬ K (s.g b) → s'.w.heap[b]? = s.w.heap[b]? ∧ s'.g b = s.g b
  imm : ∀ c, ¬ K ⟨0, c⟩

abbrev K0 : Lab → Prop := fun _ => False
abbrev KO (k : Nat) : Lab → Prop := fun l => l.o = k
abbrev KC (k c : Nat) : Lab → Prop := fun l => l.o = k ∧ l.c = c
/-- Of K, what was there at n. -/
abbrev KB (n : Nat) (K : Lab → Prop) : Lab → Prop := fun l => K l ∧ l.o ≠ 0 ∧ l.o ≤ n

theorem Step.refl (s : St) : Step K0 s s := ⟨rfl, rfl, rfl, Nat.le_refl _, fun _ _ _ => ⟨rfl, rfl⟩, fun _ h => h⟩

theorem Step.mono {K K' : Lab → Prop} {s s' : St} (h : Step K s s') (hk : ∀ l, K l → K' l) (hi : ∀ c, ¬ K' ⟨0, c⟩) : Step K' s s' :=
  ⟨h.os, h.tape, h.output, h.size, fun b hb hn => h.keep b hb (fun hk' => hn (hk _ hk')), hi⟩

theorem Step.trans {K K' : Lab → Prop} {a b c : St} (h : Step K a b) (h' : Step K' b c) (hk : ∀ i, i < a.n → K' (a.g i) → K (a.g i)) : Step K a c :=
  ⟨h'.os.trans h.os, h'.tape.trans h.tape, h'.output.trans h.output, Nat.le_trans h.size h'.size,
   fun i hi hn => by
    obtain ⟨e1, e2⟩ := h.keep i hi hn
    have hi' : i < b.n := Nat.lt_of_lt_of_le hi h.size
    obtain ⟨f1, f2⟩ := h'.keep i hi' (by rw [e2]; exact fun hk' => hn (hk i hi hk'))
    exact ⟨f1.trans e1, f2.trans e2⟩, h.imm⟩

theorem Step.trans0 {K : Lab → Prop} {a b c : St} (h : Step K a b) (h' : Step K0 b c) : Step K a c := h.trans h' (fun _ _ h => h.elim)
theorem Step.transK {K : Lab → Prop} {a b c : St} (h : Step K a b) (h' : Step K b c) : Step K a c := h.trans h' (fun _ _ h => h)
/-- A step on labels whose owners are new since a. -/
theorem Step.transNew {K K' : Lab → Prop} {a b c : St} (h : Step K a b) (h' : Step K' b c) (hk : ∀ l, K' l → a.n < l.o) : Step K a c :=
  h.trans h' (fun i hi hl => absurd (hk _ hl) (by have := a.wf i; omega))
theorem Step.of0 {K : Lab → Prop} {a b : St} (h : Step K0 a b) (hi : ∀ c, ¬ K ⟨0, c⟩) : Step K a b := h.mono (fun _ h => h.elim) hi

theorem Step.cell {K : Lab → Prop} {s s' : St} (h : Step K s s') {b : Nat} (hb : b < s.n) (hk : ¬ K (s.g b)) (o : Nat) :
    s'.w.cell? ⟨b, o, none⟩ = s.w.cell? ⟨b, o, none⟩ := by
  simp only [World.cell?, (h.keep b hb hk).1]

theorem Step.below {s s' : St} (h : Step K0 s s') : Go.RowKit.Below s.n s.w s'.w :=
  ⟨h.os, h.tape, h.output, h.size, fun k hk => (h.keep k hk (fun h => h)).1⟩

/-- Data as Go's memory holds them. -/
inductive D where
  | val (v : Value)
  | sl (w : Nat) (l : List D)
  | agg (l : List D)
  | ptr (d : D)
  | ifc (t : TypeId) (d : D)

def D.isAgg : D → Bool
  | .agg _ => true
  | _ => false
/-- The cells cs hold the datum d, in blocks that nobody writes any more. -/
inductive RC (s : St) : List Value → D → Prop where
  | val (v : Value) (h : v.oneCell' = true) : RC s [v] (.val v)
  | nilsl (w cap : Nat) (a : Option Addr) (ha : a = none → cap = 0) : RC s [.slice a 0 cap] (.sl w [])
  | sl (w b off cap : Nat) (ds : List D) (cs : Nat → List Value) (hb : b < s.n) (hg : s.g b = L0) (hcap : ds.length ≤ cap)
      (hw : ∀ i, i < ds.length → (cs i).length = w)
      (hc : ∀ i, i < ds.length → ∀ j, j < w → s.w.cell? ⟨b, off + i * w + j, none⟩ = (cs i)[j]?)
      (h : ∀ i (hi : i < ds.length), RC s (cs i) ds[i]) : RC s [.slice (some ⟨b, off, none⟩) ds.length cap] (.sl w ds)
  | agg (css : List (List Value)) (ds : List D) (hl : css.length = ds.length)
      (h : ∀ i (h1 : i < css.length) (h2 : i < ds.length), RC s css[i] ds[i]) : RC s css.flatten (.agg ds)
  | ptr (b off : Nat) (cs : List Value) (d : D) (hb : b < s.n) (hg : s.g b = L0)
      (hc : ∀ j, j < cs.length → s.w.cell? ⟨b, off + j, none⟩ = cs[j]?) (h : RC s cs d) : RC s [.pointer (some ⟨b, off, none⟩)] (.ptr d)
  | ifc (t : TypeId) (v : Value) (cs : List Value) (d : D) (hv : (d.isAgg = true ∧ v = .agg cs.toArray) ∨ (d.isAgg = false ∧ cs = [v])) (h : RC s cs d) : RC s [.iface t v] (.ifc t d)

theorem RC.up {K : Lab → Prop} {s s' : St} (st : Step K s s') {cs : List Value} {d : D} (h : RC s cs d) : RC s' cs d := by
  induction h with
  | val v h => exact .val v h
  | nilsl w cap a ha => exact .nilsl w cap a ha
  | sl w b off cap ds cs hb hg hcap hw hc h ih =>
    have hk : ¬ K (s.g b) := by rw [hg]; exact st.imm 0
    exact .sl w b off cap ds cs (Nat.lt_of_lt_of_le hb st.size) ((st.keep b hb hk).2.trans hg) hcap hw
      (fun i hi j hj => (st.cell hb hk _).trans (hc i hi j hj)) ih
  | agg css ds hl h ih => exact .agg css ds hl ih
  | ptr b off cs d hb hg hc h ih =>
    have hk : ¬ K (s.g b) := by rw [hg]; exact st.imm 0
    exact .ptr b off cs d (Nat.lt_of_lt_of_le hb st.size) ((st.keep b hb hk).2.trans hg) (fun j hj => (st.cell hb hk _).trans (hc j hj)) ih
  | ifc t v cs d hv h ih => exact .ifc t v cs d hv ih

/-- The value v is the datum d. -/
def R (s : St) (v : Value) : D → Prop
  | .agg ds => ∃ cs : Array Value, v = .agg cs ∧ RC s cs.toList (.agg ds)
  | d => RC s [v] d

theorem R.up {K : Lab → Prop} {s s' : St} {v : Value} {d : D} (h : R s v d) (st : Step K s s') : R s' v d := by
  cases d with
  | agg ds => obtain ⟨cs, e, h⟩ := h; exact ⟨cs, e, h.up st⟩
  | val v => exact RC.up st h
  | sl w l => exact RC.up st h
  | ptr d => exact RC.up st h
  | ifc t d => exact RC.up st h

/-- A slice whose own array bears the label l; what its cells lead to is written no more. -/
def SL (s : St) (l : Lab) (v : Value) (w : Nat) (ds : List D) : Prop :=
  (ds = [] ∧ ∃ a cap, v = .slice a 0 cap ∧ (a = none → cap = 0)) ∨
  ∃ (b off cap : Nat) (cs : Nat → List Value), v = .slice (some ⟨b, off, none⟩) ds.length cap ∧ b < s.n ∧ s.g b = l ∧ ds.length ≤ cap ∧
    (∀ i, i < ds.length → (cs i).length = w) ∧
    (∀ i, i < ds.length → ∀ j, j < w → s.w.cell? ⟨b, off + i * w + j, none⟩ = (cs i)[j]?) ∧
    (∀ i (hi : i < ds.length), RC s (cs i) ds[i])

theorem SL.up {K : Lab → Prop} {s s' : St} {l : Lab} {v : Value} {w : Nat} {ds : List D} (h : SL s l v w ds) (st : Step K s s') (hk : ¬ K l) : SL s' l v w ds := by
  rcases h with h | ⟨b, off, cap, cs, e, hb, hg, hcap, hw, hc, h⟩
  · exact .inl h
  · have hk' : ¬ K (s.g b) := by rw [hg]; exact hk
    exact .inr ⟨b, off, cap, cs, e, Nat.lt_of_lt_of_le hb st.size, (st.keep b hb hk').2.trans hg, hcap, hw, fun i hi j hj => (st.cell hb hk' _).trans (hc i hi j hj), fun i hi => (h i hi).up st⟩

theorem SL.of_R {s : St} {v : Value} {w : Nat} {ds : List D} (h : R s v (.sl w ds)) : SL s L0 v w ds := by
  have h : RC s [v] (.sl w ds) := h
  generalize e : [v] = vs at h
  cases h with
  | nilsl w cap a ha => injection e with e _; exact .inl ⟨rfl, a, cap, e, ha⟩
  | sl w b off cap ds cs hb hg hcap hw hc h => injection e with e _; exact .inr ⟨b, off, cap, cs, e, hb, hg, hcap, hw, hc, h⟩

theorem R.of_SL {s : St} {v : Value} {w : Nat} {ds : List D} (h : SL s L0 v w ds) : R s v (.sl w ds) := by
  show RC s [v] (.sl w ds)
  rcases h with ⟨rfl, a, cap, rfl, ha⟩ | ⟨b, off, cap, cs, rfl, hb, hg, hcap, hw, hc, h⟩
  · exact .nilsl w cap a ha
  · exact .sl w b off cap ds cs hb hg hcap hw hc h

theorem SL.val {s : St} {l : Lab} {v : Value} {w : Nat} {ds : List D} (h : SL s l v w ds) : ∃ a cap, v = .slice a ds.length cap ∧ (a = none → ds.length = 0 ∧ cap = 0) := by
  rcases h with ⟨rfl, a, cap, rfl, ha⟩ | ⟨b, off, cap, cs, rfl, _⟩
  · exact ⟨a, cap, rfl, fun e => ⟨rfl, ha e⟩⟩
  · exact ⟨_, cap, rfl, fun e => by simp at e⟩

/-- The block b, whole. -/
structure Blk (s : St) (b : Nat) (l : Lab) (cs : List Value) (T : TypeId) : Prop where
  heap : ∃ fr : Nat × Nat, s.w.heap[b]? = some (.cells cs.toArray T fr) ∧ (fr.1 = fr.2 ∨ cs.length ≤ fr.1)
  lab : s.g b = l

theorem Blk.lt {s : St} {b : Nat} {l : Lab} {cs : List Value} {T : TypeId} (h : Blk s b l cs T) : b < s.n := by
  obtain ⟨fr, h, _⟩ := h.heap
  exact (Array.getElem?_eq_some_iff.1 h).1

theorem Blk.up {K : Lab → Prop} {s s' : St} {b : Nat} {l : Lab} {cs : List Value} {T : TypeId} (h : Blk s b l cs T) (st : Step K s s') (hk : ¬ K l) : Blk s' b l cs T := by
  have hk' : ¬ K (s.g b) := by rw [h.lab]; exact hk
  obtain ⟨e1, e2⟩ := st.keep b h.lt hk'
  exact ⟨by rw [e1]; exact h.heap, e2.trans h.lab⟩

theorem Blk.cell {s : St} {b : Nat} {l : Lab} {cs : List Value} {T : TypeId} (h : Blk s b l cs T) (i : Nat) : s.w.cell? ⟨b, i, none⟩ = cs[i]? := by
  obtain ⟨fr, h, _⟩ := h.heap
  simp [World.cell?, h]

theorem Blk.frozen {s : St} {b : Nat} {l : Lab} {cs : List Value} {T : TypeId} (h : Blk s b l cs T) (i : Nat) (hi : i < cs.length) : s.w.frozen? ⟨b, i, none⟩ = false := by
  obtain ⟨⟨lo, hi'⟩, h, hf⟩ := h.heap
  simp only [World.frozen?, h]
  simp only at hf
  simp only [Bool.and_eq_false_iff, decide_eq_false_iff_not]
  omega

theorem Blk.own_le {s : St} {b : Nat} {l : Lab} {cs : List Value} {T : TypeId} (h : Blk s b l cs T) : l.o ≤ s.n := by
  have h1 := s.wf b
  have h2 := h.lt
  rw [h.lab] at h1
  omega

/-- Cells that may be read: a row of them at a place, under a label. -/
def At (s : St) (l : Lab) (p : Value) (d : D) : Prop :=
  ∃ (b off : Nat) (cs : List Value), p = .pointer (some ⟨b, off, none⟩) ∧ b < s.n ∧ s.g b = l ∧ (∀ j, j < cs.length → s.w.cell? ⟨b, off + j, none⟩ = cs[j]?) ∧ RC s cs d

theorem At.up {K : Lab → Prop} {s s' : St} {l : Lab} {p : Value} {d : D} (h : At s l p d) (st : Step K s s') (hk : ¬ K l) : At s' l p d := by
  obtain ⟨b, off, cs, e, hb, hg, hc, h⟩ := h
  have hk' : ¬ K (s.g b) := by rw [hg]; exact hk
  exact ⟨b, off, cs, e, Nat.lt_of_lt_of_le hb st.size, (st.keep b hb hk').2.trans hg, fun j hj => (st.cell hb hk' _).trans (hc j hj), h.up st⟩

end Go.Fw
