import Derived.Tactics
import Derived.Below
import Derived.Laws.World
import Derived.Deep.LoopGhost
import Derived.CallsIn
import Derived.TacticsIn
import Derived.OrdersIn
import Derived.DefersIn
import Derived.WalkKit
import Derived.WalkSpells
import Derived.WalkLawsBesides
import Derived.Laws.Strings
import Derived.Lib.AppendStr
import Derived.Laws.AppendOwn
import Derived.Lib.ConvBytes
import Derived.Laws.MakeOwn
import Derived.Laws.IdiomCopy
import Derived.Laws.BytesArg
namespace Go.Fw
structure Lab where
  o : Nat
  c : Nat
abbrev L0 : Lab := ⟨0, 0⟩
structure St where
  w : World
  g : Nat → Lab
  wf : ∀ b, (g b).o ≤ b + 1
abbrev St.n (s : St) : Nat := s.w.heap.size
structure Step (K : Lab → Prop) (s s' : St) : Prop where
  os : s'.w.os = s.w.os
  tape : s'.w.tape = s.w.tape
  output : s'.w.output = s.w.output
  size : s.n ≤ s'.n
  keep : ∀ b, b < s.n → ¬ K (s.g b) → s'.w.heap[b]? = s.w.heap[b]? ∧ s'.g b = s.g b
  imm : ∀ c, ¬ K ⟨0, c⟩
abbrev K0 : Lab → Prop := fun _ => False
abbrev KO (k : Nat) : Lab → Prop := fun l => l.o = k ∧ l.c < 1000
abbrev KC (k c : Nat) : Lab → Prop := fun l => l.o = k ∧ l.c = c
abbrev KB (n : Nat) (K : Lab → Prop) : Lab → Prop := fun l => K l ∧ l.o ≠ 0 ∧ l.o ≤ n
theorem Step.refl (s : St) : Step K0 s s := ⟨rfl, rfl, rfl, Nat.le_refl _, fun _ _ _ => ⟨rfl, rfl⟩, fun _ h => h⟩
theorem Step.mono {K K' : Lab → Prop} {s s' : St} (h : Step K s s') (hk : ∀ l, K l → K' l) (hi : ∀ c, ¬ K' ⟨0, c⟩) : Step K' s s' :=
  ⟨h.os, h.tape, h.output, h.size, fun b hb hn => h.keep b hb (fun hk' => hn (hk _ hk')), hi⟩
theorem Step.trans {K K' : Lab → Prop} {a b c : St} (h : Step K a b) (h' : Step K' b c) (hk : ∀ i, i < a.n → K' (a.g i) → K (a.g i)) : Step K a c :=
  ⟨h'.os.trans h.os, h'.tape.trans h.tape, h'.output.trans h.output, Nat.le_trans h.size h'.size,
   fun i hi hn => by
    obtain ⟨e1, e2⟩ := h.keep i hi hn
    have hi' : i < b.n := Nat.lt_of_lt_of_le hi h.size
    obtain ⟨f1, f2⟩ := h'.keep i hi' (by rw [e2]; exact fun hk' => hn (hk i hi hk'))
    exact ⟨f1.trans e1, f2.trans e2⟩, h.imm⟩
theorem Step.trans0 {K : Lab → Prop} {a b c : St} (h : Step K a b) (h' : Step K0 b c) : Step K a c := h.trans h' (fun _ _ h => h.elim)
theorem Step.transK {K : Lab → Prop} {a b c : St} (h : Step K a b) (h' : Step K b c) : Step K a c := h.trans h' (fun _ _ h => h)
theorem Step.transNew {K K' : Lab → Prop} {a b c : St} (h : Step K a b) (h' : Step K' b c) (hk : ∀ l, K' l → a.n < l.o) : Step K a c :=
  h.trans h' (fun i hi hl => absurd (hk _ hl) (by have := a.wf i; omega))
theorem Step.of0 {K : Lab → Prop} {a b : St} (h : Step K0 a b) (hi : ∀ c, ¬ K ⟨0, c⟩) : Step K a b := h.mono (fun _ h => h.elim) hi
theorem Step.cell {K : Lab → Prop} {s s' : St} (h : Step K s s') {b : Nat} (hb : b < s.n) (hk : ¬ K (s.g b)) (o : Nat) :
    s'.w.cell? ⟨b, o, none⟩ = s.w.cell? ⟨b, o, none⟩ := by
  simp only [World.cell?, (h.keep b hb hk).1]
theorem Step.below {s s' : St} (h : Step K0 s s') : Go.RowKit.Below s.n s.w s'.w :=
  ⟨h.os, h.tape, h.output, h.size, fun k hk => (h.keep k hk (fun h => h)).1⟩
inductive D where
  | val (v : Value)
  | sl (w : Nat) (l : List D)
  | agg (l : List D)
  | ptr (d : D)
  | ifc (t : TypeId) (d : D)
def D.isAgg : D → Bool
  | .agg _ => true
  | _ => false
inductive RC (s : St) : List Value → D → Prop where
  | val (v : Value) (h : v.oneCell' = true) : RC s [v] (.val v)
  | nilsl (w cap : Nat) (a : Option Addr) (ha : a = none → cap = 0) : RC s [.slice a 0 cap] (.sl w [])
  | sl (w b off cap : Nat) (ds : List D) (cs : Nat → List Value) (hb : b < s.n) (hg : s.g b = L0) (hcap : ds.length ≤ cap)
      (hw : ∀ i, i < ds.length → (cs i).length = w)
      (hc : ∀ i, i < ds.length → ∀ j, j < w → s.w.cell? ⟨b, off + i * w + j, none⟩ = (cs i)[j]?)
      (h : ∀ i (hi : i < ds.length), RC s (cs i) ds[i]) : RC s [.slice (some ⟨b, off, none⟩) ds.length cap] (.sl w ds)
  | agg (css : List (List Value)) (ds : List D) (hl : css.length = ds.length)
      (h : ∀ i (h1 : i < css.length) (h2 : i < ds.length), RC s css[i] ds[i]) : RC s css.flatten (.agg ds)
  | ptr (b off : Nat) (cs : List Value) (d : D) (hb : b < s.n) (hg : s.g b = L0)
      (hc : ∀ j, j < cs.length → s.w.cell? ⟨b, off + j, none⟩ = cs[j]?) (h : RC s cs d) : RC s [.pointer (some ⟨b, off, none⟩)] (.ptr d)
  | ifc (t : TypeId) (v : Value) (cs : List Value) (d : D) (hv : (d.isAgg = true ∧ v = .agg cs.toArray) ∨ (d.isAgg = false ∧ cs = [v])) (h : RC s cs d) : RC s [.iface t v] (.ifc t d)
theorem RC.up {K : Lab → Prop} {s s' : St} (st : Step K s s') {cs : List Value} {d : D} (h : RC s cs d) : RC s' cs d := by
  induction h with
  | val v h => exact .val v h
  | nilsl w cap a ha => exact .nilsl w cap a ha
  | sl w b off cap ds cs hb hg hcap hw hc h ih =>
    have hk : ¬ K (s.g b) := by rw [hg]; exact st.imm 0
    exact .sl w b off cap ds cs (Nat.lt_of_lt_of_le hb st.size) ((st.keep b hb hk).2.trans hg) hcap hw
      (fun i hi j hj => (st.cell hb hk _).trans (hc i hi j hj)) ih
  | agg css ds hl h ih => exact .agg css ds hl ih
  | ptr b off cs d hb hg hc h ih =>
    have hk : ¬ K (s.g b) := by rw [hg]; exact st.imm 0
    exact .ptr b off cs d (Nat.lt_of_lt_of_le hb st.size) ((st.keep b hb hk).2.trans hg) (fun j hj => (st.cell hb hk _).trans (hc j hj)) ih
  | ifc t v cs d hv h ih => exact .ifc t v cs d hv ih
def R (s : St) (v : Value) : D → Prop
  | .agg ds => ∃ cs : Array Value, v = .agg cs ∧ RC s cs.toList (.agg ds)
  | d => RC s [v] d
theorem R.up {K : Lab → Prop} {s s' : St} {v : Value} {d : D} (h : R s v d) (st : Step K s s') : R s' v d := by
  cases d with
  | agg ds => obtain ⟨cs, e, h⟩ := h; exact ⟨cs, e, h.up st⟩
  | val v => exact RC.up st h
  | sl w l => exact RC.up st h
  | ptr d => exact RC.up st h
  | ifc t d => exact RC.up st h
def SL (s : St) (l : Lab) (v : Value) (w : Nat) (ds : List D) : Prop :=
  (ds = [] ∧ ∃ a cap, v = .slice a 0 cap ∧ (a = none → cap = 0)) ∨
  ∃ (b off cap : Nat) (cs : Nat → List Value), v = .slice (some ⟨b, off, none⟩) ds.length cap ∧ b < s.n ∧ s.g b = l ∧ ds.length ≤ cap ∧
    (∀ i, i < ds.length → (cs i).length = w) ∧
    (∀ i, i < ds.length → ∀ j, j < w → s.w.cell? ⟨b, off + i * w + j, none⟩ = (cs i)[j]?) ∧
    (∀ i (hi : i < ds.length), RC s (cs i) ds[i])
theorem SL.up {K : Lab → Prop} {s s' : St} {l : Lab} {v : Value} {w : Nat} {ds : List D} (h : SL s l v w ds) (st : Step K s s') (hk : ¬ K l) : SL s' l v w ds := by
  rcases h with h | ⟨b, off, cap, cs, e, hb, hg, hcap, hw, hc, h⟩
  · exact .inl h
  · have hk' : ¬ K (s.g b) := by rw [hg]; exact hk
    exact .inr ⟨b, off, cap, cs, e, Nat.lt_of_lt_of_le hb st.size, (st.keep b hb hk').2.trans hg, hcap, hw, fun i hi j hj => (st.cell hb hk' _).trans (hc i hi j hj), fun i hi => (h i hi).up st⟩
theorem SL.of_R {s : St} {v : Value} {w : Nat} {ds : List D} (h : R s v (.sl w ds)) : SL s L0 v w ds := by
  have h : RC s [v] (.sl w ds) := h
  generalize e : [v] = vs at h
  cases h with
  | nilsl w cap a ha => injection e with e _; exact .inl ⟨rfl, a, cap, e, ha⟩
  | sl w b off cap ds cs hb hg hcap hw hc h => injection e with e _; exact .inr ⟨b, off, cap, cs, e, hb, hg, hcap, hw, hc, h⟩
theorem R.of_SL {s : St} {v : Value} {w : Nat} {ds : List D} (h : SL s L0 v w ds) : R s v (.sl w ds) := by
  show RC s [v] (.sl w ds)
  rcases h with ⟨rfl, a, cap, rfl, ha⟩ | ⟨b, off, cap, cs, rfl, hb, hg, hcap, hw, hc, h⟩
  · exact .nilsl w cap a ha
  · exact .sl w b off cap ds cs hb hg hcap hw hc h
theorem SL.val {s : St} {l : Lab} {v : Value} {w : Nat} {ds : List D} (h : SL s l v w ds) : ∃ a cap, v = .slice a ds.length cap ∧ (a = none → ds.length = 0 ∧ cap = 0) := by
  rcases h with ⟨rfl, a, cap, rfl, ha⟩ | ⟨b, off, cap, cs, rfl, _⟩
  · exact ⟨a, cap, rfl, fun e => ⟨rfl, ha e⟩⟩
  · exact ⟨_, cap, rfl, fun e => by simp at e⟩
structure Blk (s : St) (b : Nat) (l : Lab) (cs : List Value) (T : TypeId) : Prop where
  heap : ∃ fr : Nat × Nat, s.w.heap[b]? = some (.cells cs.toArray T fr) ∧ (fr.1 = fr.2 ∨ cs.length ≤ fr.1)
  lab : s.g b = l
theorem Blk.lt {s : St} {b : Nat} {l : Lab} {cs : List Value} {T : TypeId} (h : Blk s b l cs T) : b < s.n := by
  obtain ⟨fr, h, _⟩ := h.heap
  exact (Array.getElem?_eq_some_iff.1 h).1
theorem Blk.up {K : Lab → Prop} {s s' : St} {b : Nat} {l : Lab} {cs : List Value} {T : TypeId} (h : Blk s b l cs T) (st : Step K s s') (hk : ¬ K l) : Blk s' b l cs T := by
  have hk' : ¬ K (s.g b) := by rw [h.lab]; exact hk
  obtain ⟨e1, e2⟩ := st.keep b h.lt hk'
  exact ⟨by rw [e1]; exact h.heap, e2.trans h.lab⟩
theorem Blk.cell {s : St} {b : Nat} {l : Lab} {cs : List Value} {T : TypeId} (h : Blk s b l cs T) (i : Nat) : s.w.cell? ⟨b, i, none⟩ = cs[i]? := by
  obtain ⟨fr, h, _⟩ := h.heap
  simp [World.cell?, h]
theorem Blk.frozen {s : St} {b : Nat} {l : Lab} {cs : List Value} {T : TypeId} (h : Blk s b l cs T) (i : Nat) (hi : i < cs.length) : s.w.frozen? ⟨b, i, none⟩ = false := by
  obtain ⟨⟨lo, hi'⟩, h, hf⟩ := h.heap
  simp only [World.frozen?, h]
  simp only at hf
  simp only [Bool.and_eq_false_iff, decide_eq_false_iff_not]
  omega
def At (s : St) (l : Lab) (p : Value) (d : D) : Prop :=
  ∃ (b off : Nat) (cs : List Value), p = .pointer (some ⟨b, off, none⟩) ∧ b < s.n ∧ s.g b = l ∧ (∀ j, j < cs.length → s.w.cell? ⟨b, off + j, none⟩ = cs[j]?) ∧ RC s cs d
theorem At.up {K : Lab → Prop} {s s' : St} {l : Lab} {p : Value} {d : D} (h : At s l p d) (st : Step K s s') (hk : ¬ K l) : At s' l p d := by
  obtain ⟨b, off, cs, e, hb, hg, hc, h⟩ := h
  have hk' : ¬ K (s.g b) := by rw [hg]; exact hk
  exact ⟨b, off, cs, e, Nat.lt_of_lt_of_le hb st.size, (st.keep b hb hk').2.trans hg, fun j hj => (st.cell hb hk' _).trans (hc j hj), h.up st⟩
end Go.Fw

namespace Go.Fw
structure Md where
  df : List Deferred
  rd : Option Nat
abbrev M0 : Md := ⟨[], none⟩
abbrev fnc (r : Option Nat) : Fence := { fn := fun _ => True, depth := none, alive := false, round := r }
theorem calls_in {r : Option Nat} {P : Program} {f : FuncId} {args : Array Value} {w : World} {R : Ending → World → Prop} (h : Calls P f args w R) : CallsIn (fnc r) 0 P f args w R := callsIn_wide.2 h
theorem in_calls {P : Program} {f : FuncId} {args : Array Value} {w : World} {R : Ending → World → Prop} (h : CallsIn (fnc none) 0 P f args w R) : Calls P f args w R := callsIn_wide.1 h
theorem sem_val {r : Option Nat} {P : Program} {η : Operand → Value} {o : Oper} {w w' : World} {x : Next} (hx : ∀ d, x ≠ .defer d) (h : (execOp η o).run P w = .ok x w') : (o.semAt r η).run P w = .ok x w' := by
  by_cases hd : ∃ c, o.op = .defer c
  · obtain ⟨c, hc⟩ := hd
    exfalso
    unfold execOp at h
    rw [hc] at h
    simp only [Sem.run_bind] at h
    generalize (resolve η c o.type).run P w = q at h
    cases q with
    | ok d w1 => simp only [Result.andThen, Sem.run_pure] at h; injection h with h1 h2; exact hx d h1.symm
    | halt a b => cases h
  · rw [Oper.semAt_eq r η o (fun c hc => hd ⟨c, hc⟩)]; exact h
theorem op_in {r : Option Nat} {P : Program} {o : Oper} {a : Act} {w w' : World} {K : Act → World → Prop} {Q : Exit → Act → World → Prop} {x : Next} (hx : ∀ d, x ≠ .defer d) (h : (execOp a.eval o).run P w = .ok x w')
    (hu : o.uponIn (fnc r) 0 P a K Q (.ok x w')) : o.wpIn (fnc r) 0 P a w K Q := by
  refine ⟨fun _ _ => trivial, ?_⟩
  rw [show (fnc r).round = r from rfl, sem_val hx h]
  exact hu
open Classical in
theorem wpIn_loop_ghost {F : Fence} {n : Nat} {P : Program} {Q : Exit → Act → World → Prop} {a : Act} {w : World} {c : Code} (I : Nat → Act → World → Prop) (n₀ : Nat) (h₀ : I n₀ a w)
    (round : ∀ k a w, I k a w → c.wpIn F n P (Exit.then (fun a' w' => ∃ n', n' < k ∧ I n' a' w') Q) a w) : (Code.loop c).wpIn F n P Q a w := by
  refine wpIn_loop (fun a w => ∃ n, I n a w) (fun a w => leastOf (fun n => I n a w)) ⟨n₀, h₀⟩ ?_
  intro a w hI
  refine wpIn_mono (round _ a w (leastOf_spec hI).1) ?_
  intro e a' w' hq
  cases e with
  | normal =>
    obtain ⟨n', hlt, hI'⟩ := hq
    exact show (∃ n, I n a' w') ∧ leastOf (fun n => I n a' w') < leastOf (fun n => I n a w) from ⟨⟨n', hI'⟩, Nat.lt_of_le_of_lt ((leastOf_spec ⟨n', hI'⟩).2 n' hI') hlt⟩
  | exit id => exact hq
  | goto l => exact hq
  | ret => exact hq
  | panic ch => exact hq
  | outgrown => exact hq
abbrev Env := List (Nat × Value)
def look : Env → Nat → Option Value
  | [], _ => none
  | (t, v) :: r, u => bif Nat.beq t u then some v else look r u
def ev (ρ : Env) : Operand → Option Value
  | .tmp t => look ρ t
  | .const v => some v
  | .global g => some (.pointer (some ⟨g, 0, none⟩))
  | .func f => some (.func (.func f) #[] #[])
structure Ag (n : Nat) (Df : Md) (ρ : Env) (a : Act) : Prop where
  size : a.tmps.size = n
  get : ∀ t v, look ρ t = some v → a.tmps.getD t undef = v
  defers : a.defers = Df.df
theorem Ag.ev {n : Nat} {Df : Md} {ρ : Env} {a : Act} (h : Ag n Df ρ a) {x : Operand} {v : Value} (e : ev ρ x = some v) : a.eval x = v := by
  cases x with
  | tmp t => exact h.get t v e
  | const u => exact Option.some.inj e
  | global g => exact Option.some.inj e
  | func f => exact Option.some.inj e
theorem Ag.put {n : Nat} {Df : Md} {ρ : Env} {a : Act} (h : Ag n Df ρ a) {d : Nat} (hd : Nat.blt d n = true) (v : Value) : Ag n Df ((d, v) :: ρ) (a.put (some d) v) := by
  have hd' : d < n := by simpa [Nat.blt_eq] using hd
  refine ⟨by simp [Act.put, h.size], ?_, h.defers⟩
  intro t u hl
  simp only [look] at hl
  by_cases e : d = t
  · subst e
    simp at hl
    subst hl
    simp [Act.put, Array.getD_eq_getD_getElem?, h.size, hd']
  · have e' : Nat.beq d t = false := by
      rw [← Bool.not_eq_true, Nat.beq_eq]; exact e
    rw [e'] at hl
    have := h.get t u hl
    simpa [Act.put, Array.getD_eq_getD_getElem?, Array.getElem?_setIfInBounds_ne, e] using this
theorem Ag.put_none {n : Nat} {Df : Md} {ρ : Env} {a : Act} (h : Ag n Df ρ a) (v : Value) : Ag n Df ρ (a.put none v) := h
def Sub (ρ : Env) : Env → Prop
  | [] => True
  | (t, v) :: r => look ρ t = some v ∧ Sub ρ r
theorem Sub.look {ρ : Env} : ∀ {ρ' : Env}, Sub ρ ρ' → ∀ t v, look ρ' t = some v → look ρ t = some v
  | [], _, t, v, h => by simp [Fw.look] at h
  | (u, x) :: r, ⟨h1, h2⟩, t, v, h => by
    simp only [Fw.look] at h
    by_cases e : u = t
    · subst e; simp at h; subst h; exact h1
    · have e' : Nat.beq u t = false := by rw [← Bool.not_eq_true, Nat.beq_eq]; exact e
      rw [e'] at h
      exact Sub.look h2 t v h
theorem Ag.sub {n : Nat} {Df : Md} {ρ ρ' : Env} {a : Act} (h : Ag n Df ρ a) (hs : Sub ρ ρ') : Ag n Df ρ' a := ⟨h.size, fun t v e => h.get t v (hs.look t v e), h.defers⟩
def looks (ρ : Env) : List Nat → Option (List Value)
  | [] => some []
  | t :: r => match look ρ t with
    | none => none
    | some v => match looks ρ r with
      | none => none
      | some vs => some (v :: vs)
def one : List Value → Value
  | [v] => v
  | vs => .tuple vs.toArray
@[simp] theorem one_single (v : Value) : one [v] = v := rfl
abbrev Post := Exit → Env → World → Prop
def lift (n : Nat) (Df : Md) (Q : Post) : Exit → Act → World → Prop := fun e a w => ∃ ρ, Ag n Df ρ a ∧ Q e ρ w
def CW (P : Program) (n : Nat) (Df : Md) (c : Code) (Q : Post) (ρ : Env) (w : World) : Prop := ∀ a, Ag n Df ρ a → c.wpIn (fnc Df.rd) 0 P (lift n Df Q) a w
inductive It where
  | code (c : Code)
  | blk (id : Nat)
  | stop (φ : Env → World → Prop)
def Qs (P : Program) (n : Nat) (Df : Md) (F : Post) : List It → Post
  | [], e, ρ, w => F e ρ w
  | .code c :: k, .normal, ρ, w => CW P n Df c (Qs P n Df F k) ρ w
  | .code _ :: k, .exit i, ρ, w => Qs P n Df F k (.exit i) ρ w
  | .code _ :: k, .goto l, ρ, w => Qs P n Df F k (.goto l) ρ w
  | .code _ :: k, .ret, ρ, w => Qs P n Df F k .ret ρ w
  | .code _ :: k, .panic ch, ρ, w => Qs P n Df F k (.panic ch) ρ w
  | .code _ :: k, .outgrown, ρ, w => Qs P n Df F k .outgrown ρ w
  | .blk _ :: k, .normal, ρ, w => Qs P n Df F k .normal ρ w
  | .blk id :: k, .exit i, ρ, w => bif Nat.beq i id then Qs P n Df F k .normal ρ w else Qs P n Df F k (.exit i) ρ w
  | .blk _ :: k, .goto l, ρ, w => Qs P n Df F k (.goto l) ρ w
  | .blk _ :: k, .ret, ρ, w => Qs P n Df F k .ret ρ w
  | .blk _ :: k, .panic ch, ρ, w => Qs P n Df F k (.panic ch) ρ w
  | .blk _ :: k, .outgrown, ρ, w => Qs P n Df F k .outgrown ρ w
  | .stop φ :: _, .normal, ρ, w => φ ρ w
  | .stop _ :: k, .exit i, ρ, w => Qs P n Df F k (.exit i) ρ w
  | .stop _ :: k, .goto l, ρ, w => Qs P n Df F k (.goto l) ρ w
  | .stop _ :: k, .ret, ρ, w => Qs P n Df F k .ret ρ w
  | .stop _ :: k, .panic ch, ρ, w => Qs P n Df F k (.panic ch) ρ w
  | .stop _ :: k, .outgrown, ρ, w => Qs P n Df F k .outgrown ρ w
def G (P : Program) (n : Nat) (Df : Md) (F : Post) (k : List It) (ρ : Env) (w : World) : Prop := Qs P n Df F k .normal ρ w
def KL (P : Program) (n : Nat) (Df : Md) (ops : Array Oper) (Q : Post) (l : List Oper) (ρ : Env) (w : World) : Prop :=
  ∀ a, Ag n Df ρ a → wpListIn (fnc Df.rd) 0 P ops (lift n Df Q) l a w
section
variable {P : Program} {n : Nat} {Df : Md} {F : Post} {k : List It} {ρ : Env} {w : World}
theorem CW.mono {c : Code} {Q Q' : Post} (h : CW P n Df c Q ρ w) (hq : ∀ e ρ w, Q e ρ w → Q' e ρ w) : CW P n Df c Q' ρ w :=
  fun a ha => wpIn_mono (h a ha) (fun e _ w ⟨ρ', h1, h2⟩ => ⟨ρ', h1, hq e ρ' w h2⟩)
theorem jAg {x y : Code} (h : G P n Df F (.code x :: .code y :: k) ρ w) : G P n Df F (.code (.seq x y) :: k) ρ w := by
  intro a ha
  refine wpIn_seq (wpIn_mono (h a ha) ?_)
  rintro e a' w' ⟨ρ', hag, hq⟩
  cases e with
  | normal => exact hq a' hag
  | exit i => exact ⟨ρ', hag, hq⟩
  | goto l => exact ⟨ρ', hag, hq⟩
  | ret => exact ⟨ρ', hag, hq⟩
  | panic ch => exact ⟨ρ', hag, hq⟩
  | outgrown => exact ⟨ρ', hag, hq⟩
theorem jAv (h : G P n Df F k ρ w) : G P n Df F (.code .skip :: k) ρ w := fun _ ha => wpIn_skip ⟨ρ, ha, h⟩
theorem jAw {id : Nat} {c : Code} (h : G P n Df F (.code c :: .blk id :: k) ρ w) : G P n Df F (.code (.block id c) :: k) ρ w := by
  intro a ha
  refine wpIn_block (wpIn_mono (h a ha) ?_)
  rintro e a' w' ⟨ρ', hag, hq⟩
  cases e with
  | normal => exact ⟨ρ', hag, hq⟩
  | exit i =>
    simp only [Exit.inBlock]
    simp only [Qs] at hq
    by_cases e : i = id
    · subst e; simp at hq; rw [if_pos rfl]; exact ⟨ρ', hag, hq⟩
    · have e' : Nat.beq i id = false := by rw [← Bool.not_eq_true, Nat.beq_eq]; exact e
      rw [e'] at hq
      rw [if_neg e]; exact ⟨ρ', hag, hq⟩
  | goto l => exact ⟨ρ', hag, hq⟩
  | ret => exact ⟨ρ', hag, hq⟩
  | panic ch => exact ⟨ρ', hag, hq⟩
  | outgrown => exact ⟨ρ', hag, hq⟩
theorem jCe {id : Nat} (h : G P n Df F k ρ w) : G P n Df F (.blk id :: k) ρ w := h
theorem jAu {φ : Env → World → Prop} (h : φ ρ w) : G P n Df F (.stop φ :: k) ρ w := h
def exitIt (i : Nat) : List It → Option (List It)
  | [] => none
  | .code _ :: k => exitIt i k
  | .stop _ :: k => exitIt i k
  | .blk id :: k => bif Nat.beq i id then some k else exitIt i k
theorem Qs_exit (i : Nat) : ∀ (k k' : List It), exitIt i k = some k' → Qs P n Df F k' .normal ρ w → Qs P n Df F k (.exit i) ρ w
  | [], _, h, _ => by simp [exitIt] at h
  | .code _ :: k, k', h, hq => Qs_exit i k k' h hq
  | .stop _ :: k, k', h, hq => Qs_exit i k k' h hq
  | .blk id :: k, k', h, hq => by
    simp only [exitIt] at h
    simp only [Qs]
    cases e : Nat.beq i id with
    | true => rw [e] at h; simp at h; subst h; exact hq
    | false => rw [e] at h; simp at h; exact Qs_exit i k k' h hq
theorem jBq {i : Nat} {k' : List It} (h : exitIt i k = some k') (hq : G P n Df F k' ρ w) : G P n Df F (.code (.exit i) :: k) ρ w :=
  fun _ ha => wpIn_exit ⟨ρ, ha, Qs_exit i k k' h hq⟩
theorem Qs_ret : ∀ (k : List It), F .ret ρ w → Qs P n Df F k .ret ρ w
  | [], h => h
  | .code _ :: k, h => Qs_ret k h
  | .stop _ :: k, h => Qs_ret k h
  | .blk _ :: k, h => Qs_ret k h
theorem jAx (h : F .ret ρ w) : G P n Df F (.code .ret :: k) ρ w := fun _ ha => wpIn_ret ⟨ρ, ha, Qs_ret k h⟩
theorem k_end (h : F .normal ρ w) : G P n Df F [] ρ w := h
theorem jCt {c : Operand} {x y : Code} (hc : ev ρ c = some (.bool true)) (h : G P n Df F (.code x :: k) ρ w) : G P n Df F (.code (.cond c x y) :: k) ρ w :=
  fun a ha => wpIn_cond_true (ha.ev hc) (h a ha)
theorem jCv {c : Operand} {x y : Code} (hc : ev ρ c = some (.bool false)) (h : G P n Df F (.code y :: k) ρ w) : G P n Df F (.code (.cond c x y) :: k) ρ w :=
  fun a ha => wpIn_cond_false (ha.ev hc) (h a ha)
theorem jAl {c : Operand} {x y : Code} {p : Prop} [inst : Decidable p] (hc : ev ρ c = some (.bool (decide p)))
    (ht : p → G P n Df F (.code x :: k) ρ w) (hf : ¬ p → G P n Df F (.code y :: k) ρ w) : G P n Df F (.code (.cond c x y) :: k) ρ w := by
  by_cases hp : p
  · exact jCt (by rw [hc, decide_eq_true hp]) (ht hp)
  · exact jCv (by rw [hc, decide_eq_false hp]) (hf hp)
theorem jCk {c : Operand} {x y : Code} {b : Bool} (hc : ev ρ c = some (.bool b))
    (ht : b = true → G P n Df F (.code x :: k) ρ w) (hf : b = false → G P n Df F (.code y :: k) ρ w) : G P n Df F (.code (.cond c x y) :: k) ρ w := by
  cases b
  · exact jCv hc (hf rfl)
  · exact jCt hc (ht rfl)
theorem jAh (ρ' : Env) {c : Code} (hs : Sub ρ ρ') (h : G P n Df F (.code c :: k) ρ' w) : G P n Df F (.code c :: k) ρ w := fun a ha => h a (ha.sub hs)
theorem k_cut {c : Code} (φ : Env → World → Prop) (h1 : G P n Df F (.code c :: .stop φ :: k) ρ w) (h2 : ∀ ρ' w', φ ρ' w' → G P n Df F k ρ' w') : G P n Df F (.code c :: k) ρ w := by
  refine CW.mono h1 ?_
  intro e ρ' w' hq
  cases e with
  | normal => exact h2 ρ' w' hq
  | exit i => exact hq
  | goto l => exact hq
  | ret => exact hq
  | panic ch => exact hq
  | outgrown => exact hq
theorem jAa {id : Nat} {l : List Oper} (h : KL P n Df l.toArray (Qs P n Df F k) l ρ w) : G P n Df F (.code (.region id l.toArray false) :: k) ρ w :=
  fun a ha => wpIn_region_lit (h a ha)
theorem jAi {ops : Array Oper} (h : G P n Df F k ρ w) : KL P n Df ops (Qs P n Df F k) [] ρ w := fun _ ha => ⟨ρ, ha, h⟩
def RetF (rs : List Nat) (T : Ending → World → Prop) : Post
  | .normal, ρ, w => ∃ vs, looks ρ rs = some vs ∧ T (.returned (one vs)) w
  | .ret, ρ, w => ∃ vs, looks ρ rs = some vs ∧ T (.returned (one vs)) w
  | _, _, _ => False
theorem looks_ag {a : Act} (h : Ag n Df ρ a) : ∀ {rs : List Nat} {vs : List Value}, looks ρ rs = some vs → rs.map (fun t => a.tmps.getD t undef) = vs
  | [], vs, e => by simp [looks] at e; simp [e]
  | t :: r, vs, e => by
    simp only [looks] at e
    split at e
    · simp at e
    · rename_i v hv
      split at e
      · simp at e
      · rename_i us hus
        simp at e
        subst e
        simp only [List.map_cons, h.get t v hv, looks_ag h hus]
theorem results_list {fn : Func} {rs : List Nat} (hr : fn.results = (rs.map ResultVar.tmp).toArray) (hl : Nat.ble rs.length 4 = true) (tmps : Array Value) (w : World) :
    (results fn tmps).run P w = .ok (one (rs.map fun t => tmps.getD t undef)) w := by
  match rs, hl with
  | [], _ => simp [results, hr, one]
  | [t], _ => simp [results, hr, one]
  | [t, u], _ => simp [results, hr, one]
  | [t, u, v], _ => simp [results, hr, one]
  | [t, u, v, x], _ => simp [results, hr, one]
  | _ :: _ :: _ :: _ :: _ :: r, h => simp at h
def start : Nat → List Value → Env
  | _, [] => []
  | i, v :: r => (i, v) :: start (i + 1) r
theorem start_look (args : List Value) : ∀ (i t : Nat) (v : Value), look (start i args) t = some v → i ≤ t ∧ args[t - i]? = some v := by
  induction args with
  | nil => intro i t v h; simp [start, look] at h
  | cons x r ih =>
    intro i t v h
    simp only [start, look] at h
    by_cases e : i = t
    · subst e; simp at h; subst h; simp
    · have e' : Nat.beq i t = false := by rw [← Bool.not_eq_true, Nat.beq_eq]; exact e
      rw [e'] at h
      obtain ⟨h1, h2⟩ := ih (i + 1) t v h
      refine ⟨by omega, ?_⟩
      rw [show t - i = (t - (i + 1)) + 1 by omega, List.getElem?_cons_succ]
      exact h2
theorem k_fn {f : FuncId} {fn : Func} {c : Code} {args : List Value} {rs : List Nat} {T : Ending → World → Prop} (hf : P.funcs[f]? = some fn) (hb : fn.body = some c)
    (hr : fn.results = (rs.map ResultVar.tmp).toArray) (hl : Nat.ble rs.length 4 = true) (hn : Nat.ble args.length fn.ntmps = true)
    (h : G P fn.ntmps M0 (RetF rs T) [.code c] (start 0 args) w) : Calls P f args.toArray w T := by
  refine in_calls (callsIn_of_wp (F := fnc none) hf hb trivial (wpIn_mono (h _ ?_) ?_))
  · have hn' : args.length ≤ fn.ntmps := by simpa using hn
    refine ⟨by simp; omega, ?_, rfl⟩
    intro t v e
    obtain ⟨_, h2⟩ := start_look args 0 t v e
    have h3 : t < args.length := (List.getElem?_eq_some_iff.1 h2).1
    simp only [Nat.sub_zero] at h2
    rw [List.getElem?_eq_getElem h3] at h2
    simpa [Array.getD_eq_getD_getElem?, Array.getElem?_append, h3] using h2
  · rintro e a' w' ⟨ρ', hag, hq⟩
    cases e with
    | normal =>
      obtain ⟨vs, h1, h2⟩ := hq
      refine ⟨hag.defers, one vs, ?_, h2⟩
      rw [results_list hr hl, looks_ag hag h1]
    | ret =>
      obtain ⟨vs, h1, h2⟩ := hq
      refine ⟨hag.defers, one vs, ?_, h2⟩
      rw [results_list hr hl, looks_ag hag h1]
    | exit i => exact hq.elim
    | goto l => exact hq.elim
    | panic ch => exact hq.elim
    | outgrown => exact hq.elim
end
end Go.Fw

set_option linter.unusedSimpArgs false
set_option linter.unusedVariables false
namespace Go.Fw
section
variable {P : Program} {n : Nat} {Df : Md} {ops : Array Oper} {Q : Post} {rest : List Oper} {ρ : Env} {w : World}
def Agr (ρ : Env) (η : Operand → Value) : Prop := ∀ x v, ev ρ x = some v → η x = v
theorem Agr.ev {ρ : Env} {η : Operand → Value} (h : Agr ρ η) {x : Operand} {v : Value} (e : Fw.ev ρ x = some v) : η x = v := h x v e
theorem KL.val {o : Oper} {d : Nat} {v : Value} {w' : World} (hg : o.guard = none) (hd : o.dst = some d) (hdn : Nat.blt d n = true)
    (h : ∀ a, Agr ρ a → (execOp a o).run P w = .ok (.value v) w') (hK : KL P n Df ops Q rest ((d, v) :: ρ) w') : KL P n Df ops Q (o :: rest) ρ w := by
  intro a ha
  refine wpListIn_plain hg fun K hk => ?_
  refine op_in (x := .value v) (by intro d e; cases e) (h a.eval (fun _ _ e => ha.ev e)) ?_
  show K (a.put o.dst v) w'
  rw [hd]
  exact hk _ _ (hK _ (ha.put hdn v))
theorem KL.eff {o : Oper} {w' : World} (hg : o.guard = none) (hd : o.dst = none)
    (h : ∀ a, Agr ρ a → (execOp a o).run P w = .ok .skip w') (hK : KL P n Df ops Q rest ρ w') : KL P n Df ops Q (o :: rest) ρ w := by
  intro a ha
  refine wpListIn_plain hg fun K hk => ?_
  refine op_in (x := .skip) (by intro d e; cases e) (h a.eval (fun _ _ e => ha.ev e)) ?_
  show K (a.put o.dst undef) w'
  rw [hd]
  exact hk _ _ (hK _ (ha.put_none _))
theorem yielded_of {ρ : Env} {n : Nat} {Df : Md} {a : Act} {ops : Array Oper} {j d : Nat} {b : Bool} (ha : Ag n Df ρ a) (hj : (ops[j]?).bind (·.dst) = some d) (hv : look ρ d = some (.bool b)) :
    yielded ops a.tmps j = some b := by
  have h1 := ha.get d _ hv
  unfold yielded
  rw [hj]
  rw [Array.getD_eq_getD_getElem?] at h1
  simp only [Option.bind_some]
  cases hq : a.tmps[d]? with
  | none => rw [hq] at h1; simp [undef] at h1
  | some q => rw [hq] at h1; simp at h1; simp [h1]
theorem jAn {dst : Option Tmp} {op : Op} {ty : TypeId} {pos : String} {aft : Array Edge} {j d : Nat} {b : Bool}
    (hj : (ops[j]?).bind (·.dst) = some d) (hv : look ρ d = some (.bool b))
    (h : KL P n Df ops Q (⟨dst, op, ty, pos, aft, none⟩ :: rest) ρ w) : KL P n Df ops Q (⟨dst, op, ty, pos, aft, some (j, b)⟩ :: rest) ρ w := by
  intro a ha
  have h' := h a ha
  have hy : yielded ops a.tmps j = some (b) := yielded_of ha hj hv
  unfold wpListIn at h' ⊢
  have e1 : Region.wanted ⟨dst, op, ty, pos, aft, none⟩ (yielded ops a.tmps) = true := rfl
  have e2 : Region.wanted ⟨dst, op, ty, pos, aft, some (j, b)⟩ (yielded ops a.tmps) = true := by simp [Region.wanted, hy]
  rw [if_pos e1] at h'
  rw [if_pos e2]
  exact h'
theorem k_no {dst : Option Tmp} {op : Op} {ty : TypeId} {pos : String} {aft : Array Edge} {j d : Nat} {b : Bool} {t : Nat}
    (hj : (ops[j]?).bind (·.dst) = some d) (hv : look ρ d = some (.bool (!b))) (hd : dst = some t) (hdn : Nat.blt t n = true)
    (h : KL P n Df ops Q rest ((t, undef) :: ρ) w) : KL P n Df ops Q (⟨dst, op, ty, pos, aft, some (j, b)⟩ :: rest) ρ w := by
  intro a ha
  have hy : yielded ops a.tmps j = some (!b) := yielded_of ha hj hv
  unfold wpListIn
  have e2 : Region.wanted ⟨dst, op, ty, pos, aft, some (j, b)⟩ (yielded ops a.tmps) = false := by simp [Region.wanted, hy]
  rw [if_neg (by rw [e2]; simp)]
  subst hd
  exact ⟨fun _ _ => trivial, h _ (ha.put hdn _)⟩
theorem jBh {t : Nat} {l : List Oper} {p : Prop} [inst : Decidable p]
    (ht : p → KL P n Df ops Q l ((t, .bool true) :: ρ) w) (hf : ¬ p → KL P n Df ops Q l ((t, .bool false) :: ρ) w) : KL P n Df ops Q l ((t, .bool (decide p)) :: ρ) w := by
  by_cases hp : p
  · rw [decide_eq_true hp]; exact ht hp
  · rw [decide_eq_false hp]; exact hf hp
theorem jCn {t : Nat} {l : List Oper} {b : Bool}
    (ht : b = true → KL P n Df ops Q l ((t, .bool true) :: ρ) w) (hf : b = false → KL P n Df ops Q l ((t, .bool false) :: ρ) w) : KL P n Df ops Q l ((t, .bool b) :: ρ) w := by
  cases b
  · exact hf rfl
  · exact ht rfl
theorem k_as {l : List Oper} {t : Nat} {u v : Value} (e : u = v) (h : KL P n Df ops Q l ((t, v) :: ρ) w) : KL P n Df ops Q l ((t, u) :: ρ) w := e ▸ h
variable {d : Nat} {ty : TypeId} {pos : String} {aft : Array Edge}
theorem jAc {x : Operand} {v : Value} (hx : ev ρ x = some v) (hd : Nat.blt d n = true) (hK : KL P n Df ops Q rest ((d, v) :: ρ) w) :
    KL P n Df ops Q (⟨some d, .move x, ty, pos, aft, none⟩ :: rest) ρ w :=
  .val rfl rfl hd (fun a ha => by simp [execOp, ha.ev hx, go_sem]) hK
theorem jAd {x : Operand} {v : Value} (hx : ev ρ x = some v) (hd : Nat.blt d n = true) (hK : KL P n Df ops Q rest ((d, v) :: ρ) w) :
    KL P n Df ops Q (⟨some d, .assign x, ty, pos, aft, none⟩ :: rest) ρ w :=
  .val rfl rfl hd (fun a ha => by simp [execOp, ha.ev hx, go_sem]) hK
theorem k_pick {c x y : Operand} {b : Bool} {v u : Value} (hc : ev ρ c = some (.bool b)) (hx : ev ρ x = some v) (hy : ev ρ y = some u) (hd : Nat.blt d n = true)
    (hK : KL P n Df ops Q rest ((d, bif b then v else u) :: ρ) w) : KL P n Df ops Q (⟨some d, .pick c x y, ty, pos, aft, none⟩ :: rest) ρ w :=
  .val rfl rfl hd (fun a ha => by cases b <;> simp [execOp, ha.ev hc, ha.ev hx, ha.ev hy, asBool, go_sem]) hK
section ints
variable {k : IntKind} {x y : Operand} {tx tyy : TypeId} {p q : Int}
theorem jBo (hx : ev ρ x = some (.int k p)) (hy : ev ρ y = some (.int k q)) (hd : Nat.blt d n = true)
    (hK : KL P n Df ops Q rest ((d, .int k (k.wrap (p + q))) :: ρ) w) : KL P n Df ops Q (⟨some d, .binOp .add tx x y tyy, ty, pos, aft, none⟩ :: rest) ρ w :=
  .val rfl rfl hd (fun a ha => by simp [execOp, ha.ev hx, ha.ev hy, eqGuard, binOp, Op.intArith, go_sem]) hK
theorem jDa (hx : ev ρ x = some (.int k p)) (hy : ev ρ y = some (.int k q)) (hd : Nat.blt d n = true)
    (hK : KL P n Df ops Q rest ((d, .int k (k.wrap (p - q))) :: ρ) w) : KL P n Df ops Q (⟨some d, .binOp .sub tx x y tyy, ty, pos, aft, none⟩ :: rest) ρ w :=
  .val rfl rfl hd (fun a ha => by simp [execOp, ha.ev hx, ha.ev hy, eqGuard, binOp, Op.intArith, go_sem]) hK
theorem jDi (hx : ev ρ x = some (.int k p)) (hy : ev ρ y = some (.int k q)) (hd : Nat.blt d n = true)
    (hK : KL P n Df ops Q rest ((d, .int k (k.wrap (p * q))) :: ρ) w) : KL P n Df ops Q (⟨some d, .binOp .mul tx x y tyy, ty, pos, aft, none⟩ :: rest) ρ w :=
  .val rfl rfl hd (fun a ha => by simp [execOp, ha.ev hx, ha.ev hy, eqGuard, binOp, Op.intArith, go_sem]) hK
theorem k_quo (hx : ev ρ x = some (.int k p)) (hy : ev ρ y = some (.int k q)) (hq : q ≠ 0) (hd : Nat.blt d n = true)
    (hK : KL P n Df ops Q rest ((d, .int k (k.wrap (p.tdiv q))) :: ρ) w) : KL P n Df ops Q (⟨some d, .binOp .quo tx x y tyy, ty, pos, aft, none⟩ :: rest) ρ w :=
  .val rfl rfl hd (fun a ha => by simp [execOp, ha.ev hx, ha.ev hy, eqGuard, binOp, Op.intDiv, hq]) hK
theorem k_rem (hx : ev ρ x = some (.int k p)) (hy : ev ρ y = some (.int k q)) (hq : q ≠ 0) (hd : Nat.blt d n = true)
    (hK : KL P n Df ops Q rest ((d, .int k (p.tmod q)) :: ρ) w) : KL P n Df ops Q (⟨some d, .binOp .rem tx x y tyy, ty, pos, aft, none⟩ :: rest) ρ w :=
  .val rfl rfl hd (fun a ha => by simp [execOp, ha.ev hx, ha.ev hy, eqGuard, binOp, Op.intDiv, hq]) hK
theorem jCm {op : BinOp} {f : ∀ m, BitVec m → BitVec m → BitVec m} (hop : (op = .and ∧ f = fun _ a b => a &&& b) ∨ (op = .or ∧ f = fun _ a b => a ||| b) ∨ (op = .xor ∧ f = fun _ a b => a ^^^ b) ∨ (op = .andNot ∧ f = fun _ a b => a &&& ~~~b))
    (hx : ev ρ x = some (.int k p)) (hy : ev ρ y = some (.int k q)) (hd : Nat.blt d n = true)
    (hK : KL P n Df ops Q rest ((d, .int k (k.wrap (f k.bits (BitVec.ofInt k.bits p) (BitVec.ofInt k.bits q)).toNat)) :: ρ) w) : KL P n Df ops Q (⟨some d, .binOp op tx x y tyy, ty, pos, aft, none⟩ :: rest) ρ w := by
  refine .val rfl rfl hd (fun a ha => ?_) hK
  rcases hop with ⟨rfl, rfl⟩ | ⟨rfl, rfl⟩ | ⟨rfl, rfl⟩ | ⟨rfl, rfl⟩ <;> simp [execOp, ha.ev hx, ha.ev hy, eqGuard, binOp, Op.intBits]
theorem k_shl {k' : IntKind} (hx : ev ρ x = some (.int k p)) (hy : ev ρ y = some (.int k' q)) (hq : 0 ≤ q) (hd : Nat.blt d n = true)
    (hK : KL P n Df ops Q rest ((d, .int k (k.wrap (p * 2 ^ (min q.toNat k.bits)))) :: ρ) w) : KL P n Df ops Q (⟨some d, .binOp .shl tx x y tyy, ty, pos, aft, none⟩ :: rest) ρ w :=
  .val rfl rfl hd (fun a ha => by simp [execOp, ha.ev hx, ha.ev hy, eqGuard, binOp, Op.shift, Int.not_lt.2 hq]) hK
theorem k_shr {k' : IntKind} (hx : ev ρ x = some (.int k p)) (hy : ev ρ y = some (.int k' q)) (hq : 0 ≤ q) (hd : Nat.blt d n = true)
    (hK : KL P n Df ops Q rest ((d, .int k (p.fdiv (2 ^ (min q.toNat k.bits)))) :: ρ) w) : KL P n Df ops Q (⟨some d, .binOp .shr tx x y tyy, ty, pos, aft, none⟩ :: rest) ρ w :=
  .val rfl rfl hd (fun a ha => by simp [execOp, ha.ev hx, ha.ev hy, eqGuard, binOp, Op.shift, Int.not_lt.2 hq]) hK
theorem beqInt (p q : Int) : (p == q) = decide (p = q) := rfl
theorem jCc (hx : ev ρ x = some (.int k p)) (hy : ev ρ y = some (.int k q)) (hd : Nat.blt d n = true)
    (hK : KL P n Df ops Q rest ((d, .bool (decide (p = q))) :: ρ) w) : KL P n Df ops Q (⟨some d, .binOp .eql tx x y tyy, ty, pos, aft, none⟩ :: rest) ρ w :=
  .val rfl rfl hd (fun a ha => by simp [execOp, ha.ev hx, ha.ev hy, eqGuard, binOp, Op.intCmp, beqInt]) hK
theorem jDe (hx : ev ρ x = some (.int k p)) (hy : ev ρ y = some (.int k q)) (hd : Nat.blt d n = true)
    (hK : KL P n Df ops Q rest ((d, .bool (decide (p ≠ q))) :: ρ) w) : KL P n Df ops Q (⟨some d, .binOp .neq tx x y tyy, ty, pos, aft, none⟩ :: rest) ρ w :=
  .val rfl rfl hd (fun a ha => by simp [execOp, ha.ev hx, ha.ev hy, eqGuard, binOp, Op.intCmp, bne, beqInt]) hK
theorem jBw (hx : ev ρ x = some (.int k p)) (hy : ev ρ y = some (.int k q)) (hd : Nat.blt d n = true)
    (hK : KL P n Df ops Q rest ((d, .bool (decide (p < q))) :: ρ) w) : KL P n Df ops Q (⟨some d, .binOp .lss tx x y tyy, ty, pos, aft, none⟩ :: rest) ρ w :=
  .val rfl rfl hd (fun a ha => by simp [execOp, ha.ev hx, ha.ev hy, eqGuard, binOp, Op.intCmp]) hK
theorem k_leq (hx : ev ρ x = some (.int k p)) (hy : ev ρ y = some (.int k q)) (hd : Nat.blt d n = true)
    (hK : KL P n Df ops Q rest ((d, .bool (decide (p ≤ q))) :: ρ) w) : KL P n Df ops Q (⟨some d, .binOp .leq tx x y tyy, ty, pos, aft, none⟩ :: rest) ρ w :=
  .val rfl rfl hd (fun a ha => by simp [execOp, ha.ev hx, ha.ev hy, eqGuard, binOp, Op.intCmp]) hK
theorem jCu (hx : ev ρ x = some (.int k p)) (hy : ev ρ y = some (.int k q)) (hd : Nat.blt d n = true)
    (hK : KL P n Df ops Q rest ((d, .bool (decide (q < p))) :: ρ) w) : KL P n Df ops Q (⟨some d, .binOp .gtr tx x y tyy, ty, pos, aft, none⟩ :: rest) ρ w :=
  .val rfl rfl hd (fun a ha => by simp [execOp, ha.ev hx, ha.ev hy, eqGuard, binOp, Op.intCmp]) hK
theorem k_geq (hx : ev ρ x = some (.int k p)) (hy : ev ρ y = some (.int k q)) (hd : Nat.blt d n = true)
    (hK : KL P n Df ops Q rest ((d, .bool (decide (q ≤ p))) :: ρ) w) : KL P n Df ops Q (⟨some d, .binOp .geq tx x y tyy, ty, pos, aft, none⟩ :: rest) ρ w :=
  .val rfl rfl hd (fun a ha => by simp [execOp, ha.ev hx, ha.ev hy, eqGuard, binOp, Op.intCmp]) hK
theorem jDd {b : Bool} (hx : ev ρ x = some (.bool b)) (hd : Nat.blt d n = true)
    (hK : KL P n Df ops Q rest ((d, .bool (!b)) :: ρ) w) : KL P n Df ops Q (⟨some d, .unOp .not tx x, ty, pos, aft, none⟩ :: rest) ρ w :=
  .val rfl rfl hd (fun a ha => by simp [execOp, ha.ev hx, Op.unary]) hK
theorem k_neg (hx : ev ρ x = some (.int k p)) (hd : Nat.blt d n = true)
    (hK : KL P n Df ops Q rest ((d, .int k (k.wrap (0 - p))) :: ρ) w) : KL P n Df ops Q (⟨some d, .unOp .neg tx x, ty, pos, aft, none⟩ :: rest) ρ w :=
  .val rfl rfl hd (fun a ha => by simp [execOp, ha.ev hx, Op.unary, Op.intArith]) hK
theorem k_eqlb {b c : Bool} (hT : P.underlying tx = some .bool) (hx : ev ρ x = some (.bool b)) (hy : ev ρ y = some (.bool c)) (hd : Nat.blt d n = true)
    (hK : KL P n Df ops Q rest ((d, .bool (b == c)) :: ρ) w) : KL P n Df ops Q (⟨some d, .binOp .eql tx x y tyy, ty, pos, aft, none⟩ :: rest) ρ w :=
  .val rfl rfl hd (fun a ha => by simp [execOp, ha.ev hx, ha.ev hy, eqGuard, run_eql_bool w tx b c hT]) hK
theorem jBz {k' : IntKind} {ts td : TypeId} {u : TypeDesc} (hs : P.underlying ts = some u) (ht : P.underlying td = some (.int k')) (hx : ev ρ x = some (.int k p)) (hd : Nat.blt d n = true)
    (hK : KL P n Df ops Q rest ((d, .int k' (k'.wrap p)) :: ρ) w) : KL P n Df ops Q (⟨some d, .convert ts td x, ty, pos, aft, none⟩ :: rest) ρ w :=
  .val rfl rfl hd (fun a ha => by simp [execOp, ha.ev hx, convert, run_underlying hs, run_underlying ht, Conv.intToInt]) hK
end ints
end
end Go.Fw

set_option linter.unusedSimpArgs false
set_option linter.unusedVariables false
namespace Go.Fw
abbrev S (l : List UInt8) : Value := .string ⟨l.toArray⟩
abbrev bD (b : UInt8) : D := .val (.int .u8 b.toNat)
abbrev Bs (l : List UInt8) : List D := l.map bD
theorem S_size (l : List UInt8) : (ByteArray.mk l.toArray).size = l.length := by simp [ByteArray.size]
def Ret (s : St) (K : Lab → Prop) (φ : St → Value → Prop) : Ending → World → Prop :=
  fun e w => ∃ s' v, s'.w = w ∧ e = .returned v ∧ Step K s s' ∧ φ s' v
def Callable (P : Program) (f : FuncId) : Prop := ∃ fn, P.funcs[f]? = some fn ∧ (fn.name == "runtime.NumGoroutine") = false ∧ fn.body.isNone = false
section
variable {P : Program} {n : Nat} {Df : Md} {ops : Array Oper} {Q : Post} {rest : List Oper} {ρ : Env} {w : World}
variable {d : Nat} {ty : TypeId} {pos : String} {aft : Array Edge} {x y : Operand} {tx tyy : TypeId}
def evs (ρ : Env) : List Operand → Option (List Value)
  | [] => some []
  | x :: r => match ev ρ x with
    | none => none
    | some v => match evs ρ r with
      | none => none
      | some vs => some (v :: vs)
theorem Agr.evs {η : Operand → Value} (h : Agr ρ η) : ∀ {xs : List Operand} {vs : List Value}, Fw.evs ρ xs = some vs → xs.map η = vs
  | [], vs, e => by simp [Fw.evs] at e; simp [e]
  | x :: r, vs, e => by
    simp only [Fw.evs] at e
    split at e
    · simp at e
    · rename_i v hv
      split at e
      · simp at e
      · rename_i us hus
        simp at e
        subst e
        simp only [List.map_cons, h.ev hv, h.evs hus]
theorem k_call_raw {f : FuncId} {xs : List Operand} {ats : Array TypeId} {vs : List Value} {o : Oper} (hg : o.guard = none)
    (ho : o.op = .call { callee := .value (.func f), args := xs.toArray, argTypes := ats }) (hf : Callable P f) (hx : evs ρ xs = some vs)
    {T : Ending → World → Prop} (hc : Calls P f vs.toArray w T)
    (hK : ∀ v w', T (.returned v) w' → ∀ a, Ag n Df ρ a → wpListIn (fnc Df.rd) 0 P ops (lift n Df Q) rest (a.put o.dst v) w') (hT : ∀ e w', T e w' → ∃ v, e = .returned v) : KL P n Df ops Q (o :: rest) ρ w := by
  intro a ha
  refine wpListIn_plain hg fun K hk => ?_
  obtain ⟨fn, h1, h2, h3⟩ := hf
  have hr : (execOp a.eval o).run P w = .ok (.enter f vs.toArray) w := by
    have hx' := Agr.evs (η := a.eval) (fun _ _ e => ha.ev e) hx
    have hff : a.eval (.func f) = .func (.func f) #[] #[] := rfl
    unfold execOp
    simp only [ho, resolve, Deferred.ofValue, hff]
    have h2' : ¬ fn.name = "runtime.NumGoroutine" := by intro e; rw [e] at h2; simp at h2
    have h3' : ¬ fn.body = none := by intro e; rw [e] at h3; simp at h3
    simp [invoke, callFunc, h1, h2', h3', hx', program, Sem.run, go_sem]
  refine op_in (x := .enter f vs.toArray) (by intro d e; cases e) hr ?_
  rw [Oper.uponIn_enter]
  refine ⟨fun h => absurd h (by simp), calls_in (hc.mono ?_)⟩
  intro e w' hT'
  obtain ⟨v, rfl⟩ := hT e w' hT'
  exact hk _ _ (hK v w' hT' a ha)
theorem jAp {s : St} {K : Lab → Prop} {φ : St → Value → Prop} {f : FuncId} {xs : List Operand} {ats : Array TypeId} {vs : List Value} (hf : Callable P f) (hx : evs ρ xs = some vs)
    (hc : Calls P f vs.toArray s.w (Ret s K φ)) (hd : Nat.blt d n = true)
    (hK : ∀ s' v, Step K s s' → φ s' v → KL P n Df ops Q rest ((d, v) :: ρ) s'.w) :
    KL P n Df ops Q (⟨some d, .call { callee := .value (.func f), args := xs.toArray, argTypes := ats }, ty, pos, aft, none⟩ :: rest) ρ s.w := by
  refine k_call_raw rfl rfl hf hx hc ?_ ?_
  · rintro v w' ⟨s', v', rfl, e, st, h⟩ a ha
    injection e with e
    subst e
    exact hK s' v st h _ (ha.put hd v)
  · rintro e w' ⟨s', v', rfl, e, st, h⟩
    exact ⟨v', e⟩
theorem Ret.mk {s s' : St} {K : Lab → Prop} {φ : St → Value → Prop} {v : Value} (st : Step K s s') (h : φ s' v) : Ret s K φ (.returned v) s'.w := ⟨s', v, rfl, rfl, st, h⟩
theorem beq_eq_decide' (l m : List UInt8) : (l == m) = decide (l = m) := by rw [Bool.eq_iff_iff]; simp
theorem jCf {l : List UInt8} (hT : P.underlying tx = some .string) (hx : ev ρ x = some (S l)) (hd : Nat.blt d n = true)
    (hK : KL P n Df ops Q rest ((d, .int .i64 l.length) :: ρ) w) :
    KL P n Df ops Q (⟨some d, .call { callee := .builtin .len, args := [x].toArray, argTypes := [tx].toArray }, ty, pos, aft, none⟩ :: rest) ρ w :=
  .val rfl rfl hd (fun a ha => by simp [execOp, resolve, invoke, builtin, ha.ev hx, Builtin.len_, run_underlying hT, goInt, S_size]) hK
theorem jBi {l : List UInt8} {k : IntKind} {p : Int} (hT : P.underlying tx = some .string) (hx : ev ρ x = some (S l)) (hy : ev ρ y = some (.int k p)) (h0 : 0 ≤ p) (h1 : p < l.length) (hd : Nat.blt d n = true)
    (hK : KL P n Df ops Q rest ((d, .int .u8 (l.getD p.toNat 0).toNat) :: ρ) w) : KL P n Df ops Q (⟨some d, .index tx x y, ty, pos, aft, none⟩ :: rest) ρ w :=
  .val rfl rfl hd (fun a ha => by
    have hp : p.toNat < l.length := by omega
    have e : (ByteArray.mk l.toArray)[p.toNat]? = some (l.getD p.toNat 0) := by
      rw [getElem?_pos _ _ (by rw [S_size]; exact hp)]
      simp [ByteArray.getElem_eq_getElem_data, List.getD, hp]
    simp [execOp, ha.ev hx, ha.ev hy, Instr.index, asIntOf, run_underlying hT, h0, e]) hK
theorem k_slice_str {l : List UInt8} {lo hi : Option Operand} {a b : Nat} (hT : P.underlying tx = some .string) (hx : ev ρ x = some (S l))
    (hlo : match lo with | none => a = 0 | some z => ∃ k, ev ρ z = some (.int k a)) (hhi : match hi with | none => b = l.length | some z => ∃ k, ev ρ z = some (.int k b))
    (h1 : a ≤ b) (h2 : b ≤ l.length) (hd : Nat.blt d n = true)
    (hK : KL P n Df ops Q rest ((d, S ((l.drop a).take (b - a))) :: ρ) w) : KL P n Df ops Q (⟨some d, .slice tx x lo hi none, ty, pos, aft, none⟩ :: rest) ρ w :=
  .val rfl rfl hd (fun η ha => by
    have e : (ByteArray.mk l.toArray).extract a b = ⟨((l.drop a).take (b - a)).toArray⟩ := by
      apply ByteArray.ext
      rw [ByteArray.data_extract]
      simp [List.take_drop, Nat.add_sub_cancel' h1]
    have hs := S_size l
    have hs' : (ByteArray.mk l.toArray).data.size = l.length := by simp
    cases lo with
    | none =>
      simp only at hlo
      subst hlo
      cases hi with
      | none => simp only at hhi; subst hhi; simp [execOp, ha.ev hx, Instr.sliceAt, Instr.slice, Instr.sliceBounds, run_underlying hT, hs]
      | some z => obtain ⟨k, hz⟩ := hhi; simp [execOp, ha.ev hx, ha.ev hz, Instr.sliceAt, Instr.slice, Instr.sliceBounds, Instr.sliceBound, asIntOf, run_underlying hT, hs, h2]; simpa using e
    | some y =>
      obtain ⟨k, hy⟩ := hlo
      cases hi with
      | none => simp only at hhi; subst hhi; simp [execOp, ha.ev hx, ha.ev hy, Instr.sliceAt, Instr.slice, Instr.sliceBounds, Instr.sliceBound, asIntOf, run_underlying hT, hs, h1]; simpa [hs] using e
      | some z => obtain ⟨k', hz⟩ := hhi; simp [execOp, ha.ev hx, ha.ev hy, ha.ev hz, Instr.sliceAt, Instr.slice, Instr.sliceBounds, Instr.sliceBound, asIntOf, run_underlying hT, hs, h1, h2]; simpa using e) hK
theorem jCq {l m : List UInt8} (hx : ev ρ x = some (S l)) (hy : ev ρ y = some (S m)) (hl : l.length + m.length ≤ 9223372036854775807) (hd : Nat.blt d n = true)
    (hK : KL P n Df ops Q rest ((d, S (l ++ m)) :: ρ) w) : KL P n Df ops Q (⟨some d, .binOp .add tx x y tyy, ty, pos, aft, none⟩ :: rest) ρ w :=
  .val rfl rfl hd (fun η ha => by
    have e : (ByteArray.mk l.toArray) ++ (ByteArray.mk m.toArray) = ⟨(l ++ m).toArray⟩ := by apply ByteArray.ext; simp
    have hm : ¬ ((9223372036854775807 : Int) < (l.length : Int) + (m.length : Int)) := by omega
    simp [execOp, ha.ev hx, ha.ev hy, eqGuard, binOp, Op.stringOp, S_size, e, IntKind.max, IntKind.signed, IntKind.bits, hm]) hK
theorem k_eql_str {l m : List UInt8} (hx : ev ρ x = some (S l)) (hy : ev ρ y = some (S m)) (hd : Nat.blt d n = true)
    (hK : KL P n Df ops Q rest ((d, .bool (decide (l = m))) :: ρ) w) : KL P n Df ops Q (⟨some d, .binOp .eql tx x y tyy, ty, pos, aft, none⟩ :: rest) ρ w :=
  .val rfl rfl hd (fun η ha => by simp [execOp, ha.ev hx, ha.ev hy, eqGuard, binOp, Op.stringOp, beq_eq_decide']) hK
theorem k_neq_str {l m : List UInt8} (hx : ev ρ x = some (S l)) (hy : ev ρ y = some (S m)) (hd : Nat.blt d n = true)
    (hK : KL P n Df ops Q rest ((d, .bool (decide (l ≠ m))) :: ρ) w) : KL P n Df ops Q (⟨some d, .binOp .neq tx x y tyy, ty, pos, aft, none⟩ :: rest) ρ w :=
  .val rfl rfl hd (fun η ha => by simp [execOp, ha.ev hx, ha.ev hy, eqGuard, binOp, Op.stringOp, beq_eq_decide']) hK
theorem k_geq_str {l m : List UInt8} (hx : ev ρ x = some (S l)) (hy : ev ρ y = some (S m)) (hd : Nat.blt d n = true)
    (hK : KL P n Df ops Q rest ((d, .bool (!Op.bytesLess l m)) :: ρ) w) : KL P n Df ops Q (⟨some d, .binOp .geq tx x y tyy, ty, pos, aft, none⟩ :: rest) ρ w :=
  .val rfl rfl hd (fun η ha => by simp [execOp, ha.ev hx, ha.ev hy, eqGuard, binOp, Op.stringOp]) hK
theorem k_eql_snil {a : Option Addr} {l c : Nat} {e : TypeId} (hT : P.underlying tx = some (.slice e)) (hx : ev ρ x = some (.slice a l c)) (hy : ev ρ y = some (.slice none 0 0)) (hd : Nat.blt d n = true)
    (hK : KL P n Df ops Q rest ((d, .bool a.isNone) :: ρ) w) : KL P n Df ops Q (⟨some d, .binOp .eql tx x y tyy, ty, pos, aft, none⟩ :: rest) ρ w :=
  .val rfl rfl hd (fun η ha => by simp [execOp, ha.ev hx, ha.ev hy, eqGuard, Lib.run_eql_slice_nil w tx e a l c 0 0 hT]) hK
theorem jBk {a : Addr} (hx : ev ρ x = some (.pointer (some a))) (hd : Nat.blt d n = true)
    (hK : KL P n Df ops Q rest ((d, .pointer (some a)) :: ρ) w) : KL P n Df ops Q (⟨some d, .nilCheck x, ty, pos, aft, none⟩ :: rest) ρ w :=
  .val rfl rfl hd (fun η ha => by simp [execOp, ha.ev hx]) hK
theorem k_max2 {k k' : IntKind} {p q : Int} {ats : Array TypeId} (hx : ev ρ x = some (.int k p)) (hy : ev ρ y = some (.int k' q)) (hd : Nat.blt d n = true)
    (hK : KL P n Df ops Q rest ((d, .int k (max p q)) :: ρ) w) :
    KL P n Df ops Q (⟨some d, .call { callee := .builtin .max, args := [x, y].toArray, argTypes := ats }, ty, pos, aft, none⟩ :: rest) ρ w :=
  .val rfl rfl hd (fun a ha => by
    have e : (if q > p then q else p) = max p q := by omega
    simp [execOp, resolve, invoke, builtin, ha.ev hx, ha.ev hy, run_max_int2, e]) hK
theorem jBd {vs : List Value} {v : Value} {i : Nat} (hx : ev ρ x = some (.tuple vs.toArray)) (hv : vs[i]? = some v) (hd : Nat.blt d n = true)
    (hK : KL P n Df ops Q rest ((d, v) :: ρ) w) : KL P n Df ops Q (⟨some d, .extract x i, ty, pos, aft, none⟩ :: rest) ρ w :=
  .val rfl rfl hd (fun η ha => by simp [execOp, ha.ev hx, Instr.extract, hv]) hK
theorem jDg {fn : Fn} {xs ys : List Operand} {vs us : List Value} (hx : evs ρ xs = some vs) (hy : evs ρ ys = some us) (hd : Nat.blt d n = true)
    (hK : KL P n Df ops Q rest ((d, .func fn vs.toArray us.toArray) :: ρ) w) : KL P n Df ops Q (⟨some d, .makeFunc fn xs.toArray ys.toArray, ty, pos, aft, none⟩ :: rest) ρ w :=
  .val rfl rfl hd (fun η ha => by simp [execOp, ha.evs hx, ha.evs hy, Instr.makeFunc]) hK
end
end Go.Fw

set_option linter.unusedSimpArgs false
set_option linter.unusedVariables false
namespace Go.Fw
def oneT (P : Program) (t : TypeId) : Bool := match P.underlying t with
  | some (.struct _) => false
  | some (.array _ _) => false
  | some _ => true
  | none => false
def aggT (P : Program) (t : TypeId) (m : Nat) : Bool := match P.underlying t with
  | some (.struct _) => (match P.info? t with | some i => i.size == m | none => false)
  | some (.array _ _) => (match P.info? t with | some i => i.size == m | none => false)
  | _ => false
def fieldT (P : Program) (t : TypeId) (f : Nat) : Option Nat := match P.underlying t with
  | some (.struct fs) => (match fs[f]? with
    | some fd => (match P.info? fd.type with | some i => if i.size = 0 then none else some fd.offset | none => none)
    | none => none)
  | _ => none
def sizeT (P : Program) (t : TypeId) (m : Nat) : Bool := match P.info? t with | some i => i.size == m | none => false
def zeroT (P : Program) (t : TypeId) : Option Value := match P.info? t with | some i => i.zero | none => none
section
variable {P : Program} {w : World}
theorem run_isAgg_one {t : TypeId} (h : oneT P t = true) : (isAgg t).run P w = .ok false w := by
  unfold oneT at h
  cases hu : P.underlying t with
  | none => rw [hu] at h; simp at h
  | some u => rw [hu] at h; cases u <;> simp_all [isAgg, run_underlying hu]
theorem run_isAgg_agg {t : TypeId} {m : Nat} (h : aggT P t m = true) : (isAgg t).run P w = .ok true w := by
  unfold aggT at h
  cases hu : P.underlying t with
  | none => rw [hu] at h; simp at h
  | some u => rw [hu] at h; cases u <;> simp_all [isAgg, run_underlying hu]
theorem run_sizeOf_agg {t : TypeId} {m : Nat} (h : aggT P t m = true) : (sizeOf t).run P w = .ok m w := by
  unfold aggT at h
  cases hi : P.info? t with
  | none => rw [hi] at h; cases hu : P.underlying t with
    | none => rw [hu] at h; simp at h
    | some u => rw [hu] at h; cases u <;> simp_all
  | some i => rw [hi] at h; cases hu : P.underlying t with
    | none => rw [hu] at h; simp at h
    | some u => rw [hu] at h; cases u <;> simp_all [sizeOf, typeInfo, hi]
theorem run_sizeOf {t : TypeId} {m : Nat} (h : sizeT P t m = true) : (sizeOf t).run P w = .ok m w := by
  unfold sizeT at h
  cases hi : P.info? t with
  | none => rw [hi] at h; simp at h
  | some i => rw [hi] at h; simp at h; simp [sizeOf, typeInfo, hi, h]
theorem run_zeroValue {t : TypeId} {v : Value} (h : zeroT P t = some v) : (zeroValue t).run P w = .ok v w := by
  unfold zeroT at h
  cases hi : P.info? t with
  | none => rw [hi] at h; simp at h
  | some i => rw [hi] at h; simp at h; simp [zeroValue, typeInfo, hi, h]
theorem run_load {a : Addr} {v : Value} (h : w.cell? a = some v) : (load a).run P w = .ok v w := by simp [load, Sem.run, h]
theorem run_loadCells {b off : Nat} {cs : List Value} (h : ∀ j, j < cs.length → w.cell? ⟨b, off + j, none⟩ = cs[j]?) : (loadCells ⟨b, off, none⟩ cs.length).run P w = .ok cs.toArray w := by
  have key : ∀ (m i : Nat) (acc : Array Value), i + m = cs.length → (loadCellsFrom ⟨b, off, none⟩ i m acc).run P w = .ok (acc ++ (cs.drop i).toArray) w := by
    intro m
    induction m with
    | zero => intro i acc hi; simp [loadCellsFrom, List.drop_eq_nil_of_le (show cs.length ≤ i by omega)]
    | succ m ih =>
      intro i acc hi
      have hlt : i < cs.length := by omega
      have ha : (⟨b, off, none⟩ : Addr).add i = ⟨b, off + i, none⟩ := by unfold Addr.add; split <;> simp_all
      have hv : w.cell? ⟨b, off + i, none⟩ = some cs[i] := by rw [h i hlt]; simp [hlt]
      simp only [loadCellsFrom, Sem.run_bind, ha, run_load hv, Result.andThen_ok]
      rw [ih (i + 1) _ (by omega), List.drop_eq_getElem_cons hlt]
      simp
  simpa [loadCells] using key cs.length 0 #[] (by omega)
theorem run_loadVar_one {t : TypeId} {a : Addr} {v : Value} (h : oneT P t = true) (hv : w.cell? a = some v) : (loadVar t a).run P w = .ok v w := by
  simp [loadVar, run_isAgg_one h, hv]
theorem run_loadVar_agg {t : TypeId} {b off : Nat} {cs : List Value} (h : aggT P t cs.length = true) (hv : ∀ j, j < cs.length → w.cell? ⟨b, off + j, none⟩ = cs[j]?) : (loadVar t ⟨b, off, none⟩).run P w = .ok (.agg cs.toArray) w := by
  simp [loadVar, run_isAgg_agg h, run_sizeOf_agg h, run_loadCells hv]
end
section
variable {P : Program} {n : Nat} {Df : Md} {ops : Array Oper} {Q : Post} {rest : List Oper} {ρ : Env} {s : St}
variable {d : Nat} {ty : TypeId} {pos : String} {aft : Array Edge} {x y : Operand} {tx tyy : TypeId}
theorem jDk {b i : Nat} {v : Value} (hT : oneT P tx = true) (hx : ev ρ x = some (.pointer (some ⟨b, i, none⟩))) (hv : s.w.cell? ⟨b, i, none⟩ = some v) (hd : Nat.blt d n = true)
    (hK : KL P n Df ops Q rest ((d, v) :: ρ) s.w) : KL P n Df ops Q (⟨some d, .load tx x, ty, pos, aft, none⟩ :: rest) ρ s.w :=
  .val rfl rfl hd (fun η ha => by simp [execOp, ha.ev hx, Instr.loadAt, Instr.sureAddr, run_loadVar_one hT hv]) hK
theorem jAj {b i : Nat} {l : Lab} {cs : List Value} {T : TypeId} {v : Value} (hT : oneT P tx = true) (hx : ev ρ x = some (.pointer (some ⟨b, i, none⟩))) (hb : Blk s b l cs T) (hv : cs[i]? = some v) (hd : Nat.blt d n = true)
    (hK : KL P n Df ops Q rest ((d, v) :: ρ) s.w) : KL P n Df ops Q (⟨some d, .load tx x, ty, pos, aft, none⟩ :: rest) ρ s.w :=
  jDk hT hx ((hb.cell i).trans hv) hd hK
theorem jAs {b : Nat} {l : Lab} {cs : List Value} {T : TypeId} (hT : aggT P tx cs.length = true) (hx : ev ρ x = some (.pointer (some ⟨b, 0, none⟩))) (hb : Blk s b l cs T) (hd : Nat.blt d n = true)
    (hK : KL P n Df ops Q rest ((d, .agg cs.toArray) :: ρ) s.w) : KL P n Df ops Q (⟨some d, .load tx x, ty, pos, aft, none⟩ :: rest) ρ s.w :=
  .val rfl rfl hd (fun η ha => by simp [execOp, ha.ev hx, Instr.loadAt, Instr.sureAddr, run_loadVar_agg (b := b) (off := 0) hT (fun j hj => by rw [Nat.zero_add]; exact hb.cell j)]) hK
theorem RC.val_inv {s : St} {cs : List Value} {v : Value} (h : RC s cs (.val v)) : cs = [v] := by cases h; rfl
theorem jAq {l : Lab} {p : Value} {v : Value} (hT : oneT P tx = true) (hx : ev ρ x = some p) (h : At s l p (.val v)) (hd : Nat.blt d n = true)
    (hK : KL P n Df ops Q rest ((d, v) :: ρ) s.w) : KL P n Df ops Q (⟨some d, .load tx x, ty, pos, aft, none⟩ :: rest) ρ s.w := by
  obtain ⟨b, off, cs, rfl, hb, hg, hc, h⟩ := h
  obtain rfl := h.val_inv
  exact jDk hT hx (by have := hc 0 (by simp); simpa using this) hd hK
theorem RC.sl_inv {s : St} {cs : List Value} {w : Nat} {ds : List D} (h : RC s cs (.sl w ds)) : ∃ v, cs = [v] ∧ R s v (.sl w ds) := by
  generalize e : D.sl w ds = dd at h
  cases h with
  | nilsl w' cap a ha => injection e with e1 e2; subst e1 e2; exact ⟨_, rfl, .nilsl _ cap a ha⟩
  | sl w' b off cap ds' cs' hb hg hcap hw hc h => injection e with e1 e2; subst e1 e2; exact ⟨_, rfl, .sl _ b off cap _ cs' hb hg hcap hw hc h⟩
  | _ => cases e
theorem k_load_sl {l : Lab} {p : Value} {w : Nat} {ds : List D} (hT : oneT P tx = true) (hx : ev ρ x = some p) (h : At s l p (.sl w ds)) (hd : Nat.blt d n = true)
    (hK : ∀ v, R s v (.sl w ds) → KL P n Df ops Q rest ((d, v) :: ρ) s.w) : KL P n Df ops Q (⟨some d, .load tx x, ty, pos, aft, none⟩ :: rest) ρ s.w := by
  obtain ⟨b, off, cs, rfl, hb, hg, hc, h⟩ := h
  obtain ⟨v, rfl, hr⟩ := h.sl_inv
  exact jDk hT hx (by have := hc 0 (by simp); simpa using this) hd (hK v hr)
def D.wd : D → Nat
  | .val _ => 1
  | .sl _ _ => 1
  | .ptr _ => 1
  | .ifc _ _ => 1
  | .agg l => wdL l
where wdL : List D → Nat
  | [] => 0
  | d :: r => d.wd + wdL r
theorem RC.len {s : St} {cs : List Value} {d : D} (h : RC s cs d) : cs.length = d.wd := by
  induction h with
  | val v h => rfl
  | nilsl w cap a ha => rfl
  | sl w b off cap ds cs hb hg hcap hw hc h ih => rfl
  | ptr b off cs d hb hg hc h ih => rfl
  | ifc t v cs d hv h ih => rfl
  | agg css ds hl h ih =>
    show css.flatten.length = D.wd.wdL ds
    clear h
    induction css generalizing ds with
    | nil => cases ds with | nil => rfl | cons d r => simp at hl
    | cons c css ihc =>
      cases ds with
      | nil => simp at hl
      | cons d r =>
        have h0 := ih 0 (by simp) (by simp)
        have hr := ihc r (by simpa using hl) (fun i h1 h2 => by have := ih (i + 1) (by simpa using h1) (by simpa using h2); simpa using this)
        simp only [List.flatten_cons, List.length_append, D.wd.wdL]
        rw [hr]
        simpa using h0
theorem jCr {l : Lab} {p : Value} {ds : List D} (hT : aggT P tx (D.agg ds).wd = true) (hx : ev ρ x = some p) (h : At s l p (.agg ds)) (hd : Nat.blt d n = true)
    (hK : ∀ cs : List Value, RC s cs (.agg ds) → KL P n Df ops Q rest ((d, .agg cs.toArray) :: ρ) s.w) : KL P n Df ops Q (⟨some d, .load tx x, ty, pos, aft, none⟩ :: rest) ρ s.w := by
  obtain ⟨b, off, cs, rfl, hb, hg, hc, h⟩ := h
  refine .val rfl rfl hd (v := .agg cs.toArray) (fun η ha => ?_) (hK cs h)
  simp [execOp, ha.ev hx, Instr.loadAt, Instr.sureAddr, run_loadVar_agg (by rw [h.len]; exact hT) hc]
theorem run_fieldAt {P : Program} {w : World} {t : TypeId} {f o : Nat} {b i : Nat} (h : fieldT P t f = some o) : (Instr.fieldAt t (.pointer (some ⟨b, i, none⟩)) f).run P w = .ok (.pointer (some ⟨b, i + o, none⟩)) w := by
  unfold fieldT at h
  cases hu : P.underlying t with
  | none => rw [hu] at h; simp at h
  | some u =>
    rw [hu] at h
    cases u with
    | struct fs =>
      simp only at h
      cases hf : fs[f]? with
      | none => rw [hf] at h; simp at h
      | some fd =>
        rw [hf] at h
        simp only at h
        cases hi : P.info? fd.type with
        | none => rw [hi] at h; simp at h
        | some i' =>
          rw [hi] at h
          simp only at h
          by_cases hz : i'.size = 0
          · rw [if_pos hz] at h; simp at h
          · rw [if_neg hz] at h
            simp at h
            subst h
            have ha : (⟨b, i, none⟩ : Addr).add fd.offset = ⟨b, i + fd.offset, none⟩ := by unfold Addr.add; split <;> simp_all
            simp [Instr.fieldAt, run_underlying hu, hf, Instr.sureAddr, fieldPlace, sizeOf, typeInfo, hi, hz, ha]
    | _ => simp at h
theorem jAf {t : TypeId} {b i f o : Nat} (hF : fieldT P t f = some o) (hx : ev ρ x = some (.pointer (some ⟨b, i, none⟩))) (hd : Nat.blt d n = true)
    (hK : KL P n Df ops Q rest ((d, .pointer (some ⟨b, i + o, none⟩)) :: ρ) s.w) : KL P n Df ops Q (⟨some d, .fieldAddr t x f, ty, pos, aft, none⟩ :: rest) ρ s.w :=
  .val rfl rfl hd (fun η ha => by simp [execOp, ha.ev hx, run_fieldAt hF]) hK
theorem At.field {s : St} {l : Lab} {p : Value} {ds : List D} (h : At s l p (.agg ds)) {f : Nat} {dd : D} (hf : ds[f]? = some dd) :
    ∃ b i, p = .pointer (some ⟨b, i, none⟩) ∧ At s l (.pointer (some ⟨b, i + D.wd.wdL (ds.take f), none⟩)) dd := by
  obtain ⟨b, off, cs, rfl, hb, hg, hc, h⟩ := h
  refine ⟨b, off, rfl, ?_⟩
  generalize e : D.agg ds = da at h
  cases h with
  | agg css ds' hl hh =>
    injection e with e
    subst e
    obtain ⟨hlt, rfl⟩ := List.getElem?_eq_some_iff.1 hf
    have key : ∀ (css : List (List Value)) (ds : List D) (f : Nat) (_ : css.length = ds.length) (_ : ∀ i (h1 : i < css.length) (h2 : i < ds.length), RC s css[i] ds[i]) (h1 : f < css.length),
        ∃ pre post, css.flatten = pre ++ css[f] ++ post ∧ pre.length = D.wd.wdL (ds.take f) := by
      intro css
      induction css with
      | nil => intro ds f _ _ h1; simp at h1
      | cons c css ih =>
        intro ds f hl hr h1
        cases ds with
        | nil => simp at hl
        | cons dd ds =>
          cases f with
          | zero => exact ⟨[], css.flatten, by simp, rfl⟩
          | succ f =>
            obtain ⟨pre, post, e1, e2⟩ := ih ds f (by simpa using hl) (fun i h1 h2 => by have := hr (i + 1) (by simpa using h1) (by simpa using h2); simpa using this) (by simpa using h1)
            refine ⟨c ++ pre, post, by simp [e1], ?_⟩
            have := (hr 0 (by simp) (by simp)).len
            simp only [List.getElem_cons_zero] at this
            simp [D.wd.wdL, e2, this]
    obtain ⟨pre, post, e1, e2⟩ := key css ds f hl hh (by omega)
    refine ⟨b, off + D.wd.wdL (ds.take f), css[f], rfl, hb, hg, ?_, hh f (by omega) hlt⟩
    intro j hj
    have := hc (D.wd.wdL (ds.take f) + j) (by rw [e1]; simp; omega)
    rw [Nat.add_assoc, this, e1, ← e2, List.append_assoc, List.getElem?_append_right (by omega), Nat.add_sub_cancel_left, List.getElem?_append_left hj]
  | _ => cases e
end
end Go.Fw

set_option linter.unusedSimpArgs false
set_option linter.unusedVariables false
namespace Go.Fw
def St.to (s : St) (w' : World) (l : Lab) (hl : l.o ≤ s.n + 1) : St :=
  ⟨w', fun b => if b < s.n then s.g b else l, fun b => by
    by_cases h : b < s.n
    · simp [h]; exact s.wf b
    · simp [h]; omega⟩
theorem St.to_g_old {s : St} {w' : World} {l : Lab} {hl : l.o ≤ s.n + 1} {b : Nat} (h : b < s.n) : (s.to w' l hl).g b = s.g b := by simp [St.to, h]
theorem St.to_g_new {s : St} {w' : World} {l : Lab} {hl : l.o ≤ s.n + 1} {b : Nat} (h : s.n ≤ b) : (s.to w' l hl).g b = l := by
  simp [St.to, Nat.not_lt.2 h]
theorem St.to_step {s : St} {w' : World} {l : Lab} {hl : l.o ≤ s.n + 1} {K : Lab → Prop} (h1 : w'.os = s.w.os) (h2 : w'.tape = s.w.tape) (h3 : w'.output = s.w.output) (h4 : s.n ≤ w'.heap.size)
    (h5 : ∀ b, b < s.n → ¬ K (s.g b) → w'.heap[b]? = s.w.heap[b]?) (hi : ∀ c, ¬ K ⟨0, c⟩) : Step K s (s.to w' l hl) :=
  ⟨h1, h2, h3, h4, fun b hb hk => ⟨h5 b hb hk, St.to_g_old hb⟩, hi⟩
theorem St.to_alloc {s : St} {o : Obj} {l : Lab} {hl : l.o ≤ s.n + 1} : Step K0 s (s.to (s.w.alloc o) l hl) :=
  St.to_step rfl rfl rfl (by simp) (fun b hb _ => RowKit.Below.heap_alloc _ _ _ hb) (fun _ h => h)
theorem blk_alloc {s : St} {cs : Array Value} {T : TypeId} {l : Lab} {hl : l.o ≤ s.n + 1} : Blk (s.to (s.w.alloc (.cells cs T)) l hl) s.n l cs.toList T :=
  ⟨⟨(0, 0), by show (s.w.alloc (.cells cs T)).heap[s.n]? = _; rw [heap_alloc_new], .inl rfl⟩, St.to_g_new (Nat.le_refl _)⟩
section
variable {P : Program} {n : Nat} {Df : Md} {ops : Array Oper} {Q : Post} {rest : List Oper} {ρ : Env} {s : St}
variable {d : Nat} {ty : TypeId} {pos : String} {aft : Array Edge} {x y : Operand} {tx tyy : TypeId}
theorem jCp {v : Value} (hx : ev ρ x = some v) (hd : Nat.blt d n = true)
    (hK : ∀ s' b, Step K0 s s' → Blk s' b ⟨b + 1, 0⟩ v.cells.toList tx → s.n ≤ b → KL P n Df ops Q rest ((d, .pointer (some ⟨b, 0, none⟩)) :: ρ) s'.w) :
    KL P n Df ops Q (⟨some d, .box tx x, ty, pos, aft, none⟩ :: rest) ρ s.w :=
  .val rfl rfl hd (fun η ha => by simp [execOp, ha.ev hx, Instr.box, newVar, newRow]; rfl) (hK (s.to (s.w.alloc (.cells v.cells tx)) ⟨s.n + 1, 0⟩ (Nat.le_refl _)) s.n St.to_alloc blk_alloc (Nat.le_refl _))
theorem jBj {z : Value} (hz : zeroT P tx = some z) (hd : Nat.blt d n = true)
    (hK : ∀ s' b, Step K0 s s' → Blk s' b ⟨b + 1, 0⟩ z.cells.toList tx → s.n ≤ b → KL P n Df ops Q rest ((d, .pointer (some ⟨b, 0, none⟩)) :: ρ) s'.w) :
    KL P n Df ops Q (⟨some d, .alloc tx, ty, pos, aft, none⟩ :: rest) ρ s.w :=
  .val rfl rfl hd (fun η ha => by simp [execOp, Instr.alloc, run_zeroValue hz, newVar, newRow]; rfl) (hK (s.to (s.w.alloc (.cells z.cells tx)) ⟨s.n + 1, 0⟩ (Nat.le_refl _)) s.n St.to_alloc blk_alloc (Nat.le_refl _))
theorem heap_setCells (b : Nat) : ∀ (vs : List Value) (o : Nat) (w : World) (cs : List Value) (T : TypeId) (fr : Nat × Nat), w.heap[b]? = some (.cells cs.toArray T fr) → o + vs.length ≤ cs.length →
    (w.setCells b o vs).heap[b]? = some (.cells (cs.take o ++ vs ++ cs.drop (o + vs.length)).toArray T fr)
  | [], o, w, cs, T, fr, h, hl => by simp [World.setCells, h]
  | v :: r, o, w, cs, T, fr, h, hl => by
    simp only [List.length_cons] at hl
    have h1 : (w.setCell ⟨b, o, none⟩ v).heap[b]? = some (.cells (cs.set o v).toArray T fr) := by
      simp [World.setCell, Array.getElem?_modify, h]
    have := heap_setCells b r (o + 1) (w.setCell ⟨b, o, none⟩ v) (cs.set o v) T fr h1 (by simp; omega)
    simp only [World.setCells]
    rw [this]
    have e1 : List.take (o + 1) (cs.set o v) = List.take o cs ++ [v] := by
      rw [List.take_succ_eq_append_getElem (by simp; omega)]
      simp [List.take_set_of_le]
    have e2 : List.drop (o + 1 + r.length) (cs.set o v) = List.drop (o + (r.length + 1)) cs := by
      rw [show o + 1 + r.length = o + (r.length + 1) by omega, List.drop_set_of_lt (by omega)]
    rw [e1, e2]
    simp
theorem heap_setCells_ne (b b' : Nat) (h : b' ≠ b) : ∀ (vs : List Value) (o : Nat) (w : World), (w.setCells b o vs).heap[b']? = w.heap[b']?
  | [], _, _ => rfl
  | v :: r, o, w => by simp only [World.setCells]; rw [heap_setCells_ne b b' h r (o + 1)]; exact RowKit.Below.heap_setCell _ _ _ _ h
theorem setCells_rest (b : Nat) : ∀ (vs : List Value) (o : Nat) (w : World), (w.setCells b o vs).os = w.os ∧ (w.setCells b o vs).tape = w.tape ∧ (w.setCells b o vs).output = w.output ∧ (w.setCells b o vs).heap.size = w.heap.size
  | [], _, _ => ⟨rfl, rfl, rfl, rfl⟩
  | v :: r, o, w => by
    obtain ⟨h1, h2, h3, h4⟩ := setCells_rest b r (o + 1) (w.setCell ⟨b, o, none⟩ v)
    exact ⟨h1, h2, h3, h4.trans (by simp [World.setCell])⟩
def St.re (s : St) (w' : World) : St := ⟨w', s.g, s.wf⟩
theorem Blk.store {s : St} {b : Nat} {l : Lab} {cs : List Value} {T : TypeId} (h : Blk s b l cs T) (hl0 : l.o ≠ 0) (o : Nat) (vs : List Value) (hl : o + vs.length ≤ cs.length) :
    Step (KC l.o l.c) s (s.re (s.w.setCells b o vs)) ∧ Blk (s.re (s.w.setCells b o vs)) b l (cs.take o ++ vs ++ cs.drop (o + vs.length)) T := by
  obtain ⟨r1, r2, r3, r4⟩ := setCells_rest b vs o s.w
  refine ⟨⟨r1, r2, r3, Nat.le_of_eq r4.symm, fun b' hb' hk => ⟨?_, rfl⟩, fun c hc => hl0 hc.1.symm⟩, ?_⟩
  · refine heap_setCells_ne b b' ?_ vs o s.w
    rintro rfl
    exact hk (by rw [h.lab]; exact ⟨rfl, rfl⟩)
  · obtain ⟨fr, h1, h2⟩ := h.heap
    refine ⟨⟨fr, heap_setCells b vs o s.w cs T fr h1 hl, ?_⟩, h.lab⟩
    rcases h2 with h2 | h2
    · exact .inl h2
    · refine .inr ?_
      simp only [List.length_append, List.length_take, List.length_drop]
      omega
theorem run_storeVar {P : Program} {t : TypeId} {b i : Nat} {l : Lab} {cs : List Value} {T : TypeId} {v : Value} {m : Nat} (hT : sizeT P t m = true) (hm : v.cells.size = m) (h1 : v.cells.toList.all Value.oneCell' = true) (hb : Blk s b l cs T) (hi : i + m ≤ cs.length) :
    (storeVar t ⟨b, i, none⟩ v).run P s.w = .ok () (s.w.setCells b i v.cells.toList) := by
  have hst := run_storeCells_cells (P := P) b i v.cells.toList 0 s.w (fun j hj => by
      have hj' : j < m := by simpa [hm] using hj
      rw [hb.cell]; simp; omega) (fun j hj => by
      have hj' : j < m := by simpa [hm] using hj
      exact hb.frozen _ (by omega)) (List.all_eq_true.1 h1)
  simp only [Nat.add_zero] at hst
  simp [storeVar, run_sizeOf hT, hm, hst]
theorem k_store_blk {b i m : Nat} {l : Lab} {cs : List Value} {T : TypeId} {v : Value} (hT : sizeT P tx m = true) (hx : ev ρ x = some (.pointer (some ⟨b, i, none⟩))) (hy : ev ρ y = some v) (hb : Blk s b l cs T) (hl0 : l.o ≠ 0)
    (hm : v.cells.size = m) (h1 : v.cells.toList.all Value.oneCell' = true) (hi : Nat.ble (i + m) cs.length = true)
    (hK : ∀ s', Step (KC l.o l.c) s s' → Blk s' b l (cs.take i ++ v.cells.toList ++ cs.drop (i + m)) T → KL P n Df ops Q rest ρ s'.w) :
    KL P n Df ops Q (⟨none, .store tx x y, ty, pos, aft, none⟩ :: rest) ρ s.w := by
  have hi' : i + m ≤ cs.length := by simpa using hi
  have hb' := hb.store hl0 i v.cells.toList (by simpa [hm] using hi')
  have hlen : v.cells.toList.length = m := by simpa using hm
  rw [hlen] at hb'
  refine .eff rfl rfl (fun η ha => ?_) (hK _ hb'.1 hb'.2)
  simp [execOp, ha.ev hx, ha.ev hy, Instr.storeAt, Instr.sureAddr, run_storeVar hT hm h1 hb hi']
  rfl
def RCs (s : St) (w : Nat) (xs : List Value) (ds : List D) : Prop := xs.length = ds.length * w ∧ ∀ i (hi : i < ds.length), RC s ((xs.drop (i * w)).take w) ds[i]
theorem RCs.up {K : Lab → Prop} {s s' : St} {w : Nat} {xs : List Value} {ds : List D} (h : RCs s w xs ds) (st : Step K s s') : RCs s' w xs ds := ⟨h.1, fun i hi => (h.2 i hi).up st⟩
theorem RCs.nil {s : St} {w : Nat} : RCs s w [] [] := ⟨by simp, fun i hi => by simp at hi⟩
theorem RCs.append {s : St} {w : Nat} {xs ys : List Value} {ds es : List D} (h : RCs s w xs ds) (h' : RCs s w ys es) : RCs s w (xs ++ ys) (ds ++ es) := by
  refine ⟨by simp [h.1, h'.1, Nat.add_mul], fun i hi => ?_⟩
  by_cases hlt : i < ds.length
  · rw [List.getElem_append_left hlt]
    have h1 := h.2 i hlt
    have hle : i * w + w ≤ xs.length := by
      rw [h.1]; calc i * w + w = (i + 1) * w := by rw [Nat.add_mul, Nat.one_mul]
        _ ≤ ds.length * w := Nat.mul_le_mul_right _ hlt
    rw [List.drop_append_of_le_length (by omega), List.take_append_of_le_length (by simp; omega)]
    exact h1
  · have hge : ds.length ≤ i := Nat.not_lt.1 hlt
    rw [List.getElem_append_right hge]
    have h1 := h'.2 (i - ds.length) (by simp at hi; omega)
    have e : i * w = xs.length + (i - ds.length) * w := by
      rw [h.1, ← Nat.add_mul]; congr 1; omega
    rw [e, List.drop_append, List.drop_eq_nil_of_le (by omega), Nat.add_sub_cancel_left, List.nil_append]
    exact h1
theorem RCs.one {s : St} {xs : List Value} {d : D} (h : RC s xs d) : RCs s d.wd xs [d] :=
  ⟨by simp [h.len], fun i hi => by
    have hi0 : i = 0 := by simpa using hi
    subst hi0
    simp only [Nat.zero_mul, List.drop_zero, List.getElem_cons_zero]
    rw [List.take_of_length_le (by rw [h.len]; exact Nat.le_refl _)]
    exact h⟩
theorem SL.cells {s : St} {l : Lab} {v : Value} {w : Nat} {ds : List D} (h : SL s l v w ds) :
    (ds = [] ∧ ∃ a cap, v = .slice a 0 cap ∧ (a = none → cap = 0)) ∨ ∃ b off cap xs, v = .slice (some ⟨b, off, none⟩) ds.length cap ∧ RCs s w xs ds ∧ (∀ j u, xs[j]? = some u → s.w.cell? ((⟨b, off, none⟩ : Addr).add j) = some u) := by
  rcases h with h | ⟨b, off, cap, cs, e, hb, hg, hcap, hw, hc, h⟩
  · exact .inl h
  · refine .inr ⟨b, off, cap, ((List.range ds.length).map cs).flatten, e, ?_, ?_⟩
    · have key : ∀ (m : Nat), m ≤ ds.length → RCs s w (((List.range m).map cs).flatten) (ds.take m) := by
        intro m
        induction m with
        | zero => intro _; simpa using RCs.nil
        | succ m ih =>
          intro hm
          have hlt : m < ds.length := by omega
          have h1 := RCs.one (h m hlt)
          rw [← (h m hlt).len, hw m hlt] at h1
          have := (ih (by omega)).append h1
          rw [List.take_succ_eq_append_getElem hlt, List.range_succ]
          simpa using this
      simpa using key ds.length (Nat.le_refl _)
    · have key : ∀ (m : Nat), m ≤ ds.length → ∀ j u, (((List.range m).map cs).flatten)[j]? = some u → s.w.cell? ⟨b, off + j, none⟩ = some u := by
        intro m
        induction m with
        | zero => intro _ j u hu; simp at hu
        | succ m ih =>
          intro hm j u hu
          have hlt : m < ds.length := by omega
          have hlen : ∀ k, k ≤ m → (((List.range k).map cs).flatten).length = k * w := by
            intro k hk
            induction k with
            | zero => simp
            | succ k ihk =>
              rw [List.range_succ]
              simp only [List.map_append, List.flatten_append, List.length_append, ihk (by omega), List.map_cons, List.map_nil, List.flatten_cons, List.flatten_nil, List.append_nil]
              rw [hw k (by omega), Nat.add_mul, Nat.one_mul]
          rw [List.range_succ, List.map_append, List.flatten_append] at hu
          by_cases hj : j < m * w
          · rw [List.getElem?_append_left (by rw [hlen m (Nat.le_refl _)]; exact hj)] at hu
            exact ih (by omega) j u hu
          · rw [List.getElem?_append_right (by rw [hlen m (Nat.le_refl _)]; omega), hlen m (Nat.le_refl _)] at hu
            simp only [List.map_cons, List.map_nil, List.flatten_cons, List.flatten_nil, List.append_nil] at hu
            have hjw : j - m * w < w := by
              have := (List.getElem?_eq_some_iff.1 hu).1
              rwa [hw m hlt] at this
            have := hc m hlt (j - m * w) hjw
            rw [show off + j = off + m * w + (j - m * w) by omega, this]
            exact hu
      intro j u hu
      have ha : (⟨b, off, none⟩ : Addr).add j = ⟨b, off + j, none⟩ := by unfold Addr.add; split <;> simp_all
      rw [ha]
      exact key ds.length (Nat.le_refl _) j u hu
def Own (s : St) (l : Lab) (e : TypeId) (w : Nat) (v : Value) (ds : List D) : Prop :=
  l.o ≠ 0 ∧ l.o ≤ s.n + 1 ∧ ∃ xs : List Value, s.w.ownsRow 0 e w v ds.length xs ∧ (∀ g, v.ownBlock = some g → s.g g = l) ∧ RCs s w xs ds
theorem ownBlock_lt {w : World} {base e size n : Nat} {v : Value} {xs : List Value} (h : w.ownsRow base e size v n xs) {g : Nat} (hg : v.ownBlock = some g) : g < w.heap.size := (h.lt g hg).2
theorem Own.up {K : Lab → Prop} {s s' : St} {l : Lab} {e : TypeId} {w : Nat} {v : Value} {ds : List D} (h : Own s l e w v ds) (st : Step K s s') (hk : ¬ K l) : Own s' l e w v ds := by
  obtain ⟨h0, h1, xs, ho, hg, hr⟩ := h
  refine ⟨h0, Nat.le_trans h1 (Nat.add_le_add_right st.size 1), xs, ?_, ?_, hr.up st⟩
  · refine ⟨ho.1, ?_⟩
    rcases ho.2 with hn | ⟨g, cap, cur, rfl, hb, hgg, r⟩
    · exact .inl hn
    · have hlt : g < s.n := (Array.getElem?_eq_some_iff.1 hgg).1
      have hl : s.g g = l := hg g rfl
      exact .inr ⟨g, cap, cur, rfl, hb, by rw [(st.keep g hlt (by rw [hl]; exact hk)).1]; exact hgg, r⟩
  · intro g hgb
    have hlt := ownBlock_lt ho hgb
    have hl := hg g hgb
    rw [(st.keep g hlt (by rw [hl]; exact hk)).2]
    exact hl
theorem Own.nil {s : St} {l : Lab} {e : TypeId} {w : Nat} (h0 : l.o ≠ 0) (h1 : l.o ≤ s.n + 1) : Own s l e w (.slice none 0 0) [] :=
  ⟨h0, h1, [], World.ownsRow_nil _ _ _ _, fun g hg => by simp [Value.ownBlock] at hg, RCs.nil⟩
theorem Own.sl {s : St} {l : Lab} {e : TypeId} {w : Nat} {v : Value} {ds : List D} (h : Own s l e w v ds) : SL s l v w ds := by
  obtain ⟨h0, h1, xs, ho, hg, hr⟩ := h
  rcases ho.2 with ⟨rfl, hn⟩ | ⟨g, cap, cur, rfl, hb, hgg, hle, hcm, hcs, ht⟩
  · exact .inl ⟨List.eq_nil_of_length_eq_zero hn, none, 0, rfl, fun _ => rfl⟩
  · have hlt : g < s.n := (Array.getElem?_eq_some_iff.1 hgg).1
    refine .inr ⟨g, 0, cap, fun i => (xs.drop (i * w)).take w, rfl, hlt, hg g rfl, hle, ?_, ?_, hr.2⟩
    · intro i hi
      have : i * w + w ≤ xs.length := by
        rw [hr.1]; calc i * w + w = (i + 1) * w := by rw [Nat.add_mul, Nat.one_mul]
          _ ≤ ds.length * w := Nat.mul_le_mul_right _ hi
      simp; omega
    · intro i hi j hj
      have hle2 : i * w + w ≤ xs.length := by
        rw [hr.1]; calc i * w + w = (i + 1) * w := by rw [Nat.add_mul, Nat.one_mul]
          _ ≤ ds.length * w := Nat.mul_le_mul_right _ hi
      have hc := ho.cells (g := g) rfl (i * w + j)
      have ha : (⟨g, 0, none⟩ : Addr).add (i * w + j) = ⟨g, i * w + j, none⟩ := by unfold Addr.add; split <;> simp_all
      rw [ha] at hc
      have hx : xs[i * w + j]? = some xs[i * w + j] := List.getElem?_eq_getElem (by omega)
      rw [Nat.zero_add, hc _ hx]
      simp [List.getElem?_take, hj, hx]
theorem Own.freeze {s : St} {l : Lab} {e : TypeId} {w : Nat} {v : Value} {ds : List D} (h : Own s l e w v ds) : ∃ s', s'.w = s.w ∧ Step (KC l.o l.c) s s' ∧ R s' v (.sl w ds) := by
  classical
  have h0 := h.1
  have hg := h.2.2
  let s' : St := ⟨s.w, fun b => if v.ownBlock = some b then L0 else s.g b, fun b => by by_cases hb : v.ownBlock = some b <;> simp [hb]; exact s.wf b⟩
  have hst : Step (KC l.o l.c) s s' := ⟨rfl, rfl, rfl, Nat.le_refl _, fun b hb hk => ⟨rfl, by
    obtain ⟨xs, ho, hg, hr⟩ := hg
    by_cases hvb : v.ownBlock = some b
    · exact absurd ⟨by rw [hg b hvb], by rw [hg b hvb]⟩ hk
    · simp [s', hvb]⟩, fun c hc => h0 hc.1.symm⟩
  refine ⟨s', rfl, hst, R.of_SL ?_⟩
  rcases h.sl with hn | ⟨b, off, cap, cs, hv, hb, hgb, hcap, hw, hc, hr⟩
  · exact .inl hn
  · exact .inr ⟨b, off, cap, cs, hv, hb, by simp [s', hv, Value.ownBlock], hcap, hw, hc, fun i hi => (hr i hi).up hst⟩
end
end Go.Fw

set_option linter.unusedSimpArgs false
set_option linter.unusedVariables false
namespace Go.Fw
def elemT (P : Program) (t e : TypeId) (w bytes : Nat) (z : Value) : Prop :=
  ∃ i : TypeInfo, P.underlying t = some (.slice e) ∧ P.info? e = some i ∧ i.zero = some z ∧ i.size = w ∧ i.bytes = bytes ∧ z.cells.size = w ∧ 0 < w
theorem RC.one_cells {s : St} {cs : List Value} {d : D} (h : RC s cs d) : ∀ u ∈ cs, u.oneCell' = true := by
  induction h with
  | val v h => intro u hu; simp at hu; subst hu; exact h
  | nilsl w cap a ha => intro u hu; simp at hu; subst hu; rfl
  | sl w b off cap ds cs hb hg hcap hw hc h ih => intro u hu; simp at hu; subst hu; rfl
  | ptr b off cs d hb hg hc h ih => intro u hu; simp at hu; subst hu; rfl
  | ifc t v cs d hv h ih => intro u hu; simp at hu; subst hu; rfl
  | agg css ds hl h ih =>
    intro u hu
    obtain ⟨c, hc, huc⟩ := List.mem_flatten.1 hu
    obtain ⟨i, hi, rfl⟩ := List.getElem_of_mem hc
    exact ih i hi (by omega) u huc
theorem RCs.one_cells {s : St} {w : Nat} {xs : List Value} {ds : List D} (h : RCs s w xs ds) : ∀ u ∈ xs, u.oneCell' = true := by
  intro u hu
  obtain ⟨j, hj, rfl⟩ := List.getElem_of_mem hu
  have hw : 0 < w := by
    rcases Nat.eq_zero_or_pos w with e | e
    · rw [h.1, e] at hj; simp at hj
    · exact e
  have hi : j / w < ds.length := by rw [Nat.div_lt_iff_lt_mul hw, ← h.1]; exact hj
  refine (h.2 (j / w) hi).one_cells _ ?_
  have hjm := Nat.div_add_mod j w
  have hlt := Nat.mod_lt j hw
  have e : xs[j] = ((xs.drop (j / w * w)).take w)[j % w]'(by simp; rw [Nat.mul_comm] at hjm; omega) := by
    simp only [List.getElem_take, List.getElem_drop]
    congr 1
    rw [Nat.mul_comm] at hjm
    omega
  rw [e]
  exact List.getElem_mem _
theorem own_grown {s : St} {l : Lab} {e w m : Nat} {v v' : Value} {ds es : List D} {xs ys : List Value} {w' : World} (h0 : l.o ≠ 0) (h1 : l.o ≤ s.n + 1)
    (hlab : ∀ g, v.ownBlock = some g → s.g g = l) (hr : RCs s w (xs ++ ys) (ds ++ es))
    (hown : w'.ownsRow 0 e w v' (ds ++ es).length (xs ++ ys)) (hg : s.w.grownBy w' v.ownBlock) (hsame : ∀ g, v'.ownBlock = some g → g < s.n → v.ownBlock = some g) :
    Step (KC l.o l.c) s (s.to w' l h1) ∧ Own (s.to w' l h1) l e w v' (ds ++ es) := by
  have st : Step (KC l.o l.c) s (s.to w' l h1) := by
    refine St.to_step hg.os hg.tape hg.output hg.size (fun b hb hk => hg.block b hb ?_) (fun c hc => h0 hc.1.symm)
    intro e
    exact hk (by rw [hlab b e.symm]; exact ⟨rfl, rfl⟩)
  refine ⟨st, h0, Nat.le_trans h1 (Nat.add_le_add_right st.size 1), xs ++ ys, hown, ?_, hr.up st⟩
  intro g hgb
  by_cases hlt : g < s.n
  · rw [St.to_g_old hlt]; exact hlab g (hsame g hgb hlt)
  · exact St.to_g_new (Nat.not_lt.1 hlt)
section
variable {P : Program} {n : Nat} {Df : Md} {ops : Array Oper} {Q : Post} {rest : List Oper} {ρ : Env} {s : St}
variable {d : Nat} {ty : TypeId} {pos : String} {aft : Array Edge} {x y : Operand} {tx tyy : TypeId}
theorem run_append_law {P : Program} {s : St} {l lx : Lab} {t ty e w bytes : Nat} {z : Value} {v vx : Value} {ds es : List D} (hT : elemT P t e w bytes z) (h : Own s l e w v ds) (hx : SL s lx vx w es)
    (hsz : (ds.length + es.length) * bytes ≤ 140737488355328) (hmx : ds.length + es.length ≤ 9223372036854775807) :
    ∃ v' w' hl, (Builtin.append_ #[t, t] ty #[v, vx]).run P s.w = .ok v' w' ∧ Step (KC l.o l.c) s (s.to w' l hl) ∧ Own (s.to w' l hl) l e w v' (ds ++ es) := by
  obtain ⟨i, h1, h2, h3, h4, h5, h6, h7⟩ := hT
  obtain ⟨h0, hle, xs, ho, hg, hr⟩ := h
  have hmx' : ds.length + es.length ≤ maxLen := by unfold maxLen; omega
  rcases hx.cells with ⟨rfl, a, cap, rfl, ha⟩ | ⟨b, off, cap, ys, rfl, hys, hc⟩
  · -- nothing is appended
    have hst : Step (KC l.o l.c) s (s.to s.w l hle) := St.to_step rfl rfl rfl (Nat.le_refl _) (fun _ _ _ => rfl) (fun c hc => h0 hc.1.symm)
    refine ⟨v, s.w, hle, ?_, hst, ?_⟩
    · rcases ho.2 with ⟨rfl, hn⟩ | ⟨g, cap', cur, rfl, hb, hgg, hle', hcm, hcs, ht⟩
      · cases a <;> simp [Builtin.append_, run_underlying h1, sizeOf, typeInfo, h2, Builtin.lenOf, hn, Builtin.firstCells, loadCells, loadCellsFrom]
      · cases a <;> simp [Builtin.append_, run_underlying h1, sizeOf, typeInfo, h2, Builtin.lenOf, hle', Builtin.firstCells, loadCells, loadCellsFrom, storeCells]
    · rw [List.append_nil]
      refine ⟨h0, Nat.le_trans hle (Nat.add_le_add_right hst.size 1), xs, ho, ?_, hr.up hst⟩
      intro g hgb
      rw [St.to_g_old (ownBlock_lt ho hgb)]
      exact hg g hgb
  · have hyl : ys.length = es.length * w := hys.1
    have hone := hys.one_cells
    have hr' : RCs s w (xs ++ ys) (ds ++ es) := hr.append hys
    have hlen : (ds ++ es).length = ds.length + es.length := List.length_append
    -- the three arms
    rcases ho.2 with ⟨hv, hn⟩ | ⟨g, cap', cur, hv, hb, hgg, hle', hcm, hcs, ht⟩
    · obtain ⟨v', w', hrun, how, hgr, hnil⟩ := run_append_own (P := P) s.w s.n t ty e i z w bytes h1 h2 h3 h4 h5 h6 h7 v ds.length xs ⟨ho.1, .inl ⟨hv, hn⟩⟩ ⟨b, off, none⟩ es.length cap ys hyl hc hone hmx' (by simpa using hsz) (Nat.le_refl _)
      have how0 : w'.ownsRow 0 e w v' (ds ++ es).length (xs ++ ys) := by
        rw [hlen]
        refine ⟨how.1, ?_⟩
        rcases how.2 with h | ⟨g, c, cu, e1, e2, r⟩
        · exact .inl h
        · exact .inr ⟨g, c, cu, e1, Nat.zero_le _, r⟩
      have := own_grown (l := l) (v := v) (m := 0) h0 hle hg hr' how0 hgr (fun g hgb hlt => by
        have := how.lt g hgb
        omega)
      exact ⟨v', w', hle, hrun, this.1, this.2⟩
    · by_cases hroom : ds.length + es.length ≤ cap'
      · obtain ⟨v', w', hrun, how, hgr, hnil⟩ := run_append_own (P := P) s.w 0 t ty e i z w bytes h1 h2 h3 h4 h5 h6 h7 v ds.length xs ⟨ho.1, .inr ⟨g, cap', cur, hv, hb, hgg, hle', hcm, hcs, ht⟩⟩ ⟨b, off, none⟩ es.length cap ys hyl hc hone hmx' (by simpa using hsz) (Nat.zero_le _)
        have hrun2 := run_append_room (P := P) s.w t ty e i h1 h2 g ds.length cap' cur hgg ⟨b, off, none⟩ es.length cap ys (by rw [h4]; exact hyl) hc hone hroom (by rw [h4, hyl, ← Nat.add_mul, hcs]; exact Nat.mul_le_mul_right _ hroom)
        rw [hv, hrun2] at hrun
        injection hrun with e1 e2
        have := own_grown (l := l) (v := v) (m := 0) h0 hle hg hr' (by rw [hlen]; exact how) hgr (fun g' hgb hlt => by
          rw [← e1] at hgb
          simp [Value.ownBlock] at hgb
          rw [hv, ← hgb]; rfl)
        exact ⟨v', w', hle, by rw [hv, hrun2, e1, e2], this.1, this.2⟩
      · have holds : ∀ j u, xs[j]? = some u → s.w.cell? ((⟨g, 0, none⟩ : Addr).add j) = some u := ho.cells (g := g) (by rw [hv]; rfl)
        obtain ⟨v', w', hrun, how, hgr⟩ := run_append_arg_grows (P := P) s.w t ty e i z w bytes h1 h2 h3 h4 h5 h6 h7 ⟨g, 0, none⟩ ds.length cap' xs (by simpa using ho.1) holds ⟨b, off, none⟩ es.length cap ys hyl hc (by omega) hmx' (by simpa using hsz)
        have how0 : w'.ownsRow 0 e w v' (ds ++ es).length (xs ++ ys) := by
          rw [hlen]
          refine ⟨how.1, ?_⟩
          rcases how.2 with h | ⟨g, c, cu, e1, e2, r⟩
          · exact .inl h
          · exact .inr ⟨g, c, cu, e1, Nat.zero_le _, r⟩
        have hgr' : s.w.grownBy w' v.ownBlock := ⟨hgr.os, hgr.tape, hgr.output, hgr.size, fun k hk _ => hgr.block k hk (by simp)⟩
        have := own_grown (l := l) (v := v) (m := 0) h0 hle hg hr' how0 hgr' (fun g' hgb hlt => by
          have h1 := how.lt g' hgb
          have h2 : s.n = s.w.heap.size := rfl
          omega)
        exact ⟨v', w', hle, by rw [hv]; exact hrun, this.1, this.2⟩
theorem k_append {l lx : Lab} {t e w bytes : Nat} {z : Value} {v vx : Value} {ds es : List D} (hT : elemT P t e w bytes z) (hx : ev ρ x = some v) (hy : ev ρ y = some vx) (h : Own s l e w v ds) (h' : SL s lx vx w es)
    (hsz : (ds.length + es.length) * bytes ≤ 140737488355328) (hmx : ds.length + es.length ≤ 9223372036854775807) (hd : Nat.blt d n = true)
    (hK : ∀ s' v', Step (KC l.o l.c) s s' → Own s' l e w v' (ds ++ es) → KL P n Df ops Q rest ((d, v') :: ρ) s'.w) :
    KL P n Df ops Q (⟨some d, .call { callee := .builtin .append, args := [x, y].toArray, argTypes := [t, t].toArray }, ty, pos, aft, none⟩ :: rest) ρ s.w := by
  obtain ⟨v', w', hl, hrun, st, ho⟩ := run_append_law (ty := ty) hT h h' hsz hmx
  refine .val rfl rfl hd (v := v') (w' := w') (fun η ha => ?_) (hK (s.to w' l hl) v' st ho)
  simp [execOp, resolve, invoke, builtin, ha.ev hx, ha.ev hy, hrun]
theorem RCs.bytes {s : St} (m : List UInt8) : RCs s 1 (m.map fun b => Value.int .u8 b.toNat) (Bs m) := by
  refine ⟨by simp, fun i hi => ?_⟩
  have hi' : i < m.length := by simpa using hi
  have e : (((m.map fun b => Value.int .u8 b.toNat)).drop (i * 1)).take 1 = [Value.int .u8 m[i].toNat] := by
    rw [Nat.mul_one, List.drop_eq_getElem_cons (by simpa using hi')]
    simp
  rw [e, List.getElem_map]
  exact .val _ rfl
theorem k_append_str {l : Lab} {t u e bytes : Nat} {z : Value} {v : Value} {ds : List D} {m : List UInt8} (hT : elemT P t e 1 bytes z) (hz : z = .int .u8 0) (hb1 : bytes = 1) (hu : P.underlying u = some .string) (hx : ev ρ x = some v) (hy : ev ρ y = some (S m)) (h : Own s l e 1 v ds)
    (hsz : ds.length + m.length ≤ 140737488355328) (hd : Nat.blt d n = true)
    (hK : ∀ s' v', Step (KC l.o l.c) s s' → Own s' l e 1 v' (ds ++ Bs m) → KL P n Df ops Q rest ((d, v') :: ρ) s'.w) :
    KL P n Df ops Q (⟨some d, .call { callee := .builtin .append, args := [x, y].toArray, argTypes := [t, u].toArray }, ty, pos, aft, none⟩ :: rest) ρ s.w := by
  subst hz hb1
  obtain ⟨i, h1, h2, h3, h4, h5, h6, h7⟩ := hT
  obtain ⟨h0, hle, xs, ho, hg, hr⟩ := h
  have hmx : ds.length + (ByteArray.mk m.toArray).size ≤ maxLen := by rw [S_size]; unfold maxLen; omega
  have hcells : Lib.strCells ⟨m.toArray⟩ = m.map fun b => Value.int .u8 b.toNat := by simp [Lib.strCells]
  have hr' : RCs s 1 (xs ++ Lib.strCells ⟨m.toArray⟩) (ds ++ Bs m) := by rw [hcells]; exact hr.append (RCs.bytes m)
  have hlen : (ds ++ Bs m).length = ds.length + (ByteArray.mk m.toArray).size := by rw [S_size]; simp
  have base : ∀ (base : Nat), base ≤ s.n → s.w.ownsRow base e 1 v ds.length xs → (∀ v' w', (Builtin.append_ #[t, u] ty #[v, S m]).run P s.w = .ok v' w' → w'.ownsRow base e 1 v' (ds.length + (ByteArray.mk m.toArray).size) (xs ++ Lib.strCells ⟨m.toArray⟩) → s.w.grownBy w' v.ownBlock → ∀ g, v'.ownBlock = some g → g < s.n → v.ownBlock = some g) →
      KL P n Df ops Q (⟨some d, .call { callee := .builtin .append, args := [x, y].toArray, argTypes := [t, u].toArray }, ty, pos, aft, none⟩ :: rest) ρ s.w := by
    intro base hbase ho' hsame
    obtain ⟨v', w', hrun, how, hgr, hnil⟩ := Lib.run_append_own_string (P := P) s.w base t u ty e i h1 hu h2 h3 h4 h5 v ds.length xs ho' ⟨m.toArray⟩ hmx (by rw [S_size]; exact hsz) hbase
    have how0 : w'.ownsRow 0 e 1 v' (ds ++ Bs m).length (xs ++ Lib.strCells ⟨m.toArray⟩) := by
      rw [hlen]
      refine ⟨how.1, ?_⟩
      rcases how.2 with h | ⟨g, c, cu, e1, e2, r⟩
      · exact .inl h
      · exact .inr ⟨g, c, cu, e1, Nat.zero_le _, r⟩
    have := own_grown (l := l) (v := v) (m := 0) h0 hle hg hr' how0 hgr (hsame v' w' hrun how hgr)
    refine .val rfl rfl hd (v := v') (w' := w') (fun η ha => ?_) (hK (s.to w' l hle) v' this.1 this.2)
    simp [execOp, resolve, invoke, builtin, ha.ev hx, ha.ev hy, hrun]
  rcases ho.2 with ⟨hv, hn⟩ | ⟨g, cap', cur, hv, hb, hgg, hle', hcm, hcs, ht⟩
  · exact base s.n (Nat.le_refl _) ⟨ho.1, .inl ⟨hv, hn⟩⟩ (fun v' w' _ how _ g hgb hlt => by have := how.lt g hgb; omega)
  · by_cases hroom : ds.length + (ByteArray.mk m.toArray).size ≤ cap'
    · have hrun2 := Lib.run_append_room_string (P := P) s.w t u ty e i h1 hu h2 h4 g ds.length cap' cur hgg ⟨m.toArray⟩ hroom (by rw [hcs]; omega)
      refine base 0 (Nat.zero_le _) ho (fun v' w' hrun _ _ g' hgb _ => ?_)
      rw [hv, hrun2] at hrun
      injection hrun with e1 e2
      rw [← e1] at hgb
      simp [Value.ownBlock] at hgb
      rw [hv, ← hgb]; rfl
    · have holds : ∀ j u, xs[j]? = some u → s.w.cell? ((⟨g, 0, none⟩ : Addr).add j) = some u := ho.cells (g := g) (by rw [hv]; rfl)
      have hxl : xs.length = ds.length := by simpa using ho.1
      have hrun2 := Lib.run_append_grow_string (P := P) s.w t u ty e i (.int .u8 0) h1 hu h2 h3 ⟨g, 0, none⟩ ds.length cap' xs (by rw [h4]; simpa using hxl) holds ⟨m.toArray⟩ (by omega) (by rw [S_size]; omega) (by rw [h5]; exact growslice_fits (by omega) (by rw [S_size]; omega))
      refine base 0 (Nat.zero_le _) ho (fun v' w' hrun _ _ g' hgb hlt => ?_)
      rw [hv, hrun2] at hrun
      injection hrun with e1 e2
      rw [← e1] at hgb
      simp [Value.ownBlock] at hgb
      have : s.n = s.w.heap.size := rfl
      omega
end
end Go.Fw
