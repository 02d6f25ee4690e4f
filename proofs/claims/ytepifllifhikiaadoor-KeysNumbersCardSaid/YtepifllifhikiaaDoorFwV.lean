import Derived.Test.YtepifllifhikiaaDoorFwU
import Derived.RangeFuncIn
import Derived.RangeFuncRecord
set_option linter.unusedSimpArgs false
set_option linter.unusedVariables false
namespace Go.Fw
/-! a range over a function -/
/-- A call of the yield of loop l. -/
def Yields (P : Program) (l : Nat) (vs : List Value) (w : World) (T : Ending → World → Prop) : Prop :=
  ∃ fn tmps assign body, (Instr.yield l vs.toArray).run P w = .ok (.round l fn tmps assign body) w ∧ RoundIn (fnc none) 0 P l fn tmps assign body w T

section
variable {P : Program} {n : Nat} {Df : Md} {ops : Array Oper} {Q : Post} {rest : List Oper} {ρ : Env} {s : St} {w0 : World}
variable {d : Nat} {ty : TypeId} {pos : String} {aft : Array Edge} {x y z : Operand}
theorem k_yield {K : Lab → Prop} {φ : St → Value → Prop} {l : Nat} {xs : List Operand} {ats : Array TypeId} {vs : List Value} (hv : ev ρ x = some (.func (.yield l) #[] #[])) (hx : evs ρ xs = some vs)
    (hy : Yields P l vs s.w (Ret s K φ)) (hd : Nat.blt d n = true)
    (hK : ∀ s' v, Step K s s' → φ s' v → KL P n Df ops Q rest ((d, v) :: ρ) s'.w) :
    KL P n Df ops Q (⟨some d, .call { callee := .value x, args := xs.toArray, argTypes := ats }, ty, pos, aft, none⟩ :: rest) ρ s.w := by
  intro a ha
  refine wpListIn_plain rfl fun K' hk => ?_
  obtain ⟨fn, tmps, assign, body, h1, h2⟩ := hy
  have hr : (execOp a.eval ⟨some d, .call { callee := .value x, args := xs.toArray, argTypes := ats }, ty, pos, aft, none⟩).run P s.w = .ok (.round l fn tmps assign body) s.w := by
    have hx' := Agr.evs (η := a.eval) (fun _ _ e => ha.ev e) hx
    unfold execOp
    simp only [resolve, Deferred.ofValue, ha.ev hv]
    simp [invoke, hx', Sem.run, go_sem, h1]
  refine op_in (x := .round l fn tmps assign body) (by intro d e; cases e) hr ?_
  rw [Oper.uponIn_round]
  refine ⟨fun h => absurd h (by simp), RoundIn.mono h2 ?_⟩
  rintro e w' ⟨s', v, rfl, rfl, st, h⟩
  exact hk _ _ (hK s' v st h _ (ha.put hd v))
end

/-- The record of a loop, ready or busy. -/
def LoopR (s : St) (l : Nat) (r : Loop) : Prop := l < s.n ∧ s.g l = ⟨l + 1, 0⟩ ∧ s.w.heap[l]? = some (.loop r)
theorem LoopR.up2 {K : Lab → Prop} {s s' : St} {l : Nat} {r : Loop} (h : LoopR s l r) (st : Step K s s') (hk : ¬ K ⟨l + 1, 0⟩ := by first | exact id | (simp only [KU, KN, KC, KO, K0, KB] <;> omega)) : LoopR s' l r := by
  obtain ⟨h1, h2, h3⟩ := h
  obtain ⟨k1, k2⟩ := st.keep l h1 (by rw [h2]; exact hk)
  exact ⟨Nat.lt_of_lt_of_le h1 st.size, k2.trans h2, k1.trans h3⟩
/-- The block for deferred calls, with none in it. -/
def Mark (s : St) (D : Nat) : Prop := D < s.n ∧ s.g D = ⟨D + 1, 0⟩ ∧ s.w.heap[D]? = some (.deferred (some []))
theorem Mark.up2 {K : Lab → Prop} {s s' : St} {D : Nat} (h : Mark s D) (st : Step K s s') (hk : ¬ K ⟨D + 1, 0⟩ := by first | exact id | (simp only [KU, KN, KC, KO, K0, KB] <;> omega)) : Mark s' D := by
  obtain ⟨h1, h2, h3⟩ := h
  obtain ⟨k1, k2⟩ := st.keep D h1 (by rw [h2]; exact hk)
  exact ⟨Nat.lt_of_lt_of_le h1 st.size, k2.trans h2, k1.trans h3⟩
theorem St.putObj {s : St} {l : Nat} (o : Obj) (h : l < s.n) (hg : s.g l = ⟨l + 1, 0⟩) : ∃ s' : St, s'.w = s.w.putObj l o ∧ s'.g = s.g ∧ Step (KC (l + 1) 0) s s' ∧ s'.w.heap[l]? = some o := by
  refine ⟨⟨s.w.putObj l o, s.g, s.wf⟩, rfl, rfl, ⟨rfl, rfl, rfl, by show s.w.heap.size ≤ (s.w.putObj l o).heap.size; rw [World.putObj_size]; exact Nat.le_refl _, fun b hb hk => ⟨?_, rfl⟩, fun c hc => by have h0 : (0 : Nat) = l + 1 := hc.1; omega⟩, World.putObj_heap_same h⟩
  exact World.putObj_heap_other (by rintro rfl; exact hk (by rw [hg]; exact ⟨rfl, rfl⟩))
/-- A round's record turned. -/
theorem LoopR.put {s : St} {l : Nat} {r r' : Loop} (h : LoopR s l r) : ∃ s' : St, s'.w = s.w.putObj l (.loop r') ∧ Step (KC (l + 1) 0) s s' ∧ LoopR s' l r' := by
  obtain ⟨h1, h2, h3⟩ := h
  obtain ⟨s', e, eg, st, hh⟩ := St.putObj (.loop r') h1 h2
  exact ⟨s', e, st, Nat.lt_of_lt_of_le h1 st.size, by rw [eg]; exact h2, hh⟩

/-- Who is told of what an iterator gives: x is his state. What he writes was there at n0. -/
structure Yielder (P : Program) (n0 l : Nat) {X A : Type} (enc : St → A → List Value → Prop) (c : X → A → Option (Bool × X)) (I : X → St → Prop) (Ky : Lab → Prop) : Prop where
  up : ∀ x s1 s2 K, I x s1 → Step K s1 s2 → (∀ lab, K lab → n0 < lab.o) → I x s2
  yield : ∀ x y r s1 vs, n0 ≤ s1.n → I x s1 → enc s1 y vs → c x y = some r → Yields P l vs s1.w (Ret s1 (KB n0 Ky) (fun s2 v => v = .bool r.1 ∧ I r.2 s2))
/-- His state, as one of the things in memory. -/
def Cons {X : Type} (I : X → St → Prop) (n0 : Nat) (s : St) (x : X) : Prop := I x s ∧ n0 ≤ s.n ∧ (∀ x s1 s2 K, I x s1 → Step K s1 s2 → (∀ lab, K lab → n0 < lab.o) → I x s2)
theorem Cons.up2 {X : Type} {I : X → St → Prop} {n0 : Nat} {K : Lab → Prop} {s s' : St} {x : X} (h : Cons I n0 s x) (st : Step K s s') (hk : ∀ lab, K lab → n0 < lab.o := by intro lab h; first | exact h.elim | (simp only [KU, KN, KC, KO, K0, KB] at h; omega)) : Cons I n0 s' x :=
  ⟨h.2.2 x s s' K h.1 st hk, Nat.le_trans h.2.1 st.size, h.2.2⟩

theorem Cons.of {P : Program} {l : Nat} {X A : Type} {enc : St → A → List Value → Prop} {c : X → A → Option (Bool × X)} {I : X → St → Prop} {Ky : Lab → Prop} {n0 : Nat} {s : St} {x : X} (hY : Yielder P n0 l enc c I Ky) (h : I x s) (hn : n0 ≤ s.n) : Cons I n0 s x := ⟨h, hn, hY.up⟩
theorem k_exit_out {P : Program} {n : Nat} {Df : Md} {F : Post} {ρ : Env} {w : World} {i : Nat} (h : F (.exit i) ρ w) : ∀ {k : List It}, exitIt i k = none → G P n Df F (.code (.exit i) :: k) ρ w := by
  intro k hk
  have key : ∀ k : List It, exitIt i k = none → Qs P n Df F k (.exit i) ρ w := by
    intro k
    induction k with
    | nil => intro _; exact h
    | cons t k ih =>
      intro hk
      cases t with
      | code c => exact ih hk
      | stop φ => exact ih hk
      | blk id =>
        simp only [exitIt] at hk
        simp only [Qs]
        cases e : Nat.beq i id with
        | true => rw [e] at hk; simp at hk
        | false => rw [e] at hk; simp at hk; exact ih hk
  exact fun a ha => wpIn_exit ⟨ρ, ha, key k hk⟩
theorem cells1 {v : Value} (h : v.oneCell' = true) : v.cells.toList = [v] := by
  cases v <;> first | rfl | (simp [Value.oneCell'] at h)
theorem RC.up2 {K : Lab → Prop} {s s' : St} {cs : List Value} {d : D} (h : RC s cs d) (st : Step K s s') : RC s' cs d := h.up st
/-- A block that holds a datum which nobody writes. -/
def BoxR (s : St) (b : Nat) (T : TypeId) (d : D) : Prop := ∃ cs, Blk s b ⟨b + 1, 0⟩ cs T ∧ RC s cs d
theorem BoxR.up2 {K : Lab → Prop} {s s' : St} {b : Nat} {T : TypeId} {d : D} (h : BoxR s b T d) (st : Step K s s') (hk : ¬ K ⟨b + 1, 0⟩ := by first | exact id | (simp only [KU, KN, KC, KO, K0, KB] <;> omega)) : BoxR s' b T d := by
  obtain ⟨cs, h1, h2⟩ := h
  exact ⟨cs, h1.up st hk, h2.up st⟩
theorem BoxR.lt {s : St} {b : Nat} {T : TypeId} {d : D} (h : BoxR s b T d) : b < s.n := by obtain ⟨cs, h1, _⟩ := h; exact h1.lt
/-! the statement -/
def envZ (ρ : Env) : List Nat → List Value → Env
  | p :: ps, v :: vs => envZ ((p, v) :: ρ) ps vs
  | _, _ => ρ
theorem Ag.envZ {n : Nat} {Df : Md} : ∀ {ps : List Nat} {vs : List Value} {ρ : Env} {tmps : Array Value} {df : List Deferred}, Ag n Df ρ { tmps := tmps, defers := df } → (∀ p ∈ ps, p < n) → Ag n Df (envZ ρ ps vs) { tmps := (ps.zip vs).foldl (fun t (x : Nat × Value) => t.setIfInBounds x.1 x.2) tmps, defers := df }
  | [], vs, ρ, tmps, df, h, _ => by simpa [Fw.envZ] using h
  | p :: ps, [], ρ, tmps, df, h, _ => by simpa [Fw.envZ] using h
  | p :: ps, v :: vs, ρ, tmps, df, h, hp => by
    have h1 := h.put (d := p) (by simpa [Nat.blt_eq] using hp p (by simp)) v
    have := Ag.envZ (ps := ps) (vs := vs) (ρ := (p, v) :: ρ) (tmps := tmps.setIfInBounds p v) (df := df) h1 (fun q hq => hp q (by simp [hq]))
    simpa [Fw.envZ] using this
/-- Who has stopped is not asked again. -/
def stopC {X A : Type} (c : X → A → Option (Bool × X)) (x : Bool × X) (y : A) : Option (Bool × (Bool × X)) := if x.1 = true then none else (c x.2 y).map fun r => (r.1, (!r.1, r.2))
def NoF : Post := fun _ _ _ => False
def Begin (P : Program) (n l : Nat) (R : Post) (body : Code) (ρ : Env) (w : World) : Prop := ∃ w2, (Instr.beginRound l).run P w = .ok () w2 ∧ CW P n ⟨[], some l⟩ body R ρ w2
/-- What a round's body must come to. -/
def RoundF {X : Type} (l id : Nat) (rec : Loop) (Kb : Lab → Prop) (I : X → St → Prop) (s1 : St) (r : Bool × X) : Post
  | .normal, _, w => r.1 = true ∧ ∃ s2 : St, s2.w = w ∧ Step (KU (KC (l + 1) 0) Kb) s1 s2 ∧ LoopR s2 l { rec with state := .busy } ∧ I r.2 s2
  | .exit i, _, w => i = id ∧ r.1 = false ∧ ∃ s2 : St, s2.w = w ∧ Step (KU (KC (l + 1) 0) Kb) s1 s2 ∧ LoopR s2 l { rec with state := .busy } ∧ I r.2 s2
  | _, _, _ => False
section
variable {P : Program} {n : Nat} {ρ : Env} {s : St} {X A : Type}
theorem k_begin {l : Nat} {rec : Loop} {R : Post} {body : Code} (h : LoopR s l rec) (hr : rec.state = .ready) (hK : ∀ s2 : St, Step (KC (l + 1) 0) s s2 → LoopR s2 l { rec with state := .busy } → G P n ⟨[], some l⟩ R [.code body] ρ s2.w) : Begin P n l R body ρ s.w := by
  obtain ⟨s', e, st, h'⟩ := LoopR.put (r' := { rec with state := .busy }) h
  exact ⟨s'.w, by rw [e]; exact run_beginRound h.2.2 hr, hK s' st h'⟩
theorem zip_arr (ps : List Nat) (vs : List Value) (t : Array Value) : (ps.toArray.zip vs.toArray).foldl (fun t (x : Nat × Value) => t.setIfInBounds x.1 x.2) t = (ps.zip vs).foldl (fun t (x : Nat × Value) => t.setIfInBounds x.1 x.2) t := by
  simp
/-- What is left to do where the deferred calls may change. -/
def RK (P : Program) (W : Exit → Act → World → Prop) : List Code → Act → World → Prop
  | [] => W .normal
  | c :: k => c.wpIn (fnc none) 0 P (Exit.then (RK P W k) W)
def RAWK (P : Program) (n : Nat) (Df : Md) (W : Exit → Act → World → Prop) (k : List Code) (ρ : Env) (w : World) : Prop := ∀ a, Ag n Df ρ a → RK P W k a w
theorem rk_seq {W : Exit → Act → World → Prop} {df : List Deferred} {x y : Code} {k : List Code} {w : World} (h : RAWK P n ⟨df, none⟩ W (x :: y :: k) ρ w) : RAWK P n ⟨df, none⟩ W (.seq x y :: k) ρ w := by
  intro a ha
  refine wpIn_seq (wpIn_mono (h a ha) ?_)
  intro e a' w' hq
  cases e <;> exact hq
theorem rk_run {W : Exit → Act → World → Prop} {df : List Deferred} {x : Code} {k : List Code} {w : World} (h : G P n ⟨df, none⟩ (RawF n ⟨df, none⟩ W) [.code x, .stop (RAWK P n ⟨df, none⟩ W k)] ρ w) : RAWK P n ⟨df, none⟩ W (x :: k) ρ w := by
  intro a ha
  refine wpIn_mono (h a ha) ?_
  rintro e a' w' ⟨ρ', hag, hq⟩
  cases e <;> exact hq a' hag
theorem rk_last {W : Exit → Act → World → Prop} {df : List Deferred} {x : Code} {w : World} (h : G P n ⟨df, none⟩ (RawF n ⟨df, none⟩ W) [.code x] ρ w) : RAWK P n ⟨df, none⟩ W [x] ρ w := by
  intro a ha
  refine wpIn_mono (h a ha) ?_
  rintro e a' w' ⟨ρ', hag, hq⟩
  cases e <;> exact hq a' hag
theorem rk_range {bi : Nat} {g : Operand} {ps : List Nat} {assign body : Code} {k : List Code} {df : List Deferred} {W : Exit → Act → World → Prop} {gf : FuncId} {caps : List Value}
    (enc : St → A → List Value → Prop) (c : X → A → Option (Bool × X)) (I : X → St → Prop) (Kb : Lab → Prop)
    (hg : ev ρ g = some (.func (.func gf) #[] caps.toArray)) (hcal : Callable P gf) (hps : ∀ s y vs, enc s y vs → vs.length = ps.length) (hpl : ∀ p ∈ ps, p < n)
    (hKb : ∀ lab, Kb lab → lab.o ≠ 0 ∧ lab.o ≤ s.n) (x0 : X) (x1 : Bool × X) (hI0 : I x0 s)
    (hup : ∀ x s1 s2 K, I x s1 → Step K s1 s2 → (∀ lab, K lab → s.n < lab.o) → I x s2)
    (hround : ∀ (l : Nat) (rec : Loop) (s1 : St) (x : X) (y : A) (vs : List Value) (r : Bool × X), s.n < l → l < s1.n → rec.state = .ready → I x s1 → LoopR s1 l rec → enc s1 y vs → c x y = some r →
      G P n ⟨[], some l⟩ NoF [.code assign, .stop (fun ρ' w' => Begin P n l (RoundF l bi rec Kb I s1 r) body ρ' w')] (envZ ρ ps vs) s1.w)
    (hcall : ∀ (l : Nat) (s1 : St) (I' : Bool × X → St → Prop) (Ky : Lab → Prop), Step K0 s s1 → s.n < l → l < s1.n → (∀ lab, Ky lab → lab.o ≤ s.n ∨ lab.o = l + 1) → (∀ lab, Ky lab → lab = ⟨l + 1, 0⟩ ∨ Kb lab) → Yielder P s1.n l enc (stopC c) I' Ky → I' (false, x0) s1 →
      Calls P gf (.func (.yield l) #[] #[] :: caps).toArray s1.w (Ret s1 (KB s1.n Ky) (fun s2 v => v = .tuple #[] ∧ I' x1 s2)))
    (hnext : ∀ (D : Nat) (s2 : St), Step Kb s s2 → I x1.2 s2 → Mark s2 D → s.n ≤ D → RAWK P n ⟨⟨.collected D, #[]⟩ :: df, none⟩ W k ρ s2.w) :
    RAWK P n ⟨df, none⟩ W (.block bi (.rangeFunc g ps.toArray assign body) :: k) ρ s.w := by
  intro a ha
  refine wpIn_block (wpIn_rangeFunc ?_)
  intro fn hfn
  obtain ⟨fnr, hf1, hf2, hf3⟩ := hcal
  have hKb0 : ∀ c, ¬ Kb ⟨0, c⟩ := fun c hc => (hKb _ hc).1 rfl
  -- the two blocks
  obtain ⟨rec, hrec⟩ : ∃ rec : LoopState → Option Code → Loop, rec = fun st pe => { state := st, pending := pe, fn := fn, tmps := a.tmps, params := ps.toArray, assign := assign, body := body, defers := s.w.heap.size } := ⟨_, rfl⟩
  let sa : St := s.to (s.w.alloc (.deferred (some []))) ⟨s.n + 1, 0⟩ (Nat.le_refl _)
  have sta : Step K0 s sa := St.to_alloc
  let sb : St := sa.to (sa.w.alloc (.loop (rec .ready none))) ⟨sa.n + 1, 0⟩ (Nat.le_refl _)
  have stb : Step K0 sa sb := St.to_alloc
  have na : sa.n = s.n + 1 := by show (s.w.alloc _).heap.size = _; simp
  have nb : sb.n = s.n + 2 := by show (sa.w.alloc _).heap.size = _; rw [World.size_alloc]; exact congrArg (· + 1) na
  have hMa : Mark sa s.n := ⟨by omega, St.to_g_new (Nat.le_refl _), World.alloc_heap_new _ _⟩
  have hM : Mark sb s.n := hMa.up2 stb id
  have hL : LoopR sb sa.n (rec .ready none) := ⟨by omega, St.to_g_new (Nat.le_refl _), World.alloc_heap_new _ _⟩
  rw [na] at hL
  have hsb : Step K0 s sb := sta.trans0 stb
  -- the state of who is told
  let I' : Bool × X → St → Prop := fun x sl => I x.2 sl ∧ LoopR sl (s.n + 1) (rec (if x.1 = true then .done else .ready) (if x.1 = true then some (.exit bi) else none)) ∧ Mark sl s.n
  let Ky : Lab → Prop := KU (KC (s.n + 1 + 1) 0) Kb
  have hcl := hcall (s.n + 1) sb I' Ky hsb (by omega) (by omega)
    (fun lab h => by rcases h with h | h; exact .inr h.1; exact .inl (hKb _ h).2) (fun lab h => by rcases h with h | h; exact .inl (by cases lab; obtain ⟨h1, h2⟩ := h; simp_all); exact .inr h) ?_ ⟨hup _ _ _ _ hI0 hsb (fun _ h => h.elim), hL, hM⟩
  · refine ⟨s.n + 1, [{ target := .collected s.n, args := #[] }], sb.w, { target := .fn (.func gf) caps.toArray, args := #[.func (.yield (s.n + 1)) #[] #[]] }, sb.w, gf, (.func (.yield (s.n + 1)) #[] #[] :: caps).toArray, sb.w, ?_, ?_, fun _ _ => trivial, ?_, fun h => absurd h (by simp), calls_in (hcl.mono ?_)⟩
    · have := run_enterLoop_outer (P := P) (w := s.w) fn a.tmps ps.toArray assign body
      show _ = Result.ok (s.w.heap.size + 1, _) ((s.w.alloc _).alloc (.loop (rec .ready none)))
      rw [hrec]
      exact this
    · have := ha.ev hg
      simp only [resolve, this, Deferred.ofValue]
      simp [go_sem]
    · have h2' : ¬ fnr.name = "runtime.NumGoroutine" := by intro e; rw [e] at hf2; simp at hf2
      have h3' : ¬ fnr.body = none := by intro e; rw [e] at hf3; simp at hf3
      simp [invoke, callFunc, hf1, h2', h3', program, Sem.run, go_sem]
    · rintro e w' ⟨s2, v, rfl, rfl, st, _, hI2, hL2, hM2⟩
      obtain ⟨s3, e3, st3, hL3⟩ := LoopR.put (r' := { rec (if x1.1 = true then .done else .ready) (if x1.1 = true then some (.exit bi) else none) with state := .exhausted }) hL2
      have hst : Step Kb s s3 := by
        refine ((hsb.of0 hKb0).trans st (fun i hi hk => ?_)).trans st3 (fun i hi hk => ?_)
        · have hw := s.wf i
          rcases hk.1 with h | h
          · have := h.1; omega
          · exact h
        · have hw := s.wf i
          have := hk.1; omega
      have hfin := hnext s.n s3 hst (hup _ _ _ _ hI2 st3 (fun lab h => by have := h.1; omega)) (hM2.up2 st3 (fun h => by have : s.n + 1 = s.n + 1 + 1 := h.1; omega)) (Nat.le_refl _)
      have hag : Ag n ⟨⟨.collected s.n, #[]⟩ :: df, none⟩ ρ { a with defers := [{ target := .collected s.n, args := #[] }] ++ a.defers } := ⟨ha.size, ha.get, by show _ :: _ = _; exact congrArg (_ :: ·) ha.defers⟩
      have hfin := hfin _ hag
      refine ⟨_, s3.w, by rw [e3]; exact run_endLoop hL2.2.2 (by rw [hrec]; simp only; split <;> simp), ?_⟩
      rw [hrec]
      simp only
      by_cases hb : x1.1 = true
      · simp only [hb, if_true]
        refine wpIn_exit ?_
        simp only [Exit.inBlock, if_true]
        exact hfin
      · simp only [hb, if_false]
        exact hfin
  · -- one round
    refine ⟨?_, ?_⟩
    · rintro x t1 t2 K ⟨h1, h2, h3⟩ st hK
      exact ⟨hup _ _ _ _ h1 st (fun lab h => by have := hK _ h; omega), h2.up2 st (fun h => by have := hK _ h; simp at this; omega), h3.up2 st (fun h => by have := hK _ h; simp at this; omega)⟩
    · rintro ⟨b, x⟩ y r t1 vs hn ⟨h1, h2, h3⟩ hy hc
      unfold stopC at hc
      cases b with
      | true => simp at hc
      | false =>
        have h1 : I x t1 := h1
        have h2 : LoopR t1 (s.n + 1) (rec .ready none) := h2
        simp only [Bool.false_eq_true, if_false] at hc
        obtain ⟨r0, hc0, rfl⟩ := Option.map_eq_some_iff.1 hc
        have hr := hround (s.n + 1) (rec .ready none) t1 x y vs r0 (by omega) (by omega) (by rw [hrec]) h1 h2 hy hc0
        have hyr := run_yield (P := P) (args := vs.toArray) h2.2.2 (by rw [hrec]; simpa using hps _ _ _ hy)
        refine ⟨_, _, _, _, hyr, roundIn_of_wpIn trivial ?_⟩
        have e1 : (rec .ready none).params = ps.toArray := by rw [hrec]
        have e2 : (rec .ready none).tmps = a.tmps := by rw [hrec]
        have e3 : (rec .ready none).assign = assign := by rw [hrec]
        have e4 : (rec .ready none).body = body := by rw [hrec]
        rw [e1, e2, e3, e4]
        have hag : Ag n ⟨[], some (s.n + 1)⟩ (envZ ρ ps vs) { tmps := (ps.toArray.zip vs.toArray).foldl (fun t (x : Nat × Value) => t.setIfInBounds x.1 x.2) a.tmps, defers := [] } := by
          rw [zip_arr]
          exact Ag.envZ (Df := ⟨[], some (s.n + 1)⟩) ⟨ha.size, ha.get, rfl⟩ hpl
        refine wpIn_mono (hr _ hag) ?_
        rintro e a' w' ⟨ρ', hag', hq⟩
        cases e with
        | normal =>
          obtain ⟨w2, hb1, hb2⟩ := hq
          refine ⟨w2, hb1, wpIn_mono (hb2 a' hag') ?_⟩
          have fin : ∀ (jump : Option Code) (u : St), Step (KU (KC (s.n + 1 + 1) 0) Kb) t1 u → LoopR u (s.n + 1) { rec .ready none with state := .busy } → I r0.2 u → jump.isNone = r0.1 → jump = (if (!r0.1) = true then some (.exit bi) else none) →
              ∃ v w', (Instr.endRound (s.n + 1) jump).run P u.w = .ok v w' ∧ Ret t1 (KB sb.n Ky) (fun s2 v => v = .bool r0.1 ∧ I' (!r0.1, r0.2) s2) (.returned v) w' := by
            intro jump u st hLu hIu hj hj2
            obtain ⟨u2, e5, st5, hL5⟩ := LoopR.put (r' := { rec .ready none with state := if jump.isNone then .ready else .done, pending := jump }) hLu
            refine ⟨_, _, run_endRound jump hLu.2.2, u2, .bool jump.isNone, ?_, rfl, ?_, by rw [hj], hup _ _ _ _ hIu st5 (fun lab h => by have := h.1; omega), ?_, ?_⟩
            · rw [e5]
            · have hst : Step (KU (KC (s.n + 1 + 1) 0) Kb) t1 u2 := st.trans st5 (fun i _ hk => .inl hk)
              exact hst.mono (fun lab h => ⟨h, by rcases h with h | h; have := h.1; omega; exact (hKb _ h).1, by rcases h with h | h; have := h.1; omega; have := (hKb _ h).2; omega⟩) (fun c h => h.2.1 rfl)
            · have e6 : { rec .ready none with state := if jump.isNone then LoopState.ready else .done, pending := jump } = rec (if (!r0.1) = true then .done else .ready) (if (!r0.1) = true then some (.exit bi) else none) := by
                rw [hrec, ← hj2, hj]; cases r0.1 <;> rfl
              rw [← e6]; exact hL5
            · exact (h3.up2 st (fun h => by rcases h with h | h; (have : s.n + 1 = s.n + 1 + 1 := h.1; omega); (have := (hKb _ h).2; simp at this; omega))).up2 st5 (fun h => by have : s.n + 1 = s.n + 1 + 1 := h.1; omega)
          rintro e2 a2 w3 ⟨ρ2, hag2, hq2⟩
          cases e2 with
          | normal =>
            obtain ⟨q1, u, rfl, q2, q3, q4⟩ := hq2
            exact fin none u q2 q3 q4 (by rw [q1]; rfl) (by rw [q1]; rfl)
          | exit i =>
            obtain ⟨q0, q1, u, rfl, q2, q3, q4⟩ := hq2
            subst q0
            exact fin (some (.exit i)) u q2 q3 q4 (by rw [q1]; rfl) (by rw [q1]; rfl)
          | ret => exact hq2.elim
          | goto l => exact hq2.elim
          | panic ch => exact hq2.elim
          | outgrown => exact hq2.elim
        | exit i => exact hq.elim
        | goto l => exact hq.elim
        | ret => exact hq.elim
        | panic ch => exact hq.elim
        | outgrown => exact hq.elim
end
/-! the end of a function that has such a statement -/
section
variable {P : Program} {n : Nat} {ρ : Env} {s : St} {w : World} {fn : Func} {T : Ending → World → Prop}
def RE (P : Program) (n : Nat) (fn : Func) (T : Ending → World → Prop) (df : List Deferred) (ρ : Env) (w : World) : Prop :=
  ∀ tmps : Array Value, tmps.size = n → (∀ t v, look ρ t = some v → tmps.getD t undef = v) → LeavesInM (fnc none) 0 P fn tmps T df .returning w
theorem re_nil {rs : List Nat} (hr : fn.results = (rs.map ResultVar.tmp).toArray) (hl : Nat.ble rs.length 4 = true) (h : ∃ vs, looks ρ rs = some vs ∧ T (.returned (one vs)) w) : RE P n fn T [] ρ w := by
  intro tmps h1 h2
  obtain ⟨vs, h3, h4⟩ := h
  have hag : Ag n M0 ρ { tmps := tmps, defers := [] } := ⟨h1, h2, rfl⟩
  exact ⟨one vs, by rw [results_list hr hl, looks_ag hag h3], h4⟩
theorem re_cons {D : Nat} {df : List Deferred} (hM : Mark s D) (h : ∀ s2 : St, Step (KC (D + 1) 0) s s2 → RE P n fn T df ρ s2.w) : RE P n fn T (⟨.collected D, #[]⟩ :: df) ρ s.w := by
  intro tmps h1 h2
  obtain ⟨s2, e, eg, st, hh⟩ := St.putObj (.deferred none) hM.1 hM.2.1
  have := h s2 st tmps h1 h2
  exact ⟨by simp, .inl ⟨D, s2.w, rfl, by rw [e]; exact run_takeDeferred hM.2.2, this⟩⟩
theorem re_ret {df : List Deferred} (h : RE P n fn T df ρ w) : RawF n ⟨df, none⟩ (bodyPostM (fnc none) 0 P fn T) .ret ρ w := by
  intro a ha
  show LeavesInM (fnc none) 0 P fn a.tmps T a.defers .returning w
  rw [ha.defers]
  exact h _ ha.size ha.get
theorem re_end {df : List Deferred} (h : RE P n fn T df ρ w) : RawF n ⟨df, none⟩ (bodyPostM (fnc none) 0 P fn T) .normal ρ w := by
  intro a ha
  show LeavesInM (fnc none) 0 P fn a.tmps T a.defers .returning w
  rw [ha.defers]
  exact h _ ha.size ha.get
theorem k_fn_m {f : FuncId} {c : Code} {args : List Value} (hf : P.funcs[f]? = some fn) (hb : fn.body = some c) (hn : Nat.ble args.length fn.ntmps = true)
    (h : RAWK P fn.ntmps M0 (bodyPostM (fnc none) 0 P fn T) [c] (start 0 args) w) : Calls P f args.toArray w T := by
  refine in_calls (callsIn_of_wp_marks (F := fnc none) hf hb trivial (wpIn_mono (h _ ?_) (fun e a w hq => by cases e <;> exact hq)))
  have hn' : args.length ≤ fn.ntmps := by simpa using hn
  refine ⟨by simp; omega, ?_, rfl⟩
  intro t v e
  obtain ⟨_, h2⟩ := start_look args 0 t v e
  have h3 : t < args.length := (List.getElem?_eq_some_iff.1 h2).1
  simp only [Nat.sub_zero] at h2
  rw [List.getElem?_eq_getElem h3] at h2
  simpa [Array.getD_eq_getD_getElem?, Array.getElem?_append, h3] using h2
end
end Go.Fw
