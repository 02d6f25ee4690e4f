import Derived.Test.YtcjcpmfnolhclaaDoorFwTabFwVW
import Derived.Stop.BytesEq
import Derived.Lib.Bytealg
set_option linter.unusedSimpArgs false
set_option linter.unusedVariables false
namespace Go.Fw
/-! Arrays of a few numbers that lie within structs, or are indexed openly. -/
def seti {α : Type} (l : List α) (i : Int) (v : α) : Option (List α) := if 0 ≤ i ∧ i < l.length then some (l.set i.toNat v) else none
section
variable {P : Program} {n : Nat} {Df : Md} {ops : Array Oper} {Q : Post} {rest : List Oper} {ρ : Env} {s : St} {w0 : World}
variable {d : Nat} {ty : TypeId} {pos : String} {aft : Array Edge} {x y z : Operand} {tx tyy : TypeId} {α : Type}
/-- A row, from i to j of which another one has been copied. -/
def cpyAt {α : Type} (xs : List α) (i j : Nat) (ys : List α) : List α := xs.take i ++ (ys.take (j - i) ++ xs.drop (i + min ys.length (j - i)))
theorem Blk.tl {b : Nat} {l : Lab} {T : TypeId} {f : α → Value} {pre : List Value} {xs : List α} (h : Blk s b l (pre ++ xs.map f) T) : Blk s b l (pre ++ (xs.map f ++ [])) T := by rw [List.append_nil]; exact h
theorem k_callv_in {w : World} {f : FuncId} {xs : List Operand} {ats : Array TypeId} {vs caps : List Value} (hf : Callable P f) (hx : evs ρ xs = some vs) (hv : ev ρ x = some (.func (.func f) #[] caps.toArray)) (hd : Nat.blt d n = true)
    (hc : Calls P f (vs ++ caps).toArray w (fun e w' => ∃ v, e = .returned v ∧ KL P n Df ops Q rest ((d, v) :: ρ) w')) :
    KL P n Df ops Q (⟨some d, .call { callee := .value x, args := xs.toArray, argTypes := ats }, ty, pos, aft, none⟩ :: rest) ρ w := by
  intro a ha
  refine wpListIn_plain rfl fun K' hk => ?_
  obtain ⟨fn, h1, h2, h3⟩ := hf
  have hr : (execOp a.eval ⟨some d, .call { callee := .value x, args := xs.toArray, argTypes := ats }, ty, pos, aft, none⟩).run P w = .ok (.enter f (vs ++ caps).toArray) w := by
    have hx' := Agr.evs (η := a.eval) (fun _ _ e => ha.ev e) hx
    have h2' : ¬ fn.name = "runtime.NumGoroutine" := by intro e; rw [e] at h2; simp at h2
    have h3' : ¬ fn.body = none := by intro e; rw [e] at h3; simp at h3
    unfold execOp
    simp only [resolve, Deferred.ofValue, ha.ev hv]
    simp [invoke, callFunc, h1, h2', h3', hx', program, Sem.run, go_sem]
  refine op_in (x := .enter f (vs ++ caps).toArray) (by intro d e; cases e) hr ?_
  rw [Oper.uponIn_enter]
  refine ⟨fun h => absurd h (by simp), calls_in (hc.mono ?_)⟩
  rintro e w' ⟨v, rfl, h⟩
  exact hk _ _ (h _ (ha.put hd v))
theorem k_compl32 {a : UInt32} (hx : ev ρ x = some (.int .u32 (a.toNat : Int))) (hd : Nat.blt d n = true)
    (hK : KL P n Df ops Q rest ((d, .int .u32 ((4294967295 ^^^ a).toNat : Int)) :: ρ) w0) : KL P n Df ops Q (⟨some d, .unOp .xor tx x, ty, pos, aft, none⟩ :: rest) ρ w0 := by
  have e : (BitVec.ofInt IntKind.u32.bits ((4294967295 : UInt32).toNat : Int) ^^^ BitVec.ofInt IntKind.u32.bits (a.toNat : Int)).toNat = (BitVec.ofInt IntKind.u32.bits ((4294967295 : UInt32).toNat : Int) ^^^ BitVec.ofInt IntKind.u32.bits (a.toNat : Int)).toNat := rfl
  refine .val rfl rfl hd (v := .int .u32 (IntKind.u32.wrap ((BitVec.ofInt IntKind.u32.bits ((4294967295 : UInt32).toNat : Int) ^^^ BitVec.ofInt IntKind.u32.bits (a.toNat : Int)).toNat : Int))) (fun η ha => ?_) (by rw [xor32]; exact hK)
  simp only [execOp, ha.ev hx, Op.unary, Op.intBits]
  rfl
end
end Go.Fw

set_option linter.unusedSimpArgs false
set_option linter.unusedVariables false
namespace Go.Fw
/-! Loops, blocks that have a range over a function within: round by round. -/
section
variable {P : Program} {n : Nat} {Df : Md} {ρ : Env} {w : World} {W : Exit → Act → World → Prop}
/-- Behind a block. -/
def WBk (P : Program) (i : Nat) (k : List Code) (W : Exit → Act → World → Prop) : Exit → Act → World → Prop := Exit.inBlock i (Exit.then (RK P W k) W)
/-- Behind a round of a loop. -/
def WLp (P : Program) (x : Code) (k : List Code) (W : Exit → Act → World → Prop) (m : Nat) : Exit → Act → World → Prop := Exit.then (Code.roundsIn (fnc none) 0 P x (Exit.then (RK P W k) W) m) (Exit.then (RK P W k) W)
/-- Behind a round of a loop of which something is known. -/
def WLI (P : Program) (n : Nat) (k : List Code) (W : Exit → Act → World → Prop) {X : Type} (ρc : Env) (ρv : X → Env) (dfs : X → List Deferred) (inv : X → World → Prop) (μ : X → Nat) (x : X) : Exit → Act → World → Prop :=
  Exit.then (fun a w => ∃ x', Ag n ⟨dfs x', none⟩ (ρv x' ++ ρc) a ∧ inv x' w ∧ μ x' < μ x) (Exit.then (RK P W k) W)
end
/-- Marks that ranges have left, between lo and hi, the last one first. -/
def MarksL (s : St) (lo : Nat) : Nat → List Deferred → Prop
  | _, [] => True
  | hi, d :: df => ∃ D, d = ⟨.collected D, #[]⟩ ∧ Mark s D ∧ lo ≤ D ∧ D < hi ∧ MarksL s lo D df
theorem MarksL.nil {s : St} {lo hi : Nat} : MarksL s lo hi [] := trivial
theorem MarksL.mono {s : St} {lo : Nat} : ∀ {df : List Deferred} {hi hi' : Nat}, MarksL s lo hi df → hi ≤ hi' → MarksL s lo hi' df
  | [], _, _, _, _ => trivial
  | _ :: _, _, _, ⟨D, h1, h2, h3, h4, h5⟩, h => ⟨D, h1, h2, h3, Nat.lt_of_lt_of_le h4 h, h5⟩
theorem MarksL.upK {K : Lab → Prop} {s s' : St} {lo : Nat} (st : Step K s s') : ∀ {df : List Deferred} {hi : Nat}, MarksL s lo hi df → (∀ D, lo ≤ D → D < hi → ¬ K ⟨D + 1, 0⟩) → MarksL s' lo hi df
  | [], _, _, _ => trivial
  | _ :: _, _, ⟨D, h1, h2, h3, h4, h5⟩, hk => ⟨D, h1, h2.up2 st (hk D h3 h4), h3, h4, MarksL.upK st h5 (fun D' h6 h7 => hk D' h6 (by omega))⟩
theorem MarksL.up2 {K : Lab → Prop} {s s' : St} {lo hi : Nat} {df : List Deferred} (h : MarksL s lo hi df) (st : Step K s s') (hk : ∀ l, K l → l.o ≤ lo ∨ hi < l.o := by intro l hl; first | exact hl.elim | omega | (simp only [KU, KN, KC, KO, K0, KB] at hl; omega)) : MarksL s' lo hi df :=
  h.upK st (fun D h1 h2 hl => by have h3 := hk _ hl; have h4 : (⟨D + 1, 0⟩ : Lab).o = D + 1 := rfl; omega)
theorem MarksL.cons {s : St} {lo hi D : Nat} {df : List Deferred} (hM : Mark s D) (hD : lo ≤ D) (h : MarksL s lo hi df) (hs : hi ≤ D) : MarksL s lo s.n (⟨.collected D, #[]⟩ :: df) := ⟨D, rfl, hM, hD, hM.1, h.mono hs⟩
end Go.Fw

set_option linter.unusedSimpArgs false
set_option linter.unusedVariables false
namespace Go.Fw
/-! Structs of a number and a row of bytes, compared. -/
def flatB (P : Program) (t : TypeId) (k : IntKind) (m : Nat) : Prop := P.underlying t = some (.struct (P.fieldsOf t)) ∧ P.stoodInHeld t = false ∧ P.eqGuardType P.depth t = false ∧
  ∃ f0 f1 e, (P.fieldsOf t).toList = [f0, f1] ∧ f0.name ≠ "_" ∧ f1.name ≠ "_" ∧ f0.offset = 0 ∧ f1.offset = 1 ∧ P.underlying f0.type = some (.int k) ∧ P.underlying f1.type = some (.array m e) ∧ P.underlying e = some (.int .u8) ∧ sizeT P e 1 = true ∧ sizeT P f1.type m = true
section
variable {P : Program} {n : Nat} {Df : Md} {ops : Array Oper} {Q : Post} {rest : List Oper} {ρ : Env} {s : St} {w0 : World}
variable {d : Nat} {ty : TypeId} {pos : String} {aft : Array Edge} {x y : Operand} {tx tyy : TypeId}
end
end Go.Fw

set_option linter.unusedSimpArgs false
set_option linter.unusedVariables false
namespace Go.Fw
theorem dec_andT {P : Prop} [Decidable P] {b : Bool} (h : P) : b = decide (P ∧ b = true) := by cases b <;> simp [h]
theorem dec_andF {P Q : Prop} [Decidable P] [Decidable Q] (h : ¬ P) : false = decide (P ∧ Q) := by simp [h]
theorem dec_orF {P : Prop} [Decidable P] {b : Bool} (h : ¬ P) : b = decide (P ∨ b = true) := by cases b <;> simp [h]
theorem dec_orT {P Q : Prop} [Decidable P] [Decidable Q] (h : P) : true = decide (P ∨ Q) := by simp [h]
/-! Two rows of bytes, compared by the library; a block that nobody writes any more. -/
section
variable {P : Program} {n : Nat} {Df : Md} {ops : Array Oper} {Q : Post} {rest : List Oper} {ρ : Env} {s : St} {w0 : World}
variable {d : Nat} {ty : TypeId} {pos : String} {aft : Array Edge} {x y : Operand} {tx tyy : TypeId}
end
theorem Blk.freeze {s : St} {b : Nat} {l : Lab} {cs : List Value} {T : TypeId} (h : Blk s b l cs T) (hl0 : l.o ≠ 0) : ∃ s', s'.w = s.w ∧ Step (KC l.o l.c) s s' ∧ Blk s' b L0 cs T := by
  classical
  refine ⟨⟨s.w, fun x => if x = b then L0 else s.g x, fun x => ?_⟩, rfl, ⟨rfl, rfl, rfl, Nat.le_refl _, fun b' hb' hk => ⟨rfl, ?_⟩, fun c hc => hl0 hc.1.symm⟩, h.heap, by simp⟩
  · by_cases hx : x = b
    · simp [hx, L0]
    · simp [hx]; exact s.wf x
  · have : b' ≠ b := by rintro rfl; exact hk (by rw [h.lab]; exact ⟨rfl, rfl⟩)
    simp [this]
end Go.Fw

set_option linter.unusedSimpArgs false
set_option linter.unusedVariables false
/-! Cuts with a bound. -/
namespace Go.Fw
theorem SL.lim {s : St} {l : Lab} {b off len cap : Nat} {w : Nat} {ds : List D} (h : SL s l (.slice (some ⟨b, off, none⟩) len cap) w ds) {j : Nat} (hj : j ≤ ds.length) : SL s l (.slice (some ⟨b, off, none⟩) j j) w (ds.take j) := by
  have hl : (ds.take j).length = j := by simp; omega
  rcases h with ⟨rfl, a, c, e, _⟩ | ⟨b', off', cap', cs, e, hb, hg, hcap, hw, hc, hr⟩
  · have : j = 0 := by simp at hj; omega
    subst this
    exact .inl ⟨by simp, some ⟨b, off, none⟩, 0, rfl, fun h => by cases h⟩
  · injection e with e1 e2 e3
    injection e1 with e1
    injection e1 with e1 e4
    subst e1 e3 e4
    refine .inr ⟨b, off, j, cs, by rw [hl], hb, hg, by rw [hl]; exact Nat.le_refl _, fun k hk => hw k (by rw [hl] at hk; omega), fun k hk q hq => hc k (by rw [hl] at hk; omega) q hq, fun k hk => ?_⟩
    have hk' : k < j := by rwa [hl] at hk
    have := hr k (by omega)
    simpa using this
section
variable {P : Program} {n : Nat} {Df : Md} {ops : Array Oper} {Q : Post} {rest : List Oper} {ρ : Env} {s : St} {w0 : World}
variable {d : Nat} {ty : TypeId} {pos : String} {aft : Array Edge} {x y z : Operand} {tx tyy : TypeId}
theorem k_cut3_sl {l : Lab} {v : Value} {w : Nat} {ds : List D} {e : TypeId} {lo hi mx : Operand} {i j : Nat} (hT : P.underlying tx = some (.slice e)) (hs : sizeT P e w = true) (hx : ev ρ x = some v) (h : SL s l v w ds)
    (hlo : CutAt ρ 0 (some lo) i) (hhi : CutAt ρ 0 (some hi) j) (hmx : CutAt ρ 0 (some mx) j)
    (hij : i ≤ j) (hj : j ≤ ds.length) (hd : Nat.blt d n = true)
    (hK : ∀ v', SL s l v' w ((ds.drop i).take (j - i)) → KL P n Df ops Q rest ((d, v') :: ρ) s.w) :
    KL P n Df ops Q (⟨some d, .slice tx x (some lo) (some hi) (some mx), ty, pos, aft, none⟩ :: rest) ρ s.w := by
  obtain ⟨a, cap, rfl, ha⟩ := h.val
  have hcap : ds.length ≤ cap := by
    rcases h with ⟨rfl, _⟩ | ⟨b', off', cap', cs, e, hb, hg, hcap, _⟩
    · simp
    · injection e with e1 e2 e3; subst e3; exact hcap
  obtain ⟨k1, hy⟩ := hlo.lo
  obtain ⟨k2, hz⟩ := hhi.lo
  obtain ⟨k3, hm⟩ := hmx.lo
  have hrun : ∀ η : Operand → Value, Agr ρ η → (execOp η ⟨some d, .slice tx x (some lo) (some hi) (some mx), ty, pos, aft, none⟩).run P s.w = .ok (.value (.slice (if j = i then a else a.map (·.add (i * w))) (j - i) (j - i))) s.w := by
    intro η hη
    simp [execOp, hη.ev hx, hη.ev hy, hη.ev hz, hη.ev hm, Instr.sliceAt, Instr.slice, Instr.sliceBounds, Instr.sliceBound, asIntOf, run_underlying hT, run_sizeOf hs, hij, Nat.le_trans hj hcap]
  refine .val rfl rfl hd hrun (hK _ ?_)
  cases a with
  | none =>
    obtain ⟨hl0, hc0⟩ := ha rfl
    have hi0 : i = 0 := by omega
    have hj0 : j = 0 := by omega
    subst hi0 hj0 hc0
    exact .inl ⟨by simp, none, 0, by simp, fun _ => rfl⟩
  | some ad =>
    have hsp : ad.spot = none ∨ ds.length = 0 := by
      rcases h with ⟨rfl, _⟩ | ⟨b', off', cap', cs, e, _⟩
      · exact .inr rfl
      · injection e with e1 e2 e3; injection e1 with e1; subst e1; exact .inl rfl
    by_cases hl0 : ds.length = 0
    · have hds : ds = [] := List.eq_nil_of_length_eq_zero hl0
      subst hds
      refine .inl ⟨by simp, ?_⟩
      have : j - i = 0 := by simp at hj; omega
      rw [this]
      refine ⟨_, _, rfl, ?_⟩
      split <;> simp
    · have hsp' := hsp.resolve_right hl0
      obtain ⟨b, off, sp⟩ := ad
      simp only at hsp'
      subst hsp'
      have hl2 : (ds.take j).length = j := by simp; omega
      have h2 := h.lim hj
      have h3 : SL s l (.slice (some ⟨b, off, none⟩) (ds.take j).length j) w (ds.take j) := by rw [hl2]; exact h2
      have := h3.cut hij (by omega)
      rw [List.drop_take, List.take_take, Nat.min_self] at this
      simpa using this
end
end Go.Fw
