import Derived.Test.YtepifllifhikiaaDoorFwC
import Derived.Laws.Strings
import Derived.Lib.AppendStr
import Derived.Laws.AppendOwn
import Derived.Lib.ConvBytes
import Derived.Laws.MakeOwn
set_option linter.unusedSimpArgs false
set_option linter.unusedVariables false
namespace Go.Fw

/-- A string's value. -/
abbrev S (l : List UInt8) : Value := .string ⟨l.toArray⟩
abbrev bD (b : UInt8) : D := .val (.int .u8 b.toNat)
abbrev Bs (l : List UInt8) : List D := l.map bD

theorem S_size (l : List UInt8) : (ByteArray.mk l.toArray).size = l.length := by simp [ByteArray.size]
theorem S_of (b : ByteArray) : Value.string b = S b.data.toList := by cases b; simp

/-- What a call answers: some value, in a state that is the old one but for what bears a label in K. -/
def Ret (s : St) (K : Lab → Prop) (φ : St → Value → Prop) : Ending → World → Prop :=
  fun e w => ∃ s' v, s'.w = w ∧ e = .returned v ∧ Step K s s' ∧ φ s' v

def Callable (P : Program) (f : FuncId) : Prop := ∃ fn, P.funcs[f]? = some fn ∧ (fn.name == "runtime.NumGoroutine") = false ∧ fn.body.isNone = false

section
variable {P : Program} {n : Nat} {Df : Md} {ops : Array Oper} {Q : Post} {rest : List Oper} {ρ : Env} {w : World}
variable {d : Nat} {ty : TypeId} {pos : String} {aft : Array Edge} {x y : Operand} {tx tyy : TypeId}

def evs (ρ : Env) : List Operand → Option (List Value)
  | [] => some []
  | x :: r => match ev ρ x with
    | none => none
    | some v => match evs ρ r with
      | none => none
      | some vs => some (v :: vs)

theorem Agr.evs {η : Operand → Value} (h : Agr ρ η) : ∀ {xs : List Operand} {vs : List Value}, Fw.evs ρ xs = some vs → xs.map η = vs
  | [], vs, e => by simp [Fw.evs] at e; simp [e]
  | x :: r, vs, e => by
    simp only [Fw.evs] at e
    split at e
    · simp at e
    · rename_i v hv
      split at e
      · simp at e
      · rename_i us hus
        simp at e
        subst e
        simp only [List.map_cons, h.ev hv, h.evs hus]

/-- A call of a function that is named. -/
theorem k_call_raw {f : FuncId} {xs : List Operand} {ats : Array TypeId} {vs : List Value} {o : Oper} (hg : o.guard = none)
    (ho : o.op = .call { callee := .value (.func f), args := xs.toArray, argTypes := ats }) (hf : Callable P f) (hx : evs ρ xs = some vs)
    {T : Ending → World → Prop} (hc : Calls P f vs.toArray w T)
    (hK : ∀ v w', T (.returned v) w' → ∀ a, Ag n Df ρ a → wpListIn (fnc Df.rd) 0 P ops (lift n Df Q) rest (a.put o.dst v) w') (hT : ∀ e w', T e w' → ∃ v, e = .returned v) : KL P n Df ops Q (o :: rest) ρ w := by
  intro a ha
  refine wpListIn_plain hg fun K hk => ?_
  obtain ⟨fn, h1, h2, h3⟩ := hf
  have hr : (execOp a.eval o).run P w = .ok (.enter f vs.toArray) w := by
    have hx' := Agr.evs (η := a.eval) (fun _ _ e => ha.ev e) hx
    have hff : a.eval (.func f) = .func (.func f) #[] #[] := rfl
    unfold execOp
    simp only [ho, resolve, Deferred.ofValue, hff]
    have h2' : ¬ fn.name = "runtime.NumGoroutine" := by intro e; rw [e] at h2; simp at h2
    have h3' : ¬ fn.body = none := by intro e; rw [e] at h3; simp at h3
    simp [invoke, callFunc, h1, h2', h3', hx', program, Sem.run, go_sem]
  refine op_in (x := .enter f vs.toArray) (by intro d e; cases e) hr ?_
  rw [Oper.uponIn_enter]
  refine ⟨fun h => absurd h (by simp), calls_in (hc.mono ?_)⟩
  intro e w' hT'
  obtain ⟨v, rfl⟩ := hT e w' hT'
  exact hk _ _ (hK v w' hT' a ha)

theorem k_call {s : St} {K : Lab → Prop} {φ : St → Value → Prop} {f : FuncId} {xs : List Operand} {ats : Array TypeId} {vs : List Value} (hf : Callable P f) (hx : evs ρ xs = some vs)
    (hc : Calls P f vs.toArray s.w (Ret s K φ)) (hd : Nat.blt d n = true)
    (hK : ∀ s' v, Step K s s' → φ s' v → KL P n Df ops Q rest ((d, v) :: ρ) s'.w) :
    KL P n Df ops Q (⟨some d, .call { callee := .value (.func f), args := xs.toArray, argTypes := ats }, ty, pos, aft, none⟩ :: rest) ρ s.w := by
  refine k_call_raw rfl rfl hf hx hc ?_ ?_
  · rintro v w' ⟨s', v', rfl, e, st, h⟩ a ha
    injection e with e
    subst e
    exact hK s' v st h _ (ha.put hd v)
  · rintro e w' ⟨s', v', rfl, e, st, h⟩
    exact ⟨v', e⟩
/-- .. whose answer is not wanted. -/
theorem k_calln {s : St} {K : Lab → Prop} {φ : St → Value → Prop} {f : FuncId} {xs : List Operand} {ats : Array TypeId} {vs : List Value} (hf : Callable P f) (hx : evs ρ xs = some vs)
    (hc : Calls P f vs.toArray s.w (Ret s K φ))
    (hK : ∀ s' v, Step K s s' → φ s' v → KL P n Df ops Q rest ρ s'.w) :
    KL P n Df ops Q (⟨none, .call { callee := .value (.func f), args := xs.toArray, argTypes := ats }, ty, pos, aft, none⟩ :: rest) ρ s.w := by
  refine k_call_raw rfl rfl hf hx hc ?_ ?_
  · rintro v w' ⟨s', v', rfl, e, st, h⟩ a ha
    injection e with e
    subst e
    exact hK s' v st h _ (ha.put_none v)
  · rintro e w' ⟨s', v', rfl, e, st, h⟩
    exact ⟨v', e⟩

/-- The end of a function: what it answers. -/
theorem Ret.mk {s s' : St} {K : Lab → Prop} {φ : St → Value → Prop} {v : Value} (st : Step K s s') (h : φ s' v) : Ret s K φ (.returned v) s'.w := ⟨s', v, rfl, rfl, st, h⟩

theorem beq_eq_decide' (l m : List UInt8) : (l == m) = decide (l = m) := by rw [Bool.eq_iff_iff]; simp

/-! strings -/
theorem k_len_str {l : List UInt8} (hT : P.underlying tx = some .string) (hx : ev ρ x = some (S l)) (hd : Nat.blt d n = true)
    (hK : KL P n Df ops Q rest ((d, .int .i64 l.length) :: ρ) w) :
    KL P n Df ops Q (⟨some d, .call { callee := .builtin .len, args := [x].toArray, argTypes := [tx].toArray }, ty, pos, aft, none⟩ :: rest) ρ w :=
  .val rfl rfl hd (fun a ha => by simp [execOp, resolve, invoke, builtin, ha.ev hx, Builtin.len_, run_underlying hT, goInt, S_size]) hK
theorem k_index_str {l : List UInt8} {k : IntKind} {p : Int} (hT : P.underlying tx = some .string) (hx : ev ρ x = some (S l)) (hy : ev ρ y = some (.int k p)) (h0 : 0 ≤ p) (h1 : p < l.length) (hd : Nat.blt d n = true)
    (hK : KL P n Df ops Q rest ((d, .int .u8 (l.getD p.toNat 0).toNat) :: ρ) w) : KL P n Df ops Q (⟨some d, .index tx x y, ty, pos, aft, none⟩ :: rest) ρ w :=
  .val rfl rfl hd (fun a ha => by
    have hp : p.toNat < l.length := by omega
    have e : (ByteArray.mk l.toArray)[p.toNat]? = some (l.getD p.toNat 0) := by
      rw [getElem?_pos _ _ (by rw [S_size]; exact hp)]
      simp [ByteArray.getElem_eq_getElem_data, List.getD, hp]
    simp [execOp, ha.ev hx, ha.ev hy, Instr.index, asIntOf, run_underlying hT, h0, e]) hK

theorem k_slice_str {l : List UInt8} {lo hi : Option Operand} {a b : Nat} (hT : P.underlying tx = some .string) (hx : ev ρ x = some (S l))
    (hlo : match lo with | none => a = 0 | some z => ∃ k, ev ρ z = some (.int k a)) (hhi : match hi with | none => b = l.length | some z => ∃ k, ev ρ z = some (.int k b))
    (h1 : a ≤ b) (h2 : b ≤ l.length) (hd : Nat.blt d n = true)
    (hK : KL P n Df ops Q rest ((d, S ((l.drop a).take (b - a))) :: ρ) w) : KL P n Df ops Q (⟨some d, .slice tx x lo hi none, ty, pos, aft, none⟩ :: rest) ρ w :=
  .val rfl rfl hd (fun η ha => by
    have e : (ByteArray.mk l.toArray).extract a b = ⟨((l.drop a).take (b - a)).toArray⟩ := by
      apply ByteArray.ext
      rw [ByteArray.data_extract]
      simp [List.take_drop, Nat.add_sub_cancel' h1]
    have hs := S_size l
    have hs' : (ByteArray.mk l.toArray).data.size = l.length := by simp
    cases lo with
    | none =>
      simp only at hlo
      subst hlo
      cases hi with
      | none => simp only at hhi; subst hhi; simp [execOp, ha.ev hx, Instr.sliceAt, Instr.slice, Instr.sliceBounds, run_underlying hT, hs]
      | some z => obtain ⟨k, hz⟩ := hhi; simp [execOp, ha.ev hx, ha.ev hz, Instr.sliceAt, Instr.slice, Instr.sliceBounds, Instr.sliceBound, asIntOf, run_underlying hT, hs, h2]; simpa using e
    | some y =>
      obtain ⟨k, hy⟩ := hlo
      cases hi with
      | none => simp only at hhi; subst hhi; simp [execOp, ha.ev hx, ha.ev hy, Instr.sliceAt, Instr.slice, Instr.sliceBounds, Instr.sliceBound, asIntOf, run_underlying hT, hs, h1]; simpa [hs] using e
      | some z => obtain ⟨k', hz⟩ := hhi; simp [execOp, ha.ev hx, ha.ev hy, ha.ev hz, Instr.sliceAt, Instr.slice, Instr.sliceBounds, Instr.sliceBound, asIntOf, run_underlying hT, hs, h1, h2]; simpa using e) hK
theorem k_add_str {l m : List UInt8} (hx : ev ρ x = some (S l)) (hy : ev ρ y = some (S m)) (hl : l.length + m.length ≤ 9223372036854775807) (hd : Nat.blt d n = true)
    (hK : KL P n Df ops Q rest ((d, S (l ++ m)) :: ρ) w) : KL P n Df ops Q (⟨some d, .binOp .add tx x y tyy, ty, pos, aft, none⟩ :: rest) ρ w :=
  .val rfl rfl hd (fun η ha => by
    have e : (ByteArray.mk l.toArray) ++ (ByteArray.mk m.toArray) = ⟨(l ++ m).toArray⟩ := by apply ByteArray.ext; simp
    have hm : ¬ ((9223372036854775807 : Int) < (l.length : Int) + (m.length : Int)) := by omega
    simp [execOp, ha.ev hx, ha.ev hy, eqGuard, binOp, Op.stringOp, S_size, e, IntKind.max, IntKind.signed, IntKind.bits, hm]) hK
theorem k_eql_str {l m : List UInt8} (hx : ev ρ x = some (S l)) (hy : ev ρ y = some (S m)) (hd : Nat.blt d n = true)
    (hK : KL P n Df ops Q rest ((d, .bool (decide (l = m))) :: ρ) w) : KL P n Df ops Q (⟨some d, .binOp .eql tx x y tyy, ty, pos, aft, none⟩ :: rest) ρ w :=
  .val rfl rfl hd (fun η ha => by simp [execOp, ha.ev hx, ha.ev hy, eqGuard, binOp, Op.stringOp, beq_eq_decide']) hK
theorem k_neq_str {l m : List UInt8} (hx : ev ρ x = some (S l)) (hy : ev ρ y = some (S m)) (hd : Nat.blt d n = true)
    (hK : KL P n Df ops Q rest ((d, .bool (decide (l ≠ m))) :: ρ) w) : KL P n Df ops Q (⟨some d, .binOp .neq tx x y tyy, ty, pos, aft, none⟩ :: rest) ρ w :=
  .val rfl rfl hd (fun η ha => by simp [execOp, ha.ev hx, ha.ev hy, eqGuard, binOp, Op.stringOp, beq_eq_decide']) hK
theorem k_lss_str {l m : List UInt8} (hx : ev ρ x = some (S l)) (hy : ev ρ y = some (S m)) (hd : Nat.blt d n = true)
    (hK : KL P n Df ops Q rest ((d, .bool (Op.bytesLess l m)) :: ρ) w) : KL P n Df ops Q (⟨some d, .binOp .lss tx x y tyy, ty, pos, aft, none⟩ :: rest) ρ w :=
  .val rfl rfl hd (fun η ha => by simp [execOp, ha.ev hx, ha.ev hy, eqGuard, binOp, Op.stringOp]) hK
theorem k_leq_str {l m : List UInt8} (hx : ev ρ x = some (S l)) (hy : ev ρ y = some (S m)) (hd : Nat.blt d n = true)
    (hK : KL P n Df ops Q rest ((d, .bool (Op.bytesLess l m || l == m)) :: ρ) w) : KL P n Df ops Q (⟨some d, .binOp .leq tx x y tyy, ty, pos, aft, none⟩ :: rest) ρ w :=
  .val rfl rfl hd (fun η ha => by simp [execOp, ha.ev hx, ha.ev hy, eqGuard, binOp, Op.stringOp]) hK
theorem k_gtr_str {l m : List UInt8} (hx : ev ρ x = some (S l)) (hy : ev ρ y = some (S m)) (hd : Nat.blt d n = true)
    (hK : KL P n Df ops Q rest ((d, .bool (!(Op.bytesLess l m || l == m))) :: ρ) w) : KL P n Df ops Q (⟨some d, .binOp .gtr tx x y tyy, ty, pos, aft, none⟩ :: rest) ρ w :=
  .val rfl rfl hd (fun η ha => by simp [execOp, ha.ev hx, ha.ev hy, eqGuard, binOp, Op.stringOp]) hK
theorem k_geq_str {l m : List UInt8} (hx : ev ρ x = some (S l)) (hy : ev ρ y = some (S m)) (hd : Nat.blt d n = true)
    (hK : KL P n Df ops Q rest ((d, .bool (!Op.bytesLess l m)) :: ρ) w) : KL P n Df ops Q (⟨some d, .binOp .geq tx x y tyy, ty, pos, aft, none⟩ :: rest) ρ w :=
  .val rfl rfl hd (fun η ha => by simp [execOp, ha.ev hx, ha.ev hy, eqGuard, binOp, Op.stringOp]) hK

/-! nil -/
theorem k_eql_pnil {a : Option Addr} {e : TypeId} (hT : P.underlying tx = some (.pointer e)) (hx : ev ρ x = some (.pointer a)) (hy : ev ρ y = some (.pointer none)) (hd : Nat.blt d n = true)
    (hK : KL P n Df ops Q rest ((d, .bool a.isNone) :: ρ) w) : KL P n Df ops Q (⟨some d, .binOp .eql tx x y tyy, ty, pos, aft, none⟩ :: rest) ρ w :=
  .val rfl rfl hd (fun η ha => by
    have hp : P.pointee tx = e := by simp [Program.pointee, hT]
    simp [execOp, ha.ev hx, ha.ev hy, eqGuard, run_eql_pointer_nil w tx a (by rw [hp]; exact hT)]) hK
theorem k_neq_pnil {a : Option Addr} {e : TypeId} (hT : P.underlying tx = some (.pointer e)) (hx : ev ρ x = some (.pointer a)) (hy : ev ρ y = some (.pointer none)) (hd : Nat.blt d n = true)
    (hK : KL P n Df ops Q rest ((d, .bool (!a.isNone)) :: ρ) w) : KL P n Df ops Q (⟨some d, .binOp .neq tx x y tyy, ty, pos, aft, none⟩ :: rest) ρ w :=
  .val rfl rfl hd (fun η ha => by
    have hp : P.pointee tx = e := by simp [Program.pointee, hT]
    simp [execOp, ha.ev hx, ha.ev hy, eqGuard, run_neq_pointer_nil w tx a (by rw [hp]; exact hT)]) hK
theorem k_eql_snil {a : Option Addr} {l c : Nat} {e : TypeId} (hT : P.underlying tx = some (.slice e)) (hx : ev ρ x = some (.slice a l c)) (hy : ev ρ y = some (.slice none 0 0)) (hd : Nat.blt d n = true)
    (hK : KL P n Df ops Q rest ((d, .bool a.isNone) :: ρ) w) : KL P n Df ops Q (⟨some d, .binOp .eql tx x y tyy, ty, pos, aft, none⟩ :: rest) ρ w :=
  .val rfl rfl hd (fun η ha => by simp [execOp, ha.ev hx, ha.ev hy, eqGuard, Lib.run_eql_slice_nil w tx e a l c 0 0 hT]) hK
theorem k_neq_snil {a : Option Addr} {l c : Nat} {e : TypeId} (hT : P.underlying tx = some (.slice e)) (hx : ev ρ x = some (.slice a l c)) (hy : ev ρ y = some (.slice none 0 0)) (hd : Nat.blt d n = true)
    (hK : KL P n Df ops Q rest ((d, .bool (!a.isNone)) :: ρ) w) : KL P n Df ops Q (⟨some d, .binOp .neq tx x y tyy, ty, pos, aft, none⟩ :: rest) ρ w :=
  .val rfl rfl hd (fun η ha => by simp [execOp, ha.ev hx, ha.ev hy, eqGuard, run_neq_slice_nil_any w tx e a l c 0 0 hT]) hK
theorem k_nilCheck {a : Addr} (hx : ev ρ x = some (.pointer (some a))) (hd : Nat.blt d n = true)
    (hK : KL P n Df ops Q rest ((d, .pointer (some a)) :: ρ) w) : KL P n Df ops Q (⟨some d, .nilCheck x, ty, pos, aft, none⟩ :: rest) ρ w :=
  .val rfl rfl hd (fun η ha => by simp [execOp, ha.ev hx]) hK

theorem k_max2 {k k' : IntKind} {p q : Int} {ats : Array TypeId} (hx : ev ρ x = some (.int k p)) (hy : ev ρ y = some (.int k' q)) (hd : Nat.blt d n = true)
    (hK : KL P n Df ops Q rest ((d, .int k (max p q)) :: ρ) w) :
    KL P n Df ops Q (⟨some d, .call { callee := .builtin .max, args := [x, y].toArray, argTypes := ats }, ty, pos, aft, none⟩ :: rest) ρ w :=
  .val rfl rfl hd (fun a ha => by
    have e : (if q > p then q else p) = max p q := by omega
    simp [execOp, resolve, invoke, builtin, ha.ev hx, ha.ev hy, run_max_int2, e]) hK
theorem k_min2 {k k' : IntKind} {p q : Int} {ats : Array TypeId} (hx : ev ρ x = some (.int k p)) (hy : ev ρ y = some (.int k' q)) (hd : Nat.blt d n = true)
    (hK : KL P n Df ops Q rest ((d, .int k (min p q)) :: ρ) w) :
    KL P n Df ops Q (⟨some d, .call { callee := .builtin .min, args := [x, y].toArray, argTypes := ats }, ty, pos, aft, none⟩ :: rest) ρ w :=
  .val rfl rfl hd (fun a ha => by
    have e : (if q < p then q else p) = min p q := by omega
    simp [execOp, resolve, invoke, builtin, ha.ev hx, ha.ev hy, run_min_int2, e]) hK

theorem k_extract {vs : List Value} {v : Value} {i : Nat} (hx : ev ρ x = some (.tuple vs.toArray)) (hv : vs[i]? = some v) (hd : Nat.blt d n = true)
    (hK : KL P n Df ops Q rest ((d, v) :: ρ) w) : KL P n Df ops Q (⟨some d, .extract x i, ty, pos, aft, none⟩ :: rest) ρ w :=
  .val rfl rfl hd (fun η ha => by simp [execOp, ha.ev hx, Instr.extract, hv]) hK
theorem k_makeFunc {fn : Fn} {xs ys : List Operand} {vs us : List Value} (hx : evs ρ xs = some vs) (hy : evs ρ ys = some us) (hd : Nat.blt d n = true)
    (hK : KL P n Df ops Q rest ((d, .func fn vs.toArray us.toArray) :: ρ) w) : KL P n Df ops Q (⟨some d, .makeFunc fn xs.toArray ys.toArray, ty, pos, aft, none⟩ :: rest) ρ w :=
  .val rfl rfl hd (fun η ha => by simp [execOp, ha.evs hx, ha.evs hy, Instr.makeFunc]) hK

end
end Go.Fw
