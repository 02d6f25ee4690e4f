import Derived.Test.YtepifllifhikiaaDoorFwB
import Derived.WalkKit
import Derived.WalkSpells
import Derived.WalkLawsBesides
set_option linter.unusedSimpArgs false
set_option linter.unusedVariables false
namespace Go.Fw

section
variable {P : Program} {n : Nat} {Df : Md} {ops : Array Oper} {Q : Post} {rest : List Oper} {ρ : Env} {w : World}

def Agr (ρ : Env) (η : Operand → Value) : Prop := ∀ x v, ev ρ x = some v → η x = v
theorem Agr.ev {ρ : Env} {η : Operand → Value} (h : Agr ρ η) {x : Operand} {v : Value} (e : Fw.ev ρ x = some v) : η x = v := h x v e

theorem KL.val {o : Oper} {d : Nat} {v : Value} {w' : World} (hg : o.guard = none) (hd : o.dst = some d) (hdn : Nat.blt d n = true)
    (h : ∀ a, Agr ρ a → (execOp a o).run P w = .ok (.value v) w') (hK : KL P n Df ops Q rest ((d, v) :: ρ) w') : KL P n Df ops Q (o :: rest) ρ w := by
  intro a ha
  refine wpListIn_plain hg fun K hk => ?_
  refine op_in (x := .value v) (by intro d e; cases e) (h a.eval (fun _ _ e => ha.ev e)) ?_
  show K (a.put o.dst v) w'
  rw [hd]
  exact hk _ _ (hK _ (ha.put hdn v))

theorem KL.eff {o : Oper} {w' : World} (hg : o.guard = none) (hd : o.dst = none)
    (h : ∀ a, Agr ρ a → (execOp a o).run P w = .ok .skip w') (hK : KL P n Df ops Q rest ρ w') : KL P n Df ops Q (o :: rest) ρ w := by
  intro a ha
  refine wpListIn_plain hg fun K hk => ?_
  refine op_in (x := .skip) (by intro d e; cases e) (h a.eval (fun _ _ e => ha.ev e)) ?_
  show K (a.put o.dst undef) w'
  rw [hd]
  exact hk _ _ (hK _ (ha.put_none _))

theorem KL.effv {o : Oper} {w' : World} {v : Value} (hg : o.guard = none) (hd : o.dst = none)
    (h : ∀ a, Agr ρ a → (execOp a o).run P w = .ok (.value v) w') (hK : KL P n Df ops Q rest ρ w') : KL P n Df ops Q (o :: rest) ρ w := by
  intro a ha
  refine wpListIn_plain hg fun K hk => ?_
  refine op_in (x := .value v) (by intro d e; cases e) (h a.eval (fun _ _ e => ha.ev e)) ?_
  show K (a.put o.dst v) w'
  rw [hd]
  exact hk _ _ (hK _ (ha.put_none _))

theorem yielded_of {ρ : Env} {n : Nat} {Df : Md} {a : Act} {ops : Array Oper} {j d : Nat} {b : Bool} (ha : Ag n Df ρ a) (hj : (ops[j]?).bind (·.dst) = some d) (hv : look ρ d = some (.bool b)) :
    yielded ops a.tmps j = some b := by
  have h1 := ha.get d _ hv
  unfold yielded
  rw [hj]
  rw [Array.getD_eq_getD_getElem?] at h1
  simp only [Option.bind_some]
  cases hq : a.tmps[d]? with
  | none => rw [hq] at h1; simp [undef] at h1
  | some q => rw [hq] at h1; simp at h1; simp [h1]

/-- An operation that is wanted. -/
theorem k_yes {dst : Option Tmp} {op : Op} {ty : TypeId} {pos : String} {aft : Array Edge} {j d : Nat} {b : Bool}
    (hj : (ops[j]?).bind (·.dst) = some d) (hv : look ρ d = some (.bool b))
    (h : KL P n Df ops Q (⟨dst, op, ty, pos, aft, none⟩ :: rest) ρ w) : KL P n Df ops Q (⟨dst, op, ty, pos, aft, some (j, b)⟩ :: rest) ρ w := by
  intro a ha
  have h' := h a ha
  have hy : yielded ops a.tmps j = some (b) := yielded_of ha hj hv
  unfold wpListIn at h' ⊢
  have e1 : Region.wanted ⟨dst, op, ty, pos, aft, none⟩ (yielded ops a.tmps) = true := rfl
  have e2 : Region.wanted ⟨dst, op, ty, pos, aft, some (j, b)⟩ (yielded ops a.tmps) = true := by simp [Region.wanted, hy]
  rw [if_pos e1] at h'
  rw [if_pos e2]
  exact h'

theorem k_no {dst : Option Tmp} {op : Op} {ty : TypeId} {pos : String} {aft : Array Edge} {j d : Nat} {b : Bool} {t : Nat}
    (hj : (ops[j]?).bind (·.dst) = some d) (hv : look ρ d = some (.bool (!b))) (hd : dst = some t) (hdn : Nat.blt t n = true)
    (h : KL P n Df ops Q rest ((t, undef) :: ρ) w) : KL P n Df ops Q (⟨dst, op, ty, pos, aft, some (j, b)⟩ :: rest) ρ w := by
  intro a ha
  have hy : yielded ops a.tmps j = some (!b) := yielded_of ha hj hv
  unfold wpListIn
  have e2 : Region.wanted ⟨dst, op, ty, pos, aft, some (j, b)⟩ (yielded ops a.tmps) = false := by simp [Region.wanted, hy]
  rw [if_neg (by rw [e2]; simp)]
  subst hd
  exact ⟨fun _ _ => trivial, h _ (ha.put hdn _)⟩

/-- A bool that is not yet known, in the newest slot. -/
theorem k_split {t : Nat} {l : List Oper} {p : Prop} [inst : Decidable p]
    (ht : p → KL P n Df ops Q l ((t, .bool true) :: ρ) w) (hf : ¬ p → KL P n Df ops Q l ((t, .bool false) :: ρ) w) : KL P n Df ops Q l ((t, .bool (decide p)) :: ρ) w := by
  by_cases hp : p
  · rw [decide_eq_true hp]; exact ht hp
  · rw [decide_eq_false hp]; exact hf hp
theorem k_splitb {t : Nat} {l : List Oper} {b : Bool}
    (ht : b = true → KL P n Df ops Q l ((t, .bool true) :: ρ) w) (hf : b = false → KL P n Df ops Q l ((t, .bool false) :: ρ) w) : KL P n Df ops Q l ((t, .bool b) :: ρ) w := by
  cases b
  · exact hf rfl
  · exact ht rfl

/-- To say a value in another form. -/
theorem k_as {l : List Oper} {t : Nat} {u v : Value} (e : u = v) (h : KL P n Df ops Q l ((t, v) :: ρ) w) : KL P n Df ops Q l ((t, u) :: ρ) w := e ▸ h

variable {d : Nat} {ty : TypeId} {pos : String} {aft : Array Edge}

theorem k_move {x : Operand} {v : Value} (hx : ev ρ x = some v) (hd : Nat.blt d n = true) (hK : KL P n Df ops Q rest ((d, v) :: ρ) w) :
    KL P n Df ops Q (⟨some d, .move x, ty, pos, aft, none⟩ :: rest) ρ w :=
  .val rfl rfl hd (fun a ha => by simp [execOp, ha.ev hx, go_sem]) hK
theorem k_assign {x : Operand} {v : Value} (hx : ev ρ x = some v) (hd : Nat.blt d n = true) (hK : KL P n Df ops Q rest ((d, v) :: ρ) w) :
    KL P n Df ops Q (⟨some d, .assign x, ty, pos, aft, none⟩ :: rest) ρ w :=
  .val rfl rfl hd (fun a ha => by simp [execOp, ha.ev hx, go_sem]) hK
theorem k_pick {c x y : Operand} {b : Bool} {v u : Value} (hc : ev ρ c = some (.bool b)) (hx : ev ρ x = some v) (hy : ev ρ y = some u) (hd : Nat.blt d n = true)
    (hK : KL P n Df ops Q rest ((d, bif b then v else u) :: ρ) w) : KL P n Df ops Q (⟨some d, .pick c x y, ty, pos, aft, none⟩ :: rest) ρ w :=
  .val rfl rfl hd (fun a ha => by cases b <;> simp [execOp, ha.ev hc, ha.ev hx, ha.ev hy, asBool, go_sem]) hK

/-! ints, bools -/
section ints
variable {k : IntKind} {x y : Operand} {tx tyy : TypeId} {p q : Int}

theorem k_add (hx : ev ρ x = some (.int k p)) (hy : ev ρ y = some (.int k q)) (hd : Nat.blt d n = true)
    (hK : KL P n Df ops Q rest ((d, .int k (k.wrap (p + q))) :: ρ) w) : KL P n Df ops Q (⟨some d, .binOp .add tx x y tyy, ty, pos, aft, none⟩ :: rest) ρ w :=
  .val rfl rfl hd (fun a ha => by simp [execOp, ha.ev hx, ha.ev hy, eqGuard, binOp, Op.intArith, go_sem]) hK
theorem k_sub_ (hx : ev ρ x = some (.int k p)) (hy : ev ρ y = some (.int k q)) (hd : Nat.blt d n = true)
    (hK : KL P n Df ops Q rest ((d, .int k (k.wrap (p - q))) :: ρ) w) : KL P n Df ops Q (⟨some d, .binOp .sub tx x y tyy, ty, pos, aft, none⟩ :: rest) ρ w :=
  .val rfl rfl hd (fun a ha => by simp [execOp, ha.ev hx, ha.ev hy, eqGuard, binOp, Op.intArith, go_sem]) hK
theorem k_mul (hx : ev ρ x = some (.int k p)) (hy : ev ρ y = some (.int k q)) (hd : Nat.blt d n = true)
    (hK : KL P n Df ops Q rest ((d, .int k (k.wrap (p * q))) :: ρ) w) : KL P n Df ops Q (⟨some d, .binOp .mul tx x y tyy, ty, pos, aft, none⟩ :: rest) ρ w :=
  .val rfl rfl hd (fun a ha => by simp [execOp, ha.ev hx, ha.ev hy, eqGuard, binOp, Op.intArith, go_sem]) hK
theorem k_quo (hx : ev ρ x = some (.int k p)) (hy : ev ρ y = some (.int k q)) (hq : q ≠ 0) (hd : Nat.blt d n = true)
    (hK : KL P n Df ops Q rest ((d, .int k (k.wrap (p.tdiv q))) :: ρ) w) : KL P n Df ops Q (⟨some d, .binOp .quo tx x y tyy, ty, pos, aft, none⟩ :: rest) ρ w :=
  .val rfl rfl hd (fun a ha => by simp [execOp, ha.ev hx, ha.ev hy, eqGuard, binOp, Op.intDiv, hq]) hK
theorem k_rem (hx : ev ρ x = some (.int k p)) (hy : ev ρ y = some (.int k q)) (hq : q ≠ 0) (hd : Nat.blt d n = true)
    (hK : KL P n Df ops Q rest ((d, .int k (p.tmod q)) :: ρ) w) : KL P n Df ops Q (⟨some d, .binOp .rem tx x y tyy, ty, pos, aft, none⟩ :: rest) ρ w :=
  .val rfl rfl hd (fun a ha => by simp [execOp, ha.ev hx, ha.ev hy, eqGuard, binOp, Op.intDiv, hq]) hK
theorem k_bits {op : BinOp} {f : ∀ m, BitVec m → BitVec m → BitVec m} (hop : (op = .and ∧ f = fun _ a b => a &&& b) ∨ (op = .or ∧ f = fun _ a b => a ||| b) ∨ (op = .xor ∧ f = fun _ a b => a ^^^ b) ∨ (op = .andNot ∧ f = fun _ a b => a &&& ~~~b))
    (hx : ev ρ x = some (.int k p)) (hy : ev ρ y = some (.int k q)) (hd : Nat.blt d n = true)
    (hK : KL P n Df ops Q rest ((d, .int k (k.wrap (f k.bits (BitVec.ofInt k.bits p) (BitVec.ofInt k.bits q)).toNat)) :: ρ) w) : KL P n Df ops Q (⟨some d, .binOp op tx x y tyy, ty, pos, aft, none⟩ :: rest) ρ w := by
  refine .val rfl rfl hd (fun a ha => ?_) hK
  rcases hop with ⟨rfl, rfl⟩ | ⟨rfl, rfl⟩ | ⟨rfl, rfl⟩ | ⟨rfl, rfl⟩ <;> simp [execOp, ha.ev hx, ha.ev hy, eqGuard, binOp, Op.intBits]
theorem k_shl {k' : IntKind} (hx : ev ρ x = some (.int k p)) (hy : ev ρ y = some (.int k' q)) (hq : 0 ≤ q) (hd : Nat.blt d n = true)
    (hK : KL P n Df ops Q rest ((d, .int k (k.wrap (p * 2 ^ (min q.toNat k.bits)))) :: ρ) w) : KL P n Df ops Q (⟨some d, .binOp .shl tx x y tyy, ty, pos, aft, none⟩ :: rest) ρ w :=
  .val rfl rfl hd (fun a ha => by simp [execOp, ha.ev hx, ha.ev hy, eqGuard, binOp, Op.shift, Int.not_lt.2 hq]) hK
theorem k_shr {k' : IntKind} (hx : ev ρ x = some (.int k p)) (hy : ev ρ y = some (.int k' q)) (hq : 0 ≤ q) (hd : Nat.blt d n = true)
    (hK : KL P n Df ops Q rest ((d, .int k (p.fdiv (2 ^ (min q.toNat k.bits)))) :: ρ) w) : KL P n Df ops Q (⟨some d, .binOp .shr tx x y tyy, ty, pos, aft, none⟩ :: rest) ρ w :=
  .val rfl rfl hd (fun a ha => by simp [execOp, ha.ev hx, ha.ev hy, eqGuard, binOp, Op.shift, Int.not_lt.2 hq]) hK

theorem beqInt (p q : Int) : (p == q) = decide (p = q) := rfl
theorem k_eql (hx : ev ρ x = some (.int k p)) (hy : ev ρ y = some (.int k q)) (hd : Nat.blt d n = true)
    (hK : KL P n Df ops Q rest ((d, .bool (decide (p = q))) :: ρ) w) : KL P n Df ops Q (⟨some d, .binOp .eql tx x y tyy, ty, pos, aft, none⟩ :: rest) ρ w :=
  .val rfl rfl hd (fun a ha => by simp [execOp, ha.ev hx, ha.ev hy, eqGuard, binOp, Op.intCmp, beqInt]) hK
theorem k_neq (hx : ev ρ x = some (.int k p)) (hy : ev ρ y = some (.int k q)) (hd : Nat.blt d n = true)
    (hK : KL P n Df ops Q rest ((d, .bool (decide (p ≠ q))) :: ρ) w) : KL P n Df ops Q (⟨some d, .binOp .neq tx x y tyy, ty, pos, aft, none⟩ :: rest) ρ w :=
  .val rfl rfl hd (fun a ha => by simp [execOp, ha.ev hx, ha.ev hy, eqGuard, binOp, Op.intCmp, bne, beqInt]) hK
theorem k_lss (hx : ev ρ x = some (.int k p)) (hy : ev ρ y = some (.int k q)) (hd : Nat.blt d n = true)
    (hK : KL P n Df ops Q rest ((d, .bool (decide (p < q))) :: ρ) w) : KL P n Df ops Q (⟨some d, .binOp .lss tx x y tyy, ty, pos, aft, none⟩ :: rest) ρ w :=
  .val rfl rfl hd (fun a ha => by simp [execOp, ha.ev hx, ha.ev hy, eqGuard, binOp, Op.intCmp]) hK
theorem k_leq (hx : ev ρ x = some (.int k p)) (hy : ev ρ y = some (.int k q)) (hd : Nat.blt d n = true)
    (hK : KL P n Df ops Q rest ((d, .bool (decide (p ≤ q))) :: ρ) w) : KL P n Df ops Q (⟨some d, .binOp .leq tx x y tyy, ty, pos, aft, none⟩ :: rest) ρ w :=
  .val rfl rfl hd (fun a ha => by simp [execOp, ha.ev hx, ha.ev hy, eqGuard, binOp, Op.intCmp]) hK
theorem k_gtr (hx : ev ρ x = some (.int k p)) (hy : ev ρ y = some (.int k q)) (hd : Nat.blt d n = true)
    (hK : KL P n Df ops Q rest ((d, .bool (decide (q < p))) :: ρ) w) : KL P n Df ops Q (⟨some d, .binOp .gtr tx x y tyy, ty, pos, aft, none⟩ :: rest) ρ w :=
  .val rfl rfl hd (fun a ha => by simp [execOp, ha.ev hx, ha.ev hy, eqGuard, binOp, Op.intCmp]) hK
theorem k_geq (hx : ev ρ x = some (.int k p)) (hy : ev ρ y = some (.int k q)) (hd : Nat.blt d n = true)
    (hK : KL P n Df ops Q rest ((d, .bool (decide (q ≤ p))) :: ρ) w) : KL P n Df ops Q (⟨some d, .binOp .geq tx x y tyy, ty, pos, aft, none⟩ :: rest) ρ w :=
  .val rfl rfl hd (fun a ha => by simp [execOp, ha.ev hx, ha.ev hy, eqGuard, binOp, Op.intCmp]) hK

theorem k_not {b : Bool} (hx : ev ρ x = some (.bool b)) (hd : Nat.blt d n = true)
    (hK : KL P n Df ops Q rest ((d, .bool (!b)) :: ρ) w) : KL P n Df ops Q (⟨some d, .unOp .not tx x, ty, pos, aft, none⟩ :: rest) ρ w :=
  .val rfl rfl hd (fun a ha => by simp [execOp, ha.ev hx, Op.unary]) hK
theorem k_neg (hx : ev ρ x = some (.int k p)) (hd : Nat.blt d n = true)
    (hK : KL P n Df ops Q rest ((d, .int k (k.wrap (0 - p))) :: ρ) w) : KL P n Df ops Q (⟨some d, .unOp .neg tx x, ty, pos, aft, none⟩ :: rest) ρ w :=
  .val rfl rfl hd (fun a ha => by simp [execOp, ha.ev hx, Op.unary, Op.intArith]) hK
theorem k_eqlb {b c : Bool} (hT : P.underlying tx = some .bool) (hx : ev ρ x = some (.bool b)) (hy : ev ρ y = some (.bool c)) (hd : Nat.blt d n = true)
    (hK : KL P n Df ops Q rest ((d, .bool (b == c)) :: ρ) w) : KL P n Df ops Q (⟨some d, .binOp .eql tx x y tyy, ty, pos, aft, none⟩ :: rest) ρ w :=
  .val rfl rfl hd (fun a ha => by simp [execOp, ha.ev hx, ha.ev hy, eqGuard, run_eql_bool w tx b c hT]) hK
theorem k_neqb {b c : Bool} (hT : P.underlying tx = some .bool) (hx : ev ρ x = some (.bool b)) (hy : ev ρ y = some (.bool c)) (hd : Nat.blt d n = true)
    (hK : KL P n Df ops Q rest ((d, .bool (!(b == c))) :: ρ) w) : KL P n Df ops Q (⟨some d, .binOp .neq tx x y tyy, ty, pos, aft, none⟩ :: rest) ρ w :=
  .val rfl rfl hd (fun a ha => by simp [execOp, ha.ev hx, ha.ev hy, eqGuard, run_neq_bool w tx b c hT]) hK

theorem k_conv {k' : IntKind} {ts td : TypeId} {u : TypeDesc} (hs : P.underlying ts = some u) (ht : P.underlying td = some (.int k')) (hx : ev ρ x = some (.int k p)) (hd : Nat.blt d n = true)
    (hK : KL P n Df ops Q rest ((d, .int k' (k'.wrap p)) :: ρ) w) : KL P n Df ops Q (⟨some d, .convert ts td x, ty, pos, aft, none⟩ :: rest) ρ w :=
  .val rfl rfl hd (fun a ha => by simp [execOp, ha.ev hx, convert, run_underlying hs, run_underlying ht, Conv.intToInt]) hK
end ints
end
end Go.Fw
