import Derived.Test.YtepifllifhikiaaDoorFwA
import Derived.Deep.LoopGhost
import Derived.CallsIn
import Derived.TacticsIn
import Derived.OrdersIn
import Derived.DefersIn
namespace Go.Fw

/-- What an activation bears beside its temporaries: the deferred calls; of which round's loop it is, if it is one. -/
structure Md where
  df : List Deferred
  rd : Option Nat
abbrev M0 : Md := ⟨[], none⟩
abbrev fnc (r : Option Nat) : Fence := { fn := fun _ => True, depth := none, alive := false, round := r }
theorem calls_in {r : Option Nat} {P : Program} {f : FuncId} {args : Array Value} {w : World} {R : Ending → World → Prop} (h : Calls P f args w R) : CallsIn (fnc r) 0 P f args w R := callsIn_wide.2 h
theorem in_calls {P : Program} {f : FuncId} {args : Array Value} {w : World} {R : Ending → World → Prop} (h : CallsIn (fnc none) 0 P f args w R) : Calls P f args w R := callsIn_wide.1 h
theorem sem_val {r : Option Nat} {P : Program} {η : Operand → Value} {o : Oper} {w w' : World} {x : Next} (hx : ∀ d, x ≠ .defer d) (h : (execOp η o).run P w = .ok x w') : (o.semAt r η).run P w = .ok x w' := by
  by_cases hd : ∃ c, o.op = .defer c
  · obtain ⟨c, hc⟩ := hd
    exfalso
    unfold execOp at h
    rw [hc] at h
    simp only [Sem.run_bind] at h
    generalize (resolve η c o.type).run P w = q at h
    cases q with
    | ok d w1 => simp only [Result.andThen, Sem.run_pure] at h; injection h with h1 h2; exact hx d h1.symm
    | halt a b => cases h
  · rw [Oper.semAt_eq r η o (fun c hc => hd ⟨c, hc⟩)]; exact h
theorem op_in {r : Option Nat} {P : Program} {o : Oper} {a : Act} {w w' : World} {K : Act → World → Prop} {Q : Exit → Act → World → Prop} {x : Next} (hx : ∀ d, x ≠ .defer d) (h : (execOp a.eval o).run P w = .ok x w')
    (hu : o.uponIn (fnc r) 0 P a K Q (.ok x w')) : o.wpIn (fnc r) 0 P a w K Q := by
  refine ⟨fun _ _ => trivial, ?_⟩
  rw [show (fnc r).round = r from rfl, sem_val hx h]
  exact hu
open Classical in
theorem wpIn_loop_ghost {F : Fence} {n : Nat} {P : Program} {Q : Exit → Act → World → Prop} {a : Act} {w : World} {c : Code} (I : Nat → Act → World → Prop) (n₀ : Nat) (h₀ : I n₀ a w)
    (round : ∀ k a w, I k a w → c.wpIn F n P (Exit.then (fun a' w' => ∃ n', n' < k ∧ I n' a' w') Q) a w) : (Code.loop c).wpIn F n P Q a w := by
  refine wpIn_loop (fun a w => ∃ n, I n a w) (fun a w => leastOf (fun n => I n a w)) ⟨n₀, h₀⟩ ?_
  intro a w hI
  refine wpIn_mono (round _ a w (leastOf_spec hI).1) ?_
  intro e a' w' hq
  cases e with
  | normal =>
    obtain ⟨n', hlt, hI'⟩ := hq
    exact show (∃ n, I n a' w') ∧ leastOf (fun n => I n a' w') < leastOf (fun n => I n a w) from ⟨⟨n', hI'⟩, Nat.lt_of_le_of_lt ((leastOf_spec ⟨n', hI'⟩).2 n' hI') hlt⟩
  | exit id => exact hq
  | goto l => exact hq
  | ret => exact hq
  | panic ch => exact hq
  | outgrown => exact hq

abbrev Env := List (Nat × Value)

def look : Env → Nat → Option Value
  | [], _ => none
  | (t, v) :: r, u => bif Nat.beq t u then some v else look r u

def ev (ρ : Env) : Operand → Option Value
  | .tmp t => look ρ t
  | .const v => some v
  | .global g => some (.pointer (some ⟨g, 0, none⟩))
  | .func f => some (.func (.func f) #[] #[])

/-- The temporaries of an activation are as the list says, as far as it says something. -/
structure Ag (n : Nat) (Df : Md) (ρ : Env) (a : Act) : Prop where
  size : a.tmps.size = n
  get : ∀ t v, look ρ t = some v → a.tmps.getD t undef = v
  defers : a.defers = Df.df

theorem Ag.ev {n : Nat} {Df : Md} {ρ : Env} {a : Act} (h : Ag n Df ρ a) {x : Operand} {v : Value} (e : ev ρ x = some v) : a.eval x = v := by
  cases x with
  | tmp t => exact h.get t v e
  | const u => exact Option.some.inj e
  | global g => exact Option.some.inj e
  | func f => exact Option.some.inj e

theorem Ag.put {n : Nat} {Df : Md} {ρ : Env} {a : Act} (h : Ag n Df ρ a) {d : Nat} (hd : Nat.blt d n = true) (v : Value) : Ag n Df ((d, v) :: ρ) (a.put (some d) v) := by
  have hd' : d < n := by simpa [Nat.blt_eq] using hd
  refine ⟨by simp [Act.put, h.size], ?_, h.defers⟩
  intro t u hl
  simp only [look] at hl
  by_cases e : d = t
  · subst e
    simp at hl
    subst hl
    simp [Act.put, Array.getD_eq_getD_getElem?, h.size, hd']
  · have e' : Nat.beq d t = false := by
      rw [← Bool.not_eq_true, Nat.beq_eq]; exact e
    rw [e'] at hl
    have := h.get t u hl
    simpa [Act.put, Array.getD_eq_getD_getElem?, Array.getElem?_setIfInBounds_ne, e] using this

theorem Ag.put_none {n : Nat} {Df : Md} {ρ : Env} {a : Act} (h : Ag n Df ρ a) (v : Value) : Ag n Df ρ (a.put none v) := h

/-- The list ρ' says nothing that ρ doesn't. -/
def Sub (ρ : Env) : Env → Prop
  | [] => True
  | (t, v) :: r => look ρ t = some v ∧ Sub ρ r

theorem Sub.look {ρ : Env} : ∀ {ρ' : Env}, Sub ρ ρ' → ∀ t v, look ρ' t = some v → look ρ t = some v
  | [], _, t, v, h => by simp [Fw.look] at h
  | (u, x) :: r, ⟨h1, h2⟩, t, v, h => by
    simp only [Fw.look] at h
    by_cases e : u = t
    · subst e; simp at h; subst h; exact h1
    · have e' : Nat.beq u t = false := by rw [← Bool.not_eq_true, Nat.beq_eq]; exact e
      rw [e'] at h
      exact Sub.look h2 t v h

theorem Ag.sub {n : Nat} {Df : Md} {ρ ρ' : Env} {a : Act} (h : Ag n Df ρ a) (hs : Sub ρ ρ') : Ag n Df ρ' a := ⟨h.size, fun t v e => h.get t v (hs.look t v e), h.defers⟩

def looks (ρ : Env) : List Nat → Option (List Value)
  | [] => some []
  | t :: r => match look ρ t with
    | none => none
    | some v => match looks ρ r with
      | none => none
      | some vs => some (v :: vs)

def one : List Value → Value
  | [v] => v
  | vs => .tuple vs.toArray

@[simp] theorem one_single (v : Value) : one [v] = v := rfl

abbrev Post := Exit → Env → World → Prop

def lift (n : Nat) (Df : Md) (Q : Post) : Exit → Act → World → Prop := fun e a w => ∃ ρ, Ag n Df ρ a ∧ Q e ρ w

def CW (P : Program) (n : Nat) (Df : Md) (c : Code) (Q : Post) (ρ : Env) (w : World) : Prop := ∀ a, Ag n Df ρ a → c.wpIn (fnc Df.rd) 0 P (lift n Df Q) a w

/-- What is left to do: pieces of code, ends of blocks, a place where something must hold. -/
inductive It where
  | code (c : Code)
  | blk (id : Nat)
  | stop (φ : Env → World → Prop)

def Qs (P : Program) (n : Nat) (Df : Md) (F : Post) : List It → Post
  | [], e, ρ, w => F e ρ w
  | .code c :: k, .normal, ρ, w => CW P n Df c (Qs P n Df F k) ρ w
  | .code _ :: k, .exit i, ρ, w => Qs P n Df F k (.exit i) ρ w
  | .code _ :: k, .goto l, ρ, w => Qs P n Df F k (.goto l) ρ w
  | .code _ :: k, .ret, ρ, w => Qs P n Df F k .ret ρ w
  | .code _ :: k, .panic ch, ρ, w => Qs P n Df F k (.panic ch) ρ w
  | .code _ :: k, .outgrown, ρ, w => Qs P n Df F k .outgrown ρ w
  | .blk _ :: k, .normal, ρ, w => Qs P n Df F k .normal ρ w
  | .blk id :: k, .exit i, ρ, w => bif Nat.beq i id then Qs P n Df F k .normal ρ w else Qs P n Df F k (.exit i) ρ w
  | .blk _ :: k, .goto l, ρ, w => Qs P n Df F k (.goto l) ρ w
  | .blk _ :: k, .ret, ρ, w => Qs P n Df F k .ret ρ w
  | .blk _ :: k, .panic ch, ρ, w => Qs P n Df F k (.panic ch) ρ w
  | .blk _ :: k, .outgrown, ρ, w => Qs P n Df F k .outgrown ρ w
  | .stop φ :: _, .normal, ρ, w => φ ρ w
  | .stop _ :: k, .exit i, ρ, w => Qs P n Df F k (.exit i) ρ w
  | .stop _ :: k, .goto l, ρ, w => Qs P n Df F k (.goto l) ρ w
  | .stop _ :: k, .ret, ρ, w => Qs P n Df F k .ret ρ w
  | .stop _ :: k, .panic ch, ρ, w => Qs P n Df F k (.panic ch) ρ w
  | .stop _ :: k, .outgrown, ρ, w => Qs P n Df F k .outgrown ρ w

def G (P : Program) (n : Nat) (Df : Md) (F : Post) (k : List It) (ρ : Env) (w : World) : Prop := Qs P n Df F k .normal ρ w

def KL (P : Program) (n : Nat) (Df : Md) (ops : Array Oper) (Q : Post) (l : List Oper) (ρ : Env) (w : World) : Prop :=
  ∀ a, Ag n Df ρ a → wpListIn (fnc Df.rd) 0 P ops (lift n Df Q) l a w

section
variable {P : Program} {n : Nat} {Df : Md} {F : Post} {k : List It} {ρ : Env} {w : World}

theorem CW.mono {c : Code} {Q Q' : Post} (h : CW P n Df c Q ρ w) (hq : ∀ e ρ w, Q e ρ w → Q' e ρ w) : CW P n Df c Q' ρ w :=
  fun a ha => wpIn_mono (h a ha) (fun e _ w ⟨ρ', h1, h2⟩ => ⟨ρ', h1, hq e ρ' w h2⟩)

theorem Qs_code_pass (c : Code) (e : Exit) (he : e ≠ .normal) : Qs P n Df F (.code c :: k) e ρ w = Qs P n Df F k e ρ w := by
  cases e <;> first | rfl | exact absurd rfl he
theorem Qs_stop_pass (φ : Env → World → Prop) (e : Exit) (he : e ≠ .normal) : Qs P n Df F (.stop φ :: k) e ρ w = Qs P n Df F k e ρ w := by
  cases e <;> first | rfl | exact absurd rfl he

theorem k_seq {x y : Code} (h : G P n Df F (.code x :: .code y :: k) ρ w) : G P n Df F (.code (.seq x y) :: k) ρ w := by
  intro a ha
  refine wpIn_seq (wpIn_mono (h a ha) ?_)
  rintro e a' w' ⟨ρ', hag, hq⟩
  cases e with
  | normal => exact hq a' hag
  | exit i => exact ⟨ρ', hag, hq⟩
  | goto l => exact ⟨ρ', hag, hq⟩
  | ret => exact ⟨ρ', hag, hq⟩
  | panic ch => exact ⟨ρ', hag, hq⟩
  | outgrown => exact ⟨ρ', hag, hq⟩

theorem k_skip (h : G P n Df F k ρ w) : G P n Df F (.code .skip :: k) ρ w := fun _ ha => wpIn_skip ⟨ρ, ha, h⟩

theorem k_block {id : Nat} {c : Code} (h : G P n Df F (.code c :: .blk id :: k) ρ w) : G P n Df F (.code (.block id c) :: k) ρ w := by
  intro a ha
  refine wpIn_block (wpIn_mono (h a ha) ?_)
  rintro e a' w' ⟨ρ', hag, hq⟩
  cases e with
  | normal => exact ⟨ρ', hag, hq⟩
  | exit i =>
    simp only [Exit.inBlock]
    simp only [Qs] at hq
    by_cases e : i = id
    · subst e; simp at hq; rw [if_pos rfl]; exact ⟨ρ', hag, hq⟩
    · have e' : Nat.beq i id = false := by rw [← Bool.not_eq_true, Nat.beq_eq]; exact e
      rw [e'] at hq
      rw [if_neg e]; exact ⟨ρ', hag, hq⟩
  | goto l => exact ⟨ρ', hag, hq⟩
  | ret => exact ⟨ρ', hag, hq⟩
  | panic ch => exact ⟨ρ', hag, hq⟩
  | outgrown => exact ⟨ρ', hag, hq⟩

theorem k_blk {id : Nat} (h : G P n Df F k ρ w) : G P n Df F (.blk id :: k) ρ w := h

theorem k_stop {φ : Env → World → Prop} (h : φ ρ w) : G P n Df F (.stop φ :: k) ρ w := h

def exitIt (i : Nat) : List It → Option (List It)
  | [] => none
  | .code _ :: k => exitIt i k
  | .stop _ :: k => exitIt i k
  | .blk id :: k => bif Nat.beq i id then some k else exitIt i k

theorem Qs_exit (i : Nat) : ∀ (k k' : List It), exitIt i k = some k' → Qs P n Df F k' .normal ρ w → Qs P n Df F k (.exit i) ρ w
  | [], _, h, _ => by simp [exitIt] at h
  | .code _ :: k, k', h, hq => Qs_exit i k k' h hq
  | .stop _ :: k, k', h, hq => Qs_exit i k k' h hq
  | .blk id :: k, k', h, hq => by
    simp only [exitIt] at h
    simp only [Qs]
    cases e : Nat.beq i id with
    | true => rw [e] at h; simp at h; subst h; exact hq
    | false => rw [e] at h; simp at h; exact Qs_exit i k k' h hq

theorem k_exit {i : Nat} {k' : List It} (h : exitIt i k = some k') (hq : G P n Df F k' ρ w) : G P n Df F (.code (.exit i) :: k) ρ w :=
  fun _ ha => wpIn_exit ⟨ρ, ha, Qs_exit i k k' h hq⟩

theorem Qs_ret : ∀ (k : List It), F .ret ρ w → Qs P n Df F k .ret ρ w
  | [], h => h
  | .code _ :: k, h => Qs_ret k h
  | .stop _ :: k, h => Qs_ret k h
  | .blk _ :: k, h => Qs_ret k h

theorem k_ret (h : F .ret ρ w) : G P n Df F (.code .ret :: k) ρ w := fun _ ha => wpIn_ret ⟨ρ, ha, Qs_ret k h⟩

theorem k_end (h : F .normal ρ w) : G P n Df F [] ρ w := h

theorem k_cond_true {c : Operand} {x y : Code} (hc : ev ρ c = some (.bool true)) (h : G P n Df F (.code x :: k) ρ w) : G P n Df F (.code (.cond c x y) :: k) ρ w :=
  fun a ha => wpIn_cond_true (ha.ev hc) (h a ha)
theorem k_cond_false {c : Operand} {x y : Code} (hc : ev ρ c = some (.bool false)) (h : G P n Df F (.code y :: k) ρ w) : G P n Df F (.code (.cond c x y) :: k) ρ w :=
  fun a ha => wpIn_cond_false (ha.ev hc) (h a ha)
theorem k_cond_dec {c : Operand} {x y : Code} {p : Prop} [inst : Decidable p] (hc : ev ρ c = some (.bool (decide p)))
    (ht : p → G P n Df F (.code x :: k) ρ w) (hf : ¬ p → G P n Df F (.code y :: k) ρ w) : G P n Df F (.code (.cond c x y) :: k) ρ w := by
  by_cases hp : p
  · exact k_cond_true (by rw [hc, decide_eq_true hp]) (ht hp)
  · exact k_cond_false (by rw [hc, decide_eq_false hp]) (hf hp)
theorem k_cond {c : Operand} {x y : Code} {b : Bool} (hc : ev ρ c = some (.bool b))
    (ht : b = true → G P n Df F (.code x :: k) ρ w) (hf : b = false → G P n Df F (.code y :: k) ρ w) : G P n Df F (.code (.cond c x y) :: k) ρ w := by
  cases b
  · exact k_cond_false hc (hf rfl)
  · exact k_cond_true hc (ht rfl)

theorem k_sub (ρ' : Env) (hs : Sub ρ ρ') (h : G P n Df F k ρ' w) : ∀ {c : Code} {k' : List It}, k = .code c :: k' → G P n Df F k ρ w := by
  rintro c k' rfl a ha
  exact h a (ha.sub hs)

/-- Forget all but what the list says. -/
theorem k_keep (ρ' : Env) {c : Code} (hs : Sub ρ ρ') (h : G P n Df F (.code c :: k) ρ' w) : G P n Df F (.code c :: k) ρ w := fun a ha => h a (ha.sub hs)

/-- Ways that meet again. -/
theorem k_cut {c : Code} (φ : Env → World → Prop) (h1 : G P n Df F (.code c :: .stop φ :: k) ρ w) (h2 : ∀ ρ' w', φ ρ' w' → G P n Df F k ρ' w') : G P n Df F (.code c :: k) ρ w := by
  refine CW.mono h1 ?_
  intro e ρ' w' hq
  cases e with
  | normal => exact h2 ρ' w' hq
  | exit i => exact hq
  | goto l => exact hq
  | ret => exact hq
  | panic ch => exact hq
  | outgrown => exact hq

theorem k_loop {X : Type} {body : Code} (env : X → Env) (inv : X → World → Prop) (μ : X → Nat) (x0 : X) (h0 : Sub ρ (env x0)) (hi : inv x0 w)
    (round : ∀ x w, inv x w → G P n Df F (.code body :: .stop (fun ρ' w' => ∃ x', Sub ρ' (env x') ∧ inv x' w' ∧ μ x' < μ x) :: k) (env x) w) :
    G P n Df F (.code (.loop body) :: k) ρ w := by
  intro a ha
  refine wpIn_loop_ghost (fun m a w => ∃ x, Ag n Df (env x) a ∧ inv x w ∧ μ x = m) (μ x0) ⟨x0, ha.sub h0, hi, rfl⟩ ?_
  rintro m a w ⟨x, hag, hx, rfl⟩
  refine wpIn_mono (round x w hx a hag) ?_
  rintro e a' w' ⟨ρ', hag', hq⟩
  cases e with
  | normal => obtain ⟨x', h1, h2, h3⟩ := hq; exact ⟨μ x', h3, x', hag'.sub h1, h2, rfl⟩
  | exit i => exact ⟨ρ', hag', hq⟩
  | goto l => exact ⟨ρ', hag', hq⟩
  | ret => exact ⟨ρ', hag', hq⟩
  | panic ch => exact ⟨ρ', hag', hq⟩
  | outgrown => exact ⟨ρ', hag', hq⟩

/-- Operations in the text's order. -/
theorem k_region {id : Nat} {l : List Oper} (h : KL P n Df l.toArray (Qs P n Df F k) l ρ w) : G P n Df F (.code (.region id l.toArray false) :: k) ρ w :=
  fun a ha => wpIn_region_lit (h a ha)

theorem k_nil {ops : Array Oper} (h : G P n Df F k ρ w) : KL P n Df ops (Qs P n Df F k) [] ρ w := fun _ ha => ⟨ρ, ha, h⟩

/-- A function's call, by its body. -/
def RetF (rs : List Nat) (T : Ending → World → Prop) : Post
  | .normal, ρ, w => ∃ vs, looks ρ rs = some vs ∧ T (.returned (one vs)) w
  | .ret, ρ, w => ∃ vs, looks ρ rs = some vs ∧ T (.returned (one vs)) w
  | _, _, _ => False

theorem looks_ag {a : Act} (h : Ag n Df ρ a) : ∀ {rs : List Nat} {vs : List Value}, looks ρ rs = some vs → rs.map (fun t => a.tmps.getD t undef) = vs
  | [], vs, e => by simp [looks] at e; simp [e]
  | t :: r, vs, e => by
    simp only [looks] at e
    split at e
    · simp at e
    · rename_i v hv
      split at e
      · simp at e
      · rename_i us hus
        simp at e
        subst e
        simp only [List.map_cons, h.get t v hv, looks_ag h hus]

theorem results_list {fn : Func} {rs : List Nat} (hr : fn.results = (rs.map ResultVar.tmp).toArray) (hl : Nat.ble rs.length 4 = true) (tmps : Array Value) (w : World) :
    (results fn tmps).run P w = .ok (one (rs.map fun t => tmps.getD t undef)) w := by
  match rs, hl with
  | [], _ => simp [results, hr, one]
  | [t], _ => simp [results, hr, one]
  | [t, u], _ => simp [results, hr, one]
  | [t, u, v], _ => simp [results, hr, one]
  | [t, u, v, x], _ => simp [results, hr, one]
  | _ :: _ :: _ :: _ :: _ :: r, h => simp at h

/-- The list of a call's first temporaries. -/
def start : Nat → List Value → Env
  | _, [] => []
  | i, v :: r => (i, v) :: start (i + 1) r

theorem start_look (args : List Value) : ∀ (i t : Nat) (v : Value), look (start i args) t = some v → i ≤ t ∧ args[t - i]? = some v := by
  induction args with
  | nil => intro i t v h; simp [start, look] at h
  | cons x r ih =>
    intro i t v h
    simp only [start, look] at h
    by_cases e : i = t
    · subst e; simp at h; subst h; simp
    · have e' : Nat.beq i t = false := by rw [← Bool.not_eq_true, Nat.beq_eq]; exact e
      rw [e'] at h
      obtain ⟨h1, h2⟩ := ih (i + 1) t v h
      refine ⟨by omega, ?_⟩
      rw [show t - i = (t - (i + 1)) + 1 by omega, List.getElem?_cons_succ]
      exact h2

theorem k_fn {f : FuncId} {fn : Func} {c : Code} {args : List Value} {rs : List Nat} {T : Ending → World → Prop} (hf : P.funcs[f]? = some fn) (hb : fn.body = some c)
    (hr : fn.results = (rs.map ResultVar.tmp).toArray) (hl : Nat.ble rs.length 4 = true) (hn : Nat.ble args.length fn.ntmps = true)
    (h : G P fn.ntmps M0 (RetF rs T) [.code c] (start 0 args) w) : Calls P f args.toArray w T := by
  refine in_calls (callsIn_of_wp (F := fnc none) hf hb trivial (wpIn_mono (h _ ?_) ?_))
  · have hn' : args.length ≤ fn.ntmps := by simpa using hn
    refine ⟨by simp; omega, ?_, rfl⟩
    intro t v e
    obtain ⟨_, h2⟩ := start_look args 0 t v e
    have h3 : t < args.length := (List.getElem?_eq_some_iff.1 h2).1
    simp only [Nat.sub_zero] at h2
    rw [List.getElem?_eq_getElem h3] at h2
    simpa [Array.getD_eq_getD_getElem?, Array.getElem?_append, h3] using h2
  · rintro e a' w' ⟨ρ', hag, hq⟩
    cases e with
    | normal =>
      obtain ⟨vs, h1, h2⟩ := hq
      refine ⟨hag.defers, one vs, ?_, h2⟩
      rw [results_list hr hl, looks_ag hag h1]
    | ret =>
      obtain ⟨vs, h1, h2⟩ := hq
      refine ⟨hag.defers, one vs, ?_, h2⟩
      rw [results_list hr hl, looks_ag hag h1]
    | exit i => exact hq.elim
    | goto l => exact hq.elim
    | panic ch => exact hq.elim
    | outgrown => exact hq.elim

end
end Go.Fw
