import Derived.Test.YtepifllifhikiaaDoorFwP
import Derived.Defers
set_option linter.unusedSimpArgs false
set_option linter.unusedVariables false
namespace Go.Fw

/-- A piece of code under a post that sees the activation itself. -/
def RAW (P : Program) (n : Nat) (Df : Md) (W : Exit → Act → World → Prop) (c : Code) (ρ : Env) (w : World) : Prop := ∀ a, Ag n Df ρ a → c.wpIn (fnc Df.rd) 0 P W a w
def RawF (n : Nat) (Df : Md) (W : Exit → Act → World → Prop) : Post := fun e ρ w => ∀ a, Ag n Df ρ a → W e a w

section
variable {P : Program} {n : Nat} {Df : Md} {W : Exit → Act → World → Prop} {ρ : Env} {w : World} {s : St}

theorem raw_last {c : Code} (h : G P n Df (RawF n Df W) [.code c] ρ w) : RAW P n Df W c ρ w :=
  fun a ha => wpIn_mono (h a ha) (fun e a' w' ⟨ρ', hag, hq⟩ => by cases e <;> exact hq a' hag)
theorem raw_seq {x y : Code} (h : G P n Df (RawF n Df W) [.code x, .stop (RAW P n Df W y)] ρ w) : RAW P n Df W (.seq x y) ρ w := by
  intro a ha
  refine wpIn_seq (wpIn_mono (h a ha) ?_)
  rintro e a' w' ⟨ρ', hag, hq⟩
  cases e with
  | normal => exact hq a' hag
  | exit i => exact hq a' hag
  | goto l => exact hq a' hag
  | ret => exact hq a' hag
  | panic ch => exact hq a' hag
  | outgrown => exact hq a' hag
/-- A call that is put off till the end. -/
theorem raw_defer {Df : List Deferred} {id d f : Nat} {ys : List Operand} {us : List Value} {ty1 ty2 : TypeId} {p1 p2 : String} {a1 a2 : Array Edge} {ats : Array TypeId} {y : Code} (hy : evs ρ ys = some us) (hd : Nat.blt d n = true)
    (h : RAW P n ⟨⟨.fn (.func f) us.toArray, #[]⟩ :: Df, none⟩ W y ((d, .func (.func f) #[] us.toArray) :: ρ) w) :
    RAW P n ⟨Df, none⟩ W (.seq (.region id [⟨some d, .makeFunc (.func f) #[] ys.toArray, ty1, p1, a1, none⟩, ⟨none, .defer { callee := .value (.tmp d), args := #[], argTypes := ats }, ty2, p2, a2, none⟩].toArray false) y) ρ w := by
  intro a ha
  refine wpIn_seq (wpIn_region_lit ?_)
  refine wpListIn_plain rfl fun K hk => ?_
  have hag := ha.put hd (.func (.func f) #[] us.toArray)
  have hr : (execOp a.eval ⟨some d, .makeFunc (.func f) #[] ys.toArray, ty1, p1, a1, none⟩).run P w = .ok (.value (.func (.func f) #[] us.toArray)) w := by
    have := Agr.evs (η := a.eval) (fun _ _ e => ha.ev e) hy
    generalize a.eval = η at this
    simp [execOp, Instr.makeFunc, this]
  refine op_in (x := .value _) (by intro d e; cases e) hr ?_
  refine hk _ _ ?_
  refine wpListIn_plain rfl fun K hk => ?_
  have hr2 : (execOp (a.put (some d) (.func (.func f) #[] us.toArray)).eval ⟨none, .defer { callee := .value (.tmp d), args := #[], argTypes := ats }, ty2, p2, a2, none⟩).run P w = .ok (.defer ⟨.fn (.func f) us.toArray, #[]⟩) w := by
    have := hag.ev (x := .tmp d) (v := .func (.func f) #[] us.toArray) (by simp [ev, look])
    generalize (a.put (some d) (.func (.func f) #[] us.toArray)).eval = η at this
    simp [execOp, resolve, this, Deferred.ofValue]
  refine ⟨fun _ _ => trivial, ?_⟩
  rw [show (fnc none).round = none from rfl, Oper.semAt_none, hr2]
  refine hk _ _ ?_
  refine h _ ⟨hag.size, hag.get, ?_⟩
  show _ :: _ = _
  exact congrArg (_ :: ·) hag.defers

theorem k_fn_raw {f : FuncId} {fn : Func} {c : Code} {args : List Value} {T : Ending → World → Prop} (hf : P.funcs[f]? = some fn) (hb : fn.body = some c) (hn : Nat.ble args.length fn.ntmps = true)
    (h : RAW P fn.ntmps M0 (bodyPostD P fn T) c (start 0 args) w) : Calls P f args.toArray w T := by
  refine calls_of_wp_defers hf hb (wpIn_wide.1 (h _ ?_))
  have hn' : args.length ≤ fn.ntmps := by simpa using hn
  refine ⟨by simp; omega, ?_, rfl⟩
  intro t v e
  obtain ⟨_, h2⟩ := start_look args 0 t v e
  have h3 : t < args.length := (List.getElem?_eq_some_iff.1 h2).1
  simp only [Nat.sub_zero] at h2
  rw [List.getElem?_eq_getElem h3] at h2
  simpa [Array.getD_eq_getD_getElem?, Array.getElem?_append, h3] using h2

/-- A function that is called at the end of another one. -/
theorem k_fnD {f : FuncId} {fn : Func} {c : Code} {args : List Value} {rs : List Nat} {T : Ending → World → Prop} (hf : P.funcs[f]? = some fn) (hb : fn.body = some c)
    (hr : fn.results = (rs.map ResultVar.tmp).toArray) (hl : Nat.ble rs.length 4 = true) (hn : Nat.ble args.length fn.ntmps = true)
    (h : G P fn.ntmps M0 (RetF rs T) [.code c] (start 0 args) w) : CallsD P f args.toArray .returning w fun e u w' => u = .returning ∧ T e w' := by
  refine callsD_of_wp hf hb (wp_mono (wpIn_wide.1 (h _ ?_)) ?_)
  · have hn' : args.length ≤ fn.ntmps := by simpa using hn
    refine ⟨by simp; omega, ?_, rfl⟩
    intro t v e
    obtain ⟨_, h2⟩ := start_look args 0 t v e
    have h3 : t < args.length := (List.getElem?_eq_some_iff.1 h2).1
    simp only [Nat.sub_zero] at h2
    rw [List.getElem?_eq_getElem h3] at h2
    simpa [Array.getD_eq_getD_getElem?, Array.getElem?_append, h3] using h2
  · rintro e a' w' ⟨ρ', hag, hq⟩
    cases e with
    | normal =>
      obtain ⟨vs, h1, h2⟩ := hq
      refine ⟨hag.defers, one vs, ?_, h2⟩
      rw [results_list hr hl, looks_ag hag h1]
    | ret =>
      obtain ⟨vs, h1, h2⟩ := hq
      refine ⟨hag.defers, one vs, ?_, h2⟩
      rw [results_list hr hl, looks_ag hag h1]
    | exit i => exact hq.elim
    | goto l => exact hq.elim
    | panic ch => exact hq.elim
    | outgrown => exact hq.elim

/-- A result that lies in a variable. -/
theorem results_cell {fn : Func} {t : Nat} {ty b : Nat} {v : Value} {l : Lab} {T : TypeId} {a : Act} (hr : fn.results = #[.cell t ty]) (hT : oneT P ty = true) (ha : Ag n Df ρ a) (ht : look ρ t = some (.pointer (some ⟨b, 0, none⟩))) (hb : Blk s b l [v] T) :
    (results fn a.tmps).run P s.w = .ok v s.w := by
  have h1 := ha.get t _ ht
  rw [Array.getD_eq_getD_getElem?] at h1
  simp [results, hr, h1, asAddr, run_loadVar_one hT (hb.cell 0)]

theorem rawret0 {fn : Func} {t ty b : Nat} {v : Value} {l : Lab} {Tb : TypeId} {T : Ending → World → Prop} (hr : fn.results = #[.cell t ty]) (hT : oneT P ty = true) (ht : look ρ t = some (.pointer (some ⟨b, 0, none⟩))) (hb : Blk s b l [v] Tb) (h : T (.returned v) s.w) :
    RawF n M0 (bodyPostD P fn T) .ret ρ s.w := by
  intro a ha
  show Leaves P fn a.tmps T a.defers .returning s.w
  rw [ha.defers]
  exact ⟨v, results_cell hr hT ha ht hb, h⟩
theorem rawret1 {fn : Func} {t ty b f : Nat} {us : List Value} {l : Lab} {Tb : TypeId} {K : Lab → Prop} {φ : St → Value → Prop} {T : Ending → World → Prop} (hr : fn.results = #[.cell t ty]) (hT : oneT P ty = true) (ht : look ρ t = some (.pointer (some ⟨b, 0, none⟩))) (hf : Callable P f)
    (hc : CallsD P f us.toArray .returning s.w fun e u w' => u = .returning ∧ Ret s K φ e w')
    (h : ∀ s' x, Step K s s' → φ s' x → ∃ v, Blk s' b l [v] Tb ∧ T (.returned v) s'.w) :
    RawF n ⟨[⟨.fn (.func f) us.toArray, #[]⟩], none⟩ (bodyPostD P fn T) .ret ρ s.w := by
  intro a ha
  show Leaves P fn a.tmps T a.defers .returning s.w
  rw [ha.defers]
  obtain ⟨fn', h1, h2, h3⟩ := hf
  refine leaves_cons (f := f) (args := us.toArray) (by simp) ?_ (hc.mono ?_)
  · have h2' : ¬ fn'.name = "runtime.NumGoroutine" := by intro e; rw [e] at h2; simp at h2
    have h3' : ¬ fn'.body = none := by intro e; rw [e] at h3; simp at h3
    simp [invoke, callFunc, h1, h2', h3', program, Sem.run, go_sem]
  · rintro e u' w' ⟨rfl, s', x, rfl, rfl, st, hφ⟩
    obtain ⟨v, hb, hv⟩ := h s' x st hφ
    exact ⟨v, results_cell hr hT ha ht hb, hv⟩
end
theorem or_byte (a : Nat) (c : UInt8) (h : a < 72057594037927936) : IntKind.u64.wrap ((BitVec.ofInt IntKind.u64.bits (IntKind.u64.wrap ((a : Int) * 256)) ||| BitVec.ofInt IntKind.u64.bits (c.toNat : Int)).toNat : Int) = ((a * 256 + c.toNat : Nat) : Int) := by
  have hc := c.toNat_lt
  have e1 : IntKind.u64.wrap ((a : Int) * 256) = ((a * 256 : Nat) : Int) := by rw [wrap_u64 (by omega) (by omega)]; simp
  have e2 : BitVec.ofInt IntKind.u64.bits ((a * 256 : Nat) : Int) = BitVec.ofNat 64 (a * 256) := BitVec.ofInt_natCast _ _
  have e3 : BitVec.ofInt IntKind.u64.bits (c.toNat : Int) = BitVec.ofNat 64 c.toNat := BitVec.ofInt_natCast _ _
  rw [e1, e2, e3]
  have e4 : (BitVec.ofNat 64 (a * 256) ||| BitVec.ofNat 64 c.toNat).toNat = a * 256 + c.toNat := by
    rw [BitVec.toNat_or, BitVec.toNat_ofNat, BitVec.toNat_ofNat, Nat.mod_eq_of_lt (by omega), Nat.mod_eq_of_lt (by omega)]
    have := Nat.shiftLeft_add_eq_or_of_lt (i := 8) hc a
    rw [Nat.shiftLeft_eq] at this
    exact this.symm
  show IntKind.u64.wrap (((BitVec.ofNat 64 (a * 256) ||| BitVec.ofNat 64 c.toNat).toNat : Nat) : Int) = _
  rw [e4, wrap_u64 (by omega) (by omega)]

/-- x<<8 | uint64(c). -/
theorem k_orb {P : Program} {n : Nat} {Df : Md} {ops : Array Oper} {Q : Post} {rest : List Oper} {ρ : Env} {w : World} {d : Nat} {ty : TypeId} {pos : String} {aft : Array Edge} {x y : Operand} {tx tyy : TypeId} {a : Nat} {c : UInt8}
    (hx : ev ρ x = some (.int .u64 (IntKind.u64.wrap ((a : Int) * 256)))) (hy : ev ρ y = some (.int .u64 (c.toNat : Int))) (h : a < 72057594037927936) (hd : Nat.blt d n = true)
    (hK : KL P n Df ops Q rest ((d, .int .u64 ((a * 256 + c.toNat : Nat) : Int)) :: ρ) w) : KL P n Df ops Q (⟨some d, .binOp .or tx x y tyy, ty, pos, aft, none⟩ :: rest) ρ w := by
  refine k_bits (.inr (.inl ⟨rfl, rfl⟩)) hx hy hd ?_
  have := or_byte a c h
  rw [← this] at hK
  exact hK

end Go.Fw
