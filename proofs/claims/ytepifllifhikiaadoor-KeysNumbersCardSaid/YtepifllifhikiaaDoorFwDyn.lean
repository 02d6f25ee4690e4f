import Derived.Test.YtepifllifhikiaaDoorFwTab
set_option linter.unusedSimpArgs false
set_option linter.unusedVariables false
namespace Go.Fw
/-! values of interface types whose own type is known: pointers -/
/-- A method with a value's receiver, found by a pointer to it. -/
def methV (P : Program) (t : TypeId) (name : String) (f : FuncId) (e : TypeId) : Bool :=
  (match P.info? t with
  | some i => match i.methods.find? (·.name == name) with
    | some m => m.path.isEmpty && (match m.func with
      | some (g, pr) => Nat.beq g f && !pr
      | none => false)
    | none => false
  | none => false) && (match P.underlying t with
  | some (.pointer e') => Nat.beq e' e
  | _ => false)
theorem run_wrapNil {P : Program} {t : TypeId} {a : Addr} {nm : String} {w : World} : (Builtin.ssaWrapNilChk_ #[t] t #[.pointer (some a), strVal "", strVal nm]).run P w = .ok (.pointer (some a)) w := rfl
theorem run_receiverNil {P : Program} {t e : Nat} {a : Addr} {nm : String} {w : World} (he : P.underlying t = some (.pointer e)) : (receiverAt t (.val (.pointer (some a))) false (some nm)).run P w = (loadVar e a).run P w := by
  unfold receiverAt
  rw [Sem.run_bind, run_underlying he]
  rfl
theorem run_methodV {P : Program} {t f e : Nat} {name : String} {b : Nat} {s : St} {l : Lab} {v0 : Value} {T : TypeId} (hm : methV P t name f e = true) (h1 : oneT P e = true) (hb : Blk s b l [v0] T) :
    (method (P.types.size + Made.depth) t (.pointer (some ⟨b, 0, none⟩)) name).run P s.w = .ok (f, v0) s.w := by
  unfold methV at hm
  rw [Bool.and_eq_true] at hm
  obtain ⟨hm, hu⟩ := hm
  split at hm
  next i hi =>
    split at hm
    next m hf =>
      rw [Bool.and_eq_true] at hm
      obtain ⟨hp, hm⟩ := hm
      split at hm
      next g pr hg =>
        simp at hm
        obtain ⟨rfl, rfl⟩ := hm
        split at hu
        next e' he =>
          simp at hu
          subst hu
          have hp' : m.path.toList = [] := by simpa using hp
          have hpe : m.path.isEmpty = true := hp
          have hc := hb.cell 0
          have hl : (loadVar e' ⟨b, 0, none⟩).run P s.w = .ok v0 s.w := run_loadVar_one h1 (by simpa using hc)
          rw [show P.types.size + Made.depth = (P.types.size + 99) + 1 from rfl]
          unfold method
          rw [Sem.run_bind]
          have ht : (typeInfo t).run P s.w = .ok i s.w := by simp [typeInfo, program, Sem.run, go_sem, hi]
          rw [ht]
          simp only [Result.andThen, hf]
          rw [hp', Sem.run_bind]
          have hfo : (follow [] t (.val (.pointer (some ⟨b, 0, none⟩)))).run P s.w = .ok (t, .val (.pointer (some ⟨b, 0, none⟩))) s.w := rfl
          rw [hfo]
          simp only [Result.andThen, hg, hpe, if_true]
          rw [Sem.run_bind, run_receiverNil he, hl]
          rfl
        next => simp at hu
      next => simp at hm
    next => simp at hm
  next => simp at hm
section
variable {P : Program} {n : Nat} {Df : Md} {ops : Array Oper} {Q : Post} {rest : List Oper} {ρ : Env} {s : St} {w0 : World}
variable {d : Nat} {ty : TypeId} {pos : String} {aft : Array Edge} {x y z : Operand} {tx tyy : TypeId}
theorem k_invokev {K : Lab → Prop} {φ : St → Value → Prop} {name : String} {xs : List Operand} {ats : Array TypeId} {b t f e : Nat} {vs : List Value} {v0 : Value} {l : Lab} {T : TypeId} (hv : ev ρ x = some (.iface t (.pointer (some ⟨b, 0, none⟩)))) (hx : evs ρ xs = some vs)
    (hm : methV P t name f e = true) (h1 : oneT P e = true) (hb : Blk s b l [v0] T) (hcal : Callable P f) (hc : Calls P f (v0 :: vs).toArray s.w (Ret s K φ)) (hd : Nat.blt d n = true) (hK : ∀ s' u, Step K s s' → φ s' u → KL P n Df ops Q rest ((d, u) :: ρ) s'.w) :
    KL P n Df ops Q (⟨some d, .call { callee := .invoke x name, args := xs.toArray, argTypes := ats }, ty, pos, aft, none⟩ :: rest) ρ s.w := by
  intro a ha
  refine wpListIn_plain rfl fun K' hk => ?_
  obtain ⟨fn, h1', h2, h3⟩ := hcal
  have hr : (execOp a.eval ⟨some d, .call { callee := .invoke x name, args := xs.toArray, argTypes := ats }, ty, pos, aft, none⟩).run P s.w = .ok (.enter f (v0 :: vs).toArray) s.w := by
    have hx' := Agr.evs (η := a.eval) (fun _ _ e => ha.ev e) hx
    have h2' : ¬ fn.name = "runtime.NumGoroutine" := by intro e; rw [e] at h2; simp at h2
    have h3' : ¬ fn.body = none := by intro e; rw [e] at h3; simp at h3
    unfold execOp
    simp only [resolve, ha.ev hv]
    have := run_methodV hm h1 hb
    rw [show Made.depth = 100 from rfl] at this
    simp [invoke, callMethod, callFunc, h1', h2', h3', hx', program, Sem.run, go_sem, this]
  refine op_in (x := .enter f (v0 :: vs).toArray) (by intro d e; cases e) hr ?_
  rw [Oper.uponIn_enter]
  refine ⟨fun h => absurd h (by simp), calls_in (hc.mono ?_)⟩
  rintro e w' ⟨s', v, rfl, rfl, st, h⟩
  exact hk _ _ (hK s' v st h _ (ha.put hd v))
/-- A slice of one's own, cut short: one's own still. -/
theorem k_cut_own {l : Lab} {v : Value} {w0 e j : Nat} {ds : List D} {hi : Operand} (hT : P.underlying tx = some (.slice e)) (hs : sizeT P e w0 = true) (hx : ev ρ x = some v) (h : Own s l e w0 v ds)
    (hhi : CutAt ρ ds.length (some hi) j) (hj : j ≤ ds.length) (hd : Nat.blt d n = true)
    (hK : ∀ v', Own s l e w0 v' (ds.take j) → KL P n Df ops Q rest ((d, v') :: ρ) s.w) :
    KL P n Df ops Q (⟨some d, .slice tx x none (some hi) none, ty, pos, aft, none⟩ :: rest) ρ s.w := by
  obtain ⟨h0, h1, xs, ho, hg, hr⟩ := h
  obtain ⟨k, p, hz, hp, rfl⟩ := hhi
  obtain ⟨j, rfl⟩ : ∃ j : Nat, p = j := ⟨p.toNat, by omega⟩
  simp only [Int.toNat_natCast] at hj hK
  obtain ⟨ho1, ho | ⟨g, cap, cur, rfl, hb, hh, hcap, hmx, hsz, htk⟩⟩ := ho
  · obtain ⟨rfl, hn⟩ := ho
    have hj0 : j = 0 := by omega
    subst hj0
    have hds : ds = [] := List.eq_nil_of_length_eq_zero hn
    subst hds
    refine .val rfl rfl hd (v := .slice none 0 0) (w' := s.w) (fun η ha => ?_) (hK _ ⟨h0, h1, [], World.ownsRow_nil _ _ _ _, fun g hg => by simp [Value.ownBlock] at hg, RCs.nil⟩)
    simp [execOp, ha.ev hx, ha.ev hz, Instr.sliceAt, Instr.slice, Instr.sliceBounds, Instr.sliceBound, asIntOf, run_underlying hT, run_sizeOf hs]
  · refine .val rfl rfl hd (v := .slice (some ⟨g, 0, none⟩) j cap) (w' := s.w) (fun η ha => ?_) (hK _ ⟨h0, h1, xs.take (j * w0), ⟨?_, .inr ⟨g, cap, cur, ?_, hb, hh, by rw [List.length_take]; omega, hmx, hsz, ?_⟩⟩, fun g' hg' => hg g' (by simpa [Value.ownBlock] using hg'), ?_⟩)
    · have : (if cap = 0 then some (⟨g, 0, none⟩ : Addr) else some ((⟨g, 0, none⟩ : Addr).add 0)) = some ⟨g, 0, none⟩ := by
        split <;> simp [Addr.add]
      have e1 : ¬ ((j : Int) < 0) := by omega
      have e2 : ¬ ((cap : Int) < (j : Int)) := by omega
      simp [execOp, ha.ev hx, ha.ev hz, Instr.sliceAt, Instr.slice, Instr.sliceBounds, Instr.sliceBound, asIntOf, run_underlying hT, run_sizeOf hs, this, e1, e2, show j ≤ cap by omega]
    · rw [List.length_take, List.length_take, ho1, Nat.min_eq_left (Nat.mul_le_mul_right _ hj), Nat.min_eq_left hj]
    · rw [List.length_take, Nat.min_eq_left hj]
    · rw [← htk, List.take_take, List.length_take, Nat.min_eq_left hj, Nat.min_eq_left (Nat.mul_le_mul_right _ hj)]
    · refine ⟨by rw [List.length_take, List.length_take, hr.1, Nat.min_eq_left (Nat.mul_le_mul_right _ hj), Nat.min_eq_left hj], fun i hi => ?_⟩
      have hi' : i < j := by simp at hi; omega
      have h2 := hr.2 i (by omega)
      have e : ((xs.take (j * w0)).drop (i * w0)).take w0 = (xs.drop (i * w0)).take w0 := by
        rw [List.drop_take, List.take_take]
        congr 1
        have : i * w0 + w0 ≤ j * w0 := by rw [← Nat.succ_mul]; exact Nat.mul_le_mul_right _ hi'
        omega
      rw [e, List.getElem_take]
      exact h2
end
theorem Own.ix {s : St} {l : Lab} {v : Value} {w : Nat} {ds : List D} {dd : D} {e' : TypeId} {i : Nat} (h : Own s l e' w v ds) (hdd : ds[i]? = some dd) : ∃ b cap, v = .slice (some ⟨b, 0, none⟩) ds.length cap ∧ At s l (.pointer (some ⟨b, i * w, none⟩)) dd ∧ Elt w v i (.pointer (some ⟨b, i * w, none⟩)) := by
  have hsl := h.sl
  obtain ⟨b, off, cap, e1, ha⟩ := hsl.at hdd
  obtain ⟨h0', h1', xs, ho, hg, hr⟩ := h
  have hoff : off = 0 := by
    rcases ho.2 with ⟨rfl, hn⟩ | ⟨g, cap', cur, rfl, _⟩
    · simp at e1
    · injection e1 with e1 _; injection e1 with e1; injection e1 with _ e2; exact e2.symm
  subst hoff
  refine ⟨b, cap, e1, by simpa using ha, ⟨b, _, _, e1, rfl⟩⟩
section
variable {P : Program} {n : Nat} {Df : Md} {ops : Array Oper} {K : Lab → Prop} {Fin : Env → St → Prop} {r r2 : PT} {i : Nat} {ρ : Env} {s : St}
variable {d j : Nat} {ty : TypeId} {pos : String} {aft : Array Edge} {x y : Operand} {tx : TypeId} {g : Option (Nat × Bool)}
theorem rt_ix_own {l : Lab} {v : Value} {w : Nat} {ds : List D} {dd : D} {e e' : TypeId} {k : IntKind} {p : Int}
    (ho : ops[i]? = some ⟨some d, .indexAddr tx x y, ty, pos, aft, g⟩) (hg : Wanted P n Df ops (rst ρ ((⟨some d, .indexAddr tx x y, ty, pos, aft, g⟩ : Oper).looksAt ops)) ⟨some d, .indexAddr tx x y, ty, pos, aft, g⟩)
    (hT : P.underlying tx = some (.slice e)) (hs : sizeT P e w = true) (hx : ev (rst ρ ((⟨some d, .indexAddr tx x y, ty, pos, aft, g⟩ : Oper).looksAt ops)) x = some v) (hy : ev (rst ρ ((⟨some d, .indexAddr tx x y, ty, pos, aft, g⟩ : Oper).looksAt ops)) y = some (.int k p)) (h : Own s l e' w v ds)
    (h0 : 0 ≤ p) (hdd : ds[p.toNat]? = some dd) (hd : Nat.blt d n = true) (hr : ∀ q, At s l q dd → Elt w v p.toNat q → RT P n Df ops K Fin r ((d, q) :: ρ) s) : RT P n Df ops K Fin (.read i r) ρ s := by
  obtain ⟨b, cap, rfl, ha, hel⟩ := h.ix hdd
  have hlt : p.toNat < ds.length := (List.getElem?_eq_some_iff.1 hdd).1
  refine rt_read _ ho rfl (fun s' st => hg _ _ (k_ixaddrP hT hs hx hy h0 (show p < (ds.length : Int) by omega) hd ?_)) (hr _ ha hel)
  rw [Nat.zero_add]
  exact fq_end
end
theorem subl_take {α : Type} {l m : List α} {b : Int} (h : subl l 0 b = some m) : m = l.take b.toNat := by
  have := (subl_out h).2.2.2
  simpa using this
end Go.Fw
