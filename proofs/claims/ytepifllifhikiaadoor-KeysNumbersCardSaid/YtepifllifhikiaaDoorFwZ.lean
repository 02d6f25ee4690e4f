import Derived.Test.YtepifllifhikiaaDoorFwY
set_option linter.unusedSimpArgs false
set_option linter.unusedVariables false
namespace Go.Fw
/-! results that lie in memory -/
def resOK (P : Program) (ρ : Env) (w : World) : ResultVar → Value → Prop
  | .tmp t, v => look ρ t = some v
  | .cell t ty, v => ∃ a, look ρ t = some (.pointer (some a)) ∧ (loadVar ty a).run P w = .ok v w
def resAll (P : Program) (ρ : Env) (w : World) : List ResultVar → List Value → Prop
  | [], [] => True
  | r :: rs, v :: vs => resOK P ρ w r v ∧ resAll P ρ w rs vs
  | _, _ => False
def RetFc (P : Program) (rs : List ResultVar) (T : Ending → World → Prop) : Post
  | .normal, ρ, w => ∃ vs, resAll P ρ w rs vs ∧ T (.returned (one vs)) w
  | .ret, ρ, w => ∃ vs, resAll P ρ w rs vs ∧ T (.returned (one vs)) w
  | _, _, _ => False
def resDo (tmps : Array Value) : ResultVar → Sem Value
  | .tmp t => pure (tmps.getD t undef)
  | .cell a t => do loadVar t (← asAddr (tmps.getD a undef))
theorem resDo_run {P : Program} {n : Nat} {Df : Md} {ρ : Env} {a : Act} {w : World} (h : Ag n Df ρ a) {r : ResultVar} {v : Value} (hr : resOK P ρ w r v) : (resDo a.tmps r).run P w = .ok v w := by
  cases r with
  | tmp t =>
    have := h.get t v hr
    simp only [resDo, this]; rfl
  | cell t ty =>
    obtain ⟨ad, h1, h2⟩ := hr
    have := h.get t _ h1
    simp only [resDo, this, asAddr, Sem.run_bind]
    simpa [Result.andThen] using h2
theorem results_c {P : Program} {n : Nat} {Df : Md} {ρ : Env} {a : Act} {w : World} {fn : Func} {rs : List ResultVar} {vs : List Value} (h : Ag n Df ρ a) (hr : fn.results = rs.toArray) (hl : Nat.ble rs.length 4 = true) (hv : resAll P ρ w rs vs) :
    (results fn a.tmps).run P w = .ok (one vs) w := by
  have e : results fn a.tmps = (do
      let vs ← rs.toArray.mapM (resDo a.tmps)
      pure (if h : vs.size = 1 then vs[0] else .tuple vs)) := by
    unfold results
    rw [hr]
    congr 1
  rw [e]
  match rs, vs, hl, hv with
  | [], [], _, _ => simp [one]
  | [r], [v], _, ⟨h1, _⟩ => simp [resDo_run h h1, one]
  | [r, r2], [v, v2], _, ⟨h1, h2, _⟩ => simp [resDo_run h h1, resDo_run h h2, one]
  | [r, r2, r3], [v, v2, v3], _, ⟨h1, h2, h3, _⟩ => simp [resDo_run h h1, resDo_run h h2, resDo_run h h3, one]
  | [r, r2, r3, r4], [v, v2, v3, v4], _, ⟨h1, h2, h3, h4, _⟩ => simp [resDo_run h h1, resDo_run h h2, resDo_run h h3, resDo_run h h4, one]
  | _ :: _ :: _ :: _ :: _ :: _, _, h, _ => simp at h
theorem k_fn_c {P : Program} {w : World} {f : FuncId} {fn : Func} {c : Code} {args : List Value} {rs : List ResultVar} {T : Ending → World → Prop} (hf : P.funcs[f]? = some fn) (hb : fn.body = some c)
    (hr : fn.results = rs.toArray) (hl : Nat.ble rs.length 4 = true) (hn : Nat.ble args.length fn.ntmps = true)
    (h : G P fn.ntmps M0 (RetFc P rs T) [.code c] (start 0 args) w) : Calls P f args.toArray w T := by
  refine in_calls (callsIn_of_wp (F := fnc none) hf hb trivial (wpIn_mono (h _ ?_) ?_))
  · have hn' : args.length ≤ fn.ntmps := by simpa using hn
    refine ⟨by simp; omega, ?_, rfl⟩
    intro t v e
    obtain ⟨_, h2⟩ := start_look args 0 t v e
    have h3 : t < args.length := (List.getElem?_eq_some_iff.1 h2).1
    simp only [Nat.sub_zero] at h2
    rw [List.getElem?_eq_getElem h3] at h2
    simpa [Array.getD_eq_getD_getElem?, Array.getElem?_append, h3] using h2
  · rintro e a' w' ⟨ρ', hag, hq⟩
    cases e with
    | normal =>
      obtain ⟨vs, h1, h2⟩ := hq
      exact ⟨hag.defers, one vs, results_c hag hr hl h1, h2⟩
    | ret =>
      obtain ⟨vs, h1, h2⟩ := hq
      exact ⟨hag.defers, one vs, results_c hag hr hl h1, h2⟩
    | exit i => exact hq.elim
    | goto l => exact hq.elim
    | panic ch => exact hq.elim
    | outgrown => exact hq.elim
theorem res_blk {P : Program} {s : St} {ρ : Env} {t ty b : Nat} {l : Lab} {cs : List Value} {T : TypeId} (hx : look ρ t = some (.pointer (some ⟨b, 0, none⟩))) (hT : aggT P ty cs.length = true) (hb : Blk s b l cs T) : resOK P ρ s.w (.cell t ty) (.agg cs.toArray) :=
  ⟨_, hx, run_loadVar_agg hT (fun j hj => by rw [hb.cell, Nat.zero_add])⟩
theorem res_blk1 {P : Program} {s : St} {ρ : Env} {t ty b : Nat} {l : Lab} {v : Value} {T : TypeId} (hx : look ρ t = some (.pointer (some ⟨b, 0, none⟩))) (hT : oneT P ty = true) (hb : Blk s b l [v] T) : resOK P ρ s.w (.cell t ty) v :=
  ⟨_, hx, run_loadVar_one hT (by rw [hb.cell]; rfl)⟩

theorem getElem_geti {α : Type} {l : List α} {i : Int} {x : α} (h : geti l i = some x) {hi : i.toNat < l.length} : l[i.toNat]'hi = x := (List.getElem?_eq_some_iff.1 (geti_out h).2.2).2
/-! a part of an element of a slice of one's own -/
def EltO (w : Nat) (v : Value) (i o : Nat) (p : Value) : Prop := ∃ g len cap, v = .slice (some ⟨g, 0, none⟩) len cap ∧ p = .pointer (some ⟨g, i * w + o, none⟩)
theorem Elt.toO {w : Nat} {v : Value} {i : Nat} {p : Value} (h : Elt w v i p) : EltO w v i 0 p := h
section
variable {P : Program} {n : Nat} {Df : Md} {ops : Array Oper} {Q : Post} {rest : List Oper} {ρ : Env} {s : St} {w0 : World}
variable {d : Nat} {ty : TypeId} {pos : String} {aft : Array Edge} {x y : Operand} {tx tyy : TypeId}
theorem k_field_own {t : TypeId} {f : Nat} {l : Lab} {p v : Value} {w i o fo : Nat} {ds : List D} {dd : D} (hx : ev ρ x = some p) (he : EltO w v i o p) (h : At s l p (.agg ds)) (hf : ds[f]? = some dd) (hw : D.wd.wdL (ds.take f) = fo) (hF : fieldT P t f = some fo) (hd : Nat.blt d n = true)
    (hK : ∀ q, At s l q dd → EltO w v i (o + fo) q → KL P n Df ops Q rest ((d, q) :: ρ) s.w) :
    KL P n Df ops Q (⟨some d, .fieldAddr t x f, ty, pos, aft, none⟩ :: rest) ρ s.w := by
  subst hw
  obtain ⟨g, len, cap, hv, rfl⟩ := he
  obtain ⟨b, j, e, h'⟩ := h.field hf
  injection e with e; injection e with e; injection e with e1 e2
  subst e1 e2
  exact k_field_addr hF hx hd (hK _ h' ⟨g, len, cap, hv, by rw [Nat.add_assoc]⟩)
theorem k_store_part {l : Lab} {e w i o m : Nat} {v q u : Value} {vs : List Value} {ds : List D} {dd : D} (hT : sizeT P tx m = true) (hx : ev ρ x = some q) (hy : ev ρ y = some u) (h : Own s l e w v ds) (he : EltO w v i o q) (hi : i < ds.length) (hc : CellsOf u vs) (hm : Nat.beq vs.length m = true) (ho : Nat.ble (o + m) w = true)
    (hd : ∀ cs : List Value, cs.length = w → RC s cs ds[i] → RC s (cs.take o ++ vs ++ cs.drop (o + m)) dd)
    (hK : ∀ s', Step (KC l.o l.c) s s' → Own s' l e w v (ds.set i dd) → KL P n Df ops Q rest ρ s'.w) :
    KL P n Df ops Q (⟨none, .store tx x y, ty, pos, aft, none⟩ :: rest) ρ s.w := by
  obtain ⟨g, len, cap, hv, rfl⟩ := he
  have hm' : vs.length = m := Nat.eq_of_beq_eq_true hm
  have ho' : o + m ≤ w := by simpa using ho
  obtain ⟨cur, hgg, hgl, hsz, hlc, hcm, hr, hlen⟩ := h.heap hv (by omega)
  have hwi : i * w + w ≤ cap * w := by
    calc i * w + w = (i + 1) * w := by rw [Nat.add_mul, Nat.one_mul]
      _ ≤ cap * w := Nat.mul_le_mul_right _ (by omega)
  have hst := run_storeCells_cells (P := P) g (i * w + o) vs 0 s.w (fun j hj => by
      simp [World.cell?, hgg]; omega) (fun j hj => by simp [World.frozen?, hgg]) (List.all_eq_true.1 hc.2)
  simp only [Nat.add_zero] at hst
  have hs := h.store (o := o) hv hi (vs := vs) (dd := dd) (by omega) (fun cs hcs hrc => by rw [hm']; exact hd cs hcs hrc)
  refine .eff rfl rfl (fun η ha => ?_) (hK _ hs.1 hs.2)
  have hsz' : u.cells.size = m := by rw [← Array.length_toList, hc.1, hm']
  simp [execOp, ha.ev hx, ha.ev hy, Instr.storeAt, Instr.sureAddr, storeVar, run_sizeOf hT, hsz', hc.1, hst]
  rfl
end
end Go.Fw
