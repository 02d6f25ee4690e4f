import Derived.Test.YtepifllifhikiaaDoorFwD
set_option linter.unusedSimpArgs false
set_option linter.unusedVariables false
namespace Go.Fw

/-- The type is of one cell. -/
def oneT (P : Program) (t : TypeId) : Bool := match P.underlying t with
  | some (.struct _) => false
  | some (.array _ _) => false
  | some _ => true
  | none => false
/-- The type is a struct or an array of so many cells. -/
def aggT (P : Program) (t : TypeId) (m : Nat) : Bool := match P.underlying t with
  | some (.struct _) => (match P.info? t with | some i => i.size == m | none => false)
  | some (.array _ _) => (match P.info? t with | some i => i.size == m | none => false)
  | _ => false
/-- Where a field lies. -/
def fieldT (P : Program) (t : TypeId) (f : Nat) : Option Nat := match P.underlying t with
  | some (.struct fs) => (match fs[f]? with
    | some fd => (match P.info? fd.type with | some i => if i.size = 0 then none else some fd.offset | none => none)
    | none => none)
  | _ => none
def sizeT (P : Program) (t : TypeId) (m : Nat) : Bool := match P.info? t with | some i => i.size == m | none => false
def zeroT (P : Program) (t : TypeId) : Option Value := match P.info? t with | some i => i.zero | none => none

section
variable {P : Program} {w : World}

theorem run_isAgg_one {t : TypeId} (h : oneT P t = true) : (isAgg t).run P w = .ok false w := by
  unfold oneT at h
  cases hu : P.underlying t with
  | none => rw [hu] at h; simp at h
  | some u => rw [hu] at h; cases u <;> simp_all [isAgg, run_underlying hu]
theorem run_isAgg_agg {t : TypeId} {m : Nat} (h : aggT P t m = true) : (isAgg t).run P w = .ok true w := by
  unfold aggT at h
  cases hu : P.underlying t with
  | none => rw [hu] at h; simp at h
  | some u => rw [hu] at h; cases u <;> simp_all [isAgg, run_underlying hu]
theorem run_sizeOf_agg {t : TypeId} {m : Nat} (h : aggT P t m = true) : (sizeOf t).run P w = .ok m w := by
  unfold aggT at h
  cases hi : P.info? t with
  | none => rw [hi] at h; cases hu : P.underlying t with
    | none => rw [hu] at h; simp at h
    | some u => rw [hu] at h; cases u <;> simp_all
  | some i => rw [hi] at h; cases hu : P.underlying t with
    | none => rw [hu] at h; simp at h
    | some u => rw [hu] at h; cases u <;> simp_all [sizeOf, typeInfo, hi]
theorem run_sizeOf {t : TypeId} {m : Nat} (h : sizeT P t m = true) : (sizeOf t).run P w = .ok m w := by
  unfold sizeT at h
  cases hi : P.info? t with
  | none => rw [hi] at h; simp at h
  | some i => rw [hi] at h; simp at h; simp [sizeOf, typeInfo, hi, h]
theorem run_zeroValue {t : TypeId} {v : Value} (h : zeroT P t = some v) : (zeroValue t).run P w = .ok v w := by
  unfold zeroT at h
  cases hi : P.info? t with
  | none => rw [hi] at h; simp at h
  | some i => rw [hi] at h; simp at h; simp [zeroValue, typeInfo, hi, h]

theorem run_load {a : Addr} {v : Value} (h : w.cell? a = some v) : (load a).run P w = .ok v w := by simp [load, Sem.run, h]

theorem run_loadCells {b off : Nat} {cs : List Value} (h : ∀ j, j < cs.length → w.cell? ⟨b, off + j, none⟩ = cs[j]?) : (loadCells ⟨b, off, none⟩ cs.length).run P w = .ok cs.toArray w := by
  have key : ∀ (m i : Nat) (acc : Array Value), i + m = cs.length → (loadCellsFrom ⟨b, off, none⟩ i m acc).run P w = .ok (acc ++ (cs.drop i).toArray) w := by
    intro m
    induction m with
    | zero => intro i acc hi; simp [loadCellsFrom, List.drop_eq_nil_of_le (show cs.length ≤ i by omega)]
    | succ m ih =>
      intro i acc hi
      have hlt : i < cs.length := by omega
      have ha : (⟨b, off, none⟩ : Addr).add i = ⟨b, off + i, none⟩ := by unfold Addr.add; split <;> simp_all
      have hv : w.cell? ⟨b, off + i, none⟩ = some cs[i] := by rw [h i hlt]; simp [hlt]
      simp only [loadCellsFrom, Sem.run_bind, ha, run_load hv, Result.andThen_ok]
      rw [ih (i + 1) _ (by omega), List.drop_eq_getElem_cons hlt]
      simp
  simpa [loadCells] using key cs.length 0 #[] (by omega)

theorem run_loadVar_one {t : TypeId} {a : Addr} {v : Value} (h : oneT P t = true) (hv : w.cell? a = some v) : (loadVar t a).run P w = .ok v w := by
  simp [loadVar, run_isAgg_one h, hv]
theorem run_loadVar_agg {t : TypeId} {b off : Nat} {cs : List Value} (h : aggT P t cs.length = true) (hv : ∀ j, j < cs.length → w.cell? ⟨b, off + j, none⟩ = cs[j]?) : (loadVar t ⟨b, off, none⟩).run P w = .ok (.agg cs.toArray) w := by
  simp [loadVar, run_isAgg_agg h, run_sizeOf_agg h, run_loadCells hv]
end

section
variable {P : Program} {n : Nat} {Df : Md} {ops : Array Oper} {Q : Post} {rest : List Oper} {ρ : Env} {s : St}
variable {d : Nat} {ty : TypeId} {pos : String} {aft : Array Edge} {x y : Operand} {tx tyy : TypeId}

/-! loads -/
theorem k_load_cell {b i : Nat} {v : Value} (hT : oneT P tx = true) (hx : ev ρ x = some (.pointer (some ⟨b, i, none⟩))) (hv : s.w.cell? ⟨b, i, none⟩ = some v) (hd : Nat.blt d n = true)
    (hK : KL P n Df ops Q rest ((d, v) :: ρ) s.w) : KL P n Df ops Q (⟨some d, .load tx x, ty, pos, aft, none⟩ :: rest) ρ s.w :=
  .val rfl rfl hd (fun η ha => by simp [execOp, ha.ev hx, Instr.loadAt, Instr.sureAddr, run_loadVar_one hT hv]) hK
theorem k_load_blk {b i : Nat} {l : Lab} {cs : List Value} {T : TypeId} {v : Value} (hT : oneT P tx = true) (hx : ev ρ x = some (.pointer (some ⟨b, i, none⟩))) (hb : Blk s b l cs T) (hv : cs[i]? = some v) (hd : Nat.blt d n = true)
    (hK : KL P n Df ops Q rest ((d, v) :: ρ) s.w) : KL P n Df ops Q (⟨some d, .load tx x, ty, pos, aft, none⟩ :: rest) ρ s.w :=
  k_load_cell hT hx ((hb.cell i).trans hv) hd hK
/-- The whole of a struct or an array. -/
theorem k_load_blka {b : Nat} {l : Lab} {cs : List Value} {T : TypeId} (hT : aggT P tx cs.length = true) (hx : ev ρ x = some (.pointer (some ⟨b, 0, none⟩))) (hb : Blk s b l cs T) (hd : Nat.blt d n = true)
    (hK : KL P n Df ops Q rest ((d, .agg cs.toArray) :: ρ) s.w) : KL P n Df ops Q (⟨some d, .load tx x, ty, pos, aft, none⟩ :: rest) ρ s.w :=
  .val rfl rfl hd (fun η ha => by simp [execOp, ha.ev hx, Instr.loadAt, Instr.sureAddr, run_loadVar_agg (b := b) (off := 0) hT (fun j hj => by rw [Nat.zero_add]; exact hb.cell j)]) hK
theorem RC.val_inv {s : St} {cs : List Value} {v : Value} (h : RC s cs (.val v)) : cs = [v] := by cases h; rfl
theorem k_load_val {l : Lab} {p : Value} {v : Value} (hT : oneT P tx = true) (hx : ev ρ x = some p) (h : At s l p (.val v)) (hd : Nat.blt d n = true)
    (hK : KL P n Df ops Q rest ((d, v) :: ρ) s.w) : KL P n Df ops Q (⟨some d, .load tx x, ty, pos, aft, none⟩ :: rest) ρ s.w := by
  obtain ⟨b, off, cs, rfl, hb, hg, hc, h⟩ := h
  obtain rfl := h.val_inv
  exact k_load_cell hT hx (by have := hc 0 (by simp); simpa using this) hd hK
theorem RC.sl_inv {s : St} {cs : List Value} {w : Nat} {ds : List D} (h : RC s cs (.sl w ds)) : ∃ v, cs = [v] ∧ R s v (.sl w ds) := by
  generalize e : D.sl w ds = dd at h
  cases h with
  | nilsl w' cap a ha => injection e with e1 e2; subst e1 e2; exact ⟨_, rfl, .nilsl _ cap a ha⟩
  | sl w' b off cap ds' cs' hb hg hcap hw hc h => injection e with e1 e2; subst e1 e2; exact ⟨_, rfl, .sl _ b off cap _ cs' hb hg hcap hw hc h⟩
  | _ => cases e
theorem k_load_sl {l : Lab} {p : Value} {w : Nat} {ds : List D} (hT : oneT P tx = true) (hx : ev ρ x = some p) (h : At s l p (.sl w ds)) (hd : Nat.blt d n = true)
    (hK : ∀ v, R s v (.sl w ds) → KL P n Df ops Q rest ((d, v) :: ρ) s.w) : KL P n Df ops Q (⟨some d, .load tx x, ty, pos, aft, none⟩ :: rest) ρ s.w := by
  obtain ⟨b, off, cs, rfl, hb, hg, hc, h⟩ := h
  obtain ⟨v, rfl, hr⟩ := h.sl_inv
  exact k_load_cell hT hx (by have := hc 0 (by simp); simpa using this) hd (hK v hr)
def D.wd : D → Nat
  | .val _ => 1
  | .sl _ _ => 1
  | .ptr _ => 1
  | .ifc _ _ => 1
  | .agg l => wdL l
where wdL : List D → Nat
  | [] => 0
  | d :: r => d.wd + wdL r
theorem RC.len {s : St} {cs : List Value} {d : D} (h : RC s cs d) : cs.length = d.wd := by
  induction h with
  | val v h => rfl
  | nilsl w cap a ha => rfl
  | sl w b off cap ds cs hb hg hcap hw hc h ih => rfl
  | ptr b off cs d hb hg hc h ih => rfl
  | ifc t v cs d hv h ih => rfl
  | agg css ds hl h ih =>
    show css.flatten.length = D.wd.wdL ds
    clear h
    induction css generalizing ds with
    | nil => cases ds with | nil => rfl | cons d r => simp at hl
    | cons c css ihc =>
      cases ds with
      | nil => simp at hl
      | cons d r =>
        have h0 := ih 0 (by simp) (by simp)
        have hr := ihc r (by simpa using hl) (fun i h1 h2 => by have := ih (i + 1) (by simpa using h1) (by simpa using h2); simpa using this)
        simp only [List.flatten_cons, List.length_append, D.wd.wdL]
        rw [hr]
        simpa using h0
theorem k_load_agg {l : Lab} {p : Value} {ds : List D} (hT : aggT P tx (D.agg ds).wd = true) (hx : ev ρ x = some p) (h : At s l p (.agg ds)) (hd : Nat.blt d n = true)
    (hK : ∀ cs : List Value, RC s cs (.agg ds) → KL P n Df ops Q rest ((d, .agg cs.toArray) :: ρ) s.w) : KL P n Df ops Q (⟨some d, .load tx x, ty, pos, aft, none⟩ :: rest) ρ s.w := by
  obtain ⟨b, off, cs, rfl, hb, hg, hc, h⟩ := h
  refine .val rfl rfl hd (v := .agg cs.toArray) (fun η ha => ?_) (hK cs h)
  simp [execOp, ha.ev hx, Instr.loadAt, Instr.sureAddr, run_loadVar_agg (by rw [h.len]; exact hT) hc]

/-! fields -/
theorem run_fieldAt {P : Program} {w : World} {t : TypeId} {f o : Nat} {b i : Nat} (h : fieldT P t f = some o) : (Instr.fieldAt t (.pointer (some ⟨b, i, none⟩)) f).run P w = .ok (.pointer (some ⟨b, i + o, none⟩)) w := by
  unfold fieldT at h
  cases hu : P.underlying t with
  | none => rw [hu] at h; simp at h
  | some u =>
    rw [hu] at h
    cases u with
    | struct fs =>
      simp only at h
      cases hf : fs[f]? with
      | none => rw [hf] at h; simp at h
      | some fd =>
        rw [hf] at h
        simp only at h
        cases hi : P.info? fd.type with
        | none => rw [hi] at h; simp at h
        | some i' =>
          rw [hi] at h
          simp only at h
          by_cases hz : i'.size = 0
          · rw [if_pos hz] at h; simp at h
          · rw [if_neg hz] at h
            simp at h
            subst h
            have ha : (⟨b, i, none⟩ : Addr).add fd.offset = ⟨b, i + fd.offset, none⟩ := by unfold Addr.add; split <;> simp_all
            simp [Instr.fieldAt, run_underlying hu, hf, Instr.sureAddr, fieldPlace, sizeOf, typeInfo, hi, hz, ha]
    | _ => simp at h
theorem k_field_addr {t : TypeId} {b i f o : Nat} (hF : fieldT P t f = some o) (hx : ev ρ x = some (.pointer (some ⟨b, i, none⟩))) (hd : Nat.blt d n = true)
    (hK : KL P n Df ops Q rest ((d, .pointer (some ⟨b, i + o, none⟩)) :: ρ) s.w) : KL P n Df ops Q (⟨some d, .fieldAddr t x f, ty, pos, aft, none⟩ :: rest) ρ s.w :=
  .val rfl rfl hd (fun η ha => by simp [execOp, ha.ev hx, run_fieldAt hF]) hK

theorem At.field {s : St} {l : Lab} {p : Value} {ds : List D} (h : At s l p (.agg ds)) {f : Nat} {dd : D} (hf : ds[f]? = some dd) :
    ∃ b i, p = .pointer (some ⟨b, i, none⟩) ∧ At s l (.pointer (some ⟨b, i + D.wd.wdL (ds.take f), none⟩)) dd := by
  obtain ⟨b, off, cs, rfl, hb, hg, hc, h⟩ := h
  refine ⟨b, off, rfl, ?_⟩
  generalize e : D.agg ds = da at h
  cases h with
  | agg css ds' hl hh =>
    injection e with e
    subst e
    obtain ⟨hlt, rfl⟩ := List.getElem?_eq_some_iff.1 hf
    have key : ∀ (css : List (List Value)) (ds : List D) (f : Nat) (_ : css.length = ds.length) (_ : ∀ i (h1 : i < css.length) (h2 : i < ds.length), RC s css[i] ds[i]) (h1 : f < css.length),
        ∃ pre post, css.flatten = pre ++ css[f] ++ post ∧ pre.length = D.wd.wdL (ds.take f) := by
      intro css
      induction css with
      | nil => intro ds f _ _ h1; simp at h1
      | cons c css ih =>
        intro ds f hl hr h1
        cases ds with
        | nil => simp at hl
        | cons dd ds =>
          cases f with
          | zero => exact ⟨[], css.flatten, by simp, rfl⟩
          | succ f =>
            obtain ⟨pre, post, e1, e2⟩ := ih ds f (by simpa using hl) (fun i h1 h2 => by have := hr (i + 1) (by simpa using h1) (by simpa using h2); simpa using this) (by simpa using h1)
            refine ⟨c ++ pre, post, by simp [e1], ?_⟩
            have := (hr 0 (by simp) (by simp)).len
            simp only [List.getElem_cons_zero] at this
            simp [D.wd.wdL, e2, this]
    obtain ⟨pre, post, e1, e2⟩ := key css ds f hl hh (by omega)
    refine ⟨b, off + D.wd.wdL (ds.take f), css[f], rfl, hb, hg, ?_, hh f (by omega) hlt⟩
    intro j hj
    have := hc (D.wd.wdL (ds.take f) + j) (by rw [e1]; simp; omega)
    rw [Nat.add_assoc, this, e1, ← e2, List.append_assoc, List.getElem?_append_right (by omega), Nat.add_sub_cancel_left, List.getElem?_append_left hj]
  | _ => cases e
theorem k_field_at {t : TypeId} {f o : Nat} {l : Lab} {p : Value} {ds : List D} {dd : D} (hx : ev ρ x = some p) (h : At s l p (.agg ds)) (hf : ds[f]? = some dd) (hF : fieldT P t f = some (D.wd.wdL (ds.take f))) (hd : Nat.blt d n = true)
    (hK : ∀ q, At s l q dd → KL P n Df ops Q rest ((d, q) :: ρ) s.w) : KL P n Df ops Q (⟨some d, .fieldAddr t x f, ty, pos, aft, none⟩ :: rest) ρ s.w := by
  obtain ⟨b, i, rfl, h'⟩ := h.field hf
  exact k_field_addr hF hx hd (hK _ h')

end
end Go.Fw
