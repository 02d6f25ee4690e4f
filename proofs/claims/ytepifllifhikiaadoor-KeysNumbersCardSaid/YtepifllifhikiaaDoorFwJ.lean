import Derived.Test.YtepifllifhikiaaDoorFwI
set_option linter.unusedSimpArgs false
set_option linter.unusedVariables false
namespace Go.Fw

theorem R.cells_one {s : St} {v : Value} {d : D} (h : RC s [v] d) : v.cells.toList = [v] := by
  rw [cells_of_one (h.one_cells v (by simp))]
theorem SL.cells1 {s : St} {l : Lab} {v : Value} {w : Nat} {ds : List D} (h : SL s l v w ds) : v.cells.toList = [v] := by
  obtain ⟨a, c, rfl, _⟩ := h.val; rfl
theorem SL.one1 {s : St} {l : Lab} {v : Value} {w : Nat} {ds : List D} (h : SL s l v w ds) : v.oneCell' = true := by
  obtain ⟨a, c, rfl, _⟩ := h.val; rfl
theorem R.cells_sl {s : St} {v : Value} {w : Nat} {ds : List D} (h : R s v (.sl w ds)) : v.cells.toList = [v] := (SL.of_R h).cells1
theorem R.one_sl {s : St} {v : Value} {w : Nat} {ds : List D} (h : R s v (.sl w ds)) : v.oneCell' = true := (SL.of_R h).one1

/-- A field of a value: where it lies, in one cell. -/
def fieldV (P : Program) (t f off : Nat) : Bool := match P.underlying t with
  | some (.struct fs) => (match fs[f]? with | some fd => Nat.beq fd.offset off && oneT P fd.type | none => false)
  | _ => false
def fieldVA (P : Program) (t f off m : Nat) : Bool := match P.underlying t with
  | some (.struct fs) => (match fs[f]? with | some fd => Nat.beq fd.offset off && aggT P fd.type m | none => false)
  | _ => false

/-- Where the fields of a struct lie, and how many cells they are. -/
def placesT (P : Program) (t : Nat) (ps : List (Nat × Nat)) : Prop :=
  ∃ fs : Array Field, P.underlying t = some (.struct fs) ∧ ∀ w : World, (fs.mapM (m := Sem) fun f => Prod.mk f.offset <$> sizeOf f.type).run P w = .ok ps.toArray w

section
variable {P : Program} {n : Nat} {Df : Md} {ops : Array Oper} {Q : Post} {rest : List Oper} {ρ : Env} {s : St} {w0 : World}
variable {d : Nat} {ty : TypeId} {pos : String} {aft : Array Edge} {x y : Operand} {tx tyy : TypeId}

theorem k_field {t f off : Nat} {cs : List Value} {v : Value} (hF : fieldV P t f off = true) (hx : ev ρ x = some (.agg cs.toArray)) (hv : cs[off]? = some v) (hd : Nat.blt d n = true)
    (hK : KL P n Df ops Q rest ((d, v) :: ρ) w0) : KL P n Df ops Q (⟨some d, .field t x f, ty, pos, aft, none⟩ :: rest) ρ w0 := by
  refine .val rfl rfl hd (fun η ha => ?_) hK
  unfold fieldV at hF
  cases hu : P.underlying t with
  | none => rw [hu] at hF; simp at hF
  | some u =>
    rw [hu] at hF
    cases u with
    | struct fs =>
      simp only at hF
      cases hf : fs[f]? with
      | none => rw [hf] at hF; simp at hF
      | some fd =>
        rw [hf] at hF
        simp at hF
        obtain ⟨e1, e2⟩ := hF
        subst e1
        simp [execOp, ha.ev hx, Instr.field, run_underlying hu, hf, asAgg, part, run_isAgg_one e2, hv]
    | _ => simp at hF
theorem k_fielda {t f off m : Nat} {cs : List Value} (hF : fieldVA P t f off m = true) (hx : ev ρ x = some (.agg cs.toArray)) (hd : Nat.blt d n = true)
    (hK : KL P n Df ops Q rest ((d, .agg ((cs.drop off).take m).toArray) :: ρ) w0) : KL P n Df ops Q (⟨some d, .field t x f, ty, pos, aft, none⟩ :: rest) ρ w0 := by
  refine .val rfl rfl hd (fun η ha => ?_) hK
  unfold fieldVA at hF
  cases hu : P.underlying t with
  | none => rw [hu] at hF; simp at hF
  | some u =>
    rw [hu] at hF
    cases u with
    | struct fs =>
      simp only at hF
      cases hf : fs[f]? with
      | none => rw [hf] at hF; simp at hF
      | some fd =>
        rw [hf] at hF
        simp at hF
        obtain ⟨e1, e2⟩ := hF
        subst e1
        simp [execOp, ha.ev hx, Instr.field, run_underlying hu, hf, asAgg, part, run_isAgg_agg e2, run_sizeOf_agg e2]
    | _ => simp at hF

/-! a struct's literal -/
def evq (ρ : Env) : List (Nat × Operand) → Option (List (Nat × Value))
  | [] => some []
  | (j, x) :: r => match ev ρ x with
    | none => none
    | some v => match evq ρ r with
      | none => none
      | some vs => some ((j, v) :: vs)
theorem Agr.evq {η : Operand → Value} (h : Agr ρ η) : ∀ {xs : List (Nat × Operand)} {vs : List (Nat × Value)}, Fw.evq ρ xs = some vs → xs.map (fun (p : Nat × Operand) => (p.1, η p.2)) = vs
  | [], vs, e => by simp [Fw.evq] at e; simp [e]
  | (j, x) :: r, vs, e => by
    simp only [Fw.evq] at e
    cases hv : Fw.ev ρ x with
    | none => rw [hv] at e; simp at e
    | some v =>
      rw [hv] at e
      cases hr : Fw.evq ρ r with
      | none => simp only [hr] at e; simp at e
      | some us => simp only [hr] at e; simp at e; subst e; simp only [List.map_cons, h.ev hv, h.evq hr]

/-- The parts' cells. -/
def Parts : List (Nat × Value) → List (Nat × List Value) → Prop
  | [], [] => True
  | (i, v) :: r, (j, cs) :: q => i = j ∧ v.cells.toList = cs ∧ Parts r q
  | _, _ => False
def fillL (ps : List (Nat × Nat)) : List (Nat × List Value) → List Value → Option (List Value)
  | [], z => some z
  | (i, cs) :: r, z => match ps[i]? with
    | none => none
    | some (off, m) => bif Nat.beq cs.length m && Nat.ble (off + m) z.length then fillL ps r (z.take off ++ cs ++ z.drop (off + m)) else none

theorem fill_L {places : Nat → Option (Nat × Nat)} {ps : List (Nat × Nat)} (hp : ∀ i p, ps[i]? = some p → places i = some p) : ∀ {vs : List (Nat × Value)} {css : List (Nat × List Value)} {z : Array Value} {out : List Value}, Parts vs css → fillL ps css z.toList = some out →
    Instr.fill places z vs = some out.toArray
  | [], [], z, out, _, h => by simp [fillL] at h; simp [Instr.fill, ← h]
  | (i, v) :: r, (j, cs) :: q, z, out, ⟨hij, e, hr⟩, h => by
    subst hij
    simp only [fillL] at h
    cases hps : ps[i]? with
    | none => rw [hps] at h; simp at h
    | some p =>
      obtain ⟨off, m⟩ := p
      rw [hps] at h
      simp only at h
      cases hb : (Nat.beq cs.length m && Nat.ble (off + m) z.toList.length) with
      | false => rw [hb] at h; simp at h
      | true =>
        rw [hb] at h
        simp only [cond_true] at h
        simp only [Bool.and_eq_true, Nat.beq_eq, Nat.ble_eq, Array.length_toList] at hb
        obtain ⟨h1, h2⟩ := hb
        have hsz : v.cells.size = m := by rw [← h1, ← e]; simp
        have hf := foldl_put off v.cells.toList 0 z (by simp [hsz]; omega)
        rw [e] at hf
        simp only [Nat.add_zero, h1] at hf
        have hz : (v.cells.zipIdx.foldl (fun cs (x : Value × Nat) => cs.setIfInBounds (off + x.2) x.1) z).toList = z.toList.take off ++ cs ++ z.toList.drop (off + m) := by
          rw [← hf, ← e, ← Array.toList_zipIdx, Array.foldl_toList]
        have := fill_L (z := v.cells.zipIdx.foldl (fun cs (x : Value × Nat) => cs.setIfInBounds (off + x.2) x.1) z) hp hr (by rw [hz]; exact h)
        simp only [Instr.fill, hp i _ hps]
        rw [if_neg (by simp only [Bool.or_eq_true, decide_eq_true_eq]; rintro (h | h); exact h hsz; omega)]
        exact this
  | [], _ :: _, _, _, h, _ => h.elim
  | _ :: _, [], _, _, h, _ => h.elim

theorem k_build {t : Nat} {z : Value} {ps : List (Nat × Nat)} {xs : List (Nat × Operand)} {vs : List (Nat × Value)} {css : List (Nat × List Value)} {out : List Value} (hp : placesT P t ps) (hz : zeroT P t = some z) (hx : evq ρ xs = some vs) (hc : Parts vs css) (ho : fillL ps css z.cells.toList = some out) (hd : Nat.blt d n = true)
    (hK : KL P n Df ops Q rest ((d, .agg out.toArray) :: ρ) w0) : KL P n Df ops Q (⟨some d, .build t xs.toArray, ty, pos, aft, none⟩ :: rest) ρ w0 := by
  refine .val rfl rfl hd (fun η ha => ?_) hK
  obtain ⟨fs, hu, hm⟩ := hp
  have hf := fill_L (places := fun i => ps[i]?) (ps := ps) (fun i p h => h) hc ho
  have hev := ha.evq hx
  have hpa : (xs.toArray.map fun (p : Nat × Operand) => (p.1, η p.2)) = vs.toArray := by rw [← hev]; simp
  simp only [execOp]
  rw [show (Array.map (fun x => match x with | (i, x) => (i, η x)) xs.toArray) = vs.toArray from hpa]
  simp [Instr.build, run_zeroValue hz, run_underlying hu, hm w0, hf]

/-! arrays -/
def arrT (P : Program) (t e m w : Nat) : Prop := P.underlying t = some (.array m e) ∧ sizeT P e w = true
theorem k_ixaddr_arr {t e m w b off : Nat} {k : IntKind} {p : Int} (hT : arrT P t e m w) (hx : ev ρ x = some (.pointer (some ⟨b, off, none⟩))) (hy : ev ρ y = some (.int k p)) (h0 : 0 ≤ p) (h1 : p < m) (hd : Nat.blt d n = true)
    (hK : KL P n Df ops Q rest ((d, .pointer (some ⟨b, off + p.toNat * w, none⟩)) :: ρ) w0) : KL P n Df ops Q (⟨some d, .indexAddr t x y, ty, pos, aft, none⟩ :: rest) ρ w0 := by
  obtain ⟨hu, hs⟩ := hT
  refine .val rfl rfl hd (fun η ha => ?_) hK
  have hadd : (⟨b, off, none⟩ : Addr).add (p.toNat * w) = ⟨b, off + p.toNat * w, none⟩ := by unfold Addr.add; split <;> simp_all
  simp [execOp, ha.ev hx, ha.ev hy, Instr.indexAt, asIntOf, run_underlying hu, Instr.sureAddr, h0, h1, run_sizeOf hs, hadd]
theorem k_index_arr {t e m : Nat} {cs : List Value} {k : IntKind} {p : Int} {v : Value} (hT : arrT P t e m 1) (hO : oneT P e = true) (hx : ev ρ x = some (.agg cs.toArray)) (hy : ev ρ y = some (.int k p)) (h0 : 0 ≤ p) (h1 : p < m) (hv : cs[p.toNat]? = some v) (hd : Nat.blt d n = true)
    (hK : KL P n Df ops Q rest ((d, v) :: ρ) w0) : KL P n Df ops Q (⟨some d, .index t x y, ty, pos, aft, none⟩ :: rest) ρ w0 := by
  obtain ⟨hu, hs⟩ := hT
  refine .val rfl rfl hd (fun η ha => ?_) hK
  simp [execOp, ha.ev hx, ha.ev hy, Instr.index, asIntOf, run_underlying hu, h0, h1, run_sizeOf hs, part, run_isAgg_one hO, hv]
/-- A cut of an array of cells. -/
theorem k_slice_arr {t e m b : Nat} {l : Lab} {cs : List Value} {T : TypeId} {lo hi : Option Operand} {i j : Nat} (hT : arrT P t e m 1) (hb : Blk s b l cs T) (hlen : cs.length = m) (hone : cs.all Value.oneCell' = true) (hx : ev ρ x = some (.pointer (some ⟨b, 0, none⟩)))
    (hlo : match lo with | none => i = 0 | some z => ∃ k, ev ρ z = some (.int k i)) (hhi : match hi with | none => j = m | some z => ∃ k, ev ρ z = some (.int k j))
    (hij : i ≤ j) (hj : j ≤ m) (hd : Nat.blt d n = true)
    (hK : ∀ v, SL s l v 1 (((cs.drop i).take (j - i)).map .val) → KL P n Df ops Q rest ((d, v) :: ρ) s.w) :
    KL P n Df ops Q (⟨some d, .slice t x lo hi none, ty, pos, aft, none⟩ :: rest) ρ s.w := by
  obtain ⟨hu, hs⟩ := hT
  subst hlen
  have hrun : ∀ η : Operand → Value, Agr ρ η → (execOp η ⟨some d, .slice t x lo hi none, ty, pos, aft, none⟩).run P s.w = .ok (.value (.slice (some (if cs.length = i then ⟨b, 0, none⟩ else Addr.add ⟨b, 0, none⟩ (i * 1))) (j - i) (cs.length - i))) s.w := by
    intro η hη
    cases lo with
    | none =>
      simp only at hlo
      subst hlo
      cases hi with
      | none => simp only at hhi; subst hhi; simp [execOp, hη.ev hx, Instr.sliceAt, Instr.sureAddr, Instr.sliceBounds, run_underlying hu, run_sizeOf hs]
      | some z => obtain ⟨k, hz⟩ := hhi; simp [execOp, hη.ev hx, hη.ev hz, Instr.sliceAt, Instr.sureAddr, Instr.sliceBounds, Instr.sliceBound, asIntOf, run_underlying hu, run_sizeOf hs, hj]
    | some yy =>
      obtain ⟨k, hy⟩ := hlo
      cases hi with
      | none => simp only at hhi; subst hhi; simp [execOp, hη.ev hx, hη.ev hy, Instr.sliceAt, Instr.sureAddr, Instr.sliceBounds, Instr.sliceBound, asIntOf, run_underlying hu, run_sizeOf hs, hij]
      | some z => obtain ⟨k', hz⟩ := hhi; simp [execOp, hη.ev hx, hη.ev hy, hη.ev hz, Instr.sliceAt, Instr.sureAddr, Instr.sliceBounds, Instr.sliceBound, asIntOf, run_underlying hu, run_sizeOf hs, hij, hj]
  refine .val rfl rfl hd hrun (hK _ ?_)
  have hl : (((cs.drop i).take (j - i)).map D.val).length = j - i := by simp; omega
  by_cases hz : j - i = 0
  · refine .inl ⟨List.eq_nil_of_length_eq_zero (by rw [hl]; exact hz), _, _, by rw [hz], by simp⟩
  · have hne : ¬ cs.length = i := by omega
    have hadd : (⟨b, 0, none⟩ : Addr).add (i * 1) = ⟨b, i, none⟩ := by unfold Addr.add; split <;> simp_all
    rw [if_neg hne, hadd]
    refine .inr ⟨b, i, cs.length - i, fun k => (cs.drop (i + k)).take 1, by rw [hl], hb.lt, hb.lab, by rw [hl]; omega, ?_, ?_, ?_⟩
    · intro k hk
      rw [hl] at hk
      simp; omega
    · intro k hk q hq
      rw [hl] at hk
      have hq0 : q = 0 := by omega
      subst hq0
      rw [hb.cell]
      simp [List.getElem?_take]
    · intro k hk
      have hk' : i + k < cs.length := by rw [hl] at hk; omega
      have e : (cs.drop (i + k)).take 1 = [cs[i + k]] := by rw [List.drop_eq_getElem_cons hk']; rfl
      simp only [e]
      have : (((cs.drop i).take (j - i)).map D.val)[k] = .val cs[i + k] := by simp
      rw [this]
      exact .val _ (List.all_eq_true.1 hone _ (List.getElem_mem _))

end
end Go.Fw
