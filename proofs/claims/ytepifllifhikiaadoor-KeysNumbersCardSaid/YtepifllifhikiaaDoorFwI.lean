import Derived.Test.YtepifllifhikiaaDoorFwH
set_option linter.unusedSimpArgs false
set_option linter.unusedVariables false
namespace Go.Fw

/-- A slice's length can be told. -/
def HasLen (v : Value) (m : Nat) : Prop := ∃ a c, v = .slice a m c
theorem SL.hasLen {s : St} {l : Lab} {v : Value} {w : Nat} {ds : List D} (h : SL s l v w ds) : HasLen v ds.length := by
  obtain ⟨a, c, e, _⟩ := h.val; exact ⟨a, c, e⟩

/-- The place of an element of a slice that is owned. -/
def Elt (w : Nat) (v : Value) (i : Nat) (p : Value) : Prop := ∃ g len cap, v = .slice (some ⟨g, 0, none⟩) len cap ∧ p = .pointer (some ⟨g, i * w, none⟩)

section
variable {P : Program} {n : Nat} {Df : Md} {ops : Array Oper} {Q : Post} {rest : List Oper} {ρ : Env} {s : St}
variable {d : Nat} {ty : TypeId} {pos : String} {aft : Array Edge} {x y : Operand} {tx tyy : TypeId}

theorem k_len {m : Nat} {v : Value} {e : TypeId} {w : World} (hT : P.underlying tx = some (.slice e)) (hx : ev ρ x = some v) (h : HasLen v m) (hd : Nat.blt d n = true)
    (hK : KL P n Df ops Q rest ((d, .int .i64 m) :: ρ) w) :
    KL P n Df ops Q (⟨some d, .call { callee := .builtin .len, args := [x].toArray, argTypes := [tx].toArray }, ty, pos, aft, none⟩ :: rest) ρ w := by
  obtain ⟨a, c, rfl⟩ := h
  exact .val rfl rfl hd (fun η ha => by simp [execOp, resolve, invoke, builtin, ha.ev hx, Builtin.len_, run_underlying hT, goInt]) hK

theorem run_indexAt_slice {P : Program} {w0 : World} {t e w : Nat} {b off len cap : Nat} {k : IntKind} {p : Int} (hT : P.underlying t = some (.slice e)) (hs : sizeT P e w = true) (h0 : 0 ≤ p) (h1 : p < len) :
    (Instr.indexAt t (.slice (some ⟨b, off, none⟩) len cap) (.int k p)).run P w0 = .ok (.pointer (some ⟨b, off + p.toNat * w, none⟩)) w0 := by
  have ha : (⟨b, off, none⟩ : Addr).add (p.toNat * w) = ⟨b, off + p.toNat * w, none⟩ := by unfold Addr.add; split <;> simp_all
  simp [Instr.indexAt, asIntOf, run_underlying hT, h0, h1, run_sizeOf hs, ha]

theorem SL.at {s : St} {l : Lab} {v : Value} {w : Nat} {ds : List D} (h : SL s l v w ds) {i : Nat} {dd : D} (hd : ds[i]? = some dd) :
    ∃ b off cap, v = .slice (some ⟨b, off, none⟩) ds.length cap ∧ At s l (.pointer (some ⟨b, off + i * w, none⟩)) dd := by
  obtain ⟨hi, rfl⟩ := List.getElem?_eq_some_iff.1 hd
  rcases h with ⟨rfl, _⟩ | ⟨b, off, cap, cs, e, hb, hg, hcap, hw, hc, h⟩
  · simp at hi
  · exact ⟨b, off, cap, e, b, _, cs i, rfl, hb, hg, fun j hj => hc i hi j (by rwa [hw i hi] at hj), h i hi⟩

theorem k_ixaddr {l : Lab} {v : Value} {w : Nat} {ds : List D} {dd : D} {e : TypeId} {k : IntKind} {p : Int} (hT : P.underlying tx = some (.slice e)) (hs : sizeT P e w = true) (hx : ev ρ x = some v) (hy : ev ρ y = some (.int k p)) (h : SL s l v w ds)
    (h0 : 0 ≤ p) (hdd : ds[p.toNat]? = some dd) (hd : Nat.blt d n = true) (hK : ∀ q, At s l q dd → KL P n Df ops Q rest ((d, q) :: ρ) s.w) :
    KL P n Df ops Q (⟨some d, .indexAddr tx x y, ty, pos, aft, none⟩ :: rest) ρ s.w := by
  obtain ⟨b, off, cap, rfl, ha⟩ := h.at hdd
  have hlt : p.toNat < ds.length := (List.getElem?_eq_some_iff.1 hdd).1
  exact .val rfl rfl hd (fun η hη => by simp [execOp, hη.ev hx, hη.ev hy, run_indexAt_slice hT hs h0 (show p < (ds.length : Int) by omega)]) (hK _ ha)

theorem k_ixaddr_own {l : Lab} {v : Value} {w : Nat} {ds : List D} {dd : D} {e e' : TypeId} {k : IntKind} {p : Int} (hT : P.underlying tx = some (.slice e)) (hs : sizeT P e w = true) (hx : ev ρ x = some v) (hy : ev ρ y = some (.int k p)) (h : Own s l e' w v ds)
    (h0 : 0 ≤ p) (hdd : ds[p.toNat]? = some dd) (hd : Nat.blt d n = true) (hK : ∀ q, At s l q dd → Elt w v p.toNat q → KL P n Df ops Q rest ((d, q) :: ρ) s.w) :
    KL P n Df ops Q (⟨some d, .indexAddr tx x y, ty, pos, aft, none⟩ :: rest) ρ s.w := by
  have hsl := h.sl
  obtain ⟨b, off, cap, e1, ha⟩ := hsl.at hdd
  have hlt : p.toNat < ds.length := (List.getElem?_eq_some_iff.1 hdd).1
  obtain ⟨h0', h1', xs, ho, hg, hr⟩ := h
  have hoff : off = 0 := by
    rcases ho.2 with ⟨rfl, hn⟩ | ⟨g, cap', cur, rfl, _⟩
    · simp at e1
    · injection e1 with e1 _; injection e1 with e1; injection e1 with _ e2; exact e2.symm
  subst hoff
  subst e1
  refine .val rfl rfl hd (v := .pointer (some ⟨b, 0 + p.toNat * w, none⟩)) (fun η hη => ?_) (hK _ ha ⟨b, _, _, rfl, by rw [Nat.zero_add]⟩)
  simp only [execOp, hη.ev hx, hη.ev hy, Sem.run_bind, run_indexAt_slice hT hs h0 (show p < (ds.length : Int) by omega)]
  rfl

/-- A cut of a slice. -/
theorem SL.cut {s : St} {l : Lab} {b off cap : Nat} {w : Nat} {ds : List D} (h : SL s l (.slice (some ⟨b, off, none⟩) ds.length cap) w ds) {i j : Nat} (hij : i ≤ j) (hj : j ≤ ds.length) :
    SL s l (.slice (if cap = i then some ⟨b, off, none⟩ else some (Addr.add ⟨b, off, none⟩ (i * w))) (j - i) (cap - i)) w ((ds.drop i).take (j - i)) := by
  have hl : ((ds.drop i).take (j - i)).length = j - i := by simp; omega
  rcases h with ⟨rfl, a, c, e, _⟩ | ⟨b', off', cap', cs, e, hb, hg, hcap, hw, hc, hr⟩
  · refine .inl ⟨by simp, ?_⟩
    have : j - i = 0 := by simp at hj; omega
    rw [this]
    refine ⟨_, _, rfl, ?_⟩
    split <;> simp
  · injection e with e1 e2 e3
    injection e1 with e1
    injection e1 with e1 e4
    subst e1 e3 e4
    by_cases hz : j - i = 0
    · refine .inl ⟨List.eq_nil_of_length_eq_zero (by rw [hl]; exact hz), ?_⟩
      rw [hz]
      refine ⟨_, _, rfl, ?_⟩
      split <;> simp
    · have hne : ¬ cap = i := by omega
      have ha : (⟨b, off, none⟩ : Addr).add (i * w) = ⟨b, off + i * w, none⟩ := by unfold Addr.add; split <;> simp_all
      rw [if_neg hne, ha]
      refine .inr ⟨b, off + i * w, cap - i, fun k => cs (i + k), by rw [hl], hb, hg, by rw [hl]; omega, fun k hk => hw _ (by rw [hl] at hk; omega), ?_, ?_⟩
      · intro k hk q hq
        rw [hl] at hk
        have := hc (i + k) (by omega) q hq
        rw [Nat.add_mul, ← Nat.add_assoc] at this
        exact this
      · intro k hk
        have hk' : k < j - i := by rwa [hl] at hk
        have := hr (i + k) (by omega)
        simpa using this

theorem k_slice_sl {l : Lab} {v : Value} {w : Nat} {ds : List D} {e : TypeId} {lo hi : Option Operand} {i j : Nat} (hT : P.underlying tx = some (.slice e)) (hs : sizeT P e w = true) (hx : ev ρ x = some v) (h : SL s l v w ds)
    (hlo : match lo with | none => i = 0 | some z => ∃ k, ev ρ z = some (.int k i)) (hhi : match hi with | none => j = ds.length | some z => ∃ k, ev ρ z = some (.int k j))
    (hij : i ≤ j) (hj : j ≤ ds.length) (hd : Nat.blt d n = true)
    (hK : ∀ v', SL s l v' w ((ds.drop i).take (j - i)) → KL P n Df ops Q rest ((d, v') :: ρ) s.w) :
    KL P n Df ops Q (⟨some d, .slice tx x lo hi none, ty, pos, aft, none⟩ :: rest) ρ s.w := by
  obtain ⟨a, cap, rfl, ha⟩ := h.val
  have hcap : ds.length ≤ cap := by
    rcases h with ⟨rfl, _⟩ | ⟨b', off', cap', cs, e, hb, hg, hcap, _⟩
    · simp
    · injection e with e1 e2 e3; subst e3; exact hcap
  have hrun : ∀ η : Operand → Value, Agr ρ η → (execOp η ⟨some d, .slice tx x lo hi none, ty, pos, aft, none⟩).run P s.w = .ok (.value (.slice (if cap = i then a else a.map (·.add (i * w))) (j - i) (cap - i))) s.w := by
    intro η hη
    cases lo with
    | none =>
      simp only at hlo
      subst hlo
      cases hi with
      | none => simp only at hhi; subst hhi; simp [execOp, hη.ev hx, Instr.sliceAt, Instr.slice, Instr.sliceBounds, run_underlying hT, run_sizeOf hs]
      | some z => obtain ⟨k, hz⟩ := hhi; simp [execOp, hη.ev hx, hη.ev hz, Instr.sliceAt, Instr.slice, Instr.sliceBounds, Instr.sliceBound, asIntOf, run_underlying hT, run_sizeOf hs, Nat.le_trans hj hcap]
    | some yy =>
      obtain ⟨k, hy⟩ := hlo
      cases hi with
      | none => simp only at hhi; subst hhi; simp [execOp, hη.ev hx, hη.ev hy, Instr.sliceAt, Instr.slice, Instr.sliceBounds, Instr.sliceBound, asIntOf, run_underlying hT, run_sizeOf hs, hij]
      | some z => obtain ⟨k', hz⟩ := hhi; simp [execOp, hη.ev hx, hη.ev hy, hη.ev hz, Instr.sliceAt, Instr.slice, Instr.sliceBounds, Instr.sliceBound, asIntOf, run_underlying hT, run_sizeOf hs, hij, Nat.le_trans hj hcap]
  refine .val rfl rfl hd hrun (hK _ ?_)
  cases a with
  | none =>
    obtain ⟨hl0, hc0⟩ := ha rfl
    have hi0 : i = 0 := by omega
    have hj0 : j = 0 := by omega
    subst hi0 hj0 hc0
    exact .inl ⟨by simp, none, 0, by simp, fun _ => rfl⟩
  | some ad =>
    have hsp : ad.spot = none ∨ ds.length = 0 := by
      rcases h with ⟨rfl, _⟩ | ⟨b', off', cap', cs, e, _⟩
      · exact .inr rfl
      · injection e with e1 e2 e3; injection e1 with e1; subst e1; exact .inl rfl
    by_cases hl0 : ds.length = 0
    · have hds : ds = [] := List.eq_nil_of_length_eq_zero hl0
      subst hds
      refine .inl ⟨by simp, ?_⟩
      have : j - i = 0 := by simp at hj; omega
      rw [this]
      refine ⟨_, _, rfl, ?_⟩
      split <;> simp
    · have hsp' := hsp.resolve_right hl0
      obtain ⟨b, off, sp⟩ := ad
      simp only at hsp'
      subst hsp'
      have := h.cut hij hj
      simpa using this

end
end Go.Fw
