import Derived.Test.YtepifllifhikiaaDoorFwQ
set_option linter.unusedSimpArgs false
set_option linter.unusedVariables false
namespace Go.Fw

/-! Reads whose value has no name, in a region whose order is open. -/
section
variable {P : Program} {n : Nat} {Df : Md} {ops : Array Oper} {K : Lab → Prop} {Fin : Env → St → Prop} {r : List (Bool × Nat)} {i : Nat} {ρ : Env} {s : St}
variable {d j : Nat} {ty : TypeId} {pos : String} {aft : Array Edge} {x y : Operand} {tx : TypeId} {g : Option (Nat × Bool)}

/-- The operation, if it is wanted. -/
def Wanted (P : Program) (n : Nat) (Df : Md) (ops : Array Oper) (ρ : Env) (o : Oper) : Prop :=
  ∀ Q w, KL P n Df ops Q [{ o with guard := none }] ρ w → KL P n Df ops Q [o] ρ w

theorem wanted_none {o : Oper} (h : o.guard = none) : Wanted P n Df ops ρ o := fun Q w hq => by
  obtain ⟨a, b, c, d, e, g⟩ := o
  simp only at h
  subst h
  exact hq
theorem wanted_yes {o : Oper} {q d : Nat} {b : Bool} (h : o.guard = some (q, b)) (hj : (ops[q]?).bind (·.dst) = some d) (hv : look ρ d = some (.bool b)) : Wanted P n Df ops ρ o := fun Q w hq => by
  obtain ⟨a, b', c, d', e, g⟩ := o
  simp only at h
  subst h
  exact k_yes hj hv hq

theorem k_ixaddrP {Q : Post} {rest : List Oper} {w0 : World} {b off cap len w : Nat} {e : TypeId} {k : IntKind} {p : Int} (hT : P.underlying tx = some (.slice e)) (hs : sizeT P e w = true) (hx : ev ρ x = some (.slice (some ⟨b, off, none⟩) len cap)) (hy : ev ρ y = some (.int k p))
    (h0 : 0 ≤ p) (h1 : p < len) (hd : Nat.blt d n = true) (hK : KL P n Df ops Q rest ((d, .pointer (some ⟨b, off + p.toNat * w, none⟩)) :: ρ) w0) :
    KL P n Df ops Q (⟨some d, .indexAddr tx x y, ty, pos, aft, none⟩ :: rest) ρ w0 :=
  .val rfl rfl hd (fun η hη => by simp [execOp, hη.ev hx, hη.ev hy, run_indexAt_slice hT hs h0 h1]) hK

theorem rd_ix {l : Lab} {v : Value} {w : Nat} {ds : List D} {dd : D} {e : TypeId} {k : IntKind} {p : Int}
    (ho : ops[i]? = some ⟨some d, .indexAddr tx x y, ty, pos, aft, g⟩) (hg : Wanted P n Df ops (rst ρ ((⟨some d, .indexAddr tx x y, ty, pos, aft, g⟩ : Oper).looksAt ops)) ⟨some d, .indexAddr tx x y, ty, pos, aft, g⟩)
    (hT : P.underlying tx = some (.slice e)) (hs : sizeT P e w = true) (hx : ev (rst ρ ((⟨some d, .indexAddr tx x y, ty, pos, aft, g⟩ : Oper).looksAt ops)) x = some v) (hy : ev (rst ρ ((⟨some d, .indexAddr tx x y, ty, pos, aft, g⟩ : Oper).looksAt ops)) y = some (.int k p)) (h : SL s l v w ds)
    (h0 : 0 ≤ p) (hdd : ds[p.toNat]? = some dd) (hd : Nat.blt d n = true) (hr : ∀ q, At s l q dd → RD P n Df ops K Fin r ((d, q) :: ρ) s) : RD P n Df ops K Fin ((false, i) :: r) ρ s := by
  obtain ⟨b, off, cap, rfl, ha⟩ := h.at hdd
  have hlt : p.toNat < ds.length := (List.getElem?_eq_some_iff.1 hdd).1
  exact rd_read _ ho rfl (fun s' st => hg _ _ (k_ixaddrP hT hs hx hy h0 (show p < (ds.length : Int) by omega) hd fq_end)) (hr _ ha)
theorem rd_ixN {l : Lab} {v : Value} {w : Nat} {ds : List D} {dd : D} {e : TypeId} {k : IntKind} {p : Nat}
    (ho : ops[i]? = some ⟨some d, .indexAddr tx x y, ty, pos, aft, g⟩) (hg : Wanted P n Df ops (rst ρ ((⟨some d, .indexAddr tx x y, ty, pos, aft, g⟩ : Oper).looksAt ops)) ⟨some d, .indexAddr tx x y, ty, pos, aft, g⟩)
    (hT : P.underlying tx = some (.slice e)) (hs : sizeT P e w = true) (hx : ev (rst ρ ((⟨some d, .indexAddr tx x y, ty, pos, aft, g⟩ : Oper).looksAt ops)) x = some v) (hy : ev (rst ρ ((⟨some d, .indexAddr tx x y, ty, pos, aft, g⟩ : Oper).looksAt ops)) y = some (.int k (p : Int))) (h : SL s l v w ds)
    (hdd : ds[p]? = some dd) (hd : Nat.blt d n = true) (hr : ∀ q, At s l q dd → RD P n Df ops K Fin r ((d, q) :: ρ) s) : RD P n Df ops K Fin ((false, i) :: r) ρ s :=
  rd_ix ho hg hT hs hx hy h (by omega) (by simpa using hdd) hd hr

theorem rd_fa {t : TypeId} {f : Nat} {l : Lab} {p : Value} {ds : List D} {dd : D}
    (ho : ops[i]? = some ⟨some d, .fieldAddr t x f, ty, pos, aft, g⟩) (hg : Wanted P n Df ops (rst ρ ((⟨some d, .fieldAddr t x f, ty, pos, aft, g⟩ : Oper).looksAt ops)) ⟨some d, .fieldAddr t x f, ty, pos, aft, g⟩)
    (hx : ev (rst ρ ((⟨some d, .fieldAddr t x f, ty, pos, aft, g⟩ : Oper).looksAt ops)) x = some p) (h : At s l p (.agg ds)) (hf : ds[f]? = some dd) (hF : fieldT P t f = some (D.wd.wdL (ds.take f))) (hd : Nat.blt d n = true)
    (hr : ∀ q, At s l q dd → RD P n Df ops K Fin r ((d, q) :: ρ) s) : RD P n Df ops K Fin ((false, i) :: r) ρ s := by
  obtain ⟨b, o, rfl, h'⟩ := h.field hf
  exact rd_read _ ho rfl (fun s' st => hg _ _ (k_field_addr hF hx hd fq_end)) (hr _ h')

theorem rd_ldsl {l : Lab} {p : Value} {w : Nat} {ds : List D} (ho : ops[i]? = some ⟨some d, .load tx x, ty, pos, aft, g⟩) (hg : Wanted P n Df ops (rst ρ ((⟨some d, .load tx x, ty, pos, aft, g⟩ : Oper).looksAt ops)) ⟨some d, .load tx x, ty, pos, aft, g⟩)
    (hT : oneT P tx = true) (hx : ev (rst ρ ((⟨some d, .load tx x, ty, pos, aft, g⟩ : Oper).looksAt ops)) x = some p) (h : At s l p (.sl w ds)) (hk : ¬ K l) (hd : Nat.blt d n = true)
    (hr : ∀ v, R s v (.sl w ds) → RD P n Df ops K Fin r ((d, v) :: ρ) s) : RD P n Df ops K Fin ((false, i) :: r) ρ s := by
  obtain ⟨b, off, cs, rfl, hb, hgl, hc, h⟩ := h
  obtain ⟨v, rfl, hv⟩ := h.sl_inv
  have h0 : s.w.cell? ⟨b, off, none⟩ = some v := by have := hc 0 (by simp); simpa using this
  have hk' : ¬ K (s.g b) := by rw [hgl]; exact hk
  exact rd_read _ ho rfl (fun s' st => hg _ _ (k_load_cell hT hx ((st.cell hb hk' _).trans h0) hd fq_end)) (hr _ hv)
end
end Go.Fw
