import Derived.Test.YtdofbkomeadjgaaGreatDoorFwAFwG
import Derived.Orders
set_option linter.unusedSimpArgs false
set_option linter.unusedVariables false
namespace Go.Fw
theorem cells_of_one {v : Value} (h : v.oneCell' = true) : v.cells = #[v] := by cases v <;> first | rfl | simp [Value.oneCell'] at h
theorem R.rc {s : St} {v : Value} {d : D} (h : R s v d) : RC s v.cells.toList d := by
  cases d with
  | agg ds => obtain ⟨cs, rfl, h⟩ := h; exact h
  | _ =>
    have h' : RC s [v] _ := h
    have := h'.one_cells v (by simp)
    rw [cells_of_one this]
    exact h'
def RVs (s : St) : List Value → List D → Prop
  | [], [] => True
  | v :: vs, d :: ds => R s v d ∧ RVs s vs ds
  | _, _ => False
theorem RVs.cells {s : St} {w : Nat} : ∀ {vs : List Value} {ds : List D}, RVs s vs ds → (∀ d ∈ ds, d.wd = w) → RCs s w (vs.map fun v => v.cells.toList).flatten ds
  | [], [], _, _ => by simpa using RCs.nil
  | v :: vs, d :: ds, ⟨h, hr⟩, hw => by
    have h1 := RCs.one h.rc
    rw [hw d (by simp)] at h1
    have := h1.append (RVs.cells hr (fun d hd => hw d (by simp [hd])))
    simpa using this
  | [], _ :: _, h, _ => h.elim
  | _ :: _, [], h, _ => h.elim
theorem RVs.len {s : St} : ∀ {vs : List Value} {ds : List D}, RVs s vs ds → vs.length = ds.length
  | [], [], _ => rfl
  | v :: vs, d :: ds, ⟨h, hr⟩ => by simp [RVs.len hr]
  | [], _ :: _, h => h.elim
  | _ :: _, [], h => h.elim
theorem RVs.sizes {s : St} {w : Nat} : ∀ {vs : List Value} {ds : List D}, RVs s vs ds → (∀ d ∈ ds, d.wd = w) → ∀ v ∈ vs, v.cells.size = w
  | [], [], _, _ => fun v hv => by simp at hv
  | u :: us, d :: ds, ⟨h, hr⟩, hw => fun v hv => by
    rcases List.mem_cons.1 hv with rfl | hv
    · have := h.rc.len
      rw [hw d (by simp)] at this
      simpa using this
    · exact RVs.sizes hr (fun d hd => hw d (by simp [hd])) v hv
  | [], _ :: _, h, _ => h.elim
  | _ :: _, [], h, _ => h.elim
theorem foldl_put (off : Nat) : ∀ (xs : List Value) (k : Nat) (cells : Array Value), off + k + xs.length ≤ cells.size →
    ((xs.zipIdx k).foldl (fun cs (p : Value × Nat) => cs.setIfInBounds (off + p.2) p.1) cells).toList = cells.toList.take (off + k) ++ xs ++ cells.toList.drop (off + k + xs.length)
  | [], k, cells, hl => by simp
  | x :: xs, k, cells, hl => by
    simp only [List.length_cons] at hl
    simp only [List.zipIdx_cons, List.foldl_cons]
    rw [foldl_put off xs (k + 1) _ (by simp; omega)]
    have e1 : List.take (off + k + 1) (cells.toList.set (off + k) x) = List.take (off + k) cells.toList ++ [x] := by
      rw [List.take_succ_eq_append_getElem (by simp; omega)]
      simp [List.take_set_of_le]
    have e2 : List.drop (off + k + 1 + xs.length) (cells.toList.set (off + k) x) = List.drop (off + k + (xs.length + 1)) cells.toList := by
      rw [show off + k + 1 + xs.length = off + k + (xs.length + 1) by omega, List.drop_set_of_lt (by omega)]
    rw [← Nat.add_assoc, Array.toList_setIfInBounds, e1, e2]
    simp
def evp (ρ : Env) : Nat → List (Nat × Operand) → Option (List Value)
  | _, [] => some []
  | i, (j, x) :: r => match Nat.beq i j with
    | false => none
    | true => match ev ρ x with
      | none => none
      | some v => match evp ρ (i + 1) r with
        | none => none
        | some vs => some (v :: vs)
theorem Agr.evp {ρ : Env} {η : Operand → Value} (h : Agr ρ η) : ∀ {i : Nat} {xs : List (Nat × Operand)} {vs : List Value}, Fw.evp ρ i xs = some vs → xs.map (fun (p : Nat × Operand) => (p.1, η p.2)) = (vs.zipIdx i).map fun p => (p.2, p.1)
  | i, [], vs, e => by simp [Fw.evp] at e; simp [e]
  | i, (j, x) :: r, vs, e => by
    simp only [Fw.evp] at e
    cases hj : Nat.beq i j with
    | false => rw [hj] at e; simp at e
    | true =>
      rw [hj] at e
      have hij : i = j := Nat.eq_of_beq_eq_true hj
      subst hij
      cases hv : Fw.ev ρ x with
      | none => rw [hv] at e; simp at e
      | some v =>
        rw [hv] at e
        cases hr : Fw.evp ρ (i + 1) r with
        | none => simp only [hr] at e; simp at e
        | some us =>
          simp only [hr] at e
          simp at e
          subst e
          simp only [List.map_cons, h.ev hv, h.evp hr, List.zipIdx_cons]
theorem fill_all (w : Nat) : ∀ (vs : List Value) (k : Nat) (cells : Array Value), (∀ v ∈ vs, v.cells.size = w) → (k + vs.length) * w = cells.size →
    ∃ out : Array Value, Instr.fill (fun i => some (i * w, w)) cells ((vs.zipIdx k).map fun p => (p.2, p.1)) = some out ∧ out.toList = cells.toList.take (k * w) ++ (vs.map fun v => v.cells.toList).flatten
  | [], k, cells, _, hl => ⟨cells, rfl, by simp at hl; simp; rw [List.take_of_length_le (by simp; omega)]⟩
  | v :: vs, k, cells, hw, hl => by
    have hv : v.cells.size = w := hw v (by simp)
    have hmul : (k + 1) * w = k * w + w := by rw [Nat.add_mul, Nat.one_mul]
    have hl' : k * w + w ≤ cells.size := by
      rw [← hl, ← hmul]; exact Nat.mul_le_mul_right _ (by simp only [List.length_cons]; omega)
    let c2 := v.cells.zipIdx.foldl (fun cs (x : Value × Nat) => cs.setIfInBounds (k * w + x.2) x.1) cells
    have hc2 : c2.toList = cells.toList.take (k * w) ++ v.cells.toList ++ cells.toList.drop (k * w + w) := by
      have := foldl_put (k * w) v.cells.toList 0 cells (by simpa [hv] using hl')
      simp only [Nat.add_zero, Array.length_toList, hv] at this
      rw [← this]
      show (v.cells.zipIdx.foldl _ cells).toList = _
      rw [← Array.foldl_toList, Array.toList_zipIdx]
    have hsz : c2.size = cells.size := by
      have := congrArg List.length hc2
      simp only [Array.length_toList, List.length_append, List.length_take, List.length_drop, hv] at this
      omega
    obtain ⟨out, h1, h2⟩ := fill_all w vs (k + 1) c2 (fun u hu => hw u (by simp [hu])) (by rw [hsz, ← hl]; congr 1; simp only [List.length_cons]; omega)
    refine ⟨out, ?_, ?_⟩
    · simp only [List.zipIdx_cons, List.map_cons, Instr.fill]
      rw [if_neg (by intro h; simp only [Bool.or_eq_true, decide_eq_true_eq] at h; rcases h with h | h; exact h hv; rw [hv] at h; exact absurd h (Nat.not_lt.2 hl'))]
      exact h1
    · have hl2 : (cells.toList.take (k * w) ++ v.cells.toList).length = k * w + w := by
        rw [List.length_append, List.length_take, Array.length_toList, Array.length_toList, hv, Nat.min_eq_left (by omega)]
      rw [h2, hc2, hmul, List.take_append_of_le_length (Nat.le_of_eq hl2.symm), List.take_of_length_le (Nat.le_of_eq hl2)]
      simp
def sliceT (P : Program) (t e : TypeId) (w : Nat) (z : Value) : Prop := P.underlying t = some (.slice e) ∧ sizeT P e w = true ∧ zeroT P e = some z ∧ z.cells.size = w ∧ 0 < w
section
variable {P : Program} {n : Nat} {Df : Md} {ops : Array Oper} {Q : Post} {rest : List Oper} {ρ : Env} {s : St}
variable {d : Nat} {ty : TypeId} {pos : String} {aft : Array Edge} {x y : Operand} {tx tyy : TypeId}
theorem run_buildSlice {P : Program} {w0 : World} {t e w m : Nat} {z : Value} {vs : List Value} (hT : sliceT P t e w z) (hm : vs.length = m) (hw : ∀ v ∈ vs, v.cells.size = w) (hs : m * w ≤ 16777216) :
    (Instr.buildSlice t m ((vs.zipIdx 0).map fun p => (p.2, p.1)).toArray).run P w0 =
      .ok (.slice (some ⟨w0.heap.size, 0, none⟩) m m) (w0.alloc (.cells ((vs.map fun v => v.cells.toList).flatten).toArray e)) := by
  obtain ⟨h1, h2, h3, h4, h5⟩ := hT
  have hns : ¬ (2 ^ 24 < m * w) := by omega
  obtain ⟨out, o1, o2⟩ := fill_all w vs 0 ((Array.range (m * w)).map (z.cells[· % z.cells.size]!)) hw (by simp [hm])
  simp only [Nat.zero_mul, List.take_zero, List.nil_append] at o2
  have ho : out = ((vs.map fun v => v.cells.toList).flatten).toArray := by rw [← o2]
  by_cases hz : m * w = 0
  · have hm0 : m = 0 := by
      rcases Nat.mul_eq_zero.1 hz with h | h
      · exact h
      · omega
    subst hm0
    have hv : vs = [] := List.eq_nil_of_length_eq_zero hm
    subst hv
    simp [Instr.buildSlice, run_underlying h1, run_sizeOf h2, Instr.fill, newRow, Array.range_zero']
  · subst ho
    simp [Instr.buildSlice, run_underlying h1, run_sizeOf h2, hns, hz, run_zeroValue h3, newRow]
    simp [o1]
end
end Go.Fw

set_option linter.unusedSimpArgs false
set_option linter.unusedVariables false
namespace Go.Fw
def HasLen (v : Value) (m : Nat) : Prop := ∃ a c, v = .slice a m c
theorem SL.hasLen {s : St} {l : Lab} {v : Value} {w : Nat} {ds : List D} (h : SL s l v w ds) : HasLen v ds.length := by
  obtain ⟨a, c, e, _⟩ := h.val; exact ⟨a, c, e⟩
def Elt (w : Nat) (v : Value) (i : Nat) (p : Value) : Prop := ∃ g len cap, v = .slice (some ⟨g, 0, none⟩) len cap ∧ p = .pointer (some ⟨g, i * w, none⟩)
section
variable {P : Program} {n : Nat} {Df : Md} {ops : Array Oper} {Q : Post} {rest : List Oper} {ρ : Env} {s : St}
variable {d : Nat} {ty : TypeId} {pos : String} {aft : Array Edge} {x y : Operand} {tx tyy : TypeId}
theorem jCj {m : Nat} {v : Value} {e : TypeId} {w : World} (hT : P.underlying tx = some (.slice e)) (hx : ev ρ x = some v) (h : HasLen v m) (hd : Nat.blt d n = true)
    (hK : KL P n Df ops Q rest ((d, .int .i64 m) :: ρ) w) :
    KL P n Df ops Q (⟨some d, .call { callee := .builtin .len, args := [x].toArray, argTypes := [tx].toArray }, ty, pos, aft, none⟩ :: rest) ρ w := by
  obtain ⟨a, c, rfl⟩ := h
  exact .val rfl rfl hd (fun η ha => by simp [execOp, resolve, invoke, builtin, ha.ev hx, Builtin.len_, run_underlying hT, goInt]) hK
theorem run_indexAt_slice {P : Program} {w0 : World} {t e w : Nat} {b off len cap : Nat} {k : IntKind} {p : Int} (hT : P.underlying t = some (.slice e)) (hs : sizeT P e w = true) (h0 : 0 ≤ p) (h1 : p < len) :
    (Instr.indexAt t (.slice (some ⟨b, off, none⟩) len cap) (.int k p)).run P w0 = .ok (.pointer (some ⟨b, off + p.toNat * w, none⟩)) w0 := by
  have ha : (⟨b, off, none⟩ : Addr).add (p.toNat * w) = ⟨b, off + p.toNat * w, none⟩ := by unfold Addr.add; split <;> simp_all
  simp [Instr.indexAt, asIntOf, run_underlying hT, h0, h1, run_sizeOf hs, ha]
theorem SL.at {s : St} {l : Lab} {v : Value} {w : Nat} {ds : List D} (h : SL s l v w ds) {i : Nat} {dd : D} (hd : ds[i]? = some dd) :
    ∃ b off cap, v = .slice (some ⟨b, off, none⟩) ds.length cap ∧ At s l (.pointer (some ⟨b, off + i * w, none⟩)) dd := by
  obtain ⟨hi, rfl⟩ := List.getElem?_eq_some_iff.1 hd
  rcases h with ⟨rfl, _⟩ | ⟨b, off, cap, cs, e, hb, hg, hcap, hw, hc, h⟩
  · simp at hi
  · exact ⟨b, off, cap, e, b, _, cs i, rfl, hb, hg, fun j hj => hc i hi j (by rwa [hw i hi] at hj), h i hi⟩
theorem jCd {l : Lab} {v : Value} {w : Nat} {ds : List D} {dd : D} {e : TypeId} {k : IntKind} {p : Int} (hT : P.underlying tx = some (.slice e)) (hs : sizeT P e w = true) (hx : ev ρ x = some v) (hy : ev ρ y = some (.int k p)) (h : SL s l v w ds)
    (h0 : 0 ≤ p) (hdd : ds[p.toNat]? = some dd) (hd : Nat.blt d n = true) (hK : ∀ q, At s l q dd → KL P n Df ops Q rest ((d, q) :: ρ) s.w) :
    KL P n Df ops Q (⟨some d, .indexAddr tx x y, ty, pos, aft, none⟩ :: rest) ρ s.w := by
  obtain ⟨b, off, cap, rfl, ha⟩ := h.at hdd
  have hlt : p.toNat < ds.length := (List.getElem?_eq_some_iff.1 hdd).1
  exact .val rfl rfl hd (fun η hη => by simp [execOp, hη.ev hx, hη.ev hy, run_indexAt_slice hT hs h0 (show p < (ds.length : Int) by omega)]) (hK _ ha)
theorem jBe {l : Lab} {v : Value} {w : Nat} {ds : List D} {dd : D} {e e' : TypeId} {k : IntKind} {p : Int} (hT : P.underlying tx = some (.slice e)) (hs : sizeT P e w = true) (hx : ev ρ x = some v) (hy : ev ρ y = some (.int k p)) (h : Own s l e' w v ds)
    (h0 : 0 ≤ p) (hdd : ds[p.toNat]? = some dd) (hd : Nat.blt d n = true) (hK : ∀ q, At s l q dd → Elt w v p.toNat q → KL P n Df ops Q rest ((d, q) :: ρ) s.w) :
    KL P n Df ops Q (⟨some d, .indexAddr tx x y, ty, pos, aft, none⟩ :: rest) ρ s.w := by
  have hsl := h.sl
  obtain ⟨b, off, cap, e1, ha⟩ := hsl.at hdd
  have hlt : p.toNat < ds.length := (List.getElem?_eq_some_iff.1 hdd).1
  obtain ⟨h0', h1', xs, ho, hg, hr⟩ := h
  have hoff : off = 0 := by
    rcases ho.2 with ⟨rfl, hn⟩ | ⟨g, cap', cur, rfl, _⟩
    · simp at e1
    · injection e1 with e1 _; injection e1 with e1; injection e1 with _ e2; exact e2.symm
  subst hoff
  subst e1
  refine .val rfl rfl hd (v := .pointer (some ⟨b, 0 + p.toNat * w, none⟩)) (fun η hη => ?_) (hK _ ha ⟨b, _, _, rfl, by rw [Nat.zero_add]⟩)
  simp only [execOp, hη.ev hx, hη.ev hy, Sem.run_bind, run_indexAt_slice hT hs h0 (show p < (ds.length : Int) by omega)]
  rfl
theorem SL.cut {s : St} {l : Lab} {b off cap : Nat} {w : Nat} {ds : List D} (h : SL s l (.slice (some ⟨b, off, none⟩) ds.length cap) w ds) {i j : Nat} (hij : i ≤ j) (hj : j ≤ ds.length) :
    SL s l (.slice (if cap = i then some ⟨b, off, none⟩ else some (Addr.add ⟨b, off, none⟩ (i * w))) (j - i) (cap - i)) w ((ds.drop i).take (j - i)) := by
  have hl : ((ds.drop i).take (j - i)).length = j - i := by simp; omega
  rcases h with ⟨rfl, a, c, e, _⟩ | ⟨b', off', cap', cs, e, hb, hg, hcap, hw, hc, hr⟩
  · refine .inl ⟨by simp, ?_⟩
    have : j - i = 0 := by simp at hj; omega
    rw [this]
    refine ⟨_, _, rfl, ?_⟩
    split <;> simp
  · injection e with e1 e2 e3
    injection e1 with e1
    injection e1 with e1 e4
    subst e1 e3 e4
    by_cases hz : j - i = 0
    · refine .inl ⟨List.eq_nil_of_length_eq_zero (by rw [hl]; exact hz), ?_⟩
      rw [hz]
      refine ⟨_, _, rfl, ?_⟩
      split <;> simp
    · have hne : ¬ cap = i := by omega
      have ha : (⟨b, off, none⟩ : Addr).add (i * w) = ⟨b, off + i * w, none⟩ := by unfold Addr.add; split <;> simp_all
      rw [if_neg hne, ha]
      refine .inr ⟨b, off + i * w, cap - i, fun k => cs (i + k), by rw [hl], hb, hg, by rw [hl]; omega, fun k hk => hw _ (by rw [hl] at hk; omega), ?_, ?_⟩
      · intro k hk q hq
        rw [hl] at hk
        have := hc (i + k) (by omega) q hq
        rw [Nat.add_mul, ← Nat.add_assoc] at this
        exact this
      · intro k hk
        have hk' : k < j - i := by rwa [hl] at hk
        have := hr (i + k) (by omega)
        simpa using this
theorem k_slice_sl {l : Lab} {v : Value} {w : Nat} {ds : List D} {e : TypeId} {lo hi : Option Operand} {i j : Nat} (hT : P.underlying tx = some (.slice e)) (hs : sizeT P e w = true) (hx : ev ρ x = some v) (h : SL s l v w ds)
    (hlo : match lo with | none => i = 0 | some z => ∃ k, ev ρ z = some (.int k i)) (hhi : match hi with | none => j = ds.length | some z => ∃ k, ev ρ z = some (.int k j))
    (hij : i ≤ j) (hj : j ≤ ds.length) (hd : Nat.blt d n = true)
    (hK : ∀ v', SL s l v' w ((ds.drop i).take (j - i)) → KL P n Df ops Q rest ((d, v') :: ρ) s.w) :
    KL P n Df ops Q (⟨some d, .slice tx x lo hi none, ty, pos, aft, none⟩ :: rest) ρ s.w := by
  obtain ⟨a, cap, rfl, ha⟩ := h.val
  have hcap : ds.length ≤ cap := by
    rcases h with ⟨rfl, _⟩ | ⟨b', off', cap', cs, e, hb, hg, hcap, _⟩
    · simp
    · injection e with e1 e2 e3; subst e3; exact hcap
  have hrun : ∀ η : Operand → Value, Agr ρ η → (execOp η ⟨some d, .slice tx x lo hi none, ty, pos, aft, none⟩).run P s.w = .ok (.value (.slice (if cap = i then a else a.map (·.add (i * w))) (j - i) (cap - i))) s.w := by
    intro η hη
    cases lo with
    | none =>
      simp only at hlo
      subst hlo
      cases hi with
      | none => simp only at hhi; subst hhi; simp [execOp, hη.ev hx, Instr.sliceAt, Instr.slice, Instr.sliceBounds, run_underlying hT, run_sizeOf hs]
      | some z => obtain ⟨k, hz⟩ := hhi; simp [execOp, hη.ev hx, hη.ev hz, Instr.sliceAt, Instr.slice, Instr.sliceBounds, Instr.sliceBound, asIntOf, run_underlying hT, run_sizeOf hs, Nat.le_trans hj hcap]
    | some yy =>
      obtain ⟨k, hy⟩ := hlo
      cases hi with
      | none => simp only at hhi; subst hhi; simp [execOp, hη.ev hx, hη.ev hy, Instr.sliceAt, Instr.slice, Instr.sliceBounds, Instr.sliceBound, asIntOf, run_underlying hT, run_sizeOf hs, hij]
      | some z => obtain ⟨k', hz⟩ := hhi; simp [execOp, hη.ev hx, hη.ev hy, hη.ev hz, Instr.sliceAt, Instr.slice, Instr.sliceBounds, Instr.sliceBound, asIntOf, run_underlying hT, run_sizeOf hs, hij, Nat.le_trans hj hcap]
  refine .val rfl rfl hd hrun (hK _ ?_)
  cases a with
  | none =>
    obtain ⟨hl0, hc0⟩ := ha rfl
    have hi0 : i = 0 := by omega
    have hj0 : j = 0 := by omega
    subst hi0 hj0 hc0
    exact .inl ⟨by simp, none, 0, by simp, fun _ => rfl⟩
  | some ad =>
    have hsp : ad.spot = none ∨ ds.length = 0 := by
      rcases h with ⟨rfl, _⟩ | ⟨b', off', cap', cs, e, _⟩
      · exact .inr rfl
      · injection e with e1 e2 e3; injection e1 with e1; subst e1; exact .inl rfl
    by_cases hl0 : ds.length = 0
    · have hds : ds = [] := List.eq_nil_of_length_eq_zero hl0
      subst hds
      refine .inl ⟨by simp, ?_⟩
      have : j - i = 0 := by simp at hj; omega
      rw [this]
      refine ⟨_, _, rfl, ?_⟩
      split <;> simp
    · have hsp' := hsp.resolve_right hl0
      obtain ⟨b, off, sp⟩ := ad
      simp only at hsp'
      subst hsp'
      have := h.cut hij hj
      simpa using this
end
end Go.Fw

set_option linter.unusedSimpArgs false
set_option linter.unusedVariables false
namespace Go.Fw
theorem SL.cells1 {s : St} {l : Lab} {v : Value} {w : Nat} {ds : List D} (h : SL s l v w ds) : v.cells.toList = [v] := by
  obtain ⟨a, c, rfl, _⟩ := h.val; rfl
theorem SL.one1 {s : St} {l : Lab} {v : Value} {w : Nat} {ds : List D} (h : SL s l v w ds) : v.oneCell' = true := by
  obtain ⟨a, c, rfl, _⟩ := h.val; rfl
def fieldV (P : Program) (t f off : Nat) : Bool := match P.underlying t with
  | some (.struct fs) => (match fs[f]? with | some fd => Nat.beq fd.offset off && oneT P fd.type | none => false)
  | _ => false
def fieldVA (P : Program) (t f off m : Nat) : Bool := match P.underlying t with
  | some (.struct fs) => (match fs[f]? with | some fd => Nat.beq fd.offset off && aggT P fd.type m | none => false)
  | _ => false
def placesT (P : Program) (t : Nat) (ps : List (Nat × Nat)) : Prop :=
  ∃ fs : Array Field, P.underlying t = some (.struct fs) ∧ ∀ w : World, (fs.mapM (m := Sem) fun f => Prod.mk f.offset <$> sizeOf f.type).run P w = .ok ps.toArray w
section
variable {P : Program} {n : Nat} {Df : Md} {ops : Array Oper} {Q : Post} {rest : List Oper} {ρ : Env} {s : St} {w0 : World}
variable {d : Nat} {ty : TypeId} {pos : String} {aft : Array Edge} {x y : Operand} {tx tyy : TypeId}
def evq (ρ : Env) : List (Nat × Operand) → Option (List (Nat × Value))
  | [] => some []
  | (j, x) :: r => match ev ρ x with
    | none => none
    | some v => match evq ρ r with
      | none => none
      | some vs => some ((j, v) :: vs)
theorem Agr.evq {η : Operand → Value} (h : Agr ρ η) : ∀ {xs : List (Nat × Operand)} {vs : List (Nat × Value)}, Fw.evq ρ xs = some vs → xs.map (fun (p : Nat × Operand) => (p.1, η p.2)) = vs
  | [], vs, e => by simp [Fw.evq] at e; simp [e]
  | (j, x) :: r, vs, e => by
    simp only [Fw.evq] at e
    cases hv : Fw.ev ρ x with
    | none => rw [hv] at e; simp at e
    | some v =>
      rw [hv] at e
      cases hr : Fw.evq ρ r with
      | none => simp only [hr] at e; simp at e
      | some us => simp only [hr] at e; simp at e; subst e; simp only [List.map_cons, h.ev hv, h.evq hr]
def Parts : List (Nat × Value) → List (Nat × List Value) → Prop
  | [], [] => True
  | (i, v) :: r, (j, cs) :: q => i = j ∧ v.cells.toList = cs ∧ Parts r q
  | _, _ => False
def fillL (ps : List (Nat × Nat)) : List (Nat × List Value) → List Value → Option (List Value)
  | [], z => some z
  | (i, cs) :: r, z => match ps[i]? with
    | none => none
    | some (off, m) => bif Nat.beq cs.length m && Nat.ble (off + m) z.length then fillL ps r (z.take off ++ cs ++ z.drop (off + m)) else none
theorem fill_L {places : Nat → Option (Nat × Nat)} {ps : List (Nat × Nat)} (hp : ∀ i p, ps[i]? = some p → places i = some p) : ∀ {vs : List (Nat × Value)} {css : List (Nat × List Value)} {z : Array Value} {out : List Value}, Parts vs css → fillL ps css z.toList = some out →
    Instr.fill places z vs = some out.toArray
  | [], [], z, out, _, h => by simp [fillL] at h; simp [Instr.fill, ← h]
  | (i, v) :: r, (j, cs) :: q, z, out, ⟨hij, e, hr⟩, h => by
    subst hij
    simp only [fillL] at h
    cases hps : ps[i]? with
    | none => rw [hps] at h; simp at h
    | some p =>
      obtain ⟨off, m⟩ := p
      rw [hps] at h
      simp only at h
      cases hb : (Nat.beq cs.length m && Nat.ble (off + m) z.toList.length) with
      | false => rw [hb] at h; simp at h
      | true =>
        rw [hb] at h
        simp only [cond_true] at h
        simp only [Bool.and_eq_true, Nat.beq_eq, Nat.ble_eq, Array.length_toList] at hb
        obtain ⟨h1, h2⟩ := hb
        have hsz : v.cells.size = m := by rw [← h1, ← e]; simp
        have hf := foldl_put off v.cells.toList 0 z (by simp [hsz]; omega)
        rw [e] at hf
        simp only [Nat.add_zero, h1] at hf
        have hz : (v.cells.zipIdx.foldl (fun cs (x : Value × Nat) => cs.setIfInBounds (off + x.2) x.1) z).toList = z.toList.take off ++ cs ++ z.toList.drop (off + m) := by
          rw [← hf, ← e, ← Array.toList_zipIdx, Array.foldl_toList]
        have := fill_L (z := v.cells.zipIdx.foldl (fun cs (x : Value × Nat) => cs.setIfInBounds (off + x.2) x.1) z) hp hr (by rw [hz]; exact h)
        simp only [Instr.fill, hp i _ hps]
        rw [if_neg (by simp only [Bool.or_eq_true, decide_eq_true_eq]; rintro (h | h); exact h hsz; omega)]
        exact this
  | [], _ :: _, _, _, h, _ => h.elim
  | _ :: _, [], _, _, h, _ => h.elim
theorem jCa {t : Nat} {z : Value} {ps : List (Nat × Nat)} {xs : List (Nat × Operand)} {vs : List (Nat × Value)} {css : List (Nat × List Value)} {out : List Value} (hp : placesT P t ps) (hz : zeroT P t = some z) (hx : evq ρ xs = some vs) (hc : Parts vs css) (ho : fillL ps css z.cells.toList = some out) (hd : Nat.blt d n = true)
    (hK : KL P n Df ops Q rest ((d, .agg out.toArray) :: ρ) w0) : KL P n Df ops Q (⟨some d, .build t xs.toArray, ty, pos, aft, none⟩ :: rest) ρ w0 := by
  refine .val rfl rfl hd (fun η ha => ?_) hK
  obtain ⟨fs, hu, hm⟩ := hp
  have hf := fill_L (places := fun i => ps[i]?) (ps := ps) (fun i p h => h) hc ho
  have hev := ha.evq hx
  have hpa : (xs.toArray.map fun (p : Nat × Operand) => (p.1, η p.2)) = vs.toArray := by rw [← hev]; simp
  simp only [execOp]
  rw [show (Array.map (fun x => match x with | (i, x) => (i, η x)) xs.toArray) = vs.toArray from hpa]
  simp [Instr.build, run_zeroValue hz, run_underlying hu, hm w0, hf]
def arrT (P : Program) (t e m w : Nat) : Prop := P.underlying t = some (.array m e) ∧ sizeT P e w = true
theorem jCh {t e m w b off : Nat} {k : IntKind} {p : Int} (hT : arrT P t e m w) (hx : ev ρ x = some (.pointer (some ⟨b, off, none⟩))) (hy : ev ρ y = some (.int k p)) (h0 : 0 ≤ p) (h1 : p < m) (hd : Nat.blt d n = true)
    (hK : KL P n Df ops Q rest ((d, .pointer (some ⟨b, off + p.toNat * w, none⟩)) :: ρ) w0) : KL P n Df ops Q (⟨some d, .indexAddr t x y, ty, pos, aft, none⟩ :: rest) ρ w0 := by
  obtain ⟨hu, hs⟩ := hT
  refine .val rfl rfl hd (fun η ha => ?_) hK
  have hadd : (⟨b, off, none⟩ : Addr).add (p.toNat * w) = ⟨b, off + p.toNat * w, none⟩ := by unfold Addr.add; split <;> simp_all
  simp [execOp, ha.ev hx, ha.ev hy, Instr.indexAt, asIntOf, run_underlying hu, Instr.sureAddr, h0, h1, run_sizeOf hs, hadd]
theorem k_index_arr {t e m : Nat} {cs : List Value} {k : IntKind} {p : Int} {v : Value} (hT : arrT P t e m 1) (hO : oneT P e = true) (hx : ev ρ x = some (.agg cs.toArray)) (hy : ev ρ y = some (.int k p)) (h0 : 0 ≤ p) (h1 : p < m) (hv : cs[p.toNat]? = some v) (hd : Nat.blt d n = true)
    (hK : KL P n Df ops Q rest ((d, v) :: ρ) w0) : KL P n Df ops Q (⟨some d, .index t x y, ty, pos, aft, none⟩ :: rest) ρ w0 := by
  obtain ⟨hu, hs⟩ := hT
  refine .val rfl rfl hd (fun η ha => ?_) hK
  simp [execOp, ha.ev hx, ha.ev hy, Instr.index, asIntOf, run_underlying hu, h0, h1, run_sizeOf hs, part, run_isAgg_one hO, hv]
end
end Go.Fw

set_option linter.unusedSimpArgs false
set_option linter.unusedVariables false
namespace Go.Fw
section
variable {P : Program} {n : Nat} {Df : Md} {ops : Array Oper} {Q : Post} {rest : List Oper} {ρ : Env} {s : St} {w0 : World}
variable {d : Nat} {ty : TypeId} {pos : String} {aft : Array Edge} {x y : Operand} {tx tyy : TypeId}
theorem SL.bytes {s : St} {l : Lab} {v : Value} {m : List UInt8} (h : SL s l v 1 (Bs m)) :
    (m = [] ∧ ∃ a cap, v = .slice a 0 cap) ∨ ∃ b off cap, v = .slice (some ⟨b, off, none⟩) m.length cap ∧ ∀ i, i < m.length → s.w.cell? ⟨b, off + i, none⟩ = some (.int .u8 (m.getD i 0).toNat) := by
  rcases h with ⟨e, a, cap, rfl, _⟩ | ⟨b, off, cap, cs, rfl, hb, hg, hcap, hw, hc, hr⟩
  · exact .inl ⟨by simpa using e, a, cap, rfl⟩
  · refine .inr ⟨b, off, cap, by simp, fun i hi => ?_⟩
    have hi' : i < (Bs m).length := by simpa using hi
    have h1 := hc i hi' 0 (by omega)
    have h2 := (hr i hi')
    have e : (Bs m)[i] = .val (.int .u8 (m.getD i 0).toNat) := by simp [List.getD, hi]
    rw [e] at h2
    have h3 := h2.val_inv
    rw [Nat.mul_one, Nat.add_zero, h3] at h1
    simpa using h1
theorem k_bts {l : Lab} {e : TypeId} {v : Value} {m : List UInt8} (hT : P.underlying tx = some (.slice e)) (he : P.underlying e = some (.int .u8)) (hS : P.underlying tyy = some .string) (hx : ev ρ x = some v) (h : SL s l v 1 (Bs m)) (hd : Nat.blt d n = true)
    (hK : KL P n Df ops Q rest ((d, S m) :: ρ) s.w) : KL P n Df ops Q (⟨some d, .convert tx tyy x, ty, pos, aft, none⟩ :: rest) ρ s.w := by
  refine .val rfl rfl hd (fun η ha => ?_) hK
  rcases h.bytes with ⟨rfl, a, cap, rfl⟩ | ⟨b, off, cap, rfl, hc⟩
  · cases a with
    | none =>
      simp [execOp, ha.ev hx, run_convert_bytes_nil s.w tx e hT he 0 cap tyy hS]
      rfl
    | some a =>
      have := run_convert_bytes_string s.w tx tyy e (some a) 0 cap hT he hS
      simp [execOp, ha.ev hx, this, Conv.bytesToString, loadCells, loadCellsFrom]
      rfl
  · have hlen : (m.map fun b => (b.toNat : Int)).length = m.length := by simp
    have := run_convert_bytes_arg (P := P) s.w tx e hT he b off m.length cap (m.map fun b => (b.toNat : Int)) hlen (fun i hi => by
      rw [hc i hi]
      simp [List.getD, hi]) tyy hS
    have hs : strOfNums (m.map fun b => (b.toNat : Int)) = ⟨m.toArray⟩ := by
      simp only [strOfNums, List.map_map]
      congr 2
      have : ((fun n : Int => UInt8.ofNat n.toNat) ∘ fun b : UInt8 => (b.toNat : Int)) = id := by
        funext b; simp
      rw [this]; simp
    rw [hs] at this
    simp [execOp, ha.ev hx, this]
theorem k_stb {e : TypeId} {m : List UInt8} {u : TypeDesc} (hT : P.underlying tx = some u) (hD : P.underlying tyy = some (.slice e)) (he : P.underlying e = some (.int .u8)) (hx : ev ρ x = some (S m)) (hd : Nat.blt d n = true)
    (hK : ∀ s' v, Step K0 s s' → R s' v (.sl 1 (Bs m)) → KL P n Df ops Q rest ((d, v) :: ρ) s'.w) :
    KL P n Df ops Q (⟨some d, .convert tx tyy x, ty, pos, aft, none⟩ :: rest) ρ s.w := by
  have hl0 : L0.o ≤ s.n + 1 := Nat.zero_le _
  have st : Step K0 s (s.to (Lib.bytesWorld s.w e ⟨m.toArray⟩) L0 hl0) :=
    St.to_step rfl rfl rfl (by rw [Lib.bytesWorld_size]; exact Nat.le_succ _) (fun b hb _ => Lib.bytesWorld_at_old _ _ _ _ hb) (fun _ h => h)
  refine .val rfl rfl hd (v := .slice (some ⟨s.n, 0, none⟩) m.length (grownCap s.w m.length 0 e)) (w' := Lib.bytesWorld s.w e ⟨m.toArray⟩) (fun η ha => ?_) (hK (s.to _ L0 hl0) _ st (R.of_SL ?_))
  · have := Lib.run_convert_string_bytes (P := P) s.w tx tyy e ⟨m.toArray⟩ hT hD he
    rw [S_size] at this
    simp [execOp, ha.ev hx, this]
  · have hge := grownCap_ge s.w m.length 0 e
    refine .inr ⟨s.n, 0, grownCap s.w m.length 0 e, fun i => [.int .u8 (m.getD i 0).toNat], by simp, ?_, St.to_g_new (Nat.le_refl _), by simpa using hge, fun i hi => rfl, ?_, ?_⟩
    · show s.n < (Lib.bytesWorld s.w e ⟨m.toArray⟩).heap.size
      rw [Lib.bytesWorld_size]; exact Nat.lt_succ_self _
    · intro i hi j hj
      have hi' : i < m.length := by simpa using hi
      have hj0 : j = 0 := by omega
      subst hj0
      have := Lib.bytesWorld_cell s.w e ⟨m.toArray⟩ i (by rw [S_size]; exact hi')
      simp only [Nat.zero_add, Nat.mul_one, Nat.add_zero]
      exact this.trans (by simp)
    · intro i hi
      have hi' : i < m.length := by simpa using hi
      have e : (Bs m)[i] = .val (.int .u8 (m.getD i 0).toNat) := by simp [List.getD, hi']
      rw [e]
      exact .val _ rfl
theorem splice_eq (C vs : List Value) (M w N o : Nat) (h1 : M + w ≤ N) (h2 : N ≤ C.length) (h3 : o + vs.length ≤ w) :
    (C.take N).take M ++ ((((C.take N).drop M).take w).take o ++ vs ++ (((C.take N).drop M).take w).drop (o + vs.length)) ++ (C.take N).drop (M + w) = (C.take (M + o) ++ vs ++ C.drop (M + o + vs.length)).take N := by
  obtain ⟨A, C1, rfl, hA⟩ : ∃ A C1, C = A ++ C1 ∧ A.length = M := ⟨C.take M, C.drop M, (List.take_append_drop M C).symm, by simp; omega⟩
  subst hA
  obtain ⟨B, C2, rfl, hB⟩ : ∃ A C, C1 = A ++ C ∧ A.length = o := ⟨C1.take o, C1.drop o, (List.take_append_drop o C1).symm, by simp at h2 ⊢; omega⟩
  subst hB
  obtain ⟨V, C3, rfl, hV⟩ : ∃ A C, C2 = A ++ C ∧ A.length = vs.length := ⟨C2.take vs.length, C2.drop vs.length, (List.take_append_drop _ C2).symm, by simp at h2 ⊢; omega⟩
  obtain ⟨E, C4, rfl, hE⟩ : ∃ A C, C3 = A ++ C ∧ A.length = w - (B.length + vs.length) := ⟨C3.take (w - (B.length + vs.length)), C3.drop _, (List.take_append_drop _ C3).symm, by simp at h2 ⊢; omega⟩
  obtain ⟨F, C5, rfl, hF⟩ : ∃ X C, C4 = X ++ C ∧ X.length = N - (A.length + w) := ⟨C4.take (N - (A.length + w)), C4.drop _, (List.take_append_drop _ C4).symm, by simp at h2 ⊢; omega⟩
  have e1 : (A ++ (B ++ (V ++ (E ++ (F ++ C5))))).take N = A ++ (B ++ (V ++ (E ++ F))) := by
    rw [show A ++ (B ++ (V ++ (E ++ (F ++ C5)))) = (A ++ (B ++ (V ++ (E ++ F)))) ++ C5 by simp]
    exact List.take_left' (by simp; omega)
  rw [e1]
  have e2 : (A ++ (B ++ (V ++ (E ++ F)))).take A.length = A := List.take_left
  have e3 : (A ++ (B ++ (V ++ (E ++ F)))).drop A.length = B ++ (V ++ (E ++ F)) := List.drop_left
  have e4 : (B ++ (V ++ (E ++ F))).take w = B ++ (V ++ E) := by
    rw [show B ++ (V ++ (E ++ F)) = (B ++ (V ++ E)) ++ F by simp]
    exact List.take_left' (by simp; omega)
  have e5 : (B ++ (V ++ E)).take B.length = B := List.take_left
  have e6 : (B ++ (V ++ E)).drop (B.length + vs.length) = E := by
    rw [show B ++ (V ++ E) = (B ++ V) ++ E by simp]
    exact List.drop_left' (by simp; omega)
  have e7 : (A ++ (B ++ (V ++ (E ++ F)))).drop (A.length + w) = F := by
    rw [show A ++ (B ++ (V ++ (E ++ F))) = (A ++ (B ++ (V ++ E))) ++ F by simp]
    exact List.drop_left' (by simp; omega)
  have e8 : (A ++ (B ++ (V ++ (E ++ (F ++ C5))))).take (A.length + B.length) = A ++ B := by
    rw [show A ++ (B ++ (V ++ (E ++ (F ++ C5)))) = (A ++ B) ++ (V ++ (E ++ (F ++ C5))) by simp]
    exact List.take_left' (by simp)
  have e9 : (A ++ (B ++ (V ++ (E ++ (F ++ C5))))).drop (A.length + B.length + vs.length) = E ++ (F ++ C5) := by
    rw [show A ++ (B ++ (V ++ (E ++ (F ++ C5)))) = (A ++ (B ++ V)) ++ (E ++ (F ++ C5)) by simp]
    exact List.drop_left' (by simp; omega)
  rw [e2, e3, e4, e5, e6, e7, e8, e9]
  rw [show A ++ B ++ vs ++ (E ++ (F ++ C5)) = (A ++ (B ++ vs ++ E) ++ F) ++ C5 by simp]
  exact (List.take_left' (by simp; omega)).symm
theorem RCs.madeCells {s : St} {z : Value} {dz : D} {w c : Nat} (hz : RC s z.cells.toList dz) (hw : dz.wd = w) (h0 : 0 < w) : RCs s w (madeCells z.cells (c * w)).toList (List.replicate c dz) := by
  have hlen : z.cells.size = w := by have := hz.len; rw [hw] at this; simpa using this
  refine ⟨by simp [Go.madeCells], fun i hi => ?_⟩
  have hi' : i < c := by simpa using hi
  have hle : i * w + w ≤ c * w := by
    calc i * w + w = (i + 1) * w := by rw [Nat.add_mul, Nat.one_mul]
      _ ≤ c * w := Nat.mul_le_mul_right _ hi'
  have e : ((Go.madeCells z.cells (c * w)).toList.drop (i * w)).take w = z.cells.toList := by
    apply List.ext_getElem
    · simp [Go.madeCells, hlen]; omega
    · intro j h1 h2
      have hj : j < w := by simpa [hlen] using h2
      simp only [Go.madeCells, List.getElem_take, List.getElem_drop, Array.toList_map, List.getElem_map, Array.getElem_toList, Array.getElem_range]
      have hm : (i * w + j) % z.cells.size = j := by rw [hlen, Nat.mul_comm, Nat.mul_add_mod, Nat.mod_eq_of_lt hj]
      simp only [hm]
      exact getElem!_pos z.cells j (by omega)
  rw [e, List.getElem_replicate]
  exact hz
theorem Own.heap {s : St} {l : Lab} {e w : Nat} {v : Value} {ds : List D} (h : Own s l e w v ds) {g len cap : Nat} (hv : v = .slice (some ⟨g, 0, none⟩) len cap) (hlen : 0 < ds.length) :
    ∃ cur : Array Value, s.w.heap[g]? = some (.cells cur e (0, 0)) ∧ s.g g = l ∧ cur.size = cap * w ∧ ds.length ≤ cap ∧ cap ≤ maxLen ∧ RCs s w (cur.toList.take (ds.length * w)) ds ∧ len = ds.length := by
  obtain ⟨h0, h1, xs, ho, hg, hr⟩ := h
  rcases ho.2 with ⟨rfl, hn⟩ | ⟨g', cap', cur, rfl, hb, hgg, hle', hcm, hcs, ht⟩
  · omega
  · injection hv with e1 e2 e3
    injection e1 with e1
    injection e1 with e1
    subst e1 e2 e3
    exact ⟨cur, hgg, hg g' rfl, hcs, hle', hcm, by rw [ht]; exact hr, rfl⟩
theorem RCs.set {s : St} {w : Nat} {xs ys : List Value} {ds : List D} (h : RCs s w xs ds) {i : Nat} (hi : i < ds.length) {dd : D} (hy : RC s ys dd) (hl : ys.length = w) :
    RCs s w (xs.take (i * w) ++ ys ++ xs.drop (i * w + w)) (ds.set i dd) := by
  have hle : i * w + w ≤ xs.length := by
    rw [h.1]; calc i * w + w = (i + 1) * w := by rw [Nat.add_mul, Nat.one_mul]
      _ ≤ ds.length * w := Nat.mul_le_mul_right _ hi
  have hl1 : (xs.take (i * w)).length = i * w := by rw [List.length_take, Nat.min_eq_left (by omega)]
  refine ⟨?_, fun j hj => ?_⟩
  · have := h.1
    simp only [List.length_append, List.length_drop, List.length_set, hl1, hl]
    omega
  · have hj' : j < ds.length := by simpa using hj
    by_cases hji : j = i
    · subst hji
      rw [List.getElem_set_self]
      have e : ((xs.take (j * w) ++ ys ++ xs.drop (j * w + w)).drop (j * w)).take w = ys := by
        rw [List.append_assoc, List.drop_append_of_le_length (by omega), List.drop_eq_nil_of_le (by omega), List.nil_append, List.take_append_of_le_length (by omega), List.take_of_length_le (by omega)]
      rw [e]
      exact hy
    · rw [List.getElem_set_ne (fun e => hji e.symm)]
      have h2 := h.2 j hj'
      have e : ((xs.take (i * w) ++ ys ++ xs.drop (i * w + w)).drop (j * w)).take w = (xs.drop (j * w)).take w := by
        rcases Nat.lt_or_gt_of_ne hji with hlt | hgt
        · have hm : j * w + w ≤ i * w := by
            calc j * w + w = (j + 1) * w := by rw [Nat.add_mul, Nat.one_mul]
              _ ≤ i * w := Nat.mul_le_mul_right _ hlt
          rw [List.append_assoc, List.drop_append_of_le_length (by omega), List.take_append_of_le_length (by simp; omega), List.drop_take, List.take_take]
          congr 1
          omega
        · have hm : i * w + w ≤ j * w := by
            calc i * w + w = (i + 1) * w := by rw [Nat.add_mul, Nat.one_mul]
              _ ≤ j * w := Nat.mul_le_mul_right _ hgt
          rw [List.drop_append, List.drop_eq_nil_of_le (by simp [hl]; omega), List.nil_append, List.drop_drop]
          congr 2
          simp only [List.length_append, hl1, hl]
          omega
      rw [e]
      exact h2
theorem Own.store {s : St} {l : Lab} {e w : Nat} {v : Value} {ds : List D} (h : Own s l e w v ds) {g len cap i o : Nat} (hv : v = .slice (some ⟨g, 0, none⟩) len cap) (hi : i < ds.length) {vs : List Value} {dd : D} (ho : o + vs.length ≤ w)
    (hd : ∀ cs : List Value, cs.length = w → RC s cs ds[i] → RC s (cs.take o ++ vs ++ cs.drop (o + vs.length)) dd) :
    Step (KC l.o l.c) s (s.re (s.w.setCells g (i * w + o) vs)) ∧ Own (s.re (s.w.setCells g (i * w + o) vs)) l e w v (ds.set i dd) := by
  have h0 := h.1
  have hle := h.2.1
  obtain ⟨cur, hgg, hgl, hsz, hlc, hcm, hr, hlen⟩ := h.heap hv (by omega)
  have hwi : i * w + w ≤ ds.length * w := by
    calc i * w + w = (i + 1) * w := by rw [Nat.add_mul, Nat.one_mul]
      _ ≤ ds.length * w := Nat.mul_le_mul_right _ hi
  have hcw : ds.length * w ≤ cap * w := Nat.mul_le_mul_right _ hlc
  have hcl : cur.toList.length = cap * w := by rw [← hsz]; exact Array.length_toList
  obtain ⟨r1, r2, r3, r4⟩ := setCells_rest g vs (i * w + o) s.w
  have hset := heap_setCells g vs (i * w + o) s.w cur.toList e (0, 0) (by simpa using hgg) (by rw [hcl]; omega)
  have st : Step (KC l.o l.c) s (s.re (s.w.setCells g (i * w + o) vs)) := by
    refine ⟨r1, r2, r3, Nat.le_of_eq r4.symm, fun b' hb' hk => ⟨heap_setCells_ne g b' ?_ vs _ s.w, rfl⟩, fun c hc => h0 hc.1.symm⟩
    rintro rfl
    exact hk (by rw [hgl]; exact ⟨rfl, rfl⟩)
  refine ⟨st, h0, by show l.o ≤ (s.w.setCells _ _ _).heap.size + 1; rw [r4]; exact hle, _, ⟨?_, .inr ⟨g, cap, _, ?_, Nat.zero_le _, hset, by rw [List.length_set]; exact hlc, hcm, ?_, rfl⟩⟩, ?_, ?_⟩
  · have : (ds.set i dd).length = ds.length := List.length_set
    simp only [List.length_take, List.toList_toArray, List.length_append, List.length_drop, Array.length_toList, hsz, this]
    omega
  · rw [hv, hlen, List.length_set]
  · simp only [List.size_toArray, List.length_take, List.length_append, List.length_drop, Array.length_toList, hsz]
    omega
  · intro g' hg'
    rw [hv] at hg'
    simp [Value.ownBlock] at hg'
    subst hg'
    exact hgl
  · have hlt : (cur.toList.take (ds.length * w)).length = ds.length * w := by rw [List.length_take, hcl, Nat.min_eq_left hcw]
    have hcell : (((cur.toList.take (ds.length * w)).drop (i * w)).take w).length = w := by
      rw [List.length_take, List.length_drop, hlt]; omega
    have hnew := hd _ hcell (hr.2 i hi)
    have := (hr.set hi hnew (by simp only [List.length_append, List.length_take, List.length_drop, hcell]; omega)).up st
    have e2 : (cur.toList.take (ds.length * w)).take (i * w) ++ ((((cur.toList.take (ds.length * w)).drop (i * w)).take w).take o ++ vs ++ (((cur.toList.take (ds.length * w)).drop (i * w)).take w).drop (o + vs.length)) ++ (cur.toList.take (ds.length * w)).drop (i * w + w) =
        (cur.toList.take (i * w + o) ++ vs ++ cur.toList.drop (i * w + o + vs.length)).take ((ds.set i dd).length * w) := by
      rw [List.length_set]
      exact splice_eq cur.toList vs (i * w) w (ds.length * w) o hwi (by rw [hcl]; exact hcw) ho
    rw [e2] at this
    simpa using this
theorem jBn {l : Lab} {e w i : Nat} {v q u : Value} {ds : List D} {dd : D} (hT : sizeT P tx w = true) (hx : ev ρ x = some q) (hy : ev ρ y = some u) (h : Own s l e w v ds) (he : Elt w v i q) (hi : i < ds.length) (hu : R s u dd) (hw : dd.wd = w)
    (hK : ∀ s', Step (KC l.o l.c) s s' → Own s' l e w v (ds.set i dd) → KL P n Df ops Q rest ρ s'.w) :
    KL P n Df ops Q (⟨none, .store tx x y, ty, pos, aft, none⟩ :: rest) ρ s.w := by
  obtain ⟨g, len, cap, hv, rfl⟩ := he
  have hrc := hu.rc
  have hul : u.cells.toList.length = w := by rw [hrc.len, hw]
  obtain ⟨cur, hgg, hgl, hsz, hlc, hcm, hr, hlen⟩ := h.heap hv (by omega)
  have hwi : i * w + w ≤ cap * w := by
    calc i * w + w = (i + 1) * w := by rw [Nat.add_mul, Nat.one_mul]
      _ ≤ cap * w := Nat.mul_le_mul_right _ (by omega)
  have hst := run_storeCells_cells (P := P) g (i * w) u.cells.toList 0 s.w (fun j hj => by
      simp [World.cell?, hgg]; omega) (fun j hj => by simp [World.frozen?, hgg]) (fun u hu => hrc.one_cells u hu)
  simp only [Nat.add_zero] at hst
  have hs := h.store (o := 0) hv hi (vs := u.cells.toList) (dd := dd) (by omega) (fun cs hcs _ => by
    rw [List.take_zero, List.nil_append, List.drop_eq_nil_of_le (by omega), List.append_nil]; exact hrc)
  refine .eff rfl rfl (fun η ha => ?_) (hK _ hs.1 hs.2)
  have hsz' : u.cells.size = w := by simpa using hul
  simp [execOp, ha.ev hx, ha.ev hy, Instr.storeAt, Instr.sureAddr, storeVar, run_sizeOf hT, hsz', hst]
  rfl
end
end Go.Fw

set_option linter.unusedSimpArgs false
set_option linter.unusedVariables false
namespace Go.Fw
def rst (ρ : Env) (ts : List Nat) : Env := ρ.filter fun p => ts.contains p.1
theorem look_rst {ρ : Env} {ts : List Nat} : ∀ {t : Nat} {v : Value}, look (rst ρ ts) t = some v → t ∈ ts ∧ look ρ t = some v := by
  induction ρ with
  | nil => intro t v h; simp [rst, look] at h
  | cons p r ih =>
    intro t v h
    obtain ⟨u, x⟩ := p
    unfold rst at h ih
    rw [List.filter_cons] at h
    by_cases hu : ts.contains u = true
    · rw [if_pos hu] at h
      simp only [look] at h ⊢
      by_cases e : u = t
      · subst e
        simp at h ⊢
        exact ⟨by simpa using hu, h⟩
      · have e' : Nat.beq u t = false := by rw [← Bool.not_eq_true, Nat.beq_eq]; exact e
        rw [e'] at h ⊢
        exact ih h
    · rw [if_neg hu] at h
      obtain ⟨h1, h2⟩ := ih h
      refine ⟨h1, ?_⟩
      simp only [look]
      have e : u ≠ t := by rintro rfl; exact hu (by simpa using h1)
      have e' : Nat.beq u t = false := by rw [← Bool.not_eq_true, Nat.beq_eq]; exact e
      rw [e']
      exact h2
theorem rst_look {ρ : Env} {ts : List Nat} {t : Nat} (ht : t ∈ ts) : look (rst ρ ts) t = look ρ t := by
  induction ρ with
  | nil => rfl
  | cons p r ih =>
    obtain ⟨u, x⟩ := p
    unfold rst at ih ⊢
    rw [List.filter_cons]
    by_cases e : u = t
    · subst e
      rw [if_pos (by simpa using ht)]
      simp [look]
    · have e' : Nat.beq u t = false := by rw [← Bool.not_eq_true, Nat.beq_eq]; exact e
      split
      · simp only [look, e', cond_false]; exact ih
      · simp only [look, e', cond_false]; exact ih
def FQ (d : Nat) (c : Value) (w : World) : Post := fun e ρ w' => e = .normal ∧ w' = w ∧ look ρ d = some c
def RD (P : Program) (n : Nat) (Df : Md) (ops : Array Oper) (K : Lab → Prop) (Fin : Env → St → Prop) : List (Bool × Nat) → Env → St → Prop
  | [], ρ, s => Fin ρ s
  | (false, i) :: r, ρ, s => ∃ o d c, ops[i]? = some o ∧ o.dst = some d ∧ (∀ s', Step K s s' → KL P n Df ops (FQ d c s'.w) [o] (rst ρ (o.looksAt ops)) s'.w) ∧ RD P n Df ops K Fin r ((d, c) :: ρ) s
  | (true, i) :: r, ρ, s => ∃ o d, ops[i]? = some o ∧ o.dst = some d ∧
      KL P n Df ops (fun e ρ' w' => e = .normal ∧ ∃ s' v, s'.w = w' ∧ Step K s s' ∧ look ρ' d = some v ∧ RD P n Df ops K Fin r ((d, v) :: ρ) s') [o] (rst ρ (o.looksAt ops)) s.w
def ons (o : Oper) : List Nat := (o.after.toList.filter (Region.binds .any)).map (·.on)
def onsAt (ops : Array Oper) (i : Nat) : List Nat := match ops[i]? with | some o => ons o | none => []
def dstAt (ops : Array Oper) (i : Nat) : Option Nat := match ops[i]? with | some o => o.dst | none => none
def looksI (ops : Array Oper) (i : Nat) : List Nat := match ops[i]? with | some o => o.looksAt ops | none => []
def chained (ops : Array Oper) : Option (List Nat) → List (Bool × Nat) → Bool
  | _, [] => true
  | none, (false, _) :: r => chained ops none r
  | some cur, (false, i) :: r => (onsAt ops i).any (fun j => cur.contains j) && chained ops (some (i :: cur)) r
  | none, (true, i) :: r => chained ops (some [i]) r
  | some cur, (true, i) :: r => (onsAt ops i).any (fun j => cur.contains j) && chained ops (some [i]) r
def planOk (ops : Array Oper) (n m : Nat) (plan : List (Bool × Nat)) : Bool :=
  Nat.ble m ops.size &&
  (List.range m).all (fun i => (plan.map (·.2)).contains i) &&
  plan.all (fun p => Nat.blt p.2 m) &&
  (List.range ops.size).all (fun i => (onsAt ops i).all (fun j => Nat.blt j i)) &&
  (List.range m).all (fun i => (looksI ops i).all (fun t => (List.range m).all (fun j => dstAt ops j != some t || (onsAt ops i).contains j))) &&
  (List.range ops.size).all (fun i => Nat.blt i m || (List.range i).all (fun j => (onsAt ops i).contains j || (onsAt ops i).any (fun q => (onsAt ops q).contains j))) &&
  (List.range m).all (fun i => match dstAt ops i with | some d => Nat.blt d n | none => false) &&
  (List.range m).all (fun i => (List.range m).all fun j => Nat.beq i j || dstAt ops i != dstAt ops j) &&
  decide (plan.map (·.2)).Nodup &&
  chained ops none plan
def freshOk (ops : Array Oper) (m : Nat) (ρ : Env) : Bool := (List.range m).all (fun i => match dstAt ops i with | some d => (look ρ d).isNone | none => true)
section
variable {P : Program} {n : Nat} {Df : Md} {ops : Array Oper} {Q : Exit → Act → World → Prop}
theorem upon_put {r : Option Nat} {o : Oper} {a : Act} {w : World} {K K' : Act → World → Prop} {Q' : Exit → Act → World → Prop} (hd : ∀ d v a' , a' = ({ a with defers := d :: a.defers } : Act).put o.dst v → ∀ w', ¬ K a' w')
    (hk : ∀ v w', K (a.put o.dst v) w' → K' (a.put o.dst v) w') (hq1 : ∀ ch a' w', ¬ Q (.panic ch) a' w') (hq2 : ¬ LetsOut Q) (h : o.wpIn (fnc r) 0 P a w K Q) : o.wpIn (fnc r) 0 P a w K' Q' := by
  unfold Oper.wpIn at *
  refine ⟨h.1, ?_⟩
  have h := h.2
  generalize (o.semAt (fnc r).round a.eval).run P w = r at *
  cases r with
  | ok nx w' =>
    cases nx with
    | value v => exact hk _ _ h
    | skip => exact hk _ _ h
    | defer dd => exact absurd h (hd dd undef _ rfl w')
    | enter f args =>
      simp only [Oper.uponIn] at h ⊢
      exact ⟨h.1, CallsIn.mono h.2 (fun e w'' he => by
        cases e with
        | returned v => exact hk _ _ he
        | panicked ch => exact absurd he (hq1 _ _ _)
        | outgrown => exact absurd he hq2)⟩
    | row row args =>
      simp only [Oper.uponIn] at h ⊢
      exact ⟨h.1, RowsIn.mono h.2 (fun v w'' he => hk _ _ he)⟩
    | round l f tmps assign body =>
      simp only [Oper.uponIn] at h ⊢
      exact ⟨h.1, RoundIn.mono h.2 (fun e w'' he => by
        cases e with
        | returned v => exact hk _ _ he
        | panicked ch => exact absurd he (hq1 _ _ _)
        | outgrown => exact absurd he hq2)⟩
    | _ => exact h.elim
  | halt x w' =>
    cases x <;> simp only [Oper.uponIn] at h ⊢ <;> first | exact absurd h (hq1 _ _ _) | exact h
theorem wpOp_of_KL {i : Nat} {o : Oper} {d : Nat} (ho : ops[i]? = some o) (hd : o.dst = some d) {ρ : Env} {w : World} {a : Act} (ha : Ag n Df ρ a) {C : Value → World → Prop} {q : Post}
    (hq : ∀ e ρ' w', q e ρ' w' → e = .normal ∧ ∃ v, look ρ' d = some v ∧ C v w') (hn : d < n) (h : KL P n Df ops q [o] ρ w) {K : Act → World → Prop}
    (hK : ∀ v w', C v w' → K (a.put (some d) v) w') : wpOpIn (fnc Df.rd) 0 P ops Q i K a w := by
  have h1 := h a ha
  have hnp : ∀ ch a' w', ¬ lift n Df q (.panic ch) a' w' := by
    rintro ch a' w' ⟨ρ', _, hh⟩; have := (hq _ _ _ hh).1; cases this
  have hno : ¬ LetsOut (lift n Df q) := by
    rintro ⟨a', w', ρ', _, hh⟩; have := (hq _ _ _ hh).1; cases this
  have fin : ∀ v w', lift n Df q .normal (a.put o.dst v) w' → K (a.put o.dst v) w' := by
    rintro v w' ⟨ρ', hag, hh⟩
    obtain ⟨_, v', hl, hc⟩ := hq _ _ _ hh
    have e := hag.get d v' hl
    rw [hd] at e ⊢
    have hsz : d < a.tmps.size := by rw [ha.size]; exact hn
    have : v = v' := by
      rw [← e]; simp [Act.put, Array.getD_eq_getD_getElem?, hsz]
    subst this
    exact hK v w' hc
  unfold wpOpIn
  rw [ho]
  simp only [wpListIn] at h1
  by_cases hw : Region.wanted o (yielded ops a.tmps) = true
  · simp only [hw, if_true] at h1 ⊢
    refine upon_put ?_ (fun v w' hk => fin v w' hk) hnp hno h1
    rintro dd v a' rfl w' ⟨ρ', hag, _⟩
    have h2 := hag.defers
    have h3 := ha.defers
    rw [hd] at h2
    simp [Act.put] at h2
    rw [← h3] at h2
    have := congrArg List.length h2
    simp at this
  · simp only [hw] at h1 ⊢
    simp only [Bool.false_eq_true, if_false] at h1 ⊢
    exact ⟨fun _ _ => trivial, fin undef w h1.2⟩
theorem getD_set {listed : Array Bool} {i j : Nat} {b c : Bool} (hi : i < listed.size) : (listed.setIfInBounds i b).getD j c = if i = j then b else listed.getD j c := by
  by_cases h : i = j
  · subst h; simp [Array.getD_eq_getD_getElem?, hi]
  · simp [Array.getD_eq_getD_getElem?, Array.getElem?_setIfInBounds_ne, h]
theorem getD_any {listed : Array Bool} {i : Nat} {b c : Bool} (hi : i < listed.size) : listed.getD i b = listed.getD i c := by
  simp [Array.getD_eq_getD_getElem?, hi]
theorem mem_ready {listed : Array Bool} {i : Nat} : i ∈ Region.ready .any ops listed ↔ i < ops.size ∧ listed.getD i true = false ∧ ∀ j ∈ onsAt ops i, listed.getD j false = true := by
  unfold Region.ready
  rw [List.mem_filter, List.mem_range]
  constructor
  · rintro ⟨h1, h2⟩
    simp only [Bool.and_eq_true, Bool.not_eq_true'] at h2
    refine ⟨h1, h2.1, fun j hj => ?_⟩
    have h3 := h2.2
    unfold onsAt at hj
    cases ho : ops[i]? with
    | none => rw [ho] at h3; simp at h3
    | some o =>
      rw [ho] at h3 hj
      simp only [Option.map_some, Option.getD_some, Array.all_eq_true_iff_forall_mem] at h3
      simp only [ons, List.mem_map, List.mem_filter, Array.mem_toList_iff] at hj
      obtain ⟨e, ⟨he, hb⟩, rfl⟩ := hj
      have := h3 e he
      simpa [hb] using this
  · rintro ⟨h1, h2, h3⟩
    refine ⟨h1, ?_⟩
    simp only [Bool.and_eq_true, Bool.not_eq_true']
    refine ⟨h2, ?_⟩
    cases ho : ops[i]? with
    | none => rw [Array.getElem?_eq_none_iff] at ho; omega
    | some o =>
      simp only [Option.map_some, Option.getD_some, Array.all_eq_true_iff_forall_mem]
      intro e he
      by_cases hb : Region.binds .any e = true
      · have := h3 e.on (by unfold onsAt; rw [ho]; simp only [ons, List.mem_map, List.mem_filter, Array.mem_toList_iff]; exact ⟨e, ⟨he, hb⟩, rfl⟩)
        simp [this]
      · simp [hb]
inductive Rch (ops : Array Oper) : Nat → Nat → Prop
  | one {i j : Nat} (h : j ∈ onsAt ops i) : Rch ops i j
  | more {i q j : Nat} (h : q ∈ onsAt ops i) (h2 : Rch ops q j) : Rch ops i j
def rchB (ops : Array Oper) : Nat → Nat → Nat → Bool
  | 0, i, j => (onsAt ops i).contains j
  | f + 1, i, j => (onsAt ops i).contains j || (onsAt ops i).any (fun q => rchB ops f q j)
theorem rchB_rch {ops : Array Oper} : ∀ {f i j : Nat}, rchB ops f i j = true → Rch ops i j
  | 0, i, j, h => .one (by simpa [rchB] using h)
  | f + 1, i, j, h => by
    simp only [rchB, Bool.or_eq_true, List.any_eq_true] at h
    rcases h with h | ⟨q, h1, h2⟩
    · exact .one (by simpa using h)
    · exact .more h1 (rchB_rch h2)
theorem Rch.lt {ops : Array Oper} (hback : ∀ i, i < ops.size → ∀ j ∈ onsAt ops i, j < i) {i j : Nat} (h : Rch ops i j) : i < ops.size → j < i := by
  induction h with
  | one h => intro hi; exact hback _ hi _ h
  | more h h2 ih => intro hi; have h5 := hback _ hi _ h; have := ih (by omega); omega
theorem tail_any {rr : Option Nat} {m : Nat} (hback : ∀ i, i < ops.size → ∀ j ∈ onsAt ops i, j < i) (htail : ∀ i, m ≤ i → i < ops.size → ∀ j, j < i → Rch ops i j) : ∀ (fuel k : Nat) (listed : Array Bool) (a : Act) (w : World), listed.size = ops.size → m ≤ k → k ≤ ops.size → ops.size - k ≤ fuel →
    (∀ i, i < k → listed.getD i false = true) → (∀ i, k ≤ i → i < ops.size → listed.getD i false = false) → wpListIn (fnc rr) 0 P ops Q (ops.toList.drop k) a w → wpAnyIn (fnc rr) 0 P .any ops Q fuel listed a w := by
  intro fuel
  induction fuel with
  | zero =>
    intro k listed a w hsz hm hk hf hl hu h
    have hk' : k = ops.size := by omega
    subst hk'
    have hr : Region.ready .any ops listed = [] := by
      rw [List.eq_nil_iff_forall_not_mem]
      intro i hi
      obtain ⟨h1, h2, _⟩ := mem_ready.1 hi
      have := hl i h1
      rw [getD_any (c := true) (by omega)] at this
      rw [this] at h2; simp at h2
    rw [List.drop_eq_nil_of_le (by simp)] at h
    exact ⟨hr, h⟩
  | succ fuel ih =>
    intro k listed a w hsz hm hk hf hl hu h
    by_cases hk' : k = ops.size
    · subst hk'
      have hr : Region.ready .any ops listed = [] := by
        rw [List.eq_nil_iff_forall_not_mem]
        intro i hi
        obtain ⟨h1, h2, _⟩ := mem_ready.1 hi
        have := hl i h1
        rw [getD_any (c := true) (by omega)] at this
        rw [this] at h2; simp at h2
      rw [List.drop_eq_nil_of_le (by simp)] at h
      refine ⟨fun _ => h, fun i hi => ?_⟩
      rw [hr] at hi; simp at hi
    · have hlt : k < ops.size := by omega
      refine ⟨fun hr => ?_, fun i hi => ?_⟩
      · exfalso
        have : k ∈ Region.ready .any ops listed := mem_ready.2 ⟨hlt, by rw [getD_any (c := false) (by omega)]; exact hu k (Nat.le_refl _) hlt, fun j hj => hl j (hback k hlt j hj)⟩
        rw [hr] at this; simp at this
      · obtain ⟨h1, h2, h3⟩ := mem_ready.1 hi
        have hik : i = k := by
          rcases Nat.lt_trichotomy i k with h4 | h4 | h4
          · have := hl i h4
            rw [getD_any (c := true) (by omega), h2] at this; simp at this
          · exact h4
          · cases htail i (by omega) h1 k h4 with
            | one hd =>
              have := h3 k hd
              rw [hu k (Nat.le_refl _) hlt] at this; simp at this
            | more hq1 hr2 =>
              rename_i q
              have h6 := hback i h1 q hq1
              have h5 := hr2.lt hback (by omega)
              have := h3 q hq1
              rw [hu q (by omega) (by omega)] at this; simp at this
        subst hik
        rw [List.drop_eq_getElem_cons (by simpa using hlt)] at h
        have ho : ops[i]? = some ops[i] := by simp [hlt]
        unfold wpOpIn
        rw [ho]
        simp only [Array.getElem_toList, wpListIn] at h
        have next : ∀ a' w', wpListIn (fnc rr) 0 P ops Q (ops.toList.drop (i + 1)) a' w' → wpAnyIn (fnc rr) 0 P .any ops Q fuel (listed.setIfInBounds i true) a' w' := fun a' w' h' =>
          ih (i + 1) _ a' w' (by simpa using hsz) (by omega) (by omega) (by omega) (fun j hj => by
            rw [getD_set (by omega)]
            by_cases e : i = j
            · simp [e]
            · rw [if_neg e]; exact hl j (by omega)) (fun j hj hj2 => by
            rw [getD_set (by omega), if_neg (by omega)]
            exact hu j (by omega) hj2) h'
        by_cases hw : Region.wanted ops[i] (yielded ops a.tmps) = true
        · simp only [hw, if_true] at h ⊢
          exact Oper.wpIn_mono next h
        · simp only [hw] at h ⊢
          simp only [Bool.false_eq_true, if_false] at h ⊢
          exact ⟨fun _ _ => trivial, next _ _ h.2⟩
def Known (P : Program) (n : Nat) (Df : Md) (ops : Array Oper) (K : Lab → Prop) (i : Nat) (ρ : Env) (s : St) : Prop :=
  ∃ o d c, ops[i]? = some o ∧ o.dst = some d ∧ look ρ d = some c ∧ ∀ s', Step K s s' → KL P n Df ops (FQ d c s'.w) [o] (rst ρ (o.looksAt ops)) s'.w
theorem Ag.rst_of {ρ ρ' : Env} {ts : List Nat} {a : Act} (h : ∀ t v, look ρ t = some v → look ρ' t = some v) (ha : Ag n Df (rst ρ' ts) a) : Ag n Df (rst ρ ts) a :=
  ⟨ha.size, fun t v e => by obtain ⟨h1, h2⟩ := look_rst e; exact ha.get t v (by rw [rst_look h1]; exact h t v h2), ha.defers⟩
theorem Known.up {K : Lab → Prop} {i : Nat} {ρ ρ' : Env} {s s' : St} (h : Known P n Df ops K i ρ s) (st : Step K s s') (hρ : ∀ t v, look ρ t = some v → look ρ' t = some v) : Known P n Df ops K i ρ' s' := by
  obtain ⟨o, d, c, h1, h2, h3, h4⟩ := h
  exact ⟨o, d, c, h1, h2, hρ d c h3, fun s'' st' a ha => h4 s'' (st.transK st') a (Ag.rst_of hρ ha)⟩
end
end Go.Fw

set_option linter.unusedSimpArgs false
set_option linter.unusedVariables false
namespace Go.Fw
section
variable {P : Program} {n : Nat} {Df : Md} {ops : Array Oper} {Q : Exit → Act → World → Prop}
theorem countP_set {p q : Nat → Bool} {i : Nat} : ∀ {l : List Nat}, l.Nodup → i ∈ l → p i = true → q i = false → (∀ j, j ≠ i → q j = p j) → l.countP p = l.countP q + 1
  | [], _, h, _, _, _ => by simp at h
  | x :: l, hn, hm, hp, hq, he => by
    rw [List.nodup_cons] at hn
    rcases List.mem_cons.1 hm with rfl | hm
    · rw [List.countP_cons_of_pos hp, List.countP_cons_of_neg (by simp [hq])]
      congr 1
      apply List.countP_congr
      intro j hj
      rw [he j (by rintro rfl; exact hn.1 hj)]
    · have hx : x ≠ i := by rintro rfl; exact hn.1 hm
      have ih := countP_set hn.2 hm hp hq he
      by_cases h : p x = true
      · rw [List.countP_cons_of_pos h, List.countP_cons_of_pos (by rw [he x hx]; exact h), ih]
      · rw [List.countP_cons_of_neg h, List.countP_cons_of_neg (by rw [he x hx]; exact h), ih]
theorem put_getD {a : Act} {d t : Nat} {v : Value} (h : d ≠ t) : (a.put (some d) v).tmps.getD t undef = a.tmps.getD t undef := by
  simp [Act.put, Array.getD_eq_getD_getElem?, Array.getElem?_setIfInBounds_ne, h]
theorem put_getD_self {a : Act} {d : Nat} {v : Value} (h : d < a.tmps.size) : (a.put (some d) v).tmps.getD d undef = v := by
  simp [Act.put, Array.getD_eq_getD_getElem?, h]
end
end Go.Fw

set_option linter.unusedSimpArgs false
set_option linter.unusedVariables false
namespace Go.Fw
section
variable {P : Program} {n : Nat} {Df : Md} {F : Post} {k : List It} {ρ : Env} {s : St}
variable {ops : Array Oper} {K : Lab → Prop} {Fin : Env → St → Prop} {r : List (Bool × Nat)} {i : Nat}
theorem jAe {d : Nat} {c : Value} {w : World} : KL P n Df ops (FQ d c w) [] ((d, c) :: ρ) w := fun a ha => ⟨_, ha, rfl, rfl, by simp [look]⟩
end
end Go.Fw
