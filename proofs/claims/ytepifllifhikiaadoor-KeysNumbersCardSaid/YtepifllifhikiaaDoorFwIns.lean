import Derived.Test.YtepifllifhikiaaDoorFwW
import Derived.Lib.Overlaps
set_option linter.unusedSimpArgs false
set_option linter.unusedVariables false
namespace Go.Fw
/-! Rows of one's own whose cells are known one by one. -/
section
variable {P : Program} {n : Nat} {Df : Md} {ops : Array Oper} {Q : Post} {rest : List Oper} {ρ : Env} {s : St} {w0 : World}
variable {d : Nat} {ty : TypeId} {pos : String} {aft : Array Edge} {x y z : Operand} {tx tyy : TypeId}
/-- A row in the block g: all its cells. -/
structure RB (s : St) (g : Nat) (l : Lab) (e : TypeId) (cur : List Value) : Prop where
  heap : s.w.heap[g]? = some (.cells cur.toArray e (0, 0))
  lab : s.g g = l
theorem RB.up2 {K : Lab → Prop} {s s' : St} {g : Nat} {l : Lab} {e : TypeId} {cur : List Value} (h : RB s g l e cur) (st : Step K s s') (hk : ¬ K l := by first | exact id | (simp only [KU, KN, KC, KO, K0, KB] <;> omega)) : RB s' g l e cur := by
  have hlt : g < s.n := (Array.getElem?_eq_some_iff.1 h.heap).1
  obtain ⟨e1, e2⟩ := st.keep g hlt (by rw [h.lab]; exact hk)
  exact ⟨e1.trans h.heap, e2.trans h.lab⟩
theorem RB.cell {s : St} {g : Nat} {l : Lab} {e : TypeId} {cur : List Value} (h : RB s g l e cur) (i : Nat) : s.w.cell? ⟨g, i, none⟩ = cur[i]? := by
  simp [World.cell?, h.heap]
theorem RB.same {s s' : St} {g : Nat} {l : Lab} {e : TypeId} {cur : List Value} (h : RB s g l e cur) (h' : s'.w.heap[g]? = s.w.heap[g]? ∧ s'.g g = s.g g) : RB s' g l e cur := ⟨h'.1.trans h.heap, h'.2.trans h.lab⟩
/-- A row of one's own, looked at cell by cell. -/
theorem Own.raw {s : St} {l : Lab} {e : TypeId} {w : Nat} {v : Value} {ds : List D} (h : Own s l e w v ds) (hne : ds ≠ []) :
    ∃ g cap cur, v = .slice (some ⟨g, 0, none⟩) ds.length cap ∧ RB s g l e cur ∧ ds.length ≤ cap ∧ cap ≤ maxLen ∧ cur.length = cap * w ∧ RCs s w (cur.take (ds.length * w)) ds := by
  obtain ⟨h0, h1, xs, ho, hg, hr⟩ := h
  rcases ho.2 with ⟨_, hz⟩ | ⟨g, cap, cur, rfl, _, hh, hle, hcm, hsz, hx⟩
  · exact absurd (List.eq_nil_of_length_eq_zero hz) hne
  · exact ⟨g, cap, cur.toList, rfl, ⟨by simpa using hh, hg g rfl⟩, hle, hcm, by simpa using hsz, by rw [hx]; exact hr⟩
theorem Own.of_raw {s : St} {l : Lab} {e : TypeId} {w g cap : Nat} {cur : List Value} {ds : List D} (h0 : l.o ≠ 0) (h1 : l.o ≤ s.n + 1) (h : RB s g l e cur) (hle : ds.length ≤ cap) (hcm : cap ≤ maxLen) (hsz : cur.length = cap * w) (hr : RCs s w (cur.take (ds.length * w)) ds) :
    Own s l e w (.slice (some ⟨g, 0, none⟩) ds.length cap) ds := by
  refine ⟨h0, h1, cur.take (ds.length * w), ⟨?_, .inr ⟨g, cap, cur.toArray, rfl, Nat.zero_le _, h.heap, hle, hcm, by simpa using hsz, by simp⟩⟩, fun g' hg' => ?_, hr⟩
  · rw [List.length_take, hsz]
    have := Nat.mul_le_mul_right w hle
    omega
  · simp [Value.ownBlock] at hg'
    rw [← hg']; exact h.lab
theorem addr_add (g o k : Nat) : (⟨g, o, none⟩ : Addr).add k = ⟨g, o + k, none⟩ := by unfold Addr.add; split <;> simp_all
theorem k_cut_raw {w1 g o m cap i j : Nat} {e : TypeId} {lo hi : Option Operand} (hT : P.underlying tx = some (.slice e)) (hs : sizeT P e w1 = true) (hx : ev ρ x = some (.slice (some ⟨g, o, none⟩) m cap))
    (hlo : CutAt ρ 0 lo i) (hhi : CutAt ρ m hi j) (hij : i ≤ j) (hj : j ≤ cap) (hic : i < cap) (hd : Nat.blt d n = true)
    (hK : KL P n Df ops Q rest ((d, .slice (some ⟨g, o + i * w1, none⟩) (j - i) (cap - i)) :: ρ) w0) :
    KL P n Df ops Q (⟨some d, .slice tx x lo hi none, ty, pos, aft, none⟩ :: rest) ρ w0 := by
  have hlo := hlo.lo
  have hhi := hhi.hi
  have hne : ¬ cap = i := by omega
  have hrun : ∀ η : Operand → Value, Agr ρ η → (execOp η ⟨some d, .slice tx x lo hi none, ty, pos, aft, none⟩).run P w0 = .ok (.value (.slice (some ⟨g, o + i * w1, none⟩) (j - i) (cap - i))) w0 := by
    intro η hη
    cases lo with
    | none =>
      simp only at hlo
      subst hlo
      cases hi with
      | none => simp only at hhi; subst hhi; simp [execOp, hη.ev hx, Instr.sliceAt, Instr.slice, Instr.sliceBounds, run_underlying hT, run_sizeOf hs, addr_add, hne]
      | some z => obtain ⟨k, hz⟩ := hhi; simp [execOp, hη.ev hx, hη.ev hz, Instr.sliceAt, Instr.slice, Instr.sliceBounds, Instr.sliceBound, asIntOf, run_underlying hT, run_sizeOf hs, hj, addr_add, hne]
    | some yy =>
      obtain ⟨k, hy⟩ := hlo
      cases hi with
      | none => simp only at hhi; subst hhi; simp [execOp, hη.ev hx, hη.ev hy, Instr.sliceAt, Instr.slice, Instr.sliceBounds, Instr.sliceBound, asIntOf, run_underlying hT, run_sizeOf hs, hij, addr_add, hne]
      | some z => obtain ⟨k', hz⟩ := hhi; simp [execOp, hη.ev hx, hη.ev hy, hη.ev hz, Instr.sliceAt, Instr.slice, Instr.sliceBounds, Instr.sliceBound, asIntOf, run_underlying hT, run_sizeOf hs, hij, hj, addr_add, hne]
  exact .val rfl rfl hd hrun hK
theorem run_copy_cellsK (w : World) (dT sT ty elem : TypeId) (k b o dLen dCap : Nat) (a : Addr) (sLen sCap : Nat) (cs : List Value)
    (hu : P.underlying dT = some (.slice elem)) (hs : (P.info? elem).map (·.size) = some k) (hn : cs.length = Nat.min sLen dLen * k)
    (hsrc : ∀ j v, cs[j]? = some v → w.cell? (a.add j) = some v) (hc : ∀ j, j < cs.length → (w.cell? ⟨b, o + j, none⟩).isSome = true) (hf : ∀ j, j < cs.length → w.frozen? ⟨b, o + j, none⟩ = false) (h1 : ∀ v ∈ cs, v.oneCell' = true) :
    (Builtin.copy_ #[dT, sT] ty #[.slice (some ⟨b, o, none⟩) dLen dCap, .slice (some a) sLen sCap]).run P w = .ok (goInt (Nat.min sLen dLen)) (w.setCells b o cs) := by
  have hl := run_loadCells_list (P := P) w a cs hsrc
  have hst := run_storeCells_cells (P := P) b o cs 0 w (by simpa using hc) (by simpa using hf) h1
  cases hq : P.info? elem with
  | none => simp [hq] at hs
  | some i =>
    have hi : i.size = k := by simpa [hq] using hs
    simp [Builtin.copy_, run_underlying hu, Builtin.lenOf, Builtin.firstCells, sizeOf, typeInfo, hq, hi, ← hn, hl, hst]
/-- copy: cells go over into a row of one's own. -/
theorem k_copyn_raw {g o dLen dCap k sLen sCap : Nat} {a : Addr} {l : Lab} {e dT sT : TypeId} {cur cs : List Value} (hu : P.underlying dT = some (.slice e)) (hs : (P.info? e).map (·.size) = some k)
    (hx : ev ρ x = some (.slice (some ⟨g, o, none⟩) dLen dCap)) (hy : ev ρ y = some (.slice (some a) sLen sCap)) (hb : RB s g l e cur) (h0 : l.o ≠ 0) (hn : cs.length = Nat.min sLen dLen * k) (hle : o + cs.length ≤ cur.length)
    (hsrc : ∀ j v, cs[j]? = some v → s.w.cell? (a.add j) = some v) (h1 : ∀ v ∈ cs, v.oneCell' = true)
    (hK : ∀ s', Step (KC l.o l.c) s s' → RB s' g l e (cur.take o ++ cs ++ cur.drop (o + cs.length)) → (∀ b, b ≠ g → s'.w.heap[b]? = s.w.heap[b]? ∧ s'.g b = s.g b) → KL P n Df ops Q rest ρ s'.w) :
    KL P n Df ops Q (⟨none, .call { callee := .builtin .copy, args := [x, y].toArray, argTypes := [dT, sT].toArray }, ty, pos, aft, none⟩ :: rest) ρ s.w := by
  have hrun := run_copy_cellsK (P := P) s.w dT sT ty e k g o dLen dCap a sLen sCap cs hu hs hn hsrc
    (fun j hj => by rw [hb.cell, List.getElem?_eq_getElem (by omega)]; rfl) (fun j hj => by simp [World.frozen?, hb.heap]) h1
  obtain ⟨r1, r2, r3, r4⟩ := setCells_rest g cs o s.w
  have hset := heap_setCells g cs o s.w cur e (0, 0) hb.heap hle
  have hlt : g < s.n := (Array.getElem?_eq_some_iff.1 hb.heap).1
  have st : Step (KC l.o l.c) s (s.re (s.w.setCells g o cs)) := by
    refine ⟨r1, r2, r3, Nat.le_of_eq r4.symm, fun b' hb' hk => ⟨heap_setCells_ne g b' ?_ cs _ s.w, rfl⟩, fun c hc => h0 hc.1.symm⟩
    rintro rfl
    exact hk (by rw [hb.lab]; exact ⟨rfl, rfl⟩)
  refine .effv rfl rfl (v := goInt (Nat.min sLen dLen)) (w' := s.w.setCells g o cs) (fun η ha => ?_) (hK (s.re (s.w.setCells g o cs)) st ⟨hset, hb.lab⟩ (fun b hb' => ⟨heap_setCells_ne g b hb' cs _ s.w, rfl⟩))
  simp [execOp, resolve, invoke, builtin, ha.ev hx, ha.ev hy, hrun]
/-- append(v, make(.., k)...), where there is no room: a new row. -/
theorem k_append_zerosG {l : Lab} {t ti e w1 bytes i cap m : Nat} {g : Nat} {zv : Value} {cur : List Value} (hT : elemT P t e w1 bytes zv) (hi : P.underlying ti = some (.int .i64)) (hx : ev ρ x = some (.slice (some ⟨g, 0, none⟩) i cap)) (hy : ev ρ y = some (.int .i64 (m : Int)))
    (hb : RB s g l e cur) (hcl : cur.length = cap * w1) (hic : i ≤ cap) (h0 : 0 < m) (hg : cap < i + m) (hsz : (i + m) * bytes ≤ 140737488355328) (hmx : i + m ≤ 9223372036854775807) (hd : Nat.blt d n = true) (l2 : Lab) (hl2 : l2.o ≤ s.n + 1) (hl0 : l2.o ≠ 0)
    (hK : ∀ s' g' cap' zs, Step K0 s s' → RB s' g' l2 e (cur.take (i * w1) ++ zs) → i + m ≤ cap' → cap' ≤ maxLen → (cur.take (i * w1) ++ zs).length = cap' * w1 → s.n ≤ g' → KL P n Df ops Q rest ((d, .slice (some ⟨g', 0, none⟩) (i + m) cap') :: ρ) s'.w) :
    KL P n Df ops Q (⟨some d, .call { callee := .builtin .append, args := [x, y].toArray, argTypes := [t, ti].toArray }, ty, pos, aft, none⟩ :: rest) ρ s.w := by
  obtain ⟨i', h1, h2, h3, h4, h5, h6, h7⟩ := hT
  have hge := grownCap_ge s.w (i + m) cap e
  have hle := grownCap_le_maxLen s.w (i + m) cap e (by unfold maxLen; omega)
  have hm0 : ¬ m * i'.size = 0 := by
    have := Nat.mul_pos h0 (show 0 < i'.size by omega)
    omega
  have hlo : (cur.take (i * w1)).length = i * w1 := by
    rw [List.length_take, hcl]
    have := Nat.mul_le_mul_right w1 hic
    omega
  have hold := run_loadCells_list (P := P) s.w.drew ⟨g, 0, none⟩ (cur.take (i * w1)) (fun j v hv => by
    show s.w.cell? _ = _
    rw [addr_add, Nat.zero_add, hb.cell]
    rw [List.getElem?_take] at hv
    split at hv
    · exact hv
    · cases hv)
  rw [hlo] at hold
  obtain ⟨zs, hzs⟩ : ∃ zs : List Value, zs = (Builtin.zeroCells zv.cells m).toList ++ (Builtin.zeroCells zv.cells (grownCap s.w (i + m) cap e - (i + m))).toList := ⟨_, rfl⟩
  have hsize : (cur.take (i * w1) ++ zs).length = grownCap s.w (i + m) cap e * w1 := by
    rw [List.length_append, hlo, hzs, List.length_append, Array.length_toList, Array.length_toList, size_zeroCells, size_zeroCells, h6, ← Nat.add_mul, ← Nat.add_mul]
    congr 1; omega
  have hrun : (Builtin.append_ #[t, ti] ty #[.slice (some ⟨g, 0, none⟩) i cap, .int .i64 (m : Int)]).run P s.w = .ok (.slice (some ⟨s.w.heap.size, 0, none⟩) (i + m) (grownCap s.w (i + m) cap e)) (s.w.drew.alloc (.cells (cur.take (i * w1) ++ zs).toArray e)) := by
    have hw : IntKind.i64.wrap (m : Int) = (m : Int) := wrap_i64 (by omega) (by omega)
    have a1 : ¬ ((m : Int) < 0) := by omega
    have hmb : m * bytes ≤ 140737488355328 := Nat.le_trans (Nat.mul_le_mul_right _ (Nat.le_add_left m i)) hsz
    have a2 : ¬ (281474976710656 < (m : Int) * (i'.bytes : Int)) := by
      rw [← Int.natCast_mul, h5]
      generalize m * bytes = q at hmb ⊢
      omega
    have a3 : ¬ (9223372036854775807 < (i : Int) + (m : Int)) := by omega
    have a4 := growslice_fits (need := i + m) (old := cap) (bytes := i'.bytes) hg (by rw [h5]; exact hsz)
    have a5 : ¬ (i + m ≤ cap) := by omega
    have a4' : ¬ (281474976710656 < Builtin.nextslicecap (i + m) cap * i'.bytes) := by omega
    have hm1 : ¬ m * w1 = 0 := by rw [← h4]; exact hm0
    simp [Builtin.append_, run_underlying h1, run_underlying hi, sizeOf, typeInfo, zeroValue, h2, h3, asInt, asIntOf, hw, a1, a2, a3, a4', a5, Builtin.firstCells, h4, hold, Question.forced, newRow, grownCap, World.drewN, hm1]
    congr 2
    rw [hzs]
    apply Array.ext'
    simp [List.append_assoc, grownCap]
  have st : Step K0 s (s.to (s.w.drew.alloc (.cells (cur.take (i * w1) ++ zs).toArray e)) l2 hl2) := St.to_step rfl rfl rfl (by show s.w.heap.size ≤ (s.w.drew.alloc (.cells _ e)).heap.size; simp) (fun b hb _ => heap_alloc_old s.w.drew _ hb) (fun _ h => h)
  refine .val rfl rfl hd (v := .slice (some ⟨s.w.heap.size, 0, none⟩) (i + m) (grownCap s.w (i + m) cap e)) (w' := s.w.drew.alloc (.cells (cur.take (i * w1) ++ zs).toArray e)) (fun η ha => ?_) (hK (s.to _ l2 hl2) _ _ zs st ⟨?_, St.to_g_new (Nat.le_refl _)⟩ hge hle hsize (Nat.le_refl _))
  · simp [execOp, resolve, invoke, builtin, ha.ev hx, ha.ev hy, hrun]
  · exact heap_alloc_new s.w.drew _
theorem k_copy_raw {g o dLen dCap k sLen sCap : Nat} {a : Addr} {l : Lab} {e dT sT : TypeId} {cur cs : List Value} (hu : P.underlying dT = some (.slice e)) (hs : (P.info? e).map (·.size) = some k)
    (hx : ev ρ x = some (.slice (some ⟨g, o, none⟩) dLen dCap)) (hy : ev ρ y = some (.slice (some a) sLen sCap)) (hb : RB s g l e cur) (h0 : l.o ≠ 0) (hn : cs.length = Nat.min sLen dLen * k) (hle : o + cs.length ≤ cur.length)
    (hsrc : ∀ j v, cs[j]? = some v → s.w.cell? (a.add j) = some v) (h1 : ∀ v ∈ cs, v.oneCell' = true) (hd : Nat.blt d n = true)
    (hK : ∀ s' u, Step (KC l.o l.c) s s' → RB s' g l e (cur.take o ++ cs ++ cur.drop (o + cs.length)) → (∀ b, b ≠ g → s'.w.heap[b]? = s.w.heap[b]? ∧ s'.g b = s.g b) → KL P n Df ops Q rest ((d, u) :: ρ) s'.w) :
    KL P n Df ops Q (⟨some d, .call { callee := .builtin .copy, args := [x, y].toArray, argTypes := [dT, sT].toArray }, ty, pos, aft, none⟩ :: rest) ρ s.w := by
  have hrun := run_copy_cellsK (P := P) s.w dT sT ty e k g o dLen dCap a sLen sCap cs hu hs hn hsrc
    (fun j hj => by rw [hb.cell, List.getElem?_eq_getElem (by omega)]; rfl) (fun j hj => by simp [World.frozen?, hb.heap]) h1
  obtain ⟨r1, r2, r3, r4⟩ := setCells_rest g cs o s.w
  have hset := heap_setCells g cs o s.w cur e (0, 0) hb.heap hle
  have st : Step (KC l.o l.c) s (s.re (s.w.setCells g o cs)) := by
    refine ⟨r1, r2, r3, Nat.le_of_eq r4.symm, fun b' hb' hk => ⟨heap_setCells_ne g b' ?_ cs _ s.w, rfl⟩, fun c hc => h0 hc.1.symm⟩
    rintro rfl
    exact hk (by rw [hb.lab]; exact ⟨rfl, rfl⟩)
  refine .val rfl rfl hd (v := goInt (Nat.min sLen dLen)) (w' := s.w.setCells g o cs) (fun η ha => ?_) (hK (s.re (s.w.setCells g o cs)) _ st ⟨hset, hb.lab⟩ (fun b hb' => ⟨heap_setCells_ne g b hb' cs _ s.w, rfl⟩))
  simp [execOp, resolve, invoke, builtin, ha.ev hx, ha.ev hy, hrun]
theorem k_cap_sl {t e : TypeId} {a : Option Addr} {m cap : Nat} (hT : P.underlying t = some (.slice e)) (hx : ev ρ x = some (.slice a m cap)) (hd : Nat.blt d n = true)
    (hK : KL P n Df ops Q rest ((d, .int .i64 (cap : Int)) :: ρ) w0) : KL P n Df ops Q (⟨some d, .call { callee := .builtin .cap, args := [x].toArray, argTypes := [t].toArray }, ty, pos, aft, none⟩ :: rest) ρ w0 :=
  .val rfl rfl hd (fun η ha => by simp [execOp, resolve, invoke, builtin, ha.ev hx, Builtin.cap_, run_underlying hT, goInt]) hK
/-- A call of what the model answers itself. -/
theorem k_callx {f : FuncId} {xs : List Operand} {ats : Array TypeId} {vs : List Value} {u : Value} (hx : evs ρ xs = some vs) (hr : (callFunc f vs.toArray).run P w0 = .ok (.value u) w0) (hd : Nat.blt d n = true)
    (hK : KL P n Df ops Q rest ((d, u) :: ρ) w0) :
    KL P n Df ops Q (⟨some d, .call { callee := .value (.func f), args := xs.toArray, argTypes := ats }, ty, pos, aft, none⟩ :: rest) ρ w0 :=
  .val rfl rfl hd (fun η ha => by
    have hx' := Agr.evs (η := η) (fun _ _ e => ha.ev e) hx
    unfold execOp
    have hf : ev ρ (.func f) = some (.func (.func f) #[] #[]) := rfl
    simp only [resolve, Deferred.ofValue, ha.ev hf]
    simp [invoke, hx', hr]) hK
end
end Go.Fw
namespace Go.Fw
section
variable {P : Program} {n : Nat} {Df : Md} {ops : Array Oper} {Q : Post} {rest : List Oper} {ρ : Env} {s : St} {w0 : World}
variable {d : Nat} {ty : TypeId} {pos : String} {aft : Array Edge} {x y z : Operand} {tx tyy : TypeId}
theorem st_setRow {s : St} {g : Nat} {l : Lab} {e : TypeId} {cur : List Value} (hb : RB s g l e cur) (h0 : l.o ≠ 0) (cur' : List Value) (hl : cur'.length = cur.length) :
    Step (KC l.o l.c) s (s.re (s.w.setRow g cur'.toArray)) ∧ RB (s.re (s.w.setRow g cur'.toArray)) g l e cur' := by
  have hh := setRow_heap s.w g cur.toArray cur'.toArray e (0, 0) hb.heap
  refine ⟨⟨rfl, rfl, rfl, ?_, fun b' hb' hk => ⟨?_, rfl⟩, fun c hc => h0 hc.1.symm⟩, ⟨hh, hb.lab⟩⟩
  · show s.w.heap.size ≤ (s.w.setRow g cur'.toArray).heap.size
    simp [World.setRow]
  · show (s.w.setRow g cur'.toArray).heap[b']? = _
    have hne : g ≠ b' := by rintro rfl; exact hk (by rw [hb.lab]; exact ⟨rfl, rfl⟩)
    simp only [World.setRow, Array.getElem?_modify, if_neg hne]
/-- append(v[:i], w...), where there is room, of one's own row. -/
theorem k_append_room {g i cap m c : Nat} {a : Addr} {l : Lab} {t e w1 bytes : Nat} {zv : Value} {cur cs : List Value} (hT : elemT P t e w1 bytes zv) (hx : ev ρ x = some (.slice (some ⟨g, 0, none⟩) i cap)) (hy : ev ρ y = some (.slice (some a) m c)) (hb : RB s g l e cur) (h0 : l.o ≠ 0)
    (hn : cs.length = m * w1) (hsrc : ∀ j v, cs[j]? = some v → s.w.cell? (a.add j) = some v) (h1 : ∀ v ∈ cs, v.oneCell' = true) (hroom : i + m ≤ cap) (hle : i * w1 + cs.length ≤ cur.length) (hd : Nat.blt d n = true)
    (hK : ∀ s', Step (KC l.o l.c) s s' → RB s' g l e (cur.take (i * w1) ++ cs ++ cur.drop (i * w1 + cs.length)) → KL P n Df ops Q rest ((d, .slice (some ⟨g, 0, none⟩) (i + m) cap) :: ρ) s'.w) :
    KL P n Df ops Q (⟨some d, .call { callee := .builtin .append, args := [x, y].toArray, argTypes := [t, t].toArray }, ty, pos, aft, none⟩ :: rest) ρ s.w := by
  obtain ⟨i', e1, e2, e3, e4, e5, e6, e7⟩ := hT
  have hrun := run_append_room (P := P) s.w t ty e i' e1 e2 g i cap cur.toArray hb.heap a m c cs (by rw [e4]; exact hn) hsrc h1 hroom (by rw [e4]; simpa using hle)
  rw [e4] at hrun
  simp only [List.toList_toArray] at hrun
  obtain ⟨st, hb'⟩ := st_setRow hb h0 (cur.take (i * w1) ++ cs ++ cur.drop (i * w1 + cs.length)) (by simp only [List.length_append, List.length_take, List.length_drop]; omega)
  refine .val rfl rfl hd (v := .slice (some ⟨g, 0, none⟩) (i + m) cap) (w' := s.w.setRow g _) (fun η ha => ?_) (hK (s.re _) st hb')
  simp [execOp, resolve, invoke, builtin, ha.ev hx, ha.ev hy, hrun]
theorem zeroCells_one {zs : Array Value} (h : 0 < zs.size) : (Builtin.zeroCells zs 1).toList = zs.toList := by
  unfold Builtin.zeroCells
  apply List.ext_getElem
  · simp
  · intro i h1 h2
    simp at h1 h2
    simp [Nat.mod_eq_of_lt h2, h2]
/-- clear: one element of a row of one's own. -/
theorem k_clear_one {g o c : Nat} {l : Lab} {t e w1 bytes : Nat} {zv : Value} {cur : List Value} (hT : elemT P t e w1 bytes zv) (hx : ev ρ x = some (.slice (some ⟨g, o, none⟩) 1 c)) (hb : RB s g l e cur) (h0 : l.o ≠ 0) (hle : o + w1 ≤ cur.length) (h1 : ∀ v ∈ zv.cells.toList, v.oneCell' = true)
    (hK : ∀ s', Step (KC l.o l.c) s s' → RB s' g l e (cur.take o ++ zv.cells.toList ++ cur.drop (o + w1)) → KL P n Df ops Q rest ρ s'.w) :
    KL P n Df ops Q (⟨none, .call { callee := .builtin .clear, args := [x].toArray, argTypes := [t].toArray }, ty, pos, aft, none⟩ :: rest) ρ s.w := by
  obtain ⟨i', e1, e2, e3, e4, e5, e6, e7⟩ := hT
  have hzl : zv.cells.toList.length = w1 := by simpa using e6
  have hst := run_storeCells_cells (P := P) g o zv.cells.toList 0 s.w (fun j hj => by rw [Nat.add_zero, hb.cell, List.getElem?_eq_getElem (by omega)]; rfl) (fun j hj => by simp [World.frozen?, hb.heap]) h1
  simp only [Nat.add_zero] at hst
  have hzc := zeroCells_one (zs := zv.cells) (by omega)
  obtain ⟨r1, r2, r3, r4⟩ := setCells_rest g zv.cells.toList o s.w
  have hset := heap_setCells g zv.cells.toList o s.w cur e (0, 0) hb.heap (by omega)
  rw [hzl] at hset
  have st : Step (KC l.o l.c) s (s.re (s.w.setCells g o zv.cells.toList)) := by
    refine ⟨r1, r2, r3, Nat.le_of_eq r4.symm, fun b' hb' hk => ⟨heap_setCells_ne g b' ?_ _ _ s.w, rfl⟩, fun c hc => h0 hc.1.symm⟩
    rintro rfl
    exact hk (by rw [hb.lab]; exact ⟨rfl, rfl⟩)
  refine .effv rfl rfl (v := .tuple #[]) (w' := s.w.setCells g o zv.cells.toList) (fun η ha => ?_) (hK (s.re _) st ⟨hset, hb.lab⟩)
  simp [execOp, resolve, invoke, builtin, ha.ev hx, Builtin.clear_, run_underlying e1, zeroValue, typeInfo, e2, e3, hzc, hst]
theorem k_cut3 {e w1 g o m cap : Nat} {i j q : Nat} {k1 k2 k3 : IntKind} {lo hi mx : Operand} (hT : P.underlying tx = some (.slice e)) (hs : sizeT P e w1 = true) (hx : ev ρ x = some (.slice (some ⟨g, o, none⟩) m cap))
    (hlo : ev ρ lo = some (.int k1 (i : Int))) (hhi : ev ρ hi = some (.int k2 (j : Int))) (hmx : ev ρ mx = some (.int k3 (q : Int))) (hij : i ≤ j) (hj : j ≤ q) (hq : q ≤ cap) (hd : Nat.blt d n = true)
    (hK : KL P n Df ops Q rest ((d, .slice (some (if q = i then ⟨g, o, none⟩ else ⟨g, o + i * w1, none⟩)) (j - i) (q - i)) :: ρ) w0) :
    KL P n Df ops Q (⟨some d, .slice tx x (some lo) (some hi) (some mx), ty, pos, aft, none⟩ :: rest) ρ w0 := by
  refine .val rfl rfl hd (fun η hη => ?_) hK
  by_cases c : q = i
  · subst c
    obtain rfl : j = q := Nat.le_antisymm hj hij
    simp [execOp, hη.ev hx, hη.ev hlo, hη.ev hhi, hη.ev hmx, Instr.sliceAt, Instr.slice, Instr.sliceBounds, Instr.sliceBound, asIntOf, run_underlying hT, run_sizeOf hs, hq, addr_add]
  · simp [execOp, hη.ev hx, hη.ev hlo, hη.ev hhi, hη.ev hmx, Instr.sliceAt, Instr.slice, Instr.sliceBounds, Instr.sliceBound, asIntOf, run_underlying hT, run_sizeOf hs, hij, hj, hq, addr_add, c]
end
end Go.Fw
namespace Go.Fw
section
variable {P : Program} {n : Nat} {Df : Md} {ops : Array Oper} {Q : Post} {rest : List Oper} {ρ : Env} {s : St} {w0 : World}
variable {d : Nat} {ty : TypeId} {pos : String} {aft : Array Edge} {x y z : Operand} {tx tyy : TypeId}
theorem k_len_raw {e : TypeId} {a : Option Addr} {m cap : Nat} {t : TypeId} (hT : P.underlying t = some (.slice e)) (hx : ev ρ x = some (.slice a m cap)) (hd : Nat.blt d n = true)
    (hK : KL P n Df ops Q rest ((d, .int .i64 (m : Int)) :: ρ) w0) : KL P n Df ops Q (⟨some d, .call { callee := .builtin .len, args := [x].toArray, argTypes := [t].toArray }, ty, pos, aft, none⟩ :: rest) ρ w0 :=
  .val rfl rfl hd (fun η ha => by simp [execOp, resolve, invoke, builtin, ha.ev hx, Builtin.len_, Builtin.lenOf, goInt, run_underlying hT]) hK
theorem k_cut_any {w1 g o m cap i j : Nat} {e : TypeId} {lo hi : Option Operand} (hT : P.underlying tx = some (.slice e)) (hs : sizeT P e w1 = true) (hx : ev ρ x = some (.slice (some ⟨g, o, none⟩) m cap))
    (hlo : CutAt ρ 0 lo i) (hhi : CutAt ρ m hi j) (hij : i ≤ j) (hj : j ≤ cap) (hd : Nat.blt d n = true)
    (hK : KL P n Df ops Q rest ((d, .slice (some (if cap = i then ⟨g, o, none⟩ else ⟨g, o + i * w1, none⟩)) (j - i) (cap - i)) :: ρ) w0) :
    KL P n Df ops Q (⟨some d, .slice tx x lo hi none, ty, pos, aft, none⟩ :: rest) ρ w0 := by
  by_cases c : cap = i
  · rw [if_pos c] at hK
    have hlo := hlo.lo
    have hhi := hhi.hi
    have hji : j = i := by omega
    subst hji
    subst c
    have hrun : ∀ η : Operand → Value, Agr ρ η → (execOp η ⟨some d, .slice tx x lo hi none, ty, pos, aft, none⟩).run P w0 = .ok (.value (.slice (some ⟨g, o, none⟩) (cap - cap) (cap - cap))) w0 := by
      intro η hη
      cases lo with
      | none =>
        simp only at hlo
        subst hlo
        cases hi with
        | none => simp only at hhi; subst hhi; simp [execOp, hη.ev hx, Instr.sliceAt, Instr.slice, Instr.sliceBounds, run_underlying hT, run_sizeOf hs, addr_add]
        | some z => obtain ⟨k, hz⟩ := hhi; simp [execOp, hη.ev hx, hη.ev hz, Instr.sliceAt, Instr.slice, Instr.sliceBounds, Instr.sliceBound, asIntOf, run_underlying hT, run_sizeOf hs, addr_add]
      | some yy =>
        obtain ⟨k, hy⟩ := hlo
        cases hi with
        | none => simp only at hhi; subst hhi; simp [execOp, hη.ev hx, hη.ev hy, Instr.sliceAt, Instr.slice, Instr.sliceBounds, Instr.sliceBound, asIntOf, run_underlying hT, run_sizeOf hs, addr_add]
        | some z => obtain ⟨k', hz⟩ := hhi; simp [execOp, hη.ev hx, hη.ev hy, hη.ev hz, Instr.sliceAt, Instr.slice, Instr.sliceBounds, Instr.sliceBound, asIntOf, run_underlying hT, run_sizeOf hs, addr_add]
    exact .val rfl rfl hd hrun hK
  · rw [if_neg c] at hK
    exact k_cut_raw hT hs hx hlo hhi hij hj (by omega) hd hK
end
end Go.Fw
namespace Go.Fw
section
variable {P : Program} {n : Nat} {Df : Md} {ops : Array Oper} {Q : Post} {rest : List Oper} {ρ : Env} {s : St} {w0 : World}
variable {d : Nat} {ty : TypeId} {pos : String} {aft : Array Edge} {x y z : Operand} {tx tyy : TypeId}
theorem run_equalIn_fnil (w : World) (d : Nat) (t : TypeId) {f : Fn} {b c : Array Value} {ps rs : Array TypeId} {v : Bool} (hT : P.underlying t = some (.func ps rs v)) : (Op.equalIn (d + 1) t (.func f b c) .nilFunc).run P w = .ok false w := by
  unfold Op.equalIn
  simp [run_underlying hT]
theorem run_eql_fnil (w : World) (t : TypeId) {f : Fn} {b c : Array Value} {ps rs : Array TypeId} {v : Bool} (hT : P.underlying t = some (.func ps rs v)) : (binOp .eql t (.func f b c) .nilFunc).run P w = .ok (.bool false) w := by
  simp only [binOp]
  simp [Op.equal, Op.maxDepth, run_equalIn_fnil w 9999 t hT]
theorem k_eql_fnil {f : Fn} {b c : Array Value} {ps rs : Array TypeId} {v : Bool} (hT : P.underlying tx = some (.func ps rs v)) (hx : ev ρ x = some (.func f b c)) (hy : ev ρ y = some .nilFunc) (hd : Nat.blt d n = true)
    (hK : KL P n Df ops Q rest ((d, .bool false) :: ρ) w0) : KL P n Df ops Q (⟨some d, .binOp .eql tx x y tyy, ty, pos, aft, none⟩ :: rest) ρ w0 :=
  .val rfl rfl hd (fun η ha => by
    simp [execOp, ha.ev hx, ha.ev hy, eqGuard, run_eql_fnil w0 tx hT]) hK
/-- A package's variable that nobody writes. -/
def GlobS (P : Program) (s : St) (name : String) (cs : Array Value) : Prop := s.w.var? P name = some cs ∧ ∃ g, P.globalNamed name = some g ∧ g < s.n ∧ s.g g = L0
theorem GlobS.up2 {K : Lab → Prop} {s s' : St} {name : String} {cs : Array Value} (h : GlobS P s name cs) (st : Step K s s') : GlobS P s' name cs := by
  obtain ⟨h1, g, h2, h3, h4⟩ := h
  obtain ⟨e1, e2⟩ := st.keep g h3 (by rw [h4]; exact st.imm 0)
  refine ⟨?_, g, h2, Nat.lt_of_lt_of_le h3 st.size, e2.trans h4⟩
  rw [← h1]
  simp only [World.var?, h2, Option.bind_some, e1]
end
end Go.Fw
namespace Go.Fw
theorem geti_mne {α : Type} {f : α → D} {l : List α} {i : Int} {x : α} (h : geti l i = some x) : l.map f ≠ [] := by
  intro e
  have := (geti_out h).2.1
  have h2 : l.length = 0 := by rw [← List.length_map (f := f), e]; rfl
  have h3 := (geti_out h).1
  omega
end Go.Fw
