import Derived.Test.YtepifllifhikiaaDoorFwS
import Derived.LoopNIn
import Derived.Laws.StructEq
set_option linter.unusedSimpArgs false
set_option linter.unusedVariables false
namespace Go.Fw
/-! loops of a known number of rounds; rows of pointers; what is lent to a call -/
section
variable {P : Program} {n : Nat} {Df : Md} {F : Post} {k : List It} {ρ : Env} {w : World}
/-- So many rounds at most are left. -/
def RG (P : Program) (n : Nat) (Df : Md) (F : Post) (body : Code) (k : List It) : Nat → Env → World → Prop
  | 0, _, _ => False
  | m + 1, ρ, w => G P n Df F (.code body :: .stop (fun ρ' w' => RG P n Df F body k m ρ' w') :: k) ρ w
theorem k_rounds {body : Code} (m : Nat) (h : RG P n Df F body k m ρ w) : G P n Df F (.code (.loop body) :: k) ρ w := by
  intro a ha
  refine wpIn_loop_rounds m ?_
  induction m generalizing ρ w a with
  | zero => exact h.elim
  | succ m ih =>
    rw [roundsIn_succ]
    refine wpIn_mono (h a ha) ?_
    rintro e a' w' ⟨ρ', hag', hq⟩
    cases e with
    | normal => exact ih hq a' hag'
    | exit i => exact ⟨ρ', hag', hq⟩
    | goto l => exact ⟨ρ', hag', hq⟩
    | ret => exact ⟨ρ', hag', hq⟩
    | panic ch => exact ⟨ρ', hag', hq⟩
    | outgrown => exact ⟨ρ', hag', hq⟩
theorem k_round {body : Code} {m : Nat} (h : G P n Df F (.code body :: .stop (fun ρ' w' => RG P n Df F body k m ρ' w') :: k) ρ w) : RG P n Df F body k (m + 1) ρ w := h
theorem k_stopr {body : Code} {m : Nat} {k' : List It} (h : RG P n Df F body k m ρ w) : G P n Df F (.stop (fun ρ' w' => RG P n Df F body k m ρ' w') :: k') ρ w := h
end
/-- A call while what is one's own is nobody's. -/
theorem borrow {P : Program} {f : FuncId} {args : Array Value} {s s2 : St} {φ : Value → Prop} (e : s2.w = s.w) (h : Calls P f args s2.w (Ret s2 K0 (fun _ v => φ v))) : Calls P f args s.w (Ret s K0 (fun _ v => φ v)) := by
  rw [e] at h
  refine h.mono ?_
  rintro u w' ⟨s3, v, rfl, rfl, st, hv⟩
  have hn : s2.n = s.n := by show s2.w.heap.size = s.w.heap.size; rw [e]
  classical
  let s4 : St := ⟨s3.w, fun b => if b < s.n then s.g b else s3.g b, fun b => by
    by_cases hb : b < s.n
    · simp [hb]; exact s.wf b
    · simp [hb]; exact s3.wf b⟩
  refine ⟨s4, v, rfl, rfl, ⟨by show s3.w.os = _; rw [st.os, e], by show s3.w.tape = _; rw [st.tape, e], by show s3.w.output = _; rw [st.output, e], by show s.n ≤ s3.n; rw [← hn]; exact st.size, fun b hb hk => ⟨?_, by simp [s4, hb]⟩, fun _ h => h⟩, hv⟩
  have := (st.keep b (by rw [hn]; exact hb) (fun h => h)).1
  show s3.w.heap[b]? = _
  rw [this, e]
section
variable {P : Program} {n : Nat} {Df : Md} {ops : Array Oper} {Q : Post} {rest : List Oper} {ρ : Env} {s : St} {w0 : World}
variable {d : Nat} {ty : TypeId} {pos : String} {aft : Array Edge} {x y : Operand} {tx tyy : TypeId}
theorem evp_len {ps : List (Nat × Operand)} : ∀ {i : Nat} {vs : List Value}, evp ρ i ps = some vs → True := fun _ => trivial
/-- A row of values as they are, one cell each. -/
theorem k_bslice_raw {t e m : Nat} {z : Value} {ps : List (Nat × Operand)} {vs : List Value} (hT : sliceT P t e 1 z) (hx : evp ρ 0 ps = some vs) (hm : vs.length = m) (hw : ∀ v ∈ vs, v.cells = #[v]) (hs : Nat.ble (m * 1) 16777216 = true) (hd : Nat.blt d n = true)
    (hK : ∀ s' b, Step K0 s s' → s.n ≤ b → b < s'.n → Blk s' b ⟨b + 1, 0⟩ vs e → KL P n Df ops Q rest ((d, .slice (some ⟨b, 0, none⟩) m m) :: ρ) s'.w) :
    KL P n Df ops Q (⟨some d, .buildSlice t m ps.toArray, ty, pos, aft, none⟩ :: rest) ρ s.w := by
  have e1 : ((vs.map fun v => v.cells.toList).flatten) = vs := by
    clear hx hm hs hK
    induction vs with
    | nil => rfl
    | cons v vs ih =>
      rw [List.map_cons, List.flatten_cons, ih (fun u hu => hw u (by simp [hu])), hw v (by simp)]
      rfl
  have hB : Blk (s.to (s.w.alloc (.cells ((vs.map fun v => v.cells.toList).flatten).toArray e)) ⟨s.n + 1, 0⟩ (Nat.le_refl _)) s.n ⟨s.n + 1, 0⟩ vs e := by
    have h2 := blk_alloc (s := s) (cs := ((vs.map fun v => v.cells.toList).flatten).toArray) (T := e) (l := ⟨s.n + 1, 0⟩) (hl := Nat.le_refl _)
    have h3 : ((vs.map fun v => v.cells.toList).flatten).toArray.toList = vs := e1
    rw [h3] at h2
    exact h2
  have st : Step K0 s (s.to (s.w.alloc (.cells ((vs.map fun v => v.cells.toList).flatten).toArray e)) ⟨s.n + 1, 0⟩ (Nat.le_refl _)) := St.to_alloc
  refine .val rfl rfl hd (v := .slice (some ⟨s.n, 0, none⟩) m m) (w' := s.w.alloc (.cells ((vs.map fun v => v.cells.toList).flatten).toArray e)) (fun η ha => ?_) (hK (s.to _ ⟨s.n + 1, 0⟩ (Nat.le_refl _)) s.n st (Nat.le_refl _) (by show s.n < (s.w.alloc _).heap.size; simp) hB)
  have := run_buildSlice (P := P) (w0 := s.w) (vs := vs) (m := m) hT hm (fun v hv => by rw [hw v hv]; rfl) (by simpa using hs)
  simp only [execOp]
  have hev := ha.evp hx
  have hpa : (ps.toArray.map fun (p : Nat × Operand) => (p.1, η p.2)) = ((vs.zipIdx 0).map fun p => (p.2, p.1)).toArray := by rw [← hev]; simp
  simp [hpa, this]
theorem k_ixaddr_raw {b len cap i : Nat} {e : TypeId} {k : IntKind} {p : Int} (hT : P.underlying tx = some (.slice e)) (hs : sizeT P e 1 = true) (hx : ev ρ x = some (.slice (some ⟨b, 0, none⟩) len cap)) (hy : ev ρ y = some (.int k p)) (hi : p = (i : Int)) (hl : Nat.blt i len = true) (hd : Nat.blt d n = true)
    (hK : KL P n Df ops Q rest ((d, .pointer (some ⟨b, i, none⟩)) :: ρ) w0) :
    KL P n Df ops Q (⟨some d, .indexAddr tx x y, ty, pos, aft, none⟩ :: rest) ρ w0 := by
  subst hi
  have hl' : i < len := by simpa using hl
  refine .val rfl rfl hd (v := .pointer (some ⟨b, i, none⟩)) (w' := w0) (fun η hη => ?_) hK
  have := run_indexAt_slice (P := P) (w0 := w0) (b := b) (off := 0) (cap := cap) (k := k) hT hs (show (0 : Int) ≤ (i : Int) by omega) (show (i : Int) < (len : Int) by omega)
  simp only [Int.toNat_natCast, Nat.mul_one, Nat.zero_add] at this
  simp [execOp, hη.ev hx, hη.ev hy, this]
theorem freeze_heap (w : World) (g n : Nat) (cur : Array Value) (e : TypeId) (h : w.heap[g]? = some (.cells cur e (0, 0))) : (w.freeze ⟨g, n, none⟩ 1).heap[g]? = some (.cells cur e (n, n + 1)) := by
  unfold World.freeze
  rw [if_neg (by decide)]
  have hg : g < w.heap.size := (Array.getElem?_eq_some_iff.1 h).1
  have h2 : w.heap[g] = .cells cur e (0, 0) := (Array.getElem?_eq_some_iff.1 h).2
  rw [Array.getElem?_modify, if_pos rfl, h]
  rfl
theorem freeze_other (w : World) (g n b : Nat) (hb : b ≠ g) : (w.freeze ⟨g, n, none⟩ 1).heap[b]? = w.heap[b]? := by
  unfold World.freeze
  rw [if_neg (by decide)]
  simp [Array.getElem?_modify, Ne.symm hb]
theorem freeze_rest (w : World) (g n : Nat) : (w.freeze ⟨g, n, none⟩ 1).os = w.os ∧ (w.freeze ⟨g, n, none⟩ 1).tape = w.tape ∧ (w.freeze ⟨g, n, none⟩ 1).output = w.output ∧ (w.freeze ⟨g, n, none⟩ 1).heap.size = w.heap.size := by
  unfold World.freeze
  rw [if_neg (by decide)]
  simp
/-- []byte of a text that is written down: nobody writes it any more. -/
theorem k_conv_sl {l : Lab} {e : TypeId} {v : Value} {ds : List D} (hT : P.underlying tx = some (.slice e)) (he : P.underlying e = some (.int .u8)) (hx : ev ρ x = some v) (h : Own s l e 1 v ds) (hpos : 0 < ds.length) (hd : Nat.blt d n = true)
    (hK : ∀ s', Step (KC l.o l.c) s s' → R s' v (.sl 1 ds) → KL P n Df ops Q rest ((d, v) :: ρ) s'.w) :
    KL P n Df ops Q (⟨some d, .convert tx tx x, ty, pos, aft, none⟩ :: rest) ρ s.w := by
  classical
  have h0 := h.1
  obtain ⟨g, cap, rfl⟩ : ∃ g cap, v = .slice (some ⟨g, 0, none⟩) ds.length cap := by
    obtain ⟨h0, h1', ys, ho, hg, hr⟩ := h
    rcases ho.2 with ⟨rfl, hn⟩ | ⟨g', cap', cur, rfl, hb, hgg, hle', hcm, hcs, ht⟩
    · omega
    · exact ⟨_, _, rfl⟩
  obtain ⟨cur, hgg, hgl, hsz, hlc, hcm, hrr, hlen⟩ := h.heap rfl hpos
  have hgn : g < s.n := (Array.getElem?_eq_some_iff.1 hgg).1
  obtain ⟨f1, f2, f3, f4⟩ := freeze_rest s.w g cur.size
  let s' : St := ⟨s.w.freeze ⟨g, cur.size, none⟩ 1, fun b => if b = g then L0 else s.g b, fun b => by by_cases hb : b = g <;> simp [hb]; exact s.wf b⟩
  have st : Step (KC l.o l.c) s s' := by
    refine ⟨f1, f2, f3, Nat.le_of_eq f4.symm, fun b hb hk => ?_, fun c hc => h0 hc.1.symm⟩
    have hne : b ≠ g := by rintro rfl; exact hk (by rw [hgl]; exact ⟨rfl, rfl⟩)
    exact ⟨freeze_other _ _ _ _ hne, by simp [s', hne]⟩
  have hcell : ∀ j, s'.w.cell? ⟨g, j, none⟩ = s.w.cell? ⟨g, j, none⟩ := fun j => by
    have := freeze_heap s.w g cur.size cur e hgg
    simp only [World.cell?, s', this, hgg]
  have hR : R s' (.slice (some ⟨g, 0, none⟩) ds.length cap) (.sl 1 ds) := by
    refine R.of_SL ?_
    rcases h.sl with ⟨hn, _⟩ | ⟨b, off, cap', cs, hv, hb, hgb, hcap, hw, hc, hr⟩
    · rw [hn] at hpos; exact absurd hpos (Nat.lt_irrefl _)
    · injection hv with e1 e2 e3
      injection e1 with e1; injection e1 with e1 e4
      subst e1; subst e3; subst e4
      exact .inr ⟨g, 0, cap, cs, rfl, by show g < (s.w.freeze _ _).heap.size; rw [f4]; exact hgn, by simp [s'], hcap, hw, fun i hi j hj => (hcell _).trans (hc i hi j hj), fun i hi => (hr i hi).up st⟩
  refine .val rfl rfl hd (v := .slice (some ⟨g, 0, none⟩) ds.length cap) (w' := s'.w) (fun η ha => ?_) (hK s' st hR)
  have hsh : s.w.shape? g = some (e, cur.size) := by simp [World.shape?, hgg]
  simp [execOp, ha.ev hx, convert, run_underlying hT, run_underlying he, markStringish, hsh, s']
/-- 'and' of numbers of 64 bits with a sign. -/
def andI (p q : Int) : Int := IntKind.i64.wrap ((BitVec.ofInt IntKind.i64.bits p &&& BitVec.ofInt IntKind.i64.bits q).toNat : Int)
/-! structs compared -/
def eqv : Value → Value → Bool
  | .int _ a, .int _ b => decide (a = b)
  | .bool a, .bool b => decide (a = b)
  | .string a, .string b => decide (a.toList = b.toList)
  | _, _ => false
def eqvs : List Value → List Value → Bool
  | v :: vs, u :: us => eqv v u && eqvs vs us
  | _, _ => true
/-- Two values of one type that has no parts. -/
def alikeV (P : Program) (t : TypeId) : Value → Value → Bool
  | .int k _, .int k' _ => (match P.underlying t with | some (.int _) => decide (k = k') | _ => false)
  | .bool _, .bool _ => (match P.underlying t with | some .bool => true | _ => false)
  | .string _, .string _ => (match P.underlying t with | some .string => true | _ => false)
  | _, _ => false
def alikeF (P : Program) : Nat → List Field → List Value → List Value → Prop
  | _, [], [], [] => True
  | i, f :: fs, v :: vs, u :: us => (f.name ≠ "_" ∧ f.offset = i ∧ (match P.underlying f.type with | some (.struct _) => false | some (.array _ _) => false | some _ => true | none => false) = true ∧ alikeV P f.type v u = true) ∧ alikeF P (i + 1) fs vs us
  | _, _, _, _ => False
theorem run_equalIn_v {P : Program} {w : World} {t : TypeId} {v u : Value} (k : Nat) (h : alikeV P t v u = true) : (Op.equalIn (k + 1) t v u).run P w = .ok (eqv v u) w := by
  unfold alikeV at h
  split at h
  · split at h
    · rename_i hu
      have h := of_decide_eq_true h
      subst h
      rw [run_equalIn_int w k _ _ _ _ _ hu]
      rfl
    · cases h
  · split at h
    · rename_i hu
      rw [run_equalIn_bool' w k _ _ _ hu]
      simp [eqv]
      congr 1
    · cases h
  · split at h
    · rename_i hu
      rw [run_equalIn_string w k _ _ _ hu]
      simp only [eqv]
      congr 1
      rw [Bool.eq_iff_iff]; simp
    · cases h
  · cases h
theorem run_eqFields {P : Program} {w : World} (k : Nat) {xs ys : List Value} : ∀ {fs : List Field} {vs us : List Value} {i : Nat}, alikeF P i fs vs us → xs.drop i = vs → ys.drop i = us → (Op.eqFields (k + 1) xs.toArray ys.toArray fs).run P w = .ok (eqvs vs us) w
  | [], [], [], _, _, _, _ => by simp [Op.eqFields, eqvs]
  | f :: fs, v :: vs, u :: us, i, h, e1, e2 => by
    obtain ⟨⟨h1, rfl, h3, h4⟩, h5⟩ := h
    have g1 : xs[f.offset]? = some v := by have := congrArg List.head? e1; simpa using this
    have g2 : ys[f.offset]? = some u := by have := congrArg List.head? e2; simpa using this
    have g3 : xs.drop (f.offset + 1) = vs := by have := congrArg List.tail e1; simpa using this
    have g4 : ys.drop (f.offset + 1) = us := by have := congrArg List.tail e2; simpa using this
    have ha : ∀ w, (isAgg f.type).run P w = .ok false w := fun w => by
      cases hu : P.underlying f.type with
      | none => rw [hu] at h3; cases h3
      | some d => rw [hu] at h3; simp only [isAgg, Sem.run_bind, run_underlying hu, Result.andThen_ok]; cases d <;> first | rfl | cases h3
    have hp : ∀ (cs : List Value) (c : Value), cs[f.offset]? = some c → (part f.type cs.toArray f.offset).run P w = .ok c w := fun cs c hc => by
      simp [part, ha, hc]
    simp only [Op.eqFields, h1, ne_eq, not_false_eq_true, if_true, Sem.run_bind, hp _ _ g1, hp _ _ g2, Result.andThen_ok, run_equalIn_v k h4]
    cases hv : eqv v u with
    | true =>
      simp only [Bool.not_true, Bool.false_eq_true, if_false, eqvs, hv, Bool.true_and]
      exact run_eqFields k h5 g3 g4
    | false => simp [eqvs, hv]
def flatT (P : Program) (t : TypeId) (vs us : List Value) : Prop := P.underlying t = some (.struct (P.fieldsOf t)) ∧ P.stoodInHeld t = false ∧ P.eqGuardType P.depth t = false ∧ alikeF P 0 (P.fieldsOf t).toList vs us
theorem k_eql_flat {vs us : List Value} {p : Prop} [Decidable p] (hT : flatT P tx vs us) (hx : ev ρ x = some (.agg vs.toArray)) (hy : ev ρ y = some (.agg us.toArray)) (hb : eqvs vs us = decide p) (hd : Nat.blt d n = true)
    (hK : KL P n Df ops Q rest ((d, .bool (decide p)) :: ρ) w0) : KL P n Df ops Q (⟨some d, .binOp .eql tx x y tyy, ty, pos, aft, none⟩ :: rest) ρ w0 := by
  obtain ⟨h1, h2, h3, h4⟩ := hT
  refine .val rfl rfl hd (v := .bool (decide p)) (w' := w0) (fun η ha => ?_) hK
  have e1 := run_equalIn_struct (P := P) w0 9999 tx vs.toArray us.toArray h1 h2
  have e2 := run_eqFields (P := P) (w := w0) 9998 (xs := vs) (ys := us) h4 (List.drop_zero) (List.drop_zero)
  simp only [execOp, ha.ev hx, ha.ev hy, Sem.run_bind, run_eqGuard_agg w0 _ tx _ _ _ _ h3, Result.andThen_ok, run_eql_struct, e1, e2, hb]
  rfl
theorem k_neq_flat {vs us : List Value} {p : Prop} [Decidable p] (hT : flatT P tx vs us) (hx : ev ρ x = some (.agg vs.toArray)) (hy : ev ρ y = some (.agg us.toArray)) (hb : eqvs vs us = decide p) (hd : Nat.blt d n = true)
    (hK : KL P n Df ops Q rest ((d, .bool (decide (¬ p))) :: ρ) w0) : KL P n Df ops Q (⟨some d, .binOp .neq tx x y tyy, ty, pos, aft, none⟩ :: rest) ρ w0 := by
  obtain ⟨h1, h2, h3, h4⟩ := hT
  refine .val rfl rfl hd (v := .bool (decide (¬ p))) (w' := w0) (fun η ha => ?_) hK
  have e1 := run_equalIn_struct (P := P) w0 9999 tx vs.toArray us.toArray h1 h2
  have e2 := run_eqFields (P := P) (w := w0) 9998 (xs := vs) (ys := us) h4 (List.drop_zero) (List.drop_zero)
  simp only [execOp, ha.ev hx, ha.ev hy, Sem.run_bind, run_eqGuard_agg w0 _ tx _ _ _ _ h3, Result.andThen_ok, run_neq_struct, e1, e2, hb]
  simp
end
section
variable {P : Program} {n : Nat} {Df : Md} {ops : Array Oper} {K : Lab → Prop} {Fin : Env → St → Prop} {r r2 : PT} {i : Nat} {ρ : Env} {s : St}
variable {d j : Nat} {ty : TypeId} {pos : String} {aft : Array Edge} {x y : Operand} {tx : TypeId} {g : Option (Nat × Bool)}
theorem rt_ldagg {l : Lab} {p : Value} {ds : List D} (ho : ops[i]? = some ⟨some d, .load tx x, ty, pos, aft, g⟩) (hg : Wanted P n Df ops (rst ρ ((⟨some d, .load tx x, ty, pos, aft, g⟩ : Oper).looksAt ops)) ⟨some d, .load tx x, ty, pos, aft, g⟩)
    (hT : aggT P tx (D.agg ds).wd = true) (hx : ev (rst ρ ((⟨some d, .load tx x, ty, pos, aft, g⟩ : Oper).looksAt ops)) x = some p) (h : At s l p (.agg ds)) (hk : ¬ K l) (hd : Nat.blt d n = true)
    (hr : ∀ cs : List Value, RC s cs (.agg ds) → RT P n Df ops K Fin r ((d, .agg cs.toArray) :: ρ) s) : RT P n Df ops K Fin (.read i r) ρ s := by
  obtain ⟨b, off, cs, rfl, hb, hgl, hc, h⟩ := h
  have hk' : ¬ K (s.g b) := by rw [hgl]; exact hk
  refine rt_read (.agg cs.toArray) ho rfl (fun s' st => hg _ _ ?_) (hr _ h)
  refine .val rfl rfl hd (v := .agg cs.toArray) (w' := s'.w) (fun η ha => ?_) fq_end
  have hc' : ∀ j, j < cs.length → s'.w.cell? ⟨b, off + j, none⟩ = cs[j]? := fun j hj => (st.cell hb hk' _).trans (hc j hj)
  simp [execOp, ha.ev hx, Instr.loadAt, Instr.sureAddr, run_loadVar_agg (by rw [h.len]; exact hT) hc']
end
theorem ones.arr {pre : List Value} (xs : List Int) (h : pre.all Value.oneCell' = true) : (pre ++ xs.map cI).all Value.oneCell' = true := by
  rw [List.all_append, h, Bool.true_and]
  induction xs with
  | nil => rfl
  | cons x xs ih => rw [List.map_cons, List.all_cons, ih]; rfl
section
variable {P : Program} {n : Nat} {Df : Md} {ops : Array Oper} {Q : Post} {rest : List Oper} {ρ : Env} {s : St} {w0 : World}
variable {d : Nat} {ty : TypeId} {pos : String} {aft : Array Edge} {x y : Operand} {tx tyy : TypeId}
/-- A whole block is written over. -/
theorem k_store_all {b m : Nat} {l : Lab} {cs cs' : List Value} {T : TypeId} {v : Value} (hT : sizeT P tx m = true) (hx : ev ρ x = some (.pointer (some ⟨b, 0, none⟩))) (hy : ev ρ y = some v) (hb : Blk s b l cs T) (hl0 : l.o ≠ 0)
    (hc : CellsOf v cs') (hm : cs'.length = m) (hcs : cs.length = m)
    (hK : ∀ s', Step (KC l.o l.c) s s' → Blk s' b l cs' T → KL P n Df ops Q rest ρ s'.w) :
    KL P n Df ops Q (⟨none, .store tx x y, ty, pos, aft, none⟩ :: rest) ρ s.w :=
  k_store_c (cs' := cs') hT hx hy hb hl0 hc (by rw [hm]; exact Nat.beq_refl m) (by rw [hcs, Nat.zero_add]; simp) (by rw [List.take_zero, List.nil_append, Nat.zero_add, List.drop_eq_nil_of_le (by rw [hcs]; exact Nat.le_refl _), List.append_nil]) hK
end
end Go.Fw
