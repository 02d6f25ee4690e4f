import Derived.Test.YtepifllifhikiaaDoorFwV
import Derived.Laws.AppendOwn
set_option linter.unusedSimpArgs false
set_option linter.unusedVariables false
namespace Go.Fw
/-! values of interface types -/
theorem R.ifc_inv {s : St} {v : Value} {t : TypeId} {d : D} (h : R s v (.ifc t d)) : ∃ v', v = .iface t v' ∧ R s v' d := by
  have h : RC s [v] (.ifc t d) := h
  generalize e : [v] = vs at h
  cases h with
  | ifc t v' cs d hv h =>
    injection e with e _
    refine ⟨v', e, ?_⟩
    rcases hv with ⟨h1, h2⟩ | ⟨h1, h2⟩
    · cases d <;> simp [D.isAgg] at h1
      exact ⟨cs.toArray, h2, by simpa using h⟩
    · subst h2
      cases d <;> simp [D.isAgg] at h1 <;> exact h
theorem R.ifc_mk {s : St} {v : Value} {t : TypeId} {d : D} (h : R s v d) : R s (.iface t v) (.ifc t d) := by
  show RC s [.iface t v] (.ifc t d)
  cases d with
  | agg ds => obtain ⟨cs, e, h⟩ := h; exact .ifc t v cs.toList _ (.inl ⟨rfl, by simpa using e⟩) h
  | val u => exact .ifc t v [v] _ (.inr ⟨rfl, rfl⟩) h
  | sl w l => exact .ifc t v [v] _ (.inr ⟨rfl, rfl⟩) h
  | ptr d => exact .ifc t v [v] _ (.inr ⟨rfl, rfl⟩) h
  | ifc t2 d => exact .ifc t v [v] _ (.inr ⟨rfl, rfl⟩) h
/-- How a method of a type is found. -/
def methT (P : Program) (t : TypeId) (name : String) (f : FuncId) : Prop := ∀ v w, (method (P.types.size + Made.depth) t v name).run P w = .ok (f, v) w
section
variable {P : Program} {n : Nat} {Df : Md} {ops : Array Oper} {Q : Post} {rest : List Oper} {ρ : Env} {s : St} {w0 : World}
variable {d : Nat} {ty : TypeId} {pos : String} {aft : Array Edge} {x y z : Operand} {tx tyy : TypeId}
theorem k_makeIface {T : TypeId} {v : Value} (hc : P.concrete T = true) (hx : ev ρ x = some v) (hd : Nat.blt d n = true) (hK : KL P n Df ops Q rest ((d, .iface T v) :: ρ) w0) :
    KL P n Df ops Q (⟨some d, .makeInterface T x, ty, pos, aft, none⟩ :: rest) ρ w0 :=
  .val rfl rfl hd (fun η ha => by simp [execOp, ha.ev hx, run_makeInterface _ T v hc]) hK
theorem k_methodValue {v : Value} {name : String} (hx : ev ρ x = some v) (hd : Nat.blt d n = true) (hK : KL P n Df ops Q rest ((d, .func (.method name) #[v] #[]) :: ρ) w0) :
    KL P n Df ops Q (⟨some d, .makeFunc (.method name) [x].toArray [].toArray, ty, pos, aft, none⟩ :: rest) ρ w0 :=
  .val rfl rfl hd (fun η ha => by simp [execOp, ha.ev hx, Instr.makeFunc]) hK
/-- A call by a method's name. -/
def Invokes (P : Program) (v : Value) (name : String) (vs : List Value) (w : World) (T : Ending → World → Prop) : Prop :=
  ∃ t u f, v = .iface t u ∧ methT P t name f ∧ Callable P f ∧ Calls P f (u :: vs).toArray w T
theorem k_invoke {K : Lab → Prop} {φ : St → Value → Prop} {name : String} {xs : List Operand} {ats : Array TypeId} {v : Value} {vs : List Value} (hv : ev ρ x = some v) (hx : evs ρ xs = some vs)
    (hc : Invokes P v name vs s.w (Ret s K φ)) (hd : Nat.blt d n = true) (hK : ∀ s' u, Step K s s' → φ s' u → KL P n Df ops Q rest ((d, u) :: ρ) s'.w) :
    KL P n Df ops Q (⟨some d, .call { callee := .invoke x name, args := xs.toArray, argTypes := ats }, ty, pos, aft, none⟩ :: rest) ρ s.w := by
  intro a ha
  refine wpListIn_plain rfl fun K' hk => ?_
  obtain ⟨t, u, f, rfl, hm, ⟨fn, h1, h2, h3⟩, hc⟩ := hc
  have hr : (execOp a.eval ⟨some d, .call { callee := .invoke x name, args := xs.toArray, argTypes := ats }, ty, pos, aft, none⟩).run P s.w = .ok (.enter f (u :: vs).toArray) s.w := by
    have hx' := Agr.evs (η := a.eval) (fun _ _ e => ha.ev e) hx
    have h2' : ¬ fn.name = "runtime.NumGoroutine" := by intro e; rw [e] at h2; simp at h2
    have h3' : ¬ fn.body = none := by intro e; rw [e] at h3; simp at h3
    unfold execOp
    simp only [resolve, ha.ev hv]
    have := hm u s.w
    rw [show Made.depth = 100 from rfl] at this
    simp [invoke, callMethod, callFunc, h1, h2', h3', hx', program, Sem.run, go_sem, this]
  refine op_in (x := .enter f (u :: vs).toArray) (by intro d e; cases e) hr ?_
  rw [Oper.uponIn_enter]
  refine ⟨fun h => absurd h (by simp), calls_in (hc.mono ?_)⟩
  rintro e w' ⟨s', v', rfl, rfl, st, h⟩
  exact hk _ _ (hK s' v' st h _ (ha.put hd v'))
theorem k_nilCheck_meth {t : TypeId} {u : Value} {name : String} (hx : ev ρ x = some (.func (.method name) #[.iface t u] #[])) (hd : Nat.blt d n = true) (hn : ∀ w, (nilAhead (P.types.size + Made.depth) t u name).run P w = .ok (some false) w)
    (hK : KL P n Df ops Q rest ((d, .func (.method name) #[.iface t u] #[]) :: ρ) w0) : KL P n Df ops Q (⟨some d, .nilCheck x, ty, pos, aft, none⟩ :: rest) ρ w0 :=
  .val rfl rfl hd (fun η ha => by
    have := hn w0
    rw [show Made.depth = 100 from rfl] at this
    simp [execOp, ha.ev hx, program, Sem.run, go_sem, this]) hK
theorem k_nilCheck_methv {v : Value} {name : String} (hv : ∃ t u, v = .iface t u ∧ ∀ w, (nilAhead (P.types.size + Made.depth) t u name).run P w = .ok (some false) w) (hx : ev ρ x = some (.func (.method name) #[v] #[])) (hd : Nat.blt d n = true)
    (hK : KL P n Df ops Q rest ((d, .func (.method name) #[v] #[]) :: ρ) w0) : KL P n Df ops Q (⟨some d, .nilCheck x, ty, pos, aft, none⟩ :: rest) ρ w0 := by
  obtain ⟨t, u, rfl, hn⟩ := hv
  exact k_nilCheck_meth hx hd hn hK
theorem k_load_any {l : Lab} {p : Value} {dd : D} (hT : oneT P tx = true) (hx : ev ρ x = some p) (h : At s l p dd) (hn : dd.isAgg = false) (hd : Nat.blt d n = true)
    (hK : ∀ v, R s v dd → KL P n Df ops Q rest ((d, v) :: ρ) s.w) : KL P n Df ops Q (⟨some d, .load tx x, ty, pos, aft, none⟩ :: rest) ρ s.w := by
  obtain ⟨b, off, cs, rfl, hb, hg, hc, h⟩ := h
  have hl : cs.length = 1 := by
    rw [h.len]; cases dd <;> simp [D.isAgg] at hn <;> rfl
  obtain ⟨v, rfl⟩ : ∃ v, cs = [v] := by
    match cs, hl with
    | [v], _ => exact ⟨v, rfl⟩
  have hr : R s v dd := by cases dd <;> simp [D.isAgg] at hn <;> exact h
  exact k_load_cell hT hx (by have := hc 0 (by simp); simpa using this) hd (hK v hr)
def arrps (m w : Nat) : List (Nat × Nat) := (List.range m).map fun i => (i * w, w)
/-- An array's literal. -/
theorem k_build_arr {t e m w : Nat} {zv : Value} {xs : List (Nat × Operand)} {vs : List (Nat × Value)} {css : List (Nat × List Value)} {out : List Value} (hp : arrT P t e m w) (hz : zeroT P t = some zv) (hx : evq ρ xs = some vs) (hc : Parts vs css) (ho : fillL (arrps m w) css zv.cells.toList = some out) (hd : Nat.blt d n = true)
    (hK : KL P n Df ops Q rest ((d, .agg out.toArray) :: ρ) w0) : KL P n Df ops Q (⟨some d, .build t xs.toArray, ty, pos, aft, none⟩ :: rest) ρ w0 := by
  refine .val rfl rfl hd (fun η ha => ?_) hK
  obtain ⟨hu, hs⟩ := hp
  have hf := fill_L (places := fun i => some (i * w, w)) (ps := arrps m w) (fun i p h => by
    unfold arrps at h
    rw [List.getElem?_map] at h
    cases hr : (List.range m)[i]? with
    | none => rw [hr] at h; simp at h
    | some j =>
      rw [hr] at h
      have := List.getElem?_range (n := m) (i := i) (by have := (List.getElem?_eq_some_iff.1 hr).1; simpa using this)
      rw [this] at hr
      simp at hr h
      subst hr; simp [← h]) hc ho
  have hev := ha.evq hx
  have hpa : (xs.toArray.map fun (p : Nat × Operand) => (p.1, η p.2)) = vs.toArray := by rw [← hev]; simp
  simp only [execOp]
  rw [show (Array.map (fun x => match x with | (i, x) => (i, η x)) xs.toArray) = vs.toArray from hpa]
  simp [Instr.build, run_zeroValue hz, run_underlying hu, run_sizeOf hs, hf]
theorem k_assert_yes {t tT : TypeId} {u : Value} (hu : (∃ m, P.underlying tT = some (.interface m)) → False) (hT : ∃ dsc, P.underlying tT = some dsc) (hx : ev ρ x = some (.iface tT u)) (hd : Nat.blt d n = true)
    (hK : KL P n Df ops Q rest ((d, .tuple #[u, .bool true]) :: ρ) w0) : KL P n Df ops Q (⟨some d, .typeAssert x t tT true, ty, pos, aft, none⟩ :: rest) ρ w0 := by
  obtain ⟨dsc, hT⟩ := hT
  refine .val rfl rfl hd (fun η ha => ?_) hK
  cases dsc <;> first | exact (hu ⟨_, hT⟩).elim | simp [execOp, ha.ev hx, Instr.typeAssert, run_underlying hT, go_sem]
theorem k_assert_no {t tT tu : TypeId} {u z : Value} (hu : (∃ m, P.underlying tT = some (.interface m)) → False) (hT : ∃ dsc, P.underlying tT = some dsc) (hz : zeroT P tT = some z) (hx : ev ρ x = some (.iface tu u)) (hne : Nat.beq tu tT = false) (hd : Nat.blt d n = true)
    (hK : KL P n Df ops Q rest ((d, .tuple #[z, .bool false]) :: ρ) w0) : KL P n Df ops Q (⟨some d, .typeAssert x t tT true, ty, pos, aft, none⟩ :: rest) ρ w0 := by
  obtain ⟨dsc, hT⟩ := hT
  have hne' : ¬ tu = tT := by rintro rfl; simp at hne
  refine .val rfl rfl hd (fun η ha => ?_) hK
  cases dsc <;> first | exact (hu ⟨_, hT⟩).elim | simp [execOp, ha.ev hx, Instr.typeAssert, run_underlying hT, hne', run_zeroValue hz, go_sem]
/-! slices: what slices.Grow does -/
theorem k_cap_nil {t e : TypeId} (hT : P.underlying t = some (.slice e)) (hx : ev ρ x = some (.slice none 0 0)) (hd : Nat.blt d n = true)
    (hK : KL P n Df ops Q rest ((d, .int .i64 0) :: ρ) w0) : KL P n Df ops Q (⟨some d, .call { callee := .builtin .cap, args := [x].toArray, argTypes := [t].toArray }, ty, pos, aft, none⟩ :: rest) ρ w0 :=
  .val rfl rfl hd (fun η ha => by simp [execOp, resolve, invoke, builtin, ha.ev hx, Builtin.cap_, run_underlying hT, goInt]) hK
theorem k_cut_nil {t e w : TypeId} {k : IntKind} (hT : P.underlying t = some (.slice e)) (hs : sizeT P e w = true) (hx : ev ρ x = some (.slice none 0 0)) (hz : ev ρ z = some (.int k 0)) (hd : Nat.blt d n = true)
    (hK : KL P n Df ops Q rest ((d, .slice none 0 0) :: ρ) w0) : KL P n Df ops Q (⟨some d, .slice t x none (some z) none, ty, pos, aft, none⟩ :: rest) ρ w0 :=
  .val rfl rfl hd (fun η ha => by simp [execOp, ha.ev hx, ha.ev hz, Instr.sliceAt, Instr.slice, Instr.sliceBounds, Instr.sliceBound, asIntOf, run_underlying hT, run_sizeOf hs]) hK
/-- A row of one's own of n elements, which nobody reads. -/
def Row0 (s : St) (l : Lab) (e : TypeId) (w n : Nat) (v : Value) : Prop := l.o ≠ 0 ∧ l.o ≤ s.n + 1 ∧ ∃ g cap cur, v = .slice (some ⟨g, 0, none⟩) n cap ∧ s.w.heap[g]? = some (.cells cur e (0, 0)) ∧ n ≤ cap ∧ cap ≤ maxLen ∧ cur.size = cap * w ∧ s.g g = l
theorem Row0.up2 {K : Lab → Prop} {s s' : St} {l : Lab} {e : TypeId} {w m : Nat} {v : Value} (h : Row0 s l e w m v) (st : Step K s s') (hk : ¬ K l := by first | exact id | (simp only [KU, KN, KC, KO, K0, KB] <;> omega)) : Row0 s' l e w m v := by
  obtain ⟨h0, h1, g, cap, cur, rfl, h2, h3, h4, h5, h6⟩ := h
  have hlt : g < s.n := (Array.getElem?_eq_some_iff.1 h2).1
  obtain ⟨k1, k2⟩ := st.keep g hlt (by rw [h6]; exact hk)
  exact ⟨h0, Nat.le_trans h1 (Nat.add_le_add_right st.size 1), g, cap, cur, rfl, k1.trans h2, h3, h4, h5, k2.trans h6⟩
set_option maxRecDepth 100000 in
theorem k_append_zeros {t ti e w bytes m : Nat} {zv : Value} (hT : elemT P t e w bytes zv) (hi : P.underlying ti = some (.int .i64)) (hx : ev ρ x = some (.slice none 0 0)) (hy : ev ρ y = some (.int .i64 (m : Int)))
    (h0 : 0 < m) (hsz : m * bytes ≤ 140737488355328) (hmx : m ≤ 9223372036854775807) (hd : Nat.blt d n = true)
    (hK : ∀ s' v', Step K0 s s' → Row0 s' ⟨s.n + 1, 0⟩ e w m v' → KL P n Df ops Q rest ((d, v') :: ρ) s'.w) :
    KL P n Df ops Q (⟨some d, .call { callee := .builtin .append, args := [x, y].toArray, argTypes := [t, ti].toArray }, ty, pos, aft, none⟩ :: rest) ρ s.w := by
  obtain ⟨i, h1, h2, h3, h4, h5, h6, h7⟩ := hT
  have hge := grownCap_ge s.w m 0 e
  have hle := grownCap_le_maxLen s.w m 0 e (by unfold maxLen; omega)
  obtain ⟨cur, hcur⟩ : ∃ cur : Array Value, cur = (if m * i.size = 0 then #[] else Builtin.zeroCells zv.cells m) ++ Builtin.zeroCells zv.cells (grownCap s.w m 0 e - m) := ⟨_, rfl⟩
  have hm0 : ¬ m * i.size = 0 := by
    have := Nat.mul_pos h0 (show 0 < i.size by omega)
    omega
  have hsize : cur.size = grownCap s.w m 0 e * w := by
    rw [hcur, if_neg hm0, Array.size_append, size_zeroCells, size_zeroCells, h6, ← Nat.add_mul]
    congr 1; omega
  have hrun : (Builtin.append_ #[t, ti] ty #[.slice none 0 0, .int .i64 (m : Int)]).run P s.w = .ok (.slice (some ⟨s.w.heap.size, 0, none⟩) m (grownCap s.w m 0 e)) (s.w.drew.alloc (.cells cur e)) := by
    have hw : IntKind.i64.wrap (m : Int) = (m : Int) := wrap_i64 (by omega) (by omega)
    have hn : ¬ m = 0 := by omega
    have a1 : ¬ ((m : Int) < 0) := by omega
    have a2 : ¬ (281474976710656 < (m : Int) * (i.bytes : Int)) := by
      rw [← Int.natCast_mul, h5]
      generalize m * bytes = q at hsz ⊢
      omega
    have a3 : ¬ (9223372036854775807 < (m : Int)) := by omega
    have a4 : ¬ (281474976710656 < Builtin.nextslicecap m 0 * i.bytes) := by rw [nextslicecap_zero h0, h5]; omega
    simp [Builtin.append_, run_underlying h1, run_underlying hi, sizeOf, typeInfo, zeroValue, h2, h3, asInt, asIntOf, hw, a1, a2, a3, a4, hn, Builtin.firstCells, Question.forced, newRow, grownCap]
    rw [if_neg hm0, hcur, if_neg hm0]
    rfl
  have st : Step K0 s (s.to (s.w.drew.alloc (.cells cur e)) ⟨s.n + 1, 0⟩ (Nat.le_refl _)) := St.to_step rfl rfl rfl (by show s.w.heap.size ≤ (s.w.drew.alloc (.cells cur e)).heap.size; simp) (fun b hb _ => heap_alloc_old s.w.drew _ hb) (fun _ h => h)
  refine .val rfl rfl hd (v := .slice (some ⟨s.w.heap.size, 0, none⟩) m (grownCap s.w m 0 e)) (w' := s.w.drew.alloc (.cells cur e)) (fun η ha => ?_) (hK (s.to _ ⟨s.n + 1, 0⟩ (Nat.le_refl _)) _ st ⟨by simp, ?_, s.w.heap.size, _, cur, rfl, ?_, hge, hle, hsize, St.to_g_new (Nat.le_refl _)⟩)
  · simp [execOp, resolve, invoke, builtin, ha.ev hx, ha.ev hy, hrun]
  · show s.n + 1 ≤ (s.w.drew.alloc (.cells cur e)).heap.size + 1
    simp
  · exact heap_alloc_new s.w.drew _
theorem k_cut_row0 {t e w m : Nat} {l : Lab} {v : Value} {k : IntKind} (hT : P.underlying t = some (.slice e)) (hs : sizeT P e w = true) (hx : ev ρ x = some v) (h : Row0 s l e w m v) (hz : ev ρ z = some (.int k 0)) (hd : Nat.blt d n = true)
    (hK : ∀ v', Own s l e w v' [] → KL P n Df ops Q rest ((d, v') :: ρ) s.w) : KL P n Df ops Q (⟨some d, .slice t x none (some z) none, ty, pos, aft, none⟩ :: rest) ρ s.w := by
  obtain ⟨h0, h1, g, cap, cur, rfl, h2, h3, h4, h5, h6⟩ := h
  refine .val rfl rfl hd (v := .slice (some ⟨g, 0, none⟩) 0 cap) (w' := s.w) (fun η ha => ?_) (hK _ ⟨h0, h1, [], ⟨by simp, .inr ⟨g, cap, cur, rfl, Nat.zero_le _, h2, Nat.zero_le _, h4, h5, by simp⟩⟩, fun g' hg => ?_, RCs.nil⟩)
  · have : (if cap = 0 then some (⟨g, 0, none⟩ : Addr) else some ((⟨g, 0, none⟩ : Addr).add 0)) = some ⟨g, 0, none⟩ := by
      split <;> simp [Addr.add]
    simp [execOp, ha.ev hx, ha.ev hz, Instr.sliceAt, Instr.slice, Instr.sliceBounds, Instr.sliceBound, asIntOf, run_underlying hT, run_sizeOf hs, this]
    try exact this
  · simp [Value.ownBlock] at hg; subst hg; exact h6
end
theorem Own.relabelK {s : St} {l : Lab} {e : TypeId} {w : Nat} {v : Value} {ds : List D} (k c : Nat) (h : Own s l e w v ds) (hk : k ≠ 0) (hq : k ≤ l.o) (hs : k ≤ s.n + 1) : ∃ s', s'.w = s.w ∧ Step (KC l.o l.c) s s' ∧ Own s' ⟨k, c⟩ e w v ds := by
  obtain ⟨q, rfl⟩ : ∃ q, k = q + 1 := ⟨k - 1, by omega⟩
  exact Own.relabel q c h (by omega) (by omega)
/-- No step, under labels that nobody bears but new ones. -/
theorem Step.r0 (K : Lab → Prop) (s : St) (hi : ∀ c, ¬ K ⟨0, c⟩ := by first | exact fun _ h => h | (intro c h; simp [KC, KO, KU, KN, KB] at h <;> omega)) : Step K s s := (Step.refl _).of0 hi
theorem Step.c0 {K K' : Lab → Prop} {a b c : St} (h : Step K a b) (h' : Step K' b c) (hk : ∀ l : Lab, l.o ≤ a.n → K' l → K l := by intro l hl hk; (try simp only [KC, KO, KU, KN, K0, KB] at hk ⊢) <;> omega) : Step K a c := h.comp h' hk
end Go.Fw
