import Derived.Test.YtdofbkomeadjgaaGreatDoorFwSFwW
import Derived.Lib.LaidTab
import Derived.Test.YtdofbkomeadjgaaGreatDoorFwOFwZ
import Derived.Carry
import Derived.OpenShut
import Derived.ChangeArms
import GoSem.ClaimDataLaid
import Derived.SizedLaws
import GoSem.ClaimJoined
import Derived.Lib.ItoaNum
import Derived.Lib.Overlaps
import Derived.Lib.AppendIntMem
import Derived.WideLaws
import Derived.Lib.AtoiErrMem
import Derived.Scope
set_option linter.unusedSimpArgs false
set_option linter.unusedVariables false
namespace Go.Fw
def Tb (P : Program) (s : St) (name : String) (k : IntKind) (zs : List Int) : Prop := ∃ g, P.globalNamed name = some g ∧ g < s.n ∧ s.g g = L0 ∧ Lib.TabIs P s.w name k zs
theorem Tb.up2 {P : Program} {K : Lab → Prop} {s s' : St} {name : String} {k : IntKind} {zs : List Int} (h : Tb P s name k zs) (st : Step K s s') : Tb P s' name k zs := by
  obtain ⟨g, h1, h2, h3, h4⟩ := h
  have hk : ¬ K (s.g g) := by rw [h3]; exact st.imm 0
  obtain ⟨k1, k2⟩ := st.keep g h2 hk
  refine ⟨g, h1, Nat.lt_of_lt_of_le h2 st.size, k2.trans h3, ?_⟩
  unfold Lib.TabIs World.var? at *
  simp only [h1, Option.bind_some] at h4 ⊢
  rw [k1]; exact h4
theorem Tb.is {P : Program} {s : St} {name : String} {k : IntKind} {zs : List Int} (h : Tb P s name k zs) : Lib.TabIs P s.w name k zs := by obtain ⟨g, h1, h2, h3, h4⟩ := h; exact h4
theorem Ret.below {s : St} {φ : St → Value → Prop} {w' : World} {v : Value} (hb : Go.RowKit.Below s.w.heap.size s.w w') (h : ∀ s' : St, s'.w = w' → Step K0 s s' → φ s' v) : Ret s K0 φ (.returned v) w' :=
  have st : Step K0 s (s.to w' L0 (by simp)) := St.to_step hb.os hb.tape hb.output hb.size (fun b hb' _ => hb.block b hb') (fun _ h => h)
  ⟨s.to w' L0 (by simp), v, rfl, rfl, st, h _ rfl st⟩
end Go.Fw

set_option linter.unusedSimpArgs false
set_option linter.unusedVariables false
set_option linter.unnecessarySimpa false
namespace Go.Fw
inductive Typed (P : Program) : TypeId → D → Prop where
  | int {t : TypeId} {k : IntKind} {n : Int} (h : P.underlying t = some (.int k)) (hw : (Lit.int k n).wf = true) : Typed P t (.val (.int k n))
  | bool {t : TypeId} {b : Bool} (h : P.underlying t = some .bool) : Typed P t (.val (.bool b))
  | str {t : TypeId} {s : ByteArray} (h : P.underlying t = some .string) (hs : s.size ≤ reachBytes) : Typed P t (.val (.string s))
  | sl {t e : TypeId} {l : List D} (h : P.underlying t = some (.slice e)) (hl : l.length ≤ maxLen) (hb : l.length * P.bytesOf e ≤ reachBytes) (hd : ∀ d ∈ l, Typed P e d) : Typed P t (.sl (P.cellsOf e) l)
  | agg {t : TypeId} {fs : Array Field} {l : List D} (h : P.underlying t = some (.struct fs)) (hl : l.length = fs.size) (hd : ∀ (i : Nat) (f : Field) (d : D), fs[i]? = some f → l[i]? = some d → Typed P f.type d) : Typed P t (.agg l)
  | arr {t e : TypeId} {n : Nat} {l : List D} (h : P.underlying t = some (.array n e)) (hl : l.length = n) (hd : ∀ d ∈ l, Typed P e d) : Typed P t (.agg l)
  | nilp {t e : TypeId} (h : P.underlying t = some (.pointer e)) : Typed P t (.val (.pointer none))
  | ptr {t e : TypeId} {d : D} (h : P.underlying t = some (.pointer e)) (hd : Typed P e d) : Typed P t (.ptr d)
  | one {t : TypeId} {v : Value} (h1 : ∀ k, P.underlying t ≠ some (.int k)) (h2 : P.underlying t ≠ some .bool) (h3 : P.underlying t ≠ some .string) (h4 : ∀ e, P.underlying t ≠ some (.slice e)) (h5 : ∀ fs, P.underlying t ≠ some (.struct fs)) (h6 : ∀ n e, P.underlying t ≠ some (.array n e)) (h7 : ∀ e, P.underlying t ≠ some (.pointer e)) : Typed P t (.val v)
def St.init (w : World) : St := ⟨w, fun _ => L0, fun b => Nat.zero_le _⟩
def closedB (P : Program) (ts : List TypeId) : Bool := ts.all fun t => isVar P t && match P.underlying t with
  | some (.slice e) => decide (0 < P.cellsOf e) && ts.contains e
  | some (.pointer e) => decide (0 < P.cellsOf e) && ts.contains e
  | some (.array _ e) => ts.contains e
  | some (.struct fs) => fs.toList.all fun f => ts.contains f.type
  | _ => true
theorem cells_of {w : World} {a : Addr} {n : Nat} {cs : List Value} (h : w.cells? 0 a n = some cs) : cs.length = n ∧ ∀ j, j < n → w.cell? (a.add j) = cs[j]? := by
  unfold World.cells? at h
  rw [if_pos (Nat.zero_le _)] at h
  have hl := mapM_some_length h
  refine ⟨by simpa using hl, fun j hj => ?_⟩
  exact mapM_some_get h j j (by simp [hj])
theorem flat_cut (cs : List Value) : ∀ (ws : List Nat), cs.length = ws.sum → ((List.range ws.length).map fun i => (cs.drop (ws.take i).sum).take (ws.getD i 0)).flatten = cs := by
  intro ws
  induction ws generalizing cs with
  | nil => intro h; simp at h; simp [h]
  | cons w ws ih =>
    intro h
    rw [List.length_cons, List.range_succ_eq_map, List.map_cons, List.flatten_cons]
    have h2 := ih (cs.drop w) (by simp at h ⊢; omega)
    simp only [List.map_map, Function.comp_def, List.take_succ_cons, List.sum_cons, List.getD_cons_succ] at h2 ⊢
    simp only [List.drop_drop] at h2
    rw [h2]
    simp
theorem add_none (b off i : Nat) : (⟨b, off, none⟩ : Addr).add i = ⟨b, off + i, none⟩ := by unfold Addr.add; split <;> simp_all
theorem cell_lt {w : World} {a : Addr} {v : Value} (h : w.cell? a = some v) : a.block < w.heap.size := by
  rcases Nat.lt_or_ge a.block w.heap.size with h1 | h1
  · exact h1
  · unfold World.cell? at h
    rw [Array.getElem?_eq_none h1] at h
    split at h <;> simp_all
theorem wAll {H : Type} {P : Program} {e : TypeId} {q : Nat} {d : DataW H} : ∀ {l : List (DataW H)}, d ∈ l → q ∈ d.weights P e → q ∈ DataW.weightsAll P e l
  | d0 :: l, hd, hq => by
    simp only [DataW.weightsAll, List.mem_append]
    rcases List.mem_cons.1 hd with rfl | hd
    · exact .inl hq
    · exact .inr (wAll hd hq)
theorem open_D {H : Type} {enc : TypeId × Value → H} {P : Program} {w : World} {ts : List TypeId} (hl : laidOutB P = true) (hz : closedB P ts = true) : ∀ (fuel : Nat) (t : TypeId) (cs : List Value) (x : DataW H × List MemPlace), t ∈ ts →
    DataW.trod enc P w 0 (fun _ => true) true fuel t cs = some x → (∀ q ∈ x.1.weights P t, q ≤ reachBytes) → ∃ d, RC (St.init w) cs d ∧ Typed P t d := by
  intro fuel
  induction fuel with
  | zero => intro t cs x _ h _; simp [DataW.trod] at h
  | succ n ih =>
    intro t cs x hts h hB
    have hcl := List.all_eq_true.1 hz t hts
    simp only [Bool.and_eq_true] at hcl
    obtain ⟨hv, hcl⟩ := hcl
    have hv' := hv
    simp only [isVar, Bool.and_eq_true, decide_eq_true_eq] at hv'
    obtain ⟨hsz, hk⟩ := hv'
    have hrow : rowFine P t = true := by
      simp only [laidOutB, Bool.and_eq_true] at hl
      exact List.all_eq_true.1 hl.1.1 t (List.mem_range.2 hsz)
    simp only [rowFine, hv, Bool.not_true, Bool.false_or] at hrow
    cases hu : P.underlying t with
    | none => rw [hu] at hk; simp [kindOk] at hk
    | some td =>
      by_cases h1 : ∃ k, td = .int k
      · obtain ⟨k, rfl⟩ := h1
        obtain ⟨m, rfl, rfl, hw⟩ := DataW.trod_int hu h
        exact ⟨_, .val _ rfl, .int hu hw⟩
      by_cases h2 : td = .bool
      · subst h2
        obtain ⟨b, rfl, rfl⟩ := DataW.trod_bool hu h
        exact ⟨_, .val _ rfl, .bool hu⟩
      by_cases h3 : td = .string
      · subst h3
        obtain ⟨b, rfl, rfl, hs⟩ := DataW.trod_string hu h
        exact ⟨_, .val _ rfl, .str hu (by have := hB b.data.toList.length (by simp [DataW.weights]); simpa using this)⟩
      by_cases h4 : ∃ e, td = .slice e
      · obtain ⟨e, rfl⟩ := h4
        rw [hu] at hrow
        simp only [Bool.and_eq_true] at hrow
        rw [hu] at hcl
        simp only [Bool.and_eq_true, decide_eq_true_eq, List.contains_eq_mem] at hcl
        obtain ⟨hpos, hin⟩ := hcl
        rcases DataW.trod_slice hu h with ⟨rfl, _⟩ | ⟨a, len, cap, elems, rest, m, hm, rfl, rfl, _, hlc, hcm, hel, he, _⟩
        · exact ⟨.sl (P.cellsOf e) [], .nilsl _ _ _ (fun _ => rfl), .sl hu (Nat.zero_le _) (by simp) (by simp)⟩
        · cases hm
          have hB0 : (elems.length + rest.length) * P.bytesOf e ≤ reachBytes := hB _ (by simp [DataW.weights, hu])
          have hB1 : ∀ (y : DataW H × List MemPlace), y ∈ elems → ∀ q ∈ y.1.weights P e, q ≤ reachBytes := fun y hy q hq => hB q (by simp only [DataW.weights, hu]; exact List.mem_cons_of_mem _ (List.mem_append_left _ (wAll (List.mem_map.2 ⟨y, hy, rfl⟩) hq)))
          have hg : ∀ i, i < len → ∃ cs' d, (cs' : List Value).length = P.cellsOf e ∧ (∀ j, j < P.cellsOf e → w.cell? ((a.add (i * P.cellsOf e)).add j) = cs'[j]?) ∧ RC (St.init w) cs' d ∧ Typed P e d := by
            intro i hi
            have h5 := he i hi
            rw [List.getElem?_eq_getElem (show i < elems.length by omega), Option.bind_eq_some_iff] at h5
            obtain ⟨cs', h6, h7⟩ := h5
            obtain ⟨d, h8, h9⟩ := ih e cs' _ hin h7 (hB1 _ (List.getElem_mem _))
            obtain ⟨h10, h11⟩ := cells_of h6
            exact ⟨cs', d, h10, h11, h8, h9⟩
          by_cases h0 : len = 0
          · subst h0
            exact ⟨.sl (P.cellsOf e) [], .nilsl _ _ _ (by simp), .sl hu (Nat.zero_le _) (by simp) (by simp)⟩
          · obtain ⟨c0, d0, e1, e2, _, _⟩ := hg 0 (by omega)
            have e3 := e2 0 hpos
            rw [List.getElem?_eq_getElem (show 0 < c0.length by omega)] at e3
            have e4 := World.cell?_spot e3
            obtain ⟨b, off, sp⟩ := a
            have e5 : sp = none := by
              cases sp with
              | none => rfl
              | some q => simp [Addr.add] at e4
            subst e5
            have hb : b < w.heap.size := by
              have := cell_lt e3
              simpa [add_none] using this
            let cf : Nat → List Value := fun i => if hi : i < len then Classical.choose (hg i hi) else []
            let df : Nat → D := fun i => if hi : i < len then Classical.choose (Classical.choose_spec (hg i hi)) else .agg []
            have hcf : ∀ i (hi : i < len), (cf i).length = P.cellsOf e ∧ (∀ j, j < P.cellsOf e → w.cell? (((⟨b, off, none⟩ : Addr).add (i * P.cellsOf e)).add j) = (cf i)[j]?) ∧ RC (St.init w) (cf i) (df i) ∧ Typed P e (df i) := by
              intro i hi
              have := Classical.choose_spec (Classical.choose_spec (hg i hi))
              simp only [cf, df, dif_pos hi]
              exact this
            have hlen : ((List.range len).map df).length = len := by simp
            have hR : RC (St.init w) [.slice (some ⟨b, off, none⟩) ((List.range len).map df).length cap] (.sl (P.cellsOf e) ((List.range len).map df)) := by
              refine .sl _ b off cap _ cf hb rfl (by rw [hlen]; exact hlc) (fun i hi => ?_) (fun i hi j hj => ?_) (fun i hi => ?_)
              · rw [hlen] at hi; exact (hcf i hi).1
              · rw [hlen] at hi
                have := (hcf i hi).2.1 j hj
                rw [add_none, add_none] at this
                exact this
              · have hi' := hi
                rw [hlen] at hi'
                simp only [List.getElem_map, List.getElem_range]
                exact (hcf i hi').2.2.1
            rw [hlen] at hR
            refine ⟨_, hR, .sl hu (by rw [hlen]; omega) (by rw [hlen, ← hel]; exact Nat.le_trans (Nat.mul_le_mul_right _ (Nat.le_add_right _ _)) hB0) ?_⟩
            intro d hd
            simp only [List.mem_map, List.mem_range] at hd
            obtain ⟨i, hi, rfl⟩ := hd
            exact (hcf i hi).2.2.2
      by_cases h5 : ∃ fs, td = .struct fs
      · obtain ⟨fs, rfl⟩ := h5
        rw [hu] at hrow
        simp only [Bool.and_eq_true, List.all_eq_true, beq_iff_eq, List.mem_range] at hrow
        obtain ⟨⟨r1, r2⟩, r3⟩ := hrow
        rw [hu] at hcl
        simp only [List.all_eq_true, List.contains_eq_mem, decide_eq_true_eq] at hcl
        have hin := hcl
        obtain ⟨xs, m, hm, rfl, hcl, hxl, hx⟩ := DataW.trod_struct hu h
        cases hm
        let ws := fs.toList.map fun f => P.cellsOf f.type
        have hoff : ∀ i (f : Field), fs.toList[i]? = some f → f.offset = (ws.take i).sum := by
          intro i f hf
          have := r3 i (List.getElem?_eq_some_iff.1 hf).1
          rw [hf] at this
          simp only [beq_iff_eq] at this
          rw [this, List.map_take]
        have hg : ∀ i, i < fs.size → ∃ d, RC (St.init w) ((cs.drop (ws.take i).sum).take (ws.getD i 0)) d ∧ ∀ f : Field, fs[i]? = some f → Typed P f.type d := by
          intro i hi
          have hf : fs[i]? = some fs[i] := by simp [hi]
          have hf' : fs.toList[i]? = some fs[i] := by simpa using hf
          have h6 := hx i _ hf
          rw [List.getElem?_eq_getElem (show i < xs.length by omega)] at h6
          obtain ⟨d, h7, h8⟩ := ih _ _ _ (hin _ (List.mem_of_getElem? hf')) h6 (fun q hq => hB q (by simp only [DataW.weights, hu]; exact DataW.weights_mem_each (j := i) (t := fs[i].type) (d := xs[i].1) (by rw [List.getElem?_map, hf']; rfl) (by rw [List.getElem?_map, List.getElem?_eq_getElem (show i < xs.length by omega)]; rfl) q hq))
          refine ⟨d, ?_, fun f hf2 => ?_⟩
          · rw [← hoff i _ hf']
            have : ws.getD i 0 = P.cellsOf fs[i].type := by simp [ws, List.getD, hi]
            rw [this]
            exact h7
          · rw [hf] at hf2
            cases hf2
            exact h8
        let df : Nat → D := fun i => if hi : i < fs.size then Classical.choose (hg i hi) else .agg []
        have hdf : ∀ i (hi : i < fs.size), RC (St.init w) ((cs.drop (ws.take i).sum).take (ws.getD i 0)) (df i) ∧ ∀ f : Field, fs[i]? = some f → Typed P f.type (df i) := by
          intro i hi
          have := Classical.choose_spec (hg i hi)
          simp only [df, dif_pos hi]
          exact this
        have hwl : ws.length = fs.size := by simp [ws]
        have hfl := flat_cut cs ws (by rw [hcl, r2])
        refine ⟨.agg ((List.range ws.length).map df), ?_, .agg hu (by simp [hwl]) ?_⟩
        · have := RC.agg (s := St.init w) ((List.range ws.length).map fun i => (cs.drop (ws.take i).sum).take (ws.getD i 0)) ((List.range ws.length).map df) (by simp) (fun i h1 h2 => by
            simp only [List.getElem_map, List.getElem_range]
            exact (hdf i (by simpa [hwl] using h1)).1)
          rw [hfl] at this
          exact this
        · intro i f d hf hd
          have hi : i < fs.size := by
            rcases Nat.lt_or_ge i fs.size with h | h
            · exact h
            · rw [Array.getElem?_eq_none h] at hf; simp at hf
          rw [List.getElem?_eq_getElem (show i < ((List.range ws.length).map df).length by simpa [hwl] using hi)] at hd
          simp only [List.getElem_map, List.getElem_range, Option.some.injEq] at hd
          subst hd
          exact (hdf i hi).2 f hf
      by_cases h6 : ∃ m e, td = .array m e
      · obtain ⟨m, e, rfl⟩ := h6
        rw [hu] at hrow
        simp only [Bool.and_eq_true, beq_iff_eq] at hrow
        rw [hu] at hcl
        simp only [List.contains_eq_mem, decide_eq_true_eq] at hcl
        have hin := hcl
        obtain ⟨xs, q, hq, rfl, hcl, hxl, hx⟩ := DataW.trod_array hu h
        cases hq
        let ws := List.replicate m (P.cellsOf e)
        have hsum : ∀ i, i ≤ m → (ws.take i).sum = i * P.cellsOf e := by
          intro i hi
          simp [ws, Nat.min_eq_left hi]
        have hg : ∀ i, i < m → ∃ d, RC (St.init w) ((cs.drop (ws.take i).sum).take (ws.getD i 0)) d ∧ Typed P e d := by
          intro i hi
          have h6 := hx i hi
          rw [List.getElem?_eq_getElem (show i < xs.length by omega)] at h6
          obtain ⟨d, h7, h8⟩ := ih _ _ _ hin h6 (fun q hq => hB q (by unfold DataW.weights; simp only [hu]; exact wAll (List.mem_map.2 ⟨xs[i], List.getElem_mem _, rfl⟩) hq))
          refine ⟨d, ?_, h8⟩
          rw [hsum i (by omega)]
          have : ws.getD i 0 = P.cellsOf e := by simp [ws, List.getD, hi]
          rw [this]
          exact h7
        let df : Nat → D := fun i => if hi : i < m then Classical.choose (hg i hi) else .agg []
        have hdf : ∀ i (hi : i < m), RC (St.init w) ((cs.drop (ws.take i).sum).take (ws.getD i 0)) (df i) ∧ Typed P e (df i) := by
          intro i hi
          have := Classical.choose_spec (hg i hi)
          simp only [df, dif_pos hi]
          exact this
        have hwl : ws.length = m := by simp [ws]
        have hfl := flat_cut cs ws (by rw [hcl, hrow.2]; simp [ws])
        refine ⟨.agg ((List.range ws.length).map df), ?_, .arr hu (by simp [hwl]) ?_⟩
        · have := RC.agg (s := St.init w) ((List.range ws.length).map fun i => (cs.drop (ws.take i).sum).take (ws.getD i 0)) ((List.range ws.length).map df) (by simp) (fun i h1 h2 => by
            simp only [List.getElem_map, List.getElem_range]
            exact (hdf i (by simpa [hwl] using h1)).1)
          rw [hfl] at this
          exact this
        · intro d hd
          simp only [List.mem_map, List.mem_range, hwl] at hd
          obtain ⟨i, hi, rfl⟩ := hd
          exact (hdf i hi).2
      by_cases h7 : ∃ e, td = .pointer e
      · obtain ⟨e, rfl⟩ := h7
        rw [hu] at hrow
        simp only [Bool.and_eq_true] at hrow
        rw [hu] at hcl
        simp only [Bool.and_eq_true, decide_eq_true_eq, List.contains_eq_mem] at hcl
        obtain ⟨hpos, hin⟩ := hcl
        rcases DataW.trod_pointer hu h with ⟨rfl, _⟩ | ⟨a, cs', y, m, hm, rfl, rfl, h8, h9⟩
        · exact ⟨_, .val _ rfl, .nilp hu⟩
        · cases hm
          obtain ⟨d, h10, h11⟩ := ih e cs' _ hin h9 (fun q hq => hB q (by unfold DataW.weights; simp only [hu]; exact hq))
          obtain ⟨h12, h13⟩ := cells_of h8
          have e3 := h13 0 hpos
          rw [List.getElem?_eq_getElem (show 0 < cs'.length by omega)] at e3
          have e4 := World.cell?_spot e3
          obtain ⟨b, off, sp⟩ := a
          have e5 : sp = none := by
            cases sp with
            | none => rfl
            | some q => simp [Addr.add] at e4
          subst e5
          have hb : b < w.heap.size := by
            have := cell_lt e3
            simpa [add_none] using this
          exact ⟨_, .ptr b off cs' d hb rfl (fun j hj => by have := h13 j (by omega); rw [add_none] at this; exact this) h10, .ptr hu h11⟩
      · have hone : ∃ v, cs = [v] ∧ v.oneCell' = true := by
          unfold DataW.trod at h
          rw [hu] at h
          split at h <;> simp_all [kindOk]
          all_goals (try exact rfl)
        obtain ⟨v, rfl, ho⟩ := hone
        exact ⟨.val v, .val v ho, .one (fun k e => h1 ⟨k, Option.some.inj (hu.symm.trans e)⟩) (fun e => h2 (Option.some.inj (hu.symm.trans e))) (fun e => h3 (Option.some.inj (hu.symm.trans e))) (fun e' e => h4 ⟨e', Option.some.inj (hu.symm.trans e)⟩)
          (fun fs e => h5 ⟨fs, Option.some.inj (hu.symm.trans e)⟩) (fun m e' e => h6 ⟨m, e', Option.some.inj (hu.symm.trans e)⟩) (fun e' e => h7 ⟨e', Option.some.inj (hu.symm.trans e)⟩)⟩
section
variable {P : Program} {t e : TypeId} {d : D}
theorem Typed.inv_int {k : IntKind} (hu : P.underlying t = some (.int k)) (h : Typed P t d) : ∃ n, d = .val (.int k n) ∧ (Lit.int k n).wf = true := by
  cases h with
  | int h hw => rw [hu] at h; cases h; exact ⟨_, rfl, hw⟩
  | one h1 => exact absurd hu (h1 _)
  | bool h => rw [hu] at h; cases h
  | str h => rw [hu] at h; cases h
  | sl h => rw [hu] at h; cases h
  | agg h => rw [hu] at h; cases h
  | arr h => rw [hu] at h; cases h
  | nilp h => rw [hu] at h; cases h
  | ptr h => rw [hu] at h; cases h
theorem Typed.inv_str (hu : P.underlying t = some .string) (h : Typed P t d) : ∃ l : List UInt8, d = .val (S l) ∧ l.length ≤ reachBytes := by
  cases h with
  | str h hs => rename_i s; exact ⟨s.data.toList, rfl, by rw [Array.length_toList]; exact hs⟩
  | one h1 h2 h3 => exact absurd hu h3
  | int h => rw [hu] at h; cases h
  | bool h => rw [hu] at h; cases h
  | sl h => rw [hu] at h; cases h
  | agg h => rw [hu] at h; cases h
  | arr h => rw [hu] at h; cases h
  | nilp h => rw [hu] at h; cases h
  | ptr h => rw [hu] at h; cases h
theorem Typed.inv_sl (hu : P.underlying t = some (.slice e)) (h : Typed P t d) : ∃ l, d = .sl (P.cellsOf e) l ∧ l.length * P.bytesOf e ≤ reachBytes ∧ ∀ x ∈ l, Typed P e x := by
  cases h with
  | sl h hl hb hd => rw [hu] at h; cases h; exact ⟨_, rfl, hb, hd⟩
  | one h1 h2 h3 h4 => exact absurd hu (h4 _)
  | int h => rw [hu] at h; cases h
  | bool h => rw [hu] at h; cases h
  | str h => rw [hu] at h; cases h
  | agg h => rw [hu] at h; cases h
  | arr h => rw [hu] at h; cases h
  | nilp h => rw [hu] at h; cases h
  | ptr h => rw [hu] at h; cases h
theorem Typed.inv_agg {fs : Array Field} (hu : P.underlying t = some (.struct fs)) (h : Typed P t d) : ∃ l, d = .agg l ∧ l.length = fs.size ∧ ∀ (i : Nat) (f : Field) (x : D), fs[i]? = some f → l[i]? = some x → Typed P f.type x := by
  cases h with
  | agg h hl hd => rw [hu] at h; cases h; exact ⟨_, rfl, hl, hd⟩
  | one h1 h2 h3 h4 h5 => exact absurd hu (h5 _)
  | int h => rw [hu] at h; cases h
  | bool h => rw [hu] at h; cases h
  | str h => rw [hu] at h; cases h
  | sl h => rw [hu] at h; cases h
  | arr h => rw [hu] at h; cases h
  | nilp h => rw [hu] at h; cases h
  | ptr h => rw [hu] at h; cases h
theorem Typed.inv_arr {n : Nat} (hu : P.underlying t = some (.array n e)) (h : Typed P t d) : ∃ l, d = .agg l ∧ l.length = n ∧ ∀ x ∈ l, Typed P e x := by
  cases h with
  | arr h hl hd => rw [hu] at h; cases h; exact ⟨_, rfl, hl, hd⟩
  | one h1 h2 h3 h4 h5 h6 => exact absurd hu (h6 _ _)
  | int h => rw [hu] at h; cases h
  | bool h => rw [hu] at h; cases h
  | str h => rw [hu] at h; cases h
  | sl h => rw [hu] at h; cases h
  | agg h => rw [hu] at h; cases h
  | nilp h => rw [hu] at h; cases h
  | ptr h => rw [hu] at h; cases h
end
theorem all_of {α β : Type} {f : β → α} {ok : β → Prop} : ∀ {l : List α}, (∀ x ∈ l, ∃ y, x = f y ∧ ok y) → ∃ m : List β, l = m.map f ∧ ∀ y ∈ m, ok y
  | [], _ => ⟨[], rfl, by simp⟩
  | x :: l, h => by
    obtain ⟨y, e, hy⟩ := h x (by simp)
    obtain ⟨m, e2, hm⟩ := all_of (l := l) (fun z hz => h z (by simp [hz]))
    refine ⟨y :: m, by rw [e, e2]; rfl, ?_⟩
    intro z hz
    rcases List.mem_cons.1 hz with rfl | hz
    · exact hy
    · exact hm z hz
theorem open_R {H : Type} {enc : TypeId × Value → H} {P : Program} {W : World} {t : TypeId} {v : Value} {d : DataW H} {ps : List MemPlace} {ts : List TypeId} (hl : laidOutB P = true) (hz : closedB P ts = true) (hv : ts.contains t = true) (h1 : v.cells = #[v])
    (h : DataW.Trod enc P W 0 (fun _ => true) true t v d ps) (hB : ∀ q ∈ d.weights P t, q ≤ reachBytes) : ∃ x, RC (St.init W) [v] x ∧ Typed P t x := by
  obtain ⟨fuel, hf⟩ := h
  rw [h1] at hf
  exact open_D hl hz fuel t [v] _ (by simpa using hv) hf hB
theorem open_Ragg {H : Type} {enc : TypeId × Value → H} {P : Program} {W : World} {t : TypeId} {cs : Array Value} {d : DataW H} {ps : List MemPlace} {ts : List TypeId} (hl : laidOutB P = true) (hz : closedB P ts = true) (hv : ts.contains t = true)
    (h : DataW.Trod enc P W 0 (fun _ => true) true t (.agg cs) d ps) (hB : ∀ q ∈ d.weights P t, q ≤ reachBytes) : ∃ x, RC (St.init W) cs.toList x ∧ Typed P t x := by
  obtain ⟨fuel, hf⟩ := h
  exact open_D hl hz fuel t cs.toList _ (by simpa using hv) hf hB
theorem below_of {P : Program} {f : FuncId} {args : Array Value} {W : World} {v0 : Value} (h : Calls P f args (St.init W).w (Ret (St.init W) K0 fun _ v => v = v0)) : Calls P f args W fun e w' => e = .returned v0 ∧ Go.RowKit.Below W.heap.size W w' :=
  h.mono (by
    rintro e w' ⟨s1, v1, rfl, rfl, st, rfl⟩
    exact ⟨rfl, st.below⟩)
end Go.Fw
namespace Go.Fw
theorem weights_app {H : Type} {P : Program} {q : Nat} : ∀ {ts us : List TypeId} {ds es : List (DataW H)}, q ∈ DataW.weightsEach P ts ds → q ∈ DataW.weightsEach P (ts ++ us) (ds ++ es)
  | t :: ts, us, d :: ds, es, h => by
    simp only [List.cons_append, DataW.weightsEach, List.mem_append] at h ⊢
    exact h.imp id weights_app
  | [], _, _, _, h => by simp [DataW.weightsEach] at h
  | _ :: _, _, [], _, h => by simp [DataW.weightsEach] at h
theorem wt_mem {H : Type} {P : Program} {ts : List TypeId} {ds : List (DataW H)} (h : (DataW.weightsEach P ts ds).all (· ≤ reachBytes) = true) {j : Nat} {t : TypeId} {d : DataW H} (ht : ts[j]? = some t) (hd : ds[j]? = some d) : ∀ q ∈ d.weights P t, q ≤ reachBytes :=
  fun q hq => by simpa using List.all_eq_true.1 h q (DataW.weights_mem_each ht hd q hq)
end Go.Fw

set_option linter.unusedSimpArgs false
set_option linter.unusedVariables false
namespace Go.Fw
theorem laid_mem {P : Program} {W : World} : ∀ {l : List (String × DataW Unit)} {ps : List MemPlace}, DataW.LaidVars P W l ps → ∀ {name : String} {d : DataW Unit}, (name, d) ∈ l →
    ∃ g t cs fuel p, P.globalNamed name = some g ∧ (P.globals[g]?).map (·.type) = some t ∧ W.var? P name = some cs ∧ DataW.trod (fun _ => ()) P W 0 (fun _ => true) false fuel t cs.toList = some (d, p)
  | [], _, _, _, _, h => by simp at h
  | (n, d) :: r, ps, h, name, d', hm => by
    obtain ⟨g, t, cs, fuel, p, q, h1, h2, h3, h4, h5, _⟩ := h
    rcases List.mem_cons.1 hm with e | hm
    · injection e with e1 e2
      subst e1; subst e2
      exact ⟨g, t, cs, fuel, p, h1, h2, h3, h4⟩
    · exact laid_mem h5 hm
theorem laidMet_of {P : Program} {W : World} {l : List (String × DataW Unit)} (h : laidMetH P l W) (hn : (l.filter fun x => x.2.handleName?.isSome) = []) : laidMet P l W := by
  unfold laidMetH at h
  rw [hn] at h
  exact h
theorem tab_of_laid {P : Program} {W : World} {l : List (String × DataW Unit)} (h : laidMet P l W) {name : String} {k : IntKind} {zs : List Int} (hm : (name, Lib.tabData k zs) ∈ l) {g t e n : Nat}
    (hg : P.globalNamed name = some g) (hty : (P.globals[g]?).map (·.type) = some t) (ht : P.underlying t = some (.array n e)) (he : P.underlying e = some (.int k)) (hce : P.cellsOf e = 1) (hct : P.cellsOf t = n) : Tb P (St.init W) name k zs := by
  obtain ⟨ps, hv, _⟩ := h
  obtain ⟨g', t', cs, fuel, p, h1, h2, h3, h4⟩ := laid_mem hv hm
  obtain rfl := Option.some.inj (hg.symm.trans h1)
  obtain rfl := Option.some.inj (hty.symm.trans h2)
  refine ⟨g, hg, ?_, rfl, ?_⟩
  · unfold World.var? at h3
    rw [hg, Option.bind_some] at h3
    show g < W.heap.size
    cases hh : W.heap[g]? with
    | none => rw [hh] at h3; simp at h3
    | some o => exact (Array.getElem?_eq_some_iff.1 hh).1
  · show Lib.TabIs P W name k zs
    unfold Lib.TabIs
    rw [h3, ← Lib.cells_of_tab ht he hce hct h4]
theorem ev_cells {P : Program} {W : World} {name : String} {g : Nat} {cs : Array Value} (hg : P.globalNamed name = some g) (h : W.var? P name = some cs) : ∃ t fr, W.heap[g]? = some (.cells cs t fr) := by
  unfold World.var? at h
  rw [hg, Option.bind_some] at h
  cases hh : W.heap[g]? with
  | none => rw [hh] at h; simp at h
  | some o =>
    rw [hh] at h
    cases o <;> simp at h
    subst h
    exact ⟨_, _, rfl⟩
end Go.Fw

set_option linter.unusedSimpArgs false
set_option linter.unusedVariables false
namespace Go.Fw
def methV (P : Program) (t : TypeId) (name : String) (f : FuncId) (e : TypeId) : Bool :=
  (match P.info? t with
  | some i => match i.methods.find? (·.name == name) with
    | some m => m.path.isEmpty && (match m.func with
      | some (g, pr) => Nat.beq g f && !pr
      | none => false)
    | none => false
  | none => false) && (match P.underlying t with
  | some (.pointer e') => Nat.beq e' e
  | _ => false)
section
variable {P : Program} {n : Nat} {Df : Md} {ops : Array Oper} {Q : Post} {rest : List Oper} {ρ : Env} {s : St} {w0 : World}
variable {d : Nat} {ty : TypeId} {pos : String} {aft : Array Edge} {x y z : Operand} {tx tyy : TypeId}
end
section
variable {P : Program} {n : Nat} {Df : Md} {ops : Array Oper} {K : Lab → Prop} {Fin : Env → St → Prop} {r r2 : PT} {i : Nat} {ρ : Env} {s : St}
variable {d j : Nat} {ty : TypeId} {pos : String} {aft : Array Edge} {x y : Operand} {tx : TypeId} {g : Option (Nat × Bool)}
end
end Go.Fw

set_option linter.unusedSimpArgs false
set_option linter.unusedVariables false
namespace Go.Fw
def decF : Nat → Nat → List UInt8
  | 0, _ => []
  | f + 1, u => if u < 10 then [UInt8.ofNat (48 + u)] else decF f (u / 10) ++ [UInt8.ofNat (48 + u % 10)]
def itoaF (n : Int) : List UInt8 := if n < 0 then 45 :: decF 30 n.natAbs else decF 30 n.toNat
theorem decF_eq : ∀ (f u : Nat), u < 10 ^ f → 0 < f → decF f u = Lib.decDigits u
  | 0, _, _, h => absurd h (by omega)
  | f + 1, u, h, _ => by
    rw [decF, Lib.decDigits]
    by_cases hu : u < 10
    · rw [if_pos hu, dif_pos hu]
    · rw [if_neg hu, dif_neg hu]
      have h2 : u / 10 < 10 ^ f := by rw [Nat.pow_succ] at h; omega
      have h3 : 0 < f := by
        rcases Nat.eq_zero_or_pos f with rfl | h
        · simp at h; omega
        · exact h
      rw [decF_eq f (u / 10) h2 h3]
end Go.Fw

set_option linter.unusedSimpArgs false
set_option linter.unusedVariables false
namespace Go.Fw
abbrev cB (x : UInt8) : Value := .int .u8 (x.toNat : Int)
abbrev cU (x : UInt32) : Value := .int .u32 (x.toNat : Int)
abbrev cW (x : UInt64) : Value := .int .u64 (x.toNat : Int)
theorem ones.arrF {α : Type} {f : α → Value} {pre : List Value} (xs : List α) (hf : ∀ x, (f x).oneCell' = true) (h : pre.all Value.oneCell' = true) : (pre ++ xs.map f).all Value.oneCell' = true := by
  rw [List.all_append, h, Bool.true_and]
  induction xs with
  | nil => rfl
  | cons x xs ih => rw [List.map_cons, List.all_cons, ih, hf]; rfl
section
variable {P : Program} {n : Nat} {Df : Md} {ops : Array Oper} {Q : Post} {rest : List Oper} {ρ : Env} {s : St} {w0 : World}
variable {d : Nat} {ty : TypeId} {pos : String} {aft : Array Edge} {x y z : Operand} {tx tyy : TypeId} {α : Type}
theorem jBx {t e q m b : Nat} {k : IntKind} {p : Int} {xs : List α} {zz : α} (hT : arrT P t e q 1) (hx : ev ρ x = some (.pointer (some ⟨b, m, none⟩))) (hy : ev ρ y = some (.int k p)) (hl : xs.length = q) (hg : geti xs p = some zz) (hd : Nat.blt d n = true)
    (hK : KL P n Df ops Q rest ((d, .pointer (some ⟨b, m + p.toNat, none⟩)) :: ρ) w0) : KL P n Df ops Q (⟨some d, .indexAddr t x y, ty, pos, aft, none⟩ :: rest) ρ w0 := by
  obtain ⟨h0, h1, h2⟩ := jAk hg
  refine jCh hT hx hy h0 (by omega) hd ?_
  rw [Nat.mul_one]; exact hK
theorem jBv {b m : Nat} {p : Int} {zz : α} (f : α → Value) {pre : List Value} {xs : List α} {l : Lab} {T : TypeId} (hT : oneT P tx = true) (hx : ev ρ x = some (.pointer (some ⟨b, m + p.toNat, none⟩))) (hb : Blk s b l (pre ++ xs.map f) T) (hm : pre.length = m) (hg : geti xs p = some zz) (hd : Nat.blt d n = true)
    (hK : KL P n Df ops Q rest ((d, f zz) :: ρ) s.w) : KL P n Df ops Q (⟨some d, .load tx x, ty, pos, aft, none⟩ :: rest) ρ s.w := by
  obtain ⟨h0, h1, h2⟩ := jAk hg
  refine jAj hT hx hb ?_ hd hK
  rw [List.getElem?_append_right (by omega), List.getElem?_map, hm, show m + p.toNat - m = p.toNat by omega, h2]
  rfl
theorem jCg {b m : Nat} {p : Int} {zz v : α} (f : α → Value) (hf : ∀ x, (f x).oneCell' = true) {pre : List Value} {xs : List α} {l : Lab} {T : TypeId} (hT : sizeT P tx 1 = true) (hx : ev ρ x = some (.pointer (some ⟨b, m + p.toNat, none⟩))) (hy : ev ρ y = some (f v)) (hb : Blk s b l (pre ++ xs.map f) T) (hl0 : l.o ≠ 0) (hm : pre.length = m) (hg : geti xs p = some zz)
    (hK : ∀ s', Step (KC l.o l.c) s s' → Blk s' b l (pre ++ (xs.set p.toNat v).map f) T → KL P n Df ops Q rest ρ s'.w) :
    KL P n Df ops Q (⟨none, .store tx x y, ty, pos, aft, none⟩ :: rest) ρ s.w := by
  obtain ⟨h0, h1, h2⟩ := jAk hg
  have hlen : (pre ++ xs.map f).length = m + xs.length := by rw [List.length_append, List.length_map, hm]
  have e : (pre ++ xs.map f).take (m + p.toNat) ++ [f v] ++ (pre ++ xs.map f).drop (m + p.toNat + 1) = pre ++ (xs.set p.toNat v).map f := by
    generalize p.toNat = j at h2
    subst hm
    have hj : j < xs.length := (List.getElem?_eq_some_iff.1 h2).1
    rw [List.take_append, List.drop_append, List.take_of_length_le (by omega), List.drop_eq_nil_of_le (by omega), List.nil_append]
    rw [List.set_eq_take_append_cons_drop, if_pos hj]
    simp [List.map_take, List.map_drop, Nat.add_assoc]
  have hble : Nat.ble (m + p.toNat + 1) (pre ++ xs.map f).length = true := by simp only [Nat.ble_eq, hlen]; omega
  refine jAo (cs' := pre ++ (xs.set p.toNat v).map f) hT hx hy hb hl0 (CellsOf.lit (vs := [f v]) ?_ ?_) rfl hble e hK
  · exact cells1 (hf v)
  · simp [hf]
theorem jDl {t e q : Nat} {k : IntKind} {p : Int} {zz : α} (f : α → Value) {xs : List α} (hT : arrT P t e q 1) (hO : oneT P e = true) (hx : ev ρ x = some (.agg ([] ++ xs.map f).toArray)) (hy : ev ρ y = some (.int k p)) (hl : xs.length = q) (hg : geti xs p = some zz) (hd : Nat.blt d n = true)
    (hK : KL P n Df ops Q rest ((d, f zz) :: ρ) w0) : KL P n Df ops Q (⟨some d, .index t x y, ty, pos, aft, none⟩ :: rest) ρ w0 := by
  obtain ⟨h0, h1, h2⟩ := jAk hg
  exact k_index_arr hT hO hx hy h0 (by omega) (by rw [List.nil_append, List.getElem?_map, h2]; rfl) hd hK
end
end Go.Fw

set_option linter.unusedSimpArgs false
set_option linter.unusedVariables false
namespace Go.Fw
section
variable {P : Program} {n : Nat} {Df : Md} {ops : Array Oper} {Q : Post} {rest : List Oper} {ρ : Env} {s : St} {w0 : World}
variable {d : Nat} {ty : TypeId} {pos : String} {aft : Array Edge} {x y z : Operand} {tx tyy : TypeId}
structure RB (s : St) (g : Nat) (l : Lab) (e : TypeId) (cur : List Value) : Prop where
  heap : s.w.heap[g]? = some (.cells cur.toArray e (0, 0))
  lab : s.g g = l
theorem RB.up2 {K : Lab → Prop} {s s' : St} {g : Nat} {l : Lab} {e : TypeId} {cur : List Value} (h : RB s g l e cur) (st : Step K s s') (hk : ¬ K l := by first | exact id | (simp only [KU, KN, KC, KO, K0, KB] <;> omega)) : RB s' g l e cur := by
  have hlt : g < s.n := (Array.getElem?_eq_some_iff.1 h.heap).1
  obtain ⟨e1, e2⟩ := st.keep g hlt (by rw [h.lab]; exact hk)
  exact ⟨e1.trans h.heap, e2.trans h.lab⟩
theorem RB.cell {s : St} {g : Nat} {l : Lab} {e : TypeId} {cur : List Value} (h : RB s g l e cur) (i : Nat) : s.w.cell? ⟨g, i, none⟩ = cur[i]? := by
  simp [World.cell?, h.heap]
theorem addr_add (g o k : Nat) : (⟨g, o, none⟩ : Addr).add k = ⟨g, o + k, none⟩ := by unfold Addr.add; split <;> simp_all
theorem k_cut_raw {w1 g o m cap i j : Nat} {e : TypeId} {lo hi : Option Operand} (hT : P.underlying tx = some (.slice e)) (hs : sizeT P e w1 = true) (hx : ev ρ x = some (.slice (some ⟨g, o, none⟩) m cap))
    (hlo : CutAt ρ 0 lo i) (hhi : CutAt ρ m hi j) (hij : i ≤ j) (hj : j ≤ cap) (hic : i < cap) (hd : Nat.blt d n = true)
    (hK : KL P n Df ops Q rest ((d, .slice (some ⟨g, o + i * w1, none⟩) (j - i) (cap - i)) :: ρ) w0) :
    KL P n Df ops Q (⟨some d, .slice tx x lo hi none, ty, pos, aft, none⟩ :: rest) ρ w0 := by
  have hlo := hlo.lo
  have hhi := hhi.hi
  have hne : ¬ cap = i := by omega
  have hrun : ∀ η : Operand → Value, Agr ρ η → (execOp η ⟨some d, .slice tx x lo hi none, ty, pos, aft, none⟩).run P w0 = .ok (.value (.slice (some ⟨g, o + i * w1, none⟩) (j - i) (cap - i))) w0 := by
    intro η hη
    cases lo with
    | none =>
      simp only at hlo
      subst hlo
      cases hi with
      | none => simp only at hhi; subst hhi; simp [execOp, hη.ev hx, Instr.sliceAt, Instr.slice, Instr.sliceBounds, run_underlying hT, run_sizeOf hs, addr_add, hne]
      | some z => obtain ⟨k, hz⟩ := hhi; simp [execOp, hη.ev hx, hη.ev hz, Instr.sliceAt, Instr.slice, Instr.sliceBounds, Instr.sliceBound, asIntOf, run_underlying hT, run_sizeOf hs, hj, addr_add, hne]
    | some yy =>
      obtain ⟨k, hy⟩ := hlo
      cases hi with
      | none => simp only at hhi; subst hhi; simp [execOp, hη.ev hx, hη.ev hy, Instr.sliceAt, Instr.slice, Instr.sliceBounds, Instr.sliceBound, asIntOf, run_underlying hT, run_sizeOf hs, hij, addr_add, hne]
      | some z => obtain ⟨k', hz⟩ := hhi; simp [execOp, hη.ev hx, hη.ev hy, hη.ev hz, Instr.sliceAt, Instr.slice, Instr.sliceBounds, Instr.sliceBound, asIntOf, run_underlying hT, run_sizeOf hs, hij, hj, addr_add, hne]
  exact .val rfl rfl hd hrun hK
theorem run_copy_cellsK (w : World) (dT sT ty elem : TypeId) (k b o dLen dCap : Nat) (a : Addr) (sLen sCap : Nat) (cs : List Value)
    (hu : P.underlying dT = some (.slice elem)) (hs : (P.info? elem).map (·.size) = some k) (hn : cs.length = Nat.min sLen dLen * k)
    (hsrc : ∀ j v, cs[j]? = some v → w.cell? (a.add j) = some v) (hc : ∀ j, j < cs.length → (w.cell? ⟨b, o + j, none⟩).isSome = true) (hf : ∀ j, j < cs.length → w.frozen? ⟨b, o + j, none⟩ = false) (h1 : ∀ v ∈ cs, v.oneCell' = true) :
    (Builtin.copy_ #[dT, sT] ty #[.slice (some ⟨b, o, none⟩) dLen dCap, .slice (some a) sLen sCap]).run P w = .ok (goInt (Nat.min sLen dLen)) (w.setCells b o cs) := by
  have hl := run_loadCells_list (P := P) w a cs hsrc
  have hst := run_storeCells_cells (P := P) b o cs 0 w (by simpa using hc) (by simpa using hf) h1
  cases hq : P.info? elem with
  | none => simp [hq] at hs
  | some i =>
    have hi : i.size = k := by simpa [hq] using hs
    simp [Builtin.copy_, run_underlying hu, Builtin.lenOf, Builtin.firstCells, sizeOf, typeInfo, hq, hi, ← hn, hl, hst]
end
end Go.Fw
namespace Go.Fw
section
variable {P : Program} {n : Nat} {Df : Md} {ops : Array Oper} {Q : Post} {rest : List Oper} {ρ : Env} {s : St} {w0 : World}
variable {d : Nat} {ty : TypeId} {pos : String} {aft : Array Edge} {x y z : Operand} {tx tyy : TypeId}
end
end Go.Fw
namespace Go.Fw
section
variable {P : Program} {n : Nat} {Df : Md} {ops : Array Oper} {Q : Post} {rest : List Oper} {ρ : Env} {s : St} {w0 : World}
variable {d : Nat} {ty : TypeId} {pos : String} {aft : Array Edge} {x y z : Operand} {tx tyy : TypeId}
end
end Go.Fw
namespace Go.Fw
section
variable {P : Program} {n : Nat} {Df : Md} {ops : Array Oper} {Q : Post} {rest : List Oper} {ρ : Env} {s : St} {w0 : World}
variable {d : Nat} {ty : TypeId} {pos : String} {aft : Array Edge} {x y z : Operand} {tx tyy : TypeId}
def GlobS (P : Program) (s : St) (name : String) (cs : Array Value) : Prop := s.w.var? P name = some cs ∧ ∃ g, P.globalNamed name = some g ∧ g < s.n ∧ s.g g = L0
theorem GlobS.up2 {K : Lab → Prop} {s s' : St} {name : String} {cs : Array Value} (h : GlobS P s name cs) (st : Step K s s') : GlobS P s' name cs := by
  obtain ⟨h1, g, h2, h3, h4⟩ := h
  obtain ⟨e1, e2⟩ := st.keep g h3 (by rw [h4]; exact st.imm 0)
  refine ⟨?_, g, h2, Nat.lt_of_lt_of_le h3 st.size, e2.trans h4⟩
  rw [← h1]
  simp only [World.var?, h2, Option.bind_some, e1]
end
end Go.Fw
namespace Go.Fw
theorem jCi {α : Type} {f : α → D} {l : List α} {i : Int} {x : α} (h : geti l i = some x) : l.map f ≠ [] := by
  intro e
  have := (jAk h).2.1
  have h2 : l.length = 0 := by rw [← List.length_map (f := f), e]; rfl
  have h3 := (jAk h).1
  omega
end Go.Fw

set_option linter.unusedSimpArgs false
set_option linter.unusedVariables false
namespace Go.Fw
def ErrR (v : Value) (b : Bool) : Prop := (b = false → v = .nilIface) ∧ (b = true → ∃ t u, v = .iface t u)
theorem ErrR.nil : ErrR .nilIface false := ⟨fun _ => rfl, fun h => (by cases h)⟩
theorem ErrR.mk (t : TypeId) (u : Value) : ErrR (.iface t u) true := ⟨fun h => (by cases h), fun _ => ⟨t, u, rfl⟩⟩
def Ev (s : St) (g : Nat) : Prop := g < s.n ∧ s.g g = L0 ∧ ∃ ev, s.w.cell? ⟨g, 0, none⟩ = some ev ∧ (ev = .nilIface ∨ ∃ te pe, ev = .iface te pe)
theorem Ev.up2 {K : Lab → Prop} {s s' : St} {g : Nat} (h : Ev s g) (st : Step K s s') : Ev s' g := by
  obtain ⟨h1, h2, ev, h3, h4⟩ := h
  have hk : ¬ K (s.g g) := by rw [h2]; exact st.imm 0
  exact ⟨Nat.lt_of_lt_of_le h1 st.size, (st.keep g h1 hk).2.trans h2, ev, (st.cell h1 hk 0).trans h3, h4⟩
def ifcT (P : Program) (t : TypeId) : Prop := P.underlying t = some (.interface (P.methodsAt t))
section
variable {P : Program} {n : Nat} {Df : Md} {ops : Array Oper} {Q : Post} {rest : List Oper} {ρ : Env} {s : St} {w0 : World}
variable {d : Nat} {ty : TypeId} {pos : String} {aft : Array Edge} {x y z : Operand} {tx tyy : TypeId} {α : Type}
theorem k_eql_err {v : Value} {b : Bool} (hT : ifcT P tx) (h : ErrR v b) (hx : ev ρ x = some v) (hd : Nat.blt d n = true)
    (hK : KL P n Df ops Q rest ((d, .bool (!b)) :: ρ) w0) : KL P n Df ops Q (⟨some d, .binOp .eql tx x (.const .nilIface) tyy, ty, pos, aft, none⟩ :: rest) ρ w0 := by
  cases b with
  | false =>
    obtain rfl := h.1 rfl
    exact .val rfl rfl hd (fun η ha => by simp [execOp, ha.ev hx, show η (.const .nilIface) = .nilIface from ha.ev rfl, eqGuard, run_eql_nil_nil w0 tx hT]) hK
  | true =>
    obtain ⟨t, u, rfl⟩ := h.2 rfl
    exact .val rfl rfl hd (fun η ha => by simp [execOp, ha.ev hx, show η (.const .nilIface) = .nilIface from ha.ev rfl, eqGuard, run_eql_held_nil w0 tx t u hT]) hK
theorem k_neq_err {v : Value} {b : Bool} (hT : ifcT P tx) (h : ErrR v b) (hx : ev ρ x = some v) (hd : Nat.blt d n = true)
    (hK : KL P n Df ops Q rest ((d, .bool b) :: ρ) w0) : KL P n Df ops Q (⟨some d, .binOp .neq tx x (.const .nilIface) tyy, ty, pos, aft, none⟩ :: rest) ρ w0 := by
  cases b with
  | false =>
    obtain rfl := h.1 rfl
    exact .val rfl rfl hd (fun η ha => by simp [execOp, ha.ev hx, show η (.const .nilIface) = .nilIface from ha.ev rfl, eqGuard, run_neq_nil_nil w0 tx hT]) hK
  | true =>
    obtain ⟨t, u, rfl⟩ := h.2 rfl
    exact .val rfl rfl hd (fun η ha => by simp [execOp, ha.ev hx, show η (.const .nilIface) = .nilIface from ha.ev rfl, eqGuard, run_neq_held_nil w0 tx t u hT]) hK
theorem k_append_str_nil (c : Nat) {t u e bytes : Nat} {z : Value} {m : List UInt8} (hT : elemT P t e 1 bytes z) (hz : z = .int .u8 0) (hb1 : bytes = 1) (hu : P.underlying u = some .string) (hx : ev ρ x = some (.slice none 0 0)) (hy : ev ρ y = some (S m))
    (hsz : m.length ≤ 140737488355328) (hd : Nat.blt d n = true)
    (hK : ∀ s' v', Step K0 s s' → Own s' ⟨s.n + 1, c⟩ e 1 v' (Bs m) → KL P n Df ops Q rest ((d, v') :: ρ) s'.w) :
    KL P n Df ops Q (⟨some d, .call { callee := .builtin .append, args := [x, y].toArray, argTypes := [t, u].toArray }, ty, pos, aft, none⟩ :: rest) ρ s.w :=
  k_append_str hT hz hb1 hu hx hy (Own.nil (l := ⟨s.n + 1, c⟩) (by simp) (Nat.le_refl _)) (by simpa using hsz) hd (fun s' v' st ho =>
    hK s' v' ((Step.refl s).transNew st (fun l hl => by have h1 : l.o = s.n + 1 := hl.1; omega)) (by simpa using ho))
theorem jCs {t e q b : Nat} {g : α → D} (f : α → Value) (hfg : ∀ x, g x = .val (f x)) (hf : ∀ x, (f x).oneCell' = true) {xs : List α} {l : Lab} {T : TypeId} {hi : Operand} {j : Nat} (hT : arrT P t e q 1) (hx : ev ρ x = some (.pointer (some ⟨b, 0, none⟩))) (hb : Blk s b l ([] ++ xs.map f) T) (hl : xs.length = q)
    (hhi : CutAt ρ q (some hi) j) (hj : j ≤ q) (hd : Nat.blt d n = true)
    (hK : SL s l (.slice (some ⟨b, 0, none⟩) j q) 1 ((xs.take j).map g) → KL P n Df ops Q rest ((d, .slice (some ⟨b, 0, none⟩) j q) :: ρ) s.w) :
    KL P n Df ops Q (⟨some d, .slice t x none (some hi) none, ty, pos, aft, none⟩ :: rest) ρ s.w := by
  obtain ⟨hu, hs⟩ := hT
  obtain ⟨k, p, hz, hp, rfl⟩ := hhi
  obtain ⟨j, rfl⟩ : ∃ j : Nat, p = j := ⟨p.toNat, by omega⟩
  simp only [Int.toNat_natCast] at hj hK
  have hsl : SL s l (.slice (some ⟨b, 0, none⟩) j q) 1 ((xs.take j).map g) := by
    have hlen : ((xs.take j).map g).length = j := by rw [List.length_map, List.length_take]; omega
    refine .inr ⟨b, 0, q, fun i => [((xs[i]?).map f).getD .nilIface], by rw [hlen], hb.lt, hb.lab, by omega, fun i hi => rfl, fun i hi k hk => ?_, fun i hi => ?_⟩
    · have hi' : i < xs.length := by rw [hlen] at hi; omega
      obtain rfl : k = 0 := by omega
      have := hb.cell i
      rw [List.nil_append, List.getElem?_map, List.getElem?_eq_getElem hi'] at this
      simp only [Nat.zero_add, Nat.mul_one, Nat.add_zero, List.getElem?_eq_getElem hi']
      exact this
    · have hi' : i < xs.length := by rw [hlen] at hi; omega
      simp only [List.getElem?_eq_getElem hi', List.getElem_map, List.getElem_take, Option.map_some, Option.getD_some, hfg]
      exact .val _ (hf _)
  refine .val rfl rfl hd (v := .slice (some ⟨b, 0, none⟩) j q) (fun η ha => ?_) (hK hsl)
  have h2 : (if q = 0 then (⟨b, 0, none⟩ : Addr) else ((⟨b, 0, none⟩ : Addr).add 0)) = ⟨b, 0, none⟩ := by split <;> simp [Addr.add]
  have e1 : ¬ ((j : Int) < 0) := by omega
  have e2 : ¬ ((q : Int) < (j : Int)) := by omega
  simp [execOp, ha.ev hx, ha.ev hz, Instr.sliceAt, Instr.sureAddr, Instr.sliceBounds, Instr.sliceBound, asIntOf, run_underlying hu, run_sizeOf hs, h2, e1, e2, hj]
end
theorem app_ne {α : Type} {lim : Nat} {l m r : List α} (h : app lim l m = some r) (hm : m ≠ []) : r ≠ [] := by
  rw [(jAm h).2]; simp [hm]
theorem decF_lt : ∀ (f u : Nat), u < 10 ^ f → 0 < f → u < 10 ^ (decF f u).length
  | 0, _, _, h => absurd h (by decide)
  | f + 1, u, hu, _ => by
    rw [decF]
    by_cases h : u < 10
    · rw [if_pos h]; simpa using h
    · rw [if_neg h, List.length_append, List.length_cons, List.length_nil, Nat.pow_succ]
      rw [Nat.pow_succ] at hu
      have h2 : u / 10 < 10 ^ f := by omega
      have h3 : 0 < f := by rcases f with _ | f; simp at h2; omega; omega
      have := decF_lt f (u / 10) h2 h3
      omega
theorem fmt10_ret {s : St} {l : Lab} {b nd u : Nat} {xs : List UInt8} {T : TypeId} {w' : World} (hb : Blk s b l ([] ++ xs.map cB) T) (hl0 : l.o ≠ 0) (hnd : nd ≤ xs.length) (hu64 : u < 18446744073709551616) (hlen : (decF 30 u).length = nd)
    (h : ∃ (n v' : Nat) (dk : Array UInt8), w' = (Go.Sort.putRow (fun (b : UInt8) => Value.int .u8 (b.toNat : Int)) s.w b 0 dk).drewN n ∧ Lib.FmtInv nd u 0 v' dk) :
    Ret s (KC l.o l.c) (fun s1 v => v = .tuple #[] ∧ Blk s1 b l ([] ++ (decF 30 u ++ xs.drop nd).map cB) T) (.returned (.tuple #[])) w' := by
  obtain ⟨n, v', dk, rfl, hF⟩ := h
  have hdec : decF 30 u = Lib.decDigits u := decF_eq 30 u (Nat.lt_trans hu64 (by decide)) (by decide)
  have hdk : dk.toList = decF 30 u := by
    rw [hdec, Lib.decDigits_eq]
    have hn : Lib.nDigits u = nd := by rw [← hlen, hdec, Lib.decDigits_eq]; simp
    rw [hn]
    refine List.ext_getElem (by simp [hF.size]) fun i h1 h2 => ?_
    have hi : i < nd := by simpa [hF.size] using h1
    have := hF.done i (Nat.zero_le _) hi
    rw [getElem!_pos _ i (by rw [hF.size]; exact hi)] at this
    simp only [List.getElem_map, List.getElem_range, Array.getElem_toList]
    exact this
  obtain ⟨fr, hh, hf⟩ := hb.heap
  have hlt := hb.lt
  let w2 : World := (Go.Sort.putRow (fun (b : UInt8) => Value.int .u8 (b.toNat : Int)) s.w b 0 dk).drewN n
  have hheap : w2.heap = s.w.heap.modify b (Go.Sort.onCells (Go.Sort.putCells (fun (b : UInt8) => Value.int .u8 (b.toNat : Int)) 0 dk)) := by
    show (World.drewN _ n).heap = _
    have hd : ∀ (w : World) (n : Nat), (w.drewN n).heap = w.heap := fun w n => rfl
    rw [hd]; rfl
  have hcells : (Go.Sort.putCells (fun (b : UInt8) => Value.int .u8 (b.toNat : Int)) 0 dk ([] ++ xs.map cB).toArray) = ([] ++ (decF 30 u ++ xs.drop nd).map cB).toArray := by
    apply Array.ext'
    unfold Go.Sort.putCells
    rw [Array.toList_mapIdx]
    refine List.ext_getElem (by simp [hlen]; omega) fun i h1 h2 => ?_
    have hsz : dk.size = nd := hF.size
    simp only [List.getElem_mapIdx, List.nil_append, List.getElem_map, Nat.zero_le, true_and, Nat.zero_add, Nat.sub_zero, hsz]
    by_cases c : i < nd
    · rw [if_pos c, getElem!_pos _ i (by rw [hsz]; exact c), List.getElem_append_left (by rw [hlen]; exact c)]
      have : dk[i]'(by rw [hsz]; exact c) = (decF 30 u)[i]'(by rw [hlen]; exact c) := by
        simp only [← hdk, Array.getElem_toList]
      rw [this]
    · rw [if_neg c, List.getElem_append_right (by rw [hlen]; omega)]
      simp only [List.getElem_drop, hlen]
      congr 2
      simp only [show nd + (i - nd) = i by omega]
  have hnew : w2.heap[b]? = some (.cells ([] ++ (decF 30 u ++ xs.drop nd).map cB).toArray T fr) := by
    rw [hheap, Array.getElem?_modify, if_pos rfl, hh]
    simp only [Option.map_some, Go.Sort.onCells, hcells]
  let s2 : St := ⟨w2, s.g, s.wf⟩
  have hsize : w2.heap.size = s.w.heap.size := by rw [hheap]; simp
  have st : Step (KC l.o l.c) s s2 := by
    refine ⟨rfl, rfl, rfl, by show s.w.heap.size ≤ w2.heap.size; omega, fun c hc hk => ⟨?_, rfl⟩, fun c hc => hl0 hc.1.symm⟩
    have hne : b ≠ c := by rintro rfl; exact hk (by rw [hb.lab]; exact ⟨rfl, rfl⟩)
    show w2.heap[c]? = _
    rw [hheap, Array.getElem?_modify, if_neg hne]
  refine ⟨s2, .tuple #[], rfl, rfl, st, rfl, ⟨fr, hnew, ?_⟩, hb.lab⟩
  rcases hf with hf | hf
  · exact .inl hf
  · exact .inr (by simp [hlen] at hf ⊢; omega)
end Go.Fw

set_option linter.unusedSimpArgs false
set_option linter.unusedVariables false
namespace Go.Fw
theorem ev_of_laid {P : Program} {W : World} {l : List (String × DataW Unit)} (h : laidMet P l W) {name : String} {d : DataW Unit} (hm : (name, d) ∈ l) {g t : Nat} {ms : Array (String × TypeId)}
    (hg : P.globalNamed name = some g) (hty : (P.globals[g]?).map (·.type) = some t) (ht : P.underlying t = some (.interface ms)) : Ev (St.init W) g := by
  obtain ⟨ps, hv, _⟩ := h
  obtain ⟨g', t', cs, fuel, p, h1, h2, h3, h4⟩ := laid_mem hv hm
  obtain rfl := Option.some.inj (hg.symm.trans h1)
  obtain rfl := Option.some.inj (hty.symm.trans h2)
  obtain ⟨ty, fr, hh⟩ := ev_cells hg h3
  have hlt : g < W.heap.size := (Array.getElem?_eq_some_iff.1 hh).1
  have hc : ∃ v, cs = #[v] ∧ (v = .nilIface ∨ ∃ te pe, v = .iface te pe) := by
    cases fuel with
    | zero => simp [DataW.trod] at h4
    | succ fuel =>
      obtain ⟨cl⟩ := cs
      match cl, h4 with
      | [], h4 => simp [DataW.trod, ht] at h4
      | [v], h4 => 
        refine ⟨v, rfl, ?_⟩
        cases v <;> simp [DataW.trod, ht] at h4 <;> simp
      | _ :: _ :: _, h4 => simp [DataW.trod, ht] at h4
  obtain ⟨v, rfl, hv2⟩ := hc
  refine ⟨hlt, rfl, v, ?_, hv2⟩
  show W.cell? ⟨g, 0, none⟩ = some v
  simp [World.cell?, hh]
end Go.Fw

set_option linter.unusedSimpArgs false
set_option linter.unusedVariables false
namespace Go
namespace Fw
section
variable {P : Program} {n : Nat} {Df : Md} {F : Post} {k : List It} {ρ : Env} {w : World}
end
end Fw
end Go

set_option linter.unusedSimpArgs false
set_option linter.unusedVariables false
namespace Go.Fw
structure YielderW (P : Program) (n0 l : Nat) {X A : Type} (enc : St → A → List Value → Prop) (c : X → A → Option (Bool × X)) (I : X → St → Prop) (Ky Kw : Lab → Prop) : Prop where
  up : ∀ x s1 s2 K, I x s1 → Step K s1 s2 → (∀ lab, K lab → n0 < lab.o ∨ Kw lab) → I x s2
  yield : ∀ x y r s1 vs, n0 ≤ s1.n → I x s1 → enc s1 y vs → c x y = some r → Yields P l vs s1.w (Ret s1 (KB n0 Ky) (fun s2 v => v = .bool r.1 ∧ I r.2 s2))
def ConsW {X : Type} (I : X → St → Prop) (n0 : Nat) (Kw : Lab → Prop) (s : St) (x : X) : Prop := I x s ∧ n0 ≤ s.n ∧ (∀ x s1 s2 K, I x s1 → Step K s1 s2 → (∀ lab, K lab → n0 < lab.o ∨ Kw lab) → I x s2)
theorem ConsW.up2 {X : Type} {I : X → St → Prop} {n0 : Nat} {Kw K : Lab → Prop} {s s' : St} {x : X} (h : ConsW I n0 Kw s x) (st : Step K s s') (hk : ∀ lab, K lab → n0 < lab.o ∨ Kw lab := by intro lab h; first | exact h.elim | exact .inr h | exact .inl (by simp only [KU, KN, KC, KO, K0, KB] at h; omega) | (simp only [KU, KN, KC, KO, K0, KB] at h ⊢; omega)) : ConsW I n0 Kw s' x :=
  ⟨h.2.2 x s s' K h.1 st hk, Nat.le_trans h.2.1 st.size, h.2.2⟩
def RoundFW {X : Type} (l id : Nat) (rec : Loop) (Kb : Lab → Prop) (I : X → St → Prop) (rf : X → Bool) (s1 : St) (r : Bool × X) : Post
  | .normal, _, w => r.1 = true ∧ ∃ s2 : St, s2.w = w ∧ Step (KU (KC (l + 1) 0) Kb) s1 s2 ∧ LoopR s2 l { rec with state := .busy } ∧ I r.2 s2
  | .exit i, _, w => i = id ∧ r.1 = false ∧ rf r.2 = false ∧ ∃ s2 : St, s2.w = w ∧ Step (KU (KC (l + 1) 0) Kb) s1 s2 ∧ LoopR s2 l { rec with state := .busy } ∧ I r.2 s2
  | .ret, _, w => r.1 = false ∧ rf r.2 = true ∧ ∃ s2 : St, s2.w = w ∧ Step (KU (KC (l + 1) 0) Kb) s1 s2 ∧ LoopR s2 l { rec with state := .busy } ∧ I r.2 s2
  | _, _, _ => False
section
variable {P : Program} {n : Nat} {ρ : Env} {s : St} {X A : Type}
end
section
variable {P : Program} {n : Nat} {ρ : Env} {s : St} {w : World} {fn : Func} {T : Ending → World → Prop}
theorem re_nil_c {rs : List ResultVar} (hr : fn.results = rs.toArray) (hl : Nat.ble rs.length 4 = true) (h : ∃ vs, resAll P ρ w rs vs ∧ T (.returned (one vs)) w) : RE P n fn T [] ρ w := by
  intro tmps h1 h2
  obtain ⟨vs, h3, h4⟩ := h
  have hag : Ag n M0 ρ { tmps := tmps, defers := [] } := ⟨h1, h2, rfl⟩
  exact ⟨one vs, results_c hag hr hl h3, h4⟩
end
end Go.Fw
