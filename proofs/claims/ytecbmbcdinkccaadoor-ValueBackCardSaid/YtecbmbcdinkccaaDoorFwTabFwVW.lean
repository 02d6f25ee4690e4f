import Derived.Test.YtecbmbcdinkccaaDoorFwSFwW
import Derived.Lib.LaidTab
import Derived.Test.YtecbmbcdinkccaaDoorFwOFwZ
import Derived.Carry
import Derived.OpenShut
import Derived.ChangeArms
import GoSem.ClaimDataLaid
import Derived.SizedLaws
import GoSem.ClaimJoined
import Derived.Lib.ItoaNum
import Derived.Lib.Overlaps
import Derived.Lib.AppendIntMem
import Derived.WideLaws
import Derived.Lib.AtoiErrMem
import Derived.Scope
set_option linter.unusedSimpArgs false
set_option linter.unusedVariables false
namespace Go.Fw
/-! tables of the library's, which are package-level variables that nobody writes -/
/-- The table of that name is there, and reads so. -/
def Tb (P : Program) (s : St) (name : String) (k : IntKind) (zs : List Int) : Prop := ∃ g, P.globalNamed name = some g ∧ g < s.n ∧ s.g g = L0 ∧ Lib.TabIs P s.w name k zs
theorem Tb.up2 {P : Program} {K : Lab → Prop} {s s' : St} {name : String} {k : IntKind} {zs : List Int} (h : Tb P s name k zs) (st : Step K s s') : Tb P s' name k zs := by
  obtain ⟨g, h1, h2, h3, h4⟩ := h
  have hk : ¬ K (s.g g) := by rw [h3]; exact st.imm 0
  obtain ⟨k1, k2⟩ := st.keep g h2 hk
  refine ⟨g, h1, Nat.lt_of_lt_of_le h2 st.size, k2.trans h3, ?_⟩
  unfold Lib.TabIs World.var? at *
  simp only [h1, Option.bind_some] at h4 ⊢
  rw [k1]; exact h4
theorem Tb.is {P : Program} {s : St} {name : String} {k : IntKind} {zs : List Int} (h : Tb P s name k zs) : Lib.TabIs P s.w name k zs := by obtain ⟨g, h1, h2, h3, h4⟩ := h; exact h4
/-- What a call of the library's leaves, that only makes new blocks. -/
theorem Ret.below {s : St} {φ : St → Value → Prop} {w' : World} {v : Value} (hb : Go.RowKit.Below s.w.heap.size s.w w') (h : ∀ s' : St, s'.w = w' → Step K0 s s' → φ s' v) : Ret s K0 φ (.returned v) w' :=
  have st : Step K0 s (s.to w' L0 (by simp)) := St.to_step hb.os hb.tape hb.output hb.size (fun b hb' _ => hb.block b hb') (fun _ h => h)
  ⟨s.to w' L0 (by simp), v, rfl, rfl, st, h _ rfl st⟩
end Go.Fw

set_option linter.unusedSimpArgs false
set_option linter.unusedVariables false
set_option linter.unnecessarySimpa false
namespace Go.Fw

/-- What an argument reads as, by its type. -/
inductive Typed (P : Program) : TypeId → D → Prop where
  | int {t : TypeId} {k : IntKind} {n : Int} (h : P.underlying t = some (.int k)) (hw : (Lit.int k n).wf = true) : Typed P t (.val (.int k n))
  | bool {t : TypeId} {b : Bool} (h : P.underlying t = some .bool) : Typed P t (.val (.bool b))
  | str {t : TypeId} {s : ByteArray} (h : P.underlying t = some .string) (hs : s.size ≤ reachBytes) : Typed P t (.val (.string s))
  | sl {t e : TypeId} {l : List D} (h : P.underlying t = some (.slice e)) (hl : l.length ≤ maxLen) (hb : l.length * P.bytesOf e ≤ reachBytes) (hd : ∀ d ∈ l, Typed P e d) : Typed P t (.sl (P.cellsOf e) l)
  | agg {t : TypeId} {fs : Array Field} {l : List D} (h : P.underlying t = some (.struct fs)) (hl : l.length = fs.size) (hd : ∀ (i : Nat) (f : Field) (d : D), fs[i]? = some f → l[i]? = some d → Typed P f.type d) : Typed P t (.agg l)
  | arr {t e : TypeId} {n : Nat} {l : List D} (h : P.underlying t = some (.array n e)) (hl : l.length = n) (hd : ∀ d ∈ l, Typed P e d) : Typed P t (.agg l)
  | nilp {t e : TypeId} (h : P.underlying t = some (.pointer e)) : Typed P t (.val (.pointer none))
  | ptr {t e : TypeId} {d : D} (h : P.underlying t = some (.pointer e)) (hd : Typed P e d) : Typed P t (.ptr d)
  | one {t : TypeId} {v : Value} (h1 : ∀ k, P.underlying t ≠ some (.int k)) (h2 : P.underlying t ≠ some .bool) (h3 : P.underlying t ≠ some .string) (h4 : ∀ e, P.underlying t ≠ some (.slice e)) (h5 : ∀ fs, P.underlying t ≠ some (.struct fs)) (h6 : ∀ n e, P.underlying t ≠ some (.array n e)) (h7 : ∀ e, P.underlying t ≠ some (.pointer e)) : Typed P t (.val v)

/-- The world as it is at the start: nobody writes what is there. -/
def St.init (w : World) : St := ⟨w, fun _ => L0, fun b => Nat.zero_le _⟩

/-- These types lead to no other ones; no slice, no pointer leads to what has no cell. -/
def closedB (P : Program) (ts : List TypeId) : Bool := ts.all fun t => isVar P t && match P.underlying t with
  | some (.slice e) => decide (0 < P.cellsOf e) && ts.contains e
  | some (.pointer e) => decide (0 < P.cellsOf e) && ts.contains e
  | some (.array _ e) => ts.contains e
  | some (.struct fs) => fs.toList.all fun f => ts.contains f.type
  | _ => true

theorem cells_of {w : World} {a : Addr} {n : Nat} {cs : List Value} (h : w.cells? 0 a n = some cs) : cs.length = n ∧ ∀ j, j < n → w.cell? (a.add j) = cs[j]? := by
  unfold World.cells? at h
  rw [if_pos (Nat.zero_le _)] at h
  have hl := mapM_some_length h
  refine ⟨by simpa using hl, fun j hj => ?_⟩
  exact mapM_some_get h j j (by simp [hj])

theorem len1 {α : Type} {l : List α} (h : l.length = 1) : ∃ x, l = [x] := by
  cases l with
  | nil => simp at h
  | cons a r => cases r with
    | nil => exact ⟨a, rfl⟩
    | cons b r => simp at h
theorem flat_cut (cs : List Value) : ∀ (ws : List Nat), cs.length = ws.sum → ((List.range ws.length).map fun i => (cs.drop (ws.take i).sum).take (ws.getD i 0)).flatten = cs := by
  intro ws
  induction ws generalizing cs with
  | nil => intro h; simp at h; simp [h]
  | cons w ws ih =>
    intro h
    rw [List.length_cons, List.range_succ_eq_map, List.map_cons, List.flatten_cons]
    have h2 := ih (cs.drop w) (by simp at h ⊢; omega)
    simp only [List.map_map, Function.comp_def, List.take_succ_cons, List.sum_cons, List.getD_cons_succ] at h2 ⊢
    simp only [List.drop_drop] at h2
    rw [h2]
    simp
theorem add_none (b off i : Nat) : (⟨b, off, none⟩ : Addr).add i = ⟨b, off + i, none⟩ := by unfold Addr.add; split <;> simp_all
theorem cell_lt {w : World} {a : Addr} {v : Value} (h : w.cell? a = some v) : a.block < w.heap.size := by
  rcases Nat.lt_or_ge a.block w.heap.size with h1 | h1
  · exact h1
  · unfold World.cell? at h
    rw [Array.getElem?_eq_none h1] at h
    split at h <;> simp_all

theorem wAll {H : Type} {P : Program} {e : TypeId} {q : Nat} {d : DataW H} : ∀ {l : List (DataW H)}, d ∈ l → q ∈ d.weights P e → q ∈ DataW.weightsAll P e l
  | d0 :: l, hd, hq => by
    simp only [DataW.weightsAll, List.mem_append]
    rcases List.mem_cons.1 hd with rfl | hd
    · exact .inl hq
    · exact .inr (wAll hd hq)
theorem open_D {H : Type} {enc : TypeId × Value → H} {P : Program} {w : World} {ts : List TypeId} (hl : laidOutB P = true) (hz : closedB P ts = true) : ∀ (fuel : Nat) (t : TypeId) (cs : List Value) (x : DataW H × List MemPlace), t ∈ ts →
    DataW.trod enc P w 0 (fun _ => true) true fuel t cs = some x → (∀ q ∈ x.1.weights P t, q ≤ reachBytes) → ∃ d, RC (St.init w) cs d ∧ Typed P t d := by
  intro fuel
  induction fuel with
  | zero => intro t cs x _ h _; simp [DataW.trod] at h
  | succ n ih =>
    intro t cs x hts h hB
    have hcl := List.all_eq_true.1 hz t hts
    simp only [Bool.and_eq_true] at hcl
    obtain ⟨hv, hcl⟩ := hcl
    have hv' := hv
    simp only [isVar, Bool.and_eq_true, decide_eq_true_eq] at hv'
    obtain ⟨hsz, hk⟩ := hv'
    have hrow : rowFine P t = true := by
      simp only [laidOutB, Bool.and_eq_true] at hl
      exact List.all_eq_true.1 hl.1.1 t (List.mem_range.2 hsz)
    simp only [rowFine, hv, Bool.not_true, Bool.false_or] at hrow
    cases hu : P.underlying t with
    | none => rw [hu] at hk; simp [kindOk] at hk
    | some td =>
      by_cases h1 : ∃ k, td = .int k
      · obtain ⟨k, rfl⟩ := h1
        obtain ⟨m, rfl, rfl, hw⟩ := DataW.trod_int hu h
        exact ⟨_, .val _ rfl, .int hu hw⟩
      by_cases h2 : td = .bool
      · subst h2
        obtain ⟨b, rfl, rfl⟩ := DataW.trod_bool hu h
        exact ⟨_, .val _ rfl, .bool hu⟩
      by_cases h3 : td = .string
      · subst h3
        obtain ⟨b, rfl, rfl, hs⟩ := DataW.trod_string hu h
        exact ⟨_, .val _ rfl, .str hu (by have := hB b.data.toList.length (by simp [DataW.weights]); simpa using this)⟩
      by_cases h4 : ∃ e, td = .slice e
      · obtain ⟨e, rfl⟩ := h4
        rw [hu] at hrow
        simp only [Bool.and_eq_true] at hrow
        rw [hu] at hcl
        simp only [Bool.and_eq_true, decide_eq_true_eq, List.contains_eq_mem] at hcl
        obtain ⟨hpos, hin⟩ := hcl
        rcases DataW.trod_slice hu h with ⟨rfl, _⟩ | ⟨a, len, cap, elems, rest, m, hm, rfl, rfl, _, hlc, hcm, hel, he, _⟩
        · exact ⟨.sl (P.cellsOf e) [], .nilsl _ _ _ (fun _ => rfl), .sl hu (Nat.zero_le _) (by simp) (by simp)⟩
        · cases hm
          have hB0 : (elems.length + rest.length) * P.bytesOf e ≤ reachBytes := hB _ (by simp [DataW.weights, hu])
          have hB1 : ∀ (y : DataW H × List MemPlace), y ∈ elems → ∀ q ∈ y.1.weights P e, q ≤ reachBytes := fun y hy q hq => hB q (by simp only [DataW.weights, hu]; exact List.mem_cons_of_mem _ (List.mem_append_left _ (wAll (List.mem_map.2 ⟨y, hy, rfl⟩) hq)))
          have hg : ∀ i, i < len → ∃ cs' d, (cs' : List Value).length = P.cellsOf e ∧ (∀ j, j < P.cellsOf e → w.cell? ((a.add (i * P.cellsOf e)).add j) = cs'[j]?) ∧ RC (St.init w) cs' d ∧ Typed P e d := by
            intro i hi
            have h5 := he i hi
            rw [List.getElem?_eq_getElem (show i < elems.length by omega), Option.bind_eq_some_iff] at h5
            obtain ⟨cs', h6, h7⟩ := h5
            obtain ⟨d, h8, h9⟩ := ih e cs' _ hin h7 (hB1 _ (List.getElem_mem _))
            obtain ⟨h10, h11⟩ := cells_of h6
            exact ⟨cs', d, h10, h11, h8, h9⟩
          by_cases h0 : len = 0
          · subst h0
            exact ⟨.sl (P.cellsOf e) [], .nilsl _ _ _ (by simp), .sl hu (Nat.zero_le _) (by simp) (by simp)⟩
          · obtain ⟨c0, d0, e1, e2, _, _⟩ := hg 0 (by omega)
            have e3 := e2 0 hpos
            rw [List.getElem?_eq_getElem (show 0 < c0.length by omega)] at e3
            have e4 := World.cell?_spot e3
            obtain ⟨b, off, sp⟩ := a
            have e5 : sp = none := by
              cases sp with
              | none => rfl
              | some q => simp [Addr.add] at e4
            subst e5
            have hb : b < w.heap.size := by
              have := cell_lt e3
              simpa [add_none] using this
            let cf : Nat → List Value := fun i => if hi : i < len then Classical.choose (hg i hi) else []
            let df : Nat → D := fun i => if hi : i < len then Classical.choose (Classical.choose_spec (hg i hi)) else .agg []
            have hcf : ∀ i (hi : i < len), (cf i).length = P.cellsOf e ∧ (∀ j, j < P.cellsOf e → w.cell? (((⟨b, off, none⟩ : Addr).add (i * P.cellsOf e)).add j) = (cf i)[j]?) ∧ RC (St.init w) (cf i) (df i) ∧ Typed P e (df i) := by
              intro i hi
              have := Classical.choose_spec (Classical.choose_spec (hg i hi))
              simp only [cf, df, dif_pos hi]
              exact this
            have hlen : ((List.range len).map df).length = len := by simp
            have hR : RC (St.init w) [.slice (some ⟨b, off, none⟩) ((List.range len).map df).length cap] (.sl (P.cellsOf e) ((List.range len).map df)) := by
              refine .sl _ b off cap _ cf hb rfl (by rw [hlen]; exact hlc) (fun i hi => ?_) (fun i hi j hj => ?_) (fun i hi => ?_)
              · rw [hlen] at hi; exact (hcf i hi).1
              · rw [hlen] at hi
                have := (hcf i hi).2.1 j hj
                rw [add_none, add_none] at this
                exact this
              · have hi' := hi
                rw [hlen] at hi'
                simp only [List.getElem_map, List.getElem_range]
                exact (hcf i hi').2.2.1
            rw [hlen] at hR
            refine ⟨_, hR, .sl hu (by rw [hlen]; omega) (by rw [hlen, ← hel]; exact Nat.le_trans (Nat.mul_le_mul_right _ (Nat.le_add_right _ _)) hB0) ?_⟩
            intro d hd
            simp only [List.mem_map, List.mem_range] at hd
            obtain ⟨i, hi, rfl⟩ := hd
            exact (hcf i hi).2.2.2
      by_cases h5 : ∃ fs, td = .struct fs
      · obtain ⟨fs, rfl⟩ := h5
        rw [hu] at hrow
        simp only [Bool.and_eq_true, List.all_eq_true, beq_iff_eq, List.mem_range] at hrow
        obtain ⟨⟨r1, r2⟩, r3⟩ := hrow
        rw [hu] at hcl
        simp only [List.all_eq_true, List.contains_eq_mem, decide_eq_true_eq] at hcl
        have hin := hcl
        obtain ⟨xs, m, hm, rfl, hcl, hxl, hx⟩ := DataW.trod_struct hu h
        cases hm
        let ws := fs.toList.map fun f => P.cellsOf f.type
        have hoff : ∀ i (f : Field), fs.toList[i]? = some f → f.offset = (ws.take i).sum := by
          intro i f hf
          have := r3 i (List.getElem?_eq_some_iff.1 hf).1
          rw [hf] at this
          simp only [beq_iff_eq] at this
          rw [this, List.map_take]
        have hg : ∀ i, i < fs.size → ∃ d, RC (St.init w) ((cs.drop (ws.take i).sum).take (ws.getD i 0)) d ∧ ∀ f : Field, fs[i]? = some f → Typed P f.type d := by
          intro i hi
          have hf : fs[i]? = some fs[i] := by simp [hi]
          have hf' : fs.toList[i]? = some fs[i] := by simpa using hf
          have h6 := hx i _ hf
          rw [List.getElem?_eq_getElem (show i < xs.length by omega)] at h6
          obtain ⟨d, h7, h8⟩ := ih _ _ _ (hin _ (List.mem_of_getElem? hf')) h6 (fun q hq => hB q (by simp only [DataW.weights, hu]; exact DataW.weights_mem_each (j := i) (t := fs[i].type) (d := xs[i].1) (by rw [List.getElem?_map, hf']; rfl) (by rw [List.getElem?_map, List.getElem?_eq_getElem (show i < xs.length by omega)]; rfl) q hq))
          refine ⟨d, ?_, fun f hf2 => ?_⟩
          · rw [← hoff i _ hf']
            have : ws.getD i 0 = P.cellsOf fs[i].type := by simp [ws, List.getD, hi]
            rw [this]
            exact h7
          · rw [hf] at hf2
            cases hf2
            exact h8
        let df : Nat → D := fun i => if hi : i < fs.size then Classical.choose (hg i hi) else .agg []
        have hdf : ∀ i (hi : i < fs.size), RC (St.init w) ((cs.drop (ws.take i).sum).take (ws.getD i 0)) (df i) ∧ ∀ f : Field, fs[i]? = some f → Typed P f.type (df i) := by
          intro i hi
          have := Classical.choose_spec (hg i hi)
          simp only [df, dif_pos hi]
          exact this
        have hwl : ws.length = fs.size := by simp [ws]
        have hfl := flat_cut cs ws (by rw [hcl, r2])
        refine ⟨.agg ((List.range ws.length).map df), ?_, .agg hu (by simp [hwl]) ?_⟩
        · have := RC.agg (s := St.init w) ((List.range ws.length).map fun i => (cs.drop (ws.take i).sum).take (ws.getD i 0)) ((List.range ws.length).map df) (by simp) (fun i h1 h2 => by
            simp only [List.getElem_map, List.getElem_range]
            exact (hdf i (by simpa [hwl] using h1)).1)
          rw [hfl] at this
          exact this
        · intro i f d hf hd
          have hi : i < fs.size := by
            rcases Nat.lt_or_ge i fs.size with h | h
            · exact h
            · rw [Array.getElem?_eq_none h] at hf; simp at hf
          rw [List.getElem?_eq_getElem (show i < ((List.range ws.length).map df).length by simpa [hwl] using hi)] at hd
          simp only [List.getElem_map, List.getElem_range, Option.some.injEq] at hd
          subst hd
          exact (hdf i hi).2 f hf
      by_cases h6 : ∃ m e, td = .array m e
      · obtain ⟨m, e, rfl⟩ := h6
        rw [hu] at hrow
        simp only [Bool.and_eq_true, beq_iff_eq] at hrow
        rw [hu] at hcl
        simp only [List.contains_eq_mem, decide_eq_true_eq] at hcl
        have hin := hcl
        obtain ⟨xs, q, hq, rfl, hcl, hxl, hx⟩ := DataW.trod_array hu h
        cases hq
        let ws := List.replicate m (P.cellsOf e)
        have hsum : ∀ i, i ≤ m → (ws.take i).sum = i * P.cellsOf e := by
          intro i hi
          simp [ws, Nat.min_eq_left hi]
        have hg : ∀ i, i < m → ∃ d, RC (St.init w) ((cs.drop (ws.take i).sum).take (ws.getD i 0)) d ∧ Typed P e d := by
          intro i hi
          have h6 := hx i hi
          rw [List.getElem?_eq_getElem (show i < xs.length by omega)] at h6
          obtain ⟨d, h7, h8⟩ := ih _ _ _ hin h6 (fun q hq => hB q (by unfold DataW.weights; simp only [hu]; exact wAll (List.mem_map.2 ⟨xs[i], List.getElem_mem _, rfl⟩) hq))
          refine ⟨d, ?_, h8⟩
          rw [hsum i (by omega)]
          have : ws.getD i 0 = P.cellsOf e := by simp [ws, List.getD, hi]
          rw [this]
          exact h7
        let df : Nat → D := fun i => if hi : i < m then Classical.choose (hg i hi) else .agg []
        have hdf : ∀ i (hi : i < m), RC (St.init w) ((cs.drop (ws.take i).sum).take (ws.getD i 0)) (df i) ∧ Typed P e (df i) := by
          intro i hi
          have := Classical.choose_spec (hg i hi)
          simp only [df, dif_pos hi]
          exact this
        have hwl : ws.length = m := by simp [ws]
        have hfl := flat_cut cs ws (by rw [hcl, hrow.2]; simp [ws])
        refine ⟨.agg ((List.range ws.length).map df), ?_, .arr hu (by simp [hwl]) ?_⟩
        · have := RC.agg (s := St.init w) ((List.range ws.length).map fun i => (cs.drop (ws.take i).sum).take (ws.getD i 0)) ((List.range ws.length).map df) (by simp) (fun i h1 h2 => by
            simp only [List.getElem_map, List.getElem_range]
            exact (hdf i (by simpa [hwl] using h1)).1)
          rw [hfl] at this
          exact this
        · intro d hd
          simp only [List.mem_map, List.mem_range, hwl] at hd
          obtain ⟨i, hi, rfl⟩ := hd
          exact (hdf i hi).2
      by_cases h7 : ∃ e, td = .pointer e
      · obtain ⟨e, rfl⟩ := h7
        rw [hu] at hrow
        simp only [Bool.and_eq_true] at hrow
        rw [hu] at hcl
        simp only [Bool.and_eq_true, decide_eq_true_eq, List.contains_eq_mem] at hcl
        obtain ⟨hpos, hin⟩ := hcl
        rcases DataW.trod_pointer hu h with ⟨rfl, _⟩ | ⟨a, cs', y, m, hm, rfl, rfl, h8, h9⟩
        · exact ⟨_, .val _ rfl, .nilp hu⟩
        · cases hm
          obtain ⟨d, h10, h11⟩ := ih e cs' _ hin h9 (fun q hq => hB q (by unfold DataW.weights; simp only [hu]; exact hq))
          obtain ⟨h12, h13⟩ := cells_of h8
          have e3 := h13 0 hpos
          rw [List.getElem?_eq_getElem (show 0 < cs'.length by omega)] at e3
          have e4 := World.cell?_spot e3
          obtain ⟨b, off, sp⟩ := a
          have e5 : sp = none := by
            cases sp with
            | none => rfl
            | some q => simp [Addr.add] at e4
          subst e5
          have hb : b < w.heap.size := by
            have := cell_lt e3
            simpa [add_none] using this
          exact ⟨_, .ptr b off cs' d hb rfl (fun j hj => by have := h13 j (by omega); rw [add_none] at this; exact this) h10, .ptr hu h11⟩
      · have hone : ∃ v, cs = [v] ∧ v.oneCell' = true := by
          unfold DataW.trod at h
          rw [hu] at h
          split at h <;> simp_all [kindOk]
          all_goals (try exact rfl)
        obtain ⟨v, rfl, ho⟩ := hone
        exact ⟨.val v, .val v ho, .one (fun k e => h1 ⟨k, Option.some.inj (hu.symm.trans e)⟩) (fun e => h2 (Option.some.inj (hu.symm.trans e))) (fun e => h3 (Option.some.inj (hu.symm.trans e))) (fun e' e => h4 ⟨e', Option.some.inj (hu.symm.trans e)⟩)
          (fun fs e => h5 ⟨fs, Option.some.inj (hu.symm.trans e)⟩) (fun m e' e => h6 ⟨m, e', Option.some.inj (hu.symm.trans e)⟩) (fun e' e => h7 ⟨e', Option.some.inj (hu.symm.trans e)⟩)⟩

section
variable {P : Program} {t e : TypeId} {d : D}
theorem Typed.inv_int {k : IntKind} (hu : P.underlying t = some (.int k)) (h : Typed P t d) : ∃ n, d = .val (.int k n) ∧ (Lit.int k n).wf = true := by
  cases h with
  | int h hw => rw [hu] at h; cases h; exact ⟨_, rfl, hw⟩
  | one h1 => exact absurd hu (h1 _)
  | bool h => rw [hu] at h; cases h
  | str h => rw [hu] at h; cases h
  | sl h => rw [hu] at h; cases h
  | agg h => rw [hu] at h; cases h
  | arr h => rw [hu] at h; cases h
  | nilp h => rw [hu] at h; cases h
  | ptr h => rw [hu] at h; cases h
theorem Typed.inv_bool (hu : P.underlying t = some .bool) (h : Typed P t d) : ∃ b, d = .val (.bool b) := by
  cases h with
  | bool h => exact ⟨_, rfl⟩
  | one h1 h2 => exact absurd hu h2
  | int h => rw [hu] at h; cases h
  | str h => rw [hu] at h; cases h
  | sl h => rw [hu] at h; cases h
  | agg h => rw [hu] at h; cases h
  | arr h => rw [hu] at h; cases h
  | nilp h => rw [hu] at h; cases h
  | ptr h => rw [hu] at h; cases h
theorem Typed.inv_str (hu : P.underlying t = some .string) (h : Typed P t d) : ∃ l : List UInt8, d = .val (S l) ∧ l.length ≤ reachBytes := by
  cases h with
  | str h hs => rename_i s; exact ⟨s.data.toList, rfl, by rw [Array.length_toList]; exact hs⟩
  | one h1 h2 h3 => exact absurd hu h3
  | int h => rw [hu] at h; cases h
  | bool h => rw [hu] at h; cases h
  | sl h => rw [hu] at h; cases h
  | agg h => rw [hu] at h; cases h
  | arr h => rw [hu] at h; cases h
  | nilp h => rw [hu] at h; cases h
  | ptr h => rw [hu] at h; cases h
theorem Typed.inv_sl (hu : P.underlying t = some (.slice e)) (h : Typed P t d) : ∃ l, d = .sl (P.cellsOf e) l ∧ l.length * P.bytesOf e ≤ reachBytes ∧ ∀ x ∈ l, Typed P e x := by
  cases h with
  | sl h hl hb hd => rw [hu] at h; cases h; exact ⟨_, rfl, hb, hd⟩
  | one h1 h2 h3 h4 => exact absurd hu (h4 _)
  | int h => rw [hu] at h; cases h
  | bool h => rw [hu] at h; cases h
  | str h => rw [hu] at h; cases h
  | agg h => rw [hu] at h; cases h
  | arr h => rw [hu] at h; cases h
  | nilp h => rw [hu] at h; cases h
  | ptr h => rw [hu] at h; cases h
theorem Typed.inv_agg {fs : Array Field} (hu : P.underlying t = some (.struct fs)) (h : Typed P t d) : ∃ l, d = .agg l ∧ l.length = fs.size ∧ ∀ (i : Nat) (f : Field) (x : D), fs[i]? = some f → l[i]? = some x → Typed P f.type x := by
  cases h with
  | agg h hl hd => rw [hu] at h; cases h; exact ⟨_, rfl, hl, hd⟩
  | one h1 h2 h3 h4 h5 => exact absurd hu (h5 _)
  | int h => rw [hu] at h; cases h
  | bool h => rw [hu] at h; cases h
  | str h => rw [hu] at h; cases h
  | sl h => rw [hu] at h; cases h
  | arr h => rw [hu] at h; cases h
  | nilp h => rw [hu] at h; cases h
  | ptr h => rw [hu] at h; cases h
theorem Typed.inv_arr {n : Nat} (hu : P.underlying t = some (.array n e)) (h : Typed P t d) : ∃ l, d = .agg l ∧ l.length = n ∧ ∀ x ∈ l, Typed P e x := by
  cases h with
  | arr h hl hd => rw [hu] at h; cases h; exact ⟨_, rfl, hl, hd⟩
  | one h1 h2 h3 h4 h5 h6 => exact absurd hu (h6 _ _)
  | int h => rw [hu] at h; cases h
  | bool h => rw [hu] at h; cases h
  | str h => rw [hu] at h; cases h
  | sl h => rw [hu] at h; cases h
  | agg h => rw [hu] at h; cases h
  | nilp h => rw [hu] at h; cases h
  | ptr h => rw [hu] at h; cases h
theorem Typed.inv_ptr (hu : P.underlying t = some (.pointer e)) (h : Typed P t d) : d = .val (.pointer none) ∨ ∃ x, d = .ptr x ∧ Typed P e x := by
  cases h with
  | nilp h => exact .inl rfl
  | ptr h hd => rw [hu] at h; cases h; exact .inr ⟨_, rfl, hd⟩
  | one h1 h2 h3 h4 h5 h6 h7 => exact absurd hu (h7 _)
  | int h => rw [hu] at h; cases h
  | bool h => rw [hu] at h; cases h
  | str h => rw [hu] at h; cases h
  | sl h => rw [hu] at h; cases h
  | agg h => rw [hu] at h; cases h
  | arr h => rw [hu] at h; cases h
end
/-- Each is one of these: so all are. -/
theorem all_of {α β : Type} {f : β → α} {ok : β → Prop} : ∀ {l : List α}, (∀ x ∈ l, ∃ y, x = f y ∧ ok y) → ∃ m : List β, l = m.map f ∧ ∀ y ∈ m, ok y
  | [], _ => ⟨[], rfl, by simp⟩
  | x :: l, h => by
    obtain ⟨y, e, hy⟩ := h x (by simp)
    obtain ⟨m, e2, hm⟩ := all_of (l := l) (fun z hz => h z (by simp [hz]))
    refine ⟨y :: m, by rw [e, e2]; rfl, ?_⟩
    intro z hz
    rcases List.mem_cons.1 hz with rfl | hz
    · exact hy
    · exact hm z hz
/-- From what came in to the framework's word for it. -/
theorem open_R {H : Type} {enc : TypeId × Value → H} {P : Program} {W : World} {t : TypeId} {v : Value} {d : DataW H} {ps : List MemPlace} {ts : List TypeId} (hl : laidOutB P = true) (hz : closedB P ts = true) (hv : ts.contains t = true) (h1 : v.cells = #[v])
    (h : DataW.Trod enc P W 0 (fun _ => true) true t v d ps) (hB : ∀ q ∈ d.weights P t, q ≤ reachBytes) : ∃ x, RC (St.init W) [v] x ∧ Typed P t x := by
  obtain ⟨fuel, hf⟩ := h
  rw [h1] at hf
  exact open_D hl hz fuel t [v] _ (by simpa using hv) hf hB
theorem open_Ragg {H : Type} {enc : TypeId × Value → H} {P : Program} {W : World} {t : TypeId} {cs : Array Value} {d : DataW H} {ps : List MemPlace} {ts : List TypeId} (hl : laidOutB P = true) (hz : closedB P ts = true) (hv : ts.contains t = true)
    (h : DataW.Trod enc P W 0 (fun _ => true) true t (.agg cs) d ps) (hB : ∀ q ∈ d.weights P t, q ≤ reachBytes) : ∃ x, RC (St.init W) cs.toList x ∧ Typed P t x := by
  obtain ⟨fuel, hf⟩ := h
  exact open_D hl hz fuel t cs.toList _ (by simpa using hv) hf hB
/-- A call that writes nothing, as the row wants it. -/
theorem below_of {P : Program} {f : FuncId} {args : Array Value} {W : World} {v0 : Value} (h : Calls P f args (St.init W).w (Ret (St.init W) K0 fun _ v => v = v0)) : Calls P f args W fun e w' => e = .returned v0 ∧ Go.RowKit.Below W.heap.size W w' :=
  h.mono (by
    rintro e w' ⟨s1, v1, rfl, rfl, st, rfl⟩
    exact ⟨rfl, st.below⟩)
end Go.Fw
namespace Go.Fw
theorem weights_app {H : Type} {P : Program} {q : Nat} : ∀ {ts us : List TypeId} {ds es : List (DataW H)}, q ∈ DataW.weightsEach P ts ds → q ∈ DataW.weightsEach P (ts ++ us) (ds ++ es)
  | t :: ts, us, d :: ds, es, h => by
    simp only [List.cons_append, DataW.weightsEach, List.mem_append] at h ⊢
    exact h.imp id weights_app
  | [], _, _, _, h => by simp [DataW.weightsEach] at h
  | _ :: _, _, [], _, h => by simp [DataW.weightsEach] at h
theorem wt_mem {H : Type} {P : Program} {ts : List TypeId} {ds : List (DataW H)} (h : (DataW.weightsEach P ts ds).all (· ≤ reachBytes) = true) {j : Nat} {t : TypeId} {d : DataW H} (ht : ts[j]? = some t) (hd : ds[j]? = some d) : ∀ q ∈ d.weights P t, q ≤ reachBytes :=
  fun q hq => by simpa using List.all_eq_true.1 h q (DataW.weights_mem_each ht hd q hq)
end Go.Fw

set_option linter.unusedSimpArgs false
set_option linter.unusedVariables false
namespace Go.Fw
/-! what a row's condition says of its tables, as facts of the first state -/
theorem laid_mem {P : Program} {W : World} : ∀ {l : List (String × DataW Unit)} {ps : List MemPlace}, DataW.LaidVars P W l ps → ∀ {name : String} {d : DataW Unit}, (name, d) ∈ l →
    ∃ g t cs fuel p, P.globalNamed name = some g ∧ (P.globals[g]?).map (·.type) = some t ∧ W.var? P name = some cs ∧ DataW.trod (fun _ => ()) P W 0 (fun _ => true) false fuel t cs.toList = some (d, p)
  | [], _, _, _, _, h => by simp at h
  | (n, d) :: r, ps, h, name, d', hm => by
    obtain ⟨g, t, cs, fuel, p, q, h1, h2, h3, h4, h5, _⟩ := h
    rcases List.mem_cons.1 hm with e | hm
    · injection e with e1 e2
      subst e1; subst e2
      exact ⟨g, t, cs, fuel, p, h1, h2, h3, h4⟩
    · exact laid_mem h5 hm
theorem laidMet_of {P : Program} {W : World} {l : List (String × DataW Unit)} (h : laidMetH P l W) (hn : (l.filter fun x => x.2.handleName?.isSome) = []) : laidMet P l W := by
  unfold laidMetH at h
  rw [hn] at h
  exact h
theorem tab_of_laid {P : Program} {W : World} {l : List (String × DataW Unit)} (h : laidMet P l W) {name : String} {k : IntKind} {zs : List Int} (hm : (name, Lib.tabData k zs) ∈ l) {g t e n : Nat}
    (hg : P.globalNamed name = some g) (hty : (P.globals[g]?).map (·.type) = some t) (ht : P.underlying t = some (.array n e)) (he : P.underlying e = some (.int k)) (hce : P.cellsOf e = 1) (hct : P.cellsOf t = n) : Tb P (St.init W) name k zs := by
  obtain ⟨ps, hv, _⟩ := h
  obtain ⟨g', t', cs, fuel, p, h1, h2, h3, h4⟩ := laid_mem hv hm
  obtain rfl := Option.some.inj (hg.symm.trans h1)
  obtain rfl := Option.some.inj (hty.symm.trans h2)
  refine ⟨g, hg, ?_, rfl, ?_⟩
  · unfold World.var? at h3
    rw [hg, Option.bind_some] at h3
    show g < W.heap.size
    cases hh : W.heap[g]? with
    | none => rw [hh] at h3; simp at h3
    | some o => exact (Array.getElem?_eq_some_iff.1 hh).1
  · show Lib.TabIs P W name k zs
    unfold Lib.TabIs
    rw [h3, ← Lib.cells_of_tab ht he hce hct h4]
theorem ev_cells {P : Program} {W : World} {name : String} {g : Nat} {cs : Array Value} (hg : P.globalNamed name = some g) (h : W.var? P name = some cs) : ∃ t fr, W.heap[g]? = some (.cells cs t fr) := by
  unfold World.var? at h
  rw [hg, Option.bind_some] at h
  cases hh : W.heap[g]? with
  | none => rw [hh] at h; simp at h
  | some o =>
    rw [hh] at h
    cases o <;> simp at h
    subst h
    exact ⟨_, _, rfl⟩
end Go.Fw

set_option linter.unusedSimpArgs false
set_option linter.unusedVariables false
namespace Go.Fw
/-! values of interface types whose own type is known: pointers -/
/-- A method with a value's receiver, found by a pointer to it. -/
def methV (P : Program) (t : TypeId) (name : String) (f : FuncId) (e : TypeId) : Bool :=
  (match P.info? t with
  | some i => match i.methods.find? (·.name == name) with
    | some m => m.path.isEmpty && (match m.func with
      | some (g, pr) => Nat.beq g f && !pr
      | none => false)
    | none => false
  | none => false) && (match P.underlying t with
  | some (.pointer e') => Nat.beq e' e
  | _ => false)
theorem run_wrapNil {P : Program} {t : TypeId} {a : Addr} {nm : String} {w : World} : (Builtin.ssaWrapNilChk_ #[t] t #[.pointer (some a), strVal "", strVal nm]).run P w = .ok (.pointer (some a)) w := rfl
theorem run_receiverNil {P : Program} {t e : Nat} {a : Addr} {nm : String} {w : World} (he : P.underlying t = some (.pointer e)) : (receiverAt t (.val (.pointer (some a))) false (some nm)).run P w = (loadVar e a).run P w := by
  unfold receiverAt
  rw [Sem.run_bind, run_underlying he]
  rfl
theorem run_methodV {P : Program} {t f e : Nat} {name : String} {b : Nat} {s : St} {l : Lab} {v0 : Value} {T : TypeId} (hm : methV P t name f e = true) (h1 : oneT P e = true) (hb : Blk s b l [v0] T) :
    (method (P.types.size + Made.depth) t (.pointer (some ⟨b, 0, none⟩)) name).run P s.w = .ok (f, v0) s.w := by
  unfold methV at hm
  rw [Bool.and_eq_true] at hm
  obtain ⟨hm, hu⟩ := hm
  split at hm
  next i hi =>
    split at hm
    next m hf =>
      rw [Bool.and_eq_true] at hm
      obtain ⟨hp, hm⟩ := hm
      split at hm
      next g pr hg =>
        simp at hm
        obtain ⟨rfl, rfl⟩ := hm
        split at hu
        next e' he =>
          simp at hu
          subst hu
          have hp' : m.path.toList = [] := by simpa using hp
          have hpe : m.path.isEmpty = true := hp
          have hc := hb.cell 0
          have hl : (loadVar e' ⟨b, 0, none⟩).run P s.w = .ok v0 s.w := run_loadVar_one h1 (by simpa using hc)
          rw [show P.types.size + Made.depth = (P.types.size + 99) + 1 from rfl]
          unfold method
          rw [Sem.run_bind]
          have ht : (typeInfo t).run P s.w = .ok i s.w := by simp [typeInfo, program, Sem.run, go_sem, hi]
          rw [ht]
          simp only [Result.andThen, hf]
          rw [hp', Sem.run_bind]
          have hfo : (follow [] t (.val (.pointer (some ⟨b, 0, none⟩)))).run P s.w = .ok (t, .val (.pointer (some ⟨b, 0, none⟩))) s.w := rfl
          rw [hfo]
          simp only [Result.andThen, hg, hpe, if_true]
          rw [Sem.run_bind, run_receiverNil he, hl]
          rfl
        next => simp at hu
      next => simp at hm
    next => simp at hm
  next => simp at hm
section
variable {P : Program} {n : Nat} {Df : Md} {ops : Array Oper} {Q : Post} {rest : List Oper} {ρ : Env} {s : St} {w0 : World}
variable {d : Nat} {ty : TypeId} {pos : String} {aft : Array Edge} {x y z : Operand} {tx tyy : TypeId}
theorem k_invokev {K : Lab → Prop} {φ : St → Value → Prop} {name : String} {xs : List Operand} {ats : Array TypeId} {b t f e : Nat} {vs : List Value} {v0 : Value} {l : Lab} {T : TypeId} (hv : ev ρ x = some (.iface t (.pointer (some ⟨b, 0, none⟩)))) (hx : evs ρ xs = some vs)
    (hm : methV P t name f e = true) (h1 : oneT P e = true) (hb : Blk s b l [v0] T) (hcal : Callable P f) (hc : Calls P f (v0 :: vs).toArray s.w (Ret s K φ)) (hd : Nat.blt d n = true) (hK : ∀ s' u, Step K s s' → φ s' u → KL P n Df ops Q rest ((d, u) :: ρ) s'.w) :
    KL P n Df ops Q (⟨some d, .call { callee := .invoke x name, args := xs.toArray, argTypes := ats }, ty, pos, aft, none⟩ :: rest) ρ s.w := by
  intro a ha
  refine wpListIn_plain rfl fun K' hk => ?_
  obtain ⟨fn, h1', h2, h3⟩ := hcal
  have hr : (execOp a.eval ⟨some d, .call { callee := .invoke x name, args := xs.toArray, argTypes := ats }, ty, pos, aft, none⟩).run P s.w = .ok (.enter f (v0 :: vs).toArray) s.w := by
    have hx' := Agr.evs (η := a.eval) (fun _ _ e => ha.ev e) hx
    have h2' : ¬ fn.name = "runtime.NumGoroutine" := by intro e; rw [e] at h2; simp at h2
    have h3' : ¬ fn.body = none := by intro e; rw [e] at h3; simp at h3
    unfold execOp
    simp only [resolve, ha.ev hv]
    have := run_methodV hm h1 hb
    rw [show Made.depth = 100 from rfl] at this
    simp [invoke, callMethod, callFunc, h1', h2', h3', hx', program, Sem.run, go_sem, this]
  refine op_in (x := .enter f (v0 :: vs).toArray) (by intro d e; cases e) hr ?_
  rw [Oper.uponIn_enter]
  refine ⟨fun h => absurd h (by simp), calls_in (hc.mono ?_)⟩
  rintro e w' ⟨s', v, rfl, rfl, st, h⟩
  exact hk _ _ (hK s' v st h _ (ha.put hd v))
/-- A slice of one's own, cut short: one's own still. -/
theorem k_cut_own {l : Lab} {v : Value} {w0 e j : Nat} {ds : List D} {hi : Operand} (hT : P.underlying tx = some (.slice e)) (hs : sizeT P e w0 = true) (hx : ev ρ x = some v) (h : Own s l e w0 v ds)
    (hhi : CutAt ρ ds.length (some hi) j) (hj : j ≤ ds.length) (hd : Nat.blt d n = true)
    (hK : ∀ v', Own s l e w0 v' (ds.take j) → KL P n Df ops Q rest ((d, v') :: ρ) s.w) :
    KL P n Df ops Q (⟨some d, .slice tx x none (some hi) none, ty, pos, aft, none⟩ :: rest) ρ s.w := by
  obtain ⟨h0, h1, xs, ho, hg, hr⟩ := h
  obtain ⟨k, p, hz, hp, rfl⟩ := hhi
  obtain ⟨j, rfl⟩ : ∃ j : Nat, p = j := ⟨p.toNat, by omega⟩
  simp only [Int.toNat_natCast] at hj hK
  obtain ⟨ho1, ho | ⟨g, cap, cur, rfl, hb, hh, hcap, hmx, hsz, htk⟩⟩ := ho
  · obtain ⟨rfl, hn⟩ := ho
    have hj0 : j = 0 := by omega
    subst hj0
    have hds : ds = [] := List.eq_nil_of_length_eq_zero hn
    subst hds
    refine .val rfl rfl hd (v := .slice none 0 0) (w' := s.w) (fun η ha => ?_) (hK _ ⟨h0, h1, [], World.ownsRow_nil _ _ _ _, fun g hg => by simp [Value.ownBlock] at hg, RCs.nil⟩)
    simp [execOp, ha.ev hx, ha.ev hz, Instr.sliceAt, Instr.slice, Instr.sliceBounds, Instr.sliceBound, asIntOf, run_underlying hT, run_sizeOf hs]
  · refine .val rfl rfl hd (v := .slice (some ⟨g, 0, none⟩) j cap) (w' := s.w) (fun η ha => ?_) (hK _ ⟨h0, h1, xs.take (j * w0), ⟨?_, .inr ⟨g, cap, cur, ?_, hb, hh, by rw [List.length_take]; omega, hmx, hsz, ?_⟩⟩, fun g' hg' => hg g' (by simpa [Value.ownBlock] using hg'), ?_⟩)
    · have : (if cap = 0 then some (⟨g, 0, none⟩ : Addr) else some ((⟨g, 0, none⟩ : Addr).add 0)) = some ⟨g, 0, none⟩ := by
        split <;> simp [Addr.add]
      have e1 : ¬ ((j : Int) < 0) := by omega
      have e2 : ¬ ((cap : Int) < (j : Int)) := by omega
      simp [execOp, ha.ev hx, ha.ev hz, Instr.sliceAt, Instr.slice, Instr.sliceBounds, Instr.sliceBound, asIntOf, run_underlying hT, run_sizeOf hs, this, e1, e2, show j ≤ cap by omega]
    · rw [List.length_take, List.length_take, ho1, Nat.min_eq_left (Nat.mul_le_mul_right _ hj), Nat.min_eq_left hj]
    · rw [List.length_take, Nat.min_eq_left hj]
    · rw [← htk, List.take_take, List.length_take, Nat.min_eq_left hj, Nat.min_eq_left (Nat.mul_le_mul_right _ hj)]
    · refine ⟨by rw [List.length_take, List.length_take, hr.1, Nat.min_eq_left (Nat.mul_le_mul_right _ hj), Nat.min_eq_left hj], fun i hi => ?_⟩
      have hi' : i < j := by simp at hi; omega
      have h2 := hr.2 i (by omega)
      have e : ((xs.take (j * w0)).drop (i * w0)).take w0 = (xs.drop (i * w0)).take w0 := by
        rw [List.drop_take, List.take_take]
        congr 1
        have : i * w0 + w0 ≤ j * w0 := by rw [← Nat.succ_mul]; exact Nat.mul_le_mul_right _ hi'
        omega
      rw [e, List.getElem_take]
      exact h2
end
theorem Own.ix {s : St} {l : Lab} {v : Value} {w : Nat} {ds : List D} {dd : D} {e' : TypeId} {i : Nat} (h : Own s l e' w v ds) (hdd : ds[i]? = some dd) : ∃ b cap, v = .slice (some ⟨b, 0, none⟩) ds.length cap ∧ At s l (.pointer (some ⟨b, i * w, none⟩)) dd ∧ Elt w v i (.pointer (some ⟨b, i * w, none⟩)) := by
  have hsl := h.sl
  obtain ⟨b, off, cap, e1, ha⟩ := hsl.at hdd
  obtain ⟨h0', h1', xs, ho, hg, hr⟩ := h
  have hoff : off = 0 := by
    rcases ho.2 with ⟨rfl, hn⟩ | ⟨g, cap', cur, rfl, _⟩
    · simp at e1
    · injection e1 with e1 _; injection e1 with e1; injection e1 with _ e2; exact e2.symm
  subst hoff
  refine ⟨b, cap, e1, by simpa using ha, ⟨b, _, _, e1, rfl⟩⟩
section
variable {P : Program} {n : Nat} {Df : Md} {ops : Array Oper} {K : Lab → Prop} {Fin : Env → St → Prop} {r r2 : PT} {i : Nat} {ρ : Env} {s : St}
variable {d j : Nat} {ty : TypeId} {pos : String} {aft : Array Edge} {x y : Operand} {tx : TypeId} {g : Option (Nat × Bool)}
theorem rt_ix_own {l : Lab} {v : Value} {w : Nat} {ds : List D} {dd : D} {e e' : TypeId} {k : IntKind} {p : Int}
    (ho : ops[i]? = some ⟨some d, .indexAddr tx x y, ty, pos, aft, g⟩) (hg : Wanted P n Df ops (rst ρ ((⟨some d, .indexAddr tx x y, ty, pos, aft, g⟩ : Oper).looksAt ops)) ⟨some d, .indexAddr tx x y, ty, pos, aft, g⟩)
    (hT : P.underlying tx = some (.slice e)) (hs : sizeT P e w = true) (hx : ev (rst ρ ((⟨some d, .indexAddr tx x y, ty, pos, aft, g⟩ : Oper).looksAt ops)) x = some v) (hy : ev (rst ρ ((⟨some d, .indexAddr tx x y, ty, pos, aft, g⟩ : Oper).looksAt ops)) y = some (.int k p)) (h : Own s l e' w v ds)
    (h0 : 0 ≤ p) (hdd : ds[p.toNat]? = some dd) (hd : Nat.blt d n = true) (hr : ∀ q, At s l q dd → Elt w v p.toNat q → RT P n Df ops K Fin r ((d, q) :: ρ) s) : RT P n Df ops K Fin (.read i r) ρ s := by
  obtain ⟨b, cap, rfl, ha, hel⟩ := h.ix hdd
  have hlt : p.toNat < ds.length := (List.getElem?_eq_some_iff.1 hdd).1
  refine rt_read _ ho rfl (fun s' st => hg _ _ (k_ixaddrP hT hs hx hy h0 (show p < (ds.length : Int) by omega) hd ?_)) (hr _ ha hel)
  rw [Nat.zero_add]
  exact fq_end
end
theorem subl_take {α : Type} {l m : List α} {b : Int} (h : subl l 0 b = some m) : m = l.take b.toNat := by
  have := (subl_out h).2.2.2
  simpa using this
end Go.Fw

set_option linter.unusedSimpArgs false
set_option linter.unusedVariables false
namespace Go.Fw
/-! a number's decimal digits, by a count: so that the kernel runs it -/
def decF : Nat → Nat → List UInt8
  | 0, _ => []
  | f + 1, u => if u < 10 then [UInt8.ofNat (48 + u)] else decF f (u / 10) ++ [UInt8.ofNat (48 + u % 10)]
def itoaF (n : Int) : List UInt8 := if n < 0 then 45 :: decF 30 n.natAbs else decF 30 n.toNat
theorem decF_eq : ∀ (f u : Nat), u < 10 ^ f → 0 < f → decF f u = Lib.decDigits u
  | 0, _, _, h => absurd h (by omega)
  | f + 1, u, h, _ => by
    rw [decF, Lib.decDigits]
    by_cases hu : u < 10
    · rw [if_pos hu, dif_pos hu]
    · rw [if_neg hu, dif_neg hu]
      have h2 : u / 10 < 10 ^ f := by rw [Nat.pow_succ] at h; omega
      have h3 : 0 < f := by
        rcases Nat.eq_zero_or_pos f with rfl | h
        · simp at h; omega
        · exact h
      rw [decF_eq f (u / 10) h2 h3]
theorem itoaF_eq {n : Int} (h0 : -9223372036854775808 ≤ n) (h1 : n ≤ 9223372036854775807) : itoaF n = Lib.itoa n := by
  unfold itoaF Lib.itoa
  by_cases h : n < 0
  · rw [if_pos h, if_pos h, decF_eq 30 _ (Nat.lt_of_le_of_lt (show n.natAbs ≤ 9223372036854775808 by omega) (by decide)) (by decide)]
  · rw [if_neg h, if_neg h, decF_eq 30 _ (Nat.lt_of_le_of_lt (show n.toNat ≤ 9223372036854775808 by omega) (by decide)) (by decide)]
end Go.Fw

set_option linter.unusedSimpArgs false
set_option linter.unusedVariables false
namespace Go.Fw
/-! rows of numbers, of texts, at a block's end -/
abbrev cB (x : UInt8) : Value := .int .u8 (x.toNat : Int)
abbrev cU (x : UInt32) : Value := .int .u32 (x.toNat : Int)
abbrev cW (x : UInt64) : Value := .int .u64 (x.toNat : Int)
theorem ones.arrF {α : Type} {f : α → Value} {pre : List Value} (xs : List α) (hf : ∀ x, (f x).oneCell' = true) (h : pre.all Value.oneCell' = true) : (pre ++ xs.map f).all Value.oneCell' = true := by
  rw [List.all_append, h, Bool.true_and]
  induction xs with
  | nil => rfl
  | cons x xs ih => rw [List.map_cons, List.all_cons, ih, hf]; rfl
section
variable {P : Program} {n : Nat} {Df : Md} {ops : Array Oper} {Q : Post} {rest : List Oper} {ρ : Env} {s : St} {w0 : World}
variable {d : Nat} {ty : TypeId} {pos : String} {aft : Array Edge} {x y z : Operand} {tx tyy : TypeId} {α : Type}
theorem k_ixarr {t e q m b : Nat} {k : IntKind} {p : Int} {xs : List α} {zz : α} (hT : arrT P t e q 1) (hx : ev ρ x = some (.pointer (some ⟨b, m, none⟩))) (hy : ev ρ y = some (.int k p)) (hl : xs.length = q) (hg : geti xs p = some zz) (hd : Nat.blt d n = true)
    (hK : KL P n Df ops Q rest ((d, .pointer (some ⟨b, m + p.toNat, none⟩)) :: ρ) w0) : KL P n Df ops Q (⟨some d, .indexAddr t x y, ty, pos, aft, none⟩ :: rest) ρ w0 := by
  obtain ⟨h0, h1, h2⟩ := geti_out hg
  refine k_ixaddr_arr hT hx hy h0 (by omega) hd ?_
  rw [Nat.mul_one]; exact hK
theorem k_load_el {b m : Nat} {p : Int} {zz : α} (f : α → Value) {pre : List Value} {xs : List α} {l : Lab} {T : TypeId} (hT : oneT P tx = true) (hx : ev ρ x = some (.pointer (some ⟨b, m + p.toNat, none⟩))) (hb : Blk s b l (pre ++ xs.map f) T) (hm : pre.length = m) (hg : geti xs p = some zz) (hd : Nat.blt d n = true)
    (hK : KL P n Df ops Q rest ((d, f zz) :: ρ) s.w) : KL P n Df ops Q (⟨some d, .load tx x, ty, pos, aft, none⟩ :: rest) ρ s.w := by
  obtain ⟨h0, h1, h2⟩ := geti_out hg
  refine k_load_blk hT hx hb ?_ hd hK
  rw [List.getElem?_append_right (by omega), List.getElem?_map, hm, show m + p.toNat - m = p.toNat by omega, h2]
  rfl
theorem k_store_el {b m : Nat} {p : Int} {zz v : α} (f : α → Value) (hf : ∀ x, (f x).oneCell' = true) {pre : List Value} {xs : List α} {l : Lab} {T : TypeId} (hT : sizeT P tx 1 = true) (hx : ev ρ x = some (.pointer (some ⟨b, m + p.toNat, none⟩))) (hy : ev ρ y = some (f v)) (hb : Blk s b l (pre ++ xs.map f) T) (hl0 : l.o ≠ 0) (hm : pre.length = m) (hg : geti xs p = some zz)
    (hK : ∀ s', Step (KC l.o l.c) s s' → Blk s' b l (pre ++ (xs.set p.toNat v).map f) T → KL P n Df ops Q rest ρ s'.w) :
    KL P n Df ops Q (⟨none, .store tx x y, ty, pos, aft, none⟩ :: rest) ρ s.w := by
  obtain ⟨h0, h1, h2⟩ := geti_out hg
  have hlen : (pre ++ xs.map f).length = m + xs.length := by rw [List.length_append, List.length_map, hm]
  have e : (pre ++ xs.map f).take (m + p.toNat) ++ [f v] ++ (pre ++ xs.map f).drop (m + p.toNat + 1) = pre ++ (xs.set p.toNat v).map f := by
    generalize p.toNat = j at h2
    subst hm
    have hj : j < xs.length := (List.getElem?_eq_some_iff.1 h2).1
    rw [List.take_append, List.drop_append, List.take_of_length_le (by omega), List.drop_eq_nil_of_le (by omega), List.nil_append]
    rw [List.set_eq_take_append_cons_drop, if_pos hj]
    simp [List.map_take, List.map_drop, Nat.add_assoc]
  have hble : Nat.ble (m + p.toNat + 1) (pre ++ xs.map f).length = true := by simp only [Nat.ble_eq, hlen]; omega
  refine k_store_c (cs' := pre ++ (xs.set p.toNat v).map f) hT hx hy hb hl0 (CellsOf.lit (vs := [f v]) ?_ ?_) rfl hble e hK
  · exact cells1 (hf v)
  · simp [hf]
/-- A cut of a whole row. -/
theorem k_cut_row {t e q b : Nat} {g : α → D} (f : α → Value) (hfg : ∀ x, g x = .val (f x)) (hf : ∀ x, (f x).oneCell' = true) {xs : List α} {l : Lab} {T : TypeId} {lo hi : Option Operand} {i j : Nat} (hT : arrT P t e q 1) (hx : ev ρ x = some (.pointer (some ⟨b, 0, none⟩))) (hb : Blk s b l ([] ++ xs.map f) T) (hl : xs.length = q)
    (hlo : CutAt ρ 0 lo i) (hhi : CutAt ρ q hi j) (hij : i ≤ j) (hj : j ≤ q) (hd : Nat.blt d n = true)
    (hK : ∀ v, SL s l v 1 (((xs.drop i).take (j - i)).map g) → KL P n Df ops Q rest ((d, v) :: ρ) s.w) :
    KL P n Df ops Q (⟨some d, .slice t x lo hi none, ty, pos, aft, none⟩ :: rest) ρ s.w := by
  refine k_cut_arr hT hx hb (by simpa using hl) (ones.arrF xs hf rfl) hlo hhi hij hj hd (fun v hv => hK v ?_)
  have e : (([] ++ xs.map f).drop i |>.take (j - i)).map D.val = ((xs.drop i).take (j - i)).map g := by
    rw [List.nil_append, ← List.map_drop, ← List.map_take, List.map_map]
    refine List.map_congr_left fun x _ => (hfg x).symm
  rw [← e]; exact hv
/-- An element of a row that is a value. -/
theorem k_index_row {t e q : Nat} {k : IntKind} {p : Int} {zz : α} (f : α → Value) {xs : List α} (hT : arrT P t e q 1) (hO : oneT P e = true) (hx : ev ρ x = some (.agg ([] ++ xs.map f).toArray)) (hy : ev ρ y = some (.int k p)) (hl : xs.length = q) (hg : geti xs p = some zz) (hd : Nat.blt d n = true)
    (hK : KL P n Df ops Q rest ((d, f zz) :: ρ) w0) : KL P n Df ops Q (⟨some d, .index t x y, ty, pos, aft, none⟩ :: rest) ρ w0 := by
  obtain ⟨h0, h1, h2⟩ := geti_out hg
  exact k_index_arr hT hO hx hy h0 (by omega) (by rw [List.nil_append, List.getElem?_map, h2]; rfl) hd hK
end
end Go.Fw

set_option linter.unusedSimpArgs false
set_option linter.unusedVariables false
namespace Go.Fw
/-! Rows of one's own whose cells are known one by one. -/
section
variable {P : Program} {n : Nat} {Df : Md} {ops : Array Oper} {Q : Post} {rest : List Oper} {ρ : Env} {s : St} {w0 : World}
variable {d : Nat} {ty : TypeId} {pos : String} {aft : Array Edge} {x y z : Operand} {tx tyy : TypeId}
/-- A row in the block g: all its cells. -/
structure RB (s : St) (g : Nat) (l : Lab) (e : TypeId) (cur : List Value) : Prop where
  heap : s.w.heap[g]? = some (.cells cur.toArray e (0, 0))
  lab : s.g g = l
theorem RB.up2 {K : Lab → Prop} {s s' : St} {g : Nat} {l : Lab} {e : TypeId} {cur : List Value} (h : RB s g l e cur) (st : Step K s s') (hk : ¬ K l := by first | exact id | (simp only [KU, KN, KC, KO, K0, KB] <;> omega)) : RB s' g l e cur := by
  have hlt : g < s.n := (Array.getElem?_eq_some_iff.1 h.heap).1
  obtain ⟨e1, e2⟩ := st.keep g hlt (by rw [h.lab]; exact hk)
  exact ⟨e1.trans h.heap, e2.trans h.lab⟩
theorem RB.cell {s : St} {g : Nat} {l : Lab} {e : TypeId} {cur : List Value} (h : RB s g l e cur) (i : Nat) : s.w.cell? ⟨g, i, none⟩ = cur[i]? := by
  simp [World.cell?, h.heap]
theorem RB.same {s s' : St} {g : Nat} {l : Lab} {e : TypeId} {cur : List Value} (h : RB s g l e cur) (h' : s'.w.heap[g]? = s.w.heap[g]? ∧ s'.g g = s.g g) : RB s' g l e cur := ⟨h'.1.trans h.heap, h'.2.trans h.lab⟩
/-- A row of one's own, looked at cell by cell. -/
theorem Own.raw {s : St} {l : Lab} {e : TypeId} {w : Nat} {v : Value} {ds : List D} (h : Own s l e w v ds) (hne : ds ≠ []) :
    ∃ g cap cur, v = .slice (some ⟨g, 0, none⟩) ds.length cap ∧ RB s g l e cur ∧ ds.length ≤ cap ∧ cap ≤ maxLen ∧ cur.length = cap * w ∧ RCs s w (cur.take (ds.length * w)) ds := by
  obtain ⟨h0, h1, xs, ho, hg, hr⟩ := h
  rcases ho.2 with ⟨_, hz⟩ | ⟨g, cap, cur, rfl, _, hh, hle, hcm, hsz, hx⟩
  · exact absurd (List.eq_nil_of_length_eq_zero hz) hne
  · exact ⟨g, cap, cur.toList, rfl, ⟨by simpa using hh, hg g rfl⟩, hle, hcm, by simpa using hsz, by rw [hx]; exact hr⟩
theorem Own.of_raw {s : St} {l : Lab} {e : TypeId} {w g cap : Nat} {cur : List Value} {ds : List D} (h0 : l.o ≠ 0) (h1 : l.o ≤ s.n + 1) (h : RB s g l e cur) (hle : ds.length ≤ cap) (hcm : cap ≤ maxLen) (hsz : cur.length = cap * w) (hr : RCs s w (cur.take (ds.length * w)) ds) :
    Own s l e w (.slice (some ⟨g, 0, none⟩) ds.length cap) ds := by
  refine ⟨h0, h1, cur.take (ds.length * w), ⟨?_, .inr ⟨g, cap, cur.toArray, rfl, Nat.zero_le _, h.heap, hle, hcm, by simpa using hsz, by simp⟩⟩, fun g' hg' => ?_, hr⟩
  · rw [List.length_take, hsz]
    have := Nat.mul_le_mul_right w hle
    omega
  · simp [Value.ownBlock] at hg'
    rw [← hg']; exact h.lab
theorem addr_add (g o k : Nat) : (⟨g, o, none⟩ : Addr).add k = ⟨g, o + k, none⟩ := by unfold Addr.add; split <;> simp_all
theorem k_cut_raw {w1 g o m cap i j : Nat} {e : TypeId} {lo hi : Option Operand} (hT : P.underlying tx = some (.slice e)) (hs : sizeT P e w1 = true) (hx : ev ρ x = some (.slice (some ⟨g, o, none⟩) m cap))
    (hlo : CutAt ρ 0 lo i) (hhi : CutAt ρ m hi j) (hij : i ≤ j) (hj : j ≤ cap) (hic : i < cap) (hd : Nat.blt d n = true)
    (hK : KL P n Df ops Q rest ((d, .slice (some ⟨g, o + i * w1, none⟩) (j - i) (cap - i)) :: ρ) w0) :
    KL P n Df ops Q (⟨some d, .slice tx x lo hi none, ty, pos, aft, none⟩ :: rest) ρ w0 := by
  have hlo := hlo.lo
  have hhi := hhi.hi
  have hne : ¬ cap = i := by omega
  have hrun : ∀ η : Operand → Value, Agr ρ η → (execOp η ⟨some d, .slice tx x lo hi none, ty, pos, aft, none⟩).run P w0 = .ok (.value (.slice (some ⟨g, o + i * w1, none⟩) (j - i) (cap - i))) w0 := by
    intro η hη
    cases lo with
    | none =>
      simp only at hlo
      subst hlo
      cases hi with
      | none => simp only at hhi; subst hhi; simp [execOp, hη.ev hx, Instr.sliceAt, Instr.slice, Instr.sliceBounds, run_underlying hT, run_sizeOf hs, addr_add, hne]
      | some z => obtain ⟨k, hz⟩ := hhi; simp [execOp, hη.ev hx, hη.ev hz, Instr.sliceAt, Instr.slice, Instr.sliceBounds, Instr.sliceBound, asIntOf, run_underlying hT, run_sizeOf hs, hj, addr_add, hne]
    | some yy =>
      obtain ⟨k, hy⟩ := hlo
      cases hi with
      | none => simp only at hhi; subst hhi; simp [execOp, hη.ev hx, hη.ev hy, Instr.sliceAt, Instr.slice, Instr.sliceBounds, Instr.sliceBound, asIntOf, run_underlying hT, run_sizeOf hs, hij, addr_add, hne]
      | some z => obtain ⟨k', hz⟩ := hhi; simp [execOp, hη.ev hx, hη.ev hy, hη.ev hz, Instr.sliceAt, Instr.slice, Instr.sliceBounds, Instr.sliceBound, asIntOf, run_underlying hT, run_sizeOf hs, hij, hj, addr_add, hne]
  exact .val rfl rfl hd hrun hK
theorem run_copy_cellsK (w : World) (dT sT ty elem : TypeId) (k b o dLen dCap : Nat) (a : Addr) (sLen sCap : Nat) (cs : List Value)
    (hu : P.underlying dT = some (.slice elem)) (hs : (P.info? elem).map (·.size) = some k) (hn : cs.length = Nat.min sLen dLen * k)
    (hsrc : ∀ j v, cs[j]? = some v → w.cell? (a.add j) = some v) (hc : ∀ j, j < cs.length → (w.cell? ⟨b, o + j, none⟩).isSome = true) (hf : ∀ j, j < cs.length → w.frozen? ⟨b, o + j, none⟩ = false) (h1 : ∀ v ∈ cs, v.oneCell' = true) :
    (Builtin.copy_ #[dT, sT] ty #[.slice (some ⟨b, o, none⟩) dLen dCap, .slice (some a) sLen sCap]).run P w = .ok (goInt (Nat.min sLen dLen)) (w.setCells b o cs) := by
  have hl := run_loadCells_list (P := P) w a cs hsrc
  have hst := run_storeCells_cells (P := P) b o cs 0 w (by simpa using hc) (by simpa using hf) h1
  cases hq : P.info? elem with
  | none => simp [hq] at hs
  | some i =>
    have hi : i.size = k := by simpa [hq] using hs
    simp [Builtin.copy_, run_underlying hu, Builtin.lenOf, Builtin.firstCells, sizeOf, typeInfo, hq, hi, ← hn, hl, hst]
/-- copy: cells go over into a row of one's own. -/
theorem k_copyn_raw {g o dLen dCap k sLen sCap : Nat} {a : Addr} {l : Lab} {e dT sT : TypeId} {cur cs : List Value} (hu : P.underlying dT = some (.slice e)) (hs : (P.info? e).map (·.size) = some k)
    (hx : ev ρ x = some (.slice (some ⟨g, o, none⟩) dLen dCap)) (hy : ev ρ y = some (.slice (some a) sLen sCap)) (hb : RB s g l e cur) (h0 : l.o ≠ 0) (hn : cs.length = Nat.min sLen dLen * k) (hle : o + cs.length ≤ cur.length)
    (hsrc : ∀ j v, cs[j]? = some v → s.w.cell? (a.add j) = some v) (h1 : ∀ v ∈ cs, v.oneCell' = true)
    (hK : ∀ s', Step (KC l.o l.c) s s' → RB s' g l e (cur.take o ++ cs ++ cur.drop (o + cs.length)) → (∀ b, b ≠ g → s'.w.heap[b]? = s.w.heap[b]? ∧ s'.g b = s.g b) → KL P n Df ops Q rest ρ s'.w) :
    KL P n Df ops Q (⟨none, .call { callee := .builtin .copy, args := [x, y].toArray, argTypes := [dT, sT].toArray }, ty, pos, aft, none⟩ :: rest) ρ s.w := by
  have hrun := run_copy_cellsK (P := P) s.w dT sT ty e k g o dLen dCap a sLen sCap cs hu hs hn hsrc
    (fun j hj => by rw [hb.cell, List.getElem?_eq_getElem (by omega)]; rfl) (fun j hj => by simp [World.frozen?, hb.heap]) h1
  obtain ⟨r1, r2, r3, r4⟩ := setCells_rest g cs o s.w
  have hset := heap_setCells g cs o s.w cur e (0, 0) hb.heap hle
  have hlt : g < s.n := (Array.getElem?_eq_some_iff.1 hb.heap).1
  have st : Step (KC l.o l.c) s (s.re (s.w.setCells g o cs)) := by
    refine ⟨r1, r2, r3, Nat.le_of_eq r4.symm, fun b' hb' hk => ⟨heap_setCells_ne g b' ?_ cs _ s.w, rfl⟩, fun c hc => h0 hc.1.symm⟩
    rintro rfl
    exact hk (by rw [hb.lab]; exact ⟨rfl, rfl⟩)
  refine .effv rfl rfl (v := goInt (Nat.min sLen dLen)) (w' := s.w.setCells g o cs) (fun η ha => ?_) (hK (s.re (s.w.setCells g o cs)) st ⟨hset, hb.lab⟩ (fun b hb' => ⟨heap_setCells_ne g b hb' cs _ s.w, rfl⟩))
  simp [execOp, resolve, invoke, builtin, ha.ev hx, ha.ev hy, hrun]
/-- append(v, make(.., k)...), where there is no room: a new row. -/
theorem k_append_zerosG {l : Lab} {t ti e w1 bytes i cap m : Nat} {g : Nat} {zv : Value} {cur : List Value} (hT : elemT P t e w1 bytes zv) (hi : P.underlying ti = some (.int .i64)) (hx : ev ρ x = some (.slice (some ⟨g, 0, none⟩) i cap)) (hy : ev ρ y = some (.int .i64 (m : Int)))
    (hb : RB s g l e cur) (hcl : cur.length = cap * w1) (hic : i ≤ cap) (h0 : 0 < m) (hg : cap < i + m) (hsz : (i + m) * bytes ≤ 140737488355328) (hmx : i + m ≤ 9223372036854775807) (hd : Nat.blt d n = true) (l2 : Lab) (hl2 : l2.o ≤ s.n + 1) (hl0 : l2.o ≠ 0)
    (hK : ∀ s' g' cap' zs, Step K0 s s' → RB s' g' l2 e (cur.take (i * w1) ++ zs) → i + m ≤ cap' → cap' ≤ maxLen → (cur.take (i * w1) ++ zs).length = cap' * w1 → s.n ≤ g' → KL P n Df ops Q rest ((d, .slice (some ⟨g', 0, none⟩) (i + m) cap') :: ρ) s'.w) :
    KL P n Df ops Q (⟨some d, .call { callee := .builtin .append, args := [x, y].toArray, argTypes := [t, ti].toArray }, ty, pos, aft, none⟩ :: rest) ρ s.w := by
  obtain ⟨i', h1, h2, h3, h4, h5, h6, h7⟩ := hT
  have hge := grownCap_ge s.w (i + m) cap e
  have hle := grownCap_le_maxLen s.w (i + m) cap e (by unfold maxLen; omega)
  have hm0 : ¬ m * i'.size = 0 := by
    have := Nat.mul_pos h0 (show 0 < i'.size by omega)
    omega
  have hlo : (cur.take (i * w1)).length = i * w1 := by
    rw [List.length_take, hcl]
    have := Nat.mul_le_mul_right w1 hic
    omega
  have hold := run_loadCells_list (P := P) s.w.drew ⟨g, 0, none⟩ (cur.take (i * w1)) (fun j v hv => by
    show s.w.cell? _ = _
    rw [addr_add, Nat.zero_add, hb.cell]
    rw [List.getElem?_take] at hv
    split at hv
    · exact hv
    · cases hv)
  rw [hlo] at hold
  obtain ⟨zs, hzs⟩ : ∃ zs : List Value, zs = (Builtin.zeroCells zv.cells m).toList ++ (Builtin.zeroCells zv.cells (grownCap s.w (i + m) cap e - (i + m))).toList := ⟨_, rfl⟩
  have hsize : (cur.take (i * w1) ++ zs).length = grownCap s.w (i + m) cap e * w1 := by
    rw [List.length_append, hlo, hzs, List.length_append, Array.length_toList, Array.length_toList, size_zeroCells, size_zeroCells, h6, ← Nat.add_mul, ← Nat.add_mul]
    congr 1; omega
  have hrun : (Builtin.append_ #[t, ti] ty #[.slice (some ⟨g, 0, none⟩) i cap, .int .i64 (m : Int)]).run P s.w = .ok (.slice (some ⟨s.w.heap.size, 0, none⟩) (i + m) (grownCap s.w (i + m) cap e)) (s.w.drew.alloc (.cells (cur.take (i * w1) ++ zs).toArray e)) := by
    have hw : IntKind.i64.wrap (m : Int) = (m : Int) := wrap_i64 (by omega) (by omega)
    have a1 : ¬ ((m : Int) < 0) := by omega
    have hmb : m * bytes ≤ 140737488355328 := Nat.le_trans (Nat.mul_le_mul_right _ (Nat.le_add_left m i)) hsz
    have a2 : ¬ (281474976710656 < (m : Int) * (i'.bytes : Int)) := by
      rw [← Int.natCast_mul, h5]
      generalize m * bytes = q at hmb ⊢
      omega
    have a3 : ¬ (9223372036854775807 < (i : Int) + (m : Int)) := by omega
    have a4 := growslice_fits (need := i + m) (old := cap) (bytes := i'.bytes) hg (by rw [h5]; exact hsz)
    have a5 : ¬ (i + m ≤ cap) := by omega
    have a4' : ¬ (281474976710656 < Builtin.nextslicecap (i + m) cap * i'.bytes) := by omega
    have hm1 : ¬ m * w1 = 0 := by rw [← h4]; exact hm0
    simp [Builtin.append_, run_underlying h1, run_underlying hi, sizeOf, typeInfo, zeroValue, h2, h3, asInt, asIntOf, hw, a1, a2, a3, a4', a5, Builtin.firstCells, h4, hold, Question.forced, newRow, grownCap, World.drewN, hm1]
    congr 2
    rw [hzs]
    apply Array.ext'
    simp [List.append_assoc, grownCap]
  have st : Step K0 s (s.to (s.w.drew.alloc (.cells (cur.take (i * w1) ++ zs).toArray e)) l2 hl2) := St.to_step rfl rfl rfl (by show s.w.heap.size ≤ (s.w.drew.alloc (.cells _ e)).heap.size; simp) (fun b hb _ => heap_alloc_old s.w.drew _ hb) (fun _ h => h)
  refine .val rfl rfl hd (v := .slice (some ⟨s.w.heap.size, 0, none⟩) (i + m) (grownCap s.w (i + m) cap e)) (w' := s.w.drew.alloc (.cells (cur.take (i * w1) ++ zs).toArray e)) (fun η ha => ?_) (hK (s.to _ l2 hl2) _ _ zs st ⟨?_, St.to_g_new (Nat.le_refl _)⟩ hge hle hsize (Nat.le_refl _))
  · simp [execOp, resolve, invoke, builtin, ha.ev hx, ha.ev hy, hrun]
  · exact heap_alloc_new s.w.drew _
theorem k_copy_raw {g o dLen dCap k sLen sCap : Nat} {a : Addr} {l : Lab} {e dT sT : TypeId} {cur cs : List Value} (hu : P.underlying dT = some (.slice e)) (hs : (P.info? e).map (·.size) = some k)
    (hx : ev ρ x = some (.slice (some ⟨g, o, none⟩) dLen dCap)) (hy : ev ρ y = some (.slice (some a) sLen sCap)) (hb : RB s g l e cur) (h0 : l.o ≠ 0) (hn : cs.length = Nat.min sLen dLen * k) (hle : o + cs.length ≤ cur.length)
    (hsrc : ∀ j v, cs[j]? = some v → s.w.cell? (a.add j) = some v) (h1 : ∀ v ∈ cs, v.oneCell' = true) (hd : Nat.blt d n = true)
    (hK : ∀ s' u, Step (KC l.o l.c) s s' → RB s' g l e (cur.take o ++ cs ++ cur.drop (o + cs.length)) → (∀ b, b ≠ g → s'.w.heap[b]? = s.w.heap[b]? ∧ s'.g b = s.g b) → KL P n Df ops Q rest ((d, u) :: ρ) s'.w) :
    KL P n Df ops Q (⟨some d, .call { callee := .builtin .copy, args := [x, y].toArray, argTypes := [dT, sT].toArray }, ty, pos, aft, none⟩ :: rest) ρ s.w := by
  have hrun := run_copy_cellsK (P := P) s.w dT sT ty e k g o dLen dCap a sLen sCap cs hu hs hn hsrc
    (fun j hj => by rw [hb.cell, List.getElem?_eq_getElem (by omega)]; rfl) (fun j hj => by simp [World.frozen?, hb.heap]) h1
  obtain ⟨r1, r2, r3, r4⟩ := setCells_rest g cs o s.w
  have hset := heap_setCells g cs o s.w cur e (0, 0) hb.heap hle
  have st : Step (KC l.o l.c) s (s.re (s.w.setCells g o cs)) := by
    refine ⟨r1, r2, r3, Nat.le_of_eq r4.symm, fun b' hb' hk => ⟨heap_setCells_ne g b' ?_ cs _ s.w, rfl⟩, fun c hc => h0 hc.1.symm⟩
    rintro rfl
    exact hk (by rw [hb.lab]; exact ⟨rfl, rfl⟩)
  refine .val rfl rfl hd (v := goInt (Nat.min sLen dLen)) (w' := s.w.setCells g o cs) (fun η ha => ?_) (hK (s.re (s.w.setCells g o cs)) _ st ⟨hset, hb.lab⟩ (fun b hb' => ⟨heap_setCells_ne g b hb' cs _ s.w, rfl⟩))
  simp [execOp, resolve, invoke, builtin, ha.ev hx, ha.ev hy, hrun]
theorem k_cap_sl {t e : TypeId} {a : Option Addr} {m cap : Nat} (hT : P.underlying t = some (.slice e)) (hx : ev ρ x = some (.slice a m cap)) (hd : Nat.blt d n = true)
    (hK : KL P n Df ops Q rest ((d, .int .i64 (cap : Int)) :: ρ) w0) : KL P n Df ops Q (⟨some d, .call { callee := .builtin .cap, args := [x].toArray, argTypes := [t].toArray }, ty, pos, aft, none⟩ :: rest) ρ w0 :=
  .val rfl rfl hd (fun η ha => by simp [execOp, resolve, invoke, builtin, ha.ev hx, Builtin.cap_, run_underlying hT, goInt]) hK
/-- A call of what the model answers itself. -/
theorem k_callx {f : FuncId} {xs : List Operand} {ats : Array TypeId} {vs : List Value} {u : Value} (hx : evs ρ xs = some vs) (hr : (callFunc f vs.toArray).run P w0 = .ok (.value u) w0) (hd : Nat.blt d n = true)
    (hK : KL P n Df ops Q rest ((d, u) :: ρ) w0) :
    KL P n Df ops Q (⟨some d, .call { callee := .value (.func f), args := xs.toArray, argTypes := ats }, ty, pos, aft, none⟩ :: rest) ρ w0 :=
  .val rfl rfl hd (fun η ha => by
    have hx' := Agr.evs (η := η) (fun _ _ e => ha.ev e) hx
    unfold execOp
    have hf : ev ρ (.func f) = some (.func (.func f) #[] #[]) := rfl
    simp only [resolve, Deferred.ofValue, ha.ev hf]
    simp [invoke, hx', hr]) hK
end
end Go.Fw
namespace Go.Fw
section
variable {P : Program} {n : Nat} {Df : Md} {ops : Array Oper} {Q : Post} {rest : List Oper} {ρ : Env} {s : St} {w0 : World}
variable {d : Nat} {ty : TypeId} {pos : String} {aft : Array Edge} {x y z : Operand} {tx tyy : TypeId}
theorem st_setRow {s : St} {g : Nat} {l : Lab} {e : TypeId} {cur : List Value} (hb : RB s g l e cur) (h0 : l.o ≠ 0) (cur' : List Value) (hl : cur'.length = cur.length) :
    Step (KC l.o l.c) s (s.re (s.w.setRow g cur'.toArray)) ∧ RB (s.re (s.w.setRow g cur'.toArray)) g l e cur' := by
  have hh := setRow_heap s.w g cur.toArray cur'.toArray e (0, 0) hb.heap
  refine ⟨⟨rfl, rfl, rfl, ?_, fun b' hb' hk => ⟨?_, rfl⟩, fun c hc => h0 hc.1.symm⟩, ⟨hh, hb.lab⟩⟩
  · show s.w.heap.size ≤ (s.w.setRow g cur'.toArray).heap.size
    simp [World.setRow]
  · show (s.w.setRow g cur'.toArray).heap[b']? = _
    have hne : g ≠ b' := by rintro rfl; exact hk (by rw [hb.lab]; exact ⟨rfl, rfl⟩)
    simp only [World.setRow, Array.getElem?_modify, if_neg hne]
/-- append(v[:i], w...), where there is room, of one's own row. -/
theorem k_append_room {g i cap m c : Nat} {a : Addr} {l : Lab} {t e w1 bytes : Nat} {zv : Value} {cur cs : List Value} (hT : elemT P t e w1 bytes zv) (hx : ev ρ x = some (.slice (some ⟨g, 0, none⟩) i cap)) (hy : ev ρ y = some (.slice (some a) m c)) (hb : RB s g l e cur) (h0 : l.o ≠ 0)
    (hn : cs.length = m * w1) (hsrc : ∀ j v, cs[j]? = some v → s.w.cell? (a.add j) = some v) (h1 : ∀ v ∈ cs, v.oneCell' = true) (hroom : i + m ≤ cap) (hle : i * w1 + cs.length ≤ cur.length) (hd : Nat.blt d n = true)
    (hK : ∀ s', Step (KC l.o l.c) s s' → RB s' g l e (cur.take (i * w1) ++ cs ++ cur.drop (i * w1 + cs.length)) → KL P n Df ops Q rest ((d, .slice (some ⟨g, 0, none⟩) (i + m) cap) :: ρ) s'.w) :
    KL P n Df ops Q (⟨some d, .call { callee := .builtin .append, args := [x, y].toArray, argTypes := [t, t].toArray }, ty, pos, aft, none⟩ :: rest) ρ s.w := by
  obtain ⟨i', e1, e2, e3, e4, e5, e6, e7⟩ := hT
  have hrun := run_append_room (P := P) s.w t ty e i' e1 e2 g i cap cur.toArray hb.heap a m c cs (by rw [e4]; exact hn) hsrc h1 hroom (by rw [e4]; simpa using hle)
  rw [e4] at hrun
  simp only [List.toList_toArray] at hrun
  obtain ⟨st, hb'⟩ := st_setRow hb h0 (cur.take (i * w1) ++ cs ++ cur.drop (i * w1 + cs.length)) (by simp only [List.length_append, List.length_take, List.length_drop]; omega)
  refine .val rfl rfl hd (v := .slice (some ⟨g, 0, none⟩) (i + m) cap) (w' := s.w.setRow g _) (fun η ha => ?_) (hK (s.re _) st hb')
  simp [execOp, resolve, invoke, builtin, ha.ev hx, ha.ev hy, hrun]
theorem zeroCells_one {zs : Array Value} (h : 0 < zs.size) : (Builtin.zeroCells zs 1).toList = zs.toList := by
  unfold Builtin.zeroCells
  apply List.ext_getElem
  · simp
  · intro i h1 h2
    simp at h1 h2
    simp [Nat.mod_eq_of_lt h2, h2]
/-- clear: one element of a row of one's own. -/
theorem k_clear_one {g o c : Nat} {l : Lab} {t e w1 bytes : Nat} {zv : Value} {cur : List Value} (hT : elemT P t e w1 bytes zv) (hx : ev ρ x = some (.slice (some ⟨g, o, none⟩) 1 c)) (hb : RB s g l e cur) (h0 : l.o ≠ 0) (hle : o + w1 ≤ cur.length) (h1 : ∀ v ∈ zv.cells.toList, v.oneCell' = true)
    (hK : ∀ s', Step (KC l.o l.c) s s' → RB s' g l e (cur.take o ++ zv.cells.toList ++ cur.drop (o + w1)) → KL P n Df ops Q rest ρ s'.w) :
    KL P n Df ops Q (⟨none, .call { callee := .builtin .clear, args := [x].toArray, argTypes := [t].toArray }, ty, pos, aft, none⟩ :: rest) ρ s.w := by
  obtain ⟨i', e1, e2, e3, e4, e5, e6, e7⟩ := hT
  have hzl : zv.cells.toList.length = w1 := by simpa using e6
  have hst := run_storeCells_cells (P := P) g o zv.cells.toList 0 s.w (fun j hj => by rw [Nat.add_zero, hb.cell, List.getElem?_eq_getElem (by omega)]; rfl) (fun j hj => by simp [World.frozen?, hb.heap]) h1
  simp only [Nat.add_zero] at hst
  have hzc := zeroCells_one (zs := zv.cells) (by omega)
  obtain ⟨r1, r2, r3, r4⟩ := setCells_rest g zv.cells.toList o s.w
  have hset := heap_setCells g zv.cells.toList o s.w cur e (0, 0) hb.heap (by omega)
  rw [hzl] at hset
  have st : Step (KC l.o l.c) s (s.re (s.w.setCells g o zv.cells.toList)) := by
    refine ⟨r1, r2, r3, Nat.le_of_eq r4.symm, fun b' hb' hk => ⟨heap_setCells_ne g b' ?_ _ _ s.w, rfl⟩, fun c hc => h0 hc.1.symm⟩
    rintro rfl
    exact hk (by rw [hb.lab]; exact ⟨rfl, rfl⟩)
  refine .effv rfl rfl (v := .tuple #[]) (w' := s.w.setCells g o zv.cells.toList) (fun η ha => ?_) (hK (s.re _) st ⟨hset, hb.lab⟩)
  simp [execOp, resolve, invoke, builtin, ha.ev hx, Builtin.clear_, run_underlying e1, zeroValue, typeInfo, e2, e3, hzc, hst]
theorem k_cut3 {e w1 g o m cap : Nat} {i j q : Nat} {k1 k2 k3 : IntKind} {lo hi mx : Operand} (hT : P.underlying tx = some (.slice e)) (hs : sizeT P e w1 = true) (hx : ev ρ x = some (.slice (some ⟨g, o, none⟩) m cap))
    (hlo : ev ρ lo = some (.int k1 (i : Int))) (hhi : ev ρ hi = some (.int k2 (j : Int))) (hmx : ev ρ mx = some (.int k3 (q : Int))) (hij : i ≤ j) (hj : j ≤ q) (hq : q ≤ cap) (hd : Nat.blt d n = true)
    (hK : KL P n Df ops Q rest ((d, .slice (some (if q = i then ⟨g, o, none⟩ else ⟨g, o + i * w1, none⟩)) (j - i) (q - i)) :: ρ) w0) :
    KL P n Df ops Q (⟨some d, .slice tx x (some lo) (some hi) (some mx), ty, pos, aft, none⟩ :: rest) ρ w0 := by
  refine .val rfl rfl hd (fun η hη => ?_) hK
  by_cases c : q = i
  · subst c
    obtain rfl : j = q := Nat.le_antisymm hj hij
    simp [execOp, hη.ev hx, hη.ev hlo, hη.ev hhi, hη.ev hmx, Instr.sliceAt, Instr.slice, Instr.sliceBounds, Instr.sliceBound, asIntOf, run_underlying hT, run_sizeOf hs, hq, addr_add]
  · simp [execOp, hη.ev hx, hη.ev hlo, hη.ev hhi, hη.ev hmx, Instr.sliceAt, Instr.slice, Instr.sliceBounds, Instr.sliceBound, asIntOf, run_underlying hT, run_sizeOf hs, hij, hj, hq, addr_add, c]
end
end Go.Fw
namespace Go.Fw
section
variable {P : Program} {n : Nat} {Df : Md} {ops : Array Oper} {Q : Post} {rest : List Oper} {ρ : Env} {s : St} {w0 : World}
variable {d : Nat} {ty : TypeId} {pos : String} {aft : Array Edge} {x y z : Operand} {tx tyy : TypeId}
theorem k_len_raw {e : TypeId} {a : Option Addr} {m cap : Nat} {t : TypeId} (hT : P.underlying t = some (.slice e)) (hx : ev ρ x = some (.slice a m cap)) (hd : Nat.blt d n = true)
    (hK : KL P n Df ops Q rest ((d, .int .i64 (m : Int)) :: ρ) w0) : KL P n Df ops Q (⟨some d, .call { callee := .builtin .len, args := [x].toArray, argTypes := [t].toArray }, ty, pos, aft, none⟩ :: rest) ρ w0 :=
  .val rfl rfl hd (fun η ha => by simp [execOp, resolve, invoke, builtin, ha.ev hx, Builtin.len_, Builtin.lenOf, goInt, run_underlying hT]) hK
theorem k_cut_any {w1 g o m cap i j : Nat} {e : TypeId} {lo hi : Option Operand} (hT : P.underlying tx = some (.slice e)) (hs : sizeT P e w1 = true) (hx : ev ρ x = some (.slice (some ⟨g, o, none⟩) m cap))
    (hlo : CutAt ρ 0 lo i) (hhi : CutAt ρ m hi j) (hij : i ≤ j) (hj : j ≤ cap) (hd : Nat.blt d n = true)
    (hK : KL P n Df ops Q rest ((d, .slice (some (if cap = i then ⟨g, o, none⟩ else ⟨g, o + i * w1, none⟩)) (j - i) (cap - i)) :: ρ) w0) :
    KL P n Df ops Q (⟨some d, .slice tx x lo hi none, ty, pos, aft, none⟩ :: rest) ρ w0 := by
  by_cases c : cap = i
  · rw [if_pos c] at hK
    have hlo := hlo.lo
    have hhi := hhi.hi
    have hji : j = i := by omega
    subst hji
    subst c
    have hrun : ∀ η : Operand → Value, Agr ρ η → (execOp η ⟨some d, .slice tx x lo hi none, ty, pos, aft, none⟩).run P w0 = .ok (.value (.slice (some ⟨g, o, none⟩) (cap - cap) (cap - cap))) w0 := by
      intro η hη
      cases lo with
      | none =>
        simp only at hlo
        subst hlo
        cases hi with
        | none => simp only at hhi; subst hhi; simp [execOp, hη.ev hx, Instr.sliceAt, Instr.slice, Instr.sliceBounds, run_underlying hT, run_sizeOf hs, addr_add]
        | some z => obtain ⟨k, hz⟩ := hhi; simp [execOp, hη.ev hx, hη.ev hz, Instr.sliceAt, Instr.slice, Instr.sliceBounds, Instr.sliceBound, asIntOf, run_underlying hT, run_sizeOf hs, addr_add]
      | some yy =>
        obtain ⟨k, hy⟩ := hlo
        cases hi with
        | none => simp only at hhi; subst hhi; simp [execOp, hη.ev hx, hη.ev hy, Instr.sliceAt, Instr.slice, Instr.sliceBounds, Instr.sliceBound, asIntOf, run_underlying hT, run_sizeOf hs, addr_add]
        | some z => obtain ⟨k', hz⟩ := hhi; simp [execOp, hη.ev hx, hη.ev hy, hη.ev hz, Instr.sliceAt, Instr.slice, Instr.sliceBounds, Instr.sliceBound, asIntOf, run_underlying hT, run_sizeOf hs, addr_add]
    exact .val rfl rfl hd hrun hK
  · rw [if_neg c] at hK
    exact k_cut_raw hT hs hx hlo hhi hij hj (by omega) hd hK
end
end Go.Fw
namespace Go.Fw
section
variable {P : Program} {n : Nat} {Df : Md} {ops : Array Oper} {Q : Post} {rest : List Oper} {ρ : Env} {s : St} {w0 : World}
variable {d : Nat} {ty : TypeId} {pos : String} {aft : Array Edge} {x y z : Operand} {tx tyy : TypeId}
theorem run_equalIn_fnil (w : World) (d : Nat) (t : TypeId) {f : Fn} {b c : Array Value} {ps rs : Array TypeId} {v : Bool} (hT : P.underlying t = some (.func ps rs v)) : (Op.equalIn (d + 1) t (.func f b c) .nilFunc).run P w = .ok false w := by
  unfold Op.equalIn
  simp [run_underlying hT]
theorem run_eql_fnil (w : World) (t : TypeId) {f : Fn} {b c : Array Value} {ps rs : Array TypeId} {v : Bool} (hT : P.underlying t = some (.func ps rs v)) : (binOp .eql t (.func f b c) .nilFunc).run P w = .ok (.bool false) w := by
  simp only [binOp]
  simp [Op.equal, Op.maxDepth, run_equalIn_fnil w 9999 t hT]
theorem k_eql_fnil {f : Fn} {b c : Array Value} {ps rs : Array TypeId} {v : Bool} (hT : P.underlying tx = some (.func ps rs v)) (hx : ev ρ x = some (.func f b c)) (hy : ev ρ y = some .nilFunc) (hd : Nat.blt d n = true)
    (hK : KL P n Df ops Q rest ((d, .bool false) :: ρ) w0) : KL P n Df ops Q (⟨some d, .binOp .eql tx x y tyy, ty, pos, aft, none⟩ :: rest) ρ w0 :=
  .val rfl rfl hd (fun η ha => by
    simp [execOp, ha.ev hx, ha.ev hy, eqGuard, run_eql_fnil w0 tx hT]) hK
/-- A package's variable that nobody writes. -/
def GlobS (P : Program) (s : St) (name : String) (cs : Array Value) : Prop := s.w.var? P name = some cs ∧ ∃ g, P.globalNamed name = some g ∧ g < s.n ∧ s.g g = L0
theorem GlobS.up2 {K : Lab → Prop} {s s' : St} {name : String} {cs : Array Value} (h : GlobS P s name cs) (st : Step K s s') : GlobS P s' name cs := by
  obtain ⟨h1, g, h2, h3, h4⟩ := h
  obtain ⟨e1, e2⟩ := st.keep g h3 (by rw [h4]; exact st.imm 0)
  refine ⟨?_, g, h2, Nat.lt_of_lt_of_le h3 st.size, e2.trans h4⟩
  rw [← h1]
  simp only [World.var?, h2, Option.bind_some, e1]
end
end Go.Fw
namespace Go.Fw
theorem geti_mne {α : Type} {f : α → D} {l : List α} {i : Int} {x : α} (h : geti l i = some x) : l.map f ≠ [] := by
  intro e
  have := (geti_out h).2.1
  have h2 : l.length = 0 := by rw [← List.length_map (f := f), e]; rfl
  have h3 := (geti_out h).1
  omega
end Go.Fw

set_option linter.unusedSimpArgs false
set_option linter.unusedVariables false
namespace Go.Fw
/-! errors of the library's, of which only is asked whether they are -/
/-- An error value: one, or none. -/
def ErrR (v : Value) (b : Bool) : Prop := (b = false → v = .nilIface) ∧ (b = true → ∃ t u, v = .iface t u)
theorem ErrR.nil : ErrR .nilIface false := ⟨fun _ => rfl, fun h => (by cases h)⟩
theorem ErrR.mk (t : TypeId) (u : Value) : ErrR (.iface t u) true := ⟨fun h => (by cases h), fun _ => ⟨t, u, rfl⟩⟩
/-- A package's variable that holds an error, which nobody writes. -/
def Ev (s : St) (g : Nat) : Prop := g < s.n ∧ s.g g = L0 ∧ ∃ ev, s.w.cell? ⟨g, 0, none⟩ = some ev ∧ (ev = .nilIface ∨ ∃ te pe, ev = .iface te pe)
theorem Ev.up2 {K : Lab → Prop} {s s' : St} {g : Nat} (h : Ev s g) (st : Step K s s') : Ev s' g := by
  obtain ⟨h1, h2, ev, h3, h4⟩ := h
  have hk : ¬ K (s.g g) := by rw [h2]; exact st.imm 0
  exact ⟨Nat.lt_of_lt_of_le h1 st.size, (st.keep g h1 hk).2.trans h2, ev, (st.cell h1 hk 0).trans h3, h4⟩
def ifcT (P : Program) (t : TypeId) : Prop := P.underlying t = some (.interface (P.methodsAt t))
section
variable {P : Program} {n : Nat} {Df : Md} {ops : Array Oper} {Q : Post} {rest : List Oper} {ρ : Env} {s : St} {w0 : World}
variable {d : Nat} {ty : TypeId} {pos : String} {aft : Array Edge} {x y z : Operand} {tx tyy : TypeId} {α : Type}
theorem k_eql_err {v : Value} {b : Bool} (hT : ifcT P tx) (h : ErrR v b) (hx : ev ρ x = some v) (hd : Nat.blt d n = true)
    (hK : KL P n Df ops Q rest ((d, .bool (!b)) :: ρ) w0) : KL P n Df ops Q (⟨some d, .binOp .eql tx x (.const .nilIface) tyy, ty, pos, aft, none⟩ :: rest) ρ w0 := by
  cases b with
  | false =>
    obtain rfl := h.1 rfl
    exact .val rfl rfl hd (fun η ha => by simp [execOp, ha.ev hx, show η (.const .nilIface) = .nilIface from ha.ev rfl, eqGuard, run_eql_nil_nil w0 tx hT]) hK
  | true =>
    obtain ⟨t, u, rfl⟩ := h.2 rfl
    exact .val rfl rfl hd (fun η ha => by simp [execOp, ha.ev hx, show η (.const .nilIface) = .nilIface from ha.ev rfl, eqGuard, run_eql_held_nil w0 tx t u hT]) hK
theorem k_neq_err {v : Value} {b : Bool} (hT : ifcT P tx) (h : ErrR v b) (hx : ev ρ x = some v) (hd : Nat.blt d n = true)
    (hK : KL P n Df ops Q rest ((d, .bool b) :: ρ) w0) : KL P n Df ops Q (⟨some d, .binOp .neq tx x (.const .nilIface) tyy, ty, pos, aft, none⟩ :: rest) ρ w0 := by
  cases b with
  | false =>
    obtain rfl := h.1 rfl
    exact .val rfl rfl hd (fun η ha => by simp [execOp, ha.ev hx, show η (.const .nilIface) = .nilIface from ha.ev rfl, eqGuard, run_neq_nil_nil w0 tx hT]) hK
  | true =>
    obtain ⟨t, u, rfl⟩ := h.2 rfl
    exact .val rfl rfl hd (fun η ha => by simp [execOp, ha.ev hx, show η (.const .nilIface) = .nilIface from ha.ev rfl, eqGuard, run_neq_held_nil w0 tx t u hT]) hK
theorem k_append_str_nil (c : Nat) {t u e bytes : Nat} {z : Value} {m : List UInt8} (hT : elemT P t e 1 bytes z) (hz : z = .int .u8 0) (hb1 : bytes = 1) (hu : P.underlying u = some .string) (hx : ev ρ x = some (.slice none 0 0)) (hy : ev ρ y = some (S m))
    (hsz : m.length ≤ 140737488355328) (hd : Nat.blt d n = true)
    (hK : ∀ s' v', Step K0 s s' → Own s' ⟨s.n + 1, c⟩ e 1 v' (Bs m) → KL P n Df ops Q rest ((d, v') :: ρ) s'.w) :
    KL P n Df ops Q (⟨some d, .call { callee := .builtin .append, args := [x, y].toArray, argTypes := [t, u].toArray }, ty, pos, aft, none⟩ :: rest) ρ s.w :=
  k_append_str hT hz hb1 hu hx hy (Own.nil (l := ⟨s.n + 1, c⟩) (by simp) (Nat.le_refl _)) (by simpa using hsz) hd (fun s' v' st ho =>
    hK s' v' ((Step.refl s).transNew st (fun l hl => by have h1 : l.o = s.n + 1 := hl.1; omega)) (by simpa using ho))
/-- The beginning of a whole row, and where it is. -/
theorem k_cut_rowx {t e q b : Nat} {g : α → D} (f : α → Value) (hfg : ∀ x, g x = .val (f x)) (hf : ∀ x, (f x).oneCell' = true) {xs : List α} {l : Lab} {T : TypeId} {hi : Operand} {j : Nat} (hT : arrT P t e q 1) (hx : ev ρ x = some (.pointer (some ⟨b, 0, none⟩))) (hb : Blk s b l ([] ++ xs.map f) T) (hl : xs.length = q)
    (hhi : CutAt ρ q (some hi) j) (hj : j ≤ q) (hd : Nat.blt d n = true)
    (hK : SL s l (.slice (some ⟨b, 0, none⟩) j q) 1 ((xs.take j).map g) → KL P n Df ops Q rest ((d, .slice (some ⟨b, 0, none⟩) j q) :: ρ) s.w) :
    KL P n Df ops Q (⟨some d, .slice t x none (some hi) none, ty, pos, aft, none⟩ :: rest) ρ s.w := by
  obtain ⟨hu, hs⟩ := hT
  obtain ⟨k, p, hz, hp, rfl⟩ := hhi
  obtain ⟨j, rfl⟩ : ∃ j : Nat, p = j := ⟨p.toNat, by omega⟩
  simp only [Int.toNat_natCast] at hj hK
  have hsl : SL s l (.slice (some ⟨b, 0, none⟩) j q) 1 ((xs.take j).map g) := by
    have hlen : ((xs.take j).map g).length = j := by rw [List.length_map, List.length_take]; omega
    refine .inr ⟨b, 0, q, fun i => [((xs[i]?).map f).getD .nilIface], by rw [hlen], hb.lt, hb.lab, by omega, fun i hi => rfl, fun i hi k hk => ?_, fun i hi => ?_⟩
    · have hi' : i < xs.length := by rw [hlen] at hi; omega
      obtain rfl : k = 0 := by omega
      have := hb.cell i
      rw [List.nil_append, List.getElem?_map, List.getElem?_eq_getElem hi'] at this
      simp only [Nat.zero_add, Nat.mul_one, Nat.add_zero, List.getElem?_eq_getElem hi']
      exact this
    · have hi' : i < xs.length := by rw [hlen] at hi; omega
      simp only [List.getElem?_eq_getElem hi', List.getElem_map, List.getElem_take, Option.map_some, Option.getD_some, hfg]
      exact .val _ (hf _)
  refine .val rfl rfl hd (v := .slice (some ⟨b, 0, none⟩) j q) (fun η ha => ?_) (hK hsl)
  have h2 : (if q = 0 then (⟨b, 0, none⟩ : Addr) else ((⟨b, 0, none⟩ : Addr).add 0)) = ⟨b, 0, none⟩ := by split <;> simp [Addr.add]
  have e1 : ¬ ((j : Int) < 0) := by omega
  have e2 : ¬ ((q : Int) < (j : Int)) := by omega
  simp [execOp, ha.ev hx, ha.ev hz, Instr.sliceAt, Instr.sureAddr, Instr.sliceBounds, Instr.sliceBound, asIntOf, run_underlying hu, run_sizeOf hs, h2, e1, e2, hj]
end
/-- What formatBase10 leaves of a whole row whose beginning it was handed: the digits. -/
theorem app_ne {α : Type} {lim : Nat} {l m r : List α} (h : app lim l m = some r) (hm : m ≠ []) : r ≠ [] := by
  rw [(app_out h).2]; simp [hm]
theorem decF_lt : ∀ (f u : Nat), u < 10 ^ f → 0 < f → u < 10 ^ (decF f u).length
  | 0, _, _, h => absurd h (by decide)
  | f + 1, u, hu, _ => by
    rw [decF]
    by_cases h : u < 10
    · rw [if_pos h]; simpa using h
    · rw [if_neg h, List.length_append, List.length_cons, List.length_nil, Nat.pow_succ]
      rw [Nat.pow_succ] at hu
      have h2 : u / 10 < 10 ^ f := by omega
      have h3 : 0 < f := by rcases f with _ | f; simp at h2; omega; omega
      have := decF_lt f (u / 10) h2 h3
      omega
theorem fmt10_ret {s : St} {l : Lab} {b nd u : Nat} {xs : List UInt8} {T : TypeId} {w' : World} (hb : Blk s b l ([] ++ xs.map cB) T) (hl0 : l.o ≠ 0) (hnd : nd ≤ xs.length) (hu64 : u < 18446744073709551616) (hlen : (decF 30 u).length = nd)
    (h : ∃ (n v' : Nat) (dk : Array UInt8), w' = (Go.Sort.putRow (fun (b : UInt8) => Value.int .u8 (b.toNat : Int)) s.w b 0 dk).drewN n ∧ Lib.FmtInv nd u 0 v' dk) :
    Ret s (KC l.o l.c) (fun s1 v => v = .tuple #[] ∧ Blk s1 b l ([] ++ (decF 30 u ++ xs.drop nd).map cB) T) (.returned (.tuple #[])) w' := by
  obtain ⟨n, v', dk, rfl, hF⟩ := h
  have hdec : decF 30 u = Lib.decDigits u := decF_eq 30 u (Nat.lt_trans hu64 (by decide)) (by decide)
  have hdk : dk.toList = decF 30 u := by
    rw [hdec, Lib.decDigits_eq]
    have hn : Lib.nDigits u = nd := by rw [← hlen, hdec, Lib.decDigits_eq]; simp
    rw [hn]
    refine List.ext_getElem (by simp [hF.size]) fun i h1 h2 => ?_
    have hi : i < nd := by simpa [hF.size] using h1
    have := hF.done i (Nat.zero_le _) hi
    rw [getElem!_pos _ i (by rw [hF.size]; exact hi)] at this
    simp only [List.getElem_map, List.getElem_range, Array.getElem_toList]
    exact this
  obtain ⟨fr, hh, hf⟩ := hb.heap
  have hlt := hb.lt
  let w2 : World := (Go.Sort.putRow (fun (b : UInt8) => Value.int .u8 (b.toNat : Int)) s.w b 0 dk).drewN n
  have hheap : w2.heap = s.w.heap.modify b (Go.Sort.onCells (Go.Sort.putCells (fun (b : UInt8) => Value.int .u8 (b.toNat : Int)) 0 dk)) := by
    show (World.drewN _ n).heap = _
    have hd : ∀ (w : World) (n : Nat), (w.drewN n).heap = w.heap := fun w n => rfl
    rw [hd]; rfl
  have hcells : (Go.Sort.putCells (fun (b : UInt8) => Value.int .u8 (b.toNat : Int)) 0 dk ([] ++ xs.map cB).toArray) = ([] ++ (decF 30 u ++ xs.drop nd).map cB).toArray := by
    apply Array.ext'
    unfold Go.Sort.putCells
    rw [Array.toList_mapIdx]
    refine List.ext_getElem (by simp [hlen]; omega) fun i h1 h2 => ?_
    have hsz : dk.size = nd := hF.size
    simp only [List.getElem_mapIdx, List.nil_append, List.getElem_map, Nat.zero_le, true_and, Nat.zero_add, Nat.sub_zero, hsz]
    by_cases c : i < nd
    · rw [if_pos c, getElem!_pos _ i (by rw [hsz]; exact c), List.getElem_append_left (by rw [hlen]; exact c)]
      have : dk[i]'(by rw [hsz]; exact c) = (decF 30 u)[i]'(by rw [hlen]; exact c) := by
        simp only [← hdk, Array.getElem_toList]
      rw [this]
    · rw [if_neg c, List.getElem_append_right (by rw [hlen]; omega)]
      simp only [List.getElem_drop, hlen]
      congr 2
      simp only [show nd + (i - nd) = i by omega]
  have hnew : w2.heap[b]? = some (.cells ([] ++ (decF 30 u ++ xs.drop nd).map cB).toArray T fr) := by
    rw [hheap, Array.getElem?_modify, if_pos rfl, hh]
    simp only [Option.map_some, Go.Sort.onCells, hcells]
  let s2 : St := ⟨w2, s.g, s.wf⟩
  have hsize : w2.heap.size = s.w.heap.size := by rw [hheap]; simp
  have st : Step (KC l.o l.c) s s2 := by
    refine ⟨rfl, rfl, rfl, by show s.w.heap.size ≤ w2.heap.size; omega, fun c hc hk => ⟨?_, rfl⟩, fun c hc => hl0 hc.1.symm⟩
    have hne : b ≠ c := by rintro rfl; exact hk (by rw [hb.lab]; exact ⟨rfl, rfl⟩)
    show w2.heap[c]? = _
    rw [hheap, Array.getElem?_modify, if_neg hne]
  refine ⟨s2, .tuple #[], rfl, rfl, st, rfl, ⟨fr, hnew, ?_⟩, hb.lab⟩
  rcases hf with hf | hf
  · exact .inl hf
  · exact .inr (by simp [hlen] at hf ⊢; omega)
end Go.Fw

set_option linter.unusedSimpArgs false
set_option linter.unusedVariables false
namespace Go.Fw
/-- A laid variable of an interface type, as a fact of the first state. -/
theorem ev_of_laid {P : Program} {W : World} {l : List (String × DataW Unit)} (h : laidMet P l W) {name : String} {d : DataW Unit} (hm : (name, d) ∈ l) {g t : Nat} {ms : Array (String × TypeId)}
    (hg : P.globalNamed name = some g) (hty : (P.globals[g]?).map (·.type) = some t) (ht : P.underlying t = some (.interface ms)) : Ev (St.init W) g := by
  obtain ⟨ps, hv, _⟩ := h
  obtain ⟨g', t', cs, fuel, p, h1, h2, h3, h4⟩ := laid_mem hv hm
  obtain rfl := Option.some.inj (hg.symm.trans h1)
  obtain rfl := Option.some.inj (hty.symm.trans h2)
  obtain ⟨ty, fr, hh⟩ := ev_cells hg h3
  have hlt : g < W.heap.size := (Array.getElem?_eq_some_iff.1 hh).1
  have hc : ∃ v, cs = #[v] ∧ (v = .nilIface ∨ ∃ te pe, v = .iface te pe) := by
    cases fuel with
    | zero => simp [DataW.trod] at h4
    | succ fuel =>
      obtain ⟨cl⟩ := cs
      match cl, h4 with
      | [], h4 => simp [DataW.trod, ht] at h4
      | [v], h4 => 
        refine ⟨v, rfl, ?_⟩
        cases v <;> simp [DataW.trod, ht] at h4 <;> simp
      | _ :: _ :: _, h4 => simp [DataW.trod, ht] at h4
  obtain ⟨v, rfl, hv2⟩ := hc
  refine ⟨hlt, rfl, v, ?_, hv2⟩
  show W.cell? ⟨g, 0, none⟩ = some v
  simp [World.cell?, hh]
end Go.Fw

set_option linter.unusedSimpArgs false
set_option linter.unusedVariables false
namespace Go
theorem stepR_scope {P : Program} {b : Frame} {a : Act} {k : List Item} {cs : List Frame} {w : World} {c : Code} : step P (lone (b.atR a (.code (.scope c) :: k)) cs w) = .next (lone (b.atR a (.code c :: .inScope c :: k)) cs w) :=
  step_lone_go (by simp [stepG, stepG.exec, Frame.atR])
theorem stepR_inScope {P : Program} {b : Frame} {a : Act} {k : List Item} {cs : List Frame} {w : World} {c : Code} : step P (lone (b.atR a (.inScope c :: k)) cs w) = .next (lone (b.atR a k) cs w) :=
  step_lone_go (by simp [stepG, stepG.exec, Frame.atR])
/-- A scope in which no goto is come to. -/
theorem wpIn_scope {F : Fence} {n : Nat} {P : Program} {Q : Exit → Act → World → Prop} {a : Act} {w : World} {c : Code} (h : c.wpIn F n P (Exit.noGoto Q) a w) : (Code.scope c).wpIn F n P Q a w := by
  intro b k cs hro hb hr
  have h0 : (lone (b.atR a (.code (.scope c) :: k)) cs w).fenced P F := fenced_calm hb hr rfl
  obtain ⟨e, a₁, w₁, hq, harr⟩ := h b (.inScope c :: k) cs hro hb hr
  cases e with
  | normal => exact ⟨.normal, a₁, w₁, hq, .head h0 stepR_scope (StepsIn.trans harr (.one (fenced_calm hb hr rfl) stepR_inScope))⟩
  | exit id =>
    have hx : exitTo id (.inScope c :: k) = exitTo id k := by simp [exitTo]
    exact ⟨.exit id, a₁, w₁, hq, fun k' hk => .head h0 stepR_scope (harr.1 k' (by rw [hx]; exact hk)),
      fun hr' hk => let ⟨k₁, h1, h2⟩ := harr.2 hr' (by rw [hx]; exact hk); ⟨k₁, h1, .head h0 stepR_scope h2⟩⟩
  | goto l => exact hq.elim
  | ret => exact ⟨_, a₁, w₁, hq, .of_steps (.one h0 stepR_scope) harr⟩
  | panic ch => exact ⟨_, a₁, w₁, hq, .of_steps (.one h0 stepR_scope) harr⟩
  | outgrown => exact ⟨_, a₁, w₁, hq, .of_steps (.one h0 stepR_scope) harr⟩
namespace Fw
section
variable {P : Program} {n : Nat} {Df : Md} {F : Post} {k : List It} {ρ : Env} {w : World}
theorem Qs_goto : ∀ (k : List It) (l : Nat) (ρ : Env) (w : World), Qs P n Df F k (.goto l) ρ w = F (.goto l) ρ w
  | [], _, _, _ => rfl
  | .code _ :: k, l, ρ, w => Qs_goto k l ρ w
  | .blk _ :: k, l, ρ, w => Qs_goto k l ρ w
  | .stop _ :: k, l, ρ, w => Qs_goto k l ρ w
theorem k_scope {c : Code} (hF : ∀ l ρ w, ¬ F (.goto l) ρ w) (h : G P n Df F (.code c :: k) ρ w) : G P n Df F (.code (.scope c) :: k) ρ w := by
  intro a ha
  refine wpIn_scope (wpIn_mono (h a ha) ?_)
  rintro e a' w' ⟨ρ', hag, hq⟩
  cases e with
  | normal => exact ⟨ρ', hag, hq⟩
  | exit i => exact ⟨ρ', hag, hq⟩
  | goto l => rw [Qs_goto] at hq; exact (hF _ _ _ hq).elim
  | ret => exact ⟨ρ', hag, hq⟩
  | panic ch => exact ⟨ρ', hag, hq⟩
  | outgrown => exact ⟨ρ', hag, hq⟩
theorem k_label {l : Nat} (h : G P n Df F k ρ w) : G P n Df F (.code (.label l) :: k) ρ w := fun _ ha => wpIn_label ⟨ρ, ha, h⟩
end
end Fw
end Go

set_option linter.unusedSimpArgs false
set_option linter.unusedVariables false
namespace Go.Fw
/-! a range over a function that writes to what it holds; a return out of a round; results in variables -/
structure YielderW (P : Program) (n0 l : Nat) {X A : Type} (enc : St → A → List Value → Prop) (c : X → A → Option (Bool × X)) (I : X → St → Prop) (Ky Kw : Lab → Prop) : Prop where
  up : ∀ x s1 s2 K, I x s1 → Step K s1 s2 → (∀ lab, K lab → n0 < lab.o ∨ Kw lab) → I x s2
  yield : ∀ x y r s1 vs, n0 ≤ s1.n → I x s1 → enc s1 y vs → c x y = some r → Yields P l vs s1.w (Ret s1 (KB n0 Ky) (fun s2 v => v = .bool r.1 ∧ I r.2 s2))
def ConsW {X : Type} (I : X → St → Prop) (n0 : Nat) (Kw : Lab → Prop) (s : St) (x : X) : Prop := I x s ∧ n0 ≤ s.n ∧ (∀ x s1 s2 K, I x s1 → Step K s1 s2 → (∀ lab, K lab → n0 < lab.o ∨ Kw lab) → I x s2)
theorem ConsW.up2 {X : Type} {I : X → St → Prop} {n0 : Nat} {Kw K : Lab → Prop} {s s' : St} {x : X} (h : ConsW I n0 Kw s x) (st : Step K s s') (hk : ∀ lab, K lab → n0 < lab.o ∨ Kw lab := by intro lab h; first | exact h.elim | exact .inr h | exact .inl (by simp only [KU, KN, KC, KO, K0, KB] at h; omega) | (simp only [KU, KN, KC, KO, K0, KB] at h ⊢; omega)) : ConsW I n0 Kw s' x :=
  ⟨h.2.2 x s s' K h.1 st hk, Nat.le_trans h.2.1 st.size, h.2.2⟩
theorem ConsW.of {P : Program} {l : Nat} {X A : Type} {enc : St → A → List Value → Prop} {c : X → A → Option (Bool × X)} {I : X → St → Prop} {Ky Kw : Lab → Prop} {n0 : Nat} {s : St} {x : X} (hY : YielderW P n0 l enc c I Ky Kw) (h : I x s) (hn : n0 ≤ s.n) : ConsW I n0 Kw s x := ⟨h, hn, hY.up⟩
/-- What a round's body must come to. -/
def RoundFW {X : Type} (l id : Nat) (rec : Loop) (Kb : Lab → Prop) (I : X → St → Prop) (rf : X → Bool) (s1 : St) (r : Bool × X) : Post
  | .normal, _, w => r.1 = true ∧ ∃ s2 : St, s2.w = w ∧ Step (KU (KC (l + 1) 0) Kb) s1 s2 ∧ LoopR s2 l { rec with state := .busy } ∧ I r.2 s2
  | .exit i, _, w => i = id ∧ r.1 = false ∧ rf r.2 = false ∧ ∃ s2 : St, s2.w = w ∧ Step (KU (KC (l + 1) 0) Kb) s1 s2 ∧ LoopR s2 l { rec with state := .busy } ∧ I r.2 s2
  | .ret, _, w => r.1 = false ∧ rf r.2 = true ∧ ∃ s2 : St, s2.w = w ∧ Step (KU (KC (l + 1) 0) Kb) s1 s2 ∧ LoopR s2 l { rec with state := .busy } ∧ I r.2 s2
  | _, _, _ => False
section
variable {P : Program} {n : Nat} {ρ : Env} {s : St} {X A : Type}
theorem rk_rangeW {bi : Nat} {g : Operand} {ps : List Nat} {assign body : Code} {k : List Code} {df : List Deferred} {W : Exit → Act → World → Prop} {gf : FuncId} {caps : List Value}
    (enc : St → A → List Value → Prop) (c : X → A → Option (Bool × X)) (I : X → St → Prop) (Kb Kw : Lab → Prop) (rf : X → Bool)
    (hg : ev ρ g = some (.func (.func gf) #[] caps.toArray)) (hcal : Callable P gf) (hps : ∀ s y vs, enc s y vs → vs.length = ps.length) (hpl : ∀ p ∈ ps, p < n)
    (hKb : ∀ lab, Kb lab → lab.o ≠ 0 ∧ lab.o ≤ s.n) (hKw : ∀ lab, Kw lab → lab.o ≠ 0 ∧ lab.o ≤ s.n) (x0 : X) (x1 : Bool × X) (hI0 : I x0 s)
    (hup : ∀ x s1 s2 K, I x s1 → Step K s1 s2 → (∀ lab, K lab → s.n < lab.o ∨ Kw lab) → I x s2)
    (hround : ∀ (l : Nat) (rec : Loop) (s1 : St) (x : X) (y : A) (vs : List Value) (r : Bool × X), s.n < l → l < s1.n → rec.state = .ready → I x s1 → LoopR s1 l rec → enc s1 y vs → c x y = some r →
      G P n ⟨[], some l⟩ NoF [.code assign, .stop (fun ρ' w' => Begin P n l (RoundFW l bi rec Kb I rf s1 r) body ρ' w')] (envZ ρ ps vs) s1.w)
    (hcall : ∀ (l : Nat) (s1 : St) (I' : Bool × X → St → Prop) (Ky : Lab → Prop), Step K0 s s1 → s.n < l → l < s1.n → (∀ lab, Ky lab → lab.o ≤ s.n ∨ lab.o = l + 1) → (∀ lab, Ky lab → lab = ⟨l + 1, 0⟩ ∨ Kb lab) → YielderW P s1.n l enc (stopC c) I' Ky Kw → I' (false, x0) s1 →
      Calls P gf (.func (.yield l) #[] #[] :: caps).toArray s1.w (Ret s1 (KU (KB s1.n Ky) Kw) (fun s2 v => v = .tuple #[] ∧ I' x1 s2)))
    (hnext : ∀ (D : Nat) (s2 : St), Step (KU Kb Kw) s s2 → I x1.2 s2 → Mark s2 D → s.n ≤ D → (¬ (x1.1 = true ∧ rf x1.2 = true) → RAWK P n ⟨⟨.collected D, #[]⟩ :: df, none⟩ W k ρ s2.w) ∧ ((x1.1 = true ∧ rf x1.2 = true) → RawF n ⟨⟨.collected D, #[]⟩ :: df, none⟩ W .ret ρ s2.w)) :
    RAWK P n ⟨df, none⟩ W (.block bi (.rangeFunc g ps.toArray assign body) :: k) ρ s.w := by
  intro a ha
  refine wpIn_block (wpIn_rangeFunc ?_)
  intro fn hfn
  obtain ⟨fnr, hf1, hf2, hf3⟩ := hcal
  have hKb0 : ∀ c, ¬ KU Kb Kw ⟨0, c⟩ := fun c hc => by rcases hc with hc | hc; exact (hKb _ hc).1 rfl; exact (hKw _ hc).1 rfl
  -- the two blocks
  obtain ⟨rec, hrec⟩ : ∃ rec : LoopState → Option Code → Loop, rec = fun st pe => { state := st, pending := pe, fn := fn, tmps := a.tmps, params := ps.toArray, assign := assign, body := body, defers := s.w.heap.size } := ⟨_, rfl⟩
  let sa : St := s.to (s.w.alloc (.deferred (some []))) ⟨s.n + 1, 0⟩ (Nat.le_refl _)
  have sta : Step K0 s sa := St.to_alloc
  let sb : St := sa.to (sa.w.alloc (.loop (rec .ready none))) ⟨sa.n + 1, 0⟩ (Nat.le_refl _)
  have stb : Step K0 sa sb := St.to_alloc
  have na : sa.n = s.n + 1 := by show (s.w.alloc _).heap.size = _; simp
  have nb : sb.n = s.n + 2 := by show (sa.w.alloc _).heap.size = _; rw [World.size_alloc]; exact congrArg (· + 1) na
  have hMa : Mark sa s.n := ⟨by omega, St.to_g_new (Nat.le_refl _), World.alloc_heap_new _ _⟩
  have hM : Mark sb s.n := hMa.up2 stb id
  have hL : LoopR sb sa.n (rec .ready none) := ⟨by omega, St.to_g_new (Nat.le_refl _), World.alloc_heap_new _ _⟩
  rw [na] at hL
  have hsb : Step K0 s sb := sta.trans0 stb
  -- the state of who is told
  let I' : Bool × X → St → Prop := fun x sl => I x.2 sl ∧ LoopR sl (s.n + 1) (rec (if x.1 = true then .done else .ready) (if x.1 = true then some (if rf x.2 = true then .ret else .exit bi) else none)) ∧ Mark sl s.n
  let Ky : Lab → Prop := KU (KC (s.n + 1 + 1) 0) Kb
  have hcl := hcall (s.n + 1) sb I' Ky hsb (by omega) (by omega)
    (fun lab h => by rcases h with h | h; exact .inr h.1; exact .inl (hKb _ h).2) (fun lab h => by rcases h with h | h; exact .inl (by cases lab; obtain ⟨h1, h2⟩ := h; simp_all); exact .inr h) ?_ ⟨hup _ _ _ _ hI0 hsb (fun _ h => h.elim), hL, hM⟩
  · refine ⟨s.n + 1, [{ target := .collected s.n, args := #[] }], sb.w, { target := .fn (.func gf) caps.toArray, args := #[.func (.yield (s.n + 1)) #[] #[]] }, sb.w, gf, (.func (.yield (s.n + 1)) #[] #[] :: caps).toArray, sb.w, ?_, ?_, fun _ _ => trivial, ?_, fun h => absurd h (by simp), calls_in (hcl.mono ?_)⟩
    · have := run_enterLoop_outer (P := P) (w := s.w) fn a.tmps ps.toArray assign body
      show _ = Result.ok (s.w.heap.size + 1, _) ((s.w.alloc _).alloc (.loop (rec .ready none)))
      rw [hrec]
      exact this
    · have := ha.ev hg
      simp only [resolve, this, Deferred.ofValue]
      simp [go_sem]
    · have h2' : ¬ fnr.name = "runtime.NumGoroutine" := by intro e; rw [e] at hf2; simp at hf2
      have h3' : ¬ fnr.body = none := by intro e; rw [e] at hf3; simp at hf3
      simp [invoke, callFunc, hf1, h2', h3', program, Sem.run, go_sem]
    · rintro e w' ⟨s2, v, rfl, rfl, st, _, hI2, hL2, hM2⟩
      obtain ⟨s3, e3, st3, hL3⟩ := LoopR.put (r' := { rec (if x1.1 = true then .done else .ready) (if x1.1 = true then some (if rf x1.2 = true then .ret else .exit bi) else none) with state := .exhausted }) hL2
      have hst : Step (KU Kb Kw) s s3 := by
        refine ((hsb.of0 hKb0).trans st (fun i hi hk => ?_)).trans st3 (fun i hi hk => ?_)
        · have hw := s.wf i
          rcases hk with hk | hk
          · rcases hk.1 with h | h
            · have := h.1; omega
            · exact .inl h
          · exact .inr hk
        · have hw := s.wf i
          have := hk.1; omega
      have hfin := hnext s.n s3 hst (hup _ _ _ _ hI2 st3 (fun lab h => .inl (by have := h.1; omega))) (hM2.up2 st3 (fun h => by have : s.n + 1 = s.n + 1 + 1 := h.1; omega)) (Nat.le_refl _)
      have hag : Ag n ⟨⟨.collected s.n, #[]⟩ :: df, none⟩ ρ { a with defers := [{ target := .collected s.n, args := #[] }] ++ a.defers } := ⟨ha.size, ha.get, by show _ :: _ = _; exact congrArg (_ :: ·) ha.defers⟩
      have hfin1 := fun hq => hfin.1 hq _ hag
      have hfin2 := fun hq => hfin.2 hq _ hag
      refine ⟨_, s3.w, by rw [e3]; exact run_endLoop hL2.2.2 (by rw [hrec]; simp only; split <;> simp), ?_⟩
      rw [hrec]
      simp only
      by_cases hb : x1.1 = true
      · simp only [hb, if_true]
        by_cases hr : rf x1.2 = true
        · simp only [hr, if_true]
          refine wpIn_ret ?_
          exact hfin2 ⟨hb, hr⟩
        · simp only [hr, if_false]
          refine wpIn_exit ?_
          simp only [Exit.inBlock, if_true]
          exact hfin1 (fun h => hr h.2)
      · simp only [hb, if_false]
        exact hfin1 (fun h => hb h.1)
  · -- one round
    refine ⟨?_, ?_⟩
    · rintro x t1 t2 K ⟨h1, h2, h3⟩ st hK
      exact ⟨hup _ _ _ _ h1 st (fun lab h => (hK _ h).imp (fun h => by omega) id), h2.up2 st (fun h => by rcases hK _ h with h | h; (simp at h; omega); (have := (hKw _ h).2; simp at this; omega)), h3.up2 st (fun h => by rcases hK _ h with h | h; (simp at h; omega); (have := (hKw _ h).2; simp at this; omega))⟩
    · rintro ⟨b, x⟩ y r t1 vs hn ⟨h1, h2, h3⟩ hy hc
      unfold stopC at hc
      cases b with
      | true => simp at hc
      | false =>
        have h1 : I x t1 := h1
        have h2 : LoopR t1 (s.n + 1) (rec .ready none) := h2
        simp only [Bool.false_eq_true, if_false] at hc
        obtain ⟨r0, hc0, rfl⟩ := Option.map_eq_some_iff.1 hc
        have hr := hround (s.n + 1) (rec .ready none) t1 x y vs r0 (by omega) (by omega) (by rw [hrec]) h1 h2 hy hc0
        have hyr := run_yield (P := P) (args := vs.toArray) h2.2.2 (by rw [hrec]; simpa using hps _ _ _ hy)
        refine ⟨_, _, _, _, hyr, roundIn_of_wpIn trivial ?_⟩
        have e1 : (rec .ready none).params = ps.toArray := by rw [hrec]
        have e2 : (rec .ready none).tmps = a.tmps := by rw [hrec]
        have e3 : (rec .ready none).assign = assign := by rw [hrec]
        have e4 : (rec .ready none).body = body := by rw [hrec]
        rw [e1, e2, e3, e4]
        have hag : Ag n ⟨[], some (s.n + 1)⟩ (envZ ρ ps vs) { tmps := (ps.toArray.zip vs.toArray).foldl (fun t (x : Nat × Value) => t.setIfInBounds x.1 x.2) a.tmps, defers := [] } := by
          rw [zip_arr]
          exact Ag.envZ (Df := ⟨[], some (s.n + 1)⟩) ⟨ha.size, ha.get, rfl⟩ hpl
        refine wpIn_mono (hr _ hag) ?_
        rintro e a' w' ⟨ρ', hag', hq⟩
        cases e with
        | normal =>
          obtain ⟨w2, hb1, hb2⟩ := hq
          refine ⟨w2, hb1, wpIn_mono (hb2 a' hag') ?_⟩
          have fin : ∀ (jump : Option Code) (u : St), Step (KU (KC (s.n + 1 + 1) 0) Kb) t1 u → LoopR u (s.n + 1) { rec .ready none with state := .busy } → I r0.2 u → jump.isNone = r0.1 → jump = (if (!r0.1) = true then some (if rf r0.2 = true then .ret else .exit bi) else none) →
              ∃ v w', (Instr.endRound (s.n + 1) jump).run P u.w = .ok v w' ∧ Ret t1 (KB sb.n Ky) (fun s2 v => v = .bool r0.1 ∧ I' (!r0.1, r0.2) s2) (.returned v) w' := by
            intro jump u st hLu hIu hj hj2
            obtain ⟨u2, e5, st5, hL5⟩ := LoopR.put (r' := { rec .ready none with state := if jump.isNone then .ready else .done, pending := jump }) hLu
            refine ⟨_, _, run_endRound jump hLu.2.2, u2, .bool jump.isNone, ?_, rfl, ?_, by rw [hj], hup _ _ _ _ hIu st5 (fun lab h => .inl (by have := h.1; omega)), ?_, ?_⟩
            · rw [e5]
            · have hst : Step (KU (KC (s.n + 1 + 1) 0) Kb) t1 u2 := st.trans st5 (fun i _ hk => .inl hk)
              exact hst.mono (fun lab h => ⟨h, by rcases h with h | h; have := h.1; omega; exact (hKb _ h).1, by rcases h with h | h; have := h.1; omega; have := (hKb _ h).2; omega⟩) (fun c h => h.2.1 rfl)
            · have e6 : { rec .ready none with state := if jump.isNone then LoopState.ready else .done, pending := jump } = rec (if (!r0.1) = true then .done else .ready) (if (!r0.1) = true then some (if rf r0.2 = true then .ret else .exit bi) else none) := by
                rw [hrec, ← hj2, hj]; cases r0.1 <;> rfl
              rw [← e6]; exact hL5
            · exact (h3.up2 st (fun h => by rcases h with h | h; (have : s.n + 1 = s.n + 1 + 1 := h.1; omega); (have := (hKb _ h).2; simp at this; omega))).up2 st5 (fun h => by have : s.n + 1 = s.n + 1 + 1 := h.1; omega)
          rintro e2 a2 w3 ⟨ρ2, hag2, hq2⟩
          cases e2 with
          | normal =>
            obtain ⟨q1, u, rfl, q2, q3, q4⟩ := hq2
            exact fin none u q2 q3 q4 (by rw [q1]; rfl) (by rw [q1]; rfl)
          | exit i =>
            obtain ⟨q0, q1, qr, u, rfl, q2, q3, q4⟩ := hq2
            subst q0
            exact fin (some (.exit i)) u q2 q3 q4 (by rw [q1]; rfl) (by rw [q1, qr]; rfl)
          | ret =>
            obtain ⟨q1, qr, u, rfl, q2, q3, q4⟩ := hq2
            exact fin (some .ret) u q2 q3 q4 (by rw [q1]; rfl) (by rw [q1, qr]; rfl)
          | goto l => exact hq2.elim
          | panic ch => exact hq2.elim
          | outgrown => exact hq2.elim
        | exit i => exact hq.elim
        | goto l => exact hq.elim
        | ret => exact hq.elim
        | panic ch => exact hq.elim
        | outgrown => exact hq.elim
end
section
variable {P : Program} {n : Nat} {ρ : Env} {s : St} {w : World} {fn : Func} {T : Ending → World → Prop}
theorem re_nil_c {rs : List ResultVar} (hr : fn.results = rs.toArray) (hl : Nat.ble rs.length 4 = true) (h : ∃ vs, resAll P ρ w rs vs ∧ T (.returned (one vs)) w) : RE P n fn T [] ρ w := by
  intro tmps h1 h2
  obtain ⟨vs, h3, h4⟩ := h
  have hag : Ag n M0 ρ { tmps := tmps, defers := [] } := ⟨h1, h2, rfl⟩
  exact ⟨one vs, results_c hag hr hl h3, h4⟩
end
end Go.Fw
