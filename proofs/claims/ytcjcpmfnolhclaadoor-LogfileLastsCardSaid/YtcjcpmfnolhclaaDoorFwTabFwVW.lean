import Derived.Test.YtcjcpmfnolhclaaDoorFwSFwW
import Derived.Lib.LaidTab
import Derived.Test.YtcjcpmfnolhclaaDoorFwOFwZ
import Derived.Carry
import Derived.OpenShut
import Derived.ChangeArms
import GoSem.ClaimDataLaid
import Derived.SizedLaws
import GoSem.ClaimJoined
import Derived.Lib.ItoaNum
import Derived.Lib.Overlaps
import Derived.Lib.AppendIntMem
import Derived.WideLaws
import Derived.Lib.AtoiErrMem
import Derived.Scope
set_option linter.unusedSimpArgs false
set_option linter.unusedVariables false
namespace Go.Fw
/-! tables of the library's, which are package-level variables that nobody writes -/
/-- The table of that name is there, and reads so. -/
def Tb (P : Program) (s : St) (name : String) (k : IntKind) (zs : List Int) : Prop := ∃ g, P.globalNamed name = some g ∧ g < s.n ∧ s.g g = L0 ∧ Lib.TabIs P s.w name k zs
theorem Tb.up2 {P : Program} {K : Lab → Prop} {s s' : St} {name : String} {k : IntKind} {zs : List Int} (h : Tb P s name k zs) (st : Step K s s') : Tb P s' name k zs := by
  obtain ⟨g, h1, h2, h3, h4⟩ := h
  have hk : ¬ K (s.g g) := by rw [h3]; exact st.imm 0
  obtain ⟨k1, k2⟩ := st.keep g h2 hk
  refine ⟨g, h1, Nat.lt_of_lt_of_le h2 st.size, k2.trans h3, ?_⟩
  unfold Lib.TabIs World.var? at *
  simp only [h1, Option.bind_some] at h4 ⊢
  rw [k1]; exact h4
theorem Tb.is {P : Program} {s : St} {name : String} {k : IntKind} {zs : List Int} (h : Tb P s name k zs) : Lib.TabIs P s.w name k zs := by obtain ⟨g, h1, h2, h3, h4⟩ := h; exact h4
/-- What a call of the library's leaves, that only makes new blocks. -/
theorem Ret.below {s : St} {φ : St → Value → Prop} {w' : World} {v : Value} (hb : Go.RowKit.Below s.w.heap.size s.w w') (h : ∀ s' : St, s'.w = w' → Step K0 s s' → φ s' v) : Ret s K0 φ (.returned v) w' :=
  have st : Step K0 s (s.to w' L0 (by simp)) := St.to_step hb.os hb.tape hb.output hb.size (fun b hb' _ => hb.block b hb') (fun _ h => h)
  ⟨s.to w' L0 (by simp), v, rfl, rfl, st, h _ rfl st⟩
end Go.Fw

set_option linter.unusedSimpArgs false
set_option linter.unusedVariables false
set_option linter.unnecessarySimpa false
namespace Go.Fw

/-- What an argument reads as, by its type. -/
inductive Typed (P : Program) : TypeId → D → Prop where
  | int {t : TypeId} {k : IntKind} {n : Int} (h : P.underlying t = some (.int k)) (hw : (Lit.int k n).wf = true) : Typed P t (.val (.int k n))
  | bool {t : TypeId} {b : Bool} (h : P.underlying t = some .bool) : Typed P t (.val (.bool b))
  | str {t : TypeId} {s : ByteArray} (h : P.underlying t = some .string) (hs : s.size ≤ reachBytes) : Typed P t (.val (.string s))
  | sl {t e : TypeId} {l : List D} (h : P.underlying t = some (.slice e)) (hl : l.length ≤ maxLen) (hb : l.length * P.bytesOf e ≤ reachBytes) (hd : ∀ d ∈ l, Typed P e d) : Typed P t (.sl (P.cellsOf e) l)
  | agg {t : TypeId} {fs : Array Field} {l : List D} (h : P.underlying t = some (.struct fs)) (hl : l.length = fs.size) (hd : ∀ (i : Nat) (f : Field) (d : D), fs[i]? = some f → l[i]? = some d → Typed P f.type d) : Typed P t (.agg l)
  | arr {t e : TypeId} {n : Nat} {l : List D} (h : P.underlying t = some (.array n e)) (hl : l.length = n) (hd : ∀ d ∈ l, Typed P e d) : Typed P t (.agg l)
  | nilp {t e : TypeId} (h : P.underlying t = some (.pointer e)) : Typed P t (.val (.pointer none))
  | ptr {t e : TypeId} {d : D} (h : P.underlying t = some (.pointer e)) (hd : Typed P e d) : Typed P t (.ptr d)
  | one {t : TypeId} {v : Value} (h1 : ∀ k, P.underlying t ≠ some (.int k)) (h2 : P.underlying t ≠ some .bool) (h3 : P.underlying t ≠ some .string) (h4 : ∀ e, P.underlying t ≠ some (.slice e)) (h5 : ∀ fs, P.underlying t ≠ some (.struct fs)) (h6 : ∀ n e, P.underlying t ≠ some (.array n e)) (h7 : ∀ e, P.underlying t ≠ some (.pointer e)) : Typed P t (.val v)

/-- The world as it is at the start: nobody writes what is there. -/
def St.init (w : World) : St := ⟨w, fun _ => L0, fun b => Nat.zero_le _⟩

/-- These types lead to no other ones; no slice, no pointer leads to what has no cell. -/
def closedB (P : Program) (ts : List TypeId) : Bool := ts.all fun t => isVar P t && match P.underlying t with
  | some (.slice e) => decide (0 < P.cellsOf e) && ts.contains e
  | some (.pointer e) => decide (0 < P.cellsOf e) && ts.contains e
  | some (.array _ e) => ts.contains e
  | some (.struct fs) => fs.toList.all fun f => ts.contains f.type
  | _ => true

theorem cells_of {w : World} {a : Addr} {n : Nat} {cs : List Value} (h : w.cells? 0 a n = some cs) : cs.length = n ∧ ∀ j, j < n → w.cell? (a.add j) = cs[j]? := by
  unfold World.cells? at h
  rw [if_pos (Nat.zero_le _)] at h
  have hl := mapM_some_length h
  refine ⟨by simpa using hl, fun j hj => ?_⟩
  exact mapM_some_get h j j (by simp [hj])

theorem len1 {α : Type} {l : List α} (h : l.length = 1) : ∃ x, l = [x] := by
  cases l with
  | nil => simp at h
  | cons a r => cases r with
    | nil => exact ⟨a, rfl⟩
    | cons b r => simp at h
theorem flat_cut (cs : List Value) : ∀ (ws : List Nat), cs.length = ws.sum → ((List.range ws.length).map fun i => (cs.drop (ws.take i).sum).take (ws.getD i 0)).flatten = cs := by
  intro ws
  induction ws generalizing cs with
  | nil => intro h; simp at h; simp [h]
  | cons w ws ih =>
    intro h
    rw [List.length_cons, List.range_succ_eq_map, List.map_cons, List.flatten_cons]
    have h2 := ih (cs.drop w) (by simp at h ⊢; omega)
    simp only [List.map_map, Function.comp_def, List.take_succ_cons, List.sum_cons, List.getD_cons_succ] at h2 ⊢
    simp only [List.drop_drop] at h2
    rw [h2]
    simp
theorem add_none (b off i : Nat) : (⟨b, off, none⟩ : Addr).add i = ⟨b, off + i, none⟩ := by unfold Addr.add; split <;> simp_all
theorem cell_lt {w : World} {a : Addr} {v : Value} (h : w.cell? a = some v) : a.block < w.heap.size := by
  rcases Nat.lt_or_ge a.block w.heap.size with h1 | h1
  · exact h1
  · unfold World.cell? at h
    rw [Array.getElem?_eq_none h1] at h
    split at h <;> simp_all

theorem wAll {H : Type} {P : Program} {e : TypeId} {q : Nat} {d : DataW H} : ∀ {l : List (DataW H)}, d ∈ l → q ∈ d.weights P e → q ∈ DataW.weightsAll P e l
  | d0 :: l, hd, hq => by
    simp only [DataW.weightsAll, List.mem_append]
    rcases List.mem_cons.1 hd with rfl | hd
    · exact .inl hq
    · exact .inr (wAll hd hq)
theorem open_D {H : Type} {enc : TypeId × Value → H} {P : Program} {w : World} {ts : List TypeId} (hl : laidOutB P = true) (hz : closedB P ts = true) : ∀ (fuel : Nat) (t : TypeId) (cs : List Value) (x : DataW H × List MemPlace), t ∈ ts →
    DataW.trod enc P w 0 (fun _ => true) true fuel t cs = some x → (∀ q ∈ x.1.weights P t, q ≤ reachBytes) → ∃ d, RC (St.init w) cs d ∧ Typed P t d := by
  intro fuel
  induction fuel with
  | zero => intro t cs x _ h _; simp [DataW.trod] at h
  | succ n ih =>
    intro t cs x hts h hB
    have hcl := List.all_eq_true.1 hz t hts
    simp only [Bool.and_eq_true] at hcl
    obtain ⟨hv, hcl⟩ := hcl
    have hv' := hv
    simp only [isVar, Bool.and_eq_true, decide_eq_true_eq] at hv'
    obtain ⟨hsz, hk⟩ := hv'
    have hrow : rowFine P t = true := by
      simp only [laidOutB, Bool.and_eq_true] at hl
      exact List.all_eq_true.1 hl.1.1 t (List.mem_range.2 hsz)
    simp only [rowFine, hv, Bool.not_true, Bool.false_or] at hrow
    cases hu : P.underlying t with
    | none => rw [hu] at hk; simp [kindOk] at hk
    | some td =>
      by_cases h1 : ∃ k, td = .int k
      · obtain ⟨k, rfl⟩ := h1
        obtain ⟨m, rfl, rfl, hw⟩ := DataW.trod_int hu h
        exact ⟨_, .val _ rfl, .int hu hw⟩
      by_cases h2 : td = .bool
      · subst h2
        obtain ⟨b, rfl, rfl⟩ := DataW.trod_bool hu h
        exact ⟨_, .val _ rfl, .bool hu⟩
      by_cases h3 : td = .string
      · subst h3
        obtain ⟨b, rfl, rfl, hs⟩ := DataW.trod_string hu h
        exact ⟨_, .val _ rfl, .str hu (by have := hB b.data.toList.length (by simp [DataW.weights]); simpa using this)⟩
      by_cases h4 : ∃ e, td = .slice e
      · obtain ⟨e, rfl⟩ := h4
        rw [hu] at hrow
        simp only [Bool.and_eq_true] at hrow
        rw [hu] at hcl
        simp only [Bool.and_eq_true, decide_eq_true_eq, List.contains_eq_mem] at hcl
        obtain ⟨hpos, hin⟩ := hcl
        rcases DataW.trod_slice hu h with ⟨rfl, _⟩ | ⟨a, len, cap, elems, rest, m, hm, rfl, rfl, _, hlc, hcm, hel, he, _⟩
        · exact ⟨.sl (P.cellsOf e) [], .nilsl _ _ _ (fun _ => rfl), .sl hu (Nat.zero_le _) (by simp) (by simp)⟩
        · cases hm
          have hB0 : (elems.length + rest.length) * P.bytesOf e ≤ reachBytes := hB _ (by simp [DataW.weights, hu])
          have hB1 : ∀ (y : DataW H × List MemPlace), y ∈ elems → ∀ q ∈ y.1.weights P e, q ≤ reachBytes := fun y hy q hq => hB q (by simp only [DataW.weights, hu]; exact List.mem_cons_of_mem _ (List.mem_append_left _ (wAll (List.mem_map.2 ⟨y, hy, rfl⟩) hq)))
          have hg : ∀ i, i < len → ∃ cs' d, (cs' : List Value).length = P.cellsOf e ∧ (∀ j, j < P.cellsOf e → w.cell? ((a.add (i * P.cellsOf e)).add j) = cs'[j]?) ∧ RC (St.init w) cs' d ∧ Typed P e d := by
            intro i hi
            have h5 := he i hi
            rw [List.getElem?_eq_getElem (show i < elems.length by omega), Option.bind_eq_some_iff] at h5
            obtain ⟨cs', h6, h7⟩ := h5
            obtain ⟨d, h8, h9⟩ := ih e cs' _ hin h7 (hB1 _ (List.getElem_mem _))
            obtain ⟨h10, h11⟩ := cells_of h6
            exact ⟨cs', d, h10, h11, h8, h9⟩
          by_cases h0 : len = 0
          · subst h0
            exact ⟨.sl (P.cellsOf e) [], .nilsl _ _ _ (by simp), .sl hu (Nat.zero_le _) (by simp) (by simp)⟩
          · obtain ⟨c0, d0, e1, e2, _, _⟩ := hg 0 (by omega)
            have e3 := e2 0 hpos
            rw [List.getElem?_eq_getElem (show 0 < c0.length by omega)] at e3
            have e4 := World.cell?_spot e3
            obtain ⟨b, off, sp⟩ := a
            have e5 : sp = none := by
              cases sp with
              | none => rfl
              | some q => simp [Addr.add] at e4
            subst e5
            have hb : b < w.heap.size := by
              have := cell_lt e3
              simpa [add_none] using this
            let cf : Nat → List Value := fun i => if hi : i < len then Classical.choose (hg i hi) else []
            let df : Nat → D := fun i => if hi : i < len then Classical.choose (Classical.choose_spec (hg i hi)) else .agg []
            have hcf : ∀ i (hi : i < len), (cf i).length = P.cellsOf e ∧ (∀ j, j < P.cellsOf e → w.cell? (((⟨b, off, none⟩ : Addr).add (i * P.cellsOf e)).add j) = (cf i)[j]?) ∧ RC (St.init w) (cf i) (df i) ∧ Typed P e (df i) := by
              intro i hi
              have := Classical.choose_spec (Classical.choose_spec (hg i hi))
              simp only [cf, df, dif_pos hi]
              exact this
            have hlen : ((List.range len).map df).length = len := by simp
            have hR : RC (St.init w) [.slice (some ⟨b, off, none⟩) ((List.range len).map df).length cap] (.sl (P.cellsOf e) ((List.range len).map df)) := by
              refine .sl _ b off cap _ cf hb rfl (by rw [hlen]; exact hlc) (fun i hi => ?_) (fun i hi j hj => ?_) (fun i hi => ?_)
              · rw [hlen] at hi; exact (hcf i hi).1
              · rw [hlen] at hi
                have := (hcf i hi).2.1 j hj
                rw [add_none, add_none] at this
                exact this
              · have hi' := hi
                rw [hlen] at hi'
                simp only [List.getElem_map, List.getElem_range]
                exact (hcf i hi').2.2.1
            rw [hlen] at hR
            refine ⟨_, hR, .sl hu (by rw [hlen]; omega) (by rw [hlen, ← hel]; exact Nat.le_trans (Nat.mul_le_mul_right _ (Nat.le_add_right _ _)) hB0) ?_⟩
            intro d hd
            simp only [List.mem_map, List.mem_range] at hd
            obtain ⟨i, hi, rfl⟩ := hd
            exact (hcf i hi).2.2.2
      by_cases h5 : ∃ fs, td = .struct fs
      · obtain ⟨fs, rfl⟩ := h5
        rw [hu] at hrow
        simp only [Bool.and_eq_true, List.all_eq_true, beq_iff_eq, List.mem_range] at hrow
        obtain ⟨⟨r1, r2⟩, r3⟩ := hrow
        rw [hu] at hcl
        simp only [List.all_eq_true, List.contains_eq_mem, decide_eq_true_eq] at hcl
        have hin := hcl
        obtain ⟨xs, m, hm, rfl, hcl, hxl, hx⟩ := DataW.trod_struct hu h
        cases hm
        let ws := fs.toList.map fun f => P.cellsOf f.type
        have hoff : ∀ i (f : Field), fs.toList[i]? = some f → f.offset = (ws.take i).sum := by
          intro i f hf
          have := r3 i (List.getElem?_eq_some_iff.1 hf).1
          rw [hf] at this
          simp only [beq_iff_eq] at this
          rw [this, List.map_take]
        have hg : ∀ i, i < fs.size → ∃ d, RC (St.init w) ((cs.drop (ws.take i).sum).take (ws.getD i 0)) d ∧ ∀ f : Field, fs[i]? = some f → Typed P f.type d := by
          intro i hi
          have hf : fs[i]? = some fs[i] := by simp [hi]
          have hf' : fs.toList[i]? = some fs[i] := by simpa using hf
          have h6 := hx i _ hf
          rw [List.getElem?_eq_getElem (show i < xs.length by omega)] at h6
          obtain ⟨d, h7, h8⟩ := ih _ _ _ (hin _ (List.mem_of_getElem? hf')) h6 (fun q hq => hB q (by simp only [DataW.weights, hu]; exact DataW.weights_mem_each (j := i) (t := fs[i].type) (d := xs[i].1) (by rw [List.getElem?_map, hf']; rfl) (by rw [List.getElem?_map, List.getElem?_eq_getElem (show i < xs.length by omega)]; rfl) q hq))
          refine ⟨d, ?_, fun f hf2 => ?_⟩
          · rw [← hoff i _ hf']
            have : ws.getD i 0 = P.cellsOf fs[i].type := by simp [ws, List.getD, hi]
            rw [this]
            exact h7
          · rw [hf] at hf2
            cases hf2
            exact h8
        let df : Nat → D := fun i => if hi : i < fs.size then Classical.choose (hg i hi) else .agg []
        have hdf : ∀ i (hi : i < fs.size), RC (St.init w) ((cs.drop (ws.take i).sum).take (ws.getD i 0)) (df i) ∧ ∀ f : Field, fs[i]? = some f → Typed P f.type (df i) := by
          intro i hi
          have := Classical.choose_spec (hg i hi)
          simp only [df, dif_pos hi]
          exact this
        have hwl : ws.length = fs.size := by simp [ws]
        have hfl := flat_cut cs ws (by rw [hcl, r2])
        refine ⟨.agg ((List.range ws.length).map df), ?_, .agg hu (by simp [hwl]) ?_⟩
        · have := RC.agg (s := St.init w) ((List.range ws.length).map fun i => (cs.drop (ws.take i).sum).take (ws.getD i 0)) ((List.range ws.length).map df) (by simp) (fun i h1 h2 => by
            simp only [List.getElem_map, List.getElem_range]
            exact (hdf i (by simpa [hwl] using h1)).1)
          rw [hfl] at this
          exact this
        · intro i f d hf hd
          have hi : i < fs.size := by
            rcases Nat.lt_or_ge i fs.size with h | h
            · exact h
            · rw [Array.getElem?_eq_none h] at hf; simp at hf
          rw [List.getElem?_eq_getElem (show i < ((List.range ws.length).map df).length by simpa [hwl] using hi)] at hd
          simp only [List.getElem_map, List.getElem_range, Option.some.injEq] at hd
          subst hd
          exact (hdf i hi).2 f hf
      by_cases h6 : ∃ m e, td = .array m e
      · obtain ⟨m, e, rfl⟩ := h6
        rw [hu] at hrow
        simp only [Bool.and_eq_true, beq_iff_eq] at hrow
        rw [hu] at hcl
        simp only [List.contains_eq_mem, decide_eq_true_eq] at hcl
        have hin := hcl
        obtain ⟨xs, q, hq, rfl, hcl, hxl, hx⟩ := DataW.trod_array hu h
        cases hq
        let ws := List.replicate m (P.cellsOf e)
        have hsum : ∀ i, i ≤ m → (ws.take i).sum = i * P.cellsOf e := by
          intro i hi
          simp [ws, Nat.min_eq_left hi]
        have hg : ∀ i, i < m → ∃ d, RC (St.init w) ((cs.drop (ws.take i).sum).take (ws.getD i 0)) d ∧ Typed P e d := by
          intro i hi
          have h6 := hx i hi
          rw [List.getElem?_eq_getElem (show i < xs.length by omega)] at h6
          obtain ⟨d, h7, h8⟩ := ih _ _ _ hin h6 (fun q hq => hB q (by unfold DataW.weights; simp only [hu]; exact wAll (List.mem_map.2 ⟨xs[i], List.getElem_mem _, rfl⟩) hq))
          refine ⟨d, ?_, h8⟩
          rw [hsum i (by omega)]
          have : ws.getD i 0 = P.cellsOf e := by simp [ws, List.getD, hi]
          rw [this]
          exact h7
        let df : Nat → D := fun i => if hi : i < m then Classical.choose (hg i hi) else .agg []
        have hdf : ∀ i (hi : i < m), RC (St.init w) ((cs.drop (ws.take i).sum).take (ws.getD i 0)) (df i) ∧ Typed P e (df i) := by
          intro i hi
          have := Classical.choose_spec (hg i hi)
          simp only [df, dif_pos hi]
          exact this
        have hwl : ws.length = m := by simp [ws]
        have hfl := flat_cut cs ws (by rw [hcl, hrow.2]; simp [ws])
        refine ⟨.agg ((List.range ws.length).map df), ?_, .arr hu (by simp [hwl]) ?_⟩
        · have := RC.agg (s := St.init w) ((List.range ws.length).map fun i => (cs.drop (ws.take i).sum).take (ws.getD i 0)) ((List.range ws.length).map df) (by simp) (fun i h1 h2 => by
            simp only [List.getElem_map, List.getElem_range]
            exact (hdf i (by simpa [hwl] using h1)).1)
          rw [hfl] at this
          exact this
        · intro d hd
          simp only [List.mem_map, List.mem_range, hwl] at hd
          obtain ⟨i, hi, rfl⟩ := hd
          exact (hdf i hi).2
      by_cases h7 : ∃ e, td = .pointer e
      · obtain ⟨e, rfl⟩ := h7
        rw [hu] at hrow
        simp only [Bool.and_eq_true] at hrow
        rw [hu] at hcl
        simp only [Bool.and_eq_true, decide_eq_true_eq, List.contains_eq_mem] at hcl
        obtain ⟨hpos, hin⟩ := hcl
        rcases DataW.trod_pointer hu h with ⟨rfl, _⟩ | ⟨a, cs', y, m, hm, rfl, rfl, h8, h9⟩
        · exact ⟨_, .val _ rfl, .nilp hu⟩
        · cases hm
          obtain ⟨d, h10, h11⟩ := ih e cs' _ hin h9 (fun q hq => hB q (by unfold DataW.weights; simp only [hu]; exact hq))
          obtain ⟨h12, h13⟩ := cells_of h8
          have e3 := h13 0 hpos
          rw [List.getElem?_eq_getElem (show 0 < cs'.length by omega)] at e3
          have e4 := World.cell?_spot e3
          obtain ⟨b, off, sp⟩ := a
          have e5 : sp = none := by
            cases sp with
            | none => rfl
            | some q => simp [Addr.add] at e4
          subst e5
          have hb : b < w.heap.size := by
            have := cell_lt e3
            simpa [add_none] using this
          exact ⟨_, .ptr b off cs' d hb rfl (fun j hj => by have := h13 j (by omega); rw [add_none] at this; exact this) h10, .ptr hu h11⟩
      · have hone : ∃ v, cs = [v] ∧ v.oneCell' = true := by
          unfold DataW.trod at h
          rw [hu] at h
          split at h <;> simp_all [kindOk]
          all_goals (try exact rfl)
        obtain ⟨v, rfl, ho⟩ := hone
        exact ⟨.val v, .val v ho, .one (fun k e => h1 ⟨k, Option.some.inj (hu.symm.trans e)⟩) (fun e => h2 (Option.some.inj (hu.symm.trans e))) (fun e => h3 (Option.some.inj (hu.symm.trans e))) (fun e' e => h4 ⟨e', Option.some.inj (hu.symm.trans e)⟩)
          (fun fs e => h5 ⟨fs, Option.some.inj (hu.symm.trans e)⟩) (fun m e' e => h6 ⟨m, e', Option.some.inj (hu.symm.trans e)⟩) (fun e' e => h7 ⟨e', Option.some.inj (hu.symm.trans e)⟩)⟩

section
variable {P : Program} {t e : TypeId} {d : D}
theorem Typed.inv_int {k : IntKind} (hu : P.underlying t = some (.int k)) (h : Typed P t d) : ∃ n, d = .val (.int k n) ∧ (Lit.int k n).wf = true := by
  cases h with
  | int h hw => rw [hu] at h; cases h; exact ⟨_, rfl, hw⟩
  | one h1 => exact absurd hu (h1 _)
  | bool h => rw [hu] at h; cases h
  | str h => rw [hu] at h; cases h
  | sl h => rw [hu] at h; cases h
  | agg h => rw [hu] at h; cases h
  | arr h => rw [hu] at h; cases h
  | nilp h => rw [hu] at h; cases h
  | ptr h => rw [hu] at h; cases h
theorem Typed.inv_sl (hu : P.underlying t = some (.slice e)) (h : Typed P t d) : ∃ l, d = .sl (P.cellsOf e) l ∧ l.length * P.bytesOf e ≤ reachBytes ∧ ∀ x ∈ l, Typed P e x := by
  cases h with
  | sl h hl hb hd => rw [hu] at h; cases h; exact ⟨_, rfl, hb, hd⟩
  | one h1 h2 h3 h4 => exact absurd hu (h4 _)
  | int h => rw [hu] at h; cases h
  | bool h => rw [hu] at h; cases h
  | str h => rw [hu] at h; cases h
  | agg h => rw [hu] at h; cases h
  | arr h => rw [hu] at h; cases h
  | nilp h => rw [hu] at h; cases h
  | ptr h => rw [hu] at h; cases h
theorem Typed.inv_agg {fs : Array Field} (hu : P.underlying t = some (.struct fs)) (h : Typed P t d) : ∃ l, d = .agg l ∧ l.length = fs.size ∧ ∀ (i : Nat) (f : Field) (x : D), fs[i]? = some f → l[i]? = some x → Typed P f.type x := by
  cases h with
  | agg h hl hd => rw [hu] at h; cases h; exact ⟨_, rfl, hl, hd⟩
  | one h1 h2 h3 h4 h5 => exact absurd hu (h5 _)
  | int h => rw [hu] at h; cases h
  | bool h => rw [hu] at h; cases h
  | str h => rw [hu] at h; cases h
  | sl h => rw [hu] at h; cases h
  | arr h => rw [hu] at h; cases h
  | nilp h => rw [hu] at h; cases h
  | ptr h => rw [hu] at h; cases h
end
/-- Each is one of these: so all are. -/
theorem all_of {α β : Type} {f : β → α} {ok : β → Prop} : ∀ {l : List α}, (∀ x ∈ l, ∃ y, x = f y ∧ ok y) → ∃ m : List β, l = m.map f ∧ ∀ y ∈ m, ok y
  | [], _ => ⟨[], rfl, by simp⟩
  | x :: l, h => by
    obtain ⟨y, e, hy⟩ := h x (by simp)
    obtain ⟨m, e2, hm⟩ := all_of (l := l) (fun z hz => h z (by simp [hz]))
    refine ⟨y :: m, by rw [e, e2]; rfl, ?_⟩
    intro z hz
    rcases List.mem_cons.1 hz with rfl | hz
    · exact hy
    · exact hm z hz
/-- From what came in to the framework's word for it. -/
theorem open_R {H : Type} {enc : TypeId × Value → H} {P : Program} {W : World} {t : TypeId} {v : Value} {d : DataW H} {ps : List MemPlace} {ts : List TypeId} (hl : laidOutB P = true) (hz : closedB P ts = true) (hv : ts.contains t = true) (h1 : v.cells = #[v])
    (h : DataW.Trod enc P W 0 (fun _ => true) true t v d ps) (hB : ∀ q ∈ d.weights P t, q ≤ reachBytes) : ∃ x, RC (St.init W) [v] x ∧ Typed P t x := by
  obtain ⟨fuel, hf⟩ := h
  rw [h1] at hf
  exact open_D hl hz fuel t [v] _ (by simpa using hv) hf hB
/-- A call that writes nothing, as the row wants it. -/
theorem below_of {P : Program} {f : FuncId} {args : Array Value} {W : World} {v0 : Value} (h : Calls P f args (St.init W).w (Ret (St.init W) K0 fun _ v => v = v0)) : Calls P f args W fun e w' => e = .returned v0 ∧ Go.RowKit.Below W.heap.size W w' :=
  h.mono (by
    rintro e w' ⟨s1, v1, rfl, rfl, st, rfl⟩
    exact ⟨rfl, st.below⟩)
end Go.Fw
namespace Go.Fw
theorem weights_app {H : Type} {P : Program} {q : Nat} : ∀ {ts us : List TypeId} {ds es : List (DataW H)}, q ∈ DataW.weightsEach P ts ds → q ∈ DataW.weightsEach P (ts ++ us) (ds ++ es)
  | t :: ts, us, d :: ds, es, h => by
    simp only [List.cons_append, DataW.weightsEach, List.mem_append] at h ⊢
    exact h.imp id weights_app
  | [], _, _, _, h => by simp [DataW.weightsEach] at h
  | _ :: _, _, [], _, h => by simp [DataW.weightsEach] at h
theorem wt_mem {H : Type} {P : Program} {ts : List TypeId} {ds : List (DataW H)} (h : (DataW.weightsEach P ts ds).all (· ≤ reachBytes) = true) {j : Nat} {t : TypeId} {d : DataW H} (ht : ts[j]? = some t) (hd : ds[j]? = some d) : ∀ q ∈ d.weights P t, q ≤ reachBytes :=
  fun q hq => by simpa using List.all_eq_true.1 h q (DataW.weights_mem_each ht hd q hq)
end Go.Fw

set_option linter.unusedSimpArgs false
set_option linter.unusedVariables false
namespace Go.Fw
/-! what a row's condition says of its tables, as facts of the first state -/
end Go.Fw

set_option linter.unusedSimpArgs false
set_option linter.unusedVariables false
namespace Go.Fw
/-! values of interface types whose own type is known: pointers -/
/-- A method with a value's receiver, found by a pointer to it. -/
def methV (P : Program) (t : TypeId) (name : String) (f : FuncId) (e : TypeId) : Bool :=
  (match P.info? t with
  | some i => match i.methods.find? (·.name == name) with
    | some m => m.path.isEmpty && (match m.func with
      | some (g, pr) => Nat.beq g f && !pr
      | none => false)
    | none => false
  | none => false) && (match P.underlying t with
  | some (.pointer e') => Nat.beq e' e
  | _ => false)
section
variable {P : Program} {n : Nat} {Df : Md} {ops : Array Oper} {Q : Post} {rest : List Oper} {ρ : Env} {s : St} {w0 : World}
variable {d : Nat} {ty : TypeId} {pos : String} {aft : Array Edge} {x y z : Operand} {tx tyy : TypeId}
/-- A slice of one's own, cut short: one's own still. -/
theorem k_cut_own {l : Lab} {v : Value} {w0 e j : Nat} {ds : List D} {hi : Operand} (hT : P.underlying tx = some (.slice e)) (hs : sizeT P e w0 = true) (hx : ev ρ x = some v) (h : Own s l e w0 v ds)
    (hhi : CutAt ρ ds.length (some hi) j) (hj : j ≤ ds.length) (hd : Nat.blt d n = true)
    (hK : ∀ v', Own s l e w0 v' (ds.take j) → KL P n Df ops Q rest ((d, v') :: ρ) s.w) :
    KL P n Df ops Q (⟨some d, .slice tx x none (some hi) none, ty, pos, aft, none⟩ :: rest) ρ s.w := by
  obtain ⟨h0, h1, xs, ho, hg, hr⟩ := h
  obtain ⟨k, p, hz, hp, rfl⟩ := hhi
  obtain ⟨j, rfl⟩ : ∃ j : Nat, p = j := ⟨p.toNat, by omega⟩
  simp only [Int.toNat_natCast] at hj hK
  obtain ⟨ho1, ho | ⟨g, cap, cur, rfl, hb, hh, hcap, hmx, hsz, htk⟩⟩ := ho
  · obtain ⟨rfl, hn⟩ := ho
    have hj0 : j = 0 := by omega
    subst hj0
    have hds : ds = [] := List.eq_nil_of_length_eq_zero hn
    subst hds
    refine .val rfl rfl hd (v := .slice none 0 0) (w' := s.w) (fun η ha => ?_) (hK _ ⟨h0, h1, [], World.ownsRow_nil _ _ _ _, fun g hg => by simp [Value.ownBlock] at hg, RCs.nil⟩)
    simp [execOp, ha.ev hx, ha.ev hz, Instr.sliceAt, Instr.slice, Instr.sliceBounds, Instr.sliceBound, asIntOf, run_underlying hT, run_sizeOf hs]
  · refine .val rfl rfl hd (v := .slice (some ⟨g, 0, none⟩) j cap) (w' := s.w) (fun η ha => ?_) (hK _ ⟨h0, h1, xs.take (j * w0), ⟨?_, .inr ⟨g, cap, cur, ?_, hb, hh, by rw [List.length_take]; omega, hmx, hsz, ?_⟩⟩, fun g' hg' => hg g' (by simpa [Value.ownBlock] using hg'), ?_⟩)
    · have : (if cap = 0 then some (⟨g, 0, none⟩ : Addr) else some ((⟨g, 0, none⟩ : Addr).add 0)) = some ⟨g, 0, none⟩ := by
        split <;> simp [Addr.add]
      have e1 : ¬ ((j : Int) < 0) := by omega
      have e2 : ¬ ((cap : Int) < (j : Int)) := by omega
      simp [execOp, ha.ev hx, ha.ev hz, Instr.sliceAt, Instr.slice, Instr.sliceBounds, Instr.sliceBound, asIntOf, run_underlying hT, run_sizeOf hs, this, e1, e2, show j ≤ cap by omega]
    · rw [List.length_take, List.length_take, ho1, Nat.min_eq_left (Nat.mul_le_mul_right _ hj), Nat.min_eq_left hj]
    · rw [List.length_take, Nat.min_eq_left hj]
    · rw [← htk, List.take_take, List.length_take, Nat.min_eq_left hj, Nat.min_eq_left (Nat.mul_le_mul_right _ hj)]
    · refine ⟨by rw [List.length_take, List.length_take, hr.1, Nat.min_eq_left (Nat.mul_le_mul_right _ hj), Nat.min_eq_left hj], fun i hi => ?_⟩
      have hi' : i < j := by simp at hi; omega
      have h2 := hr.2 i (by omega)
      have e : ((xs.take (j * w0)).drop (i * w0)).take w0 = (xs.drop (i * w0)).take w0 := by
        rw [List.drop_take, List.take_take]
        congr 1
        have : i * w0 + w0 ≤ j * w0 := by rw [← Nat.succ_mul]; exact Nat.mul_le_mul_right _ hi'
        omega
      rw [e, List.getElem_take]
      exact h2
end
theorem Own.ix {s : St} {l : Lab} {v : Value} {w : Nat} {ds : List D} {dd : D} {e' : TypeId} {i : Nat} (h : Own s l e' w v ds) (hdd : ds[i]? = some dd) : ∃ b cap, v = .slice (some ⟨b, 0, none⟩) ds.length cap ∧ At s l (.pointer (some ⟨b, i * w, none⟩)) dd ∧ Elt w v i (.pointer (some ⟨b, i * w, none⟩)) := by
  have hsl := h.sl
  obtain ⟨b, off, cap, e1, ha⟩ := hsl.at hdd
  obtain ⟨h0', h1', xs, ho, hg, hr⟩ := h
  have hoff : off = 0 := by
    rcases ho.2 with ⟨rfl, hn⟩ | ⟨g, cap', cur, rfl, _⟩
    · simp at e1
    · injection e1 with e1 _; injection e1 with e1; injection e1 with _ e2; exact e2.symm
  subst hoff
  refine ⟨b, cap, e1, by simpa using ha, ⟨b, _, _, e1, rfl⟩⟩
section
variable {P : Program} {n : Nat} {Df : Md} {ops : Array Oper} {K : Lab → Prop} {Fin : Env → St → Prop} {r r2 : PT} {i : Nat} {ρ : Env} {s : St}
variable {d j : Nat} {ty : TypeId} {pos : String} {aft : Array Edge} {x y : Operand} {tx : TypeId} {g : Option (Nat × Bool)}
theorem rt_ix_own {l : Lab} {v : Value} {w : Nat} {ds : List D} {dd : D} {e e' : TypeId} {k : IntKind} {p : Int}
    (ho : ops[i]? = some ⟨some d, .indexAddr tx x y, ty, pos, aft, g⟩) (hg : Wanted P n Df ops (rst ρ ((⟨some d, .indexAddr tx x y, ty, pos, aft, g⟩ : Oper).looksAt ops)) ⟨some d, .indexAddr tx x y, ty, pos, aft, g⟩)
    (hT : P.underlying tx = some (.slice e)) (hs : sizeT P e w = true) (hx : ev (rst ρ ((⟨some d, .indexAddr tx x y, ty, pos, aft, g⟩ : Oper).looksAt ops)) x = some v) (hy : ev (rst ρ ((⟨some d, .indexAddr tx x y, ty, pos, aft, g⟩ : Oper).looksAt ops)) y = some (.int k p)) (h : Own s l e' w v ds)
    (h0 : 0 ≤ p) (hdd : ds[p.toNat]? = some dd) (hd : Nat.blt d n = true) (hr : ∀ q, At s l q dd → Elt w v p.toNat q → RT P n Df ops K Fin r ((d, q) :: ρ) s) : RT P n Df ops K Fin (.read i r) ρ s := by
  obtain ⟨b, cap, rfl, ha, hel⟩ := h.ix hdd
  have hlt : p.toNat < ds.length := (List.getElem?_eq_some_iff.1 hdd).1
  refine rt_read _ ho rfl (fun s' st => hg _ _ (k_ixaddrP hT hs hx hy h0 (show p < (ds.length : Int) by omega) hd ?_)) (hr _ ha hel)
  rw [Nat.zero_add]
  exact fq_end
end
theorem subl_take {α : Type} {l m : List α} {b : Int} (h : subl l 0 b = some m) : m = l.take b.toNat := by
  have := (subl_out h).2.2.2
  simpa using this
end Go.Fw

set_option linter.unusedSimpArgs false
set_option linter.unusedVariables false
namespace Go.Fw
/-! a number's decimal digits, by a count: so that the kernel runs it -/
def decF : Nat → Nat → List UInt8
  | 0, _ => []
  | f + 1, u => if u < 10 then [UInt8.ofNat (48 + u)] else decF f (u / 10) ++ [UInt8.ofNat (48 + u % 10)]
def itoaF (n : Int) : List UInt8 := if n < 0 then 45 :: decF 30 n.natAbs else decF 30 n.toNat
end Go.Fw

set_option linter.unusedSimpArgs false
set_option linter.unusedVariables false
namespace Go.Fw
/-! rows of numbers, of texts, at a block's end -/
abbrev cB (x : UInt8) : Value := .int .u8 (x.toNat : Int)
abbrev cU (x : UInt32) : Value := .int .u32 (x.toNat : Int)
abbrev cW (x : UInt64) : Value := .int .u64 (x.toNat : Int)
theorem ones.arrF {α : Type} {f : α → Value} {pre : List Value} (xs : List α) (hf : ∀ x, (f x).oneCell' = true) (h : pre.all Value.oneCell' = true) : (pre ++ xs.map f).all Value.oneCell' = true := by
  rw [List.all_append, h, Bool.true_and]
  induction xs with
  | nil => rfl
  | cons x xs ih => rw [List.map_cons, List.all_cons, ih, hf]; rfl
section
variable {P : Program} {n : Nat} {Df : Md} {ops : Array Oper} {Q : Post} {rest : List Oper} {ρ : Env} {s : St} {w0 : World}
variable {d : Nat} {ty : TypeId} {pos : String} {aft : Array Edge} {x y z : Operand} {tx tyy : TypeId} {α : Type}
theorem k_ixarr {t e q m b : Nat} {k : IntKind} {p : Int} {xs : List α} {zz : α} (hT : arrT P t e q 1) (hx : ev ρ x = some (.pointer (some ⟨b, m, none⟩))) (hy : ev ρ y = some (.int k p)) (hl : xs.length = q) (hg : geti xs p = some zz) (hd : Nat.blt d n = true)
    (hK : KL P n Df ops Q rest ((d, .pointer (some ⟨b, m + p.toNat, none⟩)) :: ρ) w0) : KL P n Df ops Q (⟨some d, .indexAddr t x y, ty, pos, aft, none⟩ :: rest) ρ w0 := by
  obtain ⟨h0, h1, h2⟩ := geti_out hg
  refine k_ixaddr_arr hT hx hy h0 (by omega) hd ?_
  rw [Nat.mul_one]; exact hK
theorem k_load_el {b m : Nat} {p : Int} {zz : α} (f : α → Value) {pre : List Value} {xs : List α} {l : Lab} {T : TypeId} (hT : oneT P tx = true) (hx : ev ρ x = some (.pointer (some ⟨b, m + p.toNat, none⟩))) (hb : Blk s b l (pre ++ xs.map f) T) (hm : pre.length = m) (hg : geti xs p = some zz) (hd : Nat.blt d n = true)
    (hK : KL P n Df ops Q rest ((d, f zz) :: ρ) s.w) : KL P n Df ops Q (⟨some d, .load tx x, ty, pos, aft, none⟩ :: rest) ρ s.w := by
  obtain ⟨h0, h1, h2⟩ := geti_out hg
  refine k_load_blk hT hx hb ?_ hd hK
  rw [List.getElem?_append_right (by omega), List.getElem?_map, hm, show m + p.toNat - m = p.toNat by omega, h2]
  rfl
theorem k_store_el {b m : Nat} {p : Int} {zz v : α} (f : α → Value) (hf : ∀ x, (f x).oneCell' = true) {pre : List Value} {xs : List α} {l : Lab} {T : TypeId} (hT : sizeT P tx 1 = true) (hx : ev ρ x = some (.pointer (some ⟨b, m + p.toNat, none⟩))) (hy : ev ρ y = some (f v)) (hb : Blk s b l (pre ++ xs.map f) T) (hl0 : l.o ≠ 0) (hm : pre.length = m) (hg : geti xs p = some zz)
    (hK : ∀ s', Step (KC l.o l.c) s s' → Blk s' b l (pre ++ (xs.set p.toNat v).map f) T → KL P n Df ops Q rest ρ s'.w) :
    KL P n Df ops Q (⟨none, .store tx x y, ty, pos, aft, none⟩ :: rest) ρ s.w := by
  obtain ⟨h0, h1, h2⟩ := geti_out hg
  have hlen : (pre ++ xs.map f).length = m + xs.length := by rw [List.length_append, List.length_map, hm]
  have e : (pre ++ xs.map f).take (m + p.toNat) ++ [f v] ++ (pre ++ xs.map f).drop (m + p.toNat + 1) = pre ++ (xs.set p.toNat v).map f := by
    generalize p.toNat = j at h2
    subst hm
    have hj : j < xs.length := (List.getElem?_eq_some_iff.1 h2).1
    rw [List.take_append, List.drop_append, List.take_of_length_le (by omega), List.drop_eq_nil_of_le (by omega), List.nil_append]
    rw [List.set_eq_take_append_cons_drop, if_pos hj]
    simp [List.map_take, List.map_drop, Nat.add_assoc]
  have hble : Nat.ble (m + p.toNat + 1) (pre ++ xs.map f).length = true := by simp only [Nat.ble_eq, hlen]; omega
  refine k_store_c (cs' := pre ++ (xs.set p.toNat v).map f) hT hx hy hb hl0 (CellsOf.lit (vs := [f v]) ?_ ?_) rfl hble e hK
  · exact cells1 (hf v)
  · simp [hf]
end
end Go.Fw

set_option linter.unusedSimpArgs false
set_option linter.unusedVariables false
namespace Go.Fw
/-! Rows of one's own whose cells are known one by one. -/
section
variable {P : Program} {n : Nat} {Df : Md} {ops : Array Oper} {Q : Post} {rest : List Oper} {ρ : Env} {s : St} {w0 : World}
variable {d : Nat} {ty : TypeId} {pos : String} {aft : Array Edge} {x y z : Operand} {tx tyy : TypeId}
/-- A row in the block g: all its cells. -/
structure RB (s : St) (g : Nat) (l : Lab) (e : TypeId) (cur : List Value) : Prop where
  heap : s.w.heap[g]? = some (.cells cur.toArray e (0, 0))
  lab : s.g g = l
theorem RB.up2 {K : Lab → Prop} {s s' : St} {g : Nat} {l : Lab} {e : TypeId} {cur : List Value} (h : RB s g l e cur) (st : Step K s s') (hk : ¬ K l := by first | exact id | (simp only [KU, KN, KC, KO, K0, KB] <;> omega)) : RB s' g l e cur := by
  have hlt : g < s.n := (Array.getElem?_eq_some_iff.1 h.heap).1
  obtain ⟨e1, e2⟩ := st.keep g hlt (by rw [h.lab]; exact hk)
  exact ⟨e1.trans h.heap, e2.trans h.lab⟩
theorem RB.cell {s : St} {g : Nat} {l : Lab} {e : TypeId} {cur : List Value} (h : RB s g l e cur) (i : Nat) : s.w.cell? ⟨g, i, none⟩ = cur[i]? := by
  simp [World.cell?, h.heap]
theorem RB.same {s s' : St} {g : Nat} {l : Lab} {e : TypeId} {cur : List Value} (h : RB s g l e cur) (h' : s'.w.heap[g]? = s.w.heap[g]? ∧ s'.g g = s.g g) : RB s' g l e cur := ⟨h'.1.trans h.heap, h'.2.trans h.lab⟩
end
end Go.Fw
namespace Go.Fw
section
variable {P : Program} {n : Nat} {Df : Md} {ops : Array Oper} {Q : Post} {rest : List Oper} {ρ : Env} {s : St} {w0 : World}
variable {d : Nat} {ty : TypeId} {pos : String} {aft : Array Edge} {x y z : Operand} {tx tyy : TypeId}
end
end Go.Fw
namespace Go.Fw
section
variable {P : Program} {n : Nat} {Df : Md} {ops : Array Oper} {Q : Post} {rest : List Oper} {ρ : Env} {s : St} {w0 : World}
variable {d : Nat} {ty : TypeId} {pos : String} {aft : Array Edge} {x y z : Operand} {tx tyy : TypeId}
end
end Go.Fw
namespace Go.Fw
section
variable {P : Program} {n : Nat} {Df : Md} {ops : Array Oper} {Q : Post} {rest : List Oper} {ρ : Env} {s : St} {w0 : World}
variable {d : Nat} {ty : TypeId} {pos : String} {aft : Array Edge} {x y z : Operand} {tx tyy : TypeId}
/-- A package's variable that nobody writes. -/
def GlobS (P : Program) (s : St) (name : String) (cs : Array Value) : Prop := s.w.var? P name = some cs ∧ ∃ g, P.globalNamed name = some g ∧ g < s.n ∧ s.g g = L0
theorem GlobS.up2 {K : Lab → Prop} {s s' : St} {name : String} {cs : Array Value} (h : GlobS P s name cs) (st : Step K s s') : GlobS P s' name cs := by
  obtain ⟨h1, g, h2, h3, h4⟩ := h
  obtain ⟨e1, e2⟩ := st.keep g h3 (by rw [h4]; exact st.imm 0)
  refine ⟨?_, g, h2, Nat.lt_of_lt_of_le h3 st.size, e2.trans h4⟩
  rw [← h1]
  simp only [World.var?, h2, Option.bind_some, e1]
end
end Go.Fw
namespace Go.Fw
theorem geti_mne {α : Type} {f : α → D} {l : List α} {i : Int} {x : α} (h : geti l i = some x) : l.map f ≠ [] := by
  intro e
  have := (geti_out h).2.1
  have h2 : l.length = 0 := by rw [← List.length_map (f := f), e]; rfl
  have h3 := (geti_out h).1
  omega
end Go.Fw

set_option linter.unusedSimpArgs false
set_option linter.unusedVariables false
namespace Go.Fw
/-! errors of the library's, of which only is asked whether they are -/
/-- An error value: one, or none. -/
def ErrR (v : Value) (b : Bool) : Prop := (b = false → v = .nilIface) ∧ (b = true → ∃ t u, v = .iface t u)
theorem ErrR.nil : ErrR .nilIface false := ⟨fun _ => rfl, fun h => (by cases h)⟩
theorem ErrR.mk (t : TypeId) (u : Value) : ErrR (.iface t u) true := ⟨fun h => (by cases h), fun _ => ⟨t, u, rfl⟩⟩
/-- A package's variable that holds an error, which nobody writes. -/
def Ev (s : St) (g : Nat) : Prop := g < s.n ∧ s.g g = L0 ∧ ∃ ev, s.w.cell? ⟨g, 0, none⟩ = some ev ∧ (ev = .nilIface ∨ ∃ te pe, ev = .iface te pe)
theorem Ev.up2 {K : Lab → Prop} {s s' : St} {g : Nat} (h : Ev s g) (st : Step K s s') : Ev s' g := by
  obtain ⟨h1, h2, ev, h3, h4⟩ := h
  have hk : ¬ K (s.g g) := by rw [h2]; exact st.imm 0
  exact ⟨Nat.lt_of_lt_of_le h1 st.size, (st.keep g h1 hk).2.trans h2, ev, (st.cell h1 hk 0).trans h3, h4⟩
def ifcT (P : Program) (t : TypeId) : Prop := P.underlying t = some (.interface (P.methodsAt t))
section
variable {P : Program} {n : Nat} {Df : Md} {ops : Array Oper} {Q : Post} {rest : List Oper} {ρ : Env} {s : St} {w0 : World}
variable {d : Nat} {ty : TypeId} {pos : String} {aft : Array Edge} {x y z : Operand} {tx tyy : TypeId} {α : Type}
end
/-- What formatBase10 leaves of a whole row whose beginning it was handed: the digits. -/
theorem app_ne {α : Type} {lim : Nat} {l m r : List α} (h : app lim l m = some r) (hm : m ≠ []) : r ≠ [] := by
  rw [(app_out h).2]; simp [hm]
end Go.Fw

set_option linter.unusedSimpArgs false
set_option linter.unusedVariables false
namespace Go.Fw
end Go.Fw

set_option linter.unusedSimpArgs false
set_option linter.unusedVariables false
namespace Go
namespace Fw
section
variable {P : Program} {n : Nat} {Df : Md} {F : Post} {k : List It} {ρ : Env} {w : World}
end
end Fw
end Go

set_option linter.unusedSimpArgs false
set_option linter.unusedVariables false
namespace Go.Fw
/-! a range over a function that writes to what it holds; a return out of a round; results in variables -/
structure YielderW (P : Program) (n0 l : Nat) {X A : Type} (enc : St → A → List Value → Prop) (c : X → A → Option (Bool × X)) (I : X → St → Prop) (Ky Kw : Lab → Prop) : Prop where
  up : ∀ x s1 s2 K, I x s1 → Step K s1 s2 → (∀ lab, K lab → n0 < lab.o ∨ Kw lab) → I x s2
  yield : ∀ x y r s1 vs, n0 ≤ s1.n → I x s1 → enc s1 y vs → c x y = some r → Yields P l vs s1.w (Ret s1 (KB n0 Ky) (fun s2 v => v = .bool r.1 ∧ I r.2 s2))
def ConsW {X : Type} (I : X → St → Prop) (n0 : Nat) (Kw : Lab → Prop) (s : St) (x : X) : Prop := I x s ∧ n0 ≤ s.n ∧ (∀ x s1 s2 K, I x s1 → Step K s1 s2 → (∀ lab, K lab → n0 < lab.o ∨ Kw lab) → I x s2)
theorem ConsW.up2 {X : Type} {I : X → St → Prop} {n0 : Nat} {Kw K : Lab → Prop} {s s' : St} {x : X} (h : ConsW I n0 Kw s x) (st : Step K s s') (hk : ∀ lab, K lab → n0 < lab.o ∨ Kw lab := by intro lab h; first | exact h.elim | exact .inr h | exact .inl (by simp only [KU, KN, KC, KO, K0, KB] at h; omega) | (simp only [KU, KN, KC, KO, K0, KB] at h ⊢; omega)) : ConsW I n0 Kw s' x :=
  ⟨h.2.2 x s s' K h.1 st hk, Nat.le_trans h.2.1 st.size, h.2.2⟩
theorem ConsW.of {P : Program} {l : Nat} {X A : Type} {enc : St → A → List Value → Prop} {c : X → A → Option (Bool × X)} {I : X → St → Prop} {Ky Kw : Lab → Prop} {n0 : Nat} {s : St} {x : X} (hY : YielderW P n0 l enc c I Ky Kw) (h : I x s) (hn : n0 ≤ s.n) : ConsW I n0 Kw s x := ⟨h, hn, hY.up⟩
/-- What a round's body must come to. -/
def RoundFW {X : Type} (l id : Nat) (rec : Loop) (Kb : Lab → Prop) (I : X → St → Prop) (rf : X → Bool) (s1 : St) (r : Bool × X) : Post
  | .normal, _, w => r.1 = true ∧ ∃ s2 : St, s2.w = w ∧ Step (KU (KC (l + 1) 0) Kb) s1 s2 ∧ LoopR s2 l { rec with state := .busy } ∧ I r.2 s2
  | .exit i, _, w => i = id ∧ r.1 = false ∧ rf r.2 = false ∧ ∃ s2 : St, s2.w = w ∧ Step (KU (KC (l + 1) 0) Kb) s1 s2 ∧ LoopR s2 l { rec with state := .busy } ∧ I r.2 s2
  | .ret, _, w => r.1 = false ∧ rf r.2 = true ∧ ∃ s2 : St, s2.w = w ∧ Step (KU (KC (l + 1) 0) Kb) s1 s2 ∧ LoopR s2 l { rec with state := .busy } ∧ I r.2 s2
  | _, _, _ => False
section
variable {P : Program} {n : Nat} {ρ : Env} {s : St} {X A : Type}
theorem rk_rangeW {bi : Nat} {g : Operand} {ps : List Nat} {assign body : Code} {k : List Code} {df : List Deferred} {W : Exit → Act → World → Prop} {gf : FuncId} {caps : List Value}
    (enc : St → A → List Value → Prop) (c : X → A → Option (Bool × X)) (I : X → St → Prop) (Kb Kw : Lab → Prop) (rf : X → Bool)
    (hg : ev ρ g = some (.func (.func gf) #[] caps.toArray)) (hcal : Callable P gf) (hps : ∀ s y vs, enc s y vs → vs.length = ps.length) (hpl : ∀ p ∈ ps, p < n)
    (hKb : ∀ lab, Kb lab → lab.o ≠ 0 ∧ lab.o ≤ s.n) (hKw : ∀ lab, Kw lab → lab.o ≠ 0 ∧ lab.o ≤ s.n) (x0 : X) (x1 : Bool × X) (hI0 : I x0 s)
    (hup : ∀ x s1 s2 K, I x s1 → Step K s1 s2 → (∀ lab, K lab → s.n < lab.o ∨ Kw lab) → I x s2)
    (hround : ∀ (l : Nat) (rec : Loop) (s1 : St) (x : X) (y : A) (vs : List Value) (r : Bool × X), s.n < l → l < s1.n → rec.state = .ready → I x s1 → LoopR s1 l rec → enc s1 y vs → c x y = some r →
      G P n ⟨[], some l⟩ NoF [.code assign, .stop (fun ρ' w' => Begin P n l (RoundFW l bi rec Kb I rf s1 r) body ρ' w')] (envZ ρ ps vs) s1.w)
    (hcall : ∀ (l : Nat) (s1 : St) (I' : Bool × X → St → Prop) (Ky : Lab → Prop), Step K0 s s1 → s.n < l → l < s1.n → (∀ lab, Ky lab → lab.o ≤ s.n ∨ lab.o = l + 1) → (∀ lab, Ky lab → lab = ⟨l + 1, 0⟩ ∨ Kb lab) → YielderW P s1.n l enc (stopC c) I' Ky Kw → I' (false, x0) s1 →
      Calls P gf (.func (.yield l) #[] #[] :: caps).toArray s1.w (Ret s1 (KU (KB s1.n Ky) Kw) (fun s2 v => v = .tuple #[] ∧ I' x1 s2)))
    (hnext : ∀ (D : Nat) (s2 : St), Step (KU Kb Kw) s s2 → I x1.2 s2 → Mark s2 D → s.n ≤ D → (¬ (x1.1 = true ∧ rf x1.2 = true) → RAWK P n ⟨⟨.collected D, #[]⟩ :: df, none⟩ W k ρ s2.w) ∧ ((x1.1 = true ∧ rf x1.2 = true) → RawF n ⟨⟨.collected D, #[]⟩ :: df, none⟩ W .ret ρ s2.w)) :
    RAWK P n ⟨df, none⟩ W (.block bi (.rangeFunc g ps.toArray assign body) :: k) ρ s.w := by
  intro a ha
  refine wpIn_block (wpIn_rangeFunc ?_)
  intro fn hfn
  obtain ⟨fnr, hf1, hf2, hf3⟩ := hcal
  have hKb0 : ∀ c, ¬ KU Kb Kw ⟨0, c⟩ := fun c hc => by rcases hc with hc | hc; exact (hKb _ hc).1 rfl; exact (hKw _ hc).1 rfl
  -- the two blocks
  obtain ⟨rec, hrec⟩ : ∃ rec : LoopState → Option Code → Loop, rec = fun st pe => { state := st, pending := pe, fn := fn, tmps := a.tmps, params := ps.toArray, assign := assign, body := body, defers := s.w.heap.size } := ⟨_, rfl⟩
  let sa : St := s.to (s.w.alloc (.deferred (some []))) ⟨s.n + 1, 0⟩ (Nat.le_refl _)
  have sta : Step K0 s sa := St.to_alloc
  let sb : St := sa.to (sa.w.alloc (.loop (rec .ready none))) ⟨sa.n + 1, 0⟩ (Nat.le_refl _)
  have stb : Step K0 sa sb := St.to_alloc
  have na : sa.n = s.n + 1 := by show (s.w.alloc _).heap.size = _; simp
  have nb : sb.n = s.n + 2 := by show (sa.w.alloc _).heap.size = _; rw [World.size_alloc]; exact congrArg (· + 1) na
  have hMa : Mark sa s.n := ⟨by omega, St.to_g_new (Nat.le_refl _), World.alloc_heap_new _ _⟩
  have hM : Mark sb s.n := hMa.up2 stb id
  have hL : LoopR sb sa.n (rec .ready none) := ⟨by omega, St.to_g_new (Nat.le_refl _), World.alloc_heap_new _ _⟩
  rw [na] at hL
  have hsb : Step K0 s sb := sta.trans0 stb
  -- the state of who is told
  let I' : Bool × X → St → Prop := fun x sl => I x.2 sl ∧ LoopR sl (s.n + 1) (rec (if x.1 = true then .done else .ready) (if x.1 = true then some (if rf x.2 = true then .ret else .exit bi) else none)) ∧ Mark sl s.n
  let Ky : Lab → Prop := KU (KC (s.n + 1 + 1) 0) Kb
  have hcl := hcall (s.n + 1) sb I' Ky hsb (by omega) (by omega)
    (fun lab h => by rcases h with h | h; exact .inr h.1; exact .inl (hKb _ h).2) (fun lab h => by rcases h with h | h; exact .inl (by cases lab; obtain ⟨h1, h2⟩ := h; simp_all); exact .inr h) ?_ ⟨hup _ _ _ _ hI0 hsb (fun _ h => h.elim), hL, hM⟩
  · refine ⟨s.n + 1, [{ target := .collected s.n, args := #[] }], sb.w, { target := .fn (.func gf) caps.toArray, args := #[.func (.yield (s.n + 1)) #[] #[]] }, sb.w, gf, (.func (.yield (s.n + 1)) #[] #[] :: caps).toArray, sb.w, ?_, ?_, fun _ _ => trivial, ?_, fun h => absurd h (by simp), calls_in (hcl.mono ?_)⟩
    · have := run_enterLoop_outer (P := P) (w := s.w) fn a.tmps ps.toArray assign body
      show _ = Result.ok (s.w.heap.size + 1, _) ((s.w.alloc _).alloc (.loop (rec .ready none)))
      rw [hrec]
      exact this
    · have := ha.ev hg
      simp only [resolve, this, Deferred.ofValue]
      simp [go_sem]
    · have h2' : ¬ fnr.name = "runtime.NumGoroutine" := by intro e; rw [e] at hf2; simp at hf2
      have h3' : ¬ fnr.body = none := by intro e; rw [e] at hf3; simp at hf3
      simp [invoke, callFunc, hf1, h2', h3', program, Sem.run, go_sem]
    · rintro e w' ⟨s2, v, rfl, rfl, st, _, hI2, hL2, hM2⟩
      obtain ⟨s3, e3, st3, hL3⟩ := LoopR.put (r' := { rec (if x1.1 = true then .done else .ready) (if x1.1 = true then some (if rf x1.2 = true then .ret else .exit bi) else none) with state := .exhausted }) hL2
      have hst : Step (KU Kb Kw) s s3 := by
        refine ((hsb.of0 hKb0).trans st (fun i hi hk => ?_)).trans st3 (fun i hi hk => ?_)
        · have hw := s.wf i
          rcases hk with hk | hk
          · rcases hk.1 with h | h
            · have := h.1; omega
            · exact .inl h
          · exact .inr hk
        · have hw := s.wf i
          have := hk.1; omega
      have hfin := hnext s.n s3 hst (hup _ _ _ _ hI2 st3 (fun lab h => .inl (by have := h.1; omega))) (hM2.up2 st3 (fun h => by have : s.n + 1 = s.n + 1 + 1 := h.1; omega)) (Nat.le_refl _)
      have hag : Ag n ⟨⟨.collected s.n, #[]⟩ :: df, none⟩ ρ { a with defers := [{ target := .collected s.n, args := #[] }] ++ a.defers } := ⟨ha.size, ha.get, by show _ :: _ = _; exact congrArg (_ :: ·) ha.defers⟩
      have hfin1 := fun hq => hfin.1 hq _ hag
      have hfin2 := fun hq => hfin.2 hq _ hag
      refine ⟨_, s3.w, by rw [e3]; exact run_endLoop hL2.2.2 (by rw [hrec]; simp only; split <;> simp), ?_⟩
      rw [hrec]
      simp only
      by_cases hb : x1.1 = true
      · simp only [hb, if_true]
        by_cases hr : rf x1.2 = true
        · simp only [hr, if_true]
          refine wpIn_ret ?_
          exact hfin2 ⟨hb, hr⟩
        · simp only [hr, if_false]
          refine wpIn_exit ?_
          simp only [Exit.inBlock, if_true]
          exact hfin1 (fun h => hr h.2)
      · simp only [hb, if_false]
        exact hfin1 (fun h => hb h.1)
  · -- one round
    refine ⟨?_, ?_⟩
    · rintro x t1 t2 K ⟨h1, h2, h3⟩ st hK
      exact ⟨hup _ _ _ _ h1 st (fun lab h => (hK _ h).imp (fun h => by omega) id), h2.up2 st (fun h => by rcases hK _ h with h | h; (simp at h; omega); (have := (hKw _ h).2; simp at this; omega)), h3.up2 st (fun h => by rcases hK _ h with h | h; (simp at h; omega); (have := (hKw _ h).2; simp at this; omega))⟩
    · rintro ⟨b, x⟩ y r t1 vs hn ⟨h1, h2, h3⟩ hy hc
      unfold stopC at hc
      cases b with
      | true => simp at hc
      | false =>
        have h1 : I x t1 := h1
        have h2 : LoopR t1 (s.n + 1) (rec .ready none) := h2
        simp only [Bool.false_eq_true, if_false] at hc
        obtain ⟨r0, hc0, rfl⟩ := Option.map_eq_some_iff.1 hc
        have hr := hround (s.n + 1) (rec .ready none) t1 x y vs r0 (by omega) (by omega) (by rw [hrec]) h1 h2 hy hc0
        have hyr := run_yield (P := P) (args := vs.toArray) h2.2.2 (by rw [hrec]; simpa using hps _ _ _ hy)
        refine ⟨_, _, _, _, hyr, roundIn_of_wpIn trivial ?_⟩
        have e1 : (rec .ready none).params = ps.toArray := by rw [hrec]
        have e2 : (rec .ready none).tmps = a.tmps := by rw [hrec]
        have e3 : (rec .ready none).assign = assign := by rw [hrec]
        have e4 : (rec .ready none).body = body := by rw [hrec]
        rw [e1, e2, e3, e4]
        have hag : Ag n ⟨[], some (s.n + 1)⟩ (envZ ρ ps vs) { tmps := (ps.toArray.zip vs.toArray).foldl (fun t (x : Nat × Value) => t.setIfInBounds x.1 x.2) a.tmps, defers := [] } := by
          rw [zip_arr]
          exact Ag.envZ (Df := ⟨[], some (s.n + 1)⟩) ⟨ha.size, ha.get, rfl⟩ hpl
        refine wpIn_mono (hr _ hag) ?_
        rintro e a' w' ⟨ρ', hag', hq⟩
        cases e with
        | normal =>
          obtain ⟨w2, hb1, hb2⟩ := hq
          refine ⟨w2, hb1, wpIn_mono (hb2 a' hag') ?_⟩
          have fin : ∀ (jump : Option Code) (u : St), Step (KU (KC (s.n + 1 + 1) 0) Kb) t1 u → LoopR u (s.n + 1) { rec .ready none with state := .busy } → I r0.2 u → jump.isNone = r0.1 → jump = (if (!r0.1) = true then some (if rf r0.2 = true then .ret else .exit bi) else none) →
              ∃ v w', (Instr.endRound (s.n + 1) jump).run P u.w = .ok v w' ∧ Ret t1 (KB sb.n Ky) (fun s2 v => v = .bool r0.1 ∧ I' (!r0.1, r0.2) s2) (.returned v) w' := by
            intro jump u st hLu hIu hj hj2
            obtain ⟨u2, e5, st5, hL5⟩ := LoopR.put (r' := { rec .ready none with state := if jump.isNone then .ready else .done, pending := jump }) hLu
            refine ⟨_, _, run_endRound jump hLu.2.2, u2, .bool jump.isNone, ?_, rfl, ?_, by rw [hj], hup _ _ _ _ hIu st5 (fun lab h => .inl (by have := h.1; omega)), ?_, ?_⟩
            · rw [e5]
            · have hst : Step (KU (KC (s.n + 1 + 1) 0) Kb) t1 u2 := st.trans st5 (fun i _ hk => .inl hk)
              exact hst.mono (fun lab h => ⟨h, by rcases h with h | h; have := h.1; omega; exact (hKb _ h).1, by rcases h with h | h; have := h.1; omega; have := (hKb _ h).2; omega⟩) (fun c h => h.2.1 rfl)
            · have e6 : { rec .ready none with state := if jump.isNone then LoopState.ready else .done, pending := jump } = rec (if (!r0.1) = true then .done else .ready) (if (!r0.1) = true then some (if rf r0.2 = true then .ret else .exit bi) else none) := by
                rw [hrec, ← hj2, hj]; cases r0.1 <;> rfl
              rw [← e6]; exact hL5
            · exact (h3.up2 st (fun h => by rcases h with h | h; (have : s.n + 1 = s.n + 1 + 1 := h.1; omega); (have := (hKb _ h).2; simp at this; omega))).up2 st5 (fun h => by have : s.n + 1 = s.n + 1 + 1 := h.1; omega)
          rintro e2 a2 w3 ⟨ρ2, hag2, hq2⟩
          cases e2 with
          | normal =>
            obtain ⟨q1, u, rfl, q2, q3, q4⟩ := hq2
            exact fin none u q2 q3 q4 (by rw [q1]; rfl) (by rw [q1]; rfl)
          | exit i =>
            obtain ⟨q0, q1, qr, u, rfl, q2, q3, q4⟩ := hq2
            subst q0
            exact fin (some (.exit i)) u q2 q3 q4 (by rw [q1]; rfl) (by rw [q1, qr]; rfl)
          | ret =>
            obtain ⟨q1, qr, u, rfl, q2, q3, q4⟩ := hq2
            exact fin (some .ret) u q2 q3 q4 (by rw [q1]; rfl) (by rw [q1, qr]; rfl)
          | goto l => exact hq2.elim
          | panic ch => exact hq2.elim
          | outgrown => exact hq2.elim
        | exit i => exact hq.elim
        | goto l => exact hq.elim
        | ret => exact hq.elim
        | panic ch => exact hq.elim
        | outgrown => exact hq.elim
end
section
variable {P : Program} {n : Nat} {ρ : Env} {s : St} {w : World} {fn : Func} {T : Ending → World → Prop}
theorem re_nil_c {rs : List ResultVar} (hr : fn.results = rs.toArray) (hl : Nat.ble rs.length 4 = true) (h : ∃ vs, resAll P ρ w rs vs ∧ T (.returned (one vs)) w) : RE P n fn T [] ρ w := by
  intro tmps h1 h2
  obtain ⟨vs, h3, h4⟩ := h
  have hag : Ag n M0 ρ { tmps := tmps, defers := [] } := ⟨h1, h2, rfl⟩
  exact ⟨one vs, results_c hag hr hl h3, h4⟩
end
end Go.Fw
