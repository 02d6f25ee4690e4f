import Derived.Test.YtepifllifhikiaaDoorFwR
import Derived.Carry
import Derived.OpenShut
import Derived.ChangeArms
import GoSem.ClaimDataLaid
import Derived.SizedLaws
set_option linter.unusedSimpArgs false
set_option linter.unusedVariables false
set_option linter.unnecessarySimpa false
namespace Go.Fw

/-- What an argument reads as, by its type. -/
inductive Typed (P : Program) : TypeId → D → Prop where
  | int {t : TypeId} {k : IntKind} {n : Int} (h : P.underlying t = some (.int k)) (hw : (Lit.int k n).wf = true) : Typed P t (.val (.int k n))
  | bool {t : TypeId} {b : Bool} (h : P.underlying t = some .bool) : Typed P t (.val (.bool b))
  | str {t : TypeId} {s : ByteArray} (h : P.underlying t = some .string) (hs : s.size ≤ reachBytes) : Typed P t (.val (.string s))
  | sl {t e : TypeId} {l : List D} (h : P.underlying t = some (.slice e)) (hl : l.length ≤ maxLen) (hb : l.length * P.bytesOf e ≤ reachBytes) (hd : ∀ d ∈ l, Typed P e d) : Typed P t (.sl (P.cellsOf e) l)
  | agg {t : TypeId} {fs : Array Field} {l : List D} (h : P.underlying t = some (.struct fs)) (hl : l.length = fs.size) (hd : ∀ (i : Nat) (f : Field) (d : D), fs[i]? = some f → l[i]? = some d → Typed P f.type d) : Typed P t (.agg l)
  | arr {t e : TypeId} {n : Nat} {l : List D} (h : P.underlying t = some (.array n e)) (hl : l.length = n) (hd : ∀ d ∈ l, Typed P e d) : Typed P t (.agg l)
  | nilp {t e : TypeId} (h : P.underlying t = some (.pointer e)) : Typed P t (.val (.pointer none))
  | ptr {t e : TypeId} {d : D} (h : P.underlying t = some (.pointer e)) (hd : Typed P e d) : Typed P t (.ptr d)
  | one {t : TypeId} {v : Value} (h1 : ∀ k, P.underlying t ≠ some (.int k)) (h2 : P.underlying t ≠ some .bool) (h3 : P.underlying t ≠ some .string) (h4 : ∀ e, P.underlying t ≠ some (.slice e)) (h5 : ∀ fs, P.underlying t ≠ some (.struct fs)) (h6 : ∀ n e, P.underlying t ≠ some (.array n e)) (h7 : ∀ e, P.underlying t ≠ some (.pointer e)) : Typed P t (.val v)

/-- The world as it is at the start: nobody writes what is there. -/
def St.init (w : World) : St := ⟨w, fun _ => L0, fun b => Nat.zero_le _⟩

/-- These types lead to no other ones; no slice, no pointer leads to what has no cell. -/
def closedB (P : Program) (ts : List TypeId) : Bool := ts.all fun t => isVar P t && match P.underlying t with
  | some (.slice e) => decide (0 < P.cellsOf e) && ts.contains e
  | some (.pointer e) => decide (0 < P.cellsOf e) && ts.contains e
  | some (.array _ e) => ts.contains e
  | some (.struct fs) => fs.toList.all fun f => ts.contains f.type
  | _ => true

theorem cells_of {w : World} {a : Addr} {n : Nat} {cs : List Value} (h : w.cells? 0 a n = some cs) : cs.length = n ∧ ∀ j, j < n → w.cell? (a.add j) = cs[j]? := by
  unfold World.cells? at h
  rw [if_pos (Nat.zero_le _)] at h
  have hl := mapM_some_length h
  refine ⟨by simpa using hl, fun j hj => ?_⟩
  exact mapM_some_get h j j (by simp [hj])

theorem len1 {α : Type} {l : List α} (h : l.length = 1) : ∃ x, l = [x] := by
  cases l with
  | nil => simp at h
  | cons a r => cases r with
    | nil => exact ⟨a, rfl⟩
    | cons b r => simp at h
theorem flat_cut (cs : List Value) : ∀ (ws : List Nat), cs.length = ws.sum → ((List.range ws.length).map fun i => (cs.drop (ws.take i).sum).take (ws.getD i 0)).flatten = cs := by
  intro ws
  induction ws generalizing cs with
  | nil => intro h; simp at h; simp [h]
  | cons w ws ih =>
    intro h
    rw [List.length_cons, List.range_succ_eq_map, List.map_cons, List.flatten_cons]
    have h2 := ih (cs.drop w) (by simp at h ⊢; omega)
    simp only [List.map_map, Function.comp_def, List.take_succ_cons, List.sum_cons, List.getD_cons_succ] at h2 ⊢
    simp only [List.drop_drop] at h2
    rw [h2]
    simp
theorem add_none (b off i : Nat) : (⟨b, off, none⟩ : Addr).add i = ⟨b, off + i, none⟩ := by unfold Addr.add; split <;> simp_all
theorem cell_lt {w : World} {a : Addr} {v : Value} (h : w.cell? a = some v) : a.block < w.heap.size := by
  rcases Nat.lt_or_ge a.block w.heap.size with h1 | h1
  · exact h1
  · unfold World.cell? at h
    rw [Array.getElem?_eq_none h1] at h
    split at h <;> simp_all

theorem wAll {H : Type} {P : Program} {e : TypeId} {q : Nat} {d : DataW H} : ∀ {l : List (DataW H)}, d ∈ l → q ∈ d.weights P e → q ∈ DataW.weightsAll P e l
  | d0 :: l, hd, hq => by
    simp only [DataW.weightsAll, List.mem_append]
    rcases List.mem_cons.1 hd with rfl | hd
    · exact .inl hq
    · exact .inr (wAll hd hq)
theorem open_D {H : Type} {enc : TypeId × Value → H} {P : Program} {w : World} {ts : List TypeId} (hl : laidOutB P = true) (hz : closedB P ts = true) : ∀ (fuel : Nat) (t : TypeId) (cs : List Value) (x : DataW H × List MemPlace), t ∈ ts →
    DataW.trod enc P w 0 (fun _ => true) true fuel t cs = some x → (∀ q ∈ x.1.weights P t, q ≤ reachBytes) → ∃ d, RC (St.init w) cs d ∧ Typed P t d := by
  intro fuel
  induction fuel with
  | zero => intro t cs x _ h _; simp [DataW.trod] at h
  | succ n ih =>
    intro t cs x hts h hB
    have hcl := List.all_eq_true.1 hz t hts
    simp only [Bool.and_eq_true] at hcl
    obtain ⟨hv, hcl⟩ := hcl
    have hv' := hv
    simp only [isVar, Bool.and_eq_true, decide_eq_true_eq] at hv'
    obtain ⟨hsz, hk⟩ := hv'
    have hrow : rowFine P t = true := by
      simp only [laidOutB, Bool.and_eq_true] at hl
      exact List.all_eq_true.1 hl.1.1 t (List.mem_range.2 hsz)
    simp only [rowFine, hv, Bool.not_true, Bool.false_or] at hrow
    cases hu : P.underlying t with
    | none => rw [hu] at hk; simp [kindOk] at hk
    | some td =>
      by_cases h1 : ∃ k, td = .int k
      · obtain ⟨k, rfl⟩ := h1
        obtain ⟨m, rfl, rfl, hw⟩ := DataW.trod_int hu h
        exact ⟨_, .val _ rfl, .int hu hw⟩
      by_cases h2 : td = .bool
      · subst h2
        obtain ⟨b, rfl, rfl⟩ := DataW.trod_bool hu h
        exact ⟨_, .val _ rfl, .bool hu⟩
      by_cases h3 : td = .string
      · subst h3
        obtain ⟨b, rfl, rfl, hs⟩ := DataW.trod_string hu h
        exact ⟨_, .val _ rfl, .str hu (by have := hB b.data.toList.length (by simp [DataW.weights]); simpa using this)⟩
      by_cases h4 : ∃ e, td = .slice e
      · obtain ⟨e, rfl⟩ := h4
        rw [hu] at hrow
        simp only [Bool.and_eq_true] at hrow
        rw [hu] at hcl
        simp only [Bool.and_eq_true, decide_eq_true_eq, List.contains_eq_mem] at hcl
        obtain ⟨hpos, hin⟩ := hcl
        rcases DataW.trod_slice hu h with ⟨rfl, _⟩ | ⟨a, len, cap, elems, rest, m, hm, rfl, rfl, _, hlc, hcm, hel, he, _⟩
        · exact ⟨.sl (P.cellsOf e) [], .nilsl _ _ _ (fun _ => rfl), .sl hu (Nat.zero_le _) (by simp) (by simp)⟩
        · cases hm
          have hB0 : (elems.length + rest.length) * P.bytesOf e ≤ reachBytes := hB _ (by simp [DataW.weights, hu])
          have hB1 : ∀ (y : DataW H × List MemPlace), y ∈ elems → ∀ q ∈ y.1.weights P e, q ≤ reachBytes := fun y hy q hq => hB q (by simp only [DataW.weights, hu]; exact List.mem_cons_of_mem _ (List.mem_append_left _ (wAll (List.mem_map.2 ⟨y, hy, rfl⟩) hq)))
          have hg : ∀ i, i < len → ∃ cs' d, (cs' : List Value).length = P.cellsOf e ∧ (∀ j, j < P.cellsOf e → w.cell? ((a.add (i * P.cellsOf e)).add j) = cs'[j]?) ∧ RC (St.init w) cs' d ∧ Typed P e d := by
            intro i hi
            have h5 := he i hi
            rw [List.getElem?_eq_getElem (show i < elems.length by omega), Option.bind_eq_some_iff] at h5
            obtain ⟨cs', h6, h7⟩ := h5
            obtain ⟨d, h8, h9⟩ := ih e cs' _ hin h7 (hB1 _ (List.getElem_mem _))
            obtain ⟨h10, h11⟩ := cells_of h6
            exact ⟨cs', d, h10, h11, h8, h9⟩
          by_cases h0 : len = 0
          · subst h0
            exact ⟨.sl (P.cellsOf e) [], .nilsl _ _ _ (by simp), .sl hu (Nat.zero_le _) (by simp) (by simp)⟩
          · obtain ⟨c0, d0, e1, e2, _, _⟩ := hg 0 (by omega)
            have e3 := e2 0 hpos
            rw [List.getElem?_eq_getElem (show 0 < c0.length by omega)] at e3
            have e4 := World.cell?_spot e3
            obtain ⟨b, off, sp⟩ := a
            have e5 : sp = none := by
              cases sp with
              | none => rfl
              | some q => simp [Addr.add] at e4
            subst e5
            have hb : b < w.heap.size := by
              have := cell_lt e3
              simpa [add_none] using this
            let cf : Nat → List Value := fun i => if hi : i < len then Classical.choose (hg i hi) else []
            let df : Nat → D := fun i => if hi : i < len then Classical.choose (Classical.choose_spec (hg i hi)) else .agg []
            have hcf : ∀ i (hi : i < len), (cf i).length = P.cellsOf e ∧ (∀ j, j < P.cellsOf e → w.cell? (((⟨b, off, none⟩ : Addr).add (i * P.cellsOf e)).add j) = (cf i)[j]?) ∧ RC (St.init w) (cf i) (df i) ∧ Typed P e (df i) := by
              intro i hi
              have := Classical.choose_spec (Classical.choose_spec (hg i hi))
              simp only [cf, df, dif_pos hi]
              exact this
            have hlen : ((List.range len).map df).length = len := by simp
            have hR : RC (St.init w) [.slice (some ⟨b, off, none⟩) ((List.range len).map df).length cap] (.sl (P.cellsOf e) ((List.range len).map df)) := by
              refine .sl _ b off cap _ cf hb rfl (by rw [hlen]; exact hlc) (fun i hi => ?_) (fun i hi j hj => ?_) (fun i hi => ?_)
              · rw [hlen] at hi; exact (hcf i hi).1
              · rw [hlen] at hi
                have := (hcf i hi).2.1 j hj
                rw [add_none, add_none] at this
                exact this
              · have hi' := hi
                rw [hlen] at hi'
                simp only [List.getElem_map, List.getElem_range]
                exact (hcf i hi').2.2.1
            rw [hlen] at hR
            refine ⟨_, hR, .sl hu (by rw [hlen]; omega) (by rw [hlen, ← hel]; exact Nat.le_trans (Nat.mul_le_mul_right _ (Nat.le_add_right _ _)) hB0) ?_⟩
            intro d hd
            simp only [List.mem_map, List.mem_range] at hd
            obtain ⟨i, hi, rfl⟩ := hd
            exact (hcf i hi).2.2.2
      by_cases h5 : ∃ fs, td = .struct fs
      · obtain ⟨fs, rfl⟩ := h5
        rw [hu] at hrow
        simp only [Bool.and_eq_true, List.all_eq_true, beq_iff_eq, List.mem_range] at hrow
        obtain ⟨⟨r1, r2⟩, r3⟩ := hrow
        rw [hu] at hcl
        simp only [List.all_eq_true, List.contains_eq_mem, decide_eq_true_eq] at hcl
        have hin := hcl
        obtain ⟨xs, m, hm, rfl, hcl, hxl, hx⟩ := DataW.trod_struct hu h
        cases hm
        let ws := fs.toList.map fun f => P.cellsOf f.type
        have hoff : ∀ i (f : Field), fs.toList[i]? = some f → f.offset = (ws.take i).sum := by
          intro i f hf
          have := r3 i (List.getElem?_eq_some_iff.1 hf).1
          rw [hf] at this
          simp only [beq_iff_eq] at this
          rw [this, List.map_take]
        have hg : ∀ i, i < fs.size → ∃ d, RC (St.init w) ((cs.drop (ws.take i).sum).take (ws.getD i 0)) d ∧ ∀ f : Field, fs[i]? = some f → Typed P f.type d := by
          intro i hi
          have hf : fs[i]? = some fs[i] := by simp [hi]
          have hf' : fs.toList[i]? = some fs[i] := by simpa using hf
          have h6 := hx i _ hf
          rw [List.getElem?_eq_getElem (show i < xs.length by omega)] at h6
          obtain ⟨d, h7, h8⟩ := ih _ _ _ (hin _ (List.mem_of_getElem? hf')) h6 (fun q hq => hB q (by simp only [DataW.weights, hu]; exact DataW.weights_mem_each (j := i) (t := fs[i].type) (d := xs[i].1) (by rw [List.getElem?_map, hf']; rfl) (by rw [List.getElem?_map, List.getElem?_eq_getElem (show i < xs.length by omega)]; rfl) q hq))
          refine ⟨d, ?_, fun f hf2 => ?_⟩
          · rw [← hoff i _ hf']
            have : ws.getD i 0 = P.cellsOf fs[i].type := by simp [ws, List.getD, hi]
            rw [this]
            exact h7
          · rw [hf] at hf2
            cases hf2
            exact h8
        let df : Nat → D := fun i => if hi : i < fs.size then Classical.choose (hg i hi) else .agg []
        have hdf : ∀ i (hi : i < fs.size), RC (St.init w) ((cs.drop (ws.take i).sum).take (ws.getD i 0)) (df i) ∧ ∀ f : Field, fs[i]? = some f → Typed P f.type (df i) := by
          intro i hi
          have := Classical.choose_spec (hg i hi)
          simp only [df, dif_pos hi]
          exact this
        have hwl : ws.length = fs.size := by simp [ws]
        have hfl := flat_cut cs ws (by rw [hcl, r2])
        refine ⟨.agg ((List.range ws.length).map df), ?_, .agg hu (by simp [hwl]) ?_⟩
        · have := RC.agg (s := St.init w) ((List.range ws.length).map fun i => (cs.drop (ws.take i).sum).take (ws.getD i 0)) ((List.range ws.length).map df) (by simp) (fun i h1 h2 => by
            simp only [List.getElem_map, List.getElem_range]
            exact (hdf i (by simpa [hwl] using h1)).1)
          rw [hfl] at this
          exact this
        · intro i f d hf hd
          have hi : i < fs.size := by
            rcases Nat.lt_or_ge i fs.size with h | h
            · exact h
            · rw [Array.getElem?_eq_none h] at hf; simp at hf
          rw [List.getElem?_eq_getElem (show i < ((List.range ws.length).map df).length by simpa [hwl] using hi)] at hd
          simp only [List.getElem_map, List.getElem_range, Option.some.injEq] at hd
          subst hd
          exact (hdf i hi).2 f hf
      by_cases h6 : ∃ m e, td = .array m e
      · obtain ⟨m, e, rfl⟩ := h6
        rw [hu] at hrow
        simp only [Bool.and_eq_true, beq_iff_eq] at hrow
        rw [hu] at hcl
        simp only [List.contains_eq_mem, decide_eq_true_eq] at hcl
        have hin := hcl
        obtain ⟨xs, q, hq, rfl, hcl, hxl, hx⟩ := DataW.trod_array hu h
        cases hq
        let ws := List.replicate m (P.cellsOf e)
        have hsum : ∀ i, i ≤ m → (ws.take i).sum = i * P.cellsOf e := by
          intro i hi
          simp [ws, Nat.min_eq_left hi]
        have hg : ∀ i, i < m → ∃ d, RC (St.init w) ((cs.drop (ws.take i).sum).take (ws.getD i 0)) d ∧ Typed P e d := by
          intro i hi
          have h6 := hx i hi
          rw [List.getElem?_eq_getElem (show i < xs.length by omega)] at h6
          obtain ⟨d, h7, h8⟩ := ih _ _ _ hin h6 (fun q hq => hB q (by unfold DataW.weights; simp only [hu]; exact wAll (List.mem_map.2 ⟨xs[i], List.getElem_mem _, rfl⟩) hq))
          refine ⟨d, ?_, h8⟩
          rw [hsum i (by omega)]
          have : ws.getD i 0 = P.cellsOf e := by simp [ws, List.getD, hi]
          rw [this]
          exact h7
        let df : Nat → D := fun i => if hi : i < m then Classical.choose (hg i hi) else .agg []
        have hdf : ∀ i (hi : i < m), RC (St.init w) ((cs.drop (ws.take i).sum).take (ws.getD i 0)) (df i) ∧ Typed P e (df i) := by
          intro i hi
          have := Classical.choose_spec (hg i hi)
          simp only [df, dif_pos hi]
          exact this
        have hwl : ws.length = m := by simp [ws]
        have hfl := flat_cut cs ws (by rw [hcl, hrow.2]; simp [ws])
        refine ⟨.agg ((List.range ws.length).map df), ?_, .arr hu (by simp [hwl]) ?_⟩
        · have := RC.agg (s := St.init w) ((List.range ws.length).map fun i => (cs.drop (ws.take i).sum).take (ws.getD i 0)) ((List.range ws.length).map df) (by simp) (fun i h1 h2 => by
            simp only [List.getElem_map, List.getElem_range]
            exact (hdf i (by simpa [hwl] using h1)).1)
          rw [hfl] at this
          exact this
        · intro d hd
          simp only [List.mem_map, List.mem_range, hwl] at hd
          obtain ⟨i, hi, rfl⟩ := hd
          exact (hdf i hi).2
      by_cases h7 : ∃ e, td = .pointer e
      · obtain ⟨e, rfl⟩ := h7
        rw [hu] at hrow
        simp only [Bool.and_eq_true] at hrow
        rw [hu] at hcl
        simp only [Bool.and_eq_true, decide_eq_true_eq, List.contains_eq_mem] at hcl
        obtain ⟨hpos, hin⟩ := hcl
        rcases DataW.trod_pointer hu h with ⟨rfl, _⟩ | ⟨a, cs', y, m, hm, rfl, rfl, h8, h9⟩
        · exact ⟨_, .val _ rfl, .nilp hu⟩
        · cases hm
          obtain ⟨d, h10, h11⟩ := ih e cs' _ hin h9 (fun q hq => hB q (by unfold DataW.weights; simp only [hu]; exact hq))
          obtain ⟨h12, h13⟩ := cells_of h8
          have e3 := h13 0 hpos
          rw [List.getElem?_eq_getElem (show 0 < cs'.length by omega)] at e3
          have e4 := World.cell?_spot e3
          obtain ⟨b, off, sp⟩ := a
          have e5 : sp = none := by
            cases sp with
            | none => rfl
            | some q => simp [Addr.add] at e4
          subst e5
          have hb : b < w.heap.size := by
            have := cell_lt e3
            simpa [add_none] using this
          exact ⟨_, .ptr b off cs' d hb rfl (fun j hj => by have := h13 j (by omega); rw [add_none] at this; exact this) h10, .ptr hu h11⟩
      · have hone : ∃ v, cs = [v] ∧ v.oneCell' = true := by
          unfold DataW.trod at h
          rw [hu] at h
          split at h <;> simp_all [kindOk]
          all_goals (try exact rfl)
        obtain ⟨v, rfl, ho⟩ := hone
        exact ⟨.val v, .val v ho, .one (fun k e => h1 ⟨k, Option.some.inj (hu.symm.trans e)⟩) (fun e => h2 (Option.some.inj (hu.symm.trans e))) (fun e => h3 (Option.some.inj (hu.symm.trans e))) (fun e' e => h4 ⟨e', Option.some.inj (hu.symm.trans e)⟩)
          (fun fs e => h5 ⟨fs, Option.some.inj (hu.symm.trans e)⟩) (fun m e' e => h6 ⟨m, e', Option.some.inj (hu.symm.trans e)⟩) (fun e' e => h7 ⟨e', Option.some.inj (hu.symm.trans e)⟩)⟩

section
variable {P : Program} {t e : TypeId} {d : D}
theorem Typed.inv_int {k : IntKind} (hu : P.underlying t = some (.int k)) (h : Typed P t d) : ∃ n, d = .val (.int k n) ∧ (Lit.int k n).wf = true := by
  cases h with
  | int h hw => rw [hu] at h; cases h; exact ⟨_, rfl, hw⟩
  | one h1 => exact absurd hu (h1 _)
  | bool h => rw [hu] at h; cases h
  | str h => rw [hu] at h; cases h
  | sl h => rw [hu] at h; cases h
  | agg h => rw [hu] at h; cases h
  | arr h => rw [hu] at h; cases h
  | nilp h => rw [hu] at h; cases h
  | ptr h => rw [hu] at h; cases h
theorem Typed.inv_bool (hu : P.underlying t = some .bool) (h : Typed P t d) : ∃ b, d = .val (.bool b) := by
  cases h with
  | bool h => exact ⟨_, rfl⟩
  | one h1 h2 => exact absurd hu h2
  | int h => rw [hu] at h; cases h
  | str h => rw [hu] at h; cases h
  | sl h => rw [hu] at h; cases h
  | agg h => rw [hu] at h; cases h
  | arr h => rw [hu] at h; cases h
  | nilp h => rw [hu] at h; cases h
  | ptr h => rw [hu] at h; cases h
theorem Typed.inv_str (hu : P.underlying t = some .string) (h : Typed P t d) : ∃ l : List UInt8, d = .val (S l) ∧ l.length ≤ reachBytes := by
  cases h with
  | str h hs => rename_i s; exact ⟨s.data.toList, rfl, by rw [Array.length_toList]; exact hs⟩
  | one h1 h2 h3 => exact absurd hu h3
  | int h => rw [hu] at h; cases h
  | bool h => rw [hu] at h; cases h
  | sl h => rw [hu] at h; cases h
  | agg h => rw [hu] at h; cases h
  | arr h => rw [hu] at h; cases h
  | nilp h => rw [hu] at h; cases h
  | ptr h => rw [hu] at h; cases h
theorem Typed.inv_sl (hu : P.underlying t = some (.slice e)) (h : Typed P t d) : ∃ l, d = .sl (P.cellsOf e) l ∧ l.length * P.bytesOf e ≤ reachBytes ∧ ∀ x ∈ l, Typed P e x := by
  cases h with
  | sl h hl hb hd => rw [hu] at h; cases h; exact ⟨_, rfl, hb, hd⟩
  | one h1 h2 h3 h4 => exact absurd hu (h4 _)
  | int h => rw [hu] at h; cases h
  | bool h => rw [hu] at h; cases h
  | str h => rw [hu] at h; cases h
  | agg h => rw [hu] at h; cases h
  | arr h => rw [hu] at h; cases h
  | nilp h => rw [hu] at h; cases h
  | ptr h => rw [hu] at h; cases h
theorem Typed.inv_agg {fs : Array Field} (hu : P.underlying t = some (.struct fs)) (h : Typed P t d) : ∃ l, d = .agg l ∧ l.length = fs.size ∧ ∀ (i : Nat) (f : Field) (x : D), fs[i]? = some f → l[i]? = some x → Typed P f.type x := by
  cases h with
  | agg h hl hd => rw [hu] at h; cases h; exact ⟨_, rfl, hl, hd⟩
  | one h1 h2 h3 h4 h5 => exact absurd hu (h5 _)
  | int h => rw [hu] at h; cases h
  | bool h => rw [hu] at h; cases h
  | str h => rw [hu] at h; cases h
  | sl h => rw [hu] at h; cases h
  | arr h => rw [hu] at h; cases h
  | nilp h => rw [hu] at h; cases h
  | ptr h => rw [hu] at h; cases h
theorem Typed.inv_arr {n : Nat} (hu : P.underlying t = some (.array n e)) (h : Typed P t d) : ∃ l, d = .agg l ∧ l.length = n ∧ ∀ x ∈ l, Typed P e x := by
  cases h with
  | arr h hl hd => rw [hu] at h; cases h; exact ⟨_, rfl, hl, hd⟩
  | one h1 h2 h3 h4 h5 h6 => exact absurd hu (h6 _ _)
  | int h => rw [hu] at h; cases h
  | bool h => rw [hu] at h; cases h
  | str h => rw [hu] at h; cases h
  | sl h => rw [hu] at h; cases h
  | agg h => rw [hu] at h; cases h
  | nilp h => rw [hu] at h; cases h
  | ptr h => rw [hu] at h; cases h
theorem Typed.inv_ptr (hu : P.underlying t = some (.pointer e)) (h : Typed P t d) : d = .val (.pointer none) ∨ ∃ x, d = .ptr x ∧ Typed P e x := by
  cases h with
  | nilp h => exact .inl rfl
  | ptr h hd => rw [hu] at h; cases h; exact .inr ⟨_, rfl, hd⟩
  | one h1 h2 h3 h4 h5 h6 h7 => exact absurd hu (h7 _)
  | int h => rw [hu] at h; cases h
  | bool h => rw [hu] at h; cases h
  | str h => rw [hu] at h; cases h
  | sl h => rw [hu] at h; cases h
  | agg h => rw [hu] at h; cases h
  | arr h => rw [hu] at h; cases h
end
/-- Each is one of these: so all are. -/
theorem all_of {α β : Type} {f : β → α} {ok : β → Prop} : ∀ {l : List α}, (∀ x ∈ l, ∃ y, x = f y ∧ ok y) → ∃ m : List β, l = m.map f ∧ ∀ y ∈ m, ok y
  | [], _ => ⟨[], rfl, by simp⟩
  | x :: l, h => by
    obtain ⟨y, e, hy⟩ := h x (by simp)
    obtain ⟨m, e2, hm⟩ := all_of (l := l) (fun z hz => h z (by simp [hz]))
    refine ⟨y :: m, by rw [e, e2]; rfl, ?_⟩
    intro z hz
    rcases List.mem_cons.1 hz with rfl | hz
    · exact hy
    · exact hm z hz
/-- From what came in to the framework's word for it. -/
theorem open_R {H : Type} {enc : TypeId × Value → H} {P : Program} {W : World} {t : TypeId} {v : Value} {d : DataW H} {ps : List MemPlace} {ts : List TypeId} (hl : laidOutB P = true) (hz : closedB P ts = true) (hv : ts.contains t = true) (h1 : v.cells = #[v])
    (h : DataW.Trod enc P W 0 (fun _ => true) true t v d ps) (hB : ∀ q ∈ d.weights P t, q ≤ reachBytes) : ∃ x, RC (St.init W) [v] x ∧ Typed P t x := by
  obtain ⟨fuel, hf⟩ := h
  rw [h1] at hf
  exact open_D hl hz fuel t [v] _ (by simpa using hv) hf hB
theorem open_Ragg {H : Type} {enc : TypeId × Value → H} {P : Program} {W : World} {t : TypeId} {cs : Array Value} {d : DataW H} {ps : List MemPlace} {ts : List TypeId} (hl : laidOutB P = true) (hz : closedB P ts = true) (hv : ts.contains t = true)
    (h : DataW.Trod enc P W 0 (fun _ => true) true t (.agg cs) d ps) (hB : ∀ q ∈ d.weights P t, q ≤ reachBytes) : ∃ x, RC (St.init W) cs.toList x ∧ Typed P t x := by
  obtain ⟨fuel, hf⟩ := h
  exact open_D hl hz fuel t cs.toList _ (by simpa using hv) hf hB
/-- A call that writes nothing, as the row wants it. -/
theorem below_of {P : Program} {f : FuncId} {args : Array Value} {W : World} {v0 : Value} (h : Calls P f args (St.init W).w (Ret (St.init W) K0 fun _ v => v = v0)) : Calls P f args W fun e w' => e = .returned v0 ∧ Go.RowKit.Below W.heap.size W w' :=
  h.mono (by
    rintro e w' ⟨s1, v1, rfl, rfl, st, rfl⟩
    exact ⟨rfl, st.below⟩)
end Go.Fw
namespace Go.Fw
theorem weights_app {H : Type} {P : Program} {q : Nat} : ∀ {ts us : List TypeId} {ds es : List (DataW H)}, q ∈ DataW.weightsEach P ts ds → q ∈ DataW.weightsEach P (ts ++ us) (ds ++ es)
  | t :: ts, us, d :: ds, es, h => by
    simp only [List.cons_append, DataW.weightsEach, List.mem_append] at h ⊢
    exact h.imp id weights_app
  | [], _, _, _, h => by simp [DataW.weightsEach] at h
  | _ :: _, _, [], _, h => by simp [DataW.weightsEach] at h
theorem wt_mem {H : Type} {P : Program} {ts : List TypeId} {ds : List (DataW H)} (h : (DataW.weightsEach P ts ds).all (· ≤ reachBytes) = true) {j : Nat} {t : TypeId} {d : DataW H} (ht : ts[j]? = some t) (hd : ds[j]? = some d) : ∀ q ∈ d.weights P t, q ≤ reachBytes :=
  fun q hq => by simpa using List.all_eq_true.1 h q (DataW.weights_mem_each ht hd q hq)
end Go.Fw
