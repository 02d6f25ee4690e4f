import Derived.Test.YtdofbkomeadjgaaGreatDoorFwOFwZ
import Derived.LoopNIn
import Derived.Laws.StructEq
import Derived.RangeFuncIn
import Derived.RangeFuncRecord
import Derived.Laws.AppendOwn
set_option linter.unusedSimpArgs false
set_option linter.unusedVariables false
namespace Go.Fw
inductive PT where
  | fin
  | read (i : Nat) (t : PT)
  | alt (i : Nat) (t r : PT)
  | no
def PT.heads : PT → List Nat
  | .alt i _ r => i :: PT.heads r
  | _ => []
def PT.ok (ops : Array Oper) (m : Nat) : Bool → List Nat → PT → Bool
  | first, done, .fin => first && (List.range m).all (fun j => done.contains j)
  | first, done, .read i t => first && Nat.blt i m && !done.contains i && PT.ok ops m true (i :: done) t
  | first, done, .alt i t r => (!first || (List.range m).all (fun j => done.contains j || (PT.alt i t r).heads.contains j || (onsAt ops j).any (fun q => !done.contains q))) && Nat.blt i m && !done.contains i && PT.ok ops m true (i :: done) t && PT.ok ops m false done r
  | first, _, .no => !first
def regOk (ops : Array Oper) (n m : Nat) : Bool :=
  Nat.ble m ops.size &&
  (List.range ops.size).all (fun i => (onsAt ops i).all (fun j => Nat.blt j i)) &&
  (List.range m).all (fun i => (looksI ops i).all (fun t => (List.range m).all (fun j => dstAt ops j != some t || (onsAt ops i).contains j))) &&
  (List.range ops.size).all (fun i => Nat.blt i m || (List.range i).all (fun j => rchB ops 4 i j)) &&
  (List.range m).all (fun i => match dstAt ops i with | some d => Nat.blt d n | none => true) &&
  (List.range m).all (fun i => (List.range m).all fun j => Nat.beq i j || (dstAt ops i != dstAt ops j || (dstAt ops i).isNone))
theorem PT.ok_congr {ops : Array Oper} {m : Nat} : ∀ {t : PT} {first : Bool} {d1 d2 : List Nat}, (∀ x, d1.contains x = d2.contains x) → PT.ok ops m first d1 t = PT.ok ops m first d2 t
  | .fin, first, d1, d2, h => by simp only [PT.ok, h]
  | .no, first, d1, d2, h => rfl
  | .read i t, first, d1, d2, h => by
    have h2 : ∀ x, (i :: d1).contains x = (i :: d2).contains x := fun x => by simp only [List.contains_cons, h]
    simp only [PT.ok, h, PT.ok_congr (t := t) h2]
  | .alt i t r, first, d1, d2, h => by
    have h2 : ∀ x, (i :: d1).contains x = (i :: d2).contains x := fun x => by simp only [List.contains_cons, h]
    simp only [PT.ok, h, PT.ok_congr (t := t) h2, PT.ok_congr (t := r) h]
section
variable {P : Program} {n : Nat} {Df : Md} {ops : Array Oper} {Q : Exit → Act → World → Prop}
def ext (o : Oper) (v : Value) (ρ : Env) : Env := match o.dst with | some d => (d, v) :: ρ | none => ρ
theorem wpOp_of_KLo {i : Nat} {o : Oper} (ho : ops[i]? = some o) {ρ : Env} {w : World} {a : Act} (ha : Ag n Df ρ a) {C : Value → World → Prop} {q : Post}
    (hq : ∀ e ρ' w', q e ρ' w' → e = .normal ∧ ∃ v, (∀ d, o.dst = some d → look ρ' d = some v) ∧ C v w') (hn : ∀ d, o.dst = some d → d < n) (h : KL P n Df ops q [o] ρ w) {K : Act → World → Prop}
    (hK : ∀ v w', C v w' → K (a.put o.dst v) w') : wpOpIn (fnc Df.rd) 0 P ops Q i K a w := by
  have h1 := h a ha
  have hnp : ∀ ch a' w', ¬ lift n Df q (.panic ch) a' w' := by
    rintro ch a' w' ⟨ρ', _, hh⟩; have := (hq _ _ _ hh).1; cases this
  have hno : ¬ LetsOut (lift n Df q) := by
    rintro ⟨a', w', ρ', _, hh⟩; have := (hq _ _ _ hh).1; cases this
  have fin : ∀ v w', lift n Df q .normal (a.put o.dst v) w' → K (a.put o.dst v) w' := by
    rintro v w' ⟨ρ', hag, hh⟩
    obtain ⟨_, v', hl, hc⟩ := hq _ _ _ hh
    have hkk := hK v' w' hc
    cases hd : o.dst with
    | none => rw [hd] at hkk; exact hkk
    | some d =>
      have e := hag.get d v' (hl d hd)
      rw [hd] at e hkk
      have hsz : d < a.tmps.size := by rw [ha.size]; exact hn d hd
      have : v = v' := by
        rw [← e]; simp [Act.put, Array.getD_eq_getD_getElem?, hsz]
      subst this
      exact hkk
  unfold wpOpIn
  rw [ho]
  simp only [wpListIn] at h1
  by_cases hw : Region.wanted o (yielded ops a.tmps) = true
  · simp only [hw, if_true] at h1 ⊢
    refine upon_put ?_ (fun v w' hk => fin v w' hk) hnp hno h1
    rintro dd v a' rfl w' ⟨ρ', hag, _⟩
    have h2 := hag.defers
    have h3 := ha.defers
    cases hd : o.dst <;> rw [hd] at h2 <;> simp [Act.put] at h2 <;> rw [← h3] at h2 <;> have := congrArg List.length h2 <;> simp at this
  · simp only [hw] at h1 ⊢
    simp only [Bool.false_eq_true, if_false] at h1 ⊢
    exact ⟨fun _ _ => trivial, fin undef w h1.2⟩
def RT (P : Program) (n : Nat) (Df : Md) (ops : Array Oper) (K : Lab → Prop) (Fin : Env → St → Prop) : PT → Env → St → Prop
  | .fin, ρ, s => Fin ρ s
  | .read i t, ρ, s => ∃ o d c, ops[i]? = some o ∧ o.dst = some d ∧ (∀ s', Step K s s' → KL P n Df ops (FQ d c s'.w) [o] (rst ρ (o.looksAt ops)) s'.w) ∧ RT P n Df ops K Fin t ((d, c) :: ρ) s
  | .alt i t r, ρ, s => (∃ o, ops[i]? = some o ∧
      KL P n Df ops (fun e ρ' w' => e = .normal ∧ ∃ s' v, s'.w = w' ∧ Step K s s' ∧ (∀ d, o.dst = some d → look ρ' d = some v) ∧ RT P n Df ops K Fin t (ext o v ρ) s') [o] (rst ρ (o.looksAt ops)) s.w) ∧ RT P n Df ops K Fin r ρ s
  | .no, _, _ => True
theorem RT.pick {K : Lab → Prop} {Fin : Env → St → Prop} {m : Nat} {done : List Nat} {ρ : Env} {s : St} {i : Nat} : ∀ {t : PT} {first : Bool}, RT P n Df ops K Fin t ρ s → PT.ok ops m first done t = true → i ∈ t.heads →
    i < m ∧ done.contains i = false ∧ ∃ t', PT.ok ops m true (i :: done) t' = true ∧ ∃ o, ops[i]? = some o ∧
      KL P n Df ops (fun e ρ' w' => e = .normal ∧ ∃ s' v, s'.w = w' ∧ Step K s s' ∧ (∀ d, o.dst = some d → look ρ' d = some v) ∧ RT P n Df ops K Fin t' (ext o v ρ) s') [o] (rst ρ (o.looksAt ops)) s.w
  | .alt j t r, first, h, hok, hi => by
    simp only [PT.ok, Bool.and_eq_true] at hok
    obtain ⟨⟨⟨⟨h0, h1⟩, h2⟩, h3⟩, h4⟩ := hok
    simp only [PT.heads, List.mem_cons] at hi
    by_cases e : i = j
    · subst e
      exact ⟨by simpa using h1, by simpa using h2, t, h3, h.1⟩
    · exact RT.pick (t := r) h.2 h4 (hi.resolve_left e)
  | .fin, _, _, _, hi => by simp [PT.heads] at hi
  | .read _ _, _, _, _, hi => by simp [PT.heads] at hi
  | .no, _, _, _, hi => by simp [PT.heads] at hi
def PT.acts : PT → Prop
  | .fin => True
  | .alt _ _ _ => True
  | _ => False
theorem RT.peel {K : Lab → Prop} {Fin : Env → St → Prop} {m : Nat} (hdist : ∀ i j, i < m → j < m → i ≠ j → ∀ d, dstAt ops i = some d → dstAt ops j ≠ some d) : ∀ {t : PT} {done : List Nat} {ρ : Env} {s : St}, (∀ x ∈ done, x < m) → PT.ok ops m true done t = true →
    (∀ j, j < m → done.contains j = false → ∀ d, dstAt ops j = some d → look ρ d = none) → Step K s s → RT P n Df ops K Fin t ρ s →
    ∃ pre t' ρ', t'.acts ∧ PT.ok ops m true (pre ++ done) t' = true ∧ (∀ x ∈ pre, x < m ∧ done.contains x = false) ∧ (∀ x ∈ pre, Known P n Df ops K x ρ' s) ∧ (∀ t v, look ρ t = some v → look ρ' t = some v) ∧
      (∀ t v, look ρ' t = some v → look ρ t = some v ∨ ∃ x ∈ pre, dstAt ops x = some t) ∧ RT P n Df ops K Fin t' ρ' s
  | .fin, done, ρ, s, _, hok, _, _, h => ⟨[], .fin, ρ, trivial, hok, fun x hx => by simp at hx, fun x hx => by simp at hx, fun _ _ e => e, fun _ _ e => .inl e, h⟩
  | .alt i t r, done, ρ, s, _, hok, _, _, h => ⟨[], .alt i t r, ρ, trivial, hok, fun x hx => by simp at hx, fun x hx => by simp at hx, fun _ _ e => e, fun _ _ e => .inl e, h⟩
  | .no, done, ρ, s, _, hok, _, _, h => by simp [PT.ok] at hok
  | .read i t, done, ρ, s, hdm, hok, hnd, st0, h => by
    obtain ⟨o, d, c, h1, h2, h3, h4⟩ := h
    simp only [PT.ok, Bool.and_eq_true, Bool.true_and] at hok
    obtain ⟨⟨hb, hc⟩, hok⟩ := hok
    have him : i < m := by simpa using hb
    have hci : done.contains i = false := by simpa using hc
    have hdi' : dstAt ops i = some d := by simp [dstAt, h1, h2]
    have hd0 : look ρ d = none := hnd i him hci d hdi'
    have hext : ∀ t v, look ρ t = some v → look ((d, c) :: ρ) t = some v := by
      intro t v e
      simp only [look]
      have : d ≠ t := by rintro rfl; rw [hd0] at e; simp at e
      have e' : Nat.beq d t = false := by rw [← Bool.not_eq_true, Nat.beq_eq]; exact this
      rw [e']; exact e
    obtain ⟨pre, t', ρ', e0, e1, e2, e4, e5, e6, e7⟩ := RT.peel hdist (t := t) (done := i :: done) (ρ := (d, c) :: ρ) (s := s) (fun x hx => by
        rcases List.mem_cons.1 hx with rfl | hx
        · exact him
        · exact hdm x hx) hok (fun j hj hjc d' hd' => by
      simp only [List.contains_eq_mem, List.mem_cons, decide_eq_false_iff_not, not_or] at hjc
      simp only [look]
      have hne : d ≠ d' := by
        rintro rfl
        exact hdist i j him hj (fun e => hjc.1 e.symm) d hdi' hd'
      have e' : Nat.beq d d' = false := by rw [← Bool.not_eq_true, Nat.beq_eq]; exact hne
      rw [e']; exact hnd j hj (by simpa using hjc.2) d' hd') st0 h4
    refine ⟨pre ++ [i], t', ρ', e0, by simpa using e1, ?_, ?_, fun t v e => e5 t v (hext t v e), ?_, e7⟩
    · intro x hx
      rcases List.mem_append.1 hx with hx | hx
      · have := e2 x hx
        simp only [List.contains_eq_mem, List.mem_cons, decide_eq_false_iff_not, not_or] at this
        exact ⟨this.1, by simpa using this.2.2⟩
      · have : x = i := by simpa using hx
        subst this; exact ⟨him, hci⟩
    · intro x hx
      rcases List.mem_append.1 hx with hx | hx
      · exact e4 x hx
      · have : x = i := by simpa using hx
        subst this
        have hk : Known P n Df ops K x ((d, c) :: ρ) s := ⟨o, d, c, h1, h2, by simp [look], fun s' st a ha => h3 s' st a (Ag.rst_of hext ha)⟩
        exact hk.up st0 e5
    · intro t v e
      rcases e6 t v e with h | ⟨x, hx, hxd⟩
      · simp only [look] at h
        by_cases e : d = t
        · subst e; exact .inr ⟨i, by simp, hdi'⟩
        · have e' : Nat.beq d t = false := by rw [← Bool.not_eq_true, Nat.beq_eq]; exact e
          rw [e'] at h; exact .inl h
      · exact .inr ⟨x, by simp [hx], hxd⟩
theorem tree_sim {K : Lab → Prop} (hK : ∀ c, ¬ K ⟨0, c⟩) {Fin : Env → St → Prop} {m : Nat} {ρ0 : Env} (hok : regOk ops n m = true) (hfresh : freshOk ops m ρ0 = true)
    (hFin : ∀ ρ s a, Fin ρ s → Ag n Df ρ a → wpListIn (fnc Df.rd) 0 P ops Q (ops.toList.drop m) a s.w) :
    ∀ (fuel : Nat) (listed : Array Bool) (a : Act) (kn ac : List Nat) (t : PT) (ρ : Env) (s : St), listed.size = ops.size → ops.size - m + (List.range m).countP (fun i => !listed.getD i true) ≤ fuel →
      t.acts → PT.ok ops m true (kn ++ ac) t = true → (∀ x ∈ kn ++ ac, x < m) → (∀ x ∈ kn, Known P n Df ops K x ρ s) → (∀ x ∈ ac, listed.getD x true = true) → (∀ x, x < m → (kn ++ ac).contains x = false → listed.getD x true = false) → (∀ i, m ≤ i → i < ops.size → listed.getD i true = false) → (∀ i, i < ops.size → listed.getD i true = true → ∀ j ∈ onsAt ops i, listed.getD j true = true) →
      a.tmps.size = n → a.defers = Df.df → (∀ t v, look ρ0 t = some v → a.tmps.getD t undef = v) →
      (∀ x ∈ kn ++ ac, listed.getD x true = true → ∀ d v, dstAt ops x = some d → look ρ d = some v → a.tmps.getD d undef = v) →
      (∀ t v, look ρ t = some v → look ρ0 t = some v ∨ ∃ x ∈ kn ++ ac, dstAt ops x = some t) → (∀ x ∈ kn ++ ac, ∀ d, dstAt ops x = some d → ∃ v, look ρ d = some v) →
      RT P n Df ops K Fin t ρ s → wpAnyIn (fnc Df.rd) 0 P .any ops Q fuel listed a s.w := by
  simp only [regOk, Bool.and_eq_true] at hok
  obtain ⟨⟨⟨⟨⟨k1, k4⟩, k5⟩, k6⟩, k7⟩, k8⟩ := hok
  have hm : m ≤ ops.size := by simpa using k1
  have hback : ∀ i, i < ops.size → ∀ j ∈ onsAt ops i, j < i := by
    intro i hi j hj
    have := List.all_eq_true.1 (List.all_eq_true.1 k4 i (List.mem_range.2 hi)) j hj
    simpa using this
  have hedge : ∀ i, i < m → ∀ t ∈ looksI ops i, ∀ j, j < m → dstAt ops j = some t → j ∈ onsAt ops i := by
    intro i hi t ht j hj hd
    have := List.all_eq_true.1 (List.all_eq_true.1 (List.all_eq_true.1 k5 i (List.mem_range.2 hi)) t ht) j (List.mem_range.2 hj)
    simp only [Bool.or_eq_true, bne_iff_ne, ne_eq, List.contains_eq_mem, decide_eq_true_eq] at this
    rcases this with h | h
    · exact absurd hd h
    · exact h
  have htail : ∀ i, m ≤ i → i < ops.size → ∀ j, j < i → Rch ops i j := by
    intro i h1 h2 j hj
    have := List.all_eq_true.1 k6 i (List.mem_range.2 h2)
    simp only [Bool.or_eq_true] at this
    rcases this with h | h
    · have : i < m := by simpa using h
      omega
    · exact rchB_rch (List.all_eq_true.1 h j (List.mem_range.2 hj))
  have hdst : ∀ i, i < m → ∀ d, dstAt ops i = some d → d < n := by
    intro i hi d hd
    have := List.all_eq_true.1 k7 i (List.mem_range.2 hi)
    rw [hd] at this; simpa using this
  have hdist : ∀ i j, i < m → j < m → i ≠ j → ∀ d, dstAt ops i = some d → dstAt ops j ≠ some d := by
    intro i j hi hj hne d hd hd'
    have := List.all_eq_true.1 (List.all_eq_true.1 k8 i (List.mem_range.2 hi)) j (List.mem_range.2 hj)
    simp only [Bool.or_eq_true, Nat.beq_eq, bne_iff_ne, ne_eq] at this
    rcases this with h | h | h
    · exact hne h
    · exact h (hd.trans hd'.symm)
    · rw [hd] at h; simp at h
  have hfr : ∀ i, i < m → ∀ d, dstAt ops i = some d → look ρ0 d = none := by
    intro i hi d hd
    have := List.all_eq_true.1 hfresh i (List.mem_range.2 hi)
    rw [hd] at this
    simpa using this
  intro fuel
  have hfinish : ∀ (fuel : Nat) (listed : Array Bool) (a : Act) (kn ac : List Nat) (t : PT) (ρ : Env) (s : St), ops.size - m ≤ fuel → listed.size = ops.size → t.acts → PT.ok ops m true (kn ++ ac) t = true →
      (∀ i, m ≤ i → i < ops.size → listed.getD i true = false) → (∀ x, x < m → (kn ++ ac).contains x = false → listed.getD x true = false) →
      a.tmps.size = n → a.defers = Df.df → (∀ t v, look ρ0 t = some v → a.tmps.getD t undef = v) →
      (∀ x ∈ kn ++ ac, listed.getD x true = true → ∀ d v, dstAt ops x = some d → look ρ d = some v → a.tmps.getD d undef = v) →
      (∀ t v, look ρ t = some v → look ρ0 t = some v ∨ ∃ x ∈ kn ++ ac, dstAt ops x = some t) → (∀ x ∈ kn ++ ac, x < m) →
      RT P n Df ops K Fin t ρ s → (∀ i, i < m → listed.getD i true = true) → wpAnyIn (fnc Df.rd) 0 P .any ops Q fuel listed a s.w := by
    intro fuel listed a kn ac t ρ s hf hsz hta htk hunt hun hts hds E1 E2 E3 hlm hrd hall
    cases t with
    | fin =>
      refine tail_any hback htail fuel m listed a s.w hsz (Nat.le_refl _) hm hf (fun i hi => by rw [getD_any (c := true) (by omega)]; exact hall i hi) (fun i h1 h2 => by rw [getD_any (c := true) (by omega)]; exact hunt i h1 h2) (hFin ρ s a hrd ⟨hts, ?_, hds⟩)
      intro t v e
      rcases E3 t v e with h | ⟨x, hx, hd⟩
      · exact E1 t v h
      · exact E2 x hx (hall x (hlm x hx)) t v hd e
    | alt i t r =>
      exfalso
      have hp := RT.pick (i := i) hrd htk (by simp [PT.heads])
      have h1 := hun i hp.1 hp.2.1
      rw [hall i hp.1] at h1
      simp at h1
    | read i t => exact hta.elim
    | no => exact hta.elim
  induction fuel with
  | zero =>
    intro listed a kn ac t ρ s hsz hf hta htk hlm hkn hact hun hunt hdown hts hds E1 E2 E3 E4 hrd
    have hall : ∀ i, i < m → listed.getD i true = true := by
      intro i hi
      have h0 : (List.range m).countP (fun i => !listed.getD i true) = 0 := by omega
      have := (List.countP_eq_zero.1 h0) i (List.mem_range.2 hi)
      simpa using this
    exact hfinish 0 listed a kn ac t ρ s (by omega) hsz hta htk hunt hun hts hds E1 E2 E3 hlm hrd hall
  | succ fuel ih =>
    intro listed a kn ac t ρ s hsz hf hta htk hlm hkn hact hun hunt hdown hts hds E1 E2 E3 E4 hrd
    by_cases hall : ∀ i, i < m → listed.getD i true = true
    · exact hfinish (fuel + 1) listed a kn ac t ρ s (by omega) hsz hta htk hunt hun hts hds E1 E2 E3 hlm hrd hall
    · have hex : ∃ i, i < m ∧ listed.getD i true = false := by
        apply Classical.byContradiction
        intro hne
        exact hall (fun i hi => by
          cases h : listed.getD i true with
          | true => rfl
          | false => exact absurd ⟨i, hi, h⟩ hne)
      refine ⟨fun hr => ?_, fun i hi => ?_⟩
      · exfalso
        obtain ⟨i0, ⟨hi0, hu0⟩, hleast⟩ := exists_least hex
        have : i0 ∈ Region.ready .any ops listed := mem_ready.2 ⟨by omega, hu0, fun j hj => by
          have hji := hback i0 (by omega) j hj
          rw [getD_any (c := true) (by omega)]
          cases h : listed.getD j true with
          | true => rfl
          | false => have := hleast j ⟨by omega, h⟩; omega⟩
        rw [hr] at this; simp at this
      · obtain ⟨h1, h2, h3⟩ := mem_ready.1 hi
        have him : i < m := by
          rcases Nat.lt_or_ge i m with h | h
          · exact h
          · exfalso
            refine hall (fun j hj => ?_)
            have key : ∀ {q k : Nat}, Rch ops q k → q < ops.size → listed.getD q true = true → listed.getD k true = true := by
              intro q k hr
              induction hr with
              | one hd => intro hq hl; exact hdown _ hq hl _ hd
              | more hd _ ih => intro hq hl; exact ih (by have := hback _ hq _ hd; omega) (hdown _ hq hl _ hd)
            cases htail i h h1 j (by omega) with
            | one hd =>
              have := h3 j hd
              rwa [getD_any (c := true) (by omega)] at this
            | more hq1 hr2 =>
              rename_i q
              have h6 := hback i h1 q hq1
              have := h3 q hq1
              rw [getD_any (c := true) (by omega)] at this
              exact key hr2 (by omega) this
        -- what the activation knows of the operation's operands
        have hag : ∀ o, ops[i]? = some o → Ag n Df (rst ρ (o.looksAt ops)) a := by
          intro o ho
          refine ⟨hts, fun t v e => ?_, hds⟩
          obtain ⟨ht, hl⟩ := look_rst e
          rcases E3 t v hl with h | ⟨x, hx, hxd⟩
          · exact E1 t v h
          · have hxm := hlm x hx
            have hj := hedge i him t (by simpa [looksI, ho] using ht) x hxm hxd
            have hlj := h3 _ hj
            rw [getD_any (c := true) (by omega)] at hlj
            exact E2 x hx hlj t v hxd hl
        have hcount : (List.range m).countP (fun j => !(listed.setIfInBounds i true).getD j true) + 1 = (List.range m).countP (fun j => !listed.getD j true) := by
          refine (countP_set (i := i) List.nodup_range (List.mem_range.2 him) (by simp [h2]) ?_ ?_).symm
          · simp [getD_set (show i < listed.size by omega)]
          · intro j hj
            rw [getD_set (by omega), if_neg (by omega)]
        have hset : ∀ j, (listed.setIfInBounds i true).getD j true = if i = j then true else listed.getD j true := fun j => getD_set (by omega)
        have hdown2 : ∀ i', i' < ops.size → (listed.setIfInBounds i true).getD i' true = true → ∀ j ∈ onsAt ops i', (listed.setIfInBounds i true).getD j true = true := by
          intro i' hi' hl j hj
          rw [hset]
          split
          · rfl
          · by_cases he : i' = i
            · subst he
              have := h3 j hj
              rwa [getD_any (c := true) (by have := hback i' h1 j hj; omega)] at this
            · rw [hset, if_neg (fun e => he e.symm)] at hl
              exact hdown i' hi' hl j hj
        have hext : ∀ d' v, dstAt ops i = some d' → (∀ t v', look ρ t = some v' → d' ≠ t) → ∀ t v', look ρ t = some v' → look ((d', v) :: ρ) t = some v' := by
          intro d' v _ hne t v' e
          simp only [look]
          have e' : Nat.beq d' t = false := by rw [← Bool.not_eq_true, Nat.beq_eq]; exact hne t v' e
          rw [e']; exact e
        by_cases hik : i ∈ kn
        · -- it only reads
          obtain ⟨o, d', c, ho, hd', hl, hkl⟩ := hkn _ hik
          have hd : dstAt ops i = some d' := by simp [dstAt, ho, hd']
          have hdn := hdst i him d' hd
          refine wpOp_of_KL ho hd' (hag o ho) (C := fun v w' => v = c ∧ w' = s.w) ?_ hdn (hkl s ((Step.refl s).of0 hK)) ?_
          · rintro e ρ' w' ⟨e1, e2, e3⟩
            exact ⟨e1, c, e3, rfl, e2⟩
          · rintro v w' ⟨rfl, rfl⟩
            refine ih _ _ kn ac t ρ s (by simpa using hsz) (by omega) hta htk hlm hkn ?_ ?_ ?_ hdown2 (by simp [Act.put, hts]) (by simp [Act.put, hds]) ?_ ?_ E3 E4 hrd
            · intro x hx
              rw [hset]; split
              · rfl
              · exact hact x hx
            · intro x hx hxc
              rw [hset]
              have : i ≠ x := by
                rintro rfl
                simp only [List.contains_eq_mem, decide_eq_false_iff_not, List.mem_append, not_or] at hxc
                exact hxc.1 hik
              rw [if_neg this]; exact hun x hx hxc
            · intro j hj1 hj2
              rw [hset, if_neg (by omega)]; exact hunt j hj1 hj2
            · intro t v' e
              have : d' ≠ t := by rintro rfl; rw [hfr i him _ hd] at e; simp at e
              rw [put_getD this]; exact E1 t v' e
            · intro x hx hlx d2 v' hd2 hl2
              have hxm := hlm x hx
              by_cases hxi : x = i
              · rw [hxi, hd] at hd2
                have := Option.some.inj hd2
                subst this
                rw [hl] at hl2
                have := Option.some.inj hl2
                subst this
                exact put_getD_self (by omega)
              · have hne : d' ≠ d2 := by rintro rfl; exact hdist x i hxm him hxi _ hd2 hd
                rw [put_getD hne]
                rw [hset, if_neg (fun e => hxi e.symm)] at hlx
                exact E2 x hx hlx d2 v' hd2 hl2
        · have hdone : (kn ++ ac).contains i = false := by
            simp only [List.contains_eq_mem, decide_eq_false_iff_not, List.mem_append, not_or]
            exact ⟨hik, fun hia => by rw [hact i hia] at h2; simp at h2⟩
          have hhead : i ∈ t.heads := by
            cases t with
            | fin =>
              simp only [PT.ok, Bool.true_and] at htk
              have := List.all_eq_true.1 htk i (List.mem_range.2 him)
              rw [hdone] at this; simp at this
            | read i t => exact hta.elim
            | no => exact hta.elim
            | alt i0 t0 r0 =>
              have htk' := htk
              simp only [PT.ok, Bool.and_eq_true] at htk'
              obtain ⟨⟨⟨⟨g0, g1⟩, g2⟩, g3⟩, g4⟩ := htk'
              simp only [Bool.not_true, Bool.false_or] at g0
              have g5 := List.all_eq_true.1 g0 i (List.mem_range.2 him)
              simp only [Bool.or_eq_true] at g5
              rcases g5 with (g5 | g5) | g5
              · rw [hdone] at g5; simp at g5
              · simpa using g5
              · exfalso
                obtain ⟨q, hq1, hq2⟩ := List.any_eq_true.1 g5
                have hlj := h3 q hq1
                have hqi := hback i h1 q hq1
                rw [getD_any (c := true) (by omega)] at hlj
                have := hun q (by omega) (by simpa using hq2)
                rw [this] at hlj; simp at hlj
          obtain ⟨_, _, t', htk', o, ho, hkl⟩ := RT.pick hrd htk hhead
          have hdo : dstAt ops i = o.dst := by simp [dstAt, ho]
          refine wpOp_of_KLo ho (hag o ho) (C := fun v w' => ∃ s', s'.w = w' ∧ Step K s s' ∧ RT P n Df ops K Fin t' (ext o v ρ) s') ?_ (fun d hd => hdst i him d (hdo.trans hd)) hkl ?_
          · rintro e ρ' w' ⟨e1, s', v, e2, e3, e4, e5⟩
            exact ⟨e1, v, e4, s', e2, e3, e5⟩
          · rintro v w' ⟨s', rfl, st, hr⟩
            have hnel : ∀ d', dstAt ops i = some d' → ∀ t v', look ρ t = some v' → d' ≠ t := by
              rintro d' hd t v' e rfl
              rcases E3 _ v' e with h | ⟨x, hx, hxd⟩
              · rw [hfr i him _ hd] at h; simp at h
              · refine hdist x i (hlm x hx) him ?_ _ hxd hd
                rintro rfl
                simp only [List.contains_eq_mem, decide_eq_false_iff_not] at hdone
                exact hdone hx
            have hold : ∀ t v', look ρ t = some v' → look (ext o v ρ) t = some v' := by
              intro t v' e
              unfold ext
              cases hd : o.dst with
              | none => exact e
              | some d' => exact hext d' v (hdo.trans hd) (hnel d' (hdo.trans hd)) t v' e
            have hnew : ∀ t v', look (ext o v ρ) t = some v' → look ρ t = some v' ∨ (dstAt ops i = some t ∧ v' = v) := by
              intro t v' e
              unfold ext at e
              cases hd : o.dst with
              | none => rw [hd] at e; exact .inl e
              | some d' =>
                rw [hd] at e
                simp only [look] at e
                by_cases he : d' = t
                · subst he; simp at e; exact .inr ⟨hdo.trans hd, e.symm⟩
                · have e' : Nat.beq d' t = false := by rw [← Bool.not_eq_true, Nat.beq_eq]; exact he
                  rw [e'] at e; exact .inl e
            have hget : ∀ d', dstAt ops i = some d' → look (ext o v ρ) d' = some v := by
              intro d' hd
              rw [hdo] at hd
              unfold ext
              rw [hd]; simp [look]
            have hputs : (a.put o.dst v).tmps.size = n := by cases o.dst <;> simp [Act.put, hts]
            have hputd : (a.put o.dst v).defers = Df.df := by cases o.dst <;> simp [Act.put, hds]
            have hputo : ∀ t, (∀ d', dstAt ops i = some d' → d' ≠ t) → (a.put o.dst v).tmps.getD t undef = a.tmps.getD t undef := by
              intro t ht
              cases hd : o.dst with
              | none => rfl
              | some d' => exact put_getD (ht d' (hdo.trans hd))
            have hputs2 : ∀ d', dstAt ops i = some d' → (a.put o.dst v).tmps.getD d' undef = v := by
              intro d' hd
              have hdn := hdst i him d' hd
              rw [hdo] at hd
              rw [hd]; exact put_getD_self (by omega)
            have hlm2 : ∀ x ∈ i :: (kn ++ ac), x < m := by
              intro x hx
              rcases List.mem_cons.1 hx with rfl | hx
              · exact him
              · exact hlm x hx
            obtain ⟨pre2, t2, ρ2, q0, q1, q2, q4, q5, q6, q7⟩ := RT.peel hdist (t := t') (done := i :: (kn ++ ac)) (ρ := ext o v ρ) (s := s') hlm2 htk' (fun j hj hjc dx hdx => by
                simp only [List.contains_eq_mem, List.mem_cons, decide_eq_false_iff_not, not_or] at hjc
                cases hl : look (ext o v ρ) dx with
                | none => rfl
                | some v' =>
                  exfalso
                  rcases hnew _ _ hl with hl | ⟨hdi, _⟩
                  · rcases E3 _ v' hl with h | ⟨y, hy, hyd⟩
                    · rw [hfr j hj _ hdx] at h; simp at h
                    · refine hdist y j (hlm y hy) hj ?_ _ hyd hdx
                      rintro rfl
                      exact hjc.2 hy
                  · exact hdist j i hj him hjc.1 _ hdx hdi) ((Step.refl s').of0 hK) hr
            have hρ2 : ∀ t v', look ρ t = some v' → look ρ2 t = some v' := fun t v' e => q5 t v' (hold t v' e)
            have hperm : ∀ x, (x ∈ (pre2 ++ kn) ++ (i :: ac)) ↔ (x ∈ pre2 ∨ x = i ∨ x ∈ kn ++ ac) := by
              intro x
              simp only [List.mem_append, List.mem_cons]
              constructor
              · rintro ((h | h) | h | h)
                · exact .inl h
                · exact .inr (.inr (.inl h))
                · exact .inr (.inl h)
                · exact .inr (.inr (.inr h))
              · rintro (h | h | h | h)
                · exact .inl (.inl h)
                · exact .inr (.inl h)
                · exact .inl (.inr h)
                · exact .inr (.inr h)
            have hcontains : ∀ x, ((pre2 ++ kn) ++ (i :: ac)).contains x = (pre2 ++ (i :: (kn ++ ac))).contains x := by
              intro x
              rw [Bool.eq_iff_iff]
              simp only [List.contains_eq_mem, decide_eq_true_eq]
              rw [hperm]
              simp [List.mem_append, List.mem_cons]
            refine ih _ _ (pre2 ++ kn) (i :: ac) t2 ρ2 s' (by simpa using hsz) (by omega) q0 (by rw [PT.ok_congr hcontains]; exact q1) ?_ ?_ ?_ ?_ ?_ hdown2 hputs hputd ?_ ?_ ?_ ?_ q7
            · intro x hx
              rcases (hperm x).1 hx with h | h | h
              · exact (q2 x h).1
              · subst h; exact him
              · exact hlm x h
            · intro x hx
              rcases List.mem_append.1 hx with h | h
              · exact q4 x h
              · exact (hkn x h).up st hρ2
            · intro x hx
              rw [hset]
              rcases List.mem_cons.1 hx with h | h
              · subst h; simp
              · split
                · rfl
                · exact hact x h
            · intro x hx hxc
              rw [hcontains] at hxc
              simp only [List.contains_eq_mem, decide_eq_false_iff_not, List.mem_append, List.mem_cons, not_or] at hxc
              rw [hset, if_neg (fun e => hxc.2.1 e.symm)]
              exact hun x hx (by simp only [List.contains_eq_mem, decide_eq_false_iff_not, List.mem_append, not_or]; exact hxc.2.2)
            · intro j hj1 hj2
              rw [hset, if_neg (by omega)]; exact hunt j hj1 hj2
            · intro t v' e
              rw [hputo t (fun d' hd => by rintro rfl; rw [hfr i him _ hd] at e; simp at e)]; exact E1 t v' e
            · intro x hx hlx d2 v' hd2 hl2
              rcases (hperm x).1 hx with h | h | h
              · exfalso
                have h5 := q2 x h
                simp only [List.contains_eq_mem, List.mem_cons, decide_eq_false_iff_not, not_or] at h5
                rw [hset, if_neg (fun e => h5.2.1 e.symm)] at hlx
                have := hun x h5.1 (by simp only [List.contains_eq_mem, decide_eq_false_iff_not]; exact h5.2.2)
                rw [hlx] at this; simp at this
              · subst h
                have := q5 d2 v (hget d2 hd2)
                rw [hl2] at this
                have := Option.some.inj this
                subst this
                exact hputs2 d2 hd2
              · have hxi : x ≠ i := by
                  rintro rfl
                  simp only [List.contains_eq_mem, decide_eq_false_iff_not] at hdone
                  exact hdone h
                rw [hputo d2 (fun d' hd => by rintro rfl; exact hdist x i (hlm x h) him hxi _ hd2 hd)]
                rw [hset, if_neg (fun e => hxi e.symm)] at hlx
                obtain ⟨v2, hv2⟩ := E4 x h d2 hd2
                have := hρ2 d2 v2 hv2
                rw [hl2] at this
                have := Option.some.inj this
                subst this
                exact E2 x h hlx d2 v' hd2 hv2
            · intro t v' e
              rcases q6 t v' e with h | ⟨x, hx, hxd⟩
              · rcases hnew t v' h with h | ⟨h, _⟩
                · rcases E3 t v' h with h | ⟨x, hx, hxd⟩
                  · exact .inl h
                  · exact .inr ⟨x, (hperm x).2 (.inr (.inr hx)), hxd⟩
                · exact .inr ⟨i, (hperm i).2 (.inr (.inl rfl)), h⟩
              · exact .inr ⟨x, (hperm x).2 (.inl hx), hxd⟩
            · intro x hx d2 hd2
              rcases (hperm x).1 hx with h | h | h
              · obtain ⟨o2, d3, c2, g1, g2, g3, _⟩ := q4 x h
                have : dstAt ops x = some d3 := by simp [dstAt, g1, g2]
                rw [hd2] at this
                have := Option.some.inj this
                subst this
                exact ⟨c2, g3⟩
              · subst h
                exact ⟨v, q5 d2 v (hget d2 hd2)⟩
              · obtain ⟨v2, hv2⟩ := E4 x h d2 hd2
                exact ⟨v2, hρ2 d2 v2 hv2⟩
end
section
variable {P : Program} {n : Nat} {Df : Md} {F : Post} {k : List It} {ρ : Env} {s : St}
theorem jBl {id : Nat} {l : List Oper} (K : Lab → Prop) (m : Nat) (t : PT) (hm : P.follows .mixedOrders = true) (hK : ∀ c, ¬ K ⟨0, c⟩) (hreg : regOk l.toArray n m = true) (hok : PT.ok l.toArray m true [] t = true) (hf : freshOk l.toArray m ρ = true)
    (h : ∀ s1, Step K0 s s1 → RT P n Df l.toArray K (fun ρ' s' => KL P n Df l.toArray (Qs P n Df F k) (l.drop m) ρ' s'.w) t ρ s1) : G P n Df F (.code (.region id l.toArray true) :: k) ρ s.w := by
  intro a ha
  let s1 : St := ⟨{ s.w with drawn := s.w.drawn + 1 }, s.g, s.wf⟩
  have st : Step K0 s s1 := ⟨rfl, rfl, rfl, Nat.le_refl _, fun _ _ _ => ⟨rfl, rfl⟩, fun _ h => h⟩
  refine wpIn_region_any hm ?_
  have hreg' := hreg
  simp only [regOk, Bool.and_eq_true] at hreg'
  obtain ⟨⟨⟨⟨⟨k1, k4⟩, k5⟩, k6⟩, k7⟩, k8⟩ := hreg'
  have hmle : m ≤ l.toArray.size := by simpa using k1
  have hfr : ∀ i, i < m → ∀ d, dstAt l.toArray i = some d → look ρ d = none := by
    intro i hi d hd
    have := List.all_eq_true.1 hf i (List.mem_range.2 hi)
    rw [hd] at this
    simpa using this
  have hdist : ∀ i j, i < m → j < m → i ≠ j → ∀ d, dstAt l.toArray i = some d → dstAt l.toArray j ≠ some d := by
    intro i j hi hj hne d hd hd'
    have := List.all_eq_true.1 (List.all_eq_true.1 k8 i (List.mem_range.2 hi)) j (List.mem_range.2 hj)
    simp only [Bool.or_eq_true, Nat.beq_eq, bne_iff_ne, ne_eq] at this
    rcases this with h | h | h
    · exact hne h
    · exact h (hd.trans hd'.symm)
    · rw [hd] at h; simp at h
  obtain ⟨pre, t', ρ', q0, q1, q2, q4, q5, q6, q7⟩ := RT.peel hdist (t := t) (done := []) (fun x hx => by simp at hx) hok (fun j hj _ d hd => hfr j hj d hd) ((Step.refl s1).of0 hK) (h s1 st)
  have hfalse' : ∀ i, i < l.toArray.size → (Array.replicate l.toArray.size false).getD i true = false := by
    intro i h
    have h' : i < l.length := by simpa using h
    simp [Array.getD_eq_getD_getElem?, h']
  refine tree_sim hK hreg hf (fun ρ s a hF ha => ?_) l.toArray.size (Array.replicate l.toArray.size false) a pre [] t' ρ' s1 (by simp) ?_ q0 q1 (fun x hx => ?_) q4 (fun x hx => by simp at hx) (fun x hx _ => hfalse' x (by omega)) (fun i h1 h2 => hfalse' i h2) (fun i hi hl => by rw [hfalse' i hi] at hl; simp at hl) ha.size ha.defers (fun t v e => ha.get t v e) ?_ (fun t v e => by
      rcases q6 t v e with h | ⟨x, hx, hxd⟩
      · exact .inl h
      · exact .inr ⟨x, by simp [hx], hxd⟩) ?_ q7
  · simpa using hF a ha
  · have : (List.range m).countP (fun i => !(Array.replicate l.toArray.size false).getD i true) ≤ m := by
      have := List.countP_le_length (p := fun i => !(Array.replicate l.toArray.size false).getD i true) (l := List.range m)
      simpa using this
    omega
  · exact (q2 x (by simpa using hx)).1
  · intro x hx hlx
    have hxm := (q2 x (by simpa using hx)).1
    rw [hfalse' x (by omega)] at hlx
    simp at hlx
  · intro x hx d hd
    obtain ⟨o, d', c, g1, g2, g3, _⟩ := q4 x (by simpa using hx)
    have : dstAt l.toArray x = some d' := by simp [dstAt, g1, g2]
    rw [hd] at this
    have := Option.some.inj this
    subst this
    exact ⟨c, g3⟩
end
section
variable {P : Program} {n : Nat} {Df : Md} {ops : Array Oper} {K : Lab → Prop} {Fin : Env → St → Prop} {r r2 : PT} {i : Nat} {ρ : Env} {s : St}
variable {d j : Nat} {ty : TypeId} {pos : String} {aft : Array Edge} {x y : Operand} {tx : TypeId} {g : Option (Nat × Bool)}
theorem jBg (h : Fin ρ s) : RT P n Df ops K Fin .fin ρ s := h
theorem jAb {o : Oper} {d : Nat} (c : Value) (ho : ops[i]? = some o) (hd : o.dst = some d) (h : ∀ s', Step K s s' → KL P n Df ops (FQ d c s'.w) [o] (rst ρ (o.looksAt ops)) s'.w) (hr : RT P n Df ops K Fin r ((d, c) :: ρ) s) :
    RT P n Df ops K Fin (.read i r) ρ s := ⟨o, d, c, ho, hd, h, hr⟩
theorem jCl {o : Oper} {d : Nat} (ho : ops[i]? = some o) (hd : o.dst = some d)
    (h : KL P n Df ops (fun e ρ' w' => e = .normal ∧ ∃ s' v, s'.w = w' ∧ Step K s s' ∧ look ρ' d = some v ∧ RT P n Df ops K Fin r ((d, v) :: ρ) s') [o] (rst ρ (o.looksAt ops)) s.w) (h2 : RT P n Df ops K Fin r2 ρ s) :
    RT P n Df ops K Fin (.alt i r r2) ρ s := by
  refine ⟨⟨o, ho, ?_⟩, h2⟩
  have e : (fun (e : Exit) (ρ' : Env) (w' : World) => e = .normal ∧ ∃ s' v, s'.w = w' ∧ Step K s s' ∧ (∀ d, o.dst = some d → look ρ' d = some v) ∧ RT P n Df ops K Fin r (ext o v ρ) s') = (fun e ρ' w' => e = .normal ∧ ∃ s' v, s'.w = w' ∧ Step K s s' ∧ look ρ' d = some v ∧ RT P n Df ops K Fin r ((d, v) :: ρ) s') := by
    funext e ρ' w'
    simp [ext, hd]
  rw [e]; exact h
theorem jBa {o : Oper} {d : Nat} (ho : ops[i]? = some o) (hd : o.dst = some d)
    (h : KL P n Df ops (fun e ρ' w' => e = .normal ∧ ∃ s' v, s'.w = w' ∧ Step K s s' ∧ look ρ' d = some v ∧ RT P n Df ops K Fin r ((d, v) :: ρ) s') [o] (rst ρ (o.looksAt ops)) s.w) :
    RT P n Df ops K Fin (.alt i r .no) ρ s := jCl ho hd h trivial
theorem rt_alt0 {o : Oper} (ho : ops[i]? = some o) (hd : o.dst = none)
    (h : KL P n Df ops (fun e ρ' w' => e = .normal ∧ ∃ s', s'.w = w' ∧ Step K s s' ∧ RT P n Df ops K Fin r ρ s') [o] (rst ρ (o.looksAt ops)) s.w) (h2 : RT P n Df ops K Fin r2 ρ s) :
    RT P n Df ops K Fin (.alt i r r2) ρ s := by
  refine ⟨⟨o, ho, ?_⟩, h2⟩
  have e : (fun (e : Exit) (ρ' : Env) (w' : World) => e = .normal ∧ ∃ s' v, s'.w = w' ∧ Step K s s' ∧ (∀ d, o.dst = some d → look ρ' d = some v) ∧ RT P n Df ops K Fin r (ext o v ρ) s') = (fun e ρ' w' => e = .normal ∧ ∃ s', s'.w = w' ∧ Step K s s' ∧ RT P n Df ops K Fin r ρ s') := by
    funext e ρ' w'
    refine propext (and_congr_right fun _ => ⟨?_, ?_⟩)
    · rintro ⟨s', v, e1, e2, e3, e4⟩; exact ⟨s', e1, e2, by simpa [ext, hd] using e4⟩
    · rintro ⟨s', e1, e2, e4⟩; exact ⟨s', undef, e1, e2, fun d h => (by rw [hd] at h; cases h), by simpa [ext, hd] using e4⟩
  rw [e]; exact h
theorem rt_act0 {o : Oper} (ho : ops[i]? = some o) (hd : o.dst = none)
    (h : KL P n Df ops (fun e ρ' w' => e = .normal ∧ ∃ s', s'.w = w' ∧ Step K s s' ∧ RT P n Df ops K Fin r ρ s') [o] (rst ρ (o.looksAt ops)) s.w) :
    RT P n Df ops K Fin (.alt i r .no) ρ s := rt_alt0 ho hd h trivial
theorem rt_cont0 {ρr : Env} {s s' : St} (st : Step K s s') (h : RT P n Df ops K Fin r ρ s') :
    KL P n Df ops (fun e ρ' w' => e = .normal ∧ ∃ s', s'.w = w' ∧ Step K s s' ∧ RT P n Df ops K Fin r ρ s') [] ρr s'.w :=
  fun a ha => ⟨_, ha, rfl, s', rfl, st, h⟩
theorem jAt {d : Nat} {v : Value} {ρr : Env} {s s' : St} (st : Step K s s') (h : RT P n Df ops K Fin r ((d, v) :: ρ) s') :
    KL P n Df ops (fun e ρ' w' => e = .normal ∧ ∃ s' v, s'.w = w' ∧ Step K s s' ∧ look ρ' d = some v ∧ RT P n Df ops K Fin r ((d, v) :: ρ) s') [] ((d, v) :: ρr) s'.w :=
  fun a ha => ⟨_, ha, rfl, s', v, rfl, st, by simp [look], h⟩
theorem rt_split {t : Nat} {p : Prop} [inst : Decidable p] {L : PT} (ht : p → RT P n Df ops K Fin L ((t, .bool true) :: ρ) s) (hf : ¬ p → RT P n Df ops K Fin L ((t, .bool false) :: ρ) s) : RT P n Df ops K Fin L ((t, .bool (decide p)) :: ρ) s := by
  by_cases hp : p
  · rw [decide_eq_true hp]; exact ht hp
  · rw [decide_eq_false hp]; exact hf hp
theorem rt_splitb {t : Nat} {b : Bool} {L : PT} (ht : b = true → RT P n Df ops K Fin L ((t, .bool true) :: ρ) s) (hf : b = false → RT P n Df ops K Fin L ((t, .bool false) :: ρ) s) : RT P n Df ops K Fin L ((t, .bool b) :: ρ) s := by
  cases b
  · exact hf rfl
  · exact ht rfl
theorem jBy {l : Lab} {v : Value} {w : Nat} {ds : List D} {dd : D} {e : TypeId} {k : IntKind} {p : Int}
    (ho : ops[i]? = some ⟨some d, .indexAddr tx x y, ty, pos, aft, g⟩) (hg : Wanted P n Df ops (rst ρ ((⟨some d, .indexAddr tx x y, ty, pos, aft, g⟩ : Oper).looksAt ops)) ⟨some d, .indexAddr tx x y, ty, pos, aft, g⟩)
    (hT : P.underlying tx = some (.slice e)) (hs : sizeT P e w = true) (hx : ev (rst ρ ((⟨some d, .indexAddr tx x y, ty, pos, aft, g⟩ : Oper).looksAt ops)) x = some v) (hy : ev (rst ρ ((⟨some d, .indexAddr tx x y, ty, pos, aft, g⟩ : Oper).looksAt ops)) y = some (.int k p)) (h : SL s l v w ds)
    (h0 : 0 ≤ p) (hdd : ds[p.toNat]? = some dd) (hd : Nat.blt d n = true) (hr : ∀ q, At s l q dd → RT P n Df ops K Fin r ((d, q) :: ρ) s) : RT P n Df ops K Fin (.read i r) ρ s := by
  obtain ⟨b, off, cap, rfl, ha⟩ := h.at hdd
  have hlt : p.toNat < ds.length := (List.getElem?_eq_some_iff.1 hdd).1
  exact jAb _ ho rfl (fun s' st => hg _ _ (k_ixaddrP hT hs hx hy h0 (show p < (ds.length : Int) by omega) hd jAe)) (hr _ ha)
theorem rt_fa {t : TypeId} {f : Nat} {l : Lab} {p : Value} {ds : List D} {dd : D}
    (ho : ops[i]? = some ⟨some d, .fieldAddr t x f, ty, pos, aft, g⟩) (hg : Wanted P n Df ops (rst ρ ((⟨some d, .fieldAddr t x f, ty, pos, aft, g⟩ : Oper).looksAt ops)) ⟨some d, .fieldAddr t x f, ty, pos, aft, g⟩)
    (hx : ev (rst ρ ((⟨some d, .fieldAddr t x f, ty, pos, aft, g⟩ : Oper).looksAt ops)) x = some p) (h : At s l p (.agg ds)) (hf : ds[f]? = some dd) (hF : fieldT P t f = some (D.wd.wdL (ds.take f))) (hd : Nat.blt d n = true)
    (hr : ∀ q, At s l q dd → RT P n Df ops K Fin r ((d, q) :: ρ) s) : RT P n Df ops K Fin (.read i r) ρ s := by
  obtain ⟨b, o, rfl, h'⟩ := h.field hf
  exact jAb _ ho rfl (fun s' st => hg _ _ (jAf hF hx hd jAe)) (hr _ h')
end
theorem Own.relabel {s : St} {l : Lab} {e : TypeId} {w : Nat} {v : Value} {ds : List D} (q c : Nat) (h : Own s l e w v ds) (hq : q < l.o) (hs : q ≤ s.n) : ∃ s', s'.w = s.w ∧ Step (KC l.o l.c) s s' ∧ Own s' ⟨q + 1, c⟩ e w v ds := by
  classical
  obtain ⟨h0, h1, xs, ho, hg, hr⟩ := h
  let s' : St := ⟨s.w, fun b => if v.ownBlock = some b then ⟨q + 1, c⟩ else s.g b, fun b => by
    by_cases hb : v.ownBlock = some b
    · have := s.wf b; rw [hg b hb] at this; simp [hb]; omega
    · simp [hb]; exact s.wf b⟩
  have hst : Step (KC l.o l.c) s s' := ⟨rfl, rfl, rfl, Nat.le_refl _, fun b hb hk => ⟨rfl, by
    by_cases hvb : v.ownBlock = some b
    · exact absurd ⟨by rw [hg b hvb], by rw [hg b hvb]⟩ hk
    · simp [s', hvb]⟩, fun c hc => h0 hc.1.symm⟩
  exact ⟨s', rfl, hst, Nat.succ_ne_zero _, Nat.succ_le_succ hs, xs, ho, fun g hgb => by simp [s', hgb], hr.up hst⟩
abbrev KN (q : Nat) : Lab → Prop := fun l => q < l.o
theorem SL.up2 {K : Lab → Prop} {s s' : St} {l : Lab} {v : Value} {w : Nat} {ds : List D} (h : SL s l v w ds) (st : Step K s s') (hk : ¬ K l := by first | exact id | (simp only [KU, KN, KC, KO, K0, KB] <;> omega)) : SL s' l v w ds := h.up st hk
theorem Own.up2 {K : Lab → Prop} {s s' : St} {l : Lab} {e : TypeId} {v : Value} {w : Nat} {ds : List D} (h : Own s l e w v ds) (st : Step K s s') (hk : ¬ K l := by first | exact id | (simp only [KU, KN, KC, KO, K0, KB] <;> omega)) : Own s' l e w v ds := h.up st hk
theorem Blk.up2 {K : Lab → Prop} {s s' : St} {b : Nat} {l : Lab} {cs : List Value} {T : TypeId} (h : Blk s b l cs T) (st : Step K s s') (hk : ¬ K l := by first | exact id | (simp only [KU, KN, KC, KO, K0, KB] <;> omega)) : Blk s' b l cs T := h.up st hk
theorem At.up2 {K : Lab → Prop} {s s' : St} {l : Lab} {p : Value} {d : D} (h : At s l p d) (st : Step K s s') (hk : ¬ K l := by first | exact id | (simp only [KU, KN, KC, KO, K0, KB] <;> omega)) : At s' l p d := h.up st hk
theorem R.up2 {K : Lab → Prop} {s s' : St} {v : Value} {d : D} (h : R s v d) (st : Step K s s') : R s' v d := h.up st
theorem ones.nil : ([] : List Value).all Value.oneCell' = true := rfl
theorem ones.cons {v : Value} {vs : List Value} (h : v.oneCell' = true) (hr : vs.all Value.oneCell' = true) : (v :: vs).all Value.oneCell' = true := by rw [List.all_cons, h, hr]; rfl
section
variable {P : Program} {n : Nat} {Df : Md} {ops : Array Oper} {Q : Post} {rest : List Oper} {ρ : Env} {s : St} {w0 : World}
variable {d : Nat} {ty : TypeId} {pos : String} {aft : Array Edge} {x y : Operand} {tx tyy : TypeId}
theorem k_bslice2 {t e w m : Nat} {z : Value} {ps : List (Nat × Operand)} {vs : List Value} {ds : List D} (hT : sliceT P t e w z) (hx : evp ρ 0 ps = some vs) (hr : RVs s vs ds) (hm : ds.length = m) (hw : ds.all (fun d => Nat.beq d.wd w) = true) (hs : Nat.ble (m * w) 16777216 = true) (hd : Nat.blt d n = true)
    (hK : ∀ s' v b, Step K0 s s' → s.n ≤ b → b < s'.n → Own s' ⟨b + 1, 0⟩ e w v ds → KL P n Df ops Q rest ((d, v) :: ρ) s'.w) :
    KL P n Df ops Q (⟨some d, .buildSlice t m ps.toArray, ty, pos, aft, none⟩ :: rest) ρ s.w := by
  have hw' : ∀ d ∈ ds, d.wd = w := fun d hd => Nat.eq_of_beq_eq_true (List.all_eq_true.1 hw d hd)
  have hcs := hr.cells hw'
  have hlen := hr.len
  have hvw := hr.sizes hw'
  have st : Step K0 s (s.to (s.w.alloc (.cells ((vs.map fun v => v.cells.toList).flatten).toArray e)) ⟨s.n + 1, 0⟩ (Nat.le_refl _)) := St.to_alloc
  have hs' : m * w ≤ 16777216 := by simpa using hs
  have hm2 : m ≤ 16777216 := by
    have h1 : m * 1 ≤ m * w := Nat.mul_le_mul_left m hT.2.2.2.2
    omega
  refine .val rfl rfl hd (v := .slice (some ⟨s.n, 0, none⟩) m m) (w' := s.w.alloc (.cells ((vs.map fun v => v.cells.toList).flatten).toArray e)) (fun η ha => ?_) (hK (s.to _ ⟨s.n + 1, 0⟩ (Nat.le_refl _)) _ s.n st (Nat.le_refl _) (by show s.n < (s.w.alloc _).heap.size; simp) ⟨by simp, ?_, _, ⟨hcs.1, .inr ⟨s.n, m, _, by rw [hm], Nat.zero_le _, heap_alloc_new _ _, by omega, by unfold maxLen; omega, by simp [hcs.1, hm], ?_⟩⟩, ?_, hcs.up st⟩)
  · have := run_buildSlice (P := P) (w0 := s.w) (vs := vs) (m := m) hT (by omega) hvw hs'
    simp only [execOp]
    have hev := ha.evp hx
    have hpa : (ps.toArray.map fun (p : Nat × Operand) => (p.1, η p.2)) = ((vs.zipIdx 0).map fun p => (p.2, p.1)).toArray := by rw [← hev]; simp
    simp [hpa, this]
  · show s.n + 1 ≤ (s.w.alloc _).heap.size + 1
    simp
  · rw [List.toList_toArray, List.take_of_length_le (by rw [hcs.1]; exact Nat.le_refl _)]
  · intro g hg
    simp [Value.ownBlock] at hg
    exact St.to_g_new (by omega)
theorem k_make2 {t e w bytes : Nat} {z : Value} {dz : D} {k k' : IntKind} {c : Nat} (hT : elemT P t e w bytes z) (hx : ev ρ x = some (.int k c)) (hy : ev ρ y = some (.int k' c)) (hz : RC s z.cells.toList dz) (hw : dz.wd = w)
    (hb : bytes * c ≤ 281474976710656) (hc : c ≤ 9223372036854775807) (hd : Nat.blt d n = true)
    (hK : ∀ s' v b, Step K0 s s' → s.n ≤ b → b < s'.n → Own s' ⟨b + 1, 0⟩ e w v (List.replicate c dz) → KL P n Df ops Q rest ((d, v) :: ρ) s'.w) :
    KL P n Df ops Q (⟨some d, .makeSlice t x y, ty, pos, aft, none⟩ :: rest) ρ s.w := by
  obtain ⟨i, h1, h2, h3, h4, h5, h6, h7⟩ := hT
  have st : Step K0 s (s.to (s.w.alloc (.cells (madeCells z.cells (c * w)) e)) ⟨s.n + 1, 0⟩ (Nat.le_refl _)) := St.to_alloc
  have hcs : RCs s w (madeCells z.cells (c * w)).toList (List.replicate c dz) := RCs.madeCells hz hw h7
  have hb' : (i.bytes : Int) * (c : Int) ≤ 281474976710656 := by
    have h : ((bytes * c : Nat) : Int) ≤ 281474976710656 := by omega
    rw [h5]
    rwa [Int.natCast_mul] at h
  refine .val rfl rfl hd (v := .slice (some ⟨s.n, 0, none⟩) c c) (w' := s.w.alloc (.cells (madeCells z.cells (c * w)) e)) (fun η ha => ?_)
    (hK (s.to _ ⟨s.n + 1, 0⟩ (Nat.le_refl _)) _ s.n st (Nat.le_refl _) (by show s.n < (s.w.alloc _).heap.size; simp) ⟨by simp, ?_, _, ⟨hcs.1, .inr ⟨s.n, c, _, by simp, Nat.zero_le _, heap_alloc_new _ _, by simp, by unfold maxLen; omega, by simp [size_madeCells], ?_⟩⟩, ?_, hcs.up st⟩)
  · have := run_make (P := P) s.w t e i z h1 h2 h3 k k' c c (by omega) (Int.le_refl _) hb' (by omega)
    simp only [Int.toNat_natCast, h4] at this
    simp [execOp, ha.ev hx, ha.ev hy, this]
  · show s.n + 1 ≤ (s.w.alloc _).heap.size + 1
    simp
  · rw [List.take_of_length_le (by rw [hcs.1]; simp)]
  · intro g hg
    simp [Value.ownBlock] at hg
    exact St.to_g_new (by omega)
theorem k_makeI2 {t e w bytes : Nat} {z : Value} {dz : D} {k k' : IntKind} {p : Int} (hT : elemT P t e w bytes z) (hx : ev ρ x = some (.int k p)) (hy : ev ρ y = some (.int k' p)) (h0 : 0 ≤ p) (hz : RC s z.cells.toList dz) (hw : dz.wd = w)
    (hb : bytes * p ≤ 281474976710656) (hc : p ≤ 9223372036854775807) (hd : Nat.blt d n = true)
    (hK : ∀ s' v b, Step K0 s s' → s.n ≤ b → b < s'.n → Own s' ⟨b + 1, 0⟩ e w v (List.replicate p.toNat dz) → KL P n Df ops Q rest ((d, v) :: ρ) s'.w) :
    KL P n Df ops Q (⟨some d, .makeSlice t x y, ty, pos, aft, none⟩ :: rest) ρ s.w := by
  obtain ⟨c, rfl⟩ := Int.eq_ofNat_of_zero_le h0
  rw [Int.toNat_natCast] at hK
  exact k_make2 hT hx hy hz hw (by have h : ((bytes * c : Nat) : Int) ≤ 281474976710656 := (by rw [Int.natCast_mul]; exact hb); omega) (by omega) hd hK
end
abbrev cI (z : Int) : Value := .int .i64 z
theorem Blk.relabel {s : St} {b : Nat} {l : Lab} {cs : List Value} {T : TypeId} (q c : Nat) (h : Blk s b l cs T) (hq : q < l.o) (hs : q ≤ s.n) : ∃ s', s'.w = s.w ∧ Step (KC l.o l.c) s s' ∧ Blk s' b ⟨q + 1, c⟩ cs T := by
  classical
  let s' : St := ⟨s.w, fun b' => if b' = b then ⟨q + 1, c⟩ else s.g b', fun b' => by
    by_cases hb : b' = b
    · have := s.wf b'; subst hb; rw [h.lab] at this; simp; omega
    · simp [hb]; exact s.wf b'⟩
  have hst : Step (KC l.o l.c) s s' := ⟨rfl, rfl, rfl, Nat.le_refl _, fun b' hb hk => ⟨rfl, by
    by_cases hvb : b' = b
    · subst hvb; exact absurd ⟨by rw [h.lab], by rw [h.lab]⟩ hk
    · simp [s', hvb]⟩, fun c hc => by have := hc.1; simp at this; omega⟩
  exact ⟨s', rfl, hst, ⟨h.heap, by simp [s']⟩⟩
end Go.Fw

set_option linter.unusedSimpArgs false
set_option linter.unusedVariables false
namespace Go.Fw
section
variable {P : Program} {n : Nat} {Df : Md} {F : Post} {k : List It} {ρ : Env} {w : World}
def RG (P : Program) (n : Nat) (Df : Md) (F : Post) (body : Code) (k : List It) : Nat → Env → World → Prop
  | 0, _, _ => False
  | m + 1, ρ, w => G P n Df F (.code body :: .stop (fun ρ' w' => RG P n Df F body k m ρ' w') :: k) ρ w
end
section
variable {P : Program} {n : Nat} {Df : Md} {ops : Array Oper} {Q : Post} {rest : List Oper} {ρ : Env} {s : St} {w0 : World}
variable {d : Nat} {ty : TypeId} {pos : String} {aft : Array Edge} {x y : Operand} {tx tyy : TypeId}
def andI (p q : Int) : Int := IntKind.i64.wrap ((BitVec.ofInt IntKind.i64.bits p &&& BitVec.ofInt IntKind.i64.bits q).toNat : Int)
def eqv : Value → Value → Bool
  | .int _ a, .int _ b => decide (a = b)
  | .bool a, .bool b => decide (a = b)
  | .string a, .string b => decide (a.toList = b.toList)
  | _, _ => false
def eqvs : List Value → List Value → Bool
  | v :: vs, u :: us => eqv v u && eqvs vs us
  | _, _ => true
def alikeV (P : Program) (t : TypeId) : Value → Value → Bool
  | .int k _, .int k' _ => (match P.underlying t with | some (.int _) => decide (k = k') | _ => false)
  | .bool _, .bool _ => (match P.underlying t with | some .bool => true | _ => false)
  | .string _, .string _ => (match P.underlying t with | some .string => true | _ => false)
  | _, _ => false
def alikeF (P : Program) : Nat → List Field → List Value → List Value → Prop
  | _, [], [], [] => True
  | i, f :: fs, v :: vs, u :: us => (f.name ≠ "_" ∧ f.offset = i ∧ (match P.underlying f.type with | some (.struct _) => false | some (.array _ _) => false | some _ => true | none => false) = true ∧ alikeV P f.type v u = true) ∧ alikeF P (i + 1) fs vs us
  | _, _, _, _ => False
def flatT (P : Program) (t : TypeId) (vs us : List Value) : Prop := P.underlying t = some (.struct (P.fieldsOf t)) ∧ P.stoodInHeld t = false ∧ P.eqGuardType P.depth t = false ∧ alikeF P 0 (P.fieldsOf t).toList vs us
end
section
variable {P : Program} {n : Nat} {Df : Md} {ops : Array Oper} {K : Lab → Prop} {Fin : Env → St → Prop} {r r2 : PT} {i : Nat} {ρ : Env} {s : St}
variable {d j : Nat} {ty : TypeId} {pos : String} {aft : Array Edge} {x y : Operand} {tx : TypeId} {g : Option (Nat × Bool)}
end
section
variable {P : Program} {n : Nat} {Df : Md} {ops : Array Oper} {Q : Post} {rest : List Oper} {ρ : Env} {s : St} {w0 : World}
variable {d : Nat} {ty : TypeId} {pos : String} {aft : Array Edge} {x y : Operand} {tx tyy : TypeId}
theorem jDj {b m : Nat} {l : Lab} {cs cs' : List Value} {T : TypeId} {v : Value} (hT : sizeT P tx m = true) (hx : ev ρ x = some (.pointer (some ⟨b, 0, none⟩))) (hy : ev ρ y = some v) (hb : Blk s b l cs T) (hl0 : l.o ≠ 0)
    (hc : CellsOf v cs') (hm : cs'.length = m) (hcs : cs.length = m)
    (hK : ∀ s', Step (KC l.o l.c) s s' → Blk s' b l cs' T → KL P n Df ops Q rest ρ s'.w) :
    KL P n Df ops Q (⟨none, .store tx x y, ty, pos, aft, none⟩ :: rest) ρ s.w :=
  jAo (cs' := cs') hT hx hy hb hl0 hc (by rw [hm]; exact Nat.beq_refl m) (by rw [hcs, Nat.zero_add]; simp) (by rw [List.take_zero, List.nil_append, Nat.zero_add, List.drop_eq_nil_of_le (by rw [hcs]; exact Nat.le_refl _), List.append_nil]) hK
end
end Go.Fw

set_option linter.unusedSimpArgs false
set_option linter.unusedVariables false
namespace Go.Fw
def Yields (P : Program) (l : Nat) (vs : List Value) (w : World) (T : Ending → World → Prop) : Prop :=
  ∃ fn tmps assign body, (Instr.yield l vs.toArray).run P w = .ok (.round l fn tmps assign body) w ∧ RoundIn (fnc none) 0 P l fn tmps assign body w T
section
variable {P : Program} {n : Nat} {Df : Md} {ops : Array Oper} {Q : Post} {rest : List Oper} {ρ : Env} {s : St} {w0 : World}
variable {d : Nat} {ty : TypeId} {pos : String} {aft : Array Edge} {x y z : Operand}
theorem k_yield {K : Lab → Prop} {φ : St → Value → Prop} {l : Nat} {xs : List Operand} {ats : Array TypeId} {vs : List Value} (hv : ev ρ x = some (.func (.yield l) #[] #[])) (hx : evs ρ xs = some vs)
    (hy : Yields P l vs s.w (Ret s K φ)) (hd : Nat.blt d n = true)
    (hK : ∀ s' v, Step K s s' → φ s' v → KL P n Df ops Q rest ((d, v) :: ρ) s'.w) :
    KL P n Df ops Q (⟨some d, .call { callee := .value x, args := xs.toArray, argTypes := ats }, ty, pos, aft, none⟩ :: rest) ρ s.w := by
  intro a ha
  refine wpListIn_plain rfl fun K' hk => ?_
  obtain ⟨fn, tmps, assign, body, h1, h2⟩ := hy
  have hr : (execOp a.eval ⟨some d, .call { callee := .value x, args := xs.toArray, argTypes := ats }, ty, pos, aft, none⟩).run P s.w = .ok (.round l fn tmps assign body) s.w := by
    have hx' := Agr.evs (η := a.eval) (fun _ _ e => ha.ev e) hx
    unfold execOp
    simp only [resolve, Deferred.ofValue, ha.ev hv]
    simp [invoke, hx', Sem.run, go_sem, h1]
  refine op_in (x := .round l fn tmps assign body) (by intro d e; cases e) hr ?_
  rw [Oper.uponIn_round]
  refine ⟨fun h => absurd h (by simp), RoundIn.mono h2 ?_⟩
  rintro e w' ⟨s', v, rfl, rfl, st, h⟩
  exact hk _ _ (hK s' v st h _ (ha.put hd v))
end
def LoopR (s : St) (l : Nat) (r : Loop) : Prop := l < s.n ∧ s.g l = ⟨l + 1, 0⟩ ∧ s.w.heap[l]? = some (.loop r)
theorem LoopR.up2 {K : Lab → Prop} {s s' : St} {l : Nat} {r : Loop} (h : LoopR s l r) (st : Step K s s') (hk : ¬ K ⟨l + 1, 0⟩ := by first | exact id | (simp only [KU, KN, KC, KO, K0, KB] <;> omega)) : LoopR s' l r := by
  obtain ⟨h1, h2, h3⟩ := h
  obtain ⟨k1, k2⟩ := st.keep l h1 (by rw [h2]; exact hk)
  exact ⟨Nat.lt_of_lt_of_le h1 st.size, k2.trans h2, k1.trans h3⟩
def Mark (s : St) (D : Nat) : Prop := D < s.n ∧ s.g D = ⟨D + 1, 0⟩ ∧ s.w.heap[D]? = some (.deferred (some []))
theorem Mark.up2 {K : Lab → Prop} {s s' : St} {D : Nat} (h : Mark s D) (st : Step K s s') (hk : ¬ K ⟨D + 1, 0⟩ := by first | exact id | (simp only [KU, KN, KC, KO, K0, KB] <;> omega)) : Mark s' D := by
  obtain ⟨h1, h2, h3⟩ := h
  obtain ⟨k1, k2⟩ := st.keep D h1 (by rw [h2]; exact hk)
  exact ⟨Nat.lt_of_lt_of_le h1 st.size, k2.trans h2, k1.trans h3⟩
theorem St.putObj {s : St} {l : Nat} (o : Obj) (h : l < s.n) (hg : s.g l = ⟨l + 1, 0⟩) : ∃ s' : St, s'.w = s.w.putObj l o ∧ s'.g = s.g ∧ Step (KC (l + 1) 0) s s' ∧ s'.w.heap[l]? = some o := by
  refine ⟨⟨s.w.putObj l o, s.g, s.wf⟩, rfl, rfl, ⟨rfl, rfl, rfl, by show s.w.heap.size ≤ (s.w.putObj l o).heap.size; rw [World.putObj_size]; exact Nat.le_refl _, fun b hb hk => ⟨?_, rfl⟩, fun c hc => by have h0 : (0 : Nat) = l + 1 := hc.1; omega⟩, World.putObj_heap_same h⟩
  exact World.putObj_heap_other (by rintro rfl; exact hk (by rw [hg]; exact ⟨rfl, rfl⟩))
theorem LoopR.put {s : St} {l : Nat} {r r' : Loop} (h : LoopR s l r) : ∃ s' : St, s'.w = s.w.putObj l (.loop r') ∧ Step (KC (l + 1) 0) s s' ∧ LoopR s' l r' := by
  obtain ⟨h1, h2, h3⟩ := h
  obtain ⟨s', e, eg, st, hh⟩ := St.putObj (.loop r') h1 h2
  exact ⟨s', e, st, Nat.lt_of_lt_of_le h1 st.size, by rw [eg]; exact h2, hh⟩
structure Yielder (P : Program) (n0 l : Nat) {X A : Type} (enc : St → A → List Value → Prop) (c : X → A → Option (Bool × X)) (I : X → St → Prop) (Ky : Lab → Prop) : Prop where
  up : ∀ x s1 s2 K, I x s1 → Step K s1 s2 → (∀ lab, K lab → n0 < lab.o) → I x s2
  yield : ∀ x y r s1 vs, n0 ≤ s1.n → I x s1 → enc s1 y vs → c x y = some r → Yields P l vs s1.w (Ret s1 (KB n0 Ky) (fun s2 v => v = .bool r.1 ∧ I r.2 s2))
def Cons {X : Type} (I : X → St → Prop) (n0 : Nat) (s : St) (x : X) : Prop := I x s ∧ n0 ≤ s.n ∧ (∀ x s1 s2 K, I x s1 → Step K s1 s2 → (∀ lab, K lab → n0 < lab.o) → I x s2)
theorem Cons.up2 {X : Type} {I : X → St → Prop} {n0 : Nat} {K : Lab → Prop} {s s' : St} {x : X} (h : Cons I n0 s x) (st : Step K s s') (hk : ∀ lab, K lab → n0 < lab.o := by intro lab h; first | exact h.elim | (simp only [KU, KN, KC, KO, K0, KB] at h; omega)) : Cons I n0 s' x :=
  ⟨h.2.2 x s s' K h.1 st hk, Nat.le_trans h.2.1 st.size, h.2.2⟩
theorem Cons.of {P : Program} {l : Nat} {X A : Type} {enc : St → A → List Value → Prop} {c : X → A → Option (Bool × X)} {I : X → St → Prop} {Ky : Lab → Prop} {n0 : Nat} {s : St} {x : X} (hY : Yielder P n0 l enc c I Ky) (h : I x s) (hn : n0 ≤ s.n) : Cons I n0 s x := ⟨h, hn, hY.up⟩
theorem k_exit_out {P : Program} {n : Nat} {Df : Md} {F : Post} {ρ : Env} {w : World} {i : Nat} (h : F (.exit i) ρ w) : ∀ {k : List It}, exitIt i k = none → G P n Df F (.code (.exit i) :: k) ρ w := by
  intro k hk
  have key : ∀ k : List It, exitIt i k = none → Qs P n Df F k (.exit i) ρ w := by
    intro k
    induction k with
    | nil => intro _; exact h
    | cons t k ih =>
      intro hk
      cases t with
      | code c => exact ih hk
      | stop φ => exact ih hk
      | blk id =>
        simp only [exitIt] at hk
        simp only [Qs]
        cases e : Nat.beq i id with
        | true => rw [e] at hk; simp at hk
        | false => rw [e] at hk; simp at hk; exact ih hk
  exact fun a ha => wpIn_exit ⟨ρ, ha, key k hk⟩
theorem cells1 {v : Value} (h : v.oneCell' = true) : v.cells.toList = [v] := by
  cases v <;> first | rfl | (simp [Value.oneCell'] at h)
theorem RC.up2 {K : Lab → Prop} {s s' : St} {cs : List Value} {d : D} (h : RC s cs d) (st : Step K s s') : RC s' cs d := h.up st
def BoxR (s : St) (b : Nat) (T : TypeId) (d : D) : Prop := ∃ cs, Blk s b ⟨b + 1, 0⟩ cs T ∧ RC s cs d
theorem BoxR.up2 {K : Lab → Prop} {s s' : St} {b : Nat} {T : TypeId} {d : D} (h : BoxR s b T d) (st : Step K s s') (hk : ¬ K ⟨b + 1, 0⟩ := by first | exact id | (simp only [KU, KN, KC, KO, K0, KB] <;> omega)) : BoxR s' b T d := by
  obtain ⟨cs, h1, h2⟩ := h
  exact ⟨cs, h1.up st hk, h2.up st⟩
theorem BoxR.lt {s : St} {b : Nat} {T : TypeId} {d : D} (h : BoxR s b T d) : b < s.n := by obtain ⟨cs, h1, _⟩ := h; exact h1.lt
def envZ (ρ : Env) : List Nat → List Value → Env
  | p :: ps, v :: vs => envZ ((p, v) :: ρ) ps vs
  | _, _ => ρ
theorem Ag.envZ {n : Nat} {Df : Md} : ∀ {ps : List Nat} {vs : List Value} {ρ : Env} {tmps : Array Value} {df : List Deferred}, Ag n Df ρ { tmps := tmps, defers := df } → (∀ p ∈ ps, p < n) → Ag n Df (envZ ρ ps vs) { tmps := (ps.zip vs).foldl (fun t (x : Nat × Value) => t.setIfInBounds x.1 x.2) tmps, defers := df }
  | [], vs, ρ, tmps, df, h, _ => by simpa [Fw.envZ] using h
  | p :: ps, [], ρ, tmps, df, h, _ => by simpa [Fw.envZ] using h
  | p :: ps, v :: vs, ρ, tmps, df, h, hp => by
    have h1 := h.put (d := p) (by simpa [Nat.blt_eq] using hp p (by simp)) v
    have := Ag.envZ (ps := ps) (vs := vs) (ρ := (p, v) :: ρ) (tmps := tmps.setIfInBounds p v) (df := df) h1 (fun q hq => hp q (by simp [hq]))
    simpa [Fw.envZ] using this
def stopC {X A : Type} (c : X → A → Option (Bool × X)) (x : Bool × X) (y : A) : Option (Bool × (Bool × X)) := if x.1 = true then none else (c x.2 y).map fun r => (r.1, (!r.1, r.2))
def NoF : Post := fun _ _ _ => False
def Begin (P : Program) (n l : Nat) (R : Post) (body : Code) (ρ : Env) (w : World) : Prop := ∃ w2, (Instr.beginRound l).run P w = .ok () w2 ∧ CW P n ⟨[], some l⟩ body R ρ w2
def RoundF {X : Type} (l id : Nat) (rec : Loop) (Kb : Lab → Prop) (I : X → St → Prop) (s1 : St) (r : Bool × X) : Post
  | .normal, _, w => r.1 = true ∧ ∃ s2 : St, s2.w = w ∧ Step (KU (KC (l + 1) 0) Kb) s1 s2 ∧ LoopR s2 l { rec with state := .busy } ∧ I r.2 s2
  | .exit i, _, w => i = id ∧ r.1 = false ∧ ∃ s2 : St, s2.w = w ∧ Step (KU (KC (l + 1) 0) Kb) s1 s2 ∧ LoopR s2 l { rec with state := .busy } ∧ I r.2 s2
  | _, _, _ => False
section
variable {P : Program} {n : Nat} {ρ : Env} {s : St} {X A : Type}
theorem k_begin {l : Nat} {rec : Loop} {R : Post} {body : Code} (h : LoopR s l rec) (hr : rec.state = .ready) (hK : ∀ s2 : St, Step (KC (l + 1) 0) s s2 → LoopR s2 l { rec with state := .busy } → G P n ⟨[], some l⟩ R [.code body] ρ s2.w) : Begin P n l R body ρ s.w := by
  obtain ⟨s', e, st, h'⟩ := LoopR.put (r' := { rec with state := .busy }) h
  exact ⟨s'.w, by rw [e]; exact run_beginRound h.2.2 hr, hK s' st h'⟩
theorem zip_arr (ps : List Nat) (vs : List Value) (t : Array Value) : (ps.toArray.zip vs.toArray).foldl (fun t (x : Nat × Value) => t.setIfInBounds x.1 x.2) t = (ps.zip vs).foldl (fun t (x : Nat × Value) => t.setIfInBounds x.1 x.2) t := by
  simp
def RK (P : Program) (W : Exit → Act → World → Prop) : List Code → Act → World → Prop
  | [] => W .normal
  | c :: k => c.wpIn (fnc none) 0 P (Exit.then (RK P W k) W)
def RAWK (P : Program) (n : Nat) (Df : Md) (W : Exit → Act → World → Prop) (k : List Code) (ρ : Env) (w : World) : Prop := ∀ a, Ag n Df ρ a → RK P W k a w
theorem jCw {W : Exit → Act → World → Prop} {df : List Deferred} {x y : Code} {k : List Code} {w : World} (h : RAWK P n ⟨df, none⟩ W (x :: y :: k) ρ w) : RAWK P n ⟨df, none⟩ W (.seq x y :: k) ρ w := by
  intro a ha
  refine wpIn_seq (wpIn_mono (h a ha) ?_)
  intro e a' w' hq
  cases e <;> exact hq
theorem jCz {W : Exit → Act → World → Prop} {df : List Deferred} {x : Code} {k : List Code} {w : World} (h : G P n ⟨df, none⟩ (RawF n ⟨df, none⟩ W) [.code x, .stop (RAWK P n ⟨df, none⟩ W k)] ρ w) : RAWK P n ⟨df, none⟩ W (x :: k) ρ w := by
  intro a ha
  refine wpIn_mono (h a ha) ?_
  rintro e a' w' ⟨ρ', hag, hq⟩
  cases e <;> exact hq a' hag
theorem rk_last {W : Exit → Act → World → Prop} {df : List Deferred} {x : Code} {w : World} (h : G P n ⟨df, none⟩ (RawF n ⟨df, none⟩ W) [.code x] ρ w) : RAWK P n ⟨df, none⟩ W [x] ρ w := by
  intro a ha
  refine wpIn_mono (h a ha) ?_
  rintro e a' w' ⟨ρ', hag, hq⟩
  cases e <;> exact hq a' hag
theorem rk_range {bi : Nat} {g : Operand} {ps : List Nat} {assign body : Code} {k : List Code} {df : List Deferred} {W : Exit → Act → World → Prop} {gf : FuncId} {caps : List Value}
    (enc : St → A → List Value → Prop) (c : X → A → Option (Bool × X)) (I : X → St → Prop) (Kb : Lab → Prop)
    (hg : ev ρ g = some (.func (.func gf) #[] caps.toArray)) (hcal : Callable P gf) (hps : ∀ s y vs, enc s y vs → vs.length = ps.length) (hpl : ∀ p ∈ ps, p < n)
    (hKb : ∀ lab, Kb lab → lab.o ≠ 0 ∧ lab.o ≤ s.n) (x0 : X) (x1 : Bool × X) (hI0 : I x0 s)
    (hup : ∀ x s1 s2 K, I x s1 → Step K s1 s2 → (∀ lab, K lab → s.n < lab.o) → I x s2)
    (hround : ∀ (l : Nat) (rec : Loop) (s1 : St) (x : X) (y : A) (vs : List Value) (r : Bool × X), s.n < l → l < s1.n → rec.state = .ready → I x s1 → LoopR s1 l rec → enc s1 y vs → c x y = some r →
      G P n ⟨[], some l⟩ NoF [.code assign, .stop (fun ρ' w' => Begin P n l (RoundF l bi rec Kb I s1 r) body ρ' w')] (envZ ρ ps vs) s1.w)
    (hcall : ∀ (l : Nat) (s1 : St) (I' : Bool × X → St → Prop) (Ky : Lab → Prop), Step K0 s s1 → s.n < l → l < s1.n → (∀ lab, Ky lab → lab.o ≤ s.n ∨ lab.o = l + 1) → (∀ lab, Ky lab → lab = ⟨l + 1, 0⟩ ∨ Kb lab) → Yielder P s1.n l enc (stopC c) I' Ky → I' (false, x0) s1 →
      Calls P gf (.func (.yield l) #[] #[] :: caps).toArray s1.w (Ret s1 (KB s1.n Ky) (fun s2 v => v = .tuple #[] ∧ I' x1 s2)))
    (hnext : ∀ (D : Nat) (s2 : St), Step Kb s s2 → I x1.2 s2 → Mark s2 D → s.n ≤ D → RAWK P n ⟨⟨.collected D, #[]⟩ :: df, none⟩ W k ρ s2.w) :
    RAWK P n ⟨df, none⟩ W (.block bi (.rangeFunc g ps.toArray assign body) :: k) ρ s.w := by
  intro a ha
  refine wpIn_block (wpIn_rangeFunc ?_)
  intro fn hfn
  obtain ⟨fnr, hf1, hf2, hf3⟩ := hcal
  have hKb0 : ∀ c, ¬ Kb ⟨0, c⟩ := fun c hc => (hKb _ hc).1 rfl
  -- the two blocks
  obtain ⟨rec, hrec⟩ : ∃ rec : LoopState → Option Code → Loop, rec = fun st pe => { state := st, pending := pe, fn := fn, tmps := a.tmps, params := ps.toArray, assign := assign, body := body, defers := s.w.heap.size } := ⟨_, rfl⟩
  let sa : St := s.to (s.w.alloc (.deferred (some []))) ⟨s.n + 1, 0⟩ (Nat.le_refl _)
  have sta : Step K0 s sa := St.to_alloc
  let sb : St := sa.to (sa.w.alloc (.loop (rec .ready none))) ⟨sa.n + 1, 0⟩ (Nat.le_refl _)
  have stb : Step K0 sa sb := St.to_alloc
  have na : sa.n = s.n + 1 := by show (s.w.alloc _).heap.size = _; simp
  have nb : sb.n = s.n + 2 := by show (sa.w.alloc _).heap.size = _; rw [World.size_alloc]; exact congrArg (· + 1) na
  have hMa : Mark sa s.n := ⟨by omega, St.to_g_new (Nat.le_refl _), World.alloc_heap_new _ _⟩
  have hM : Mark sb s.n := hMa.up2 stb id
  have hL : LoopR sb sa.n (rec .ready none) := ⟨by omega, St.to_g_new (Nat.le_refl _), World.alloc_heap_new _ _⟩
  rw [na] at hL
  have hsb : Step K0 s sb := sta.trans0 stb
  -- the state of who is told
  let I' : Bool × X → St → Prop := fun x sl => I x.2 sl ∧ LoopR sl (s.n + 1) (rec (if x.1 = true then .done else .ready) (if x.1 = true then some (.exit bi) else none)) ∧ Mark sl s.n
  let Ky : Lab → Prop := KU (KC (s.n + 1 + 1) 0) Kb
  have hcl := hcall (s.n + 1) sb I' Ky hsb (by omega) (by omega)
    (fun lab h => by rcases h with h | h; exact .inr h.1; exact .inl (hKb _ h).2) (fun lab h => by rcases h with h | h; exact .inl (by cases lab; obtain ⟨h1, h2⟩ := h; simp_all); exact .inr h) ?_ ⟨hup _ _ _ _ hI0 hsb (fun _ h => h.elim), hL, hM⟩
  · refine ⟨s.n + 1, [{ target := .collected s.n, args := #[] }], sb.w, { target := .fn (.func gf) caps.toArray, args := #[.func (.yield (s.n + 1)) #[] #[]] }, sb.w, gf, (.func (.yield (s.n + 1)) #[] #[] :: caps).toArray, sb.w, ?_, ?_, fun _ _ => trivial, ?_, fun h => absurd h (by simp), calls_in (hcl.mono ?_)⟩
    · have := run_enterLoop_outer (P := P) (w := s.w) fn a.tmps ps.toArray assign body
      show _ = Result.ok (s.w.heap.size + 1, _) ((s.w.alloc _).alloc (.loop (rec .ready none)))
      rw [hrec]
      exact this
    · have := ha.ev hg
      simp only [resolve, this, Deferred.ofValue]
      simp [go_sem]
    · have h2' : ¬ fnr.name = "runtime.NumGoroutine" := by intro e; rw [e] at hf2; simp at hf2
      have h3' : ¬ fnr.body = none := by intro e; rw [e] at hf3; simp at hf3
      simp [invoke, callFunc, hf1, h2', h3', program, Sem.run, go_sem]
    · rintro e w' ⟨s2, v, rfl, rfl, st, _, hI2, hL2, hM2⟩
      obtain ⟨s3, e3, st3, hL3⟩ := LoopR.put (r' := { rec (if x1.1 = true then .done else .ready) (if x1.1 = true then some (.exit bi) else none) with state := .exhausted }) hL2
      have hst : Step Kb s s3 := by
        refine ((hsb.of0 hKb0).trans st (fun i hi hk => ?_)).trans st3 (fun i hi hk => ?_)
        · have hw := s.wf i
          rcases hk.1 with h | h
          · have := h.1; omega
          · exact h
        · have hw := s.wf i
          have := hk.1; omega
      have hfin := hnext s.n s3 hst (hup _ _ _ _ hI2 st3 (fun lab h => by have := h.1; omega)) (hM2.up2 st3 (fun h => by have : s.n + 1 = s.n + 1 + 1 := h.1; omega)) (Nat.le_refl _)
      have hag : Ag n ⟨⟨.collected s.n, #[]⟩ :: df, none⟩ ρ { a with defers := [{ target := .collected s.n, args := #[] }] ++ a.defers } := ⟨ha.size, ha.get, by show _ :: _ = _; exact congrArg (_ :: ·) ha.defers⟩
      have hfin := hfin _ hag
      refine ⟨_, s3.w, by rw [e3]; exact run_endLoop hL2.2.2 (by rw [hrec]; simp only; split <;> simp), ?_⟩
      rw [hrec]
      simp only
      by_cases hb : x1.1 = true
      · simp only [hb, if_true]
        refine wpIn_exit ?_
        simp only [Exit.inBlock, if_true]
        exact hfin
      · simp only [hb, if_false]
        exact hfin
  · -- one round
    refine ⟨?_, ?_⟩
    · rintro x t1 t2 K ⟨h1, h2, h3⟩ st hK
      exact ⟨hup _ _ _ _ h1 st (fun lab h => by have := hK _ h; omega), h2.up2 st (fun h => by have := hK _ h; simp at this; omega), h3.up2 st (fun h => by have := hK _ h; simp at this; omega)⟩
    · rintro ⟨b, x⟩ y r t1 vs hn ⟨h1, h2, h3⟩ hy hc
      unfold stopC at hc
      cases b with
      | true => simp at hc
      | false =>
        have h1 : I x t1 := h1
        have h2 : LoopR t1 (s.n + 1) (rec .ready none) := h2
        simp only [Bool.false_eq_true, if_false] at hc
        obtain ⟨r0, hc0, rfl⟩ := Option.map_eq_some_iff.1 hc
        have hr := hround (s.n + 1) (rec .ready none) t1 x y vs r0 (by omega) (by omega) (by rw [hrec]) h1 h2 hy hc0
        have hyr := run_yield (P := P) (args := vs.toArray) h2.2.2 (by rw [hrec]; simpa using hps _ _ _ hy)
        refine ⟨_, _, _, _, hyr, roundIn_of_wpIn trivial ?_⟩
        have e1 : (rec .ready none).params = ps.toArray := by rw [hrec]
        have e2 : (rec .ready none).tmps = a.tmps := by rw [hrec]
        have e3 : (rec .ready none).assign = assign := by rw [hrec]
        have e4 : (rec .ready none).body = body := by rw [hrec]
        rw [e1, e2, e3, e4]
        have hag : Ag n ⟨[], some (s.n + 1)⟩ (envZ ρ ps vs) { tmps := (ps.toArray.zip vs.toArray).foldl (fun t (x : Nat × Value) => t.setIfInBounds x.1 x.2) a.tmps, defers := [] } := by
          rw [zip_arr]
          exact Ag.envZ (Df := ⟨[], some (s.n + 1)⟩) ⟨ha.size, ha.get, rfl⟩ hpl
        refine wpIn_mono (hr _ hag) ?_
        rintro e a' w' ⟨ρ', hag', hq⟩
        cases e with
        | normal =>
          obtain ⟨w2, hb1, hb2⟩ := hq
          refine ⟨w2, hb1, wpIn_mono (hb2 a' hag') ?_⟩
          have fin : ∀ (jump : Option Code) (u : St), Step (KU (KC (s.n + 1 + 1) 0) Kb) t1 u → LoopR u (s.n + 1) { rec .ready none with state := .busy } → I r0.2 u → jump.isNone = r0.1 → jump = (if (!r0.1) = true then some (.exit bi) else none) →
              ∃ v w', (Instr.endRound (s.n + 1) jump).run P u.w = .ok v w' ∧ Ret t1 (KB sb.n Ky) (fun s2 v => v = .bool r0.1 ∧ I' (!r0.1, r0.2) s2) (.returned v) w' := by
            intro jump u st hLu hIu hj hj2
            obtain ⟨u2, e5, st5, hL5⟩ := LoopR.put (r' := { rec .ready none with state := if jump.isNone then .ready else .done, pending := jump }) hLu
            refine ⟨_, _, run_endRound jump hLu.2.2, u2, .bool jump.isNone, ?_, rfl, ?_, by rw [hj], hup _ _ _ _ hIu st5 (fun lab h => by have := h.1; omega), ?_, ?_⟩
            · rw [e5]
            · have hst : Step (KU (KC (s.n + 1 + 1) 0) Kb) t1 u2 := st.trans st5 (fun i _ hk => .inl hk)
              exact hst.mono (fun lab h => ⟨h, by rcases h with h | h; have := h.1; omega; exact (hKb _ h).1, by rcases h with h | h; have := h.1; omega; have := (hKb _ h).2; omega⟩) (fun c h => h.2.1 rfl)
            · have e6 : { rec .ready none with state := if jump.isNone then LoopState.ready else .done, pending := jump } = rec (if (!r0.1) = true then .done else .ready) (if (!r0.1) = true then some (.exit bi) else none) := by
                rw [hrec, ← hj2, hj]; cases r0.1 <;> rfl
              rw [← e6]; exact hL5
            · exact (h3.up2 st (fun h => by rcases h with h | h; (have : s.n + 1 = s.n + 1 + 1 := h.1; omega); (have := (hKb _ h).2; simp at this; omega))).up2 st5 (fun h => by have : s.n + 1 = s.n + 1 + 1 := h.1; omega)
          rintro e2 a2 w3 ⟨ρ2, hag2, hq2⟩
          cases e2 with
          | normal =>
            obtain ⟨q1, u, rfl, q2, q3, q4⟩ := hq2
            exact fin none u q2 q3 q4 (by rw [q1]; rfl) (by rw [q1]; rfl)
          | exit i =>
            obtain ⟨q0, q1, u, rfl, q2, q3, q4⟩ := hq2
            subst q0
            exact fin (some (.exit i)) u q2 q3 q4 (by rw [q1]; rfl) (by rw [q1]; rfl)
          | ret => exact hq2.elim
          | goto l => exact hq2.elim
          | panic ch => exact hq2.elim
          | outgrown => exact hq2.elim
        | exit i => exact hq.elim
        | goto l => exact hq.elim
        | ret => exact hq.elim
        | panic ch => exact hq.elim
        | outgrown => exact hq.elim
end
section
variable {P : Program} {n : Nat} {ρ : Env} {s : St} {w : World} {fn : Func} {T : Ending → World → Prop}
def RE (P : Program) (n : Nat) (fn : Func) (T : Ending → World → Prop) (df : List Deferred) (ρ : Env) (w : World) : Prop :=
  ∀ tmps : Array Value, tmps.size = n → (∀ t v, look ρ t = some v → tmps.getD t undef = v) → LeavesInM (fnc none) 0 P fn tmps T df .returning w
theorem re_cons {D : Nat} {df : List Deferred} (hM : Mark s D) (h : ∀ s2 : St, Step (KC (D + 1) 0) s s2 → RE P n fn T df ρ s2.w) : RE P n fn T (⟨.collected D, #[]⟩ :: df) ρ s.w := by
  intro tmps h1 h2
  obtain ⟨s2, e, eg, st, hh⟩ := St.putObj (.deferred none) hM.1 hM.2.1
  have := h s2 st tmps h1 h2
  exact ⟨by simp, .inl ⟨D, s2.w, rfl, by rw [e]; exact run_takeDeferred hM.2.2, this⟩⟩
theorem re_ret {df : List Deferred} (h : RE P n fn T df ρ w) : RawF n ⟨df, none⟩ (bodyPostM (fnc none) 0 P fn T) .ret ρ w := by
  intro a ha
  show LeavesInM (fnc none) 0 P fn a.tmps T a.defers .returning w
  rw [ha.defers]
  exact h _ ha.size ha.get
theorem k_fn_m {f : FuncId} {c : Code} {args : List Value} (hf : P.funcs[f]? = some fn) (hb : fn.body = some c) (hn : Nat.ble args.length fn.ntmps = true)
    (h : RAWK P fn.ntmps M0 (bodyPostM (fnc none) 0 P fn T) [c] (start 0 args) w) : Calls P f args.toArray w T := by
  refine in_calls (callsIn_of_wp_marks (F := fnc none) hf hb trivial (wpIn_mono (h _ ?_) (fun e a w hq => by cases e <;> exact hq)))
  have hn' : args.length ≤ fn.ntmps := by simpa using hn
  refine ⟨by simp; omega, ?_, rfl⟩
  intro t v e
  obtain ⟨_, h2⟩ := start_look args 0 t v e
  have h3 : t < args.length := (List.getElem?_eq_some_iff.1 h2).1
  simp only [Nat.sub_zero] at h2
  rw [List.getElem?_eq_getElem h3] at h2
  simpa [Array.getD_eq_getD_getElem?, Array.getElem?_append, h3] using h2
end
end Go.Fw

set_option linter.unusedSimpArgs false
set_option linter.unusedVariables false
namespace Go.Fw
def methT (P : Program) (t : TypeId) (name : String) (f : FuncId) : Prop := ∀ v w, (method (P.types.size + Made.depth) t v name).run P w = .ok (f, v) w
section
variable {P : Program} {n : Nat} {Df : Md} {ops : Array Oper} {Q : Post} {rest : List Oper} {ρ : Env} {s : St} {w0 : World}
variable {d : Nat} {ty : TypeId} {pos : String} {aft : Array Edge} {x y z : Operand} {tx tyy : TypeId}
def Invokes (P : Program) (v : Value) (name : String) (vs : List Value) (w : World) (T : Ending → World → Prop) : Prop :=
  ∃ t u f, v = .iface t u ∧ methT P t name f ∧ Callable P f ∧ Calls P f (u :: vs).toArray w T
def arrps (m w : Nat) : List (Nat × Nat) := (List.range m).map fun i => (i * w, w)
theorem jCx {t e m w : Nat} {zv : Value} {xs : List (Nat × Operand)} {vs : List (Nat × Value)} {css : List (Nat × List Value)} {out : List Value} (hp : arrT P t e m w) (hz : zeroT P t = some zv) (hx : evq ρ xs = some vs) (hc : Parts vs css) (ho : fillL (arrps m w) css zv.cells.toList = some out) (hd : Nat.blt d n = true)
    (hK : KL P n Df ops Q rest ((d, .agg out.toArray) :: ρ) w0) : KL P n Df ops Q (⟨some d, .build t xs.toArray, ty, pos, aft, none⟩ :: rest) ρ w0 := by
  refine .val rfl rfl hd (fun η ha => ?_) hK
  obtain ⟨hu, hs⟩ := hp
  have hf := fill_L (places := fun i => some (i * w, w)) (ps := arrps m w) (fun i p h => by
    unfold arrps at h
    rw [List.getElem?_map] at h
    cases hr : (List.range m)[i]? with
    | none => rw [hr] at h; simp at h
    | some j =>
      rw [hr] at h
      have := List.getElem?_range (n := m) (i := i) (by have := (List.getElem?_eq_some_iff.1 hr).1; simpa using this)
      rw [this] at hr
      simp at hr h
      subst hr; simp [← h]) hc ho
  have hev := ha.evq hx
  have hpa : (xs.toArray.map fun (p : Nat × Operand) => (p.1, η p.2)) = vs.toArray := by rw [← hev]; simp
  simp only [execOp]
  rw [show (Array.map (fun x => match x with | (i, x) => (i, η x)) xs.toArray) = vs.toArray from hpa]
  simp [Instr.build, run_zeroValue hz, run_underlying hu, run_sizeOf hs, hf]
theorem k_cap_nil {t e : TypeId} (hT : P.underlying t = some (.slice e)) (hx : ev ρ x = some (.slice none 0 0)) (hd : Nat.blt d n = true)
    (hK : KL P n Df ops Q rest ((d, .int .i64 0) :: ρ) w0) : KL P n Df ops Q (⟨some d, .call { callee := .builtin .cap, args := [x].toArray, argTypes := [t].toArray }, ty, pos, aft, none⟩ :: rest) ρ w0 :=
  .val rfl rfl hd (fun η ha => by simp [execOp, resolve, invoke, builtin, ha.ev hx, Builtin.cap_, run_underlying hT, goInt]) hK
theorem k_cut_nil {t e w : TypeId} {k : IntKind} (hT : P.underlying t = some (.slice e)) (hs : sizeT P e w = true) (hx : ev ρ x = some (.slice none 0 0)) (hz : ev ρ z = some (.int k 0)) (hd : Nat.blt d n = true)
    (hK : KL P n Df ops Q rest ((d, .slice none 0 0) :: ρ) w0) : KL P n Df ops Q (⟨some d, .slice t x none (some z) none, ty, pos, aft, none⟩ :: rest) ρ w0 :=
  .val rfl rfl hd (fun η ha => by simp [execOp, ha.ev hx, ha.ev hz, Instr.sliceAt, Instr.slice, Instr.sliceBounds, Instr.sliceBound, asIntOf, run_underlying hT, run_sizeOf hs]) hK
def Row0 (s : St) (l : Lab) (e : TypeId) (w n : Nat) (v : Value) : Prop := l.o ≠ 0 ∧ l.o ≤ s.n + 1 ∧ ∃ g cap cur, v = .slice (some ⟨g, 0, none⟩) n cap ∧ s.w.heap[g]? = some (.cells cur e (0, 0)) ∧ n ≤ cap ∧ cap ≤ maxLen ∧ cur.size = cap * w ∧ s.g g = l
theorem Row0.up2 {K : Lab → Prop} {s s' : St} {l : Lab} {e : TypeId} {w m : Nat} {v : Value} (h : Row0 s l e w m v) (st : Step K s s') (hk : ¬ K l := by first | exact id | (simp only [KU, KN, KC, KO, K0, KB] <;> omega)) : Row0 s' l e w m v := by
  obtain ⟨h0, h1, g, cap, cur, rfl, h2, h3, h4, h5, h6⟩ := h
  have hlt : g < s.n := (Array.getElem?_eq_some_iff.1 h2).1
  obtain ⟨k1, k2⟩ := st.keep g hlt (by rw [h6]; exact hk)
  exact ⟨h0, Nat.le_trans h1 (Nat.add_le_add_right st.size 1), g, cap, cur, rfl, k1.trans h2, h3, h4, h5, k2.trans h6⟩
set_option maxRecDepth 100000 in
theorem k_append_zeros {t ti e w bytes m : Nat} {zv : Value} (hT : elemT P t e w bytes zv) (hi : P.underlying ti = some (.int .i64)) (hx : ev ρ x = some (.slice none 0 0)) (hy : ev ρ y = some (.int .i64 (m : Int)))
    (h0 : 0 < m) (hsz : m * bytes ≤ 140737488355328) (hmx : m ≤ 9223372036854775807) (hd : Nat.blt d n = true)
    (hK : ∀ s' v', Step K0 s s' → Row0 s' ⟨s.n + 1, 0⟩ e w m v' → KL P n Df ops Q rest ((d, v') :: ρ) s'.w) :
    KL P n Df ops Q (⟨some d, .call { callee := .builtin .append, args := [x, y].toArray, argTypes := [t, ti].toArray }, ty, pos, aft, none⟩ :: rest) ρ s.w := by
  obtain ⟨i, h1, h2, h3, h4, h5, h6, h7⟩ := hT
  have hge := grownCap_ge s.w m 0 e
  have hle := grownCap_le_maxLen s.w m 0 e (by unfold maxLen; omega)
  obtain ⟨cur, hcur⟩ : ∃ cur : Array Value, cur = (if m * i.size = 0 then #[] else Builtin.zeroCells zv.cells m) ++ Builtin.zeroCells zv.cells (grownCap s.w m 0 e - m) := ⟨_, rfl⟩
  have hm0 : ¬ m * i.size = 0 := by
    have := Nat.mul_pos h0 (show 0 < i.size by omega)
    omega
  have hsize : cur.size = grownCap s.w m 0 e * w := by
    rw [hcur, if_neg hm0, Array.size_append, size_zeroCells, size_zeroCells, h6, ← Nat.add_mul]
    congr 1; omega
  have hrun : (Builtin.append_ #[t, ti] ty #[.slice none 0 0, .int .i64 (m : Int)]).run P s.w = .ok (.slice (some ⟨s.w.heap.size, 0, none⟩) m (grownCap s.w m 0 e)) (s.w.drew.alloc (.cells cur e)) := by
    have hw : IntKind.i64.wrap (m : Int) = (m : Int) := wrap_i64 (by omega) (by omega)
    have hn : ¬ m = 0 := by omega
    have a1 : ¬ ((m : Int) < 0) := by omega
    have a2 : ¬ (281474976710656 < (m : Int) * (i.bytes : Int)) := by
      rw [← Int.natCast_mul, h5]
      generalize m * bytes = q at hsz ⊢
      omega
    have a3 : ¬ (9223372036854775807 < (m : Int)) := by omega
    have a4 : ¬ (281474976710656 < Builtin.nextslicecap m 0 * i.bytes) := by rw [nextslicecap_zero h0, h5]; omega
    simp [Builtin.append_, run_underlying h1, run_underlying hi, sizeOf, typeInfo, zeroValue, h2, h3, asInt, asIntOf, hw, a1, a2, a3, a4, hn, Builtin.firstCells, Question.forced, newRow, grownCap]
    rw [if_neg hm0, hcur, if_neg hm0]
    rfl
  have st : Step K0 s (s.to (s.w.drew.alloc (.cells cur e)) ⟨s.n + 1, 0⟩ (Nat.le_refl _)) := St.to_step rfl rfl rfl (by show s.w.heap.size ≤ (s.w.drew.alloc (.cells cur e)).heap.size; simp) (fun b hb _ => heap_alloc_old s.w.drew _ hb) (fun _ h => h)
  refine .val rfl rfl hd (v := .slice (some ⟨s.w.heap.size, 0, none⟩) m (grownCap s.w m 0 e)) (w' := s.w.drew.alloc (.cells cur e)) (fun η ha => ?_) (hK (s.to _ ⟨s.n + 1, 0⟩ (Nat.le_refl _)) _ st ⟨by simp, ?_, s.w.heap.size, _, cur, rfl, ?_, hge, hle, hsize, St.to_g_new (Nat.le_refl _)⟩)
  · simp [execOp, resolve, invoke, builtin, ha.ev hx, ha.ev hy, hrun]
  · show s.n + 1 ≤ (s.w.drew.alloc (.cells cur e)).heap.size + 1
    simp
  · exact heap_alloc_new s.w.drew _
theorem k_cut_row0 {t e w m : Nat} {l : Lab} {v : Value} {k : IntKind} (hT : P.underlying t = some (.slice e)) (hs : sizeT P e w = true) (hx : ev ρ x = some v) (h : Row0 s l e w m v) (hz : ev ρ z = some (.int k 0)) (hd : Nat.blt d n = true)
    (hK : ∀ v', Own s l e w v' [] → KL P n Df ops Q rest ((d, v') :: ρ) s.w) : KL P n Df ops Q (⟨some d, .slice t x none (some z) none, ty, pos, aft, none⟩ :: rest) ρ s.w := by
  obtain ⟨h0, h1, g, cap, cur, rfl, h2, h3, h4, h5, h6⟩ := h
  refine .val rfl rfl hd (v := .slice (some ⟨g, 0, none⟩) 0 cap) (w' := s.w) (fun η ha => ?_) (hK _ ⟨h0, h1, [], ⟨by simp, .inr ⟨g, cap, cur, rfl, Nat.zero_le _, h2, Nat.zero_le _, h4, h5, by simp⟩⟩, fun g' hg => ?_, RCs.nil⟩)
  · have : (if cap = 0 then some (⟨g, 0, none⟩ : Addr) else some ((⟨g, 0, none⟩ : Addr).add 0)) = some ⟨g, 0, none⟩ := by
      split <;> simp [Addr.add]
    simp [execOp, ha.ev hx, ha.ev hz, Instr.sliceAt, Instr.slice, Instr.sliceBounds, Instr.sliceBound, asIntOf, run_underlying hT, run_sizeOf hs, this]
    try exact this
  · simp [Value.ownBlock] at hg; subst hg; exact h6
end
theorem Step.r0 (K : Lab → Prop) (s : St) (hi : ∀ c, ¬ K ⟨0, c⟩ := by first | exact fun _ h => h | (intro c h; simp [KC, KO, KU, KN, KB] at h <;> omega)) : Step K s s := (Step.refl _).of0 hi
theorem Step.c0 {K K' : Lab → Prop} {a b c : St} (h : Step K a b) (h' : Step K' b c) (hk : ∀ l : Lab, l.o ≤ a.n → K' l → K l := by intro l hl hk; (try simp only [KC, KO, KU, KN, K0, KB] at hk ⊢) <;> omega) : Step K a c := h.comp h' hk
end Go.Fw
