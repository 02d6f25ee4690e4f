import Derived.Test.YtepifllifhikiaaDoorFwZ
set_option linter.unusedSimpArgs false
set_option linter.unusedVariables false
namespace Go.Fw
/-! regions whose order is open, in which several operations may act in several orders -/
/-- A plan: reads; operations that act, one of several; the end. -/
inductive PT where
  | fin
  | read (i : Nat) (t : PT)
  | alt (i : Nat) (t r : PT)
  | no
def PT.heads : PT → List Nat
  | .alt i _ r => i :: PT.heads r
  | _ => []
def PT.ok (ops : Array Oper) (m : Nat) : Bool → List Nat → PT → Bool
  | first, done, .fin => first && (List.range m).all (fun j => done.contains j)
  | first, done, .read i t => first && Nat.blt i m && !done.contains i && PT.ok ops m true (i :: done) t
  | first, done, .alt i t r => (!first || (List.range m).all (fun j => done.contains j || (PT.alt i t r).heads.contains j || (onsAt ops j).any (fun q => !done.contains q))) && Nat.blt i m && !done.contains i && PT.ok ops m true (i :: done) t && PT.ok ops m false done r
  | first, _, .no => !first
def regOk (ops : Array Oper) (n m : Nat) : Bool :=
  Nat.ble m ops.size &&
  (List.range ops.size).all (fun i => (onsAt ops i).all (fun j => Nat.blt j i)) &&
  (List.range m).all (fun i => (looksI ops i).all (fun t => (List.range m).all (fun j => dstAt ops j != some t || (onsAt ops i).contains j))) &&
  (List.range ops.size).all (fun i => Nat.blt i m || (List.range i).all (fun j => rchB ops 4 i j)) &&
  (List.range m).all (fun i => match dstAt ops i with | some d => Nat.blt d n | none => true) &&
  (List.range m).all (fun i => (List.range m).all fun j => Nat.beq i j || (dstAt ops i != dstAt ops j || (dstAt ops i).isNone))

theorem PT.ok_congr {ops : Array Oper} {m : Nat} : ∀ {t : PT} {first : Bool} {d1 d2 : List Nat}, (∀ x, d1.contains x = d2.contains x) → PT.ok ops m first d1 t = PT.ok ops m first d2 t
  | .fin, first, d1, d2, h => by simp only [PT.ok, h]
  | .no, first, d1, d2, h => rfl
  | .read i t, first, d1, d2, h => by
    have h2 : ∀ x, (i :: d1).contains x = (i :: d2).contains x := fun x => by simp only [List.contains_cons, h]
    simp only [PT.ok, h, PT.ok_congr (t := t) h2]
  | .alt i t r, first, d1, d2, h => by
    have h2 : ∀ x, (i :: d1).contains x = (i :: d2).contains x := fun x => by simp only [List.contains_cons, h]
    simp only [PT.ok, h, PT.ok_congr (t := t) h2, PT.ok_congr (t := r) h]

section
variable {P : Program} {n : Nat} {Df : Md} {ops : Array Oper} {Q : Exit → Act → World → Prop}
/-- What is known behind an operation. -/
def ext (o : Oper) (v : Value) (ρ : Env) : Env := match o.dst with | some d => (d, v) :: ρ | none => ρ
theorem wpOp_of_KLo {i : Nat} {o : Oper} (ho : ops[i]? = some o) {ρ : Env} {w : World} {a : Act} (ha : Ag n Df ρ a) {C : Value → World → Prop} {q : Post}
    (hq : ∀ e ρ' w', q e ρ' w' → e = .normal ∧ ∃ v, (∀ d, o.dst = some d → look ρ' d = some v) ∧ C v w') (hn : ∀ d, o.dst = some d → d < n) (h : KL P n Df ops q [o] ρ w) {K : Act → World → Prop}
    (hK : ∀ v w', C v w' → K (a.put o.dst v) w') : wpOpIn (fnc Df.rd) 0 P ops Q i K a w := by
  have h1 := h a ha
  have hnp : ∀ ch a' w', ¬ lift n Df q (.panic ch) a' w' := by
    rintro ch a' w' ⟨ρ', _, hh⟩; have := (hq _ _ _ hh).1; cases this
  have hno : ¬ LetsOut (lift n Df q) := by
    rintro ⟨a', w', ρ', _, hh⟩; have := (hq _ _ _ hh).1; cases this
  have fin : ∀ v w', lift n Df q .normal (a.put o.dst v) w' → K (a.put o.dst v) w' := by
    rintro v w' ⟨ρ', hag, hh⟩
    obtain ⟨_, v', hl, hc⟩ := hq _ _ _ hh
    have hkk := hK v' w' hc
    cases hd : o.dst with
    | none => rw [hd] at hkk; exact hkk
    | some d =>
      have e := hag.get d v' (hl d hd)
      rw [hd] at e hkk
      have hsz : d < a.tmps.size := by rw [ha.size]; exact hn d hd
      have : v = v' := by
        rw [← e]; simp [Act.put, Array.getD_eq_getD_getElem?, hsz]
      subst this
      exact hkk
  unfold wpOpIn
  rw [ho]
  simp only [wpListIn] at h1
  by_cases hw : Region.wanted o (yielded ops a.tmps) = true
  · simp only [hw, if_true] at h1 ⊢
    refine upon_put ?_ (fun v w' hk => fin v w' hk) hnp hno h1
    rintro dd v a' rfl w' ⟨ρ', hag, _⟩
    have h2 := hag.defers
    have h3 := ha.defers
    cases hd : o.dst <;> rw [hd] at h2 <;> simp [Act.put] at h2 <;> rw [← h3] at h2 <;> have := congrArg List.length h2 <;> simp at this
  · simp only [hw] at h1 ⊢
    simp only [Bool.false_eq_true, if_false] at h1 ⊢
    exact ⟨fun _ _ => trivial, fin undef w h1.2⟩
def RT (P : Program) (n : Nat) (Df : Md) (ops : Array Oper) (K : Lab → Prop) (Fin : Env → St → Prop) : PT → Env → St → Prop
  | .fin, ρ, s => Fin ρ s
  | .read i t, ρ, s => ∃ o d c, ops[i]? = some o ∧ o.dst = some d ∧ (∀ s', Step K s s' → KL P n Df ops (FQ d c s'.w) [o] (rst ρ (o.looksAt ops)) s'.w) ∧ RT P n Df ops K Fin t ((d, c) :: ρ) s
  | .alt i t r, ρ, s => (∃ o, ops[i]? = some o ∧
      KL P n Df ops (fun e ρ' w' => e = .normal ∧ ∃ s' v, s'.w = w' ∧ Step K s s' ∧ (∀ d, o.dst = some d → look ρ' d = some v) ∧ RT P n Df ops K Fin t (ext o v ρ) s') [o] (rst ρ (o.looksAt ops)) s.w) ∧ RT P n Df ops K Fin r ρ s
  | .no, _, _ => True

theorem RT.pick {K : Lab → Prop} {Fin : Env → St → Prop} {m : Nat} {done : List Nat} {ρ : Env} {s : St} {i : Nat} : ∀ {t : PT} {first : Bool}, RT P n Df ops K Fin t ρ s → PT.ok ops m first done t = true → i ∈ t.heads →
    i < m ∧ done.contains i = false ∧ ∃ t', PT.ok ops m true (i :: done) t' = true ∧ ∃ o, ops[i]? = some o ∧
      KL P n Df ops (fun e ρ' w' => e = .normal ∧ ∃ s' v, s'.w = w' ∧ Step K s s' ∧ (∀ d, o.dst = some d → look ρ' d = some v) ∧ RT P n Df ops K Fin t' (ext o v ρ) s') [o] (rst ρ (o.looksAt ops)) s.w
  | .alt j t r, first, h, hok, hi => by
    simp only [PT.ok, Bool.and_eq_true] at hok
    obtain ⟨⟨⟨⟨h0, h1⟩, h2⟩, h3⟩, h4⟩ := hok
    simp only [PT.heads, List.mem_cons] at hi
    by_cases e : i = j
    · subst e
      exact ⟨by simpa using h1, by simpa using h2, t, h3, h.1⟩
    · exact RT.pick (t := r) h.2 h4 (hi.resolve_left e)
  | .fin, _, _, _, hi => by simp [PT.heads] at hi
  | .read _ _, _, _, _, hi => by simp [PT.heads] at hi
  | .no, _, _, _, hi => by simp [PT.heads] at hi

/-- No read stands at the front. -/
def PT.acts : PT → Prop
  | .fin => True
  | .alt _ _ _ => True
  | _ => False

theorem RT.peel {K : Lab → Prop} {Fin : Env → St → Prop} {m : Nat} (hdist : ∀ i j, i < m → j < m → i ≠ j → ∀ d, dstAt ops i = some d → dstAt ops j ≠ some d) : ∀ {t : PT} {done : List Nat} {ρ : Env} {s : St}, (∀ x ∈ done, x < m) → PT.ok ops m true done t = true →
    (∀ j, j < m → done.contains j = false → ∀ d, dstAt ops j = some d → look ρ d = none) → Step K s s → RT P n Df ops K Fin t ρ s →
    ∃ pre t' ρ', t'.acts ∧ PT.ok ops m true (pre ++ done) t' = true ∧ (∀ x ∈ pre, x < m ∧ done.contains x = false) ∧ (∀ x ∈ pre, Known P n Df ops K x ρ' s) ∧ (∀ t v, look ρ t = some v → look ρ' t = some v) ∧
      (∀ t v, look ρ' t = some v → look ρ t = some v ∨ ∃ x ∈ pre, dstAt ops x = some t) ∧ RT P n Df ops K Fin t' ρ' s
  | .fin, done, ρ, s, _, hok, _, _, h => ⟨[], .fin, ρ, trivial, hok, fun x hx => by simp at hx, fun x hx => by simp at hx, fun _ _ e => e, fun _ _ e => .inl e, h⟩
  | .alt i t r, done, ρ, s, _, hok, _, _, h => ⟨[], .alt i t r, ρ, trivial, hok, fun x hx => by simp at hx, fun x hx => by simp at hx, fun _ _ e => e, fun _ _ e => .inl e, h⟩
  | .no, done, ρ, s, _, hok, _, _, h => by simp [PT.ok] at hok
  | .read i t, done, ρ, s, hdm, hok, hnd, st0, h => by
    obtain ⟨o, d, c, h1, h2, h3, h4⟩ := h
    simp only [PT.ok, Bool.and_eq_true, Bool.true_and] at hok
    obtain ⟨⟨hb, hc⟩, hok⟩ := hok
    have him : i < m := by simpa using hb
    have hci : done.contains i = false := by simpa using hc
    have hdi' : dstAt ops i = some d := by simp [dstAt, h1, h2]
    have hd0 : look ρ d = none := hnd i him hci d hdi'
    have hext : ∀ t v, look ρ t = some v → look ((d, c) :: ρ) t = some v := by
      intro t v e
      simp only [look]
      have : d ≠ t := by rintro rfl; rw [hd0] at e; simp at e
      have e' : Nat.beq d t = false := by rw [← Bool.not_eq_true, Nat.beq_eq]; exact this
      rw [e']; exact e
    obtain ⟨pre, t', ρ', e0, e1, e2, e4, e5, e6, e7⟩ := RT.peel hdist (t := t) (done := i :: done) (ρ := (d, c) :: ρ) (s := s) (fun x hx => by
        rcases List.mem_cons.1 hx with rfl | hx
        · exact him
        · exact hdm x hx) hok (fun j hj hjc d' hd' => by
      simp only [List.contains_eq_mem, List.mem_cons, decide_eq_false_iff_not, not_or] at hjc
      simp only [look]
      have hne : d ≠ d' := by
        rintro rfl
        exact hdist i j him hj (fun e => hjc.1 e.symm) d hdi' hd'
      have e' : Nat.beq d d' = false := by rw [← Bool.not_eq_true, Nat.beq_eq]; exact hne
      rw [e']; exact hnd j hj (by simpa using hjc.2) d' hd') st0 h4
    refine ⟨pre ++ [i], t', ρ', e0, by simpa using e1, ?_, ?_, fun t v e => e5 t v (hext t v e), ?_, e7⟩
    · intro x hx
      rcases List.mem_append.1 hx with hx | hx
      · have := e2 x hx
        simp only [List.contains_eq_mem, List.mem_cons, decide_eq_false_iff_not, not_or] at this
        exact ⟨this.1, by simpa using this.2.2⟩
      · have : x = i := by simpa using hx
        subst this; exact ⟨him, hci⟩
    · intro x hx
      rcases List.mem_append.1 hx with hx | hx
      · exact e4 x hx
      · have : x = i := by simpa using hx
        subst this
        have hk : Known P n Df ops K x ((d, c) :: ρ) s := ⟨o, d, c, h1, h2, by simp [look], fun s' st a ha => h3 s' st a (Ag.rst_of hext ha)⟩
        exact hk.up st0 e5
    · intro t v e
      rcases e6 t v e with h | ⟨x, hx, hxd⟩
      · simp only [look] at h
        by_cases e : d = t
        · subst e; exact .inr ⟨i, by simp, hdi'⟩
        · have e' : Nat.beq d t = false := by rw [← Bool.not_eq_true, Nat.beq_eq]; exact e
          rw [e'] at h; exact .inl h
      · exact .inr ⟨x, by simp [hx], hxd⟩

theorem tree_sim {K : Lab → Prop} (hK : ∀ c, ¬ K ⟨0, c⟩) {Fin : Env → St → Prop} {m : Nat} {ρ0 : Env} (hok : regOk ops n m = true) (hfresh : freshOk ops m ρ0 = true)
    (hFin : ∀ ρ s a, Fin ρ s → Ag n Df ρ a → wpListIn (fnc Df.rd) 0 P ops Q (ops.toList.drop m) a s.w) :
    ∀ (fuel : Nat) (listed : Array Bool) (a : Act) (kn ac : List Nat) (t : PT) (ρ : Env) (s : St), listed.size = ops.size → ops.size - m + (List.range m).countP (fun i => !listed.getD i true) ≤ fuel →
      t.acts → PT.ok ops m true (kn ++ ac) t = true → (∀ x ∈ kn ++ ac, x < m) → (∀ x ∈ kn, Known P n Df ops K x ρ s) → (∀ x ∈ ac, listed.getD x true = true) → (∀ x, x < m → (kn ++ ac).contains x = false → listed.getD x true = false) → (∀ i, m ≤ i → i < ops.size → listed.getD i true = false) → (∀ i, i < ops.size → listed.getD i true = true → ∀ j ∈ onsAt ops i, listed.getD j true = true) →
      a.tmps.size = n → a.defers = Df.df → (∀ t v, look ρ0 t = some v → a.tmps.getD t undef = v) →
      (∀ x ∈ kn ++ ac, listed.getD x true = true → ∀ d v, dstAt ops x = some d → look ρ d = some v → a.tmps.getD d undef = v) →
      (∀ t v, look ρ t = some v → look ρ0 t = some v ∨ ∃ x ∈ kn ++ ac, dstAt ops x = some t) → (∀ x ∈ kn ++ ac, ∀ d, dstAt ops x = some d → ∃ v, look ρ d = some v) →
      RT P n Df ops K Fin t ρ s → wpAnyIn (fnc Df.rd) 0 P .any ops Q fuel listed a s.w := by
  simp only [regOk, Bool.and_eq_true] at hok
  obtain ⟨⟨⟨⟨⟨k1, k4⟩, k5⟩, k6⟩, k7⟩, k8⟩ := hok
  have hm : m ≤ ops.size := by simpa using k1
  have hback : ∀ i, i < ops.size → ∀ j ∈ onsAt ops i, j < i := by
    intro i hi j hj
    have := List.all_eq_true.1 (List.all_eq_true.1 k4 i (List.mem_range.2 hi)) j hj
    simpa using this
  have hedge : ∀ i, i < m → ∀ t ∈ looksI ops i, ∀ j, j < m → dstAt ops j = some t → j ∈ onsAt ops i := by
    intro i hi t ht j hj hd
    have := List.all_eq_true.1 (List.all_eq_true.1 (List.all_eq_true.1 k5 i (List.mem_range.2 hi)) t ht) j (List.mem_range.2 hj)
    simp only [Bool.or_eq_true, bne_iff_ne, ne_eq, List.contains_eq_mem, decide_eq_true_eq] at this
    rcases this with h | h
    · exact absurd hd h
    · exact h
  have htail : ∀ i, m ≤ i → i < ops.size → ∀ j, j < i → Rch ops i j := by
    intro i h1 h2 j hj
    have := List.all_eq_true.1 k6 i (List.mem_range.2 h2)
    simp only [Bool.or_eq_true] at this
    rcases this with h | h
    · have : i < m := by simpa using h
      omega
    · exact rchB_rch (List.all_eq_true.1 h j (List.mem_range.2 hj))
  have hdst : ∀ i, i < m → ∀ d, dstAt ops i = some d → d < n := by
    intro i hi d hd
    have := List.all_eq_true.1 k7 i (List.mem_range.2 hi)
    rw [hd] at this; simpa using this
  have hdist : ∀ i j, i < m → j < m → i ≠ j → ∀ d, dstAt ops i = some d → dstAt ops j ≠ some d := by
    intro i j hi hj hne d hd hd'
    have := List.all_eq_true.1 (List.all_eq_true.1 k8 i (List.mem_range.2 hi)) j (List.mem_range.2 hj)
    simp only [Bool.or_eq_true, Nat.beq_eq, bne_iff_ne, ne_eq] at this
    rcases this with h | h | h
    · exact hne h
    · exact h (hd.trans hd'.symm)
    · rw [hd] at h; simp at h
  have hfr : ∀ i, i < m → ∀ d, dstAt ops i = some d → look ρ0 d = none := by
    intro i hi d hd
    have := List.all_eq_true.1 hfresh i (List.mem_range.2 hi)
    rw [hd] at this
    simpa using this
  intro fuel
  have hfinish : ∀ (fuel : Nat) (listed : Array Bool) (a : Act) (kn ac : List Nat) (t : PT) (ρ : Env) (s : St), ops.size - m ≤ fuel → listed.size = ops.size → t.acts → PT.ok ops m true (kn ++ ac) t = true →
      (∀ i, m ≤ i → i < ops.size → listed.getD i true = false) → (∀ x, x < m → (kn ++ ac).contains x = false → listed.getD x true = false) →
      a.tmps.size = n → a.defers = Df.df → (∀ t v, look ρ0 t = some v → a.tmps.getD t undef = v) →
      (∀ x ∈ kn ++ ac, listed.getD x true = true → ∀ d v, dstAt ops x = some d → look ρ d = some v → a.tmps.getD d undef = v) →
      (∀ t v, look ρ t = some v → look ρ0 t = some v ∨ ∃ x ∈ kn ++ ac, dstAt ops x = some t) → (∀ x ∈ kn ++ ac, x < m) →
      RT P n Df ops K Fin t ρ s → (∀ i, i < m → listed.getD i true = true) → wpAnyIn (fnc Df.rd) 0 P .any ops Q fuel listed a s.w := by
    intro fuel listed a kn ac t ρ s hf hsz hta htk hunt hun hts hds E1 E2 E3 hlm hrd hall
    cases t with
    | fin =>
      refine tail_any hback htail fuel m listed a s.w hsz (Nat.le_refl _) hm hf (fun i hi => by rw [getD_any (c := true) (by omega)]; exact hall i hi) (fun i h1 h2 => by rw [getD_any (c := true) (by omega)]; exact hunt i h1 h2) (hFin ρ s a hrd ⟨hts, ?_, hds⟩)
      intro t v e
      rcases E3 t v e with h | ⟨x, hx, hd⟩
      · exact E1 t v h
      · exact E2 x hx (hall x (hlm x hx)) t v hd e
    | alt i t r =>
      exfalso
      have hp := RT.pick (i := i) hrd htk (by simp [PT.heads])
      have h1 := hun i hp.1 hp.2.1
      rw [hall i hp.1] at h1
      simp at h1
    | read i t => exact hta.elim
    | no => exact hta.elim
  induction fuel with
  | zero =>
    intro listed a kn ac t ρ s hsz hf hta htk hlm hkn hact hun hunt hdown hts hds E1 E2 E3 E4 hrd
    have hall : ∀ i, i < m → listed.getD i true = true := by
      intro i hi
      have h0 : (List.range m).countP (fun i => !listed.getD i true) = 0 := by omega
      have := (List.countP_eq_zero.1 h0) i (List.mem_range.2 hi)
      simpa using this
    exact hfinish 0 listed a kn ac t ρ s (by omega) hsz hta htk hunt hun hts hds E1 E2 E3 hlm hrd hall
  | succ fuel ih =>
    intro listed a kn ac t ρ s hsz hf hta htk hlm hkn hact hun hunt hdown hts hds E1 E2 E3 E4 hrd
    by_cases hall : ∀ i, i < m → listed.getD i true = true
    · exact hfinish (fuel + 1) listed a kn ac t ρ s (by omega) hsz hta htk hunt hun hts hds E1 E2 E3 hlm hrd hall
    · have hex : ∃ i, i < m ∧ listed.getD i true = false := by
        apply Classical.byContradiction
        intro hne
        exact hall (fun i hi => by
          cases h : listed.getD i true with
          | true => rfl
          | false => exact absurd ⟨i, hi, h⟩ hne)
      refine ⟨fun hr => ?_, fun i hi => ?_⟩
      · exfalso
        obtain ⟨i0, ⟨hi0, hu0⟩, hleast⟩ := exists_least hex
        have : i0 ∈ Region.ready .any ops listed := mem_ready.2 ⟨by omega, hu0, fun j hj => by
          have hji := hback i0 (by omega) j hj
          rw [getD_any (c := true) (by omega)]
          cases h : listed.getD j true with
          | true => rfl
          | false => have := hleast j ⟨by omega, h⟩; omega⟩
        rw [hr] at this; simp at this
      · obtain ⟨h1, h2, h3⟩ := mem_ready.1 hi
        have him : i < m := by
          rcases Nat.lt_or_ge i m with h | h
          · exact h
          · exfalso
            refine hall (fun j hj => ?_)
            have key : ∀ {q k : Nat}, Rch ops q k → q < ops.size → listed.getD q true = true → listed.getD k true = true := by
              intro q k hr
              induction hr with
              | one hd => intro hq hl; exact hdown _ hq hl _ hd
              | more hd _ ih => intro hq hl; exact ih (by have := hback _ hq _ hd; omega) (hdown _ hq hl _ hd)
            cases htail i h h1 j (by omega) with
            | one hd =>
              have := h3 j hd
              rwa [getD_any (c := true) (by omega)] at this
            | more hq1 hr2 =>
              rename_i q
              have h6 := hback i h1 q hq1
              have := h3 q hq1
              rw [getD_any (c := true) (by omega)] at this
              exact key hr2 (by omega) this
        -- what the activation knows of the operation's operands
        have hag : ∀ o, ops[i]? = some o → Ag n Df (rst ρ (o.looksAt ops)) a := by
          intro o ho
          refine ⟨hts, fun t v e => ?_, hds⟩
          obtain ⟨ht, hl⟩ := look_rst e
          rcases E3 t v hl with h | ⟨x, hx, hxd⟩
          · exact E1 t v h
          · have hxm := hlm x hx
            have hj := hedge i him t (by simpa [looksI, ho] using ht) x hxm hxd
            have hlj := h3 _ hj
            rw [getD_any (c := true) (by omega)] at hlj
            exact E2 x hx hlj t v hxd hl
        have hcount : (List.range m).countP (fun j => !(listed.setIfInBounds i true).getD j true) + 1 = (List.range m).countP (fun j => !listed.getD j true) := by
          refine (countP_set (i := i) List.nodup_range (List.mem_range.2 him) (by simp [h2]) ?_ ?_).symm
          · simp [getD_set (show i < listed.size by omega)]
          · intro j hj
            rw [getD_set (by omega), if_neg (by omega)]
        have hset : ∀ j, (listed.setIfInBounds i true).getD j true = if i = j then true else listed.getD j true := fun j => getD_set (by omega)
        have hdown2 : ∀ i', i' < ops.size → (listed.setIfInBounds i true).getD i' true = true → ∀ j ∈ onsAt ops i', (listed.setIfInBounds i true).getD j true = true := by
          intro i' hi' hl j hj
          rw [hset]
          split
          · rfl
          · by_cases he : i' = i
            · subst he
              have := h3 j hj
              rwa [getD_any (c := true) (by have := hback i' h1 j hj; omega)] at this
            · rw [hset, if_neg (fun e => he e.symm)] at hl
              exact hdown i' hi' hl j hj
        have hext : ∀ d' v, dstAt ops i = some d' → (∀ t v', look ρ t = some v' → d' ≠ t) → ∀ t v', look ρ t = some v' → look ((d', v) :: ρ) t = some v' := by
          intro d' v _ hne t v' e
          simp only [look]
          have e' : Nat.beq d' t = false := by rw [← Bool.not_eq_true, Nat.beq_eq]; exact hne t v' e
          rw [e']; exact e
        by_cases hik : i ∈ kn
        · -- it only reads
          obtain ⟨o, d', c, ho, hd', hl, hkl⟩ := hkn _ hik
          have hd : dstAt ops i = some d' := by simp [dstAt, ho, hd']
          have hdn := hdst i him d' hd
          refine wpOp_of_KL ho hd' (hag o ho) (C := fun v w' => v = c ∧ w' = s.w) ?_ hdn (hkl s ((Step.refl s).of0 hK)) ?_
          · rintro e ρ' w' ⟨e1, e2, e3⟩
            exact ⟨e1, c, e3, rfl, e2⟩
          · rintro v w' ⟨rfl, rfl⟩
            refine ih _ _ kn ac t ρ s (by simpa using hsz) (by omega) hta htk hlm hkn ?_ ?_ ?_ hdown2 (by simp [Act.put, hts]) (by simp [Act.put, hds]) ?_ ?_ E3 E4 hrd
            · intro x hx
              rw [hset]; split
              · rfl
              · exact hact x hx
            · intro x hx hxc
              rw [hset]
              have : i ≠ x := by
                rintro rfl
                simp only [List.contains_eq_mem, decide_eq_false_iff_not, List.mem_append, not_or] at hxc
                exact hxc.1 hik
              rw [if_neg this]; exact hun x hx hxc
            · intro j hj1 hj2
              rw [hset, if_neg (by omega)]; exact hunt j hj1 hj2
            · intro t v' e
              have : d' ≠ t := by rintro rfl; rw [hfr i him _ hd] at e; simp at e
              rw [put_getD this]; exact E1 t v' e
            · intro x hx hlx d2 v' hd2 hl2
              have hxm := hlm x hx
              by_cases hxi : x = i
              · rw [hxi, hd] at hd2
                have := Option.some.inj hd2
                subst this
                rw [hl] at hl2
                have := Option.some.inj hl2
                subst this
                exact put_getD_self (by omega)
              · have hne : d' ≠ d2 := by rintro rfl; exact hdist x i hxm him hxi _ hd2 hd
                rw [put_getD hne]
                rw [hset, if_neg (fun e => hxi e.symm)] at hlx
                exact E2 x hx hlx d2 v' hd2 hl2
        · have hdone : (kn ++ ac).contains i = false := by
            simp only [List.contains_eq_mem, decide_eq_false_iff_not, List.mem_append, not_or]
            exact ⟨hik, fun hia => by rw [hact i hia] at h2; simp at h2⟩
          have hhead : i ∈ t.heads := by
            cases t with
            | fin =>
              simp only [PT.ok, Bool.true_and] at htk
              have := List.all_eq_true.1 htk i (List.mem_range.2 him)
              rw [hdone] at this; simp at this
            | read i t => exact hta.elim
            | no => exact hta.elim
            | alt i0 t0 r0 =>
              have htk' := htk
              simp only [PT.ok, Bool.and_eq_true] at htk'
              obtain ⟨⟨⟨⟨g0, g1⟩, g2⟩, g3⟩, g4⟩ := htk'
              simp only [Bool.not_true, Bool.false_or] at g0
              have g5 := List.all_eq_true.1 g0 i (List.mem_range.2 him)
              simp only [Bool.or_eq_true] at g5
              rcases g5 with (g5 | g5) | g5
              · rw [hdone] at g5; simp at g5
              · simpa using g5
              · exfalso
                obtain ⟨q, hq1, hq2⟩ := List.any_eq_true.1 g5
                have hlj := h3 q hq1
                have hqi := hback i h1 q hq1
                rw [getD_any (c := true) (by omega)] at hlj
                have := hun q (by omega) (by simpa using hq2)
                rw [this] at hlj; simp at hlj
          obtain ⟨_, _, t', htk', o, ho, hkl⟩ := RT.pick hrd htk hhead
          have hdo : dstAt ops i = o.dst := by simp [dstAt, ho]
          refine wpOp_of_KLo ho (hag o ho) (C := fun v w' => ∃ s', s'.w = w' ∧ Step K s s' ∧ RT P n Df ops K Fin t' (ext o v ρ) s') ?_ (fun d hd => hdst i him d (hdo.trans hd)) hkl ?_
          · rintro e ρ' w' ⟨e1, s', v, e2, e3, e4, e5⟩
            exact ⟨e1, v, e4, s', e2, e3, e5⟩
          · rintro v w' ⟨s', rfl, st, hr⟩
            have hnel : ∀ d', dstAt ops i = some d' → ∀ t v', look ρ t = some v' → d' ≠ t := by
              rintro d' hd t v' e rfl
              rcases E3 _ v' e with h | ⟨x, hx, hxd⟩
              · rw [hfr i him _ hd] at h; simp at h
              · refine hdist x i (hlm x hx) him ?_ _ hxd hd
                rintro rfl
                simp only [List.contains_eq_mem, decide_eq_false_iff_not] at hdone
                exact hdone hx
            have hold : ∀ t v', look ρ t = some v' → look (ext o v ρ) t = some v' := by
              intro t v' e
              unfold ext
              cases hd : o.dst with
              | none => exact e
              | some d' => exact hext d' v (hdo.trans hd) (hnel d' (hdo.trans hd)) t v' e
            have hnew : ∀ t v', look (ext o v ρ) t = some v' → look ρ t = some v' ∨ (dstAt ops i = some t ∧ v' = v) := by
              intro t v' e
              unfold ext at e
              cases hd : o.dst with
              | none => rw [hd] at e; exact .inl e
              | some d' =>
                rw [hd] at e
                simp only [look] at e
                by_cases he : d' = t
                · subst he; simp at e; exact .inr ⟨hdo.trans hd, e.symm⟩
                · have e' : Nat.beq d' t = false := by rw [← Bool.not_eq_true, Nat.beq_eq]; exact he
                  rw [e'] at e; exact .inl e
            have hget : ∀ d', dstAt ops i = some d' → look (ext o v ρ) d' = some v := by
              intro d' hd
              rw [hdo] at hd
              unfold ext
              rw [hd]; simp [look]
            have hputs : (a.put o.dst v).tmps.size = n := by cases o.dst <;> simp [Act.put, hts]
            have hputd : (a.put o.dst v).defers = Df.df := by cases o.dst <;> simp [Act.put, hds]
            have hputo : ∀ t, (∀ d', dstAt ops i = some d' → d' ≠ t) → (a.put o.dst v).tmps.getD t undef = a.tmps.getD t undef := by
              intro t ht
              cases hd : o.dst with
              | none => rfl
              | some d' => exact put_getD (ht d' (hdo.trans hd))
            have hputs2 : ∀ d', dstAt ops i = some d' → (a.put o.dst v).tmps.getD d' undef = v := by
              intro d' hd
              have hdn := hdst i him d' hd
              rw [hdo] at hd
              rw [hd]; exact put_getD_self (by omega)
            have hlm2 : ∀ x ∈ i :: (kn ++ ac), x < m := by
              intro x hx
              rcases List.mem_cons.1 hx with rfl | hx
              · exact him
              · exact hlm x hx
            obtain ⟨pre2, t2, ρ2, q0, q1, q2, q4, q5, q6, q7⟩ := RT.peel hdist (t := t') (done := i :: (kn ++ ac)) (ρ := ext o v ρ) (s := s') hlm2 htk' (fun j hj hjc dx hdx => by
                simp only [List.contains_eq_mem, List.mem_cons, decide_eq_false_iff_not, not_or] at hjc
                cases hl : look (ext o v ρ) dx with
                | none => rfl
                | some v' =>
                  exfalso
                  rcases hnew _ _ hl with hl | ⟨hdi, _⟩
                  · rcases E3 _ v' hl with h | ⟨y, hy, hyd⟩
                    · rw [hfr j hj _ hdx] at h; simp at h
                    · refine hdist y j (hlm y hy) hj ?_ _ hyd hdx
                      rintro rfl
                      exact hjc.2 hy
                  · exact hdist j i hj him hjc.1 _ hdx hdi) ((Step.refl s').of0 hK) hr
            have hρ2 : ∀ t v', look ρ t = some v' → look ρ2 t = some v' := fun t v' e => q5 t v' (hold t v' e)
            have hperm : ∀ x, (x ∈ (pre2 ++ kn) ++ (i :: ac)) ↔ (x ∈ pre2 ∨ x = i ∨ x ∈ kn ++ ac) := by
              intro x
              simp only [List.mem_append, List.mem_cons]
              constructor
              · rintro ((h | h) | h | h)
                · exact .inl h
                · exact .inr (.inr (.inl h))
                · exact .inr (.inl h)
                · exact .inr (.inr (.inr h))
              · rintro (h | h | h | h)
                · exact .inl (.inl h)
                · exact .inr (.inl h)
                · exact .inl (.inr h)
                · exact .inr (.inr h)
            have hcontains : ∀ x, ((pre2 ++ kn) ++ (i :: ac)).contains x = (pre2 ++ (i :: (kn ++ ac))).contains x := by
              intro x
              rw [Bool.eq_iff_iff]
              simp only [List.contains_eq_mem, decide_eq_true_eq]
              rw [hperm]
              simp [List.mem_append, List.mem_cons]
            refine ih _ _ (pre2 ++ kn) (i :: ac) t2 ρ2 s' (by simpa using hsz) (by omega) q0 (by rw [PT.ok_congr hcontains]; exact q1) ?_ ?_ ?_ ?_ ?_ hdown2 hputs hputd ?_ ?_ ?_ ?_ q7
            · intro x hx
              rcases (hperm x).1 hx with h | h | h
              · exact (q2 x h).1
              · subst h; exact him
              · exact hlm x h
            · intro x hx
              rcases List.mem_append.1 hx with h | h
              · exact q4 x h
              · exact (hkn x h).up st hρ2
            · intro x hx
              rw [hset]
              rcases List.mem_cons.1 hx with h | h
              · subst h; simp
              · split
                · rfl
                · exact hact x h
            · intro x hx hxc
              rw [hcontains] at hxc
              simp only [List.contains_eq_mem, decide_eq_false_iff_not, List.mem_append, List.mem_cons, not_or] at hxc
              rw [hset, if_neg (fun e => hxc.2.1 e.symm)]
              exact hun x hx (by simp only [List.contains_eq_mem, decide_eq_false_iff_not, List.mem_append, not_or]; exact hxc.2.2)
            · intro j hj1 hj2
              rw [hset, if_neg (by omega)]; exact hunt j hj1 hj2
            · intro t v' e
              rw [hputo t (fun d' hd => by rintro rfl; rw [hfr i him _ hd] at e; simp at e)]; exact E1 t v' e
            · intro x hx hlx d2 v' hd2 hl2
              rcases (hperm x).1 hx with h | h | h
              · exfalso
                have h5 := q2 x h
                simp only [List.contains_eq_mem, List.mem_cons, decide_eq_false_iff_not, not_or] at h5
                rw [hset, if_neg (fun e => h5.2.1 e.symm)] at hlx
                have := hun x h5.1 (by simp only [List.contains_eq_mem, decide_eq_false_iff_not]; exact h5.2.2)
                rw [hlx] at this; simp at this
              · subst h
                have := q5 d2 v (hget d2 hd2)
                rw [hl2] at this
                have := Option.some.inj this
                subst this
                exact hputs2 d2 hd2
              · have hxi : x ≠ i := by
                  rintro rfl
                  simp only [List.contains_eq_mem, decide_eq_false_iff_not] at hdone
                  exact hdone h
                rw [hputo d2 (fun d' hd => by rintro rfl; exact hdist x i (hlm x h) him hxi _ hd2 hd)]
                rw [hset, if_neg (fun e => hxi e.symm)] at hlx
                obtain ⟨v2, hv2⟩ := E4 x h d2 hd2
                have := hρ2 d2 v2 hv2
                rw [hl2] at this
                have := Option.some.inj this
                subst this
                exact E2 x h hlx d2 v' hd2 hv2
            · intro t v' e
              rcases q6 t v' e with h | ⟨x, hx, hxd⟩
              · rcases hnew t v' h with h | ⟨h, _⟩
                · rcases E3 t v' h with h | ⟨x, hx, hxd⟩
                  · exact .inl h
                  · exact .inr ⟨x, (hperm x).2 (.inr (.inr hx)), hxd⟩
                · exact .inr ⟨i, (hperm i).2 (.inr (.inl rfl)), h⟩
              · exact .inr ⟨x, (hperm x).2 (.inl hx), hxd⟩
            · intro x hx d2 hd2
              rcases (hperm x).1 hx with h | h | h
              · obtain ⟨o2, d3, c2, g1, g2, g3, _⟩ := q4 x h
                have : dstAt ops x = some d3 := by simp [dstAt, g1, g2]
                rw [hd2] at this
                have := Option.some.inj this
                subst this
                exact ⟨c2, g3⟩
              · subst h
                exact ⟨v, q5 d2 v (hget d2 hd2)⟩
              · obtain ⟨v2, hv2⟩ := E4 x h d2 hd2
                exact ⟨v2, hρ2 d2 v2 hv2⟩
end

section
variable {P : Program} {n : Nat} {Df : Md} {F : Post} {k : List It} {ρ : Env} {s : St}
/-- A region whose order is open. -/
theorem k_drawT {id : Nat} {l : List Oper} (K : Lab → Prop) (m : Nat) (t : PT) (hm : P.follows .mixedOrders = true) (hK : ∀ c, ¬ K ⟨0, c⟩) (hreg : regOk l.toArray n m = true) (hok : PT.ok l.toArray m true [] t = true) (hf : freshOk l.toArray m ρ = true)
    (h : ∀ s1, Step K0 s s1 → RT P n Df l.toArray K (fun ρ' s' => KL P n Df l.toArray (Qs P n Df F k) (l.drop m) ρ' s'.w) t ρ s1) : G P n Df F (.code (.region id l.toArray true) :: k) ρ s.w := by
  intro a ha
  let s1 : St := ⟨{ s.w with drawn := s.w.drawn + 1 }, s.g, s.wf⟩
  have st : Step K0 s s1 := ⟨rfl, rfl, rfl, Nat.le_refl _, fun _ _ _ => ⟨rfl, rfl⟩, fun _ h => h⟩
  refine wpIn_region_any hm ?_
  have hreg' := hreg
  simp only [regOk, Bool.and_eq_true] at hreg'
  obtain ⟨⟨⟨⟨⟨k1, k4⟩, k5⟩, k6⟩, k7⟩, k8⟩ := hreg'
  have hmle : m ≤ l.toArray.size := by simpa using k1
  have hfr : ∀ i, i < m → ∀ d, dstAt l.toArray i = some d → look ρ d = none := by
    intro i hi d hd
    have := List.all_eq_true.1 hf i (List.mem_range.2 hi)
    rw [hd] at this
    simpa using this
  have hdist : ∀ i j, i < m → j < m → i ≠ j → ∀ d, dstAt l.toArray i = some d → dstAt l.toArray j ≠ some d := by
    intro i j hi hj hne d hd hd'
    have := List.all_eq_true.1 (List.all_eq_true.1 k8 i (List.mem_range.2 hi)) j (List.mem_range.2 hj)
    simp only [Bool.or_eq_true, Nat.beq_eq, bne_iff_ne, ne_eq] at this
    rcases this with h | h | h
    · exact hne h
    · exact h (hd.trans hd'.symm)
    · rw [hd] at h; simp at h
  obtain ⟨pre, t', ρ', q0, q1, q2, q4, q5, q6, q7⟩ := RT.peel hdist (t := t) (done := []) (fun x hx => by simp at hx) hok (fun j hj _ d hd => hfr j hj d hd) ((Step.refl s1).of0 hK) (h s1 st)
  have hfalse' : ∀ i, i < l.toArray.size → (Array.replicate l.toArray.size false).getD i true = false := by
    intro i h
    have h' : i < l.length := by simpa using h
    simp [Array.getD_eq_getD_getElem?, h']
  refine tree_sim hK hreg hf (fun ρ s a hF ha => ?_) l.toArray.size (Array.replicate l.toArray.size false) a pre [] t' ρ' s1 (by simp) ?_ q0 q1 (fun x hx => ?_) q4 (fun x hx => by simp at hx) (fun x hx _ => hfalse' x (by omega)) (fun i h1 h2 => hfalse' i h2) (fun i hi hl => by rw [hfalse' i hi] at hl; simp at hl) ha.size ha.defers (fun t v e => ha.get t v e) ?_ (fun t v e => by
      rcases q6 t v e with h | ⟨x, hx, hxd⟩
      · exact .inl h
      · exact .inr ⟨x, by simp [hx], hxd⟩) ?_ q7
  · simpa using hF a ha
  · have : (List.range m).countP (fun i => !(Array.replicate l.toArray.size false).getD i true) ≤ m := by
      have := List.countP_le_length (p := fun i => !(Array.replicate l.toArray.size false).getD i true) (l := List.range m)
      simpa using this
    omega
  · exact (q2 x (by simpa using hx)).1
  · intro x hx hlx
    have hxm := (q2 x (by simpa using hx)).1
    rw [hfalse' x (by omega)] at hlx
    simp at hlx
  · intro x hx d hd
    obtain ⟨o, d', c, g1, g2, g3, _⟩ := q4 x (by simpa using hx)
    have : dstAt l.toArray x = some d' := by simp [dstAt, g1, g2]
    rw [hd] at this
    have := Option.some.inj this
    subst this
    exact ⟨c, g3⟩
end

section
variable {P : Program} {n : Nat} {Df : Md} {ops : Array Oper} {K : Lab → Prop} {Fin : Env → St → Prop} {r r2 : PT} {i : Nat} {ρ : Env} {s : St}
variable {d j : Nat} {ty : TypeId} {pos : String} {aft : Array Edge} {x y : Operand} {tx : TypeId} {g : Option (Nat × Bool)}
theorem rt_fin (h : Fin ρ s) : RT P n Df ops K Fin .fin ρ s := h
theorem rt_no : RT P n Df ops K Fin .no ρ s := trivial
theorem rt_read {o : Oper} {d : Nat} (c : Value) (ho : ops[i]? = some o) (hd : o.dst = some d) (h : ∀ s', Step K s s' → KL P n Df ops (FQ d c s'.w) [o] (rst ρ (o.looksAt ops)) s'.w) (hr : RT P n Df ops K Fin r ((d, c) :: ρ) s) :
    RT P n Df ops K Fin (.read i r) ρ s := ⟨o, d, c, ho, hd, h, hr⟩
theorem rt_alt {o : Oper} {d : Nat} (ho : ops[i]? = some o) (hd : o.dst = some d)
    (h : KL P n Df ops (fun e ρ' w' => e = .normal ∧ ∃ s' v, s'.w = w' ∧ Step K s s' ∧ look ρ' d = some v ∧ RT P n Df ops K Fin r ((d, v) :: ρ) s') [o] (rst ρ (o.looksAt ops)) s.w) (h2 : RT P n Df ops K Fin r2 ρ s) :
    RT P n Df ops K Fin (.alt i r r2) ρ s := by
  refine ⟨⟨o, ho, ?_⟩, h2⟩
  have e : (fun (e : Exit) (ρ' : Env) (w' : World) => e = .normal ∧ ∃ s' v, s'.w = w' ∧ Step K s s' ∧ (∀ d, o.dst = some d → look ρ' d = some v) ∧ RT P n Df ops K Fin r (ext o v ρ) s') = (fun e ρ' w' => e = .normal ∧ ∃ s' v, s'.w = w' ∧ Step K s s' ∧ look ρ' d = some v ∧ RT P n Df ops K Fin r ((d, v) :: ρ) s') := by
    funext e ρ' w'
    simp [ext, hd]
  rw [e]; exact h
theorem rt_act {o : Oper} {d : Nat} (ho : ops[i]? = some o) (hd : o.dst = some d)
    (h : KL P n Df ops (fun e ρ' w' => e = .normal ∧ ∃ s' v, s'.w = w' ∧ Step K s s' ∧ look ρ' d = some v ∧ RT P n Df ops K Fin r ((d, v) :: ρ) s') [o] (rst ρ (o.looksAt ops)) s.w) :
    RT P n Df ops K Fin (.alt i r .no) ρ s := rt_alt ho hd h trivial
theorem rt_alt0 {o : Oper} (ho : ops[i]? = some o) (hd : o.dst = none)
    (h : KL P n Df ops (fun e ρ' w' => e = .normal ∧ ∃ s', s'.w = w' ∧ Step K s s' ∧ RT P n Df ops K Fin r ρ s') [o] (rst ρ (o.looksAt ops)) s.w) (h2 : RT P n Df ops K Fin r2 ρ s) :
    RT P n Df ops K Fin (.alt i r r2) ρ s := by
  refine ⟨⟨o, ho, ?_⟩, h2⟩
  have e : (fun (e : Exit) (ρ' : Env) (w' : World) => e = .normal ∧ ∃ s' v, s'.w = w' ∧ Step K s s' ∧ (∀ d, o.dst = some d → look ρ' d = some v) ∧ RT P n Df ops K Fin r (ext o v ρ) s') = (fun e ρ' w' => e = .normal ∧ ∃ s', s'.w = w' ∧ Step K s s' ∧ RT P n Df ops K Fin r ρ s') := by
    funext e ρ' w'
    refine propext (and_congr_right fun _ => ⟨?_, ?_⟩)
    · rintro ⟨s', v, e1, e2, e3, e4⟩; exact ⟨s', e1, e2, by simpa [ext, hd] using e4⟩
    · rintro ⟨s', e1, e2, e4⟩; exact ⟨s', undef, e1, e2, fun d h => (by rw [hd] at h; cases h), by simpa [ext, hd] using e4⟩
  rw [e]; exact h
theorem rt_act0 {o : Oper} (ho : ops[i]? = some o) (hd : o.dst = none)
    (h : KL P n Df ops (fun e ρ' w' => e = .normal ∧ ∃ s', s'.w = w' ∧ Step K s s' ∧ RT P n Df ops K Fin r ρ s') [o] (rst ρ (o.looksAt ops)) s.w) :
    RT P n Df ops K Fin (.alt i r .no) ρ s := rt_alt0 ho hd h trivial
theorem rt_cont0 {ρr : Env} {s s' : St} (st : Step K s s') (h : RT P n Df ops K Fin r ρ s') :
    KL P n Df ops (fun e ρ' w' => e = .normal ∧ ∃ s', s'.w = w' ∧ Step K s s' ∧ RT P n Df ops K Fin r ρ s') [] ρr s'.w :=
  fun a ha => ⟨_, ha, rfl, s', rfl, st, h⟩
theorem rt_cont {d : Nat} {v : Value} {ρr : Env} {s s' : St} (st : Step K s s') (h : RT P n Df ops K Fin r ((d, v) :: ρ) s') :
    KL P n Df ops (fun e ρ' w' => e = .normal ∧ ∃ s' v, s'.w = w' ∧ Step K s s' ∧ look ρ' d = some v ∧ RT P n Df ops K Fin r ((d, v) :: ρ) s') [] ((d, v) :: ρr) s'.w :=
  fun a ha => ⟨_, ha, rfl, s', v, rfl, st, by simp [look], h⟩
theorem rt_split {t : Nat} {p : Prop} [inst : Decidable p] {L : PT} (ht : p → RT P n Df ops K Fin L ((t, .bool true) :: ρ) s) (hf : ¬ p → RT P n Df ops K Fin L ((t, .bool false) :: ρ) s) : RT P n Df ops K Fin L ((t, .bool (decide p)) :: ρ) s := by
  by_cases hp : p
  · rw [decide_eq_true hp]; exact ht hp
  · rw [decide_eq_false hp]; exact hf hp
theorem rt_splitb {t : Nat} {b : Bool} {L : PT} (ht : b = true → RT P n Df ops K Fin L ((t, .bool true) :: ρ) s) (hf : b = false → RT P n Df ops K Fin L ((t, .bool false) :: ρ) s) : RT P n Df ops K Fin L ((t, .bool b) :: ρ) s := by
  cases b
  · exact hf rfl
  · exact ht rfl
theorem rt_ix {l : Lab} {v : Value} {w : Nat} {ds : List D} {dd : D} {e : TypeId} {k : IntKind} {p : Int}
    (ho : ops[i]? = some ⟨some d, .indexAddr tx x y, ty, pos, aft, g⟩) (hg : Wanted P n Df ops (rst ρ ((⟨some d, .indexAddr tx x y, ty, pos, aft, g⟩ : Oper).looksAt ops)) ⟨some d, .indexAddr tx x y, ty, pos, aft, g⟩)
    (hT : P.underlying tx = some (.slice e)) (hs : sizeT P e w = true) (hx : ev (rst ρ ((⟨some d, .indexAddr tx x y, ty, pos, aft, g⟩ : Oper).looksAt ops)) x = some v) (hy : ev (rst ρ ((⟨some d, .indexAddr tx x y, ty, pos, aft, g⟩ : Oper).looksAt ops)) y = some (.int k p)) (h : SL s l v w ds)
    (h0 : 0 ≤ p) (hdd : ds[p.toNat]? = some dd) (hd : Nat.blt d n = true) (hr : ∀ q, At s l q dd → RT P n Df ops K Fin r ((d, q) :: ρ) s) : RT P n Df ops K Fin (.read i r) ρ s := by
  obtain ⟨b, off, cap, rfl, ha⟩ := h.at hdd
  have hlt : p.toNat < ds.length := (List.getElem?_eq_some_iff.1 hdd).1
  exact rt_read _ ho rfl (fun s' st => hg _ _ (k_ixaddrP hT hs hx hy h0 (show p < (ds.length : Int) by omega) hd fq_end)) (hr _ ha)
theorem rt_ixN {l : Lab} {v : Value} {w : Nat} {ds : List D} {dd : D} {e : TypeId} {k : IntKind} {p : Nat}
    (ho : ops[i]? = some ⟨some d, .indexAddr tx x y, ty, pos, aft, g⟩) (hg : Wanted P n Df ops (rst ρ ((⟨some d, .indexAddr tx x y, ty, pos, aft, g⟩ : Oper).looksAt ops)) ⟨some d, .indexAddr tx x y, ty, pos, aft, g⟩)
    (hT : P.underlying tx = some (.slice e)) (hs : sizeT P e w = true) (hx : ev (rst ρ ((⟨some d, .indexAddr tx x y, ty, pos, aft, g⟩ : Oper).looksAt ops)) x = some v) (hy : ev (rst ρ ((⟨some d, .indexAddr tx x y, ty, pos, aft, g⟩ : Oper).looksAt ops)) y = some (.int k (p : Int))) (h : SL s l v w ds)
    (hdd : ds[p]? = some dd) (hd : Nat.blt d n = true) (hr : ∀ q, At s l q dd → RT P n Df ops K Fin r ((d, q) :: ρ) s) : RT P n Df ops K Fin (.read i r) ρ s :=
  rt_ix ho hg hT hs hx hy h (by omega) (by simpa using hdd) hd hr

theorem rt_fa {t : TypeId} {f : Nat} {l : Lab} {p : Value} {ds : List D} {dd : D}
    (ho : ops[i]? = some ⟨some d, .fieldAddr t x f, ty, pos, aft, g⟩) (hg : Wanted P n Df ops (rst ρ ((⟨some d, .fieldAddr t x f, ty, pos, aft, g⟩ : Oper).looksAt ops)) ⟨some d, .fieldAddr t x f, ty, pos, aft, g⟩)
    (hx : ev (rst ρ ((⟨some d, .fieldAddr t x f, ty, pos, aft, g⟩ : Oper).looksAt ops)) x = some p) (h : At s l p (.agg ds)) (hf : ds[f]? = some dd) (hF : fieldT P t f = some (D.wd.wdL (ds.take f))) (hd : Nat.blt d n = true)
    (hr : ∀ q, At s l q dd → RT P n Df ops K Fin r ((d, q) :: ρ) s) : RT P n Df ops K Fin (.read i r) ρ s := by
  obtain ⟨b, o, rfl, h'⟩ := h.field hf
  exact rt_read _ ho rfl (fun s' st => hg _ _ (k_field_addr hF hx hd fq_end)) (hr _ h')

theorem rt_ldsl {l : Lab} {p : Value} {w : Nat} {ds : List D} (ho : ops[i]? = some ⟨some d, .load tx x, ty, pos, aft, g⟩) (hg : Wanted P n Df ops (rst ρ ((⟨some d, .load tx x, ty, pos, aft, g⟩ : Oper).looksAt ops)) ⟨some d, .load tx x, ty, pos, aft, g⟩)
    (hT : oneT P tx = true) (hx : ev (rst ρ ((⟨some d, .load tx x, ty, pos, aft, g⟩ : Oper).looksAt ops)) x = some p) (h : At s l p (.sl w ds)) (hk : ¬ K l) (hd : Nat.blt d n = true)
    (hr : ∀ v, R s v (.sl w ds) → RT P n Df ops K Fin r ((d, v) :: ρ) s) : RT P n Df ops K Fin (.read i r) ρ s := by
  obtain ⟨b, off, cs, rfl, hb, hgl, hc, h⟩ := h
  obtain ⟨v, rfl, hv⟩ := h.sl_inv
  have h0 : s.w.cell? ⟨b, off, none⟩ = some v := by have := hc 0 (by simp); simpa using this
  have hk' : ¬ K (s.g b) := by rw [hgl]; exact hk
  exact rt_read _ ho rfl (fun s' st => hg _ _ (k_load_cell hT hx ((st.cell hb hk' _).trans h0) hd fq_end)) (hr _ hv)

end
/-- The same slice under another owner. -/
theorem Own.relabel {s : St} {l : Lab} {e : TypeId} {w : Nat} {v : Value} {ds : List D} (q c : Nat) (h : Own s l e w v ds) (hq : q < l.o) (hs : q ≤ s.n) : ∃ s', s'.w = s.w ∧ Step (KC l.o l.c) s s' ∧ Own s' ⟨q + 1, c⟩ e w v ds := by
  classical
  obtain ⟨h0, h1, xs, ho, hg, hr⟩ := h
  let s' : St := ⟨s.w, fun b => if v.ownBlock = some b then ⟨q + 1, c⟩ else s.g b, fun b => by
    by_cases hb : v.ownBlock = some b
    · have := s.wf b; rw [hg b hb] at this; simp [hb]; omega
    · simp [hb]; exact s.wf b⟩
  have hst : Step (KC l.o l.c) s s' := ⟨rfl, rfl, rfl, Nat.le_refl _, fun b hb hk => ⟨rfl, by
    by_cases hvb : v.ownBlock = some b
    · exact absurd ⟨by rw [hg b hvb], by rw [hg b hvb]⟩ hk
    · simp [s', hvb]⟩, fun c hc => h0 hc.1.symm⟩
  exact ⟨s', rfl, hst, Nat.succ_ne_zero _, Nat.succ_le_succ hs, xs, ho, fun g hgb => by simp [s', hgb], hr.up hst⟩

/-- Owners that are new since then. -/
abbrev KN (q : Nat) : Lab → Prop := fun l => q < l.o
theorem SL.up2 {K : Lab → Prop} {s s' : St} {l : Lab} {v : Value} {w : Nat} {ds : List D} (h : SL s l v w ds) (st : Step K s s') (hk : ¬ K l := by first | exact id | (simp only [KU, KN, KC, KO, K0, KB] <;> omega)) : SL s' l v w ds := h.up st hk
theorem Own.up2 {K : Lab → Prop} {s s' : St} {l : Lab} {e : TypeId} {v : Value} {w : Nat} {ds : List D} (h : Own s l e w v ds) (st : Step K s s') (hk : ¬ K l := by first | exact id | (simp only [KU, KN, KC, KO, K0, KB] <;> omega)) : Own s' l e w v ds := h.up st hk
theorem Blk.up2 {K : Lab → Prop} {s s' : St} {b : Nat} {l : Lab} {cs : List Value} {T : TypeId} (h : Blk s b l cs T) (st : Step K s s') (hk : ¬ K l := by first | exact id | (simp only [KU, KN, KC, KO, K0, KB] <;> omega)) : Blk s' b l cs T := h.up st hk
theorem At.up2 {K : Lab → Prop} {s s' : St} {l : Lab} {p : Value} {d : D} (h : At s l p d) (st : Step K s s') (hk : ¬ K l := by first | exact id | (simp only [KU, KN, KC, KO, K0, KB] <;> omega)) : At s' l p d := h.up st hk
theorem R.up2 {K : Lab → Prop} {s s' : St} {v : Value} {d : D} (h : R s v d) (st : Step K s s') : R s' v d := h.up st
theorem ones.nil : ([] : List Value).all Value.oneCell' = true := rfl
theorem ones.cons {v : Value} {vs : List Value} (h : v.oneCell' = true) (hr : vs.all Value.oneCell' = true) : (v :: vs).all Value.oneCell' = true := by rw [List.all_cons, h, hr]; rfl

section
variable {P : Program} {n : Nat} {Df : Md} {ops : Array Oper} {Q : Post} {rest : List Oper} {ρ : Env} {s : St} {w0 : World}
variable {d : Nat} {ty : TypeId} {pos : String} {aft : Array Edge} {x y : Operand} {tx tyy : TypeId}
theorem k_bslice2 {t e w m : Nat} {z : Value} {ps : List (Nat × Operand)} {vs : List Value} {ds : List D} (hT : sliceT P t e w z) (hx : evp ρ 0 ps = some vs) (hr : RVs s vs ds) (hm : ds.length = m) (hw : ds.all (fun d => Nat.beq d.wd w) = true) (hs : Nat.ble (m * w) 16777216 = true) (hd : Nat.blt d n = true)
    (hK : ∀ s' v b, Step K0 s s' → s.n ≤ b → b < s'.n → Own s' ⟨b + 1, 0⟩ e w v ds → KL P n Df ops Q rest ((d, v) :: ρ) s'.w) :
    KL P n Df ops Q (⟨some d, .buildSlice t m ps.toArray, ty, pos, aft, none⟩ :: rest) ρ s.w := by
  have hw' : ∀ d ∈ ds, d.wd = w := fun d hd => Nat.eq_of_beq_eq_true (List.all_eq_true.1 hw d hd)
  have hcs := hr.cells hw'
  have hlen := hr.len
  have hvw := hr.sizes hw'
  have st : Step K0 s (s.to (s.w.alloc (.cells ((vs.map fun v => v.cells.toList).flatten).toArray e)) ⟨s.n + 1, 0⟩ (Nat.le_refl _)) := St.to_alloc
  have hs' : m * w ≤ 16777216 := by simpa using hs
  have hm2 : m ≤ 16777216 := by
    have h1 : m * 1 ≤ m * w := Nat.mul_le_mul_left m hT.2.2.2.2
    omega
  refine .val rfl rfl hd (v := .slice (some ⟨s.n, 0, none⟩) m m) (w' := s.w.alloc (.cells ((vs.map fun v => v.cells.toList).flatten).toArray e)) (fun η ha => ?_) (hK (s.to _ ⟨s.n + 1, 0⟩ (Nat.le_refl _)) _ s.n st (Nat.le_refl _) (by show s.n < (s.w.alloc _).heap.size; simp) ⟨by simp, ?_, _, ⟨hcs.1, .inr ⟨s.n, m, _, by rw [hm], Nat.zero_le _, heap_alloc_new _ _, by omega, by unfold maxLen; omega, by simp [hcs.1, hm], ?_⟩⟩, ?_, hcs.up st⟩)
  · have := run_buildSlice (P := P) (w0 := s.w) (vs := vs) (m := m) hT (by omega) hvw hs'
    simp only [execOp]
    have hev := ha.evp hx
    have hpa : (ps.toArray.map fun (p : Nat × Operand) => (p.1, η p.2)) = ((vs.zipIdx 0).map fun p => (p.2, p.1)).toArray := by rw [← hev]; simp
    simp [hpa, this]
  · show s.n + 1 ≤ (s.w.alloc _).heap.size + 1
    simp
  · rw [List.toList_toArray, List.take_of_length_le (by rw [hcs.1]; exact Nat.le_refl _)]
  · intro g hg
    simp [Value.ownBlock] at hg
    exact St.to_g_new (by omega)

theorem k_make2 {t e w bytes : Nat} {z : Value} {dz : D} {k k' : IntKind} {c : Nat} (hT : elemT P t e w bytes z) (hx : ev ρ x = some (.int k c)) (hy : ev ρ y = some (.int k' c)) (hz : RC s z.cells.toList dz) (hw : dz.wd = w)
    (hb : bytes * c ≤ 281474976710656) (hc : c ≤ 9223372036854775807) (hd : Nat.blt d n = true)
    (hK : ∀ s' v b, Step K0 s s' → s.n ≤ b → b < s'.n → Own s' ⟨b + 1, 0⟩ e w v (List.replicate c dz) → KL P n Df ops Q rest ((d, v) :: ρ) s'.w) :
    KL P n Df ops Q (⟨some d, .makeSlice t x y, ty, pos, aft, none⟩ :: rest) ρ s.w := by
  obtain ⟨i, h1, h2, h3, h4, h5, h6, h7⟩ := hT
  have st : Step K0 s (s.to (s.w.alloc (.cells (madeCells z.cells (c * w)) e)) ⟨s.n + 1, 0⟩ (Nat.le_refl _)) := St.to_alloc
  have hcs : RCs s w (madeCells z.cells (c * w)).toList (List.replicate c dz) := RCs.madeCells hz hw h7
  have hb' : (i.bytes : Int) * (c : Int) ≤ 281474976710656 := by
    have h : ((bytes * c : Nat) : Int) ≤ 281474976710656 := by omega
    rw [h5]
    rwa [Int.natCast_mul] at h
  refine .val rfl rfl hd (v := .slice (some ⟨s.n, 0, none⟩) c c) (w' := s.w.alloc (.cells (madeCells z.cells (c * w)) e)) (fun η ha => ?_)
    (hK (s.to _ ⟨s.n + 1, 0⟩ (Nat.le_refl _)) _ s.n st (Nat.le_refl _) (by show s.n < (s.w.alloc _).heap.size; simp) ⟨by simp, ?_, _, ⟨hcs.1, .inr ⟨s.n, c, _, by simp, Nat.zero_le _, heap_alloc_new _ _, by simp, by unfold maxLen; omega, by simp [size_madeCells], ?_⟩⟩, ?_, hcs.up st⟩)
  · have := run_make (P := P) s.w t e i z h1 h2 h3 k k' c c (by omega) (Int.le_refl _) hb' (by omega)
    simp only [Int.toNat_natCast, h4] at this
    simp [execOp, ha.ev hx, ha.ev hy, this]
  · show s.n + 1 ≤ (s.w.alloc _).heap.size + 1
    simp
  · rw [List.take_of_length_le (by rw [hcs.1]; simp)]
  · intro g hg
    simp [Value.ownBlock] at hg
    exact St.to_g_new (by omega)


theorem k_makeI2 {t e w bytes : Nat} {z : Value} {dz : D} {k k' : IntKind} {p : Int} (hT : elemT P t e w bytes z) (hx : ev ρ x = some (.int k p)) (hy : ev ρ y = some (.int k' p)) (h0 : 0 ≤ p) (hz : RC s z.cells.toList dz) (hw : dz.wd = w)
    (hb : bytes * p ≤ 281474976710656) (hc : p ≤ 9223372036854775807) (hd : Nat.blt d n = true)
    (hK : ∀ s' v b, Step K0 s s' → s.n ≤ b → b < s'.n → Own s' ⟨b + 1, 0⟩ e w v (List.replicate p.toNat dz) → KL P n Df ops Q rest ((d, v) :: ρ) s'.w) :
    KL P n Df ops Q (⟨some d, .makeSlice t x y, ty, pos, aft, none⟩ :: rest) ρ s.w := by
  obtain ⟨c, rfl⟩ := Int.eq_ofNat_of_zero_le h0
  rw [Int.toNat_natCast] at hK
  exact k_make2 hT hx hy hz hw (by have h : ((bytes * c : Nat) : Int) ≤ 281474976710656 := (by rw [Int.natCast_mul]; exact hb); omega) (by omega) hd hK

end
abbrev cI (z : Int) : Value := .int .i64 z
theorem Blk.relabel {s : St} {b : Nat} {l : Lab} {cs : List Value} {T : TypeId} (q c : Nat) (h : Blk s b l cs T) (hq : q < l.o) (hs : q ≤ s.n) : ∃ s', s'.w = s.w ∧ Step (KC l.o l.c) s s' ∧ Blk s' b ⟨q + 1, c⟩ cs T := by
  classical
  let s' : St := ⟨s.w, fun b' => if b' = b then ⟨q + 1, c⟩ else s.g b', fun b' => by
    by_cases hb : b' = b
    · have := s.wf b'; subst hb; rw [h.lab] at this; simp; omega
    · simp [hb]; exact s.wf b'⟩
  have hst : Step (KC l.o l.c) s s' := ⟨rfl, rfl, rfl, Nat.le_refl _, fun b' hb hk => ⟨rfl, by
    by_cases hvb : b' = b
    · subst hvb; exact absurd ⟨by rw [h.lab], by rw [h.lab]⟩ hk
    · simp [s', hvb]⟩, fun c hc => by have := hc.1; simp at this; omega⟩
  exact ⟨s', rfl, hst, ⟨h.heap, by simp [s']⟩⟩
end Go.Fw
