import Derived.Test.YtepifllifhikiaaDoorFwK
import Derived.Orders
set_option linter.unusedSimpArgs false
set_option linter.unusedVariables false
namespace Go.Fw

def rst (ρ : Env) (ts : List Nat) : Env := ρ.filter fun p => ts.contains p.1

theorem look_rst {ρ : Env} {ts : List Nat} : ∀ {t : Nat} {v : Value}, look (rst ρ ts) t = some v → t ∈ ts ∧ look ρ t = some v := by
  induction ρ with
  | nil => intro t v h; simp [rst, look] at h
  | cons p r ih =>
    intro t v h
    obtain ⟨u, x⟩ := p
    unfold rst at h ih
    rw [List.filter_cons] at h
    by_cases hu : ts.contains u = true
    · rw [if_pos hu] at h
      simp only [look] at h ⊢
      by_cases e : u = t
      · subst e
        simp at h ⊢
        exact ⟨by simpa using hu, h⟩
      · have e' : Nat.beq u t = false := by rw [← Bool.not_eq_true, Nat.beq_eq]; exact e
        rw [e'] at h ⊢
        exact ih h
    · rw [if_neg hu] at h
      obtain ⟨h1, h2⟩ := ih h
      refine ⟨h1, ?_⟩
      simp only [look]
      have e : u ≠ t := by rintro rfl; exact hu (by simpa using h1)
      have e' : Nat.beq u t = false := by rw [← Bool.not_eq_true, Nat.beq_eq]; exact e
      rw [e']
      exact h2
theorem rst_look {ρ : Env} {ts : List Nat} {t : Nat} (ht : t ∈ ts) : look (rst ρ ts) t = look ρ t := by
  induction ρ with
  | nil => rfl
  | cons p r ih =>
    obtain ⟨u, x⟩ := p
    unfold rst at ih ⊢
    rw [List.filter_cons]
    by_cases e : u = t
    · subst e
      rw [if_pos (by simpa using ht)]
      simp [look]
    · have e' : Nat.beq u t = false := by rw [← Bool.not_eq_true, Nat.beq_eq]; exact e
      split
      · simp only [look, e', cond_false]; exact ih
      · simp only [look, e', cond_false]; exact ih

/-- What a reading operation must do: give c, and leave the world as it is. -/
def FQ (d : Nat) (c : Value) (w : World) : Post := fun e ρ w' => e = .normal ∧ w' = w ∧ look ρ d = some c

def RD (P : Program) (n : Nat) (Df : Md) (ops : Array Oper) (K : Lab → Prop) (Fin : Env → St → Prop) : List (Bool × Nat) → Env → St → Prop
  | [], ρ, s => Fin ρ s
  | (false, i) :: r, ρ, s => ∃ o d c, ops[i]? = some o ∧ o.dst = some d ∧ (∀ s', Step K s s' → KL P n Df ops (FQ d c s'.w) [o] (rst ρ (o.looksAt ops)) s'.w) ∧ RD P n Df ops K Fin r ((d, c) :: ρ) s
  | (true, i) :: r, ρ, s => ∃ o d, ops[i]? = some o ∧ o.dst = some d ∧
      KL P n Df ops (fun e ρ' w' => e = .normal ∧ ∃ s' v, s'.w = w' ∧ Step K s s' ∧ look ρ' d = some v ∧ RD P n Df ops K Fin r ((d, v) :: ρ) s') [o] (rst ρ (o.looksAt ops)) s.w

def ons (o : Oper) : List Nat := (o.after.toList.filter (Region.binds .any)).map (·.on)
def onsAt (ops : Array Oper) (i : Nat) : List Nat := match ops[i]? with | some o => ons o | none => []
def dstAt (ops : Array Oper) (i : Nat) : Option Nat := match ops[i]? with | some o => o.dst | none => none
def looksI (ops : Array Oper) (i : Nat) : List Nat := match ops[i]? with | some o => o.looksAt ops | none => []

/-- Behind an active one: each has an edge to it or to one behind it. 'cur': those from the last active one on. -/
def chained (ops : Array Oper) : Option (List Nat) → List (Bool × Nat) → Bool
  | _, [] => true
  | none, (false, _) :: r => chained ops none r
  | some cur, (false, i) :: r => (onsAt ops i).any (fun j => cur.contains j) && chained ops (some (i :: cur)) r
  | none, (true, i) :: r => chained ops (some [i]) r
  | some cur, (true, i) :: r => (onsAt ops i).any (fun j => cur.contains j) && chained ops (some [i]) r

def planOk (ops : Array Oper) (n m : Nat) (plan : List (Bool × Nat)) : Bool :=
  Nat.ble m ops.size &&
  (List.range m).all (fun i => (plan.map (·.2)).contains i) &&
  plan.all (fun p => Nat.blt p.2 m) &&
  (List.range ops.size).all (fun i => (onsAt ops i).all (fun j => Nat.blt j i)) &&
  (List.range m).all (fun i => (looksI ops i).all (fun t => (List.range m).all (fun j => dstAt ops j != some t || (onsAt ops i).contains j))) &&
  (List.range ops.size).all (fun i => Nat.blt i m || (List.range i).all (fun j => (onsAt ops i).contains j || (onsAt ops i).any (fun q => (onsAt ops q).contains j))) &&
  (List.range m).all (fun i => match dstAt ops i with | some d => Nat.blt d n | none => false) &&
  (List.range m).all (fun i => (List.range m).all fun j => Nat.beq i j || dstAt ops i != dstAt ops j) &&
  decide (plan.map (·.2)).Nodup &&
  chained ops none plan
def freshOk (ops : Array Oper) (m : Nat) (ρ : Env) : Bool := (List.range m).all (fun i => match dstAt ops i with | some d => (look ρ d).isNone | none => true)

section
variable {P : Program} {n : Nat} {Df : Md} {ops : Array Oper} {Q : Exit → Act → World → Prop}

theorem upon_put {r : Option Nat} {o : Oper} {a : Act} {w : World} {K K' : Act → World → Prop} {Q' : Exit → Act → World → Prop} (hd : ∀ d v a' , a' = ({ a with defers := d :: a.defers } : Act).put o.dst v → ∀ w', ¬ K a' w')
    (hk : ∀ v w', K (a.put o.dst v) w' → K' (a.put o.dst v) w') (hq1 : ∀ ch a' w', ¬ Q (.panic ch) a' w') (hq2 : ¬ LetsOut Q) (h : o.wpIn (fnc r) 0 P a w K Q) : o.wpIn (fnc r) 0 P a w K' Q' := by
  unfold Oper.wpIn at *
  refine ⟨h.1, ?_⟩
  have h := h.2
  generalize (o.semAt (fnc r).round a.eval).run P w = r at *
  cases r with
  | ok nx w' =>
    cases nx with
    | value v => exact hk _ _ h
    | skip => exact hk _ _ h
    | defer dd => exact absurd h (hd dd undef _ rfl w')
    | enter f args =>
      simp only [Oper.uponIn] at h ⊢
      exact ⟨h.1, CallsIn.mono h.2 (fun e w'' he => by
        cases e with
        | returned v => exact hk _ _ he
        | panicked ch => exact absurd he (hq1 _ _ _)
        | outgrown => exact absurd he hq2)⟩
    | row row args =>
      simp only [Oper.uponIn] at h ⊢
      exact ⟨h.1, RowsIn.mono h.2 (fun v w'' he => hk _ _ he)⟩
    | round l f tmps assign body =>
      simp only [Oper.uponIn] at h ⊢
      exact ⟨h.1, RoundIn.mono h.2 (fun e w'' he => by
        cases e with
        | returned v => exact hk _ _ he
        | panicked ch => exact absurd he (hq1 _ _ _)
        | outgrown => exact absurd he hq2)⟩
    | _ => exact h.elim
  | halt x w' =>
    cases x <;> simp only [Oper.uponIn] at h ⊢ <;> first | exact absurd h (hq1 _ _ _) | exact h

/-- From an operation's own law to one step of a region whose order is open. -/
theorem wpOp_of_KL {i : Nat} {o : Oper} {d : Nat} (ho : ops[i]? = some o) (hd : o.dst = some d) {ρ : Env} {w : World} {a : Act} (ha : Ag n Df ρ a) {C : Value → World → Prop} {q : Post}
    (hq : ∀ e ρ' w', q e ρ' w' → e = .normal ∧ ∃ v, look ρ' d = some v ∧ C v w') (hn : d < n) (h : KL P n Df ops q [o] ρ w) {K : Act → World → Prop}
    (hK : ∀ v w', C v w' → K (a.put (some d) v) w') : wpOpIn (fnc Df.rd) 0 P ops Q i K a w := by
  have h1 := h a ha
  have hnp : ∀ ch a' w', ¬ lift n Df q (.panic ch) a' w' := by
    rintro ch a' w' ⟨ρ', _, hh⟩; have := (hq _ _ _ hh).1; cases this
  have hno : ¬ LetsOut (lift n Df q) := by
    rintro ⟨a', w', ρ', _, hh⟩; have := (hq _ _ _ hh).1; cases this
  have fin : ∀ v w', lift n Df q .normal (a.put o.dst v) w' → K (a.put o.dst v) w' := by
    rintro v w' ⟨ρ', hag, hh⟩
    obtain ⟨_, v', hl, hc⟩ := hq _ _ _ hh
    have e := hag.get d v' hl
    rw [hd] at e ⊢
    have hsz : d < a.tmps.size := by rw [ha.size]; exact hn
    have : v = v' := by
      rw [← e]; simp [Act.put, Array.getD_eq_getD_getElem?, hsz]
    subst this
    exact hK v w' hc
  unfold wpOpIn
  rw [ho]
  simp only [wpListIn] at h1
  by_cases hw : Region.wanted o (yielded ops a.tmps) = true
  · simp only [hw, if_true] at h1 ⊢
    refine upon_put ?_ (fun v w' hk => fin v w' hk) hnp hno h1
    rintro dd v a' rfl w' ⟨ρ', hag, _⟩
    have h2 := hag.defers
    have h3 := ha.defers
    rw [hd] at h2
    simp [Act.put] at h2
    rw [← h3] at h2
    have := congrArg List.length h2
    simp at this
  · simp only [hw] at h1 ⊢
    simp only [Bool.false_eq_true, if_false] at h1 ⊢
    exact ⟨fun _ _ => trivial, fin undef w h1.2⟩


theorem getD_set {listed : Array Bool} {i j : Nat} {b c : Bool} (hi : i < listed.size) : (listed.setIfInBounds i b).getD j c = if i = j then b else listed.getD j c := by
  by_cases h : i = j
  · subst h; simp [Array.getD_eq_getD_getElem?, hi]
  · simp [Array.getD_eq_getD_getElem?, Array.getElem?_setIfInBounds_ne, h]
theorem getD_any {listed : Array Bool} {i : Nat} {b c : Bool} (hi : i < listed.size) : listed.getD i b = listed.getD i c := by
  simp [Array.getD_eq_getD_getElem?, hi]

theorem mem_ready {listed : Array Bool} {i : Nat} : i ∈ Region.ready .any ops listed ↔ i < ops.size ∧ listed.getD i true = false ∧ ∀ j ∈ onsAt ops i, listed.getD j false = true := by
  unfold Region.ready
  rw [List.mem_filter, List.mem_range]
  constructor
  · rintro ⟨h1, h2⟩
    simp only [Bool.and_eq_true, Bool.not_eq_true'] at h2
    refine ⟨h1, h2.1, fun j hj => ?_⟩
    have h3 := h2.2
    unfold onsAt at hj
    cases ho : ops[i]? with
    | none => rw [ho] at h3; simp at h3
    | some o =>
      rw [ho] at h3 hj
      simp only [Option.map_some, Option.getD_some, Array.all_eq_true_iff_forall_mem] at h3
      simp only [ons, List.mem_map, List.mem_filter, Array.mem_toList_iff] at hj
      obtain ⟨e, ⟨he, hb⟩, rfl⟩ := hj
      have := h3 e he
      simpa [hb] using this
  · rintro ⟨h1, h2, h3⟩
    refine ⟨h1, ?_⟩
    simp only [Bool.and_eq_true, Bool.not_eq_true']
    refine ⟨h2, ?_⟩
    cases ho : ops[i]? with
    | none => rw [Array.getElem?_eq_none_iff] at ho; omega
    | some o =>
      simp only [Option.map_some, Option.getD_some, Array.all_eq_true_iff_forall_mem]
      intro e he
      by_cases hb : Region.binds .any e = true
      · have := h3 e.on (by unfold onsAt; rw [ho]; simp only [ons, List.mem_map, List.mem_filter, Array.mem_toList_iff]; exact ⟨e, ⟨he, hb⟩, rfl⟩)
        simp [this]
      · simp [hb]

/-- By edges, from one to another one. -/
inductive Rch (ops : Array Oper) : Nat → Nat → Prop
  | one {i j : Nat} (h : j ∈ onsAt ops i) : Rch ops i j
  | more {i q j : Nat} (h : q ∈ onsAt ops i) (h2 : Rch ops q j) : Rch ops i j
def rchB (ops : Array Oper) : Nat → Nat → Nat → Bool
  | 0, i, j => (onsAt ops i).contains j
  | f + 1, i, j => (onsAt ops i).contains j || (onsAt ops i).any (fun q => rchB ops f q j)
theorem rchB_rch {ops : Array Oper} : ∀ {f i j : Nat}, rchB ops f i j = true → Rch ops i j
  | 0, i, j, h => .one (by simpa [rchB] using h)
  | f + 1, i, j, h => by
    simp only [rchB, Bool.or_eq_true, List.any_eq_true] at h
    rcases h with h | ⟨q, h1, h2⟩
    · exact .one (by simpa using h)
    · exact .more h1 (rchB_rch h2)
theorem Rch.lt {ops : Array Oper} (hback : ∀ i, i < ops.size → ∀ j ∈ onsAt ops i, j < i) {i j : Nat} (h : Rch ops i j) : i < ops.size → j < i := by
  induction h with
  | one h => intro hi; exact hback _ hi _ h
  | more h h2 ih => intro hi; have h5 := hback _ hi _ h; have := ih (by omega); omega
theorem tail_any {rr : Option Nat} {m : Nat} (hback : ∀ i, i < ops.size → ∀ j ∈ onsAt ops i, j < i) (htail : ∀ i, m ≤ i → i < ops.size → ∀ j, j < i → Rch ops i j) : ∀ (fuel k : Nat) (listed : Array Bool) (a : Act) (w : World), listed.size = ops.size → m ≤ k → k ≤ ops.size → ops.size - k ≤ fuel →
    (∀ i, i < k → listed.getD i false = true) → (∀ i, k ≤ i → i < ops.size → listed.getD i false = false) → wpListIn (fnc rr) 0 P ops Q (ops.toList.drop k) a w → wpAnyIn (fnc rr) 0 P .any ops Q fuel listed a w := by
  intro fuel
  induction fuel with
  | zero =>
    intro k listed a w hsz hm hk hf hl hu h
    have hk' : k = ops.size := by omega
    subst hk'
    have hr : Region.ready .any ops listed = [] := by
      rw [List.eq_nil_iff_forall_not_mem]
      intro i hi
      obtain ⟨h1, h2, _⟩ := mem_ready.1 hi
      have := hl i h1
      rw [getD_any (c := true) (by omega)] at this
      rw [this] at h2; simp at h2
    rw [List.drop_eq_nil_of_le (by simp)] at h
    exact ⟨hr, h⟩
  | succ fuel ih =>
    intro k listed a w hsz hm hk hf hl hu h
    by_cases hk' : k = ops.size
    · subst hk'
      have hr : Region.ready .any ops listed = [] := by
        rw [List.eq_nil_iff_forall_not_mem]
        intro i hi
        obtain ⟨h1, h2, _⟩ := mem_ready.1 hi
        have := hl i h1
        rw [getD_any (c := true) (by omega)] at this
        rw [this] at h2; simp at h2
      rw [List.drop_eq_nil_of_le (by simp)] at h
      refine ⟨fun _ => h, fun i hi => ?_⟩
      rw [hr] at hi; simp at hi
    · have hlt : k < ops.size := by omega
      refine ⟨fun hr => ?_, fun i hi => ?_⟩
      · exfalso
        have : k ∈ Region.ready .any ops listed := mem_ready.2 ⟨hlt, by rw [getD_any (c := false) (by omega)]; exact hu k (Nat.le_refl _) hlt, fun j hj => hl j (hback k hlt j hj)⟩
        rw [hr] at this; simp at this
      · obtain ⟨h1, h2, h3⟩ := mem_ready.1 hi
        have hik : i = k := by
          rcases Nat.lt_trichotomy i k with h4 | h4 | h4
          · have := hl i h4
            rw [getD_any (c := true) (by omega), h2] at this; simp at this
          · exact h4
          · cases htail i (by omega) h1 k h4 with
            | one hd =>
              have := h3 k hd
              rw [hu k (Nat.le_refl _) hlt] at this; simp at this
            | more hq1 hr2 =>
              rename_i q
              have h6 := hback i h1 q hq1
              have h5 := hr2.lt hback (by omega)
              have := h3 q hq1
              rw [hu q (by omega) (by omega)] at this; simp at this
        subst hik
        rw [List.drop_eq_getElem_cons (by simpa using hlt)] at h
        have ho : ops[i]? = some ops[i] := by simp [hlt]
        unfold wpOpIn
        rw [ho]
        simp only [Array.getElem_toList, wpListIn] at h
        have next : ∀ a' w', wpListIn (fnc rr) 0 P ops Q (ops.toList.drop (i + 1)) a' w' → wpAnyIn (fnc rr) 0 P .any ops Q fuel (listed.setIfInBounds i true) a' w' := fun a' w' h' =>
          ih (i + 1) _ a' w' (by simpa using hsz) (by omega) (by omega) (by omega) (fun j hj => by
            rw [getD_set (by omega)]
            by_cases e : i = j
            · simp [e]
            · rw [if_neg e]; exact hl j (by omega)) (fun j hj hj2 => by
            rw [getD_set (by omega), if_neg (by omega)]
            exact hu j (by omega) hj2) h'
        by_cases hw : Region.wanted ops[i] (yielded ops a.tmps) = true
        · simp only [hw, if_true] at h ⊢
          exact Oper.wpIn_mono next h
        · simp only [hw] at h ⊢
          simp only [Bool.false_eq_true, if_false] at h ⊢
          exact ⟨fun _ _ => trivial, next _ _ h.2⟩

/-- An operation that only reads, with what it gives. -/
def Known (P : Program) (n : Nat) (Df : Md) (ops : Array Oper) (K : Lab → Prop) (i : Nat) (ρ : Env) (s : St) : Prop :=
  ∃ o d c, ops[i]? = some o ∧ o.dst = some d ∧ look ρ d = some c ∧ ∀ s', Step K s s' → KL P n Df ops (FQ d c s'.w) [o] (rst ρ (o.looksAt ops)) s'.w

theorem Ag.rst_of {ρ ρ' : Env} {ts : List Nat} {a : Act} (h : ∀ t v, look ρ t = some v → look ρ' t = some v) (ha : Ag n Df (rst ρ' ts) a) : Ag n Df (rst ρ ts) a :=
  ⟨ha.size, fun t v e => by obtain ⟨h1, h2⟩ := look_rst e; exact ha.get t v (by rw [rst_look h1]; exact h t v h2), ha.defers⟩

theorem Known.up {K : Lab → Prop} {i : Nat} {ρ ρ' : Env} {s s' : St} (h : Known P n Df ops K i ρ s) (st : Step K s s') (hρ : ∀ t v, look ρ t = some v → look ρ' t = some v) : Known P n Df ops K i ρ' s' := by
  obtain ⟨o, d, c, h1, h2, h3, h4⟩ := h
  exact ⟨o, d, c, h1, h2, hρ d c h3, fun s'' st' a ha => h4 s'' (st.transK st') a (Ag.rst_of hρ ha)⟩

theorem RD.peel {K : Lab → Prop} {Fin : Env → St → Prop} : ∀ {plan : List (Bool × Nat)} {ρ : Env} {s : St}, (hnd : ∀ x ∈ plan, ∀ d, dstAt ops x.2 = some d → look ρ d = none) → (∀ x y, (List.Sublist [x, y] plan) → ∀ d, dstAt ops x.2 = some d → dstAt ops y.2 ≠ some d) → Step K s s → RD P n Df ops K Fin plan ρ s →
    ∃ pre suf ρ', plan = pre ++ suf ∧ (∀ x ∈ pre, x.1 = false) ∧ (suf = [] ∨ ∃ i r, suf = (true, i) :: r) ∧ (∀ x ∈ pre, Known P n Df ops K x.2 ρ' s) ∧ (∀ t v, look ρ t = some v → look ρ' t = some v) ∧
      (∀ t v, look ρ' t = some v → look ρ t = some v ∨ ∃ x ∈ pre, dstAt ops x.2 = some t) ∧ RD P n Df ops K Fin suf ρ' s
  | [], ρ, s, _, _, _, h => ⟨[], [], ρ, rfl, fun x hx => by simp at hx, .inl rfl, fun x hx => by simp at hx, fun _ _ e => e, fun _ _ e => .inl e, h⟩
  | (true, i) :: r, ρ, s, _, _, _, h => ⟨[], (true, i) :: r, ρ, rfl, fun x hx => by simp at hx, .inr ⟨i, r, rfl⟩, fun x hx => by simp at hx, fun _ _ e => e, fun _ _ e => .inl e, h⟩
  | (false, i) :: r, ρ, s, hnd, hdi, st0, h => by
    obtain ⟨o, d, c, h1, h2, h3, h4⟩ := h
    have hdi' : dstAt ops i = some d := by simp [dstAt, h1, h2]
    have hd0 : look ρ d = none := hnd (false, i) (by simp) d hdi'
    have hext : ∀ t v, look ρ t = some v → look ((d, c) :: ρ) t = some v := by
      intro t v e
      simp only [look]
      have : d ≠ t := by rintro rfl; rw [hd0] at e; simp at e
      have e' : Nat.beq d t = false := by rw [← Bool.not_eq_true, Nat.beq_eq]; exact this
      rw [e']; exact e
    obtain ⟨pre, suf, ρ', e1, e2, e3, e4, e5, e6, e7⟩ := RD.peel (plan := r) (ρ := (d, c) :: ρ) (s := s) (fun x hx d' hd' => by
      simp only [look]
      have hne : d ≠ d' := by
        rintro rfl
        exact hdi (false, i) x (by simpa using hx) d hdi' hd'
      have e' : Nat.beq d d' = false := by rw [← Bool.not_eq_true, Nat.beq_eq]; exact hne
      rw [e']; exact hnd x (by simp [hx]) d' hd') (fun x y hxy => hdi x y (hxy.trans (List.sublist_cons_self _ _))) st0 h4
    refine ⟨(false, i) :: pre, suf, ρ', by simp [e1], ?_, e3, ?_, fun t v e => e5 t v (hext t v e), ?_, e7⟩
    · intro x hx
      rcases List.mem_cons.1 hx with rfl | hx
      · rfl
      · exact e2 x hx
    · intro x hx
      rcases List.mem_cons.1 hx with rfl | hx
      · have hk : Known P n Df ops K i ((d, c) :: ρ) s := ⟨o, d, c, h1, h2, by simp [look], fun s' st a ha => h3 s' st a (Ag.rst_of hext ha)⟩
        exact hk.up st0 e5
      · exact e4 x hx
    · intro t v e
      rcases e6 t v e with h | ⟨x, hx, hxd⟩
      · simp only [look] at h
        by_cases e : d = t
        · subst e; exact .inr ⟨(false, i), by simp, hdi'⟩
        · have e' : Nat.beq d t = false := by rw [← Bool.not_eq_true, Nat.beq_eq]; exact e
          rw [e'] at h; exact .inl h
      · exact .inr ⟨x, by simp [hx], hxd⟩

end
end Go.Fw
