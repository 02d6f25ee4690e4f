import Derived.Test.YtepifllifhikiaaDoorQ12E
set_option linter.unusedVariables false
set_option linter.unusedSimpArgs false
namespace Go.Proofs
open Go.Fw
/-! KeysTwo: a heap of two fronts at most. -/
theorem FU_ex (n : Nat) (h : n ≤ 10000000000) : ∃ J, FU = J + n := ⟨FU - n, by have := FU_big; omega⟩
abbrev Fr := KeysFrontInt
theorem down1 (F : Fr) : heap_down [F] 0 1 = some (false, [F]) := by
  obtain ⟨J, hJ⟩ := FU_ex 1 (by decide)
  unfold heap_down
  rw [hJ, jn_eq', heap_down_l1]
  rfl
theorem down1' (F G : Fr) : heap_down [F, G] 0 1 = some (false, [F, G]) := by
  obtain ⟨J, hJ⟩ := FU_ex 1 (by decide)
  unfold heap_down
  rw [hJ, jn_eq', heap_down_l1]
  rfl
/-- Is the second one ahead of the first? -/
def ahead (f g : KeysEntryInt) (i k : Int) : Bool := if nlt g.key_ f.key_ then true else if g.key_ = f.key_ then decide (k < i) else false
theorem less2 (f g : KeysEntryInt) (p q : Rowk) (i k : Int) : keys_fronts_int_Less [⟨f :: p, i⟩, ⟨g :: q, k⟩] 1 0 = some (ahead f g i k) := by
  unfold keys_fronts_int_Less ahead
  simp only [geti, less_nlt]
  by_cases h1 : nlt g.key_ f.key_
  · simp [h1]
  · by_cases h2 : g.key_ = f.key_
    · simp [h1, h2, nlt_irrefl]
    · simp [h1, h2]
theorem down2 (f g : KeysEntryInt) (p q : Rowk) (i k : Int) : heap_down [⟨f :: p, i⟩, ⟨g :: q, k⟩] 0 2 = some (ahead f g i k, if ahead f g i k then [⟨g :: q, k⟩, ⟨f :: p, i⟩] else [⟨f :: p, i⟩, ⟨g :: q, k⟩]) := by
  obtain ⟨J, hJ⟩ := FU_ex 2 (by decide)
  unfold heap_down
  rw [hJ, jn_eq', heap_down_l1, if_neg (by decide), jn_eq']
  have e1 : i64 (i64 (2 * 0) + 1) = 1 := by decide
  rw [e1, if_neg (by decide)]
  simp only [Option.bind_some, Bool.false_eq_true, if_false]
  rw [less2, Option.bind_some]
  cases h : ahead f g i k with
  | false => simp
  | true =>
    simp only [Bool.not_true, Bool.false_eq_true, if_false, if_true]
    have e2 : keys_fronts_int_Swap [⟨f :: p, i⟩, ⟨g :: q, k⟩] 0 1 = some [⟨g :: q, k⟩, ⟨f :: p, i⟩] := rfl
    rw [e2, Option.bind_some, heap_down_l1, if_pos (.inl (by decide))]
    rfl
theorem up0 (l : List Fr) : heap_up l 0 = some l := by
  obtain ⟨J, hJ⟩ := FU_ex 1 (by decide)
  unfold heap_up
  rw [hJ, heap_up_l1]
  rfl
theorem fix1 (F : Fr) : heap_Fix [F] 0 = some [F] := by
  unfold heap_Fix
  have e : keys_fronts_int_Len [F] = some 1 := rfl
  rw [e, Option.bind_some, down1, Option.bind_some]
  simp [up0]
theorem fix2 (f g : KeysEntryInt) (p q : Rowk) (i k : Int) : heap_Fix [⟨f :: p, i⟩, ⟨g :: q, k⟩] 0 = some (if ahead f g i k then [⟨g :: q, k⟩, ⟨f :: p, i⟩] else [⟨f :: p, i⟩, ⟨g :: q, k⟩]) := by
  unfold heap_Fix
  have e : keys_fronts_int_Len [(⟨f :: p, i⟩ : Fr), ⟨g :: q, k⟩] = some 2 := rfl
  rw [e, Option.bind_some, down2, Option.bind_some]
  cases h : ahead f g i k with
  | false => simp [up0]
  | true => simp
theorem pop1 (F : Fr) : ∃ x, heap_Pop [F] = some (x, []) := by
  unfold heap_Pop
  have e : keys_fronts_int_Len [F] = some 1 := rfl
  have e2 : keys_fronts_int_Swap [F] 0 (i64 (1 - 1)) = some [F] := rfl
  have e3 : heap_down [F] 0 (i64 (1 - 1)) = some (false, [F]) := by
    obtain ⟨J, hJ⟩ := FU_ex 1 (by decide)
    unfold heap_down
    rw [hJ, jn_eq', heap_down_l1]
    rfl
  rw [e, Option.bind_some, e2, Option.bind_some, e3]
  exact ⟨_, rfl⟩
theorem pop2 (F G : Fr) : ∃ x, heap_Pop [F, G] = some (x, [G]) := by
  unfold heap_Pop
  have e : keys_fronts_int_Len [F, G] = some 2 := rfl
  have e2 : keys_fronts_int_Swap [F, G] 0 (i64 (2 - 1)) = some [G, F] := rfl
  have e3 : heap_down [G, F] 0 (i64 (2 - 1)) = some (false, [G, F]) := down1' G F
  rw [e, Option.bind_some, e2, Option.bind_some, e3]
  exact ⟨_, rfl⟩
theorem init0 : heap_Init [] = some [] := by
  obtain ⟨J, hJ⟩ := FU_ex 1 (by decide)
  unfold heap_Init
  rw [hJ]; rfl
theorem init1 (F : Fr) : heap_Init [F] = some [F] := by
  obtain ⟨J, hJ⟩ := FU_ex 1 (by decide)
  unfold heap_Init
  have e : keys_fronts_int_Len [F] = some 1 := rfl
  rw [e, Option.bind_some, hJ, heap_Init_l1, show i64 (i64 (Int.tdiv 1 2) - 1) = -1 by decide, if_neg (by decide)]
theorem init2 (f g : KeysEntryInt) (p q : Rowk) (i k : Int) : heap_Init [⟨f :: p, i⟩, ⟨g :: q, k⟩] = some (if ahead f g i k then [⟨g :: q, k⟩, ⟨f :: p, i⟩] else [⟨f :: p, i⟩, ⟨g :: q, k⟩]) := by
  obtain ⟨J, hJ⟩ := FU_ex 2 (by decide)
  unfold heap_Init
  have e : keys_fronts_int_Len [(⟨f :: p, i⟩ : Fr), ⟨g :: q, k⟩] = some 2 := rfl
  rw [e, Option.bind_some, hJ, heap_Init_l1, show i64 (i64 (Int.tdiv 2 2) - 1) = 0 by decide, if_pos (by decide), down2, Option.bind_some, heap_Init_l1, if_neg (by decide)]
/-- The heap of what is left of two rows. -/
def hp (p q : Rowk) : List Fr := match p, q with
  | [], [] => []
  | f :: p, [] => [⟨f :: p, 0⟩]
  | [], g :: q => [⟨g :: q, 1⟩]
  | f :: p, g :: q => if nlt g.key_ f.key_ then [⟨g :: q, 1⟩, ⟨f :: p, 0⟩] else [⟨f :: p, 0⟩, ⟨g :: q, 1⟩]
theorem ahead01 (f g : KeysEntryInt) : ahead f g 0 1 = decide (nlt g.key_ f.key_) := by
  unfold ahead
  by_cases h : nlt g.key_ f.key_
  · simp [h]
  · simp [h]
theorem ahead10 (f g : KeysEntryInt) : ahead g f 1 0 = decide (¬ nlt g.key_ f.key_) := by
  unfold ahead
  rcases nlt_total f.key_ g.key_ with h | h | h
  · simp [h, nlt_asymm h]
  · simp [h, nlt_irrefl]
  · simp [h, nlt_asymm h, (nlt_ne h).symm]
/-- Two rows, one key once, the first one's ahead. -/
def mg : Rowk → Rowk → Rowk
  | [], q => q
  | f :: p, [] => f :: p
  | f :: p, g :: q => if nlt g.key_ f.key_ then g :: mg (f :: p) q else if f.key_ = g.key_ then f :: mg p q else f :: mg p (g :: q)
termination_by p q => p.length + q.length
theorem mg_nil (p : Rowk) : mg p [] = p := by cases p <;> simp [mg]
theorem nil_mg (q : Rowk) : mg [] q = q := by simp [mg]
/-- What is left behind a key that was last, if there was one. -/
def cutL (o : Option (List UInt8)) (p : Rowk) : Rowk := match o with
  | none => p
  | some k => wo p k
/-- All keys are at or behind the last one. -/
def above (o : Option (List UInt8)) (p : Rowk) : Prop := ∀ k, o = some k → ∀ f ∈ p, ¬ nlt f.key_ k
theorem cutL_self {o : Option (List UInt8)} {p : Rowk} (h : ∀ k, o = some k → ∀ f ∈ p, nlt k f.key_) : cutL o p = p := by
  cases o with
  | none => rfl
  | some k => exact wo_self (lk_none.2 fun f hf e => nlt_ne (h k rfl f hf) e.symm)
theorem wo_behind {f : KeysEntryInt} {p : Rowk} (hr : Rise (f :: p)) : wo p f.key_ = p := wo_self (lk_none.2 fun g hg e => nlt_ne ((List.pairwise_cons.1 hr).1 g hg) e.symm)
/-- What the loop's state says of the last key. -/
def lastS (o : Option (List UInt8)) : List UInt8 × Bool := match o with
  | none => ([], false)
  | some k => (k, true)
theorem emit_eq {XT : Type} (c : XT → (List UInt8 × Int) → Option (Bool × XT)) (o : Option (List UInt8)) (lk0 : List UInt8) (hl : ∀ k, o = some k → lk0 = k) (f : KeysEntryInt) (x : XT) : (if ((!o.isSome) = true) ∨ (f.key_ ≠ lk0) then (c x (f.key_, f.v)).bind fun x27 => some ((!x27.1), x27.2) else some (false, x)) = if o = some f.key_ then some (false, x) else (c x (f.key_, f.v)).bind fun x27 => some ((!x27.1), x27.2) := by
  cases o with
  | none => simp
  | some k =>
    obtain rfl := hl k rfl
    by_cases h : f.key_ = lk0
    · simp [h]
    · have h2 : lk0 ≠ f.key_ := fun e => h e.symm
      simp [h, h2]
/-- One step of the loop, where f is first: what follows. -/
theorem step_eq {XT : Type} (c : XT → (List UInt8 × Int) → Option (Bool × XT)) (J : Nat) (o : Option (List UInt8)) (lk0 : List UInt8) (hl : ∀ k, o = some k → lk0 = k) (f : KeysEntryInt) (p : Rowk) (i : Int) (H : List Fr) (x : XT) (nx : List Fr)
    (hn : (if ((p.length : Nat) : Int) = 0 then (heap_Pop (⟨p, i⟩ :: H)).bind fun r => some r.2 else heap_Fix (⟨p, i⟩ :: H) 0) = some nx) (hpl : p.length < 1000000) :
    keys_Merge_int_1_boo_l1 c (J + 1) lk0 o.isSome x (⟨f :: p, i⟩ :: H) = if o = some f.key_ then keys_Merge_int_1_boo_l1 c J f.key_ true x nx else (c x (f.key_, f.v)).bind fun r => if r.1 = true then keys_Merge_int_1_boo_l1 c J f.key_ true r.2 nx else some r.2 := by
  rw [keys_Merge_int_1_boo_l1, if_pos (by simp)]
  have e0 : geti (⟨f :: p, i⟩ :: H : List Fr) 0 = some ⟨f :: p, i⟩ := rfl
  have e1 : geti (f :: p) 0 = some f := rfl
  rw [e0, Option.bind_some, e1, Option.bind_some, emit_eq c o lk0 hl f x]
  have e2 : subl (f :: p) 1 (((f :: p).length : Nat) : Int) = some p := by
    unfold subl
    rw [if_pos ⟨by omega, by rw [List.length_cons]; omega, by omega⟩]
    simp
  have key : ∀ y : XT, ((some (⟨f :: p, i⟩ : Fr)).bind fun x28 => (subl x28.l 1 (x28.l.length : Int)).bind fun x29 => (some (⟨f :: p, i⟩ : Fr)).bind fun x30 => (geti ((⟨f :: p, i⟩ :: H : List Fr).set (0 : Int).toNat ({ x30 with l := x29 } : Fr)) 0).bind fun x31 => if (x31.l.length : Int) = 0 then (heap_Pop ((⟨f :: p, i⟩ :: H : List Fr).set (0 : Int).toNat ({ x30 with l := x29 } : Fr))).bind fun x32 => keys_Merge_int_1_boo_l1 c J f.key_ true y x32.2 else (heap_Fix ((⟨f :: p, i⟩ :: H : List Fr).set (0 : Int).toNat ({ x30 with l := x29 } : Fr)) 0).bind fun x33 => keys_Merge_int_1_boo_l1 c J f.key_ true y x33) = keys_Merge_int_1_boo_l1 c J f.key_ true y nx := by
    intro y
    rw [Option.bind_some, e2, Option.bind_some, Option.bind_some]
    have e3 : ((⟨f :: p, i⟩ :: H : List Fr).set (0 : Int).toNat (⟨p, i⟩ : Fr)) = ⟨p, i⟩ :: H := rfl
    rw [e3]
    have e4 : geti (⟨p, i⟩ :: H : List Fr) 0 = some ⟨p, i⟩ := rfl
    rw [e4, Option.bind_some]
    by_cases h : ((p.length : Nat) : Int) = 0
    · rw [if_pos h] at hn ⊢
      cases h2 : heap_Pop (⟨p, i⟩ :: H : List Fr) with
      | none => rw [h2] at hn; cases hn
      | some r =>
        rw [h2, Option.bind_some] at hn
        injection hn with hn
        rw [Option.bind_some, hn]
    · rw [if_neg h] at hn ⊢
      rw [hn, Option.bind_some]
  by_cases h : o = some f.key_
  · rw [if_pos h, if_pos h, Option.bind_some]
    simp only [Bool.false_eq_true, if_false]
    exact key x
  · rw [if_neg h, if_neg h]
    cases h3 : c x (f.key_, f.v) with
    | none => rfl
    | some r =>
      rw [Option.bind_some, Option.bind_some]
      conv => rhs; rw [Option.bind_some]
      cases h4 : r.1 with
      | true =>
        simp only [Bool.not_true, Bool.false_eq_true, if_false, if_true]
        exact key r.2
      | false => simp
def tq (q : Rowk) : List Fr := match q with
  | [] => []
  | g :: q => [⟨g :: q, 1⟩]
def tp (p : Rowk) : List Fr := match p with
  | [] => []
  | f :: p => [⟨f :: p, 0⟩]
theorem heapP (f : KeysEntryInt) (p q : Rowk) : (if ((p.length : Nat) : Int) = 0 then (heap_Pop (⟨p, 0⟩ :: tq q)).bind fun r => some r.2 else heap_Fix (⟨p, 0⟩ :: tq q) 0) = some (hp p q) := by
  cases p with
  | nil =>
    rw [if_pos (by simp)]
    cases q with
    | nil => obtain ⟨x, e⟩ := pop1 ⟨[], 0⟩; simp only [tq, e]; rfl
    | cons g q => obtain ⟨x, e⟩ := pop2 ⟨[], 0⟩ ⟨g :: q, 1⟩; simp only [tq, e]; rfl
  | cons h p =>
    rw [if_neg (by simp; omega)]
    cases q with
    | nil => simp only [tq, fix1]; rfl
    | cons g q =>
      simp only [tq, fix2, ahead01, hp]
      by_cases c : nlt g.key_ h.key_ <;> simp [c]
theorem heapQ (g : KeysEntryInt) (q p : Rowk) : (if ((q.length : Nat) : Int) = 0 then (heap_Pop (⟨q, 1⟩ :: tp p)).bind fun r => some r.2 else heap_Fix (⟨q, 1⟩ :: tp p) 0) = some (hp p q) := by
  cases q with
  | nil =>
    rw [if_pos (by simp)]
    cases p with
    | nil => obtain ⟨x, e⟩ := pop1 ⟨[], 1⟩; simp only [tp, e]; rfl
    | cons f p => obtain ⟨x, e⟩ := pop2 ⟨[], 1⟩ ⟨f :: p, 0⟩; simp only [tp, e]; rfl
  | cons h q =>
    rw [if_neg (by simp; omega)]
    cases p with
    | nil => simp only [tp, fix1]; rfl
    | cons f p =>
      simp only [tp, fix2, ahead10, hp]
      by_cases c : nlt h.key_ f.key_ <;> simp [c]
theorem merge_run {XT : Type} (c : XT → (List UInt8 × Int) → Option (Bool × XT)) : ∀ (J : Nat) (p q : Rowk) (o : Option (List UInt8)) (lk0 : List UInt8) (x : XT), (∀ k, o = some k → lk0 = k) → Rise p → Rise q → above o p → above o q → p.length + q.length < 100000 → p.length + q.length < J →
    keys_Merge_int_1_boo_l1 c J lk0 o.isSome x (hp p q) = over c (mg (cutL o p) (cutL o q)) x
  | 0, p, q, o, lk0, x, hl, hp', hq', ha, hb, h1, h2 => by omega
  | J + 1, p, q, o, lk0, x, hl, hr, hs, ha, hb, h1, h2 => by
    have base : hp [] [] = [] := rfl
    -- what is first comes from p, or from q
    have goP : ∀ (f : KeysEntryInt) (p' : Rowk), p = f :: p' → (∀ g ∈ q, ¬ nlt g.key_ f.key_) → keys_Merge_int_1_boo_l1 c (J + 1) lk0 o.isSome x (⟨f :: p', 0⟩ :: tq q) = over c (mg (cutL o p) (cutL o q)) x := by
      rintro f p' rfl hg
      simp only [List.length_cons] at h1 h2
      have hr' := List.pairwise_cons.1 hr
      rw [step_eq c J o lk0 hl f p' 0 _ x (hp p' q) (heapP f p' q) (by omega)]
      have ih := fun y => merge_run c J p' q (some f.key_) f.key_ y (fun k e => Option.some.inj e) hr'.2 hs (fun k e g hg' => by cases e; exact nlt_asymm (hr'.1 g hg')) (fun k e g hg' => by cases e; exact hg g hg') (by omega) (by omega)
      have ih' : ∀ y, keys_Merge_int_1_boo_l1 c J f.key_ true y (hp p' q) = over c (mg p' (wo q f.key_)) y := by
        intro y
        have := ih y
        simp only [Option.isSome_some, cutL, wo_behind hr] at this
        exact this
      by_cases h : o = some f.key_
      · rw [if_pos h, ih']
        subst h
        simp only [cutL]
        rw [wo_cons, if_pos rfl, wo_behind hr]
      · rw [if_neg h]
        have hlt : ∀ k, o = some k → nlt k f.key_ := fun k e => by
          rcases nlt_total k f.key_ with h3 | h3 | h3
          · exact h3
          · exact absurd (h3 ▸ e) h
          · exact absurd h3 (ha k e f (by simp))
        have e1 : cutL o (f :: p') = f :: p' := cutL_self fun k e g hg' => by
          rcases List.mem_cons.1 hg' with rfl | hg'
          · exact hlt k e
          · exact nlt_trans (hlt k e) (hr'.1 g hg')
        have e2 : cutL o q = q := cutL_self fun k e g hg' => by
          rcases nlt_total k g.key_ with h3 | h3 | h3
          · exact h3
          · exact absurd (h3 ▸ hlt k e) (hg g hg')
          · exact absurd h3 (hb k e g hg')
        have e3 : mg (f :: p') q = f :: mg p' (wo q f.key_) := by
          cases q with
          | nil => rw [mg_nil, wo_nil, mg_nil]
          | cons g q =>
            have hs' := List.pairwise_cons.1 hs
            rw [mg, if_neg (hg g (by simp)), wo_cons]
            by_cases h3 : f.key_ = g.key_
            · rw [if_pos h3, if_pos h3.symm, h3, wo_behind hs]
            · rw [if_neg h3, if_neg (fun e => h3 e.symm)]
              have h4 : nlt f.key_ g.key_ := by
                rcases nlt_total f.key_ g.key_ with h5 | h5 | h5
                · exact h5
                · exact absurd h5 h3
                · exact absurd h5 (hg g (by simp))
              rw [wo_self (lk_none.2 fun y hy e => nlt_ne (nlt_trans h4 (hs'.1 y hy)) e.symm)]
        rw [e1, e2, e3, over]
        congr 1
        funext r
        by_cases h5 : r.1 = true
        · rw [if_pos h5, if_pos h5, ih']
        · rw [if_neg h5, if_neg h5]
    have goQ : ∀ (g : KeysEntryInt) (q' : Rowk), q = g :: q' → (∀ f ∈ p, nlt g.key_ f.key_) → keys_Merge_int_1_boo_l1 c (J + 1) lk0 o.isSome x (⟨g :: q', 1⟩ :: tp p) = over c (mg (cutL o p) (cutL o q)) x := by
      rintro g q' rfl hf
      simp only [List.length_cons] at h1 h2
      have hs' := List.pairwise_cons.1 hs
      rw [step_eq c J o lk0 hl g q' 1 _ x (hp p q') (heapQ g q' p) (by omega)]
      have ih := fun y => merge_run c J p q' (some g.key_) g.key_ y (fun k e => Option.some.inj e) hr hs'.2 (fun k e f hf' => by cases e; exact nlt_asymm (hf f hf')) (fun k e f hf' => by cases e; exact nlt_asymm (hs'.1 f hf')) (by omega) (by omega)
      have ewp : wo p g.key_ = p := wo_self (lk_none.2 fun f hf' e => nlt_ne (hf f hf') e.symm)
      have ih' : ∀ y, keys_Merge_int_1_boo_l1 c J g.key_ true y (hp p q') = over c (mg p q') y := by
        intro y
        have := ih y
        simp only [Option.isSome_some, cutL, wo_behind hs, ewp] at this
        exact this
      by_cases h : o = some g.key_
      · rw [if_pos h, ih']
        subst h
        simp only [cutL]
        rw [wo_cons, if_pos rfl, wo_behind hs, ewp]
      · rw [if_neg h]
        have hlt : ∀ k, o = some k → nlt k g.key_ := fun k e => by
          rcases nlt_total k g.key_ with h3 | h3 | h3
          · exact h3
          · exact absurd (h3 ▸ e) h
          · exact absurd h3 (hb k e g (by simp))
        have e2 : cutL o (g :: q') = g :: q' := cutL_self fun k e f hf' => by
          rcases List.mem_cons.1 hf' with rfl | hf'
          · exact hlt k e
          · exact nlt_trans (hlt k e) (hs'.1 f hf')
        have e1 : cutL o p = p := cutL_self fun k e f hf' => nlt_trans (hlt k e) (hf f hf')
        have e3 : mg p (g :: q') = g :: mg p q' := by
          cases p with
          | nil => rw [nil_mg, nil_mg]
          | cons f p => rw [mg, if_pos (hf f (by simp))]
        rw [e1, e2, e3, over]
        congr 1
        funext r
        by_cases h5 : r.1 = true
        · rw [if_pos h5, if_pos h5, ih']
        · rw [if_neg h5, if_neg h5]
    cases p with
    | nil =>
      cases q with
      | nil =>
        have e : mg (cutL o []) (cutL o []) = [] := by cases o <;> simp [cutL, wo_nil, nil_mg]
        rw [base, keys_Merge_int_1_boo_l1, if_neg (by simp), e, over]
      | cons g q => exact goQ g q rfl (fun f hf => by simp at hf)
    | cons f p =>
      cases q with
      | nil => exact goP f p rfl (fun g hg => by simp at hg)
      | cons g q =>
        by_cases hc : nlt g.key_ f.key_
        · have e : hp (f :: p) (g :: q) = [⟨g :: q, 1⟩, ⟨f :: p, 0⟩] := by simp only [hp]; rw [if_pos hc]
          rw [e]
          exact goQ g q rfl (fun y hy => by
            rcases List.mem_cons.1 hy with rfl | hy
            · exact hc
            · exact nlt_trans hc ((List.pairwise_cons.1 hr).1 y hy))
        · have e : hp (f :: p) (g :: q) = [⟨f :: p, 0⟩, ⟨g :: q, 1⟩] := by simp only [hp]; rw [if_neg hc]
          rw [e]
          exact goP f p rfl (fun y hy => by
            rcases List.mem_cons.1 hy with rfl | hy
            · exact hc
            · exact fun h => hc (nlt_trans ((List.pairwise_cons.1 hs).1 y hy) h))
theorem merge_eq {XT : Type} (c : XT → (List UInt8 × Int) → Option (Bool × XT)) (x : XT) {p q : Rowk} (hr : Rise p) (hs : Rise q) (hl : p.length + q.length < 100000) : keys_Merge_int_1_boo c x ⟨p⟩ ⟨q⟩ = over c (mg p q) x := by
  unfold keys_Merge_int_1_boo
  have hFU := FU_big
  have hrun := merge_run c FU p q none [] x (fun k e => by cases e) hr hs (fun k e => by cases e) (fun k e => by cases e) hl (by omega)
  simp only [Option.isSome_none, cutL] at hrun
  simp only [jn_eq', len_eq, Option.bind_some, keys_Index_int_rows]
  rw [clone_eq p (by omega), clone_eq q (by omega)]
  have hap : ∀ (l : List Fr) (F : Fr), l.length ≤ 2 → app 4398046511104 l [F] = some (l ++ [F]) := fun l F h => app_ok _ _ (by simp; omega) (by decide)
  cases p with
  | nil =>
    rw [if_neg (by simp)]
    cases q with
    | nil => rw [if_neg (by simp), init0, Option.bind_some]; exact hrun
    | cons g q =>
      rw [if_pos (by simp), Option.bind_some, hap _ _ (by simp), Option.bind_some, List.nil_append, init1, Option.bind_some]
      exact hrun
  | cons f p =>
    rw [if_pos (by simp), Option.bind_some, hap _ _ (by simp), Option.bind_some, List.nil_append]
    cases q with
    | nil => rw [if_neg (by simp), init1, Option.bind_some]; exact hrun
    | cons g q =>
      rw [if_pos (by simp), Option.bind_some, hap _ _ (by simp), Option.bind_some]
      rw [show [(⟨f :: p, 0⟩ : Fr)] ++ [⟨g :: q, 1⟩] = [⟨f :: p, 0⟩, ⟨g :: q, 1⟩] from rfl, init2, Option.bind_some, ahead01]
      have e : (if decide (nlt g.key_ f.key_) = true then [(⟨g :: q, 1⟩ : Fr), ⟨f :: p, 0⟩] else [⟨f :: p, 0⟩, ⟨g :: q, 1⟩]) = hp (f :: p) (g :: q) := by
        simp only [hp]
        by_cases hc : nlt g.key_ f.key_ <;> simp [hc]
      rw [e]
      exact hrun
theorem mg_mem : ∀ {p q : Rowk} {f : KeysEntryInt}, f ∈ mg p q → f ∈ p ∨ f ∈ q
  | [], q, f, h => by rw [nil_mg] at h; exact .inr h
  | a :: p, [], f, h => by rw [mg_nil] at h; exact .inl h
  | a :: p, b :: q, f, h => by
    rw [mg] at h
    by_cases h1 : nlt b.key_ a.key_
    · rw [if_pos h1] at h
      rcases List.mem_cons.1 h with rfl | h
      · exact .inr (by simp)
      · rcases mg_mem h with h | h
        · exact .inl h
        · exact .inr (by simp [h])
    · rw [if_neg h1] at h
      by_cases h2 : a.key_ = b.key_
      · rw [if_pos h2] at h
        rcases List.mem_cons.1 h with rfl | h
        · exact .inl (by simp)
        · rcases mg_mem h with h | h
          · exact .inl (by simp [h])
          · exact .inr (by simp [h])
      · rw [if_neg h2] at h
        rcases List.mem_cons.1 h with rfl | h
        · exact .inl (by simp)
        · rcases mg_mem h with h | h
          · exact .inl (by simp [h])
          · exact .inr h
termination_by p q => p.length + q.length
theorem mg_len : ∀ (p q : Rowk), (mg p q).length ≤ p.length + q.length
  | [], q => by rw [nil_mg]; simp
  | a :: p, [] => by rw [mg_nil]; simp
  | a :: p, b :: q => by
    rw [mg]
    by_cases h1 : nlt b.key_ a.key_
    · rw [if_pos h1]; have := mg_len (a :: p) q; simp at this ⊢; omega
    · rw [if_neg h1]
      by_cases h2 : a.key_ = b.key_
      · rw [if_pos h2]; have := mg_len p q; simp at this ⊢; omega
      · rw [if_neg h2]; have := mg_len p (b :: q); simp at this ⊢; omega
termination_by p q => p.length + q.length
theorem mg_rise : ∀ {p q : Rowk}, Rise p → Rise q → Rise (mg p q)
  | [], q, _, h => by rw [nil_mg]; exact h
  | a :: p, [], h, _ => by rw [mg_nil]; exact h
  | a :: p, b :: q, hr, hs => by
    have hr' := List.pairwise_cons.1 hr
    have hs' := List.pairwise_cons.1 hs
    rw [mg]
    by_cases h1 : nlt b.key_ a.key_
    · rw [if_pos h1]
      refine List.pairwise_cons.2 ⟨fun f hf => ?_, mg_rise hr hs'.2⟩
      rcases mg_mem hf with hf | hf
      · rcases List.mem_cons.1 hf with rfl | hf
        · exact h1
        · exact nlt_trans h1 (hr'.1 f hf)
      · exact hs'.1 f hf
    · rw [if_neg h1]
      by_cases h2 : a.key_ = b.key_
      · rw [if_pos h2]
        refine List.pairwise_cons.2 ⟨fun f hf => ?_, mg_rise hr'.2 hs'.2⟩
        rcases mg_mem hf with hf | hf
        · exact hr'.1 f hf
        · rw [h2]; exact hs'.1 f hf
      · rw [if_neg h2]
        have h3 : nlt a.key_ b.key_ := by
          rcases nlt_total a.key_ b.key_ with h | h | h
          · exact h
          · exact absurd h h2
          · exact absurd h h1
        refine List.pairwise_cons.2 ⟨fun f hf => ?_, mg_rise hr'.2 hs⟩
        rcases mg_mem hf with hf | hf
        · exact hr'.1 f hf
        · rcases List.mem_cons.1 hf with rfl | hf
          · exact h3
          · exact nlt_trans h3 (hs'.1 f hf)
termination_by p q => p.length + q.length
theorem lk_mg : ∀ {p q : Rowk}, Rise p → Rise q → ∀ n, lk (mg p q) n = (lk p n).or (lk q n)
  | [], q, _, h, n => by rw [nil_mg, lk_nil]; rfl
  | a :: p, [], h, _, n => by rw [mg_nil, lk_nil]; simp
  | a :: p, b :: q, hr, hs, n => by
    have hr' := List.pairwise_cons.1 hr
    have hs' := List.pairwise_cons.1 hs
    rw [mg]
    by_cases h1 : nlt b.key_ a.key_
    · rw [if_pos h1, lk_cons, lk_mg hr hs'.2 n, lk_cons b q]
      by_cases h2 : b.key_ = n
      · rw [if_pos h2, if_pos h2]
        have : lk (a :: p) n = none := lk_none.2 fun f hf e => by
          rcases List.mem_cons.1 hf with rfl | hf
          · rw [e, ← h2] at h1; exact nlt_irrefl _ h1
          · have := nlt_trans h1 (hr'.1 f hf); rw [e, ← h2] at this; exact nlt_irrefl _ this
        rw [this]; rfl
      · rw [if_neg h2, if_neg h2]
    · rw [if_neg h1]
      by_cases h2 : a.key_ = b.key_
      · rw [if_pos h2, lk_cons, lk_mg hr'.2 hs'.2 n, lk_cons a p, lk_cons b q]
        by_cases h3 : a.key_ = n
        · rw [if_pos h3, if_pos h3]; rfl
        · rw [if_neg h3, if_neg h3, if_neg (fun e => h3 (h2.trans e))]
      · rw [if_neg h2, lk_cons, lk_mg hr'.2 hs n, lk_cons a p]
        by_cases h3 : a.key_ = n
        · rw [if_pos h3, if_pos h3]; rfl
        · rw [if_neg h3, if_neg h3]
termination_by p q => p.length + q.length
theorem rowM_eq {p q : Rowk} (hr : Rise p) (hs : Rise q) (hl : p.length + q.length < 100000) : law12_row_c31qoo ⟨p⟩ ⟨q⟩ (-1) = some ((mg p q).map toR) := by
  unfold law12_row_c31qoo
  rw [merge_eq _ _ hr hs hl]
  have := over_row (-1) (mg p q) [] (by have := mg_len p q; simp; omega)
  cases h : over (stopC (fun (x1 : (List Ref12Entry)) (x2 : ((List UInt8) × Int)) => if (0 ≤ (-1 : Int)) ∧ ((-1 : Int) ≤ (x1.length : Int)) then some (false, x1) else (app 5864062014805 x1 ([(⟨x2.1, x2.2⟩ : Ref12Entry)] : List Ref12Entry)).bind fun x5 => some (true, x5))) (mg p q) (false, []) with
  | none => rw [h] at this; cases this
  | some x =>
    rw [h] at this
    simp only [Option.map_some, Option.some.injEq, List.nil_append, List.length_nil] at this
    rw [Option.bind_some, this, if_neg (by decide)]
    unfold takeM
    rw [if_neg (by decide)]
/-- Sets alone. -/
def setsP (p : Rowk) (l : List Law12Act) : Rowk := l.foldl (fun p a => wi p a.Key a.V) p
theorem setsP_rise : ∀ {l : List Law12Act} {p : Rowk}, Rise p → Rise (setsP p l)
  | [], p, h => h
  | a :: l, p, h => setsP_rise (l := l) (wi_rise h)
theorem setsP_len : ∀ (l : List Law12Act) (p : Rowk), (setsP p l).length ≤ p.length + l.length
  | [], p => by simp [setsP]
  | a :: l, p => by
    have h1 := setsP_len l (wi p a.Key a.V)
    have h2 := wi_len p a.Key a.V
    show (setsP (wi p a.Key a.V) l).length ≤ _
    rw [List.length_cons]; omega
theorem lk_setsP : ∀ (l : List Law12Act) (p : Rowk) (n : List UInt8), lk (setsP p l) n = (lk (setsP [] l) n).or (lk p n)
  | [], p, n => by simp [setsP, lk_nil]
  | a :: l, p, n => by
    show lk (setsP (wi p a.Key a.V) l) n = (lk (setsP (wi [] a.Key a.V) l) n).or _
    rw [lk_setsP l (wi p a.Key a.V) n, lk_setsP l (wi [] a.Key a.V) n, lk_wi, lk_wi, lk_nil]
    by_cases h : n = a.Key
    · rw [if_pos h, if_pos h]; cases lk (setsP [] l) n <;> rfl
    · rw [if_neg h, if_neg h]; cases lk (setsP [] l) n <;> rfl
theorem two1 {m : List Law12Act} (hl : m.length ≤ 400) (kj : KeysIndexInt → KeysIndexInt → Option Bool) : ∀ (J n : Nat) (p q : Rowk), n ≤ m.length → m.length - n < J → Rise p → Rise q → p.length ≤ n → q.length ≤ n →
    law12_KeysTwo_l1 m kj J (n : Int) ⟨p⟩ ⟨q⟩ = kj ⟨setsP p (m.drop n)⟩ ⟨setsP q (m.drop n)⟩
  | 0, n, p, q, h1, h2, h3, h4, h5, h6 => by omega
  | J + 1, n, p, q, h1, h2, h3, h4, h5, h6 => by
    rw [law12_KeysTwo_l1]
    by_cases c : n < m.length
    · rw [if_pos (by omega), geti_nat, List.getElem?_eq_getElem c, List.drop_eq_getElem_cons c]
      simp only [Option.bind_some]
      have h7 := wi_len p m[n].Key m[n].V
      have h8 := wi_len q m[n].Key m[n].V
      rw [i64_id (by omega) (by omega), show (n : Int) + 1 = ((n + 1 : Nat) : Int) by omega, set_eq h3 (by omega), Option.bind_some, set_eq h4 (by omega), Option.bind_some, two1 hl kj J (n + 1) _ _ (by omega) (by omega) (wi_rise h3) (wi_rise h4) (by omega) (by omega)]
      rfl
    · rw [if_neg (by omega), List.drop_eq_nil_of_le (by omega)]
      rfl
theorem two2 {m : List Law12Act} (hl : m.length ≤ 400) (kj : KeysIndexInt → KeysIndexInt → Option Bool) : ∀ (J n : Nat) (p q : Rowk), n ≤ m.length → m.length - n < J → Rise p → Rise q → p.length ≤ n → q.length ≤ n + 400 →
    law12_KeysTwo_l2 m kj J (n : Int) ⟨p⟩ ⟨q⟩ = kj ⟨setsP p (m.drop n)⟩ ⟨setsP q (m.drop n)⟩
  | 0, n, p, q, h1, h2, h3, h4, h5, h6 => by omega
  | J + 1, n, p, q, h1, h2, h3, h4, h5, h6 => by
    rw [law12_KeysTwo_l2]
    by_cases c : n < m.length
    · rw [if_pos (by omega), geti_nat, List.getElem?_eq_getElem c, List.drop_eq_getElem_cons c]
      simp only [Option.bind_some]
      have h7 := wi_len p m[n].Key m[n].V
      have h8 := wi_len q m[n].Key m[n].V
      rw [i64_id (by omega) (by omega), show (n : Int) + 1 = ((n + 1 : Nat) : Int) by omega, set_eq h3 (by omega), Option.bind_some, set_eq h4 (by omega), Option.bind_some, two2 hl kj J (n + 1) _ _ (by omega) (by omega) (wi_rise h3) (wi_rise h4) (by omega) (by omega)]
      rfl
    · rw [if_neg (by omega), List.drop_eq_nil_of_le (by omega)]
      rfl
theorem KeysTwo_pure (l m : List Law12Act) (hb : ∀ x ∈ l, x.Key.length ≤ 140737488351232 ∧ x.To.length ≤ 140737488351232) (hl : l.length ≤ 140737488351232) (hb2 : ∀ x ∈ m, x.Key.length ≤ 140737488351232 ∧ x.To.length ≤ 140737488351232) (hl2 : m.length ≤ 140737488351232) : law12_KeysTwo l m = some true := by
  unfold law12_KeysTwo
  have hFU := FU_big
  rcases long_eq hb hl with h | ⟨h, h2⟩
  · rw [h, Option.bind_some, if_pos rfl, Option.bind_some, if_pos rfl, awake_true]; rfl
  rw [h, Option.bind_some, if_neg (by decide)]
  rcases long_eq hb2 hl2 with h' | ⟨h', h2'⟩
  · rw [h', Option.bind_some, Option.bind_some, if_pos rfl, awake_true]; rfl
  rw [h', Option.bind_some, Option.bind_some, if_neg (by decide)]
  simp only [keys_New_int, Option.bind_some, jn_eq']
  have r0 : Rise [] := List.Pairwise.nil
  have hb0 := setsP_rise (l := m) r0
  have ha0 := setsP_rise (l := l) r0
  have hbo := setsP_rise (l := l) hb0
  have n1 := setsP_len m []
  have n2 := setsP_len l []
  have n3 := setsP_len l (setsP [] m)
  simp only [List.length_nil, Nat.zero_add] at n1 n2
  rw [show (0 : Int) = ((0 : Nat) : Int) from rfl, two1 h2' _ FU 0 [] [] (by omega) (by omega) r0 r0 (by simp) (by simp), List.drop_zero, two2 h2 _ FU 0 [] _ (by omega) (by omega) r0 hb0 (by simp) (by omega), List.drop_zero]
  simp only [keys_Merge_int_qoo, keys_Index_int_Scan, Option.bind_some]
  rw [rowM_eq ha0 hb0 (by omega), Option.bind_some, row_eq hbo (by omega), Option.bind_some, betw_all]
  have e : takeM (-1) (setsP (setsP [] m) l) = setsP (setsP [] m) l := by unfold takeM; rw [if_neg (by decide)]
  have e2 : mg (setsP [] l) (setsP [] m) = setsP (setsP [] m) l := pic_ext (mg_rise ha0 hb0) hbo fun n => by
    rw [lk_mg ha0 hb0, lk_setsP l (setsP [] m)]
  rw [e, e2, same_eq _ _ (by simp; omega), Option.bind_some, awake_true]
  simp
end Go.Proofs
