import Derived.Test.YtoeanjoenlghlaaDoorQ05B
set_option linter.unusedVariables false
set_option linter.unusedSimpArgs false
namespace Go.Proofs
open Go.Fw
/-! Laws of the row of files. -/
theorem wo_rise {p : Pic} {n : List UInt8} (hr : Rise p) : Rise (wo p n) := List.Pairwise.filter _ hr
theorem mem_wo {p : Pic} {n : List UInt8} {f : DiskFile} : f ∈ wo p n ↔ f ∈ p ∧ f.name ≠ n := by unfold wo; simp
theorem wo_len (p : Pic) (n : List UInt8) : (wo p n).length ≤ p.length := List.length_filter_le _ _
theorem wo_nil (n : List UInt8) : wo [] n = [] := rfl
theorem wo_cons (f : DiskFile) (p : Pic) (n : List UInt8) : wo (f :: p) n = if f.name = n then wo p n else f :: wo p n := by
  unfold wo
  rw [List.filter_cons]
  by_cases h : f.name = n <;> simp [h]
theorem lk_nil (n : List UInt8) : lk [] n = none := rfl
theorem lk_app (p q : Pic) (n : List UInt8) : lk (p ++ q) n = (lk p n).or (lk q n) := by
  induction p with
  | nil => simp [lk_nil]
  | cons f p ih =>
    rw [List.cons_append, lk_cons, lk_cons, ih]
    by_cases h : f.name = n <;> simp [h]
theorem lk_wo (p : Pic) (n m : List UInt8) : lk (wo p n) m = if m = n then none else lk p m := by
  induction p with
  | nil => simp [wo_nil, lk_nil]
  | cons f p ih =>
    rw [wo_cons, lk_cons]
    by_cases h : f.name = n
    · rw [if_pos h, ih]
      by_cases h2 : m = n
      · simp [h2]
      · rw [if_neg h2, if_neg h2, if_neg (fun e => h2 (by rw [← e, h]))]
    · rw [if_neg h, lk_cons, ih]
      by_cases h2 : f.name = m
      · rw [if_pos h2, if_pos h2, if_neg (fun e => h (by rw [h2, e]))]
      · rw [if_neg h2, if_neg h2]
theorem wo_self {p : Pic} {n : List UInt8} (h : lk p n = none) : wo p n = p := by
  unfold wo
  rw [List.filter_eq_self]
  intro f hf
  have := lk_none.1 h f hf
  simpa using this
theorem lk_wi (p : Pic) (n b m : List UInt8) : lk (wi p n b) m = if m = n then some b else lk p m := by
  unfold wi
  rw [lk_app, lk_cons]
  have e : lk (wo p n) m = (lk ((wo p n).take (lb (wo p n) n)) m).or (lk ((wo p n).drop (lb (wo p n) n)) m) := by
    rw [← lk_app, List.take_append_drop]
  have e2 := lk_wo p n m
  by_cases h : m = n
  · subst h
    rw [if_pos rfl, if_pos rfl]
    rw [if_pos rfl, e] at e2
    cases h3 : lk ((wo p m).take (lb (wo p m) m)) m with
    | none => rfl
    | some x => rw [h3] at e2; cases e2
  · rw [if_neg (fun e => h e.symm), if_neg h, ← e, e2, if_neg h]
theorem wi_rise {p : Pic} {n b : List UInt8} (hr : Rise p) : Rise (wi p n b) := by
  have hw := wo_rise (n := n) hr
  have hn : lk (wo p n) n = none := by rw [lk_wo, if_pos rfl]
  unfold wi Rise
  have hta : (wo p n).take (lb (wo p n) n) ++ (wo p n).drop (lb (wo p n) n) = wo p n := List.take_append_drop _ _
  have hp : ((wo p n).take (lb (wo p n) n) ++ (wo p n).drop (lb (wo p n) n)).Pairwise fun x y => nlt x.name y.name := by rw [hta]; exact hw
  rw [List.pairwise_append] at hp ⊢
  have hl : ∀ f ∈ (wo p n).take (lb (wo p n) n), nlt f.name n := fun f hf => by
    obtain ⟨k, hk⟩ := List.mem_iff_getElem?.1 hf
    have h1 : k < lb (wo p n) n := by
      have := (List.getElem?_eq_some_iff.1 hk).1
      rw [List.length_take] at this; omega
    rw [List.getElem?_take, if_pos h1] at hk
    exact lb_lt hk h1
  have hg : ∀ f ∈ (wo p n).drop (lb (wo p n) n), nlt n f.name := fun f hf => by
    obtain ⟨k, hk⟩ := List.mem_iff_getElem?.1 hf
    rw [List.getElem?_drop] at hk
    have h1 := lb_ge (n := n) hw hk (by omega)
    rcases nlt_total f.name n with h2 | h2 | h2
    · exact absurd h2 h1
    · exact absurd h2 (lk_none.1 hn f (List.mem_of_getElem? hk))
    · exact h2
  refine ⟨hp.1, List.pairwise_cons.2 ⟨hg, hp.2.1⟩, fun f hf g hgm => ?_⟩
  rcases List.mem_cons.1 hgm with rfl | hgm
  · exact hl f hf
  · exact nlt_trans (hl f hf) (hg g hgm)
theorem wi_len (p : Pic) (n b : List UInt8) : (wi p n b).length ≤ p.length + 1 := by
  unfold wi
  have := wo_len p n
  have := lb_le (wo p n) n
  rw [List.length_append, List.length_cons, List.length_take, List.length_drop]; omega
/-- Two pictures that show the same are one. -/
theorem pic_ext : ∀ {p q : Pic}, Rise p → Rise q → (∀ n, lk p n = lk q n) → p = q
  | [], [], _, _, _ => rfl
  | [], g :: q, _, _, h => by
    have := h g.name
    rw [lk_nil, lk_cons, if_pos rfl] at this; cases this
  | f :: p, [], _, _, h => by
    have := h f.name
    rw [lk_nil, lk_cons, if_pos rfl] at this; cases this
  | f :: p, g :: q, hp, hq, h => by
    have hp' := List.pairwise_cons.1 hp
    have hq' := List.pairwise_cons.1 hq
    have e : f.name = g.name := by
      rcases nlt_total f.name g.name with h1 | h1 | h1
      · have h2 := h f.name
        rw [lk_cons, if_pos rfl, lk_cons, if_neg (fun e => nlt_ne h1 e.symm)] at h2
        have h3 : lk q f.name = none := lk_none.2 fun x hx e => nlt_asymm h1 (e ▸ hq'.1 x hx)
        rw [h3] at h2; cases h2
      · exact h1
      · have h2 := h g.name
        rw [lk_cons, if_neg (fun e => nlt_ne h1 e.symm), lk_cons, if_pos rfl] at h2
        have h3 : lk p g.name = none := lk_none.2 fun x hx e => nlt_asymm h1 (e ▸ hp'.1 x hx)
        rw [h3] at h2; cases h2
    have e2 : f.b = g.b := by
      have h2 := h f.name
      rw [lk_cons, if_pos rfl, lk_cons, if_pos e.symm] at h2
      exact Option.some.inj h2
    have e3 : p = q := pic_ext hp'.2 hq'.2 fun n => by
      have h2 := h n
      rw [lk_cons, lk_cons] at h2
      by_cases c : f.name = n
      · rw [lk_none.2 fun x hx e => (nlt_ne (hp'.1 x hx)) (by rw [c, e]), lk_none.2 fun x hx e4 => (nlt_ne (hq'.1 x hx)) (by rw [← e, c, e4])]
      · rw [if_neg c, if_neg (e ▸ c)] at h2; exact h2
    obtain ⟨fn, fb⟩ := f
    obtain ⟨gn, gb⟩ := g
    simp only at e e2
    subst e; subst e2; subst e3; rfl
theorem total_cons (f : DiskFile) (p : Pic) : total (f :: p) = f.b.length + total p := by unfold total; simp
theorem total_app (p q : Pic) : total (p ++ q) = total p + total q := by unfold total; simp
theorem total_wo {p : Pic} (hr : Rise p) (n : List UInt8) : total (wo p n) + (get p n).length = total p := by
  induction p with
  | nil => rfl
  | cons f p ih =>
    have hr' := List.pairwise_cons.1 hr
    rw [wo_cons, total_cons]
    unfold get
    rw [lk_cons]
    by_cases h : f.name = n
    · rw [if_pos h, if_pos h, wo_self (lk_none.2 fun x hx e => (nlt_ne (hr'.1 x hx)) (by rw [h, e]))]
      simp; omega
    · rw [if_neg h, if_neg h, total_cons]
      have := ih hr'.2
      unfold get at this; omega
theorem total_wi {p : Pic} (hr : Rise p) (n b : List UInt8) : total (wi p n b) + (get p n).length = total p + b.length := by
  unfold wi
  have h1 := total_wo hr n
  have h2 : total ((wo p n).take (lb (wo p n) n)) + total ((wo p n).drop (lb (wo p n) n)) = total (wo p n) := by rw [← total_app, List.take_append_drop]
  rw [total_app, total_cons]
  simp only; omega
theorem get_wi (p : Pic) (n b m : List UInt8) : get (wi p n b) m = if m = n then b else get p m := by
  unfold get; rw [lk_wi]; split <;> rfl
theorem get_wo (p : Pic) (n m : List UInt8) : get (wo p n) m = if m = n then [] else get p m := by
  unfold get; rw [lk_wo]; split <;> rfl
theorem get_le {p : Pic} (hr : Rise p) (n : List UInt8) : (get p n).length ≤ total p := by have := total_wo hr n; omega
/-! What the program's functions compute. -/
theorem cat1 {ls : List (List DiskFile)} (kj : Int → Option (List DiskFile)) : ∀ (J k : Nat) (t : Nat), k ≤ ls.length → ls.length - k < J → t + ((ls.drop k).map List.length).sum ≤ 1000000 → ls.length ≤ 1000000 →
    slices_Concat_disk_picture_disk_file_l1 ls kj J (t : Int) (k : Int) = kj ((t + ((ls.drop k).map List.length).sum : Nat) : Int)
  | 0, k, t, h1, h2, h3, h4 => by omega
  | J + 1, k, t, h1, h2, h3, h4 => by
    rw [slices_Concat_disk_picture_disk_file_l1]
    by_cases c : k < ls.length
    · have e : ls.drop k = ls[k] :: ls.drop (k + 1) := List.drop_eq_getElem_cons c
      rw [e, List.map_cons, List.sum_cons] at h3 ⊢
      rw [if_pos (by omega), geti_nat, List.getElem?_eq_getElem c, Option.bind_some]
      rw [i64_id (by omega) (by omega), if_neg (by omega), i64_id (by omega) (by omega)]
      have := cat1 kj J (k + 1) (t + ls[k].length) (by omega) (by omega) (by omega) h4
      rw [show ((t : Nat) : Int) + (ls[k].length : Int) = ((t + ls[k].length : Nat) : Int) by omega, show (k : Int) + 1 = ((k + 1 : Nat) : Int) by omega, this]
      rw [Nat.add_assoc]
    · rw [if_neg (by omega), List.drop_eq_nil_of_le (by omega)]
      simp
theorem cat2 {ls : List (List DiskFile)} (kj : List DiskFile → Option (List DiskFile)) : ∀ (J k : Nat) (r : List DiskFile), k ≤ ls.length → ls.length - k < J → r.length + ((ls.drop k).map List.length).sum ≤ 1000000 → ls.length ≤ 1000000 →
    slices_Concat_disk_picture_disk_file_l2 ls kj J r (k : Int) = kj (r ++ (ls.drop k).flatten)
  | 0, k, t, h1, h2, h3, h4 => by omega
  | J + 1, k, r, h1, h2, h3, h4 => by
    rw [slices_Concat_disk_picture_disk_file_l2]
    by_cases c : k < ls.length
    · have e : ls.drop k = ls[k] :: ls.drop (k + 1) := List.drop_eq_getElem_cons c
      rw [e, List.map_cons, List.sum_cons] at h3
      rw [e, List.flatten_cons]
      rw [if_pos (by omega), geti_nat, List.getElem?_eq_getElem c, Option.bind_some, app_ok _ _ (by omega) (by omega), Option.bind_some, i64_id (by omega) (by omega)]
      have := cat2 kj J (k + 1) (r ++ ls[k]) (by omega) (by omega) (by rw [List.length_append]; omega) h4
      rw [show (k : Int) + 1 = ((k + 1 : Nat) : Int) by omega, this, List.append_assoc]
    · rw [if_neg (by omega), List.drop_eq_nil_of_le (by omega)]
      simp
theorem cat_eq (ls : List (List DiskFile)) (h : (ls.map List.length).sum ≤ 1000000) (h2 : ls.length ≤ 1000000) : slices_Concat_disk_picture_disk_file ls = some ls.flatten := by
  unfold slices_Concat_disk_picture_disk_file
  have hFU := FU_big
  rw [jn_eq']
  rw [show (0 : Int) = ((0 : Nat) : Int) from rfl, cat1 _ FU 0 0 (by omega) (by omega) (by simpa using h) h2, List.drop_zero]
  generalize hT : (0 + (ls.map List.length).sum) = T
  have hT' : T ≤ 1000000 := by omega
  have e : slices_Grow_disk_picture_disk_file_nl (T : Int) = some [] := by
    unfold slices_Grow_disk_picture_disk_file_nl
    rw [i64_id (by omega) (by omega), if_neg (by omega)]
    by_cases c : T = 0
    · subst c; simp
    · rw [if_pos (by omega), if_pos (by omega), if_pos (by omega)]
  rw [e, Option.bind_some, jn_eq', cat2 _ FU 0 [] (by omega) (by omega) (by simpa using h) h2, List.drop_zero]
  rfl
theorem bcat1 {ls : List (List UInt8)} (kj : Int → Option (List UInt8)) : ∀ (J k : Nat) (t : Nat), k ≤ ls.length → ls.length - k < J → t + ((ls.drop k).map List.length).sum ≤ 1000000 → ls.length ≤ 1000000 →
    slices_Concat_byte_byte_l1 ls kj J (t : Int) (k : Int) = kj ((t + ((ls.drop k).map List.length).sum : Nat) : Int)
  | 0, k, t, h1, h2, h3, h4 => by omega
  | J + 1, k, t, h1, h2, h3, h4 => by
    rw [slices_Concat_byte_byte_l1]
    by_cases c : k < ls.length
    · have e : ls.drop k = ls[k] :: ls.drop (k + 1) := List.drop_eq_getElem_cons c
      rw [e, List.map_cons, List.sum_cons] at h3 ⊢
      rw [if_pos (by omega), geti_nat, List.getElem?_eq_getElem c, Option.bind_some]
      rw [i64_id (by omega) (by omega), if_neg (by omega), i64_id (by omega) (by omega)]
      have := bcat1 kj J (k + 1) (t + ls[k].length) (by omega) (by omega) (by omega) h4
      rw [show ((t : Nat) : Int) + (ls[k].length : Int) = ((t + ls[k].length : Nat) : Int) by omega, show (k : Int) + 1 = ((k + 1 : Nat) : Int) by omega, this]
      rw [Nat.add_assoc]
    · rw [if_neg (by omega), List.drop_eq_nil_of_le (by omega)]
      simp
theorem bcat2 {ls : List (List UInt8)} (kj : List UInt8 → Option (List UInt8)) : ∀ (J k : Nat) (r : List UInt8), k ≤ ls.length → ls.length - k < J → r.length + ((ls.drop k).map List.length).sum ≤ 1000000 → ls.length ≤ 1000000 →
    slices_Concat_byte_byte_l2 ls kj J r (k : Int) = kj (r ++ (ls.drop k).flatten)
  | 0, k, t, h1, h2, h3, h4 => by omega
  | J + 1, k, r, h1, h2, h3, h4 => by
    rw [slices_Concat_byte_byte_l2]
    by_cases c : k < ls.length
    · have e : ls.drop k = ls[k] :: ls.drop (k + 1) := List.drop_eq_getElem_cons c
      rw [e, List.map_cons, List.sum_cons] at h3
      rw [e, List.flatten_cons]
      rw [if_pos (by omega), geti_nat, List.getElem?_eq_getElem c, Option.bind_some, app_ok _ _ (by omega) (by omega), Option.bind_some, i64_id (by omega) (by omega)]
      have := bcat2 kj J (k + 1) (r ++ ls[k]) (by omega) (by omega) (by rw [List.length_append]; omega) h4
      rw [show (k : Int) + 1 = ((k + 1 : Nat) : Int) by omega, this, List.append_assoc]
    · rw [if_neg (by omega), List.drop_eq_nil_of_le (by omega)]
      simp
theorem bcat_eq (ls : List (List UInt8)) (h : (ls.map List.length).sum ≤ 1000000) (h2 : ls.length ≤ 1000000) : slices_Concat_byte_byte ls = some ls.flatten := by
  unfold slices_Concat_byte_byte
  have hFU := FU_big
  rw [jn_eq']
  rw [show (0 : Int) = ((0 : Nat) : Int) from rfl, bcat1 _ FU 0 0 (by omega) (by omega) (by simpa using h) h2, List.drop_zero]
  generalize hT : (0 + (ls.map List.length).sum) = T
  have hT' : T ≤ 1000000 := by omega
  have e : slices_Grow_byte_byte_nl (T : Int) = some [] := by
    unfold slices_Grow_byte_byte_nl
    rw [i64_id (by omega) (by omega), if_neg (by omega)]
    by_cases c : T = 0
    · subst c; simp
    · rw [if_pos (by omega), if_pos (by omega), if_pos (by omega)]
  rw [e, Option.bind_some, jn_eq', bcat2 _ FU 0 [] (by omega) (by omega) (by simpa using h) h2, List.drop_zero]
  rfl
theorem wo_cut : ∀ {p : Pic} {n : List UInt8} {f : DiskFile}, Rise p → p[lb p n]? = some f → f.name = n → p.take (lb p n) ++ p.drop (lb p n + 1) = wo p n
  | [], n, f, hr, h, e => by simp at h
  | g :: p, n, f, hr, h, e => by
    have hr' := List.pairwise_cons.1 hr
    rw [lb_cons] at h ⊢
    by_cases c : nlt g.name n
    · rw [if_pos c] at h ⊢
      rw [List.getElem?_cons_succ] at h
      rw [List.take_succ_cons, List.drop_succ_cons, List.cons_append, wo_cut hr'.2 h e, wo_cons, if_neg (nlt_ne c)]
    · rw [if_neg c] at h ⊢
      simp at h
      subst h
      rw [wo_cons, if_pos e, wo_self (lk_none.2 fun x hx e2 => (nlt_ne (hr'.1 x hx)) (by rw [e, e2]))]
      simp
theorem without_eq {p : Pic} {n : List UInt8} (hr : Rise p) (hl : p.length ≤ 100000) : disk_picture_without p n = some (wo p n) := by
  unfold disk_picture_without
  rw [find_eq hr (by omega), Option.bind_some]
  rcases lb_hit (n := n) hr with ⟨f, e, e2, e3⟩ | ⟨e, e2⟩
  · have h1 := (List.getElem?_eq_some_iff.1 e).1
    rw [e3]
    simp only [Option.isSome_some, Bool.not_true, Bool.false_eq_true, if_false]
    rw [subl_head _ _ (by omega), Option.bind_some, i64_id (by omega) (by omega), show ((lb p n : Nat) : Int) + 1 = ((lb p n + 1 : Nat) : Int) by omega, subl_tail _ _ (by omega), Option.bind_some, cat_eq]
    · rw [Option.bind_some, ← wo_cut hr e e2]
      simp
    · simp; omega
    · simp
  · rw [e2, wo_self e2]; simp
theorem with_eq {p : Pic} {n b : List UInt8} (hr : Rise p) (hl : p.length ≤ 100000) : disk_picture_with p n b = some (wi p n b) := by
  unfold disk_picture_with
  have hw := wo_len p n
  have h1 := lb_le (wo p n) n
  rw [without_eq hr hl, Option.bind_some, find_eq (wo_rise hr) (by omega), Option.bind_some]
  simp only
  rw [subl_head _ _ h1, Option.bind_some, subl_tail _ _ h1, Option.bind_some, cat_eq]
  · rw [Option.bind_some]
    simp [wi]
  · simp; omega
  · simp
theorem sizes_run {XT : Type} {p : Pic} (a0 : XT → (List UInt8 × Int) → Option (Bool × XT)) (st : Nat → XT) (h : ∀ k f, p[k]? = some f → a0 (st k) (f.name, (f.b.length : Int)) = some (true, st (k + 1))) (hl : p.length ≤ 1000000) :
    ∀ (J k : Nat), k ≤ p.length → p.length - k < J → disk_picture_sizes_1_l1 p a0 J (k : Int) (st k) = some (st p.length)
  | 0, k, h1, h2 => by omega
  | J + 1, k, h1, h2 => by
    rw [disk_picture_sizes_1_l1]
    by_cases c : k < p.length
    · rw [if_pos (by omega), geti_nat, List.getElem?_eq_getElem c, Option.bind_some, h k _ (List.getElem?_eq_getElem c), Option.bind_some]
      simp only [Bool.not_true, Bool.false_eq_true, if_false]
      rw [i64_id (by omega) (by omega), show (k : Int) + 1 = ((k + 1 : Nat) : Int) by omega]
      exact sizes_run a0 st h hl J (k + 1) (by omega) (by omega)
    · rw [if_neg (by omega), show k = p.length by omega]
theorem take_snoc {α : Type} {p : List α} {k : Nat} {f : α} (h : p[k]? = some f) : p.take (k + 1) = p.take k ++ [f] := by
  rw [List.take_add_one, h]; rfl
theorem size_eq {p : Pic} (hl : p.length ≤ 1000000) (ht : total p ≤ 1000000000) : disk_picture_size p = some (total p : Int) := by
  unfold disk_picture_size disk_picture_sizes disk_picture_sizes_1
  have hFU := FU_big
  have := sizes_run (p := p) (stopC (fun (x2 : Int) (x3 : ((List UInt8) × Int)) => some (true, i64 (x2 + x3.2)))) (fun k => (false, ((total (p.take k) : Nat) : Int))) (fun k f hk => by
    have h2 : total (p.take (k + 1)) ≤ total p := by
      have := total_app (p.take (k + 1)) (p.drop (k + 1))
      rw [List.take_append_drop] at this; omega
    have e : total (p.take (k + 1)) = total (p.take k) + f.b.length := by
      rw [take_snoc hk, total_app, total_cons]; simp [total]
    unfold stopC
    simp only [Bool.false_eq_true, if_false, Option.map_some, Bool.not_true, Option.some.injEq, Prod.mk.injEq, true_and]
    rw [i64_id (by omega) (by omega), e]; omega) hl FU 0 (by omega) (by omega)
  simp only [List.take_zero, Option.bind_some] at this ⊢
  rw [show ((0 : Nat) : Int) = 0 from rfl, show total [] = 0 from rfl, show ((0 : Nat) : Int) = 0 from rfl] at this
  rw [this, List.take_of_length_le (Nat.le_refl _)]
  rfl
def names (p : Pic) : List (List UInt8) := p.map (·.name)
theorem names_run {p : Pic} (hl : p.length ≤ 100000) : (disk_picture_sizes_1 (stopC (fun (x3 : (List (List UInt8))) (x4 : ((List UInt8) × Int)) => (app 8796093022208 x3 ([x4.1] : List (List UInt8))).bind fun x7 => some (true, x7))) (false, []) p).bind (fun x6 => some x6.2) = some (names p) := by
  unfold disk_picture_sizes_1
  have hFU := FU_big
  have := sizes_run (p := p) (stopC (fun (x3 : (List (List UInt8))) (x4 : ((List UInt8) × Int)) => (app 8796093022208 x3 ([x4.1] : List (List UInt8))).bind fun x7 => some (true, x7))) (fun k => (false, names (p.take k))) (fun k f hk => by
    unfold stopC
    have h3 := (List.getElem?_eq_some_iff.1 hk).1
    simp only [Bool.false_eq_true, if_false]
    rw [app_ok _ _ (by simp [names]; omega) (by decide), Option.bind_some, take_snoc hk]
    simp [names]) (by omega) FU 0 (by omega) (by omega)
  simp only [List.take_zero] at this
  rw [show ((0 : Nat) : Int) = 0 from rfl, show names [] = [] from rfl] at this
  rw [this, List.take_of_length_le (Nat.le_refl _)]
  rfl
/-- The picture behind a call. -/
def nextP : DiskCall → Pic → Pic
  | .adding x, p => wi p x.file.name (get p x.file.name ++ x.file.b)
  | .naming x, p => wi (wo p x.from_) x.to_ (get p x.from_)
  | .putting x, p => wi p x.file.name x.file.b
  | .removing n, p => wo p n
def cBytes : DiskCall → Nat
  | .adding x => x.file.b.length
  | .putting x => x.file.b.length
  | _ => 0
theorem next_eq {c : DiskCall} {p : Pic} (hr : Rise p) (hl : p.length ≤ 100000) (ht : total p ≤ 100000) (hc : cBytes c ≤ 100000) : DiskCall_next c p = some (nextP c p) := by
  cases c with
  | adding x =>
    simp only [cBytes] at hc
    have := get_le hr x.file.name
    rw [DiskCall_next, disk_adding_next, bytes_eq hr (by omega), Option.bind_some, bcat_eq _ (by simp; omega) (by simp), Option.bind_some, with_eq hr hl, Option.bind_some]
    simp [nextP]
  | naming x =>
    have := wo_len p x.from_
    rw [DiskCall_next, disk_naming_next, without_eq hr hl, Option.bind_some, bytes_eq hr (by omega), Option.bind_some, with_eq (wo_rise hr) (by omega), Option.bind_some]
    rfl
  | putting x => rw [DiskCall_next, disk_putting_next, with_eq hr hl, Option.bind_some]; rfl
  | removing n => rw [DiskCall_next, disk_removing_next, without_eq hr hl, Option.bind_some]; rfl
theorem next_rise {c : DiskCall} {p : Pic} (hr : Rise p) : Rise (nextP c p) := by
  cases c with
  | adding x => exact wi_rise hr
  | naming x => exact wi_rise (wo_rise hr)
  | putting x => exact wi_rise hr
  | removing n => exact wo_rise hr
theorem next_len (c : DiskCall) (p : Pic) : (nextP c p).length ≤ p.length + 1 := by
  cases c with
  | adding x => exact wi_len _ _ _
  | naming x => exact Nat.le_trans (wi_len _ _ _) (by have := wo_len p x.from_; omega)
  | putting x => exact wi_len _ _ _
  | removing n => have := wo_len p n; simp only [nextP]; omega
theorem next_total {c : DiskCall} {p : Pic} (hr : Rise p) : total (nextP c p) ≤ total p + cBytes c := by
  cases c with
  | adding x =>
    have := total_wi hr x.file.name (get p x.file.name ++ x.file.b)
    rw [List.length_append] at this
    simp only [nextP, cBytes]; omega
  | naming x =>
    have := total_wi (wo_rise (n := x.from_) hr) x.to_ (get p x.from_)
    have := total_wo hr x.from_
    simp only [nextP, cBytes]; omega
  | putting x =>
    have := total_wi hr x.file.name x.file.b
    simp only [nextP, cBytes]; omega
  | removing n =>
    have := total_wo hr n
    simp only [nextP, cBytes]; omega
end Go.Proofs
