import Derived.Test.YtepifllifhikiaaDoorFwL
set_option linter.unusedSimpArgs false
set_option linter.unusedVariables false
namespace Go.Fw

section
variable {P : Program} {n : Nat} {Df : Md} {ops : Array Oper} {Q : Exit → Act → World → Prop}

theorem chained_mem {cur : List Nat} : ∀ {r : List (Bool × Nat)} {cur : List Nat}, chained ops (some cur) r = true → ∀ x ∈ r, ∃ j ∈ onsAt ops x.2, j ∈ cur ∨ j ∈ r.map (·.2)
  | [], _, _, x, hx => by simp at hx
  | (false, i) :: r, cur, h, x, hx => by
    simp only [chained, Bool.and_eq_true, List.any_eq_true] at h
    obtain ⟨⟨j, hj, hjc⟩, h2⟩ := h
    rcases List.mem_cons.1 hx with rfl | hx
    · exact ⟨j, hj, .inl (by simpa using hjc)⟩
    · obtain ⟨j', h3, h4⟩ := chained_mem (cur := cur) h2 x hx
      refine ⟨j', h3, ?_⟩
      rcases h4 with h4 | h4
      · rcases List.mem_cons.1 h4 with rfl | h4
        · exact .inr (by simp)
        · exact .inl h4
      · exact .inr (by simp only [List.map_cons, List.mem_cons]; exact .inr h4)
  | (true, i) :: r, cur, h, x, hx => by
    simp only [chained, Bool.and_eq_true, List.any_eq_true] at h
    obtain ⟨⟨j, hj, hjc⟩, h2⟩ := h
    rcases List.mem_cons.1 hx with rfl | hx
    · exact ⟨j, hj, .inl (by simpa using hjc)⟩
    · obtain ⟨j', h3, h4⟩ := chained_mem (cur := cur) h2 x hx
      refine ⟨j', h3, ?_⟩
      rcases h4 with h4 | h4
      · have : j' = i := by simpa using h4
        subst this
        exact .inr (by simp)
      · exact .inr (by simp only [List.map_cons, List.mem_cons]; exact .inr h4)

theorem chained_suf : ∀ {pre : List (Bool × Nat)} {c : Option (List Nat)} {h : Nat} {r : List (Bool × Nat)}, chained ops c (pre ++ (true, h) :: r) = true → chained ops (some [h]) r = true
  | [], none, h, r, hh => by simpa [chained] using hh
  | [], some cur, h, r, hh => by simp only [List.nil_append, chained, Bool.and_eq_true] at hh; exact hh.2
  | (false, i) :: pre, none, h, r, hh => chained_suf (pre := pre) (c := none) (by simpa [chained] using hh)
  | (false, i) :: pre, some cur, h, r, hh => by
    simp only [List.cons_append, chained, Bool.and_eq_true] at hh
    exact chained_suf (pre := pre) (c := some (i :: cur)) hh.2
  | (true, i) :: pre, none, h, r, hh => chained_suf (pre := pre) (c := some [i]) (by simpa [chained] using hh)
  | (true, i) :: pre, some cur, h, r, hh => by
    simp only [List.cons_append, chained, Bool.and_eq_true] at hh
    exact chained_suf (pre := pre) (c := some [i]) hh.2

theorem countP_set {p q : Nat → Bool} {i : Nat} : ∀ {l : List Nat}, l.Nodup → i ∈ l → p i = true → q i = false → (∀ j, j ≠ i → q j = p j) → l.countP p = l.countP q + 1
  | [], _, h, _, _, _ => by simp at h
  | x :: l, hn, hm, hp, hq, he => by
    rw [List.nodup_cons] at hn
    rcases List.mem_cons.1 hm with rfl | hm
    · rw [List.countP_cons_of_pos hp, List.countP_cons_of_neg (by simp [hq])]
      congr 1
      apply List.countP_congr
      intro j hj
      rw [he j (by rintro rfl; exact hn.1 hj)]
    · have hx : x ≠ i := by rintro rfl; exact hn.1 hm
      have ih := countP_set hn.2 hm hp hq he
      by_cases h : p x = true
      · rw [List.countP_cons_of_pos h, List.countP_cons_of_pos (by rw [he x hx]; exact h), ih]
      · rw [List.countP_cons_of_neg h, List.countP_cons_of_neg (by rw [he x hx]; exact h), ih]

theorem put_getD {a : Act} {d t : Nat} {v : Value} (h : d ≠ t) : (a.put (some d) v).tmps.getD t undef = a.tmps.getD t undef := by
  simp [Act.put, Array.getD_eq_getD_getElem?, Array.getElem?_setIfInBounds_ne, h]
theorem put_getD_self {a : Act} {d : Nat} {v : Value} (h : d < a.tmps.size) : (a.put (some d) v).tmps.getD d undef = v := by
  simp [Act.put, Array.getD_eq_getD_getElem?, h]

theorem draw_sim {K : Lab → Prop} (hK : ∀ c, ¬ K ⟨0, c⟩) {Fin : Env → St → Prop} {m : Nat} {plan : List (Bool × Nat)} {ρ0 : Env} (hok : planOk ops n m plan = true) (hfresh : freshOk ops m ρ0 = true)
    (hFin : ∀ ρ s a, Fin ρ s → Ag n Df ρ a → wpListIn (fnc Df.rd) 0 P ops Q (ops.toList.drop m) a s.w) :
    ∀ (fuel : Nat) (listed : Array Bool) (a : Act) (pre suf : List (Bool × Nat)) (ρ : Env) (s : St), listed.size = ops.size → ops.size - m + (List.range m).countP (fun i => !listed.getD i true) ≤ fuel →
      plan = pre ++ suf → (suf = [] ∨ ∃ i r, suf = (true, i) :: r) → (∀ x ∈ pre, x.1 = false → Known P n Df ops K x.2 ρ s) → (∀ x ∈ pre, x.1 = true → listed.getD x.2 true = true) → (∀ x ∈ suf, listed.getD x.2 true = false) → (∀ i, m ≤ i → i < ops.size → listed.getD i true = false) → (∀ i, i < ops.size → listed.getD i true = true → ∀ j ∈ onsAt ops i, listed.getD j true = true) →
      a.tmps.size = n → a.defers = Df.df → (∀ t v, look ρ0 t = some v → a.tmps.getD t undef = v) →
      (∀ x ∈ pre, listed.getD x.2 true = true → ∀ d v, dstAt ops x.2 = some d → look ρ d = some v → a.tmps.getD d undef = v) →
      (∀ t v, look ρ t = some v → look ρ0 t = some v ∨ ∃ x ∈ pre, dstAt ops x.2 = some t) → (∀ x ∈ pre, ∀ d, dstAt ops x.2 = some d → ∃ v, look ρ d = some v) →
      RD P n Df ops K Fin suf ρ s → wpAnyIn (fnc Df.rd) 0 P .any ops Q fuel listed a s.w := by
  simp only [planOk, Bool.and_eq_true] at hok
  obtain ⟨⟨⟨⟨⟨⟨⟨⟨⟨k1, k2⟩, k3⟩, k4⟩, k5⟩, k6⟩, k7⟩, k8⟩, k9⟩, k10⟩ := hok
  have hm : m ≤ ops.size := by simpa using k1
  have hin : ∀ i, i < m → ∃ b, (b, i) ∈ plan := by
    intro i hi
    have := List.all_eq_true.1 k2 i (List.mem_range.2 hi)
    simp only [List.contains_eq_mem, decide_eq_true_eq, List.mem_map] at this
    obtain ⟨⟨b, j⟩, h1, rfl⟩ := this
    exact ⟨b, h1⟩
  have hlt : ∀ x ∈ plan, x.2 < m := by
    intro x hx
    have := List.all_eq_true.1 k3 x hx
    simpa using this
  have hback : ∀ i, i < ops.size → ∀ j ∈ onsAt ops i, j < i := by
    intro i hi j hj
    have := List.all_eq_true.1 (List.all_eq_true.1 k4 i (List.mem_range.2 hi)) j hj
    simpa using this
  have hedge : ∀ i, i < m → ∀ t ∈ looksI ops i, ∀ j, j < m → dstAt ops j = some t → j ∈ onsAt ops i := by
    intro i hi t ht j hj hd
    have := List.all_eq_true.1 (List.all_eq_true.1 (List.all_eq_true.1 k5 i (List.mem_range.2 hi)) t ht) j (List.mem_range.2 hj)
    simp only [Bool.or_eq_true, bne_iff_ne, ne_eq, List.contains_eq_mem, decide_eq_true_eq] at this
    rcases this with h | h
    · exact absurd hd h
    · exact h
  have htail : ∀ i, m ≤ i → i < ops.size → ∀ j, j < i → j ∈ onsAt ops i ∨ ∃ q ∈ onsAt ops i, j ∈ onsAt ops q := by
    intro i h1 h2 j hj
    have := List.all_eq_true.1 k6 i (List.mem_range.2 h2)
    simp only [Bool.or_eq_true] at this
    rcases this with h | h
    · have : i < m := by simpa using h
      omega
    · have := List.all_eq_true.1 h j (List.mem_range.2 hj)
      simpa using this
  have hdst : ∀ i, i < m → ∃ d, dstAt ops i = some d ∧ d < n := by
    intro i hi
    have := List.all_eq_true.1 k7 i (List.mem_range.2 hi)
    cases hd : dstAt ops i with
    | none => rw [hd] at this; simp at this
    | some d => rw [hd] at this; exact ⟨d, rfl, by simpa using this⟩
  have hdist : ∀ i j, i < m → j < m → i ≠ j → ∀ d, dstAt ops i = some d → dstAt ops j ≠ some d := by
    intro i j hi hj hne d hd hd'
    have := List.all_eq_true.1 (List.all_eq_true.1 k8 i (List.mem_range.2 hi)) j (List.mem_range.2 hj)
    simp only [Bool.or_eq_true, Nat.beq_eq, bne_iff_ne, ne_eq] at this
    rcases this with h | h
    · exact hne h
    · exact h (hd.trans hd'.symm)
  have hnodup : (plan.map (·.2)).Nodup := by simpa using k9
  have hfr : ∀ i, i < m → ∀ d, dstAt ops i = some d → look ρ0 d = none := by
    intro i hi d hd
    have := List.all_eq_true.1 hfresh i (List.mem_range.2 hi)
    rw [hd] at this
    simpa using this
  intro fuel
  induction fuel with
  | zero =>
    intro listed a pre suf ρ s hsz hf hplan hsuf hkn hact hun hunt hdown hts hds E1 E2 E3 E4 hrd
    have hall : ∀ i, i < m → listed.getD i true = true := by
      intro i hi
      have h0 : (List.range m).countP (fun i => !listed.getD i true) = 0 := by omega
      have := (List.countP_eq_zero.1 h0) i (List.mem_range.2 hi)
      simpa using this
    have hs0 : suf = [] := by
      rcases hsuf with h | ⟨i, r, h⟩
      · exact h
      · have h1 := hun (true, i) (by rw [h]; simp)
        have h2 := hall i (hlt (true, i) (by rw [hplan, h]; simp))
        rw [h2] at h1; simp at h1
    subst hs0
    refine tail_any hback (fun i a b j c => (htail i a b j c).elim .one (fun ⟨q, h1, h2⟩ => .more h1 (.one h2))) 0 m listed a s.w hsz (Nat.le_refl _) hm (by omega) (fun i hi => by rw [getD_any (c := true) (by omega)]; exact hall i hi) (fun i h1 h2 => by rw [getD_any (c := true) (by omega)]; exact hunt i h1 h2) (hFin ρ s a hrd ⟨hts, ?_, hds⟩)
    intro t v e
    rcases E3 t v e with h | ⟨x, hx, hd⟩
    · exact E1 t v h
    · exact E2 x hx (hall x.2 (hlt x (by rw [hplan]; simp [hx]))) t v hd e
  | succ fuel ih =>
    intro listed a pre suf ρ s hsz hf hplan hsuf hkn hact hun hunt hdown hts hds E1 E2 E3 E4 hrd
    by_cases hall : ∀ i, i < m → listed.getD i true = true
    · have hs0 : suf = [] := by
        rcases hsuf with h | ⟨i, r, h⟩
        · exact h
        · have h1 := hun (true, i) (by rw [h]; simp)
          have h2 := hall i (hlt (true, i) (by rw [hplan, h]; simp))
          rw [h2] at h1; simp at h1
      subst hs0
      refine tail_any hback (fun i a b j c => (htail i a b j c).elim .one (fun ⟨q, h1, h2⟩ => .more h1 (.one h2))) (fuel + 1) m listed a s.w hsz (Nat.le_refl _) hm (by omega) (fun i hi => by rw [getD_any (c := true) (by omega)]; exact hall i hi) (fun i h1 h2 => by rw [getD_any (c := true) (by omega)]; exact hunt i h1 h2) (hFin ρ s a hrd ⟨hts, ?_, hds⟩)
      intro t v e
      rcases E3 t v e with h | ⟨x, hx, hd⟩
      · exact E1 t v h
      · exact E2 x hx (hall x.2 (hlt x (by rw [hplan]; simp [hx]))) t v hd e
    · have hex : ∃ i, i < m ∧ listed.getD i true = false := by
        apply Classical.byContradiction
        intro hne
        exact hall (fun i hi => by
          cases h : listed.getD i true with
          | true => rfl
          | false => exact absurd ⟨i, hi, h⟩ hne)
      refine ⟨fun hr => ?_, fun i hi => ?_⟩
      · exfalso
        obtain ⟨i0, ⟨hi0, hu0⟩, hleast⟩ := exists_least hex
        have : i0 ∈ Region.ready .any ops listed := mem_ready.2 ⟨by omega, hu0, fun j hj => by
          have hji := hback i0 (by omega) j hj
          rw [getD_any (c := true) (by omega)]
          cases h : listed.getD j true with
          | true => rfl
          | false => have := hleast j ⟨by omega, h⟩; omega⟩
        rw [hr] at this; simp at this
      · obtain ⟨h1, h2, h3⟩ := mem_ready.1 hi
        have him : i < m := by
          rcases Nat.lt_or_ge i m with h | h
          · exact h
          · exfalso
            refine hall (fun j hj => ?_)
            rcases htail i h h1 j (by omega) with hd | ⟨q, hq1, hq2⟩
            · have := h3 j hd
              rwa [getD_any (c := true) (by omega)] at this
            · have h6 := hback i h1 q hq1
              have := h3 q hq1
              rw [getD_any (c := true) (by omega)] at this
              exact hdown q (by omega) this j hq2
        obtain ⟨d, hd, hdn⟩ := hdst i him
        -- what the activation knows of the operation's operands
        have hag : ∀ o, ops[i]? = some o → Ag n Df (rst ρ (o.looksAt ops)) a := by
          intro o ho
          refine ⟨hts, fun t v e => ?_, hds⟩
          obtain ⟨ht, hl⟩ := look_rst e
          rcases E3 t v hl with h | ⟨x, hx, hxd⟩
          · exact E1 t v h
          · have hxm := hlt x (by rw [hplan]; simp [hx])
            have hj := hedge i him t (by simpa [looksI, ho] using ht) x.2 hxm hxd
            have hlj := h3 _ hj
            rw [getD_any (c := true) (by omega)] at hlj
            exact E2 x hx hlj t v hxd hl
        have hcount : (List.range m).countP (fun j => !(listed.setIfInBounds i true).getD j true) + 1 = (List.range m).countP (fun j => !listed.getD j true) := by
          refine (countP_set (i := i) List.nodup_range (List.mem_range.2 him) (by simp [h2]) ?_ ?_).symm
          · simp [getD_set (show i < listed.size by omega)]
          · intro j hj
            rw [getD_set (by omega), if_neg (by omega)]
        have hset : ∀ j, (listed.setIfInBounds i true).getD j true = if i = j then true else listed.getD j true := fun j => getD_set (by omega)
        have hdown2 : ∀ i', i' < ops.size → (listed.setIfInBounds i true).getD i' true = true → ∀ j ∈ onsAt ops i', (listed.setIfInBounds i true).getD j true = true := by
          intro i' hi' hl j hj
          rw [hset]
          split
          · rfl
          · by_cases he : i' = i
            · subst he
              have := h3 j hj
              rwa [getD_any (c := true) (by have := hback i' h1 j hj; omega)] at this
            · rw [hset, if_neg (fun e => he e.symm)] at hl
              exact hdown i' hi' hl j hj
        obtain ⟨b, hb⟩ := hin i him
        rw [hplan] at hb
        rcases List.mem_append.1 hb with hb | hb
        · -- it only reads
          have hbf : b = false := by
            cases b with
            | false => rfl
            | true => have := hact _ hb rfl; rw [h2] at this; simp at this
          subst hbf
          obtain ⟨o, d', c, ho, hd', hl, hkl⟩ := hkn _ hb rfl
          simp only at ho
          have hdd : d' = d := by
            have : dstAt ops i = some d' := by simp [dstAt, ho, hd']
            rw [hd] at this; exact (Option.some.inj this).symm
          subst hdd
          refine wpOp_of_KL ho hd' (hag o ho) (C := fun v w' => v = c ∧ w' = s.w) ?_ hdn (hkl s ((Step.refl s).of0 hK)) ?_
          · rintro e ρ' w' ⟨e1, e2, e3⟩
            exact ⟨e1, c, e3, rfl, e2⟩
          · rintro v w' ⟨rfl, rfl⟩
            refine ih _ _ pre suf ρ s (by simpa using hsz) (by omega) hplan hsuf hkn ?_ ?_ ?_ hdown2 (by simp [Act.put, hts]) (by simp [Act.put, hds]) ?_ ?_ E3 E4 hrd
            · intro x hx hxt
              rw [hset]; split
              · rfl
              · exact hact x hx hxt
            · intro x hx
              rw [hset]
              have : i ≠ x.2 := by
                rintro rfl
                rw [hplan, List.map_append, List.nodup_append] at hnodup
                exact hnodup.2.2 _ (List.mem_map.2 ⟨_, hb, rfl⟩) _ (List.mem_map.2 ⟨_, hx, rfl⟩) rfl
              rw [if_neg this]; exact hun x hx
            · intro j hj1 hj2
              rw [hset, if_neg (by omega)]; exact hunt j hj1 hj2
            · intro t v' e
              have : d' ≠ t := by rintro rfl; rw [hfr i him _ hd] at e; simp at e
              rw [put_getD this]; exact E1 t v' e
            · intro x hx hlx d2 v' hd2 hl2
              have hxm := hlt x (by rw [hplan]; simp [hx])
              by_cases hxi : x.2 = i
              · rw [hxi, hd] at hd2
                have := Option.some.inj hd2
                subst this
                rw [hl] at hl2
                have := Option.some.inj hl2
                subst this
                exact put_getD_self (by omega)
              · have hne : d' ≠ d2 := by rintro rfl; exact hdist x.2 i hxm him hxi _ hd2 hd
                rw [put_getD hne]
                rw [hset, if_neg (fun e => hxi e.symm)] at hlx
                exact E2 x hx hlx d2 v' hd2 hl2
        · -- the next active one, or one behind it
          rcases hsuf with h | ⟨h0, r, hs⟩
          · rw [h] at hb; simp at hb
          · subst hs
            have hch : chained ops (some [h0]) r = true := by rw [hplan] at k10; exact chained_suf k10
            rcases List.mem_cons.1 hb with hb | hb
            · injection hb with hb1 hb2
              subst hb1 hb2
              obtain ⟨o, d', ho, hd', hkl⟩ := hrd
              have hdd : d' = d := by
                have : dstAt ops i = some d' := by simp [dstAt, ho, hd']
                rw [hd] at this; exact (Option.some.inj this).symm
              subst hdd
              refine wpOp_of_KL ho hd' (hag o ho) (C := fun v w' => ∃ s', s'.w = w' ∧ Step K s s' ∧ RD P n Df ops K Fin r ((d', v) :: ρ) s') ?_ hdn hkl ?_
              · rintro e ρ' w' ⟨e1, s', v, e2, e3, e4, e5⟩
                exact ⟨e1, v, e4, s', e2, e3, e5⟩
              · rintro v w' ⟨s', rfl, st, hr⟩
                have hnd2 : (pre.map (·.2) ++ i :: r.map (·.2)).Nodup := by rw [hplan] at hnodup; simpa using hnodup
                have hir : ∀ x ∈ r, x.2 ≠ i := by
                  intro x hx e
                  rw [List.nodup_append] at hnd2
                  have := (List.nodup_cons.1 hnd2.2.1).1
                  exact this (List.mem_map.2 ⟨x, hx, e⟩)
                have hprn : ∀ x ∈ pre, ∀ y, (y.2 = i ∨ y ∈ r) → x.2 ≠ y.2 := by
                  intro x hx y hy e
                  rw [List.nodup_append] at hnd2
                  refine hnd2.2.2 _ (List.mem_map.2 ⟨x, hx, rfl⟩) y.2 ?_ e
                  rcases hy with hy | hy
                  · simp [hy]
                  · exact List.mem_cons_of_mem _ (List.mem_map.2 ⟨y, hy, rfl⟩)
                have hold : ∀ t v', look ρ t = some v' → look ((d', v) :: ρ) t = some v' := by
                  intro t v' e
                  have : d' ≠ t := by
                    rintro rfl
                    rcases E3 _ v' e with h | ⟨x, hx, hxd⟩
                    · rw [hfr i him _ hd] at h; simp at h
                    · exact hdist x.2 i (hlt x (by rw [hplan]; simp [hx])) him (hprn x hx (true, i) (.inl rfl)) _ hxd hd
                  simp only [look]
                  have e' : Nat.beq d' t = false := by rw [← Bool.not_eq_true, Nat.beq_eq]; exact this
                  rw [e']; exact e
                obtain ⟨pre2, suf2, ρ2, q1, q2, q3, q4, q5, q6, q7⟩ := RD.peel (plan := r) (ρ := (d', v) :: ρ) (s := s') (fun x hx dx hdx => by
                    have hxm := hlt x (by rw [hplan]; simp [hx])
                    have hne : d' ≠ dx := by rintro rfl; exact hdist x.2 i hxm him (hir x hx) _ hdx hd
                    simp only [look]
                    have e' : Nat.beq d' dx = false := by rw [← Bool.not_eq_true, Nat.beq_eq]; exact hne
                    rw [e']
                    cases hl : look ρ dx with
                    | none => rfl
                    | some v' =>
                      exfalso
                      rcases E3 _ v' hl with h | ⟨y, hy, hyd⟩
                      · rw [hfr x.2 hxm _ hdx] at h; simp at h
                      · exact hdist y.2 x.2 (hlt y (by rw [hplan]; simp [hy])) hxm (hprn y hy x (.inr hx)) _ hyd hdx)
                  (fun x y hxy dx hdx => by
                    have hx : x ∈ r := hxy.subset (by simp)
                    have hy : y ∈ r := hxy.subset (by simp)
                    have hne : x.2 ≠ y.2 := by
                      have h4 := hxy.map (·.2)
                      rw [List.nodup_append] at hnd2
                      have h5 := h4.nodup (List.nodup_cons.1 hnd2.2.1).2
                      simpa using h5
                    exact hdist x.2 y.2 (hlt x (by rw [hplan]; simp [hx])) (hlt y (by rw [hplan]; simp [hy])) hne dx hdx) ((Step.refl s').of0 hK) hr
                have hρ2 : ∀ t v', look ρ t = some v' → look ρ2 t = some v' := fun t v' e => q5 t v' (hold t v' e)
                refine ih _ _ (pre ++ (true, i) :: pre2) suf2 ρ2 s' (by simpa using hsz) (by omega) (by rw [hplan, q1]; simp) q3 ?_ ?_ ?_ ?_ hdown2 (by simp [Act.put, hts]) (by simp [Act.put, hds]) ?_ ?_ ?_ ?_ q7
                · intro x hx hxf
                  rcases List.mem_append.1 hx with hx | hx
                  · exact (hkn x hx hxf).up st hρ2
                  · rcases List.mem_cons.1 hx with rfl | hx
                    · simp at hxf
                    · exact q4 x hx
                · intro x hx hxt
                  rw [hset]
                  rcases List.mem_append.1 hx with hx | hx
                  · split
                    · rfl
                    · exact hact x hx hxt
                  · rcases List.mem_cons.1 hx with rfl | hx
                    · simp
                    · have := q2 x hx; rw [hxt] at this; simp at this
                · intro x hx
                  have hxr : x ∈ r := by rw [q1]; simp [hx]
                  rw [hset, if_neg (fun e => hir x hxr e.symm)]
                  exact hun x (by simp [hxr])
                · intro j hj1 hj2
                  rw [hset, if_neg (by omega)]; exact hunt j hj1 hj2
                · intro t v' e
                  have : d' ≠ t := by rintro rfl; rw [hfr i him _ hd] at e; simp at e
                  rw [put_getD this]; exact E1 t v' e
                · intro x hx hlx d2 v' hd2 hl2
                  rcases List.mem_append.1 hx with hx | hx
                  · have hxm := hlt x (by rw [hplan]; simp [hx])
                    have hxi := hprn x hx (true, i) (.inl rfl)
                    simp only at hxi
                    have hne : d' ≠ d2 := by rintro rfl; exact hdist x.2 i hxm him hxi _ hd2 hd
                    rw [put_getD hne]
                    rw [hset, if_neg (fun e => hxi e.symm)] at hlx
                    obtain ⟨v2, hv2⟩ := E4 x hx d2 hd2
                    have := hρ2 d2 v2 hv2
                    rw [hl2] at this
                    have := Option.some.inj this
                    subst this
                    exact E2 x hx hlx d2 v' hd2 hv2
                  · rcases List.mem_cons.1 hx with rfl | hx
                    · rw [hd] at hd2
                      have := Option.some.inj hd2
                      subst this
                      have := q5 d' v (by simp [look])
                      rw [hl2] at this
                      have := Option.some.inj this
                      subst this
                      exact put_getD_self (by omega)
                    · exfalso
                      have hxr : x ∈ r := by rw [q1]; simp [hx]
                      rw [hset, if_neg (fun e => hir x hxr e.symm)] at hlx
                      have := hun x (by simp [hxr])
                      rw [hlx] at this; simp at this
                · intro t v' e
                  rcases q6 t v' e with h | ⟨x, hx, hxd⟩
                  · simp only [look] at h
                    by_cases e : d' = t
                    · subst e; exact .inr ⟨(true, i), by simp, hd⟩
                    · have e' : Nat.beq d' t = false := by rw [← Bool.not_eq_true, Nat.beq_eq]; exact e
                      rw [e'] at h
                      rcases E3 t v' h with h | ⟨x, hx, hxd⟩
                      · exact .inl h
                      · exact .inr ⟨x, by simp [hx], hxd⟩
                  · exact .inr ⟨x, by simp [hx], hxd⟩
                · intro x hx d2 hd2
                  rcases List.mem_append.1 hx with hx | hx
                  · obtain ⟨v2, hv2⟩ := E4 x hx d2 hd2
                    exact ⟨v2, hρ2 d2 v2 hv2⟩
                  · rcases List.mem_cons.1 hx with rfl | hx
                    · rw [hd] at hd2
                      have := Option.some.inj hd2
                      subst this
                      exact ⟨v, q5 d' v (by simp [look])⟩
                    · obtain ⟨o2, d3, c2, g1, g2, g3, _⟩ := q4 x hx
                      have : dstAt ops x.2 = some d3 := by simp [dstAt, g1, g2]
                      rw [hd2] at this
                      have := Option.some.inj this
                      subst this
                      exact ⟨c2, g3⟩
            · exfalso
              obtain ⟨j, hj, hjr⟩ := chained_mem (cur := [h0]) hch _ hb
              have hlj := h3 j hj
              rw [getD_any (c := true) (by have := hback i h1 j hj; omega)] at hlj
              have hju : listed.getD j true = false := by
                rcases hjr with h | h
                · have : j = h0 := by simpa using h
                  subst this
                  exact hun (true, j) (by simp)
                · obtain ⟨x, hx, rfl⟩ := List.mem_map.1 h
                  exact hun x (by simp [hx])
              rw [hju] at hlj; simp at hlj

end
end Go.Fw
