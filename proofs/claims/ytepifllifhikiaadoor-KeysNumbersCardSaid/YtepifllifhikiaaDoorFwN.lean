import Derived.Test.YtepifllifhikiaaDoorFwM
set_option linter.unusedSimpArgs false
set_option linter.unusedVariables false
namespace Go.Fw

section
variable {P : Program} {n : Nat} {Df : Md} {F : Post} {k : List It} {ρ : Env} {s : St}

/-- A region whose order is open. -/
theorem k_draw {id : Nat} {l : List Oper} (K : Lab → Prop) (m : Nat) (plan : List (Bool × Nat)) (hm : P.follows .mixedOrders = true) (hK : ∀ c, ¬ K ⟨0, c⟩) (hok : planOk l.toArray n m plan = true) (hf : freshOk l.toArray m ρ = true)
    (h : ∀ s1, Step K0 s s1 → RD P n Df l.toArray K (fun ρ' s' => KL P n Df l.toArray (Qs P n Df F k) (l.drop m) ρ' s'.w) plan ρ s1) : G P n Df F (.code (.region id l.toArray true) :: k) ρ s.w := by
  intro a ha
  let s1 : St := ⟨{ s.w with drawn := s.w.drawn + 1 }, s.g, s.wf⟩
  have st : Step K0 s s1 := ⟨rfl, rfl, rfl, Nat.le_refl _, fun _ _ _ => ⟨rfl, rfl⟩, fun _ h => h⟩
  refine wpIn_region_any hm ?_
  have hok' := hok
  simp only [planOk, Bool.and_eq_true] at hok'
  obtain ⟨⟨⟨⟨⟨⟨⟨⟨⟨k1, k2⟩, k3⟩, k4⟩, k5⟩, k6⟩, k7⟩, k8⟩, k9⟩, k10⟩ := hok'
  have hlt : ∀ x ∈ plan, x.2 < m := by
    intro x hx
    have := List.all_eq_true.1 k3 x hx
    simpa using this
  have hmle : m ≤ l.toArray.size := by simpa using k1
  have hfr : ∀ i, i < m → ∀ d, dstAt l.toArray i = some d → look ρ d = none := by
    intro i hi d hd
    have := List.all_eq_true.1 hf i (List.mem_range.2 hi)
    rw [hd] at this
    simpa using this
  have hdist : ∀ i j, i < m → j < m → i ≠ j → ∀ d, dstAt l.toArray i = some d → dstAt l.toArray j ≠ some d := by
    intro i j hi hj hne d hd hd'
    have := List.all_eq_true.1 (List.all_eq_true.1 k8 i (List.mem_range.2 hi)) j (List.mem_range.2 hj)
    simp only [Bool.or_eq_true, Nat.beq_eq, bne_iff_ne, ne_eq] at this
    rcases this with h | h
    · exact hne h
    · exact h (hd.trans hd'.symm)
  have hnodup : (plan.map (·.2)).Nodup := by simpa using k9
  obtain ⟨pre, suf, ρ', q1, q2, q3, q4, q5, q6, q7⟩ := RD.peel (fun x hx d hd => hfr x.2 (hlt x hx) d hd) (fun x y hxy d hd => by
      have hx : x ∈ plan := hxy.subset (by simp)
      have hy : y ∈ plan := hxy.subset (by simp)
      have hne : x.2 ≠ y.2 := by
        have h5 := (hxy.map (·.2)).nodup hnodup
        simpa using h5
      exact hdist x.2 y.2 (hlt x hx) (hlt y hy) hne d hd) ((Step.refl s1).of0 hK) (h s1 st)
  have hfalse : ∀ i, (Array.replicate l.toArray.size false).getD i true = true → l.toArray.size ≤ i := by
    intro i hi
    rcases Nat.lt_or_ge i l.toArray.size with h | h
    · have h' : i < l.length := by simpa using h
      simp [Array.getD_eq_getD_getElem?, h'] at hi
    · exact h
  have hfalse' : ∀ i, i < l.toArray.size → (Array.replicate l.toArray.size false).getD i true = false := by
    intro i h
    have h' : i < l.length := by simpa using h
    simp [Array.getD_eq_getD_getElem?, h']
  refine draw_sim hK hok hf (fun ρ s a hF ha => ?_) l.toArray.size (Array.replicate l.toArray.size false) a pre suf ρ' s1 (by simp) ?_ q1 q3 (fun x hx _ => q4 x hx) (fun x hx hxt => ?_) (fun x hx => ?_) (fun i h1 h2 => hfalse' i h2) (fun i hi hl => by rw [hfalse' i hi] at hl; simp at hl) ha.size ha.defers (fun t v e => ha.get t v e) ?_ q6 ?_ q7
  · simpa using hF a ha
  · have : (List.range m).countP (fun i => !(Array.replicate l.toArray.size false).getD i true) ≤ m := by
      have := List.countP_le_length (p := fun i => !(Array.replicate l.toArray.size false).getD i true) (l := List.range m)
      simpa using this
    omega
  · rw [q2 x hx] at hxt; simp at hxt
  · exact hfalse' _ (Nat.lt_of_lt_of_le (hlt x (by rw [q1]; simp [hx])) hmle)
  · intro x hx hlx
    have := hfalse _ hlx
    have := hlt x (by rw [q1]; simp [hx])
    omega
  · intro x hx d hd
    obtain ⟨o, d', c, g1, g2, g3, _⟩ := q4 x hx
    have : dstAt l.toArray x.2 = some d' := by simp [dstAt, g1, g2]
    rw [hd] at this
    have := Option.some.inj this
    subst this
    exact ⟨c, g3⟩

/-! the steps of a region whose order is open -/
variable {ops : Array Oper} {K : Lab → Prop} {Fin : Env → St → Prop} {r : List (Bool × Nat)} {i : Nat}

theorem rd_nil (h : Fin ρ s) : RD P n Df ops K Fin [] ρ s := h
/-- One that only reads. -/
theorem rd_read {o : Oper} {d : Nat} (c : Value) (ho : ops[i]? = some o) (hd : o.dst = some d) (h : ∀ s', Step K s s' → KL P n Df ops (FQ d c s'.w) [o] (rst ρ (o.looksAt ops)) s'.w) (hr : RD P n Df ops K Fin r ((d, c) :: ρ) s) :
    RD P n Df ops K Fin ((false, i) :: r) ρ s := ⟨o, d, c, ho, hd, h, hr⟩
theorem fq_end {d : Nat} {c : Value} {w : World} : KL P n Df ops (FQ d c w) [] ((d, c) :: ρ) w := fun a ha => ⟨_, ha, rfl, rfl, by simp [look]⟩
/-- One that acts. -/
theorem rd_act {o : Oper} {d : Nat} (ho : ops[i]? = some o) (hd : o.dst = some d)
    (h : KL P n Df ops (fun e ρ' w' => e = .normal ∧ ∃ s' v, s'.w = w' ∧ Step K s s' ∧ look ρ' d = some v ∧ RD P n Df ops K Fin r ((d, v) :: ρ) s') [o] (rst ρ (o.looksAt ops)) s.w) :
    RD P n Df ops K Fin ((true, i) :: r) ρ s := ⟨o, d, ho, hd, h⟩
theorem rd_cont {d : Nat} {v : Value} {ρr : Env} {s s' : St} (st : Step K s s') (h : RD P n Df ops K Fin r ((d, v) :: ρ) s') :
    KL P n Df ops (fun e ρ' w' => e = .normal ∧ ∃ s' v, s'.w = w' ∧ Step K s s' ∧ look ρ' d = some v ∧ RD P n Df ops K Fin r ((d, v) :: ρ) s') [] ((d, v) :: ρr) s'.w :=
  fun a ha => ⟨_, ha, rfl, s', v, rfl, st, by simp [look], h⟩
/-- A bool that is not yet known. -/
theorem rd_split {t : Nat} {p : Prop} [inst : Decidable p] {L : List (Bool × Nat)} (ht : p → RD P n Df ops K Fin L ((t, .bool true) :: ρ) s) (hf : ¬ p → RD P n Df ops K Fin L ((t, .bool false) :: ρ) s) : RD P n Df ops K Fin L ((t, .bool (decide p)) :: ρ) s := by
  by_cases hp : p
  · rw [decide_eq_true hp]; exact ht hp
  · rw [decide_eq_false hp]; exact hf hp
theorem rd_splitb {t : Nat} {b : Bool} {L : List (Bool × Nat)} (ht : b = true → RD P n Df ops K Fin L ((t, .bool true) :: ρ) s) (hf : b = false → RD P n Df ops K Fin L ((t, .bool false) :: ρ) s) : RD P n Df ops K Fin L ((t, .bool b) :: ρ) s := by
  cases b
  · exact hf rfl
  · exact ht rfl

end
end Go.Fw
