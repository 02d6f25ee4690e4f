import Derived.Test.YtepifllifhikiaaDoorFwO
set_option linter.unusedSimpArgs false
set_option linter.unusedVariables false
namespace Go.Fw

theorem Step.transSub {K K' : Lab → Prop} {a b c : St} (h : Step K a b) (h' : Step K' b c) (hk : ∀ l, K' l → K l) : Step K a c := h.trans h' (fun _ _ h => hk _ h)

theorem Step.transOC {k o : Nat} {a b c : St} (h : Step (KO k) a b) (h' : Step (KC k o) b c) : Step (KO k) a c := h.transSub h' (fun l hl => hl.1)
theorem Step.transNewC {K : Lab → Prop} {o k : Nat} {a b c : St} (h : Step K a b) (h' : Step (KC o k) b c) (hn : a.n < o) : Step K a c := h.transNew h' (fun l hl => by have h1 : l.o = o := hl.1; omega)

theorem Step.transNewO {K : Lab → Prop} {o : Nat} {a b c : St} (h : Step K a b) (h' : Step (KO o) b c) (hn : a.n < o) : Step K a c := h.transNew h' (fun l hl => by have h1 : l.o = o := hl; omega)

section
variable {P : Program} {n : Nat} {Df : Md} {F : Post} {k : List It} {ρ : Env} {w : World}

theorem look_append {ρ1 ρ2 : Env} {t : Nat} {v : Value} (h : look (ρ1 ++ ρ2) t = some v) : look ρ1 t = some v ∨ look ρ2 t = some v := by
  induction ρ1 with
  | nil => exact .inr h
  | cons p r ih =>
    obtain ⟨u, x⟩ := p
    simp only [List.cons_append, look] at h ⊢
    cases e : Nat.beq u t with
    | true => rw [e] at h; exact .inl h
    | false => rw [e] at h; simp only [cond_false] at h ⊢; exact ih h
theorem Ag.sub2 {ρ1 ρ2 : Env} {a : Act} (ha : Ag n Df ρ a) (h1 : Sub ρ ρ1) (h2 : Sub ρ ρ2) : Ag n Df (ρ1 ++ ρ2) a :=
  ⟨ha.size, fun t v e => by
    rcases look_append e with h | h
    · exact ha.get t v (h1.look t v h)
    · exact ha.get t v (h2.look t v h), ha.defers⟩

/-- A loop: 'ρc' are the slots that no round writes, 'ρv' those that a round writes. -/
theorem k_loopc {X : Type} {body : Code} (ρc : Env) (ρv : X → Env) (inv : X → World → Prop) (μ : X → Nat) (x0 : X) (hc : Sub ρ ρc) (hv : Sub ρ (ρv x0)) (hi : inv x0 w)
    (round : ∀ x w, inv x w → G P n Df F (.code body :: .stop (fun ρ' w' => ∃ x', Sub ρ' (ρv x') ∧ Sub ρ' ρc ∧ inv x' w' ∧ μ x' < μ x) :: k) (ρv x ++ ρc) w) :
    G P n Df F (.code (.loop body) :: k) ρ w := by
  intro a ha
  refine wpIn_loop_ghost (fun m a w => ∃ x, Ag n Df (ρv x ++ ρc) a ∧ inv x w ∧ μ x = m) (μ x0) ⟨x0, ha.sub2 hv hc, hi, rfl⟩ ?_
  rintro m a w ⟨x, hag, hx, rfl⟩
  refine wpIn_mono (round x w hx a hag) ?_
  rintro e a' w' ⟨ρ', hag', hq⟩
  cases e with
  | normal => obtain ⟨x', h1, h1', h2, h3⟩ := hq; exact ⟨μ x', h3, x', hag'.sub2 h1 h1', h2, rfl⟩
  | exit i => exact ⟨ρ', hag', hq⟩
  | goto l => exact ⟨ρ', hag', hq⟩
  | ret => exact ⟨ρ', hag', hq⟩
  | panic ch => exact ⟨ρ', hag', hq⟩
  | outgrown => exact ⟨ρ', hag', hq⟩

/-- Ways that meet again. -/
theorem k_cutc {X : Type} {c c2 : Code} {k : List It} (ρc : Env) (ρv : X → Env) (inv : X → World → Prop) (h1 : G P n Df F (.code c :: .stop (fun ρ' w' => ∃ x', Sub ρ' (ρv x') ∧ Sub ρ' ρc ∧ inv x' w') :: .code c2 :: k) ρ w)
    (h2 : ∀ x w, inv x w → G P n Df F (.code c2 :: k) (ρv x ++ ρc) w) : G P n Df F (.code c :: .code c2 :: k) ρ w :=
  k_cut _ h1 (fun ρ' w' ⟨x', q1, q2, q3⟩ a ha => h2 x' w' q3 a (ha.sub2 q1 q2))

end
end Go.Fw
