import Derived.Test.YtepifllifhikiaaDoorFwW
import Derived.Lib.LaidTab
set_option linter.unusedSimpArgs false
set_option linter.unusedVariables false
namespace Go.Fw
/-! tables of the library's, which are package-level variables that nobody writes -/
/-- The table of that name is there, and reads so. -/
def Tb (P : Program) (s : St) (name : String) (k : IntKind) (zs : List Int) : Prop := ∃ g, P.globalNamed name = some g ∧ g < s.n ∧ s.g g = L0 ∧ Lib.TabIs P s.w name k zs
theorem Tb.up2 {P : Program} {K : Lab → Prop} {s s' : St} {name : String} {k : IntKind} {zs : List Int} (h : Tb P s name k zs) (st : Step K s s') : Tb P s' name k zs := by
  obtain ⟨g, h1, h2, h3, h4⟩ := h
  have hk : ¬ K (s.g g) := by rw [h3]; exact st.imm 0
  obtain ⟨k1, k2⟩ := st.keep g h2 hk
  refine ⟨g, h1, Nat.lt_of_lt_of_le h2 st.size, k2.trans h3, ?_⟩
  unfold Lib.TabIs World.var? at *
  simp only [h1, Option.bind_some] at h4 ⊢
  rw [k1]; exact h4
theorem Tb.is {P : Program} {s : St} {name : String} {k : IntKind} {zs : List Int} (h : Tb P s name k zs) : Lib.TabIs P s.w name k zs := by obtain ⟨g, h1, h2, h3, h4⟩ := h; exact h4
/-- What a call of the library's leaves, that only makes new blocks. -/
theorem Ret.below {s : St} {φ : St → Value → Prop} {w' : World} {v : Value} (hb : Go.RowKit.Below s.w.heap.size s.w w') (h : ∀ s' : St, s'.w = w' → Step K0 s s' → φ s' v) : Ret s K0 φ (.returned v) w' :=
  have st : Step K0 s (s.to w' L0 (by simp)) := St.to_step hb.os hb.tape hb.output hb.size (fun b hb' _ => hb.block b hb') (fun _ h => h)
  ⟨s.to w' L0 (by simp), v, rfl, rfl, st, h _ rfl st⟩
end Go.Fw
