import Derived.Test.YtdofbkomeadjgaaGreatDoorFwArrTFwTail
set_option linter.unusedSimpArgs false
set_option linter.unusedVariables false
namespace Go.Fw
theorem lb {a b : Bool} (h : a = b := by first | exact dec_andT (by assumption) | exact dec_andF (by assumption) | exact dec_orF (by assumption) | exact dec_orT (by assumption) | exact decide_eq_decide.2 ⟨fun h => ⟨by assumption, h⟩, fun h => h.2⟩ | exact decide_eq_decide.2 ⟨Or.inr, fun h => h.resolve_left (by assumption)⟩ | exact (decide_eq_false (fun h => absurd h.1 (by assumption))).symm | exact (decide_eq_true (Or.inl (by assumption))).symm | (simp [*]; done) | (simp [*, i64] <;> omega)) : some (Value.bool a) = some (Value.bool b) := by rw [h]
theorem lz {p : Prop} (h : p := by first | (simp; done) | omega | (dsimp only; omega)) : p := h
theorem lo {p : Prop} (h : p := by first | omega | (simp <;> omega)) : p := h
theorem lr {p : Prop} (h : p := by first | rfl | (simp <;> rfl)) : p := h
theorem lq {p : Prop} (h : p := by first | rfl | (simp; done) | (simp; omega)) : p := h
theorem li {p : Prop} (h : p := by first | exact fun _ h => h | (intro c h; simp [KC, KO, KU, KN, KB] at h <;> omega)) : p := h
theorem lw {p : Prop} (h : p := by intro c h; (try simp only [KC, KO, KU, KN, KB] at h) <;> omega) : p := h
theorem la {p : Prop} (h : p := by first | assumption | omega | (dsimp only; omega) | (simp <;> omega)) : p := h
end Go.Fw
