import Derived.Test.YtcagpghggohoiaaY02D
set_option linter.unusedSimpArgs false
set_option linter.unusedVariables false
namespace Go.Proofs
open Go.Fw


theorem RdO.ptr {s : St} {k : Nat} {p : Value} {w : Option Rd} (h : RdO s k p w) : ∃ a, p = .pointer a := by
  cases w with
  | none => exact ⟨_, h.1⟩
  | some l => obtain ⟨h0, h3, h4, b, v, e, h1, h2⟩ := h; exact ⟨_, e⟩
def errO : Option Rd → Int
  | none => 2
  | some r => if r.bad = true then 2 else 0
def failO (w : Option Rd) : Option Rd := w.map Rd.fail
def atO : Option Rd → Nat
  | none => 0
  | some r => r.pl
def takeO (w : Option Rd) (n : Int) : List UInt8 × Option Rd :=
  match w with
  | none => ([], none)
  | some r => ((r.take n).1, some (r.take n).2)
theorem Err_c {s : St} {k : Nat} {p : Value} {w : Option Rd} (h : RdO s k p w) : Calls Try.prog 27 #[p] s.w (Ret s K0 fun _ v => v = .int .i64 (errO w)) := by
  cases w with
  | none => obtain ⟨rfl, h0, hle⟩ := h; exact Err_nil
  | some r => obtain ⟨h0, h3, h4, b, v, rfl, h1, h2⟩ := h; exact Err_some h1
theorem At_c {s : St} {k : Nat} {p : Value} {w : Option Rd} (h : RdO s k p w) : Calls Try.prog 26 #[p] s.w (Ret s K0 fun _ v => v = .int .i64 (atO w : Int)) := by
  cases w with
  | none => obtain ⟨rfl, h0, hle⟩ := h; exact At_nil
  | some r => obtain ⟨h0, h3, h4, b, v, rfl, h1, h2⟩ := h; exact At_some h1
theorem Fail_c {s : St} {k : Nat} {p : Value} {w : Option Rd} (h : RdO s k p w) : Calls Try.prog 23 #[p] s.w (Ret s (KC k 0) fun s1 v => v = .tuple #[] ∧ RdO s1 k p (failO w)) := by
  cases w with
  | none =>
    obtain ⟨rfl, h0, hle⟩ := h
    refine Fail_nil.mono ?_
    rintro e w' ⟨s1, v1, rfl, rfl, st, rfl⟩
    exact Ret.mk (st.of0 (by intro c h; simp [KC] at h <;> omega)) ⟨rfl, rfl, h0, Nat.le_trans hle st.size⟩
  | some r =>
    obtain ⟨h0, h3, h4, b, v, rfl, h1, h2⟩ := h
    refine (Fail_some h0 h1).mono ?_
    rintro e w' ⟨s1, v1, rfl, rfl, st, rfl, g⟩
    exact Ret.mk st ⟨rfl, h0, h3, h4, b, v, rfl, g, h2.up st⟩



end Go.Proofs
