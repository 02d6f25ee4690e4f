import Derived.Test.YtdofbkomeadjgaaDoorP06D
set_option linter.unusedVariables false
set_option linter.unusedSimpArgs false
namespace Go.Proofs
open Go.Fw
set_option maxRecDepth 100000 in
theorem awake_true : law06_awake = some true := by
  decide +kernel
end Go.Proofs

set_option linter.unusedVariables false
set_option linter.unusedSimpArgs false
namespace Go.Proofs
open Go.Fw
/-! Small tools. -/
theorem i64_id {p : Int} (h0 : -9223372036854775808 ≤ p) (h1 : p ≤ 9223372036854775807) : i64 p = p := i64_eq h0 h1
theorem jn_eq' {α β : Type} (f : α) (g : α → β) : jn f g = g f := by unfold jn; exact id rfl
theorem geti_nat {α : Type} (l : List α) (k : Nat) : geti l (k : Int) = l[k]? := by
  unfold geti
  rw [if_pos (by omega)]
  simp
theorem app_ok2 {α : Type} {cap : Nat} (a b : List α) (h : a.length + b.length ≤ cap) : app cap a b = some (a ++ b) := by
  unfold app
  rw [if_pos h]
abbrev M63 : Nat := 9223372036854775807
theorem FU_M : M63 + 1000 < FU := Nat.lt_of_lt_of_le (by decide) FU_ge
theorem nxt {k n : Nat} (h : k < n) (hn : n ≤ M63) : i64 ((k : Int) + 1) = ((k + 1 : Nat) : Int) := by
  rw [i64_id (by omega) (by have : n ≤ 9223372036854775807 := hn; omega)]; rfl
/-! Chains. -/
theorem may_eq2 (a : ApiRev) : ∃ b, rev_May a = some b ∧ ref06_May a = some b := ⟨_, rfl, by unfold ref06_May; exact congrArg some (decide_eq_decide.2 (by omega))⟩
theorem chain_run {a : List ApiRev} (hl : a.length ≤ 1000) {kj kj2 : Unit → Option Bool} : ∀ (J k : Nat), k ≤ a.length → a.length - k < J →
    ∃ b : Bool, rev_Chain_l1 a kj J (k : Int) = (if b = true then kj () else some false) ∧ ref06_Chain_l1 a kj2 J (k : Int) = (if b = true then kj2 () else some false)
  | 0, k, _, h => by omega
  | J + 1, k, h1, h2 => by
    have hM : M63 = 9223372036854775807 := rfl
    rw [rev_Chain_l1, ref06_Chain_l1]
    by_cases c : k < a.length
    · obtain ⟨m, e1, e2⟩ := may_eq2 a[k]
      rw [if_pos (by omega), if_pos (by omega), geti_nat, List.getElem?_eq_getElem c]
      simp only [Option.bind_some, e1, e2]
      cases m with
      | false => exact ⟨false, by simp, by simp⟩
      | true =>
        simp only [Bool.not_true, Bool.false_eq_true, if_false]
        by_cases c0 : k = 0
        · rw [if_neg (by omega), if_neg (by omega), nxt c (by omega)]
          exact chain_run hl J (k + 1) (by omega) (by omega)
        · have hlt : k - 1 < a.length := by omega
          have ei : i64 ((k : Int) - 1) = ((k - 1 : Nat) : Int) := by rw [i64_id (by omega) (by omega)]; omega
          rw [if_pos (by omega), if_pos (by omega), ei, geti_nat, List.getElem?_eq_getElem hlt]
          simp only [Option.bind_some]
          by_cases e : ((ofI64 ((a[k].Gen.toNat : Int) + 1)).toNat : Int) = (a[k - 1].Gen.toNat : Int)
          · rw [if_neg (by omega), if_neg (by omega), nxt c (by omega)]
            exact chain_run hl J (k + 1) (by omega) (by omega)
          · rw [if_pos e, if_pos (by omega)]
            exact ⟨false, by simp, by simp⟩
    · rw [if_neg (by omega), if_neg (by omega)]
      exact ⟨true, by simp, by simp⟩
theorem RevChain_pure (l : List ApiRev) : law06_RevChain l = some true := by
  unfold law06_RevChain
  by_cases c : 60 < (l.length : Int)
  · rw [if_pos c, awake_true]; rfl
  · rw [if_neg c, app_ok2 _ _ (by simp; omega), Option.bind_some, List.nil_append]
    have hF := FU_M
    have hM : M63 = 9223372036854775807 := rfl
    unfold rev_Chain ref06_Chain
    rw [jn_eq', jn_eq', show (0 : Int) = ((0 : Nat) : Int) from rfl]
    obtain ⟨b, e1, e2⟩ := chain_run (a := l) (by omega) (kj := fun _ => some (decide ((1 ≤ (l.length : Int)) ∧ ((l.length : Int) ≤ 16)))) (kj2 := fun _ => some (decide ((((0 : Nat) : Int) < (l.length : Int)) ∧ ((l.length : Int) < 17)))) FU 0 (by omega) (by omega)
    rw [e1, e2]
    have e : decide ((1 ≤ (l.length : Int)) ∧ ((l.length : Int) ≤ 16)) = decide ((((0 : Nat) : Int) < (l.length : Int)) ∧ ((l.length : Int) < 17)) := decide_eq_decide.2 (by omega)
    cases b with
    | false => simp only [Bool.false_eq_true, if_false, Option.bind_some, beq_self_eq_true, if_true, awake_true]
    | true => simp only [if_true, Option.bind_some, e, beq_self_eq_true, awake_true]
end Go.Proofs
