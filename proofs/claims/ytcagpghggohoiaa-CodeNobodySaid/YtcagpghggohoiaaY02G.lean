import Derived.Test.YtcagpghggohoiaaY02F
set_option linter.unusedSimpArgs false
set_option linter.unusedVariables false
namespace Go.Proofs
open Go.Fw
theorem cal43 : Callable Try.prog 43 := ⟨_, Try.func43, by kernel_rfl, by kernel_rfl⟩

set_option maxHeartbeats 2000000 in
set_option maxRecDepth 100000 in
theorem RUint_c {s : St} {k : Nat} {p : Value} {w : Option Rd} (hw : RdO s k p w) : Calls Try.prog 21 #[p] s.w (Ret s (KC k 0) (fun s1 v1 => v1 = .int .u64 ((optR 0 Rd.uint w).1 : Int) ∧ RdO s1 k p (optR 0 Rd.uint w).2)) := by
  have hkn := hw.ne
  have hkl := hw.le
  obtain ⟨pa, rfl⟩ := hw.ptr
  have hS : Step (KC k 0) s s := (Step.refl _).of0 (by first | exact fun _ h => h | (intro c h; simp [KC, KO] at h <;> omega))
  refine k_fn (rs := [2]) (args := [.pointer pa]) Try.func21 rfl rfl rfl rfl ?_
  refine k_seq ?_
  refine k_region ?_
  try have lt_hw_s1 := hw.lt
  refine k_box rfl rfl ?_
  intro s1 b1 sts1 h1 ge1
  have szs1 := sts1.size
  have hS : Step (KC k 0) s s1 := by first | exact hS.trans0 sts1 | exact hS.transK sts1 | exact hS.transOC sts1 | (refine hS.transNewC sts1 ?_; first | omega | (dsimp only; omega)) | (refine hS.transNewO sts1 ?_; first | omega | (dsimp only; omega)) | (refine hS.transSub sts1 ?_; intro l hl; simp only [KC, KO] at hl ⊢; omega)
  try replace hw := hw.up' sts1
  refine k_assign rfl rfl ?_
  refine k_nil ?_
  refine k_keep [(1, _), (2, _)] ⟨rfl, rfl, trivial⟩ ?_
  refine k_seq ?_
  refine k_region ?_
  first | refine k_load_blk one41 rfl (by assumption) (by rfl) rfl ?_ | refine k_load_val one41 rfl (by assumption) rfl ?_
  refine k_makeFunc rfl rfl rfl ?_
  refine k_call cal43 rfl (whole_uint64_c (by assumption) (by assumption) (by simp; omega)) rfl ?_
  rintro s2 v5 sts2 ⟨rfl, hw⟩
  have szs2 := sts2.size
  have hS : Step (KC k 0) s s2 := by first | exact hS.trans0 sts2 | exact hS.transK sts2 | exact hS.transOC sts2 | (refine hS.transNewC sts2 ?_; first | omega | (dsimp only; omega)) | (refine hS.transNewO sts2 ?_; first | omega | (dsimp only; omega)) | (refine hS.transSub sts2 ?_; intro l hl; simp only [KC, KO] at hl ⊢; omega)
  try replace hw := hw.up' sts2
  try replace h1 := h1.up' sts2
  refine k_assign rfl rfl ?_
  refine k_nil ?_
  refine k_keep [(2, _)] ⟨rfl, trivial⟩ ?_
  refine k_ret ?_
  refine ⟨_, rfl, Ret.mk hS ?_⟩
  exact ⟨rfl, hw⟩

theorem RUint_some {s : St} {k : Nat} {p : Value} {r r1 : Rd} {x1 : Nat} (h : RdO s k p (some r)) (e : r.uint = (x1, r1)) : Calls Try.prog 21 #[p] s.w (Ret s (KC k 0) fun s1 v1 => v1 = .int .u64 (x1 : Int) ∧ RdO s1 k p (some r1)) := by
  have := RUint_c h
  simp only [optR, e] at this
  exact this
theorem Fail_some2 {s : St} {k : Nat} {p : Value} {r : Rd} (h : RdO s k p (some r)) : Calls Try.prog 23 #[p] s.w (Ret s (KC k 0) fun s1 v => v = .tuple #[] ∧ RdO s1 k p (some r.fail)) := Fail_c h
theorem take_some {s : St} {k : Nat} {p : Value} {r r1 : Rd} {l : List UInt8} {n : Int} (h : RdO s k p (some r)) (e : r.take n = (l, r1)) : Calls Try.prog 46 #[p, .int .i64 n] s.w (Ret s (KC k 0) fun s1 v => R s1 v (.sl 1 (Bs l)) ∧ RdO s1 k p (some r1)) := by
  have := take_c (n := n) h
  simp only [takeO, e] at this
  exact this

end Go.Proofs
