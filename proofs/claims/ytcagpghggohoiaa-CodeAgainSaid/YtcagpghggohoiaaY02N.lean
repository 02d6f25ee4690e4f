import Derived.Test.YtcagpghggohoiaaY02M
set_option linter.unusedSimpArgs false
set_option linter.unusedVariables false
namespace Go.Proofs
open Go.Fw


set_option maxHeartbeats 2000000 in
set_option maxRecDepth 100000 in
theorem Clone_o {s : St} {l : Lab} {v : Value} {ds : List D} (h : SL s l v 1 ds) (hl : ds.length ≤ 140737488355328) : Calls Try.prog 36 #[v] s.w (Ret s (K0) (fun s1 v1 => ∃ k, s.n < k ∧ Own s1 ⟨k, 0⟩ 5 1 v1 ds)) := by
  have hS : Step (K0) s s := (Step.refl _).of0 (by first | exact fun _ h => h | (intro c h; simp [KC, KO] at h <;> omega))
  refine k_fn (rs := [2]) (args := [v]) Try.func36 rfl rfl rfl rfl ?_
  refine k_seq ?_
  refine k_region ?_
  refine k_assign rfl rfl ?_
  refine k_nil ?_
  refine k_seq ?_
  refine k_seq ?_
  refine k_region ?_
  refine k_move rfl rfl ?_
  first | refine k_eql_snil Try.underlying27 rfl rfl rfl ?_ | refine k_eql_snilv Try.underlying27 rfl rfl (by first | assumption | exact SL.of_R (by assumption) | exact Own.sl (by assumption)) rfl ?_
  refine k_nil ?_
  refine k_keep [(0, _), (2, _), (4, _)] ⟨rfl, rfl, rfl, trivial⟩ ?_
  first | refine k_cond_dec rfl (fun c4 => ?_) (fun c4 => ?_) | refine k_cond rfl (fun c4 => ?_) (fun c4 => ?_)
  · -- t4 True
    refine k_seq ?_
    refine k_region ?_
    refine k_assign rfl rfl ?_
    refine k_nil ?_
    refine k_keep [(0, _), (2, _)] ⟨rfl, rfl, trivial⟩ ?_
    refine k_ret ?_
    refine ⟨_, rfl, Ret.mk hS ?_⟩
    obtain rfl := h.nilS_nil c4
    exact ⟨s.n + 1, by omega, Own.nil (by simp) (Nat.le_refl _)⟩
  · -- t4 False
    refine k_skip ?_
    refine k_seq ?_
    refine k_region ?_
    refine k_bslice_own (ds := []) slc27 rfl RVs.nil rfl rfl rfl rfl ?_
    intro s5 v5 b5 st5 ge5 h5
    have hS := hS.trans0 st5
    replace h := h.up' st5 (by first | exact id | simp)
    refine k_move rfl rfl ?_
    first
    | refine k_append elem27 rfl rfl (by assumption) (by first | assumption | exact SL.of_R (by assumption) | exact Own.sl (by assumption)) (by first | omega | (simp; omega)) (by first | omega | (simp; omega)) rfl ?_
    | refine k_append_nil 1007 elem27 rfl rfl (by first | assumption | exact SL.of_R (by assumption) | exact Own.sl (by assumption)) (by first | omega | (simp; omega)) (by first | omega | (simp; omega)) rfl ?_
    intro s2 v7 sts2 h7
    have szs2 := sts2.size
    have hS : Step (K0) s s2 := by first | exact hS.trans0 sts2 | exact hS.transK sts2 | exact hS.transOC sts2 | (refine hS.transNewC sts2 ?_; first | omega | (dsimp only; omega)) | (refine hS.transNewO sts2 ?_; first | omega | (dsimp only; omega)) | (refine hS.transSub sts2 ?_; intro l hl; simp only [KC, KO] at hl ⊢; omega)
    try replace h := h.up' sts2
    refine k_assign rfl rfl ?_
    refine k_nil ?_
    refine k_keep [(2, _)] ⟨rfl, trivial⟩ ?_
    refine k_ret ?_
    refine ⟨_, rfl, Ret.mk hS ?_⟩
    have h7 : Own s2 ⟨b5 + 1, 0⟩ 5 1 v7 ds := by simpa using h7
    exact ⟨b5 + 1, by omega, h7⟩

set_option maxHeartbeats 2000000 in
set_option maxRecDepth 100000 in
theorem Bytes_o {s : St} {k b : Nat} {v : Value} {l : List UInt8} (hb : Blk s b ⟨k, 0⟩ [v] 65) (ho : Own s ⟨k, 1⟩ 5 1 v (Bs l)) (hsz : l.length ≤ 140737488355328) : Calls Try.prog 12 #[.pointer (some ⟨b, 0, none⟩)] s.w (Ret s (K0) (fun s1 v1 => ∃ k, s.n < k ∧ Own s1 ⟨k, 0⟩ 5 1 v1 (Bs l))) := by
  have hS : Step (K0) s s := (Step.refl _).of0 (by first | exact fun _ h => h | (intro c h; simp [KC, KO] at h <;> omega))
  refine k_fn (rs := [2]) (args := [.pointer (some ⟨b, 0, none⟩)]) Try.func12 rfl rfl rfl rfl ?_
  refine k_seq ?_
  refine k_region ?_
  refine k_assign rfl rfl ?_
  refine k_nil ?_
  refine k_seq ?_
  refine k_seq ?_
  refine k_region ?_
  refine k_move rfl rfl ?_
  refine k_eql_pnil Try.underlying24 rfl rfl rfl ?_
  refine k_as (v := .bool false) (by first | rfl | simp) ?_
  refine k_nil ?_
  refine k_keep [(0, _), (2, _), (4, _)] ⟨rfl, rfl, rfl, trivial⟩ ?_
  refine k_cond_false rfl ?_
  refine k_skip ?_
  refine k_seq ?_
  refine k_region ?_
  refine k_move rfl rfl ?_
  first | refine k_nilCheck rfl rfl ?_ | refine k_nilCheck_at rfl (by assumption) rfl ?_
  first | (refine k_field_addr fld65_0 rfl rfl ?_) | (refine k_field_at rfl (by assumption) (by rfl) fld65_0 rfl ?_; intro q7 h7)
  first | refine k_load_blk one27 rfl (by assumption) (by rfl) rfl ?_ | refine k_load_val one27 rfl (by assumption) rfl ?_ | (refine k_load_sl one27 rfl (by assumption) rfl ?_; intro v8 h8)
  refine k_call cal36 rfl (Clone_o (by first | assumption | exact SL.of_R (by assumption) | exact Own.sl (by assumption)) (by first | omega | decide | (simp; done) | (simp; omega) | (simp [wl]; omega))) rfl ?_
  rintro s1 v9 sts1 ⟨k9, hk9, h9⟩
  have szs1 := sts1.size
  have hS : Step (K0) s s1 := by first | exact hS.trans0 sts1 | exact hS.transK sts1 | exact hS.transOC sts1 | (refine hS.transNewC sts1 ?_; first | omega | (dsimp only; omega)) | (refine hS.transNewO sts1 ?_; first | omega | (dsimp only; omega)) | (refine hS.transSub sts1 ?_; intro l hl; simp only [KC, KO] at hl ⊢; omega)
  try replace hb := hb.up' sts1
  try replace ho := ho.up' sts1
  try replace h7 := h7.up' sts1
  try replace h8 := h8.up' sts1
  refine k_assign rfl rfl ?_
  refine k_nil ?_
  refine k_keep [(2, _)] ⟨rfl, trivial⟩ ?_
  refine k_ret ?_
  refine ⟨_, rfl, Ret.mk hS ?_⟩
  exact ⟨k9, by omega, h9⟩

set_option maxHeartbeats 2000000 in
set_option maxRecDepth 100000 in
theorem RUint_nil {s : St} : Calls Try.prog 21 #[.pointer none] s.w (Ret s (K0) (fun s1 v1 => v1 = .int .u64 0)) := by
  have hS : Step (K0) s s := (Step.refl _).of0 (by first | exact fun _ h => h | (intro c h; simp [KC, KO] at h <;> omega))
  refine k_fn (rs := [2]) (args := [.pointer none]) Try.func21 rfl rfl rfl rfl ?_
  refine k_seq ?_
  refine k_region ?_
  refine k_box rfl rfl ?_
  intro s1 b1 sts1 h1 ge1
  have szs1 := sts1.size
  have hS : Step (K0) s s1 := by first | exact hS.trans0 sts1 | exact hS.transK sts1 | exact hS.transOC sts1 | (refine hS.transNewC sts1 ?_; first | omega | (dsimp only; omega)) | (refine hS.transNewO sts1 ?_; first | omega | (dsimp only; omega)) | (refine hS.transSub sts1 ?_; intro l hl; simp only [KC, KO] at hl ⊢; omega)
  refine k_assign rfl rfl ?_
  refine k_nil ?_
  refine k_keep [(1, _), (2, _)] ⟨rfl, rfl, trivial⟩ ?_
  refine k_seq ?_
  refine k_region ?_
  first | refine k_load_blk one41 rfl (by assumption) (by rfl) rfl ?_ | refine k_load_val one41 rfl (by assumption) rfl ?_
  refine k_makeFunc rfl rfl rfl ?_
  refine k_call cal43 rfl (whole_uint64_out (k := b1 + 1) (w := none) ⟨rfl, by omega, by have := h1.own_le; simpa using this⟩ rfl) rfl ?_
  rintro s2 v5 sts2 rfl
  have szs2 := sts2.size
  have hS : Step (K0) s s2 := by first | exact hS.trans0 sts2 | exact hS.transK sts2 | exact hS.transOC sts2 | (refine hS.transNewC sts2 ?_; first | omega | (dsimp only; omega)) | (refine hS.transNewO sts2 ?_; first | omega | (dsimp only; omega)) | (refine hS.transSub sts2 ?_; intro l hl; simp only [KC, KO] at hl ⊢; omega)
  try replace h1 := h1.up' sts2
  refine k_assign rfl rfl ?_
  refine k_nil ?_
  refine k_keep [(2, _)] ⟨rfl, trivial⟩ ?_
  refine k_ret ?_
  refine ⟨_, rfl, Ret.mk hS ?_⟩
  rfl

set_option maxHeartbeats 2000000 in
set_option maxRecDepth 100000 in
theorem RText_nil {s : St} {most : Int} : Calls Try.prog 32 #[.pointer none, .int .i64 most] s.w (Ret s (K0) (fun s1 v1 => v1 = S [])) := by
  have hS : Step (K0) s s := (Step.refl _).of0 (by first | exact fun _ h => h | (intro c h; simp [KC, KO] at h <;> omega))
  refine k_fn (rs := [4]) (args := [.pointer none, .int .i64 most]) Try.func32 rfl rfl rfl rfl ?_
  refine k_seq ?_
  refine k_region ?_
  refine k_box rfl rfl ?_
  intro s1 b2 sts1 h2 ge2
  have szs1 := sts1.size
  have hS : Step (K0) s s1 := by first | exact hS.trans0 sts1 | exact hS.transK sts1 | exact hS.transOC sts1 | (refine hS.transNewC sts1 ?_; first | omega | (dsimp only; omega)) | (refine hS.transNewO sts1 ?_; first | omega | (dsimp only; omega)) | (refine hS.transSub sts1 ?_; intro l hl; simp only [KC, KO] at hl ⊢; omega)
  try have lt_h2_s2 := h2.lt
  refine k_box rfl rfl ?_
  intro s2 b3 sts2 h3 ge3
  have szs2 := sts2.size
  have hS : Step (K0) s s2 := by first | exact hS.trans0 sts2 | exact hS.transK sts2 | exact hS.transOC sts2 | (refine hS.transNewC sts2 ?_; first | omega | (dsimp only; omega)) | (refine hS.transNewO sts2 ?_; first | omega | (dsimp only; omega)) | (refine hS.transSub sts2 ?_; intro l hl; simp only [KC, KO] at hl ⊢; omega)
  try replace h2 := h2.up' sts2
  refine k_assign rfl rfl ?_
  refine k_nil ?_
  refine k_keep [(2, _), (3, _), (4, _)] ⟨rfl, rfl, rfl, trivial⟩ ?_
  refine k_seq ?_
  refine k_region ?_
  first | refine k_load_blk one41 rfl (by assumption) (by rfl) rfl ?_ | refine k_load_val one41 rfl (by assumption) rfl ?_
  refine k_makeFunc rfl rfl rfl ?_
  refine k_call cal54 rfl (whole_string_out (k := b3 + 1) (w := none) ⟨rfl, by omega, by have := h3.own_le; simpa using this⟩ rfl) rfl ?_
  rintro s3 v7 sts3 rfl
  have szs3 := sts3.size
  have hS : Step (K0) s s3 := by first | exact hS.trans0 sts3 | exact hS.transK sts3 | exact hS.transOC sts3 | (refine hS.transNewC sts3 ?_; first | omega | (dsimp only; omega)) | (refine hS.transNewO sts3 ?_; first | omega | (dsimp only; omega)) | (refine hS.transSub sts3 ?_; intro l hl; simp only [KC, KO] at hl ⊢; omega)
  try replace h2 := h2.up' sts3
  try replace h3 := h3.up' sts3
  refine k_assign rfl rfl ?_
  refine k_nil ?_
  refine k_keep [(4, _)] ⟨rfl, trivial⟩ ?_
  refine k_ret ?_
  refine ⟨_, rfl, Ret.mk hS ?_⟩
  rfl

end Go.Proofs
