import Derived.Test.YtcagpghggohoiaaY02G
set_option linter.unusedSimpArgs false
set_option linter.unusedVariables false
namespace Go.Proofs
open Go.Fw
theorem cal21 : Callable Try.prog 21 := ⟨_, Try.func21, by kernel_rfl, by kernel_rfl⟩
theorem cal55 : Callable Try.prog 55 := ⟨_, Try.func55, by kernel_rfl, by kernel_rfl⟩
theorem cal60 : Callable Try.prog 60 := ⟨_, Try.func60, by kernel_rfl, by kernel_rfl⟩
theorem one9 : oneT Try.prog 9 = true := by kernel_rfl
theorem size9 : sizeT Try.prog 9 1 = true := by kernel_rfl
theorem zero9 : zeroT Try.prog 9 = some (S []) := by kernel_rfl

set_option maxHeartbeats 2000000 in
set_option maxRecDepth 100000 in
theorem Text1_c {s : St} {k b2 b3 : Nat} {p : Value} {l2 l3 : Lab} {r : Rd} {most : Int} (hw : RdO s k p (some r)) (h2 : Blk s b2 l2 [p] 41) (hl2 : l2.o ≠ k) (h3 : Blk s b3 l3 [.int .i64 most] 3) (hl3 : l3.o ≠ k) (hmo : most < 9223372036854775808) : Calls Try.prog 55 #[.pointer (some ⟨b2, 0, none⟩), .pointer (some ⟨b3, 0, none⟩)] s.w (Ret s (KC k 0) (fun s1 v1 => v1 = S (r.text1 most).1 ∧ RdO s1 k p (some (r.text1 most).2))) := by
  have hkn := hw.ne
  obtain ⟨pa, rfl⟩ := hw.ptr
  obtain ⟨x1, r1, e1⟩ : ∃ x1 r1, r.uint = (x1, r1) := ⟨_, _, rfl⟩
  obtain ⟨l2, r2, e2⟩ : ∃ l2 r2, r1.take (x1 : Int) = (l2, r2) := ⟨_, _, rfl⟩
  have eu : r.text1 most = if most < 0 ∨ (x1 : Int) > most then ([], r1.fail) else (l2, r2) := by simp only [Rd.text1, e1, e2]
  have hS : Step (KC k 0) s s := (Step.refl _).of0 (by first | exact fun _ h => h | (intro c h; simp [KC, KO] at h <;> omega))
  refine k_fn (rs := [2]) (args := [.pointer (some ⟨b2, 0, none⟩), .pointer (some ⟨b3, 0, none⟩)]) Try.func55 rfl rfl rfl rfl ?_
  refine k_seq ?_
  refine k_region ?_
  refine k_assign rfl rfl ?_
  refine k_nil ?_
  refine k_seq ?_
  refine k_region ?_
  first | refine k_load_blk one41 rfl (by assumption) (by rfl) rfl ?_ | refine k_load_val one41 rfl (by assumption) rfl ?_
  refine k_call cal21 rfl (RUint_some (by assumption) e1) rfl ?_
  rintro s1 v5 sts1 ⟨rfl, hw⟩
  have szs1 := sts1.size
  have hS : Step (KC k 0) s s1 := by first | exact hS.trans0 sts1 | exact hS.transK sts1 | exact hS.transOC sts1 | (refine hS.transNewC sts1 ?_; first | omega | (dsimp only; omega)) | (refine hS.transNewO sts1 ?_; first | omega | (dsimp only; omega)) | (refine hS.transSub sts1 ?_; intro l hl; simp only [KC, KO] at hl ⊢; omega)
  try replace hw := hw.up' sts1
  try replace h2 := h2.up' sts1
  try replace h3 := h3.up' sts1
  refine k_assign rfl rfl ?_
  refine k_nil ?_
  refine k_keep [(0, _), (1, _), (2, _), (3, _)] ⟨rfl, rfl, rfl, rfl, trivial⟩ ?_
  refine k_seq ?_
  refine k_seq ?_
  refine k_region ?_
  first | refine k_load_blk one3 rfl (by assumption) (by rfl) rfl ?_ | refine k_load_val one3 rfl (by assumption) rfl ?_
  refine k_lss rfl rfl rfl ?_
  refine k_move rfl rfl ?_
  first | refine k_split (fun c8 => ?_) (fun c8 => ?_) | refine k_splitb (fun c8 => ?_) (fun c8 => ?_)
  · -- t8 True
    refine k_no rfl rfl rfl rfl ?_
    refine k_no rfl rfl rfl rfl ?_
    refine k_no rfl rfl rfl rfl ?_
    refine k_no rfl rfl rfl rfl ?_
    refine k_pickT rfl rfl rfl rfl ?_
    refine k_nil ?_
    refine k_keep [(0, _), (2, _), (3, _), (13, _)] ⟨rfl, rfl, rfl, rfl, trivial⟩ ?_
    refine k_cond_true rfl ?_
    refine k_seq ?_
    refine k_region ?_
    first | refine k_load_blk one41 rfl (by assumption) (by rfl) rfl ?_ | refine k_load_val one41 rfl (by assumption) rfl ?_
    refine k_call cal23 rfl (Fail_some2 (by assumption)) rfl ?_
    rintro s2 v15 sts2 ⟨rfl, hw⟩
    have szs2 := sts2.size
    have hS : Step (KC k 0) s s2 := by first | exact hS.trans0 sts2 | exact hS.transK sts2 | exact hS.transOC sts2 | (refine hS.transNewC sts2 ?_; first | omega | (dsimp only; omega)) | (refine hS.transNewO sts2 ?_; first | omega | (dsimp only; omega)) | (refine hS.transSub sts2 ?_; intro l hl; simp only [KC, KO] at hl ⊢; omega)
    try replace hw := hw.up' sts2
    try replace h2 := h2.up' sts2
    try replace h3 := h3.up' sts2
    try replace hw := hw.up' sts2
    refine k_nil ?_
    refine k_keep [(0, _), (2, _), (3, _)] ⟨rfl, rfl, rfl, trivial⟩ ?_
    refine k_seq ?_
    refine k_region ?_
    refine k_assign rfl rfl ?_
    refine k_nil ?_
    refine k_ret ?_
    refine ⟨_, rfl, Ret.mk hS ?_⟩
    first | (rw [eu, if_pos (by omega)]; exact ⟨rfl, hw⟩) | (rw [eu, if_neg (by omega)]; exact ⟨rfl, hw⟩)
  · -- t8 False
    refine k_yes rfl rfl ?_
    refine k_move rfl rfl ?_
    refine k_yes rfl rfl ?_
    first | refine k_load_blk one3 rfl (by assumption) (by rfl) rfl ?_ | refine k_load_val one3 rfl (by assumption) rfl ?_
    refine k_yes rfl rfl ?_
    first | refine k_convN Try.underlying3 Try.underlying29 rfl (wrap_u64 (by omega) (by omega)) rfl ?_ | refine k_conv_u64 Try.underlying3 Try.underlying29 rfl rfl ?_ | refine k_conv Try.underlying3 Try.underlying29 rfl rfl ?_
    refine k_yes rfl rfl ?_
    refine k_gtr rfl rfl rfl ?_
    refine k_pickF rfl rfl rfl rfl ?_
    refine k_nil ?_
    refine k_keep [(0, _), (2, _), (3, _), (13, _)] ⟨rfl, rfl, rfl, rfl, trivial⟩ ?_
    first | refine k_cond_dec rfl (fun c13 => ?_) (fun c13 => ?_) | refine k_cond rfl (fun c13 => ?_) (fun c13 => ?_)
    · -- t13 True
      refine k_seq ?_
      refine k_region ?_
      first | refine k_load_blk one41 rfl (by assumption) (by rfl) rfl ?_ | refine k_load_val one41 rfl (by assumption) rfl ?_
      refine k_call cal23 rfl (Fail_some2 (by assumption)) rfl ?_
      rintro s4 v15 sts4 ⟨rfl, hw⟩
      have szs4 := sts4.size
      have hS : Step (KC k 0) s s4 := by first | exact hS.trans0 sts4 | exact hS.transK sts4 | exact hS.transOC sts4 | (refine hS.transNewC sts4 ?_; first | omega | (dsimp only; omega)) | (refine hS.transNewO sts4 ?_; first | omega | (dsimp only; omega)) | (refine hS.transSub sts4 ?_; intro l hl; simp only [KC, KO] at hl ⊢; omega)
      try replace hw := hw.up' sts4
      try replace h2 := h2.up' sts4
      try replace h3 := h3.up' sts4
      try replace hw := hw.up' sts4
      refine k_nil ?_
      refine k_keep [(0, _), (2, _), (3, _)] ⟨rfl, rfl, rfl, trivial⟩ ?_
      refine k_seq ?_
      refine k_region ?_
      refine k_assign rfl rfl ?_
      refine k_nil ?_
      refine k_ret ?_
      refine ⟨_, rfl, Ret.mk hS ?_⟩
      first | (rw [eu, if_pos (by omega)]; exact ⟨rfl, hw⟩) | (rw [eu, if_neg (by omega)]; exact ⟨rfl, hw⟩)
    · -- t13 False
      refine k_skip ?_
      refine k_seq ?_
      refine k_region ?_
      first | refine k_load_blk one41 rfl (by assumption) (by rfl) rfl ?_ | refine k_load_val one41 rfl (by assumption) rfl ?_
      refine k_move rfl rfl ?_
      first | refine k_convN Try.underlying29 Try.underlying3 rfl (wrap_i64 (by omega) (by omega)) rfl ?_ | refine k_conv Try.underlying29 Try.underlying3 rfl rfl ?_
      refine k_call cal46 rfl (take_some (by assumption) e2) rfl ?_
      rintro s5 v19 sts5 ⟨h19, hw⟩
      have szs5 := sts5.size
      have hS : Step (KC k 0) s s5 := by first | exact hS.trans0 sts5 | exact hS.transK sts5 | exact hS.transOC sts5 | (refine hS.transNewC sts5 ?_; first | omega | (dsimp only; omega)) | (refine hS.transNewO sts5 ?_; first | omega | (dsimp only; omega)) | (refine hS.transSub sts5 ?_; intro l hl; simp only [KC, KO] at hl ⊢; omega)
      try replace hw := hw.up' sts5
      try replace h2 := h2.up' sts5
      try replace h3 := h3.up' sts5
      try replace hw := hw.up' sts5
      refine k_bts Try.underlying27 Try.underlying5 Try.underlying9 rfl (by first | assumption | exact SL.of_R (by assumption) | exact Own.sl (by assumption)) rfl ?_
      refine k_assign rfl rfl ?_
      refine k_nil ?_
      refine k_keep [(2, _)] ⟨rfl, trivial⟩ ?_
      refine k_ret ?_
      refine ⟨_, rfl, Ret.mk hS ?_⟩
      first | (rw [eu, if_pos (by omega)]; exact ⟨rfl, hw⟩) | (rw [eu, if_neg (by omega)]; exact ⟨rfl, hw⟩)

set_option maxHeartbeats 2000000 in
set_option maxRecDepth 100000 in
theorem whole1_string_bad {s : St} {k b a q b1 b3 b4 : Nat} {v x0 : Value} {f : Int} {l1 l3 : Lab} (hk : k ≠ 0) (hq : q ≠ 0) (hqk : q ≠ k) (hb : Blk s b ⟨k, 0⟩ [v, .int .i64 (a : Int), .bool true] 56) (h1 : Blk s b1 l1 [.pointer (some ⟨b, 0, none⟩)] 41) (h3 : Blk s b3 l3 [.int .i64 f] 3) (h4 : Blk s b4 ⟨q, 0⟩ [x0] 9) (h1k : l1.o ≠ k ∧ l3.o ≠ k) : CallsD Try.prog 60 #[.pointer (some ⟨b1, 0, none⟩), .pointer (some ⟨b3, 0, none⟩), .pointer (some ⟨b4, 0, none⟩)] .returning s.w (fun e u w_ => u = .returning ∧ Ret s (fun l => (l.o = k ∧ l.c = 0) ∨ (l.o = q ∧ l.c = 0)) (fun s1 v1 => v1 = .tuple #[] ∧ Blk s1 b ⟨k, 0⟩ [v, .int .i64 f, .bool true] 56 ∧ Blk s1 b4 ⟨q, 0⟩ [S []] 9) e w_) := by
  have hS : Step (fun l => (l.o = k ∧ l.c = 0) ∨ (l.o = q ∧ l.c = 0)) s s := (Step.refl _).of0 (by first | exact fun _ h => h | (intro c h; simp [KC, KO] at h <;> omega))
  refine k_fnD (rs := []) (args := [.pointer (some ⟨b1, 0, none⟩), .pointer (some ⟨b3, 0, none⟩), .pointer (some ⟨b4, 0, none⟩)]) Try.func60 rfl rfl rfl rfl ?_
  refine k_seq ?_
  refine k_region ?_
  first | refine k_load_blk one41 rfl (by assumption) (by rfl) rfl ?_ | refine k_load_val one41 rfl (by assumption) rfl ?_
  first | refine k_nilCheck rfl rfl ?_ | refine k_nilCheck_at rfl (by assumption) rfl ?_
  first | (refine k_field_addr fld56_2 rfl rfl ?_) | (refine k_field_at rfl (by assumption) (by rfl) fld56_2 rfl ?_; intro q6 h6)
  first | refine k_load_blk one4 rfl (by assumption) (by rfl) rfl ?_ | refine k_load_val one4 rfl (by assumption) rfl ?_
  refine k_as (v := .bool true) (by first | rfl | simp) ?_
  refine k_nil ?_
  refine k_keep [(0, _), (1, _), (2, _), (7, _)] ⟨rfl, rfl, rfl, rfl, trivial⟩ ?_
  refine k_cond_true rfl ?_
  refine k_seq ?_
  refine k_region ?_
  first | refine k_load_blk one41 rfl (by assumption) (by rfl) rfl ?_ | refine k_load_val one41 rfl (by assumption) rfl ?_
  first | refine k_load_blk one3 rfl (by assumption) (by rfl) rfl ?_ | refine k_load_val one3 rfl (by assumption) rfl ?_
  first | refine k_nilCheck rfl rfl ?_ | refine k_nilCheck_at rfl (by assumption) rfl ?_
  first | (refine k_field_addr fld56_1 rfl rfl ?_) | (refine k_field_at rfl (by assumption) (by rfl) fld56_1 rfl ?_; intro q11 h11)
  first
  | (refine k_store_blk size3 rfl rfl (by assumption) (by first | (simp; done) | (simp; omega) | omega) (by first | rfl | (have := SL.cells1 (by assumption); simpa using congrArg List.length this) | (have := SL.cells1 (Own.sl (by assumption)); simpa using congrArg List.length this)) (by first | rfl | (simp; done) | (rw [SL.cells1 (by assumption)]; simp [SL.one1 (by assumption)]) | (have hq := Own.sl (by assumption); rw [hq.cells1]; simp [hq.one1])) (by first | rfl | (simp <;> omega)) ?_; intro s1 sts1 hb11)
  | (refine k_store_elt size3 rfl rfl (by assumption) (by assumption) (by first | omega | (simp; omega)) (by first | assumption | exact R.of_SL (by assumption) | exact R.val rfl) (by rfl) ?_; intro s1 sts1 hb11)
  have szs1 := sts1.size
  have hS : Step (fun l => (l.o = k ∧ l.c = 0) ∨ (l.o = q ∧ l.c = 0)) s s1 := by first | exact hS.trans0 sts1 | exact hS.transK sts1 | exact hS.transOC sts1 | (refine hS.transNewC sts1 ?_; first | omega | (dsimp only; omega)) | (refine hS.transNewO sts1 ?_; first | omega | (dsimp only; omega)) | (refine hS.transSub sts1 ?_; intro l hl; simp only [KC, KO] at hl ⊢; omega)
  try replace hb := hb.up' sts1
  try replace h1 := h1.up' sts1
  try replace h3 := h3.up' sts1
  try replace h4 := h4.up' sts1
  try replace h6 := h6.up' sts1
  try replace h11 := h11.up' sts1
  refine k_nil ?_
  refine k_keep [(2, _)] ⟨rfl, trivial⟩ ?_
  refine k_seq ?_
  refine k_region ?_
  refine k_assign rfl rfl ?_
  refine k_nil ?_
  refine k_region ?_
  refine k_move rfl rfl ?_
  first
  | (refine k_store_blk size9 rfl rfl (by assumption) (by first | (simp; done) | (simp; omega) | omega) (by first | rfl | (have := SL.cells1 (by assumption); simpa using congrArg List.length this) | (have := SL.cells1 (Own.sl (by assumption)); simpa using congrArg List.length this)) (by first | rfl | (simp; done) | (rw [SL.cells1 (by assumption)]; simp [SL.one1 (by assumption)]) | (have hq := Own.sl (by assumption); rw [hq.cells1]; simp [hq.one1])) (by first | rfl | (simp <;> omega)) ?_; intro s2 sts2 hb2)
  | (refine k_store_elt size9 rfl rfl (by assumption) (by assumption) (by first | omega | (simp; omega)) (by first | assumption | exact R.of_SL (by assumption) | exact R.val rfl) (by rfl) ?_; intro s2 sts2 hb2)
  have szs2 := sts2.size
  have hS : Step (fun l => (l.o = k ∧ l.c = 0) ∨ (l.o = q ∧ l.c = 0)) s s2 := by first | exact hS.trans0 sts2 | exact hS.transK sts2 | exact hS.transOC sts2 | (refine hS.transNewC sts2 ?_; first | omega | (dsimp only; omega)) | (refine hS.transNewO sts2 ?_; first | omega | (dsimp only; omega)) | (refine hS.transSub sts2 ?_; intro l hl; simp only [KC, KO] at hl ⊢; omega)
  try replace hb := hb.up' sts2
  try replace h1 := h1.up' sts2
  try replace h3 := h3.up' sts2
  try replace h4 := h4.up' sts2
  try replace h6 := h6.up' sts2
  try replace h11 := h11.up' sts2
  try replace hb11 := hb11.up' sts2
  refine k_nil ?_
  refine k_end ?_
  refine ⟨_, rfl, Ret.mk hS ?_⟩
  exact ⟨rfl, hb11, hb2⟩

set_option maxHeartbeats 2000000 in
set_option maxRecDepth 100000 in
theorem whole1_string_ok {s : St} {k b a q b1 b3 b4 : Nat} {v x0 : Value} {f : Int} {l1 l3 : Lab} (hk : k ≠ 0) (hq : q ≠ 0) (hqk : q ≠ k) (hb : Blk s b ⟨k, 0⟩ [v, .int .i64 (a : Int), .bool false] 56) (h1 : Blk s b1 l1 [.pointer (some ⟨b, 0, none⟩)] 41) (h3 : Blk s b3 l3 [.int .i64 f] 3) (h4 : Blk s b4 ⟨q, 0⟩ [x0] 9) (h1k : l1.o ≠ k ∧ l3.o ≠ k) : CallsD Try.prog 60 #[.pointer (some ⟨b1, 0, none⟩), .pointer (some ⟨b3, 0, none⟩), .pointer (some ⟨b4, 0, none⟩)] .returning s.w (fun e u w_ => u = .returning ∧ Ret s (K0) (fun s1 v1 => v1 = .tuple #[] ∧ Blk s1 b ⟨k, 0⟩ [v, .int .i64 (a : Int), .bool false] 56 ∧ Blk s1 b4 ⟨q, 0⟩ [x0] 9) e w_) := by
  have hS : Step (K0) s s := (Step.refl _).of0 (by first | exact fun _ h => h | (intro c h; simp [KC, KO] at h <;> omega))
  refine k_fnD (rs := []) (args := [.pointer (some ⟨b1, 0, none⟩), .pointer (some ⟨b3, 0, none⟩), .pointer (some ⟨b4, 0, none⟩)]) Try.func60 rfl rfl rfl rfl ?_
  refine k_seq ?_
  refine k_region ?_
  first | refine k_load_blk one41 rfl (by assumption) (by rfl) rfl ?_ | refine k_load_val one41 rfl (by assumption) rfl ?_
  first | refine k_nilCheck rfl rfl ?_ | refine k_nilCheck_at rfl (by assumption) rfl ?_
  first | (refine k_field_addr fld56_2 rfl rfl ?_) | (refine k_field_at rfl (by assumption) (by rfl) fld56_2 rfl ?_; intro q6 h6)
  first | refine k_load_blk one4 rfl (by assumption) (by rfl) rfl ?_ | refine k_load_val one4 rfl (by assumption) rfl ?_
  refine k_as (v := .bool false) (by first | rfl | simp) ?_
  refine k_nil ?_
  refine k_keep [(0, _), (1, _), (2, _), (7, _)] ⟨rfl, rfl, rfl, rfl, trivial⟩ ?_
  refine k_cond_false rfl ?_
  refine k_skip ?_
  refine k_end ?_
  refine ⟨_, rfl, Ret.mk hS ?_⟩
  exact ⟨rfl, hb, h4⟩

set_option maxHeartbeats 2000000 in
set_option maxRecDepth 100000 in
theorem whole_string_out {s : St} {k : Nat} {p f : Value} {w : Option Rd} (hw : RdO s k p w) (he : errO w = 2) : Calls Try.prog 54 #[p, f] s.w (Ret s (K0) (fun s1 v1 => v1 = S [])) := by
  obtain ⟨pa, rfl⟩ := hw.ptr
  have hS : Step (K0) s s := (Step.refl _).of0 (by first | exact fun _ h => h | (intro c h; simp [KC, KO] at h <;> omega))
  refine k_fn_raw (args := [.pointer pa, f]) Try.func54 rfl rfl ?_
  refine raw_seq ?_
  refine k_region ?_
  try have lt_hw_s1 := hw.lt
  refine k_box rfl rfl ?_
  intro s1 b2 sts1 h2 ge2
  have szs1 := sts1.size
  have hS : Step (K0) s s1 := by first | exact hS.trans0 sts1 | exact hS.transK sts1 | exact hS.transOC sts1 | (refine hS.transNewC sts1 ?_; first | omega | (dsimp only; omega)) | (refine hS.transNewO sts1 ?_; first | omega | (dsimp only; omega)) | (refine hS.transSub sts1 ?_; intro l hl; simp only [KC, KO] at hl ⊢; omega)
  try replace hw := hw.up' sts1
  try have lt_hw_s2 := hw.lt
  try have lt_h2_s2 := h2.lt
  refine k_alloc zero9 rfl ?_
  intro s2 b4 sts2 h4 ge4
  have szs2 := sts2.size
  have hS : Step (K0) s s2 := by first | exact hS.trans0 sts2 | exact hS.transK sts2 | exact hS.transOC sts2 | (refine hS.transNewC sts2 ?_; first | omega | (dsimp only; omega)) | (refine hS.transNewO sts2 ?_; first | omega | (dsimp only; omega)) | (refine hS.transSub sts2 ?_; intro l hl; simp only [KC, KO] at hl ⊢; omega)
  try replace hw := hw.up' sts2
  try replace h2 := h2.up' sts2
  refine k_nil ?_
  refine k_stop ?_
  refine raw_seq ?_
  refine k_seq ?_
  refine k_region ?_
  first | refine k_load_blk one41 rfl (by assumption) (by rfl) rfl ?_ | refine k_load_val one41 rfl (by assumption) rfl ?_
  refine k_call cal27 rfl (Err_c (by assumption)) rfl ?_
  rintro s3 v7 sts3 rfl
  have szs3 := sts3.size
  have hS : Step (K0) s s3 := by first | exact hS.trans0 sts3 | exact hS.transK sts3 | exact hS.transOC sts3 | (refine hS.transNewC sts3 ?_; first | omega | (dsimp only; omega)) | (refine hS.transNewO sts3 ?_; first | omega | (dsimp only; omega)) | (refine hS.transSub sts3 ?_; intro l hl; simp only [KC, KO] at hl ⊢; omega)
  try replace hw := hw.up' sts3
  try replace h2 := h2.up' sts3
  try replace h4 := h4.up' sts3
  rw [he]
  refine k_neq rfl rfl rfl ?_
  refine k_as (v := .bool true) (by first | rfl | simp) ?_
  refine k_nil ?_
  refine k_keep [(1, _), (2, _), (4, _), (8, _)] ⟨rfl, rfl, rfl, rfl, trivial⟩ ?_
  refine k_cond_true rfl ?_
  refine k_seq ?_
  refine k_region ?_
  first | refine k_load_blk one9 rfl (by assumption) (by rfl) rfl ?_ | refine k_load_val one9 rfl (by assumption) rfl ?_
  first
  | (refine k_store_blk size9 rfl rfl (by assumption) (by first | (simp; done) | (simp; omega) | omega) (by first | rfl | (have := SL.cells1 (by assumption); simpa using congrArg List.length this) | (have := SL.cells1 (Own.sl (by assumption)); simpa using congrArg List.length this)) (by first | rfl | (simp; done) | (rw [SL.cells1 (by assumption)]; simp [SL.one1 (by assumption)]) | (have hq := Own.sl (by assumption); rw [hq.cells1]; simp [hq.one1])) (by first | rfl | (simp <;> omega)) ?_; intro s4 sts4 hb4)
  | (refine k_store_elt size9 rfl rfl (by assumption) (by assumption) (by first | omega | (simp; omega)) (by first | assumption | exact R.of_SL (by assumption) | exact R.val rfl) (by rfl) ?_; intro s4 sts4 hb4)
  have szs4 := sts4.size
  have hS : Step (K0) s s4 := by first | exact hS.trans0 sts4 | exact hS.transK sts4 | exact hS.transOC sts4 | (refine hS.transNewC sts4 ?_; first | omega | (dsimp only; omega)) | (refine hS.transNewO sts4 ?_; first | omega | (dsimp only; omega)) | (refine hS.transSub sts4 ?_; intro l hl; simp only [KC, KO] at hl ⊢; omega)
  try replace hw := hw.up' sts4
  try replace h2 := h2.up' sts4
  try replace h4 := h4.up' sts4
  refine k_nil ?_
  refine k_keep [(1, _), (2, _), (4, _)] ⟨rfl, rfl, rfl, trivial⟩ ?_
  refine k_ret ?_
  exact rawret0 rfl one9 rfl (by assumption) (Ret.mk hS rfl)

set_option maxHeartbeats 2000000 in
set_option maxRecDepth 100000 in
theorem whole_string_ok {s : St} {k b a : Nat} {v : Value} {al : List UInt8} {bu bm : Nat} {lu lm : Lab} {most : Int} (hu : Blk s bu lu [.pointer (some ⟨b, 0, none⟩)] 41) (huk : lu.o ≠ k) (hm : Blk s bm lm [.int .i64 most] 3) (hmk : lm.o ≠ k) (hmo : most < 9223372036854775808) (hk : k ≠ 0) (hb : Blk s b ⟨k, 0⟩ [v, .int .i64 (a : Int), .bool false] 56) (hv : R s v (.sl 1 (Bs al))) (ha : a ≤ al.length) (hal : al.length ≤ BIG) : Calls Try.prog 54 #[.pointer (some ⟨b, 0, none⟩), .func (.func 55) #[] #[.pointer (some ⟨bu, 0, none⟩), .pointer (some ⟨bm, 0, none⟩)]] s.w (Ret s (KC k 0) (fun s1 v1 => v1 = S ((⟨al, a, false⟩ : Rd).whole [] (Rd.text1 most)).1 ∧ RdO s1 k (.pointer (some ⟨b, 0, none⟩)) (some ((⟨al, a, false⟩ : Rd).whole [] (Rd.text1 most)).2))) := by
  have hkl : k ≤ s.n := hb.own_le
  have lhu := hu.own_le
  have lhm := hm.own_le
  have hS : Step (KC k 0) s s := (Step.refl _).of0 (by first | exact fun _ h => h | (intro c h; simp [KC, KO] at h <;> omega))
  refine k_fn_raw (args := [.pointer (some ⟨b, 0, none⟩), .func (.func 55) #[] #[.pointer (some ⟨bu, 0, none⟩), .pointer (some ⟨bm, 0, none⟩)]]) Try.func54 rfl rfl ?_
  refine raw_seq ?_
  refine k_region ?_
  try have lt_hb_s1 := hb.lt
  try have lt_hv_s1 := hv.lt
  try have lt_hu_s1 := hu.lt
  try have lt_hm_s1 := hm.lt
  refine k_box rfl rfl ?_
  intro s1 b2 sts1 h2 ge2
  have szs1 := sts1.size
  have hS : Step (KC k 0) s s1 := by first | exact hS.trans0 sts1 | exact hS.transK sts1 | exact hS.transOC sts1 | (refine hS.transNewC sts1 ?_; first | omega | (dsimp only; omega)) | (refine hS.transNewO sts1 ?_; first | omega | (dsimp only; omega)) | (refine hS.transSub sts1 ?_; intro l hl; simp only [KC, KO] at hl ⊢; omega)
  try replace hb := hb.up' sts1
  try replace hv := hv.up' sts1
  try replace hu := hu.up' sts1
  try replace hm := hm.up' sts1
  try have lt_hb_s2 := hb.lt
  try have lt_hv_s2 := hv.lt
  try have lt_hu_s2 := hu.lt
  try have lt_hm_s2 := hm.lt
  try have lt_h2_s2 := h2.lt
  refine k_alloc zero9 rfl ?_
  intro s2 b4 sts2 h4 ge4
  have szs2 := sts2.size
  have hS : Step (KC k 0) s s2 := by first | exact hS.trans0 sts2 | exact hS.transK sts2 | exact hS.transOC sts2 | (refine hS.transNewC sts2 ?_; first | omega | (dsimp only; omega)) | (refine hS.transNewO sts2 ?_; first | omega | (dsimp only; omega)) | (refine hS.transSub sts2 ?_; intro l hl; simp only [KC, KO] at hl ⊢; omega)
  try replace hb := hb.up' sts2
  try replace hv := hv.up' sts2
  try replace hu := hu.up' sts2
  try replace hm := hm.up' sts2
  try replace h2 := h2.up' sts2
  refine k_nil ?_
  refine k_stop ?_
  refine raw_seq ?_
  refine k_seq ?_
  refine k_region ?_
  first | refine k_load_blk one41 rfl (by assumption) (by rfl) rfl ?_ | refine k_load_val one41 rfl (by assumption) rfl ?_
  refine k_call cal27 rfl (Err_some (k := k) (by first | assumption | omega | exact SL.of_R (by assumption) | exact Own.sl (by assumption))) rfl ?_
  rintro s3 v7 sts3 rfl
  have szs3 := sts3.size
  have hS : Step (KC k 0) s s3 := by first | exact hS.trans0 sts3 | exact hS.transK sts3 | exact hS.transOC sts3 | (refine hS.transNewC sts3 ?_; first | omega | (dsimp only; omega)) | (refine hS.transNewO sts3 ?_; first | omega | (dsimp only; omega)) | (refine hS.transSub sts3 ?_; intro l hl; simp only [KC, KO] at hl ⊢; omega)
  try replace hb := hb.up' sts3
  try replace hv := hv.up' sts3
  try replace hu := hu.up' sts3
  try replace hm := hm.up' sts3
  try replace h2 := h2.up' sts3
  try replace h4 := h4.up' sts3
  refine k_neq rfl rfl rfl ?_
  refine k_as (v := .bool false) (by first | rfl | simp) ?_
  refine k_nil ?_
  refine k_keep [(1, _), (2, _), (4, _), (8, _)] ⟨rfl, rfl, rfl, rfl, trivial⟩ ?_
  refine k_cond_false rfl ?_
  refine k_skip ?_
  refine k_stop ?_
  refine raw_seq ?_
  refine k_region ?_
  first | refine k_load_blk one41 rfl (by assumption) (by rfl) rfl ?_ | refine k_load_val one41 rfl (by assumption) rfl ?_
  first | refine k_nilCheck rfl rfl ?_ | refine k_nilCheck_at rfl (by assumption) rfl ?_
  first | (refine k_field_addr fld56_1 rfl rfl ?_) | (refine k_field_at rfl (by assumption) (by rfl) fld56_1 rfl ?_; intro q12 h12)
  first | refine k_load_blk one3 rfl (by assumption) (by rfl) rfl ?_ | refine k_load_val one3 rfl (by assumption) rfl ?_
  try have lt_hb_s4 := hb.lt
  try have lt_hv_s4 := hv.lt
  try have lt_hu_s4 := hu.lt
  try have lt_hm_s4 := hm.lt
  try have lt_h2_s4 := h2.lt
  try have lt_h4_s4 := h4.lt
  try have lt_h12_s4 := h12.lt
  refine k_alloc zero3 rfl ?_
  intro s4 b5 sts4 h5 ge5
  have szs4 := sts4.size
  have hS : Step (KC k 0) s s4 := by first | exact hS.trans0 sts4 | exact hS.transK sts4 | exact hS.transOC sts4 | (refine hS.transNewC sts4 ?_; first | omega | (dsimp only; omega)) | (refine hS.transNewO sts4 ?_; first | omega | (dsimp only; omega)) | (refine hS.transSub sts4 ?_; intro l hl; simp only [KC, KO] at hl ⊢; omega)
  try replace hb := hb.up' sts4
  try replace hv := hv.up' sts4
  try replace hu := hu.up' sts4
  try replace hm := hm.up' sts4
  try replace h2 := h2.up' sts4
  try replace h4 := h4.up' sts4
  try replace h12 := h12.up' sts4
  first
  | (refine k_store_blk size3 rfl rfl (by assumption) (by first | (simp; done) | (simp; omega) | omega) (by first | rfl | (have := SL.cells1 (by assumption); simpa using congrArg List.length this) | (have := SL.cells1 (Own.sl (by assumption)); simpa using congrArg List.length this)) (by first | rfl | (simp; done) | (rw [SL.cells1 (by assumption)]; simp [SL.one1 (by assumption)]) | (have hq := Own.sl (by assumption); rw [hq.cells1]; simp [hq.one1])) (by first | rfl | (simp <;> omega)) ?_; intro s5 sts5 hb5)
  | (refine k_store_elt size3 rfl rfl (by assumption) (by assumption) (by first | omega | (simp; omega)) (by first | assumption | exact R.of_SL (by assumption) | exact R.val rfl) (by rfl) ?_; intro s5 sts5 hb5)
  have szs5 := sts5.size
  have hS : Step (KC k 0) s s5 := by first | exact hS.trans0 sts5 | exact hS.transK sts5 | exact hS.transOC sts5 | (refine hS.transNewC sts5 ?_; first | omega | (dsimp only; omega)) | (refine hS.transNewO sts5 ?_; first | omega | (dsimp only; omega)) | (refine hS.transSub sts5 ?_; intro l hl; simp only [KC, KO] at hl ⊢; omega)
  try replace hb := hb.up' sts5
  try replace hv := hv.up' sts5
  try replace hu := hu.up' sts5
  try replace hm := hm.up' sts5
  try replace h2 := h2.up' sts5
  try replace h4 := h4.up' sts5
  try replace h12 := h12.up' sts5
  try replace h5 := h5.up' sts5
  refine k_nil ?_
  refine k_stop ?_
  refine raw_defer rfl rfl ?_
  refine raw_last ?_
  refine k_seq ?_
  refine k_region ?_
  refine k_move rfl rfl ?_
  refine k_callv cal55 rfl rfl (Text1_c (r := ⟨al, a, false⟩) ⟨hk, ha, hal, b, v, rfl, hb, hv⟩ hu huk hm hmk hmo) rfl ?_
  rintro s6 v16 sts6 ⟨rfl, hw⟩
  have szs6 := sts6.size
  have hS : Step (KC k 0) s s6 := by first | exact hS.trans0 sts6 | exact hS.transK sts6 | exact hS.transOC sts6 | (refine hS.transNewC sts6 ?_; first | omega | (dsimp only; omega)) | (refine hS.transNewO sts6 ?_; first | omega | (dsimp only; omega)) | (refine hS.transSub sts6 ?_; intro l hl; simp only [KC, KO] at hl ⊢; omega)
  try replace hv := hv.up' sts6
  try replace hu := hu.up' sts6
  try replace hm := hm.up' sts6
  try replace h2 := h2.up' sts6
  try replace h4 := h4.up' sts6
  try replace h12 := h12.up' sts6
  try replace h5 := h5.up' sts6
  try replace hb5 := hb5.up' sts6
  first
  | (refine k_store_blk size9 rfl rfl (by assumption) (by first | (simp; done) | (simp; omega) | omega) (by first | rfl | (have := SL.cells1 (by assumption); simpa using congrArg List.length this) | (have := SL.cells1 (Own.sl (by assumption)); simpa using congrArg List.length this)) (by first | rfl | (simp; done) | (rw [SL.cells1 (by assumption)]; simp [SL.one1 (by assumption)]) | (have hq := Own.sl (by assumption); rw [hq.cells1]; simp [hq.one1])) (by first | rfl | (simp <;> omega)) ?_; intro s7 sts7 hb4)
  | (refine k_store_elt size9 rfl rfl (by assumption) (by assumption) (by first | omega | (simp; omega)) (by first | assumption | exact R.of_SL (by assumption) | exact R.val rfl) (by rfl) ?_; intro s7 sts7 hb4)
  have szs7 := sts7.size
  have hS : Step (KC k 0) s s7 := by first | exact hS.trans0 sts7 | exact hS.transK sts7 | exact hS.transOC sts7 | (refine hS.transNewC sts7 ?_; first | omega | (dsimp only; omega)) | (refine hS.transNewO sts7 ?_; first | omega | (dsimp only; omega)) | (refine hS.transSub sts7 ?_; intro l hl; simp only [KC, KO] at hl ⊢; omega)
  try replace hv := hv.up' sts7
  try replace hu := hu.up' sts7
  try replace hm := hm.up' sts7
  try replace h2 := h2.up' sts7
  try replace h4 := h4.up' sts7
  try replace h12 := h12.up' sts7
  try replace h5 := h5.up' sts7
  try replace hb5 := hb5.up' sts7
  try replace hw := hw.up' sts7
  refine k_nil ?_
  refine k_keep [(4, _)] ⟨rfl, trivial⟩ ?_
  refine k_ret ?_
  have hpl := text1_pl most (⟨al, a, false⟩ : Rd)
  have ew : (⟨al, a, false⟩ : Rd).whole [] (Rd.text1 most) = if ((Rd.text1 most) (⟨al, a, false⟩ : Rd)).2.bad = true then ([], { ((Rd.text1 most) (⟨al, a, false⟩ : Rd)).2 with pl := a }) else (Rd.text1 most) (⟨al, a, false⟩ : Rd) := by simp only [Rd.whole]; rw [if_neg (by simp)]
  generalize hy : (Rd.text1 most) (⟨al, a, false⟩ : Rd) = y at *
  obtain ⟨x, ⟨al2, a2, f2⟩⟩ := y
  obtain ⟨_, g1, g2, b', v', e', g3, g4⟩ := hw
  cases e'
  rw [ew]
  cases f2 with
  | true =>
    refine rawret1 (l := ⟨b4 + 1, 0⟩) (Tb := 9) rfl one9 rfl cal60 (whole1_string_bad (q := b4 + 1) hk (by omega) (by omega) g3 h2 hb5 hb4 (by simp; omega)) ?_
    rintro s9 x9 st9 ⟨rfl, i1, i2⟩
    exact ⟨_, i2, Ret.mk (hS.transTwo st9 (by omega) (fun l hl => hl)) ⟨rfl, hk, Nat.le_trans hpl.1 g1, g2, b, v', rfl, i1, g4.up' st9⟩⟩
  | false =>
    refine rawret1 (l := ⟨b4 + 1, 0⟩) (Tb := 9) rfl one9 rfl cal60 (whole1_string_ok (q := b4 + 1) hk (by omega) (by omega) g3 h2 hb5 hb4 (by simp; omega)) ?_
    rintro s9 x9 st9 ⟨rfl, i1, i2⟩
    exact ⟨_, i2, Ret.mk (hS.trans0 st9) ⟨rfl, hk, g1, g2, b, v', rfl, i1, g4.up' st9⟩⟩
theorem whole_string_c {s : St} {k bu bm : Nat} {p : Value} {w : Option Rd} {lu lm : Lab} {most : Int} (h : RdO s k p w) (hu : Blk s bu lu [p] 41) (huk : lu.o ≠ k) (hm : Blk s bm lm [.int .i64 most] 3) (hmk : lm.o ≠ k) (hmo : most < 9223372036854775808) :
    Calls Try.prog 54 #[p, .func (.func 55) #[] #[.pointer (some ⟨bu, 0, none⟩), .pointer (some ⟨bm, 0, none⟩)]] s.w (Ret s (KC k 0) fun s1 v1 => v1 = S (optR [] (Rd.text most) w).1 ∧ RdO s1 k p (optR [] (Rd.text most) w).2) := by
  by_cases he : errO w = 2
  · have e1 : optR [] (Rd.text most) w = ([], w) := by
      cases w with
      | none => rfl
      | some r =>
        have : r.bad = true := by
          cases hb : r.bad with
          | true => rfl
          | false => rw [errO, hb] at he; simp at he
        simp [optR, Rd.text, Rd.whole, this]
    rw [e1]
    refine (whole_string_out h he).mono ?_
    rintro e w' ⟨s1, v1, rfl, rfl, st, rfl⟩
    exact Ret.mk (st.of0 (by have := h.ne; intro c hh; simp [KC] at hh <;> omega)) ⟨rfl, h.up' st⟩
  · cases w with
    | none => exact absurd rfl he
    | some r =>
      obtain ⟨al, a, f⟩ := r
      obtain ⟨h0, h3, h4, b, v, rfl, h1, h2⟩ := h
      cases f with
      | true => exact absurd rfl he
      | false => exact whole_string_ok hu huk hm hmk hmo h0 h1 h2 h3 h4

end Go.Proofs
