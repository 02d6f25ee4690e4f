import Derived.Test.YtcagpghggohoiaaY02H
set_option linter.unusedSimpArgs false
set_option linter.unusedVariables false
namespace Go.Proofs
open Go.Fw
theorem cal54 : Callable Try.prog 54 := ⟨_, Try.func54, by kernel_rfl, by kernel_rfl⟩
theorem plc56 : placesT Try.prog 56 [(0, 1), (1, 1), (2, 1)] := ⟨_, Try.underlying56, fun _ => by kernel_rfl⟩
theorem zero56 : zeroT Try.prog 56 = some (.agg #[.slice none 0 0, .int .i64 0, .bool false]) := by kernel_rfl

set_option maxHeartbeats 2000000 in
set_option maxRecDepth 100000 in
theorem RText_c {s : St} {k : Nat} {p : Value} {w : Option Rd} {most : Int} (hw : RdO s k p w) (hmo : most < 9223372036854775808) : Calls Try.prog 32 #[p, .int .i64 most] s.w (Ret s (KC k 0) (fun s1 v1 => v1 = S (optR [] (Rd.text most) w).1 ∧ RdO s1 k p (optR [] (Rd.text most) w).2)) := by
  have hkn := hw.ne
  have hkl := hw.le
  obtain ⟨pa, rfl⟩ := hw.ptr
  have hS : Step (KC k 0) s s := (Step.refl _).of0 (by first | exact fun _ h => h | (intro c h; simp [KC, KO] at h <;> omega))
  refine k_fn (rs := [4]) (args := [.pointer pa, .int .i64 most]) Try.func32 rfl rfl rfl rfl ?_
  refine k_seq ?_
  refine k_region ?_
  try have lt_hw_s1 := hw.lt
  refine k_box rfl rfl ?_
  intro s1 b2 sts1 h2 ge2
  have szs1 := sts1.size
  have hS : Step (KC k 0) s s1 := by first | exact hS.trans0 sts1 | exact hS.transK sts1 | exact hS.transOC sts1 | (refine hS.transNewC sts1 ?_; first | omega | (dsimp only; omega)) | (refine hS.transNewO sts1 ?_; first | omega | (dsimp only; omega)) | (refine hS.transSub sts1 ?_; intro l hl; simp only [KC, KO] at hl ⊢; omega)
  try replace hw := hw.up' sts1
  try have lt_hw_s2 := hw.lt
  try have lt_h2_s2 := h2.lt
  refine k_box rfl rfl ?_
  intro s2 b3 sts2 h3 ge3
  have szs2 := sts2.size
  have hS : Step (KC k 0) s s2 := by first | exact hS.trans0 sts2 | exact hS.transK sts2 | exact hS.transOC sts2 | (refine hS.transNewC sts2 ?_; first | omega | (dsimp only; omega)) | (refine hS.transNewO sts2 ?_; first | omega | (dsimp only; omega)) | (refine hS.transSub sts2 ?_; intro l hl; simp only [KC, KO] at hl ⊢; omega)
  try replace hw := hw.up' sts2
  try replace h2 := h2.up' sts2
  refine k_assign rfl rfl ?_
  refine k_nil ?_
  refine k_keep [(2, _), (3, _), (4, _)] ⟨rfl, rfl, rfl, trivial⟩ ?_
  refine k_seq ?_
  refine k_region ?_
  first | refine k_load_blk one41 rfl (by assumption) (by rfl) rfl ?_ | refine k_load_val one41 rfl (by assumption) rfl ?_
  refine k_makeFunc rfl rfl rfl ?_
  refine k_call cal54 rfl (whole_string_c (by assumption) (by exact h2) (by simp; omega) (by exact h3) (by simp; omega) hmo) rfl ?_
  rintro s3 v7 sts3 ⟨rfl, hw⟩
  have szs3 := sts3.size
  have hS : Step (KC k 0) s s3 := by first | exact hS.trans0 sts3 | exact hS.transK sts3 | exact hS.transOC sts3 | (refine hS.transNewC sts3 ?_; first | omega | (dsimp only; omega)) | (refine hS.transNewO sts3 ?_; first | omega | (dsimp only; omega)) | (refine hS.transSub sts3 ?_; intro l hl; simp only [KC, KO] at hl ⊢; omega)
  try replace hw := hw.up' sts3
  try replace h2 := h2.up' sts3
  try replace h3 := h3.up' sts3
  refine k_assign rfl rfl ?_
  refine k_nil ?_
  refine k_keep [(4, _)] ⟨rfl, trivial⟩ ?_
  refine k_ret ?_
  refine ⟨_, rfl, Ret.mk hS ?_⟩
  exact ⟨rfl, hw⟩

set_option maxHeartbeats 2000000 in
set_option maxRecDepth 100000 in
theorem RU8_c {s : St} {k : Nat} {p : Value} {w : Option Rd} (hw : RdO s k p w) : Calls Try.prog 33 #[p] s.w (Ret s (KC k 0) (fun s1 v1 => v1 = .int .u8 (valB (takeO w 1).1 : Int) ∧ RdO s1 k p (takeO w 1).2)) := by
  have hkn := hw.ne
  have htl := takeO_len (w := w) (n := 1)
  have hvl := valB_lt (takeO w 1).1
  have h256 := Nat.pow_le_pow_right (show 0 < 256 by omega) (show (takeO w 1).1.length ≤ 1 by omega)
  have hS : Step (KC k 0) s s := (Step.refl _).of0 (by first | exact fun _ h => h | (intro c h; simp [KC, KO] at h <;> omega))
  refine k_fn (rs := [2]) (args := [p]) Try.func33 rfl rfl rfl rfl ?_
  refine k_seq ?_
  refine k_region ?_
  refine k_assign rfl rfl ?_
  refine k_nil ?_
  refine k_seq ?_
  refine k_region ?_
  refine k_move rfl rfl ?_
  refine k_call cal46 rfl (take_c (by assumption)) rfl ?_
  rintro s1 v4 sts1 ⟨h4, hw⟩
  have szs1 := sts1.size
  have hS : Step (KC k 0) s s1 := by first | exact hS.trans0 sts1 | exact hS.transK sts1 | exact hS.transOC sts1 | (refine hS.transNewC sts1 ?_; first | omega | (dsimp only; omega)) | (refine hS.transNewO sts1 ?_; first | omega | (dsimp only; omega)) | (refine hS.transSub sts1 ?_; intro l hl; simp only [KC, KO] at hl ⊢; omega)
  try replace hw := hw.up' sts1
  refine k_call cal45 rfl (number_c (by first | assumption | omega | exact SL.of_R (by assumption) | exact Own.sl (by assumption)) (by first | omega | (simp; omega))) rfl ?_
  rintro s2 v5 sts2 rfl
  have szs2 := sts2.size
  have hS : Step (KC k 0) s s2 := by first | exact hS.trans0 sts2 | exact hS.transK sts2 | exact hS.transOC sts2 | (refine hS.transNewC sts2 ?_; first | omega | (dsimp only; omega)) | (refine hS.transNewO sts2 ?_; first | omega | (dsimp only; omega)) | (refine hS.transSub sts2 ?_; intro l hl; simp only [KC, KO] at hl ⊢; omega)
  try replace hw := hw.up' sts2
  try replace h4 := h4.up' sts2
  try replace hw := hw.up' sts2
  first | refine k_convN Try.underlying29 Try.underlying5 rfl (wrap_u8 (by omega) (by omega)) rfl ?_ | refine k_conv_u8 Try.underlying29 Try.underlying5 rfl rfl ?_ | refine k_conv Try.underlying29 Try.underlying5 rfl rfl ?_
  refine k_assign rfl rfl ?_
  refine k_nil ?_
  refine k_keep [(2, _)] ⟨rfl, trivial⟩ ?_
  refine k_ret ?_
  refine ⟨_, rfl, Ret.mk hS ?_⟩
  exact ⟨rfl, hw⟩

set_option maxHeartbeats 2000000 in
set_option maxRecDepth 100000 in
theorem RU32_c {s : St} {k : Nat} {p : Value} {w : Option Rd} (hw : RdO s k p w) : Calls Try.prog 47 #[p] s.w (Ret s (KC k 0) (fun s1 v1 => v1 = .int .u32 (valB (takeO w 4).1 : Int) ∧ RdO s1 k p (takeO w 4).2)) := by
  have hkn := hw.ne
  have htl := takeO_len (w := w) (n := 4)
  have hvl := valB_lt (takeO w 4).1
  have h256 := Nat.pow_le_pow_right (show 0 < 256 by omega) (show (takeO w 4).1.length ≤ 4 by omega)
  have hS : Step (KC k 0) s s := (Step.refl _).of0 (by first | exact fun _ h => h | (intro c h; simp [KC, KO] at h <;> omega))
  refine k_fn (rs := [2]) (args := [p]) Try.func47 rfl rfl rfl rfl ?_
  refine k_seq ?_
  refine k_region ?_
  refine k_assign rfl rfl ?_
  refine k_nil ?_
  refine k_seq ?_
  refine k_region ?_
  refine k_move rfl rfl ?_
  refine k_call cal46 rfl (take_c (by assumption)) rfl ?_
  rintro s1 v4 sts1 ⟨h4, hw⟩
  have szs1 := sts1.size
  have hS : Step (KC k 0) s s1 := by first | exact hS.trans0 sts1 | exact hS.transK sts1 | exact hS.transOC sts1 | (refine hS.transNewC sts1 ?_; first | omega | (dsimp only; omega)) | (refine hS.transNewO sts1 ?_; first | omega | (dsimp only; omega)) | (refine hS.transSub sts1 ?_; intro l hl; simp only [KC, KO] at hl ⊢; omega)
  try replace hw := hw.up' sts1
  refine k_call cal45 rfl (number_c (by first | assumption | omega | exact SL.of_R (by assumption) | exact Own.sl (by assumption)) (by first | omega | (simp; omega))) rfl ?_
  rintro s2 v5 sts2 rfl
  have szs2 := sts2.size
  have hS : Step (KC k 0) s s2 := by first | exact hS.trans0 sts2 | exact hS.transK sts2 | exact hS.transOC sts2 | (refine hS.transNewC sts2 ?_; first | omega | (dsimp only; omega)) | (refine hS.transNewO sts2 ?_; first | omega | (dsimp only; omega)) | (refine hS.transSub sts2 ?_; intro l hl; simp only [KC, KO] at hl ⊢; omega)
  try replace hw := hw.up' sts2
  try replace h4 := h4.up' sts2
  try replace hw := hw.up' sts2
  first | refine k_convN Try.underlying29 Try.underlying58 rfl (wrap_u32 (by omega) (by omega)) rfl ?_ | refine k_conv_u32 Try.underlying29 Try.underlying58 rfl rfl ?_ | refine k_conv Try.underlying29 Try.underlying58 rfl rfl ?_
  refine k_assign rfl rfl ?_
  refine k_nil ?_
  refine k_keep [(2, _)] ⟨rfl, trivial⟩ ?_
  refine k_ret ?_
  refine ⟨_, rfl, Ret.mk hS ?_⟩
  exact ⟨rfl, hw⟩

set_option maxHeartbeats 2000000 in
set_option maxRecDepth 100000 in
theorem RRaw_c {s : St} {k : Nat} {p : Value} {w : Option Rd} {n : Int} (hw : RdO s k p w) : Calls Try.prog 48 #[p, .int .i64 n] s.w (Ret s (KC k 0) (fun s1 v1 => R s1 v1 (.sl 1 (Bs (takeO w n).1)) ∧ RdO s1 k p (takeO w n).2)) := by
  have hkn := hw.ne
  have hS : Step (KC k 0) s s := (Step.refl _).of0 (by first | exact fun _ h => h | (intro c h; simp [KC, KO] at h <;> omega))
  refine k_fn (rs := [4]) (args := [p, .int .i64 n]) Try.func48 rfl rfl rfl rfl ?_
  refine k_seq ?_
  refine k_region ?_
  refine k_assign rfl rfl ?_
  refine k_nil ?_
  refine k_seq ?_
  refine k_region ?_
  refine k_move rfl rfl ?_
  refine k_move rfl rfl ?_
  refine k_call cal46 rfl (take_c (by assumption)) rfl ?_
  rintro s1 v7 sts1 ⟨h7, hw⟩
  have szs1 := sts1.size
  have hS : Step (KC k 0) s s1 := by first | exact hS.trans0 sts1 | exact hS.transK sts1 | exact hS.transOC sts1 | (refine hS.transNewC sts1 ?_; first | omega | (dsimp only; omega)) | (refine hS.transNewO sts1 ?_; first | omega | (dsimp only; omega)) | (refine hS.transSub sts1 ?_; intro l hl; simp only [KC, KO] at hl ⊢; omega)
  try replace hw := hw.up' sts1
  refine k_assign rfl rfl ?_
  refine k_nil ?_
  refine k_keep [(4, _)] ⟨rfl, trivial⟩ ?_
  refine k_ret ?_
  refine ⟨_, rfl, Ret.mk hS ?_⟩
  exact ⟨h7, hw⟩

set_option maxHeartbeats 2000000 in
set_option maxRecDepth 100000 in
theorem End_nil {s : St} {k : Nat} (hw : RdO s k (.pointer none) none) : Calls Try.prog 22 #[.pointer none] s.w (Ret s (K0) (fun s1 v1 => v1 = .int .i64 2)) := by
  have hS : Step (K0) s s := (Step.refl _).of0 (by first | exact fun _ h => h | (intro c h; simp [KC, KO] at h <;> omega))
  refine k_fn (rs := [2]) (args := [.pointer none]) Try.func22 rfl rfl rfl rfl ?_
  refine k_seq ?_
  refine k_region ?_
  refine k_assign rfl rfl ?_
  refine k_nil ?_
  refine k_seq ?_
  refine k_seq ?_
  refine k_draw (K0) 14 [(false, 0), (false, 1), (false, 2), (false, 3), (false, 4), (false, 5), (false, 6), (false, 7), (false, 8), (false, 9), (false, 10), (false, 11), (false, 12), (false, 13)] mixed (fun _ h => h) rfl rfl ?_
  intro s1 sts1
  have szs1 := sts1.size
  have hS : Step (K0) s s1 := by first | exact hS.trans0 sts1 | exact hS.transK sts1 | exact hS.transOC sts1 | (refine hS.transNewC sts1 ?_; first | omega | (dsimp only; omega)) | (refine hS.transNewO sts1 ?_; first | omega | (dsimp only; omega)) | (refine hS.transSub sts1 ?_; intro l hl; simp only [KC, KO] at hl ⊢; omega)
  try replace hw := hw.up' sts1
  first
  | (refine rd_read ?c2 rfl rfl (fun s3 sts3 => ?h2) ?_
     case h2 =>
       try replace hw := hw.up' sts3
       refine k_move rfl rfl ?_
       exact fq_end)
  first
  | (refine rd_read ?c4 rfl rfl (fun s5 sts5 => ?h4) ?_
     case h4 =>
       try replace hw := hw.up' sts5
       refine k_neq_pnil Try.underlying41 rfl rfl rfl ?_
       refine k_as (v := .bool false) (by first | rfl | simp) ?_
       exact fq_end)
  first
  | (refine rd_read ?c6 rfl rfl (fun s7 sts7 => ?h6) ?_
     case h6 =>
       try replace hw := hw.up' sts7
       refine k_move rfl rfl ?_
       refine k_as (v := .bool false) (by first | rfl | simp) ?_
       exact fq_end)
  first
  | (refine rd_read ?c8 rfl rfl (fun s9 sts9 => ?h8) ?_
     case h8 =>
       try replace hw := hw.up' sts9
       refine k_no rfl rfl rfl rfl ?_
       exact fq_end)
  first
  | (refine rd_read ?c10 rfl rfl (fun s11 sts11 => ?h10) ?_
     case h10 =>
       try replace hw := hw.up' sts11
       refine k_no rfl rfl rfl rfl ?_
       exact fq_end)
  first
  | (refine rd_read ?c12 rfl rfl (fun s13 sts13 => ?h12) ?_
     case h12 =>
       try replace hw := hw.up' sts13
       refine k_no rfl rfl rfl rfl ?_
       exact fq_end)
  first
  | (refine rd_read ?c14 rfl rfl (fun s15 sts15 => ?h14) ?_
     case h14 =>
       try replace hw := hw.up' sts15
       refine k_no rfl rfl rfl rfl ?_
       exact fq_end)
  first
  | (refine rd_read ?c16 rfl rfl (fun s17 sts17 => ?h16) ?_
     case h16 =>
       try replace hw := hw.up' sts17
       refine k_no rfl rfl rfl rfl ?_
       exact fq_end)
  first
  | (refine rd_read ?c18 rfl rfl (fun s19 sts19 => ?h18) ?_
     case h18 =>
       try replace hw := hw.up' sts19
       refine k_no rfl rfl rfl rfl ?_
       exact fq_end)
  first
  | (refine rd_read ?c20 rfl rfl (fun s21 sts21 => ?h20) ?_
     case h20 =>
       try replace hw := hw.up' sts21
       refine k_no rfl rfl rfl rfl ?_
       exact fq_end)
  first
  | (refine rd_read ?c22 rfl rfl (fun s23 sts23 => ?h22) ?_
     case h22 =>
       try replace hw := hw.up' sts23
       refine k_no rfl rfl rfl rfl ?_
       exact fq_end)
  first
  | (refine rd_read ?c24 rfl rfl (fun s25 sts25 => ?h24) ?_
     case h24 =>
       try replace hw := hw.up' sts25
       refine k_no rfl rfl rfl rfl ?_
       exact fq_end)
  first
  | (refine rd_read ?c26 rfl rfl (fun s27 sts27 => ?h26) ?_
     case h26 =>
       try replace hw := hw.up' sts27
       refine k_no rfl rfl rfl rfl ?_
       exact fq_end)
  first
  | (refine rd_read ?c28 rfl rfl (fun s29 sts29 => ?h28) ?_
     case h28 =>
       try replace hw := hw.up' sts29
       refine k_pickF rfl rfl rfl rfl ?_
       refine k_as (v := .bool false) (by first | rfl | simp) ?_
       exact fq_end)
  refine rd_nil ?_
  refine k_nil ?_
  refine k_keep [(0, _), (2, _), (16, _)] ⟨rfl, rfl, rfl, trivial⟩ ?_
  refine k_cond_false rfl ?_
  refine k_skip ?_
  refine k_seq ?_
  refine k_region ?_
  refine k_move rfl rfl ?_
  refine k_call cal27 rfl (Err_c (by assumption)) rfl ?_
  rintro s30 v20 sts30 rfl
  have szs30 := sts30.size
  have hS : Step (K0) s s30 := by first | exact hS.trans0 sts30 | exact hS.transK sts30 | exact hS.transOC sts30 | (refine hS.transNewC sts30 ?_; first | omega | (dsimp only; omega)) | (refine hS.transNewO sts30 ?_; first | omega | (dsimp only; omega)) | (refine hS.transSub sts30 ?_; intro l hl; simp only [KC, KO] at hl ⊢; omega)
  try replace hw := hw.up' sts30
  refine k_assign rfl rfl ?_
  refine k_nil ?_
  refine k_keep [(2, _)] ⟨rfl, trivial⟩ ?_
  refine k_ret ?_
  refine ⟨_, rfl, Ret.mk hS ?_⟩
  rfl

set_option maxHeartbeats 2000000 in
set_option maxRecDepth 100000 in
theorem End_some {s : St} {k b a : Nat} {v : Value} {f : Bool} {al : List UInt8} (hk : k ≠ 0) (hb : Blk s b ⟨k, 0⟩ [v, .int .i64 (a : Int), .bool f] 56) (hv : R s v (.sl 1 (Bs al))) (ha : a ≤ al.length) (hal : al.length ≤ BIG) : Calls Try.prog 22 #[.pointer (some ⟨b, 0, none⟩)] s.w (Ret s (KC k 0) (fun s1 v1 => v1 = .int .i64 (if a < al.length ∨ f = true then 2 else 0) ∧ Blk s1 b ⟨k, 0⟩ [v, .int .i64 (a : Int), .bool (decide (a < al.length) || f)] 56)) := by
  have hS : Step (KC k 0) s s := (Step.refl _).of0 (by first | exact fun _ h => h | (intro c h; simp [KC, KO] at h <;> omega))
  refine k_fn (rs := [2]) (args := [.pointer (some ⟨b, 0, none⟩)]) Try.func22 rfl rfl rfl rfl ?_
  refine k_seq ?_
  refine k_region ?_
  refine k_assign rfl rfl ?_
  refine k_nil ?_
  refine k_seq ?_
  refine k_seq ?_
  refine k_draw (K0) 14 [(false, 0), (false, 1), (false, 2), (false, 3), (false, 4), (false, 5), (false, 6), (false, 7), (false, 8), (false, 9), (false, 10), (false, 11), (false, 12), (false, 13)] mixed (fun _ h => h) rfl rfl ?_
  intro s1 sts1
  have szs1 := sts1.size
  have hS : Step (KC k 0) s s1 := by first | exact hS.trans0 sts1 | exact hS.transK sts1 | exact hS.transOC sts1 | (refine hS.transNewC sts1 ?_; first | omega | (dsimp only; omega)) | (refine hS.transNewO sts1 ?_; first | omega | (dsimp only; omega)) | (refine hS.transSub sts1 ?_; intro l hl; simp only [KC, KO] at hl ⊢; omega)
  try replace hb := hb.up' sts1
  try replace hv := hv.up' sts1
  first
  | (refine rd_read ?c2 rfl rfl (fun s3 sts3 => ?h2) ?_
     case h2 =>
       try replace hb := hb.up' sts3
       try replace hv := hv.up' sts3
       refine k_move rfl rfl ?_
       exact fq_end)
  first
  | (refine rd_read ?c4 rfl rfl (fun s5 sts5 => ?h4) ?_
     case h4 =>
       try replace hb := hb.up' sts5
       try replace hv := hv.up' sts5
       refine k_neq_pnil Try.underlying41 rfl rfl rfl ?_
       refine k_as (v := .bool true) (by first | rfl | simp) ?_
       exact fq_end)
  first
  | (refine rd_read ?c6 rfl rfl (fun s7 sts7 => ?h6) ?_
     case h6 =>
       try replace hb := hb.up' sts7
       try replace hv := hv.up' sts7
       refine k_move rfl rfl ?_
       refine k_as (v := .bool true) (by first | rfl | simp) ?_
       exact fq_end)
  first
  | (refine rd_read ?c8 rfl rfl (fun s9 sts9 => ?h8) ?_
     case h8 =>
       try replace hb := hb.up' sts9
       try replace hv := hv.up' sts9
       refine k_yes rfl rfl ?_
       refine k_move rfl rfl ?_
       exact fq_end)
  first
  | (refine rd_read ?c10 rfl rfl (fun s11 sts11 => ?h10) ?_
     case h10 =>
       try replace hb := hb.up' sts11
       try replace hv := hv.up' sts11
       refine k_yes rfl rfl ?_
       first | refine k_nilCheck rfl rfl ?_ | refine k_nilCheck_at rfl (by assumption) rfl ?_
       exact fq_end)
  first
  | (refine rd_fa rfl (wanted_yes rfl rfl rfl) rfl (by assumption) (by rfl) fld56_1 rfl ?_; intro q8 h8)
  | (refine rd_read ?c12 rfl rfl (fun s13 sts13 => ?h12) ?_
     case h12 =>
       try replace hb := hb.up' sts13
       try replace hv := hv.up' sts13
       refine k_yes rfl rfl ?_
       first | (refine k_field_addr fld56_1 rfl rfl ?_) | (refine k_field_at rfl (by assumption) (by rfl) fld56_1 rfl ?_; intro q8 h8)
       exact fq_end)
  first
  | (refine rd_read ?c14 rfl rfl (fun s15 sts15 => ?h14) ?_
     case h14 =>
       try replace hb := hb.up' sts15
       try replace hv := hv.up' sts15
       try replace h8 := h8.up' sts15
       refine k_yes rfl rfl ?_
       first | refine k_load_blk one3 rfl (by assumption) (by rfl) rfl ?_ | refine k_load_val one3 rfl (by assumption) rfl ?_
       exact fq_end)
  first
  | (refine rd_read ?c16 rfl rfl (fun s17 sts17 => ?h16) ?_
     case h16 =>
       try replace hb := hb.up' sts17
       try replace hv := hv.up' sts17
       try replace h8 := h8.up' sts17
       refine k_yes rfl rfl ?_
       refine k_move rfl rfl ?_
       exact fq_end)
  first
  | (refine rd_read ?c18 rfl rfl (fun s19 sts19 => ?h18) ?_
     case h18 =>
       try replace hb := hb.up' sts19
       try replace hv := hv.up' sts19
       try replace h8 := h8.up' sts19
       refine k_yes rfl rfl ?_
       first | refine k_nilCheck rfl rfl ?_ | refine k_nilCheck_at rfl (by assumption) rfl ?_
       exact fq_end)
  first
  | (refine rd_fa rfl (wanted_yes rfl rfl rfl) rfl (by assumption) (by rfl) fld56_0 rfl ?_; intro q12 h12)
  | (refine rd_read ?c20 rfl rfl (fun s21 sts21 => ?h20) ?_
     case h20 =>
       try replace hb := hb.up' sts21
       try replace hv := hv.up' sts21
       try replace h8 := h8.up' sts21
       refine k_yes rfl rfl ?_
       first | (refine k_field_addr fld56_0 rfl rfl ?_) | (refine k_field_at rfl (by assumption) (by rfl) fld56_0 rfl ?_; intro q12 h12)
       exact fq_end)
  first
  | (refine rd_ldsl rfl (wanted_yes rfl rfl rfl) one27 rfl (by assumption) (by first | exact id | (simp [KC, KO] <;> omega)) rfl ?_; intro v13 h13)
  | (refine rd_read ?c22 rfl rfl (fun s23 sts23 => ?h22) ?_
     case h22 =>
       try replace hb := hb.up' sts23
       try replace hv := hv.up' sts23
       try replace h8 := h8.up' sts23
       try replace h12 := h12.up' sts23
       refine k_yes rfl rfl ?_
       first | refine k_load_blk one27 rfl (by assumption) (by rfl) rfl ?_ | refine k_load_val one27 rfl (by assumption) rfl ?_ | (refine k_load_sl one27 rfl (by assumption) rfl ?_; intro v13 h13)
       exact fq_end)
  first
  | (refine rd_read ?c24 rfl rfl (fun s25 sts25 => ?h24) ?_
     case h24 =>
       try replace hb := hb.up' sts25
       try replace hv := hv.up' sts25
       try replace h8 := h8.up' sts25
       try replace h12 := h12.up' sts25
       try replace h13 := h13.up' sts25
       refine k_yes rfl rfl ?_
       refine k_len Try.underlying27 rfl (by first | exact ⟨_, _, rfl⟩ | exact SL.hasLen (by assumption) | exact (SL.of_R (by assumption)).hasLen | exact (Own.sl (by assumption)).hasLen) rfl ?_
       try simp only [List.length_map]
       exact fq_end)
  first
  | (refine rd_read ?c26 rfl rfl (fun s27 sts27 => ?h26) ?_
     case h26 =>
       try replace hb := hb.up' sts27
       try replace hv := hv.up' sts27
       try replace h8 := h8.up' sts27
       try replace h12 := h12.up' sts27
       try replace h13 := h13.up' sts27
       refine k_yes rfl rfl ?_
       refine k_lss rfl rfl rfl ?_
       exact fq_end)
  first
  | (refine rd_read ?c28 rfl rfl (fun s29 sts29 => ?h28) ?_
     case h28 =>
       try replace hb := hb.up' sts29
       try replace hv := hv.up' sts29
       try replace h8 := h8.up' sts29
       try replace h12 := h12.up' sts29
       try replace h13 := h13.up' sts29
       refine k_pickT rfl rfl rfl rfl ?_
       exact fq_end)
  refine rd_nil ?_
  refine k_nil ?_
  refine k_keep [(0, _), (2, _), (16, _)] ⟨rfl, rfl, rfl, trivial⟩ ?_
  first | refine k_cond_dec rfl (fun c16 => ?_) (fun c16 => ?_) | refine k_cond rfl (fun c16 => ?_) (fun c16 => ?_)
  · -- t16 True
    refine k_region ?_
    refine k_move rfl rfl ?_
    refine k_call cal23 rfl (Fail_some (k := k) hk (by first | assumption | omega | exact SL.of_R (by assumption) | exact Own.sl (by assumption))) rfl ?_
    rintro s31 v18 sts31 ⟨rfl, hb⟩
    have szs31 := sts31.size
    have hS : Step (KC k 0) s s31 := by first | exact hS.trans0 sts31 | exact hS.transK sts31 | exact hS.transOC sts31 | (refine hS.transNewC sts31 ?_; first | omega | (dsimp only; omega)) | (refine hS.transNewO sts31 ?_; first | omega | (dsimp only; omega)) | (refine hS.transSub sts31 ?_; intro l hl; simp only [KC, KO] at hl ⊢; omega)
    try replace hb := hb.up' sts31
    try replace hv := hv.up' sts31
    try replace h8 := h8.up' sts31
    try replace h12 := h12.up' sts31
    try replace h13 := h13.up' sts31
    refine k_nil ?_
    refine k_keep [(0, _), (2, _)] ⟨rfl, rfl, trivial⟩ ?_
    refine k_seq ?_
    refine k_region ?_
    refine k_move rfl rfl ?_
    refine k_call cal27 rfl (Err_some (k := k) (by first | assumption | omega | exact SL.of_R (by assumption) | exact Own.sl (by assumption))) rfl ?_
    rintro s32 v20 sts32 rfl
    have szs32 := sts32.size
    have hS : Step (KC k 0) s s32 := by first | exact hS.trans0 sts32 | exact hS.transK sts32 | exact hS.transOC sts32 | (refine hS.transNewC sts32 ?_; first | omega | (dsimp only; omega)) | (refine hS.transNewO sts32 ?_; first | omega | (dsimp only; omega)) | (refine hS.transSub sts32 ?_; intro l hl; simp only [KC, KO] at hl ⊢; omega)
    try replace hb := hb.up' sts32
    try replace hv := hv.up' sts32
    try replace h8 := h8.up' sts32
    try replace h12 := h12.up' sts32
    try replace h13 := h13.up' sts32
    try replace hb := hb.up' sts32
    refine k_assign rfl rfl ?_
    refine k_nil ?_
    refine k_keep [(2, _)] ⟨rfl, trivial⟩ ?_
    refine k_ret ?_
    refine ⟨_, rfl, Ret.mk hS ?_⟩
    by_cases c9 : a < al.length <;> first | (exfalso; omega) | (simp only [c9, decide_true, decide_false, Bool.true_or, Bool.false_or, true_or, false_or]; exact ⟨rfl, hb⟩)
  · -- t16 False
    refine k_skip ?_
    refine k_seq ?_
    refine k_region ?_
    refine k_move rfl rfl ?_
    refine k_call cal27 rfl (Err_some (k := k) (by first | assumption | omega | exact SL.of_R (by assumption) | exact Own.sl (by assumption))) rfl ?_
    rintro s33 v20 sts33 rfl
    have szs33 := sts33.size
    have hS : Step (KC k 0) s s33 := by first | exact hS.trans0 sts33 | exact hS.transK sts33 | exact hS.transOC sts33 | (refine hS.transNewC sts33 ?_; first | omega | (dsimp only; omega)) | (refine hS.transNewO sts33 ?_; first | omega | (dsimp only; omega)) | (refine hS.transSub sts33 ?_; intro l hl; simp only [KC, KO] at hl ⊢; omega)
    try replace hb := hb.up' sts33
    try replace hv := hv.up' sts33
    try replace h8 := h8.up' sts33
    try replace h12 := h12.up' sts33
    try replace h13 := h13.up' sts33
    refine k_assign rfl rfl ?_
    refine k_nil ?_
    refine k_keep [(2, _)] ⟨rfl, trivial⟩ ?_
    refine k_ret ?_
    refine ⟨_, rfl, Ret.mk hS ?_⟩
    by_cases c9 : a < al.length <;> first | (exfalso; omega) | (simp only [c9, decide_true, decide_false, Bool.true_or, Bool.false_or, true_or, false_or]; exact ⟨rfl, hb⟩)

set_option maxHeartbeats 2000000 in
set_option maxRecDepth 100000 in
theorem NewReader_c {s : St} {vb : Value} {l : List UInt8} {lx : Lab} (hx : SL s lx vb 1 (Bs l)) (hl : l.length ≤ BIG) : Calls Try.prog 20 #[vb] s.w (Ret s (K0) (fun s1 v1 => ∃ k, s.n < k ∧ RdO s1 k v1 (some ⟨l, 0, false⟩))) := by
  have hl2 := hl
  unfold BIG at hl2
  have hS : Step (K0) s s := (Step.refl _).of0 (by first | exact fun _ h => h | (intro c h; simp [KC, KO] at h <;> omega))
  refine k_fn (rs := [2]) (args := [vb]) Try.func20 rfl rfl rfl rfl ?_
  refine k_seq ?_
  refine k_region ?_
  refine k_assign rfl rfl ?_
  refine k_nil ?_
  refine k_seq ?_
  refine k_region ?_
  refine k_move rfl rfl ?_
  refine k_call cal36 rfl (Clone_c (by first | assumption | omega | exact SL.of_R (by assumption) | exact Own.sl (by assumption)) (by first | omega | (simp; omega))) rfl ?_
  rintro s1 v4 sts1 h4
  have szs1 := sts1.size
  have hS : Step (K0) s s1 := by first | exact hS.trans0 sts1 | exact hS.transK sts1 | exact hS.transOC sts1 | (refine hS.transNewC sts1 ?_; first | omega | (dsimp only; omega)) | (refine hS.transNewO sts1 ?_; first | omega | (dsimp only; omega)) | (refine hS.transSub sts1 ?_; intro l hl; simp only [KC, KO] at hl ⊢; omega)
  try replace hx := hx.up' sts1
  refine k_build plc56 zero56 rfl (Parts.cons (by first | exact R.cells_sl (by assumption) | exact SL.cells1 (by assumption) | exact (Own.sl (by assumption)).cells1 | rfl) (Parts.nil)) (by rfl) rfl ?_
  try have lt_hx_s2 := hx.lt
  try have lt_h4_s2 := h4.lt
  refine k_box rfl rfl ?_
  intro s2 b6 sts2 h6 ge6
  have szs2 := sts2.size
  have hS : Step (K0) s s2 := by first | exact hS.trans0 sts2 | exact hS.transK sts2 | exact hS.transOC sts2 | (refine hS.transNewC sts2 ?_; first | omega | (dsimp only; omega)) | (refine hS.transNewO sts2 ?_; first | omega | (dsimp only; omega)) | (refine hS.transSub sts2 ?_; intro l hl; simp only [KC, KO] at hl ⊢; omega)
  try replace hx := hx.up' sts2
  try replace h4 := h4.up' sts2
  refine k_assign rfl rfl ?_
  refine k_nil ?_
  refine k_keep [(2, _)] ⟨rfl, trivial⟩ ?_
  refine k_ret ?_
  refine ⟨_, rfl, Ret.mk hS ?_⟩
  exact ⟨b6 + 1, by omega, by omega, Nat.zero_le _, hl, b6, _, rfl, h6, h4⟩

def endO : Option Rd → Int × Option Rd
  | none => (2, none)
  | some r => (if r.pl < r.all.length ∨ r.bad = true then 2 else 0, some { r with bad := decide (r.pl < r.all.length) || r.bad })
theorem End_c {s : St} {k : Nat} {p : Value} {w : Option Rd} (h : RdO s k p w) : Calls Try.prog 22 #[p] s.w (Ret s (KC k 0) fun s1 v => v = .int .i64 (endO w).1 ∧ RdO s1 k p (endO w).2) := by
  cases w with
  | none =>
    have hp := h.1
    subst hp
    refine (End_nil h).mono ?_
    rintro e w' ⟨s1, v1, rfl, rfl, st, rfl⟩
    exact Ret.mk (st.of0 (by have := h.ne; intro c hh; simp [KC] at hh <;> omega)) ⟨rfl, h.up' st⟩
  | some r =>
    obtain ⟨al, a, f⟩ := r
    obtain ⟨h0, h3, h4, b, v, rfl, h1, h2⟩ := h
    refine (End_some h0 h1 h2 h3 h4).mono ?_
    rintro e w' ⟨s1, v1, rfl, rfl, st, rfl, g⟩
    exact Ret.mk st ⟨rfl, h0, h3, h4, b, v, rfl, g, h2.up' st⟩

end Go.Proofs
