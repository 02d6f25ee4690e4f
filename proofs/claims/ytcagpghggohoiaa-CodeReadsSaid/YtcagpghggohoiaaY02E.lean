import Derived.Test.YtcagpghggohoiaaY02D2
set_option linter.unusedSimpArgs false
set_option linter.unusedVariables false
namespace Go.Proofs
open Go.Fw
theorem cal23 : Callable Try.prog 23 := ⟨_, Try.func23, by kernel_rfl, by kernel_rfl⟩
theorem cal27 : Callable Try.prog 27 := ⟨_, Try.func27, by kernel_rfl, by kernel_rfl⟩
theorem cal57 : Callable Try.prog 57 := ⟨_, Try.func57, by kernel_rfl, by kernel_rfl⟩
theorem fld56_0 : fieldT Try.prog 56 0 = some 0 := by kernel_rfl
theorem mixed : Try.prog.follows .mixedOrders = true := by kernel_rfl
theorem one41 : oneT Try.prog 41 = true := by kernel_rfl
theorem size3 : sizeT Try.prog 3 1 = true := by kernel_rfl

set_option maxHeartbeats 2000000 in
set_option maxRecDepth 100000 in
theorem take1_some {s : St} {k b a b2 b3 : Nat} {v : Value} {f : Bool} {n : Int} {al : List UInt8} {l2 l3 : Lab} (hb : Blk s b ⟨k, 0⟩ [v, .int .i64 (a : Int), .bool f] 56) (h2 : Blk s b2 l2 [.pointer (some ⟨b, 0, none⟩)] 41) (h3 : Blk s b3 l3 [.int .i64 n] 3) (hv : R s v (.sl 1 (Bs al))) (ha : a ≤ al.length) (hal : al.length ≤ BIG) : Calls Try.prog 57 #[.pointer (some ⟨b3, 0, none⟩), .pointer (some ⟨b2, 0, none⟩)] s.w (Ret s (K0) (fun _ v => v = .bool (decide (0 ≤ n ∧ n ≤ (al.length : Int) - a)))) := by
  unfold BIG at hal
  have hS : Step (K0) s s := (Step.refl _).of0 (by first | exact fun _ h => h | (intro c h; simp [KC, KO] at h <;> omega))
  refine k_fn (rs := [2]) (args := [.pointer (some ⟨b3, 0, none⟩), .pointer (some ⟨b2, 0, none⟩)]) Try.func57 rfl rfl rfl rfl ?_
  refine k_seq ?_
  refine k_region ?_
  refine k_assign rfl rfl ?_
  refine k_nil ?_
  refine k_seq ?_
  refine k_keep [(0, _), (1, _)] ⟨rfl, rfl, trivial⟩ ?_
  refine k_draw (K0) 16 [(false, 0), (false, 1), (false, 2), (false, 3), (false, 4), (false, 5), (false, 6), (false, 7), (false, 8), (false, 9), (false, 10), (false, 11), (false, 12), (false, 13), (false, 14), (false, 15)] mixed (fun _ h => h) rfl rfl ?_
  intro s1 sts1
  have szs1 := sts1.size
  have hS : Step (K0) s s1 := by first | exact hS.trans0 sts1 | exact hS.transK sts1 | exact hS.transOC sts1 | (refine hS.transNewC sts1 ?_; first | omega | (dsimp only; omega)) | (refine hS.transNewO sts1 ?_; first | omega | (dsimp only; omega)) | (refine hS.transSub sts1 ?_; intro l hl; simp only [KC, KO] at hl ⊢; omega)
  try replace hb := hb.up' sts1
  try replace h2 := h2.up' sts1
  try replace h3 := h3.up' sts1
  try replace hv := hv.up' sts1
  first
  | (refine rd_read ?c2 rfl rfl (fun s3 sts3 => ?h2) ?_
     case h2 =>
       try replace hb := hb.up' sts3
       try replace h2 := h2.up' sts3
       try replace h3 := h3.up' sts3
       try replace hv := hv.up' sts3
       first | refine k_load_blk one3 rfl (by assumption) (by rfl) rfl ?_ | refine k_load_val one3 rfl (by assumption) rfl ?_
       exact fq_end)
  first
  | (refine rd_read ?c4 rfl rfl (fun s5 sts5 => ?h4) ?_
     case h4 =>
       try replace hb := hb.up' sts5
       try replace h2 := h2.up' sts5
       try replace h3 := h3.up' sts5
       try replace hv := hv.up' sts5
       refine k_geq rfl rfl rfl ?_
       exact fq_end)
  first
  | (refine rd_read ?c6 rfl rfl (fun s7 sts7 => ?h6) ?_
     case h6 =>
       try replace hb := hb.up' sts7
       try replace h2 := h2.up' sts7
       try replace h3 := h3.up' sts7
       try replace hv := hv.up' sts7
       refine k_move rfl rfl ?_
       exact fq_end)
  first | refine rd_split (fun c5 => ?_) (fun c5 => ?_) | refine rd_splitb (fun c5 => ?_) (fun c5 => ?_)
  · -- t5 True
    first
    | (refine rd_read ?c8 rfl rfl (fun s9 sts9 => ?h8) ?_
       case h8 =>
         try replace hb := hb.up' sts9
         try replace h2 := h2.up' sts9
         try replace h3 := h3.up' sts9
         try replace hv := hv.up' sts9
         refine k_yes rfl rfl ?_
         first | refine k_load_blk one3 rfl (by assumption) (by rfl) rfl ?_ | refine k_load_val one3 rfl (by assumption) rfl ?_
         exact fq_end)
    first
    | (refine rd_read ?c10 rfl rfl (fun s11 sts11 => ?h10) ?_
       case h10 =>
         try replace hb := hb.up' sts11
         try replace h2 := h2.up' sts11
         try replace h3 := h3.up' sts11
         try replace hv := hv.up' sts11
         refine k_yes rfl rfl ?_
         first | refine k_load_blk one41 rfl (by assumption) (by rfl) rfl ?_ | refine k_load_val one41 rfl (by assumption) rfl ?_
         exact fq_end)
    first
    | (refine rd_read ?c12 rfl rfl (fun s13 sts13 => ?h12) ?_
       case h12 =>
         try replace hb := hb.up' sts13
         try replace h2 := h2.up' sts13
         try replace h3 := h3.up' sts13
         try replace hv := hv.up' sts13
         refine k_yes rfl rfl ?_
         first | refine k_nilCheck rfl rfl ?_ | refine k_nilCheck_at rfl (by assumption) rfl ?_
         exact fq_end)
    first
    | (refine rd_fa rfl (wanted_yes rfl rfl rfl) rfl (by assumption) (by rfl) fld56_0 rfl ?_; intro q9 h9)
    | (refine rd_read ?c14 rfl rfl (fun s15 sts15 => ?h14) ?_
       case h14 =>
         try replace hb := hb.up' sts15
         try replace h2 := h2.up' sts15
         try replace h3 := h3.up' sts15
         try replace hv := hv.up' sts15
         refine k_yes rfl rfl ?_
         first | (refine k_field_addr fld56_0 rfl rfl ?_) | (refine k_field_at rfl (by assumption) (by rfl) fld56_0 rfl ?_; intro q9 h9)
         exact fq_end)
    first
    | (refine rd_ldsl rfl (wanted_yes rfl rfl rfl) one27 rfl (by assumption) (by first | exact id | (simp [KC, KO] <;> omega)) rfl ?_; intro v10 h10)
    | (refine rd_read ?c16 rfl rfl (fun s17 sts17 => ?h16) ?_
       case h16 =>
         try replace hb := hb.up' sts17
         try replace h2 := h2.up' sts17
         try replace h3 := h3.up' sts17
         try replace hv := hv.up' sts17
         try replace h9 := h9.up' sts17
         refine k_yes rfl rfl ?_
         first | refine k_load_blk one27 rfl (by assumption) (by rfl) rfl ?_ | refine k_load_val one27 rfl (by assumption) rfl ?_ | (refine k_load_sl one27 rfl (by assumption) rfl ?_; intro v10 h10)
         exact fq_end)
    first
    | (refine rd_read ?c18 rfl rfl (fun s19 sts19 => ?h18) ?_
       case h18 =>
         try replace hb := hb.up' sts19
         try replace h2 := h2.up' sts19
         try replace h3 := h3.up' sts19
         try replace hv := hv.up' sts19
         try replace h9 := h9.up' sts19
         try replace h10 := h10.up' sts19
         refine k_yes rfl rfl ?_
         refine k_len Try.underlying27 rfl (by first | exact ⟨_, _, rfl⟩ | exact SL.hasLen (by assumption) | exact (SL.of_R (by assumption)).hasLen | exact (Own.sl (by assumption)).hasLen) rfl ?_
         try simp only [List.length_map]
         exact fq_end)
    first
    | (refine rd_read ?c20 rfl rfl (fun s21 sts21 => ?h20) ?_
       case h20 =>
         try replace hb := hb.up' sts21
         try replace h2 := h2.up' sts21
         try replace h3 := h3.up' sts21
         try replace hv := hv.up' sts21
         try replace h9 := h9.up' sts21
         try replace h10 := h10.up' sts21
         refine k_yes rfl rfl ?_
         first | refine k_load_blk one41 rfl (by assumption) (by rfl) rfl ?_ | refine k_load_val one41 rfl (by assumption) rfl ?_
         exact fq_end)
    first
    | (refine rd_read ?c22 rfl rfl (fun s23 sts23 => ?h22) ?_
       case h22 =>
         try replace hb := hb.up' sts23
         try replace h2 := h2.up' sts23
         try replace h3 := h3.up' sts23
         try replace hv := hv.up' sts23
         try replace h9 := h9.up' sts23
         try replace h10 := h10.up' sts23
         refine k_yes rfl rfl ?_
         first | refine k_nilCheck rfl rfl ?_ | refine k_nilCheck_at rfl (by assumption) rfl ?_
         exact fq_end)
    first
    | (refine rd_fa rfl (wanted_yes rfl rfl rfl) rfl (by assumption) (by rfl) fld56_1 rfl ?_; intro q14 h14)
    | (refine rd_read ?c24 rfl rfl (fun s25 sts25 => ?h24) ?_
       case h24 =>
         try replace hb := hb.up' sts25
         try replace h2 := h2.up' sts25
         try replace h3 := h3.up' sts25
         try replace hv := hv.up' sts25
         try replace h9 := h9.up' sts25
         try replace h10 := h10.up' sts25
         refine k_yes rfl rfl ?_
         first | (refine k_field_addr fld56_1 rfl rfl ?_) | (refine k_field_at rfl (by assumption) (by rfl) fld56_1 rfl ?_; intro q14 h14)
         exact fq_end)
    first
    | (refine rd_read ?c26 rfl rfl (fun s27 sts27 => ?h26) ?_
       case h26 =>
         try replace hb := hb.up' sts27
         try replace h2 := h2.up' sts27
         try replace h3 := h3.up' sts27
         try replace hv := hv.up' sts27
         try replace h9 := h9.up' sts27
         try replace h10 := h10.up' sts27
         try replace h14 := h14.up' sts27
         refine k_yes rfl rfl ?_
         first | refine k_load_blk one3 rfl (by assumption) (by rfl) rfl ?_ | refine k_load_val one3 rfl (by assumption) rfl ?_
         exact fq_end)
    first
    | (refine rd_read ?c28 rfl rfl (fun s29 sts29 => ?h28) ?_
       case h28 =>
         try replace hb := hb.up' sts29
         try replace h2 := h2.up' sts29
         try replace h3 := h3.up' sts29
         try replace hv := hv.up' sts29
         try replace h9 := h9.up' sts29
         try replace h10 := h10.up' sts29
         try replace h14 := h14.up' sts29
         refine k_yes rfl rfl ?_
         first | refine k_subN rfl rfl (by omega) (by omega) rfl ?_ | refine k_sub_ rfl rfl rfl ?_
         exact fq_end)
    first
    | (refine rd_read ?c30 rfl rfl (fun s31 sts31 => ?h30) ?_
       case h30 =>
         try replace hb := hb.up' sts31
         try replace h2 := h2.up' sts31
         try replace h3 := h3.up' sts31
         try replace hv := hv.up' sts31
         try replace h9 := h9.up' sts31
         try replace h10 := h10.up' sts31
         try replace h14 := h14.up' sts31
         refine k_yes rfl rfl ?_
         refine k_leq rfl rfl rfl ?_
         exact fq_end)
    first
    | (refine rd_read ?c32 rfl rfl (fun s33 sts33 => ?h32) ?_
       case h32 =>
         try replace hb := hb.up' sts33
         try replace h2 := h2.up' sts33
         try replace h3 := h3.up' sts33
         try replace hv := hv.up' sts33
         try replace h9 := h9.up' sts33
         try replace h10 := h10.up' sts33
         try replace h14 := h14.up' sts33
         refine k_pickT rfl rfl rfl rfl ?_
         exact fq_end)
    refine rd_nil ?_
    refine k_assign rfl rfl ?_
    refine k_nil ?_
    refine k_keep [(2, _)] ⟨rfl, trivial⟩ ?_
    refine k_ret ?_
    refine ⟨_, rfl, Ret.mk hS ?_⟩
    simp [c5] <;> (try intro _) <;> omega
  · -- t5 False
    first
    | (refine rd_read ?c34 rfl rfl (fun s35 sts35 => ?h34) ?_
       case h34 =>
         try replace hb := hb.up' sts35
         try replace h2 := h2.up' sts35
         try replace h3 := h3.up' sts35
         try replace hv := hv.up' sts35
         refine k_no rfl rfl rfl rfl ?_
         exact fq_end)
    first
    | (refine rd_read ?c36 rfl rfl (fun s37 sts37 => ?h36) ?_
       case h36 =>
         try replace hb := hb.up' sts37
         try replace h2 := h2.up' sts37
         try replace h3 := h3.up' sts37
         try replace hv := hv.up' sts37
         refine k_no rfl rfl rfl rfl ?_
         exact fq_end)
    first
    | (refine rd_read ?c38 rfl rfl (fun s39 sts39 => ?h38) ?_
       case h38 =>
         try replace hb := hb.up' sts39
         try replace h2 := h2.up' sts39
         try replace h3 := h3.up' sts39
         try replace hv := hv.up' sts39
         refine k_no rfl rfl rfl rfl ?_
         exact fq_end)
    first
    | (refine rd_read ?c40 rfl rfl (fun s41 sts41 => ?h40) ?_
       case h40 =>
         try replace hb := hb.up' sts41
         try replace h2 := h2.up' sts41
         try replace h3 := h3.up' sts41
         try replace hv := hv.up' sts41
         refine k_no rfl rfl rfl rfl ?_
         exact fq_end)
    first
    | (refine rd_read ?c42 rfl rfl (fun s43 sts43 => ?h42) ?_
       case h42 =>
         try replace hb := hb.up' sts43
         try replace h2 := h2.up' sts43
         try replace h3 := h3.up' sts43
         try replace hv := hv.up' sts43
         refine k_no rfl rfl rfl rfl ?_
         exact fq_end)
    first
    | (refine rd_read ?c44 rfl rfl (fun s45 sts45 => ?h44) ?_
       case h44 =>
         try replace hb := hb.up' sts45
         try replace h2 := h2.up' sts45
         try replace h3 := h3.up' sts45
         try replace hv := hv.up' sts45
         refine k_no rfl rfl rfl rfl ?_
         exact fq_end)
    first
    | (refine rd_read ?c46 rfl rfl (fun s47 sts47 => ?h46) ?_
       case h46 =>
         try replace hb := hb.up' sts47
         try replace h2 := h2.up' sts47
         try replace h3 := h3.up' sts47
         try replace hv := hv.up' sts47
         refine k_no rfl rfl rfl rfl ?_
         exact fq_end)
    first
    | (refine rd_read ?c48 rfl rfl (fun s49 sts49 => ?h48) ?_
       case h48 =>
         try replace hb := hb.up' sts49
         try replace h2 := h2.up' sts49
         try replace h3 := h3.up' sts49
         try replace hv := hv.up' sts49
         refine k_no rfl rfl rfl rfl ?_
         exact fq_end)
    first
    | (refine rd_read ?c50 rfl rfl (fun s51 sts51 => ?h50) ?_
       case h50 =>
         try replace hb := hb.up' sts51
         try replace h2 := h2.up' sts51
         try replace h3 := h3.up' sts51
         try replace hv := hv.up' sts51
         refine k_no rfl rfl rfl rfl ?_
         exact fq_end)
    first
    | (refine rd_read ?c52 rfl rfl (fun s53 sts53 => ?h52) ?_
       case h52 =>
         try replace hb := hb.up' sts53
         try replace h2 := h2.up' sts53
         try replace h3 := h3.up' sts53
         try replace hv := hv.up' sts53
         refine k_no rfl rfl rfl rfl ?_
         exact fq_end)
    first
    | (refine rd_read ?c54 rfl rfl (fun s55 sts55 => ?h54) ?_
       case h54 =>
         try replace hb := hb.up' sts55
         try replace h2 := h2.up' sts55
         try replace h3 := h3.up' sts55
         try replace hv := hv.up' sts55
         refine k_no rfl rfl rfl rfl ?_
         exact fq_end)
    first
    | (refine rd_read ?c56 rfl rfl (fun s57 sts57 => ?h56) ?_
       case h56 =>
         try replace hb := hb.up' sts57
         try replace h2 := h2.up' sts57
         try replace h3 := h3.up' sts57
         try replace hv := hv.up' sts57
         refine k_no rfl rfl rfl rfl ?_
         exact fq_end)
    first
    | (refine rd_read ?c58 rfl rfl (fun s59 sts59 => ?h58) ?_
       case h58 =>
         try replace hb := hb.up' sts59
         try replace h2 := h2.up' sts59
         try replace h3 := h3.up' sts59
         try replace hv := hv.up' sts59
         refine k_pickF rfl rfl rfl rfl ?_
         exact fq_end)
    refine rd_nil ?_
    refine k_assign rfl rfl ?_
    refine k_nil ?_
    refine k_keep [(2, _)] ⟨rfl, trivial⟩ ?_
    refine k_ret ?_
    refine ⟨_, rfl, Ret.mk hS ?_⟩
    simp [c5] <;> (try intro _) <;> omega

set_option maxHeartbeats 2000000 in
set_option maxRecDepth 100000 in
theorem take_out {s : St} {k : Nat} {p : Value} {w : Option Rd} {n : Int} (hw : RdO s k p w) (he : errO w = 2) : Calls Try.prog 46 #[p, .int .i64 n] s.w (Ret s (K0) (fun _ v => v = .slice none 0 0)) := by
  obtain ⟨pa, rfl⟩ := hw.ptr
  have hS : Step (K0) s s := (Step.refl _).of0 (by first | exact fun _ h => h | (intro c h; simp [KC, KO] at h <;> omega))
  refine k_fn (rs := [4]) (args := [.pointer pa, .int .i64 n]) Try.func46 rfl rfl rfl rfl ?_
  refine k_seq ?_
  refine k_region ?_
  try have lt_hw_s1 := hw.lt
  refine k_box rfl rfl ?_
  intro s1 b2 sts1 h2 ge2
  have szs1 := sts1.size
  have hS : Step (K0) s s1 := by first | exact hS.trans0 sts1 | exact hS.transK sts1 | exact hS.transOC sts1 | (refine hS.transNewC sts1 ?_; first | omega | (dsimp only; omega)) | (refine hS.transNewO sts1 ?_; first | omega | (dsimp only; omega)) | (refine hS.transSub sts1 ?_; intro l hl; simp only [KC, KO] at hl ⊢; omega)
  try replace hw := hw.up' sts1
  try have lt_hw_s2 := hw.lt
  try have lt_h2_s2 := h2.lt
  refine k_box rfl rfl ?_
  intro s2 b3 sts2 h3 ge3
  have szs2 := sts2.size
  have hS : Step (K0) s s2 := by first | exact hS.trans0 sts2 | exact hS.transK sts2 | exact hS.transOC sts2 | (refine hS.transNewC sts2 ?_; first | omega | (dsimp only; omega)) | (refine hS.transNewO sts2 ?_; first | omega | (dsimp only; omega)) | (refine hS.transSub sts2 ?_; intro l hl; simp only [KC, KO] at hl ⊢; omega)
  try replace hw := hw.up' sts2
  try replace h2 := h2.up' sts2
  refine k_assign rfl rfl ?_
  refine k_nil ?_
  refine k_keep [(2, _), (3, _), (4, _)] ⟨rfl, rfl, rfl, trivial⟩ ?_
  refine k_seq ?_
  refine k_seq ?_
  refine k_region ?_
  first | refine k_load_blk one41 rfl (by assumption) (by rfl) rfl ?_ | refine k_load_val one41 rfl (by assumption) rfl ?_
  refine k_call cal27 rfl (Err_c (by assumption)) rfl ?_
  rintro s3 v8 sts3 rfl
  have szs3 := sts3.size
  have hS : Step (K0) s s3 := by first | exact hS.trans0 sts3 | exact hS.transK sts3 | exact hS.transOC sts3 | (refine hS.transNewC sts3 ?_; first | omega | (dsimp only; omega)) | (refine hS.transNewO sts3 ?_; first | omega | (dsimp only; omega)) | (refine hS.transSub sts3 ?_; intro l hl; simp only [KC, KO] at hl ⊢; omega)
  try replace hw := hw.up' sts3
  try replace h2 := h2.up' sts3
  try replace h3 := h3.up' sts3
  rw [he]
  refine k_neq rfl rfl rfl ?_
  refine k_as (v := .bool true) (by first | rfl | simp) ?_
  refine k_nil ?_
  refine k_keep [(2, _), (3, _), (4, _), (9, _)] ⟨rfl, rfl, rfl, rfl, trivial⟩ ?_
  refine k_cond_true rfl ?_
  refine k_seq ?_
  refine k_region ?_
  refine k_assign rfl rfl ?_
  refine k_nil ?_
  refine k_keep [(2, _), (3, _), (4, _)] ⟨rfl, rfl, rfl, trivial⟩ ?_
  refine k_ret ?_
  refine ⟨_, rfl, Ret.mk hS ?_⟩
  rfl

set_option maxHeartbeats 2000000 in
set_option maxRecDepth 100000 in
theorem take_no {s : St} {n : Int} {k b a : Nat} {v : Value} {al : List UInt8} (hk : k ≠ 0) (hb : Blk s b ⟨k, 0⟩ [v, .int .i64 (a : Int), .bool false] 56) (hv : R s v (.sl 1 (Bs al))) (ha : a ≤ al.length) (hal : al.length ≤ BIG) (hn : ¬ (0 ≤ n ∧ n ≤ (al.length : Int) - a)) : Calls Try.prog 46 #[.pointer (some ⟨b, 0, none⟩), .int .i64 n] s.w (Ret s (KC k 0) (fun s1 v1 => v1 = .slice none 0 0 ∧ Blk s1 b ⟨k, 0⟩ [v, .int .i64 (a : Int), .bool true] 56)) := by
  have hS : Step (KC k 0) s s := (Step.refl _).of0 (by first | exact fun _ h => h | (intro c h; simp [KC, KO] at h <;> omega))
  refine k_fn (rs := [4]) (args := [.pointer (some ⟨b, 0, none⟩), .int .i64 n]) Try.func46 rfl rfl rfl rfl ?_
  refine k_seq ?_
  refine k_region ?_
  try have lt_hb_s1 := hb.lt
  try have lt_hv_s1 := hv.lt
  refine k_box rfl rfl ?_
  intro s1 b2 sts1 h2 ge2
  have szs1 := sts1.size
  have hS : Step (KC k 0) s s1 := by first | exact hS.trans0 sts1 | exact hS.transK sts1 | exact hS.transOC sts1 | (refine hS.transNewC sts1 ?_; first | omega | (dsimp only; omega)) | (refine hS.transNewO sts1 ?_; first | omega | (dsimp only; omega)) | (refine hS.transSub sts1 ?_; intro l hl; simp only [KC, KO] at hl ⊢; omega)
  try replace hb := hb.up' sts1
  try replace hv := hv.up' sts1
  try have lt_hb_s2 := hb.lt
  try have lt_hv_s2 := hv.lt
  try have lt_h2_s2 := h2.lt
  refine k_box rfl rfl ?_
  intro s2 b3 sts2 h3 ge3
  have szs2 := sts2.size
  have hS : Step (KC k 0) s s2 := by first | exact hS.trans0 sts2 | exact hS.transK sts2 | exact hS.transOC sts2 | (refine hS.transNewC sts2 ?_; first | omega | (dsimp only; omega)) | (refine hS.transNewO sts2 ?_; first | omega | (dsimp only; omega)) | (refine hS.transSub sts2 ?_; intro l hl; simp only [KC, KO] at hl ⊢; omega)
  try replace hb := hb.up' sts2
  try replace hv := hv.up' sts2
  try replace h2 := h2.up' sts2
  refine k_assign rfl rfl ?_
  refine k_nil ?_
  refine k_keep [(2, _), (3, _), (4, _)] ⟨rfl, rfl, rfl, trivial⟩ ?_
  refine k_seq ?_
  refine k_seq ?_
  refine k_region ?_
  first | refine k_load_blk one41 rfl (by assumption) (by rfl) rfl ?_ | refine k_load_val one41 rfl (by assumption) rfl ?_
  refine k_call cal27 rfl (Err_some (k := k) (by first | assumption | omega | exact SL.of_R (by assumption) | exact Own.sl (by assumption))) rfl ?_
  rintro s3 v8 sts3 rfl
  have szs3 := sts3.size
  have hS : Step (KC k 0) s s3 := by first | exact hS.trans0 sts3 | exact hS.transK sts3 | exact hS.transOC sts3 | (refine hS.transNewC sts3 ?_; first | omega | (dsimp only; omega)) | (refine hS.transNewO sts3 ?_; first | omega | (dsimp only; omega)) | (refine hS.transSub sts3 ?_; intro l hl; simp only [KC, KO] at hl ⊢; omega)
  try replace hb := hb.up' sts3
  try replace hv := hv.up' sts3
  try replace h2 := h2.up' sts3
  try replace h3 := h3.up' sts3
  refine k_neq rfl rfl rfl ?_
  refine k_as (v := .bool false) (by first | rfl | simp) ?_
  refine k_nil ?_
  refine k_keep [(2, _), (3, _), (4, _), (9, _)] ⟨rfl, rfl, rfl, rfl, trivial⟩ ?_
  refine k_cond_false rfl ?_
  refine k_skip ?_
  refine k_seq ?_
  refine k_region ?_
  refine k_makeFunc rfl rfl rfl ?_
  refine k_assign rfl rfl ?_
  refine k_nil ?_
  refine k_keep [(2, _), (3, _), (4, _), (5, _)] ⟨rfl, rfl, rfl, rfl, trivial⟩ ?_
  refine k_seq ?_
  refine k_seq ?_
  refine k_region ?_
  refine k_move rfl rfl ?_
  refine k_callv cal57 rfl rfl (take1_some (by exact hb) (by assumption) (by assumption) (by exact hv) (by omega) (by exact hal)) rfl ?_
  rintro s4 v12 sts4 rfl
  have szs4 := sts4.size
  have hS : Step (KC k 0) s s4 := by first | exact hS.trans0 sts4 | exact hS.transK sts4 | exact hS.transOC sts4 | (refine hS.transNewC sts4 ?_; first | omega | (dsimp only; omega)) | (refine hS.transNewO sts4 ?_; first | omega | (dsimp only; omega)) | (refine hS.transSub sts4 ?_; intro l hl; simp only [KC, KO] at hl ⊢; omega)
  try replace hb := hb.up' sts4
  try replace hv := hv.up' sts4
  try replace h2 := h2.up' sts4
  try replace h3 := h3.up' sts4
  refine k_as (v := .bool false) (by simp [hn]) ?_
  first | refine k_notd rfl rfl ?_ | refine k_not rfl rfl ?_
  refine k_as (v := .bool true) (by first | rfl | simp) ?_
  refine k_nil ?_
  refine k_keep [(2, _), (3, _), (4, _), (13, _)] ⟨rfl, rfl, rfl, rfl, trivial⟩ ?_
  refine k_cond_true rfl ?_
  refine k_seq ?_
  refine k_region ?_
  first | refine k_load_blk one41 rfl (by assumption) (by rfl) rfl ?_ | refine k_load_val one41 rfl (by assumption) rfl ?_
  refine k_call cal23 rfl (Fail_some (k := k) hk (by first | assumption | omega | exact SL.of_R (by assumption) | exact Own.sl (by assumption))) rfl ?_
  rintro s5 v15 sts5 ⟨rfl, hb⟩
  have szs5 := sts5.size
  have hS : Step (KC k 0) s s5 := by first | exact hS.trans0 sts5 | exact hS.transK sts5 | exact hS.transOC sts5 | (refine hS.transNewC sts5 ?_; first | omega | (dsimp only; omega)) | (refine hS.transNewO sts5 ?_; first | omega | (dsimp only; omega)) | (refine hS.transSub sts5 ?_; intro l hl; simp only [KC, KO] at hl ⊢; omega)
  try replace hb := hb.up' sts5
  try replace hv := hv.up' sts5
  try replace h2 := h2.up' sts5
  try replace h3 := h3.up' sts5
  refine k_nil ?_
  refine k_keep [(2, _), (3, _), (4, _)] ⟨rfl, rfl, rfl, trivial⟩ ?_
  refine k_seq ?_
  refine k_region ?_
  refine k_assign rfl rfl ?_
  refine k_nil ?_
  refine k_ret ?_
  refine ⟨_, rfl, Ret.mk hS ?_⟩
  exact ⟨rfl, hb⟩

set_option maxHeartbeats 2000000 in
set_option maxRecDepth 100000 in
theorem take_ok {s : St} {n : Nat} {k b a : Nat} {v : Value} {al : List UInt8} (hk : k ≠ 0) (hb : Blk s b ⟨k, 0⟩ [v, .int .i64 (a : Int), .bool false] 56) (hv : R s v (.sl 1 (Bs al))) (ha : a ≤ al.length) (hal : al.length ≤ BIG) (hn : a + n ≤ al.length) : Calls Try.prog 46 #[.pointer (some ⟨b, 0, none⟩), .int .i64 (n : Int)] s.w (Ret s (KC k 0) (fun s1 v1 => R s1 v1 (.sl 1 (Bs ((al.drop a).take n))) ∧ Blk s1 b ⟨k, 0⟩ [v, .int .i64 ((a + n : Nat) : Int), .bool false] 56)) := by
  have hal2 := hal
  unfold BIG at hal2
  have hS : Step (KC k 0) s s := (Step.refl _).of0 (by first | exact fun _ h => h | (intro c h; simp [KC, KO] at h <;> omega))
  refine k_fn (rs := [4]) (args := [.pointer (some ⟨b, 0, none⟩), .int .i64 (n : Int)]) Try.func46 rfl rfl rfl rfl ?_
  refine k_seq ?_
  refine k_region ?_
  try have lt_hb_s1 := hb.lt
  try have lt_hv_s1 := hv.lt
  refine k_box rfl rfl ?_
  intro s1 b2 sts1 h2 ge2
  have szs1 := sts1.size
  have hS : Step (KC k 0) s s1 := by first | exact hS.trans0 sts1 | exact hS.transK sts1 | exact hS.transOC sts1 | (refine hS.transNewC sts1 ?_; first | omega | (dsimp only; omega)) | (refine hS.transNewO sts1 ?_; first | omega | (dsimp only; omega)) | (refine hS.transSub sts1 ?_; intro l hl; simp only [KC, KO] at hl ⊢; omega)
  try replace hb := hb.up' sts1
  try replace hv := hv.up' sts1
  try have lt_hb_s2 := hb.lt
  try have lt_hv_s2 := hv.lt
  try have lt_h2_s2 := h2.lt
  refine k_box rfl rfl ?_
  intro s2 b3 sts2 h3 ge3
  have szs2 := sts2.size
  have hS : Step (KC k 0) s s2 := by first | exact hS.trans0 sts2 | exact hS.transK sts2 | exact hS.transOC sts2 | (refine hS.transNewC sts2 ?_; first | omega | (dsimp only; omega)) | (refine hS.transNewO sts2 ?_; first | omega | (dsimp only; omega)) | (refine hS.transSub sts2 ?_; intro l hl; simp only [KC, KO] at hl ⊢; omega)
  try replace hb := hb.up' sts2
  try replace hv := hv.up' sts2
  try replace h2 := h2.up' sts2
  refine k_assign rfl rfl ?_
  refine k_nil ?_
  refine k_keep [(2, _), (3, _), (4, _)] ⟨rfl, rfl, rfl, trivial⟩ ?_
  refine k_seq ?_
  refine k_seq ?_
  refine k_region ?_
  first | refine k_load_blk one41 rfl (by assumption) (by rfl) rfl ?_ | refine k_load_val one41 rfl (by assumption) rfl ?_
  refine k_call cal27 rfl (Err_some (k := k) (by first | assumption | omega | exact SL.of_R (by assumption) | exact Own.sl (by assumption))) rfl ?_
  rintro s3 v8 sts3 rfl
  have szs3 := sts3.size
  have hS : Step (KC k 0) s s3 := by first | exact hS.trans0 sts3 | exact hS.transK sts3 | exact hS.transOC sts3 | (refine hS.transNewC sts3 ?_; first | omega | (dsimp only; omega)) | (refine hS.transNewO sts3 ?_; first | omega | (dsimp only; omega)) | (refine hS.transSub sts3 ?_; intro l hl; simp only [KC, KO] at hl ⊢; omega)
  try replace hb := hb.up' sts3
  try replace hv := hv.up' sts3
  try replace h2 := h2.up' sts3
  try replace h3 := h3.up' sts3
  refine k_neq rfl rfl rfl ?_
  refine k_as (v := .bool false) (by first | rfl | simp) ?_
  refine k_nil ?_
  refine k_keep [(2, _), (3, _), (4, _), (9, _)] ⟨rfl, rfl, rfl, rfl, trivial⟩ ?_
  refine k_cond_false rfl ?_
  refine k_skip ?_
  refine k_seq ?_
  refine k_region ?_
  refine k_makeFunc rfl rfl rfl ?_
  refine k_assign rfl rfl ?_
  refine k_nil ?_
  refine k_keep [(2, _), (3, _), (4, _), (5, _)] ⟨rfl, rfl, rfl, rfl, trivial⟩ ?_
  refine k_seq ?_
  refine k_seq ?_
  refine k_region ?_
  refine k_move rfl rfl ?_
  refine k_callv cal57 rfl rfl (take1_some (by exact hb) (by assumption) (by assumption) (by exact hv) (by omega) (by exact hal)) rfl ?_
  rintro s4 v12 sts4 rfl
  have szs4 := sts4.size
  have hS : Step (KC k 0) s s4 := by first | exact hS.trans0 sts4 | exact hS.transK sts4 | exact hS.transOC sts4 | (refine hS.transNewC sts4 ?_; first | omega | (dsimp only; omega)) | (refine hS.transNewO sts4 ?_; first | omega | (dsimp only; omega)) | (refine hS.transSub sts4 ?_; intro l hl; simp only [KC, KO] at hl ⊢; omega)
  try replace hb := hb.up' sts4
  try replace hv := hv.up' sts4
  try replace h2 := h2.up' sts4
  try replace h3 := h3.up' sts4
  refine k_as (v := .bool true) (by simp; omega) ?_
  first | refine k_notd rfl rfl ?_ | refine k_not rfl rfl ?_
  refine k_as (v := .bool false) (by first | rfl | simp) ?_
  refine k_nil ?_
  refine k_keep [(2, _), (3, _), (4, _), (13, _)] ⟨rfl, rfl, rfl, rfl, trivial⟩ ?_
  refine k_cond_false rfl ?_
  refine k_skip ?_
  refine k_seq ?_
  refine k_keep [(2, _), (3, _), (4, _)] ⟨rfl, rfl, rfl, trivial⟩ ?_
  refine k_draw (K0) 16 [(false, 0), (false, 1), (false, 2), (false, 3), (false, 4), (false, 5), (false, 6), (false, 7), (false, 8), (false, 9), (false, 10), (false, 11), (false, 12), (false, 13), (true, 14), (true, 15)] mixed (fun _ h => h) rfl rfl ?_
  intro s5 sts5
  have szs5 := sts5.size
  have hS : Step (KC k 0) s s5 := by first | exact hS.trans0 sts5 | exact hS.transK sts5 | exact hS.transOC sts5 | (refine hS.transNewC sts5 ?_; first | omega | (dsimp only; omega)) | (refine hS.transNewO sts5 ?_; first | omega | (dsimp only; omega)) | (refine hS.transSub sts5 ?_; intro l hl; simp only [KC, KO] at hl ⊢; omega)
  try replace hb := hb.up' sts5
  try replace hv := hv.up' sts5
  try replace h2 := h2.up' sts5
  try replace h3 := h3.up' sts5
  first
  | (refine rd_read ?c6 rfl rfl (fun s7 sts7 => ?h6) ?_
     case h6 =>
       try replace hb := hb.up' sts7
       try replace hv := hv.up' sts7
       try replace h2 := h2.up' sts7
       try replace h3 := h3.up' sts7
       first | refine k_load_blk one41 rfl (by assumption) (by rfl) rfl ?_ | refine k_load_val one41 rfl (by assumption) rfl ?_
       exact fq_end)
  first
  | (refine rd_read ?c8 rfl rfl (fun s9 sts9 => ?h8) ?_
     case h8 =>
       try replace hb := hb.up' sts9
       try replace hv := hv.up' sts9
       try replace h2 := h2.up' sts9
       try replace h3 := h3.up' sts9
       first | refine k_nilCheck rfl rfl ?_ | refine k_nilCheck_at rfl (by assumption) rfl ?_
       exact fq_end)
  first
  | (refine rd_fa rfl (wanted_none rfl) rfl (by assumption) (by rfl) fld56_0 rfl ?_; intro q18 h18)
  | (refine rd_read ?c10 rfl rfl (fun s11 sts11 => ?h10) ?_
     case h10 =>
       try replace hb := hb.up' sts11
       try replace hv := hv.up' sts11
       try replace h2 := h2.up' sts11
       try replace h3 := h3.up' sts11
       first | (refine k_field_addr fld56_0 rfl rfl ?_) | (refine k_field_at rfl (by assumption) (by rfl) fld56_0 rfl ?_; intro q18 h18)
       exact fq_end)
  first
  | (refine rd_ldsl rfl (wanted_none rfl) one27 rfl (by assumption) (by first | exact id | (simp [KC, KO] <;> omega)) rfl ?_; intro v19 h19)
  | (refine rd_read ?c12 rfl rfl (fun s13 sts13 => ?h12) ?_
     case h12 =>
       try replace hb := hb.up' sts13
       try replace hv := hv.up' sts13
       try replace h2 := h2.up' sts13
       try replace h3 := h3.up' sts13
       try replace h18 := h18.up' sts13
       first | refine k_load_blk one27 rfl (by assumption) (by rfl) rfl ?_ | refine k_load_val one27 rfl (by assumption) rfl ?_ | (refine k_load_sl one27 rfl (by assumption) rfl ?_; intro v19 h19)
       exact fq_end)
  first
  | (refine rd_read ?c14 rfl rfl (fun s15 sts15 => ?h14) ?_
     case h14 =>
       try replace hb := hb.up' sts15
       try replace hv := hv.up' sts15
       try replace h2 := h2.up' sts15
       try replace h3 := h3.up' sts15
       try replace h18 := h18.up' sts15
       try replace h19 := h19.up' sts15
       first | refine k_load_blk one41 rfl (by assumption) (by rfl) rfl ?_ | refine k_load_val one41 rfl (by assumption) rfl ?_
       exact fq_end)
  first
  | (refine rd_read ?c16 rfl rfl (fun s17 sts17 => ?h16) ?_
     case h16 =>
       try replace hb := hb.up' sts17
       try replace hv := hv.up' sts17
       try replace h2 := h2.up' sts17
       try replace h3 := h3.up' sts17
       try replace h18 := h18.up' sts17
       try replace h19 := h19.up' sts17
       first | refine k_nilCheck rfl rfl ?_ | refine k_nilCheck_at rfl (by assumption) rfl ?_
       exact fq_end)
  first
  | (refine rd_fa rfl (wanted_none rfl) rfl (by assumption) (by rfl) fld56_1 rfl ?_; intro q22 h22)
  | (refine rd_read ?c18 rfl rfl (fun s19 sts19 => ?h18) ?_
     case h18 =>
       try replace hb := hb.up' sts19
       try replace hv := hv.up' sts19
       try replace h2 := h2.up' sts19
       try replace h3 := h3.up' sts19
       try replace h18 := h18.up' sts19
       try replace h19 := h19.up' sts19
       first | (refine k_field_addr fld56_1 rfl rfl ?_) | (refine k_field_at rfl (by assumption) (by rfl) fld56_1 rfl ?_; intro q22 h22)
       exact fq_end)
  first
  | (refine rd_read ?c20 rfl rfl (fun s21 sts21 => ?h20) ?_
     case h20 =>
       try replace hb := hb.up' sts21
       try replace hv := hv.up' sts21
       try replace h2 := h2.up' sts21
       try replace h3 := h3.up' sts21
       try replace h18 := h18.up' sts21
       try replace h19 := h19.up' sts21
       try replace h22 := h22.up' sts21
       first | refine k_load_blk one3 rfl (by assumption) (by rfl) rfl ?_ | refine k_load_val one3 rfl (by assumption) rfl ?_
       exact fq_end)
  first
  | (refine rd_read ?c22 rfl rfl (fun s23 sts23 => ?h22) ?_
     case h22 =>
       try replace hb := hb.up' sts23
       try replace hv := hv.up' sts23
       try replace h2 := h2.up' sts23
       try replace h3 := h3.up' sts23
       try replace h18 := h18.up' sts23
       try replace h19 := h19.up' sts23
       try replace h22 := h22.up' sts23
       first | refine k_load_blk one41 rfl (by assumption) (by rfl) rfl ?_ | refine k_load_val one41 rfl (by assumption) rfl ?_
       exact fq_end)
  first
  | (refine rd_read ?c24 rfl rfl (fun s25 sts25 => ?h24) ?_
     case h24 =>
       try replace hb := hb.up' sts25
       try replace hv := hv.up' sts25
       try replace h2 := h2.up' sts25
       try replace h3 := h3.up' sts25
       try replace h18 := h18.up' sts25
       try replace h19 := h19.up' sts25
       try replace h22 := h22.up' sts25
       first | refine k_nilCheck rfl rfl ?_ | refine k_nilCheck_at rfl (by assumption) rfl ?_
       exact fq_end)
  first
  | (refine rd_fa rfl (wanted_none rfl) rfl (by assumption) (by rfl) fld56_1 rfl ?_; intro q26 h26)
  | (refine rd_read ?c26 rfl rfl (fun s27 sts27 => ?h26) ?_
     case h26 =>
       try replace hb := hb.up' sts27
       try replace hv := hv.up' sts27
       try replace h2 := h2.up' sts27
       try replace h3 := h3.up' sts27
       try replace h18 := h18.up' sts27
       try replace h19 := h19.up' sts27
       try replace h22 := h22.up' sts27
       first | (refine k_field_addr fld56_1 rfl rfl ?_) | (refine k_field_at rfl (by assumption) (by rfl) fld56_1 rfl ?_; intro q26 h26)
       exact fq_end)
  first
  | (refine rd_read ?c28 rfl rfl (fun s29 sts29 => ?h28) ?_
     case h28 =>
       try replace hb := hb.up' sts29
       try replace hv := hv.up' sts29
       try replace h2 := h2.up' sts29
       try replace h3 := h3.up' sts29
       try replace h18 := h18.up' sts29
       try replace h19 := h19.up' sts29
       try replace h22 := h22.up' sts29
       try replace h26 := h26.up' sts29
       first | refine k_load_blk one3 rfl (by assumption) (by rfl) rfl ?_ | refine k_load_val one3 rfl (by assumption) rfl ?_
       exact fq_end)
  first
  | (refine rd_read ?c30 rfl rfl (fun s31 sts31 => ?h30) ?_
     case h30 =>
       try replace hb := hb.up' sts31
       try replace hv := hv.up' sts31
       try replace h2 := h2.up' sts31
       try replace h3 := h3.up' sts31
       try replace h18 := h18.up' sts31
       try replace h19 := h19.up' sts31
       try replace h22 := h22.up' sts31
       try replace h26 := h26.up' sts31
       first | refine k_load_blk one3 rfl (by assumption) (by rfl) rfl ?_ | refine k_load_val one3 rfl (by assumption) rfl ?_
       exact fq_end)
  first
  | (refine rd_read ?c32 rfl rfl (fun s33 sts33 => ?h32) ?_
     case h32 =>
       try replace hb := hb.up' sts33
       try replace hv := hv.up' sts33
       try replace h2 := h2.up' sts33
       try replace h3 := h3.up' sts33
       try replace h18 := h18.up' sts33
       try replace h19 := h19.up' sts33
       try replace h22 := h22.up' sts33
       try replace h26 := h26.up' sts33
       first | refine k_addN rfl rfl (by omega) (by omega) rfl ?_ | refine k_add rfl rfl rfl ?_
       exact fq_end)
  refine rd_act rfl rfl ?_
  refine k_cut_sl Try.underlying27 size5 rfl (by first | assumption | exact SL.of_R (by assumption) | exact Own.sl (by assumption)) (by first | exact CutAt.nat rfl | exact CutAt.int rfl (by omega)) (by first | exact CutAt.nat rfl | exact CutAt.int rfl (by omega)) (by first | omega | (simp; omega)) (by first | omega | (simp; omega)) rfl ?_
  intro v30 h30
  refine rd_cont (Step.refl _) ?_
  refine rd_act rfl rfl ?_
  refine k_call cal36 rfl (Clone_c (by first | assumption | omega | exact SL.of_R (by assumption) | exact Own.sl (by assumption)) (by first | omega | (simp; omega))) rfl ?_
  rintro s34 v31 sts34 h31
  have szs34 := sts34.size
  have hS : Step (KC k 0) s s34 := by first | exact hS.trans0 sts34 | exact hS.transK sts34 | exact hS.transOC sts34 | (refine hS.transNewC sts34 ?_; first | omega | (dsimp only; omega)) | (refine hS.transNewO sts34 ?_; first | omega | (dsimp only; omega)) | (refine hS.transSub sts34 ?_; intro l hl; simp only [KC, KO] at hl ⊢; omega)
  try replace hb := hb.up' sts34
  try replace hv := hv.up' sts34
  try replace h2 := h2.up' sts34
  try replace h3 := h3.up' sts34
  try replace h18 := h18.up' sts34
  try replace h19 := h19.up' sts34
  try replace h22 := h22.up' sts34
  try replace h26 := h26.up' sts34
  try replace h30 := h30.up' sts34
  refine rd_cont sts34 ?_
  refine rd_nil ?_
  refine k_assign rfl rfl ?_
  refine k_nil ?_
  refine k_keep [(2, _), (3, _), (4, _), (6, _)] ⟨rfl, rfl, rfl, rfl, trivial⟩ ?_
  refine k_seq ?_
  refine k_draw (K0) 6 [(false, 0), (false, 1), (false, 2), (false, 3), (false, 4), (false, 5)] mixed (fun _ h => h) rfl rfl ?_
  intro s35 sts35
  have szs35 := sts35.size
  have hS : Step (KC k 0) s s35 := by first | exact hS.trans0 sts35 | exact hS.transK sts35 | exact hS.transOC sts35 | (refine hS.transNewC sts35 ?_; first | omega | (dsimp only; omega)) | (refine hS.transNewO sts35 ?_; first | omega | (dsimp only; omega)) | (refine hS.transSub sts35 ?_; intro l hl; simp only [KC, KO] at hl ⊢; omega)
  try replace hb := hb.up' sts35
  try replace hv := hv.up' sts35
  try replace h2 := h2.up' sts35
  try replace h3 := h3.up' sts35
  try replace h18 := h18.up' sts35
  try replace h19 := h19.up' sts35
  try replace h22 := h22.up' sts35
  try replace h26 := h26.up' sts35
  try replace h30 := h30.up' sts35
  try replace h31 := h31.up' sts35
  first
  | (refine rd_read ?c36 rfl rfl (fun s37 sts37 => ?h36) ?_
     case h36 =>
       try replace hb := hb.up' sts37
       try replace hv := hv.up' sts37
       try replace h2 := h2.up' sts37
       try replace h3 := h3.up' sts37
       try replace h18 := h18.up' sts37
       try replace h19 := h19.up' sts37
       try replace h22 := h22.up' sts37
       try replace h26 := h26.up' sts37
       try replace h30 := h30.up' sts37
       try replace h31 := h31.up' sts37
       first | refine k_load_blk one41 rfl (by assumption) (by rfl) rfl ?_ | refine k_load_val one41 rfl (by assumption) rfl ?_
       exact fq_end)
  first
  | (refine rd_read ?c38 rfl rfl (fun s39 sts39 => ?h38) ?_
     case h38 =>
       try replace hb := hb.up' sts39
       try replace hv := hv.up' sts39
       try replace h2 := h2.up' sts39
       try replace h3 := h3.up' sts39
       try replace h18 := h18.up' sts39
       try replace h19 := h19.up' sts39
       try replace h22 := h22.up' sts39
       try replace h26 := h26.up' sts39
       try replace h30 := h30.up' sts39
       try replace h31 := h31.up' sts39
       first | refine k_nilCheck rfl rfl ?_ | refine k_nilCheck_at rfl (by assumption) rfl ?_
       exact fq_end)
  first
  | (refine rd_fa rfl (wanted_none rfl) rfl (by assumption) (by rfl) fld56_1 rfl ?_; intro q34 h34)
  | (refine rd_read ?c40 rfl rfl (fun s41 sts41 => ?h40) ?_
     case h40 =>
       try replace hb := hb.up' sts41
       try replace hv := hv.up' sts41
       try replace h2 := h2.up' sts41
       try replace h3 := h3.up' sts41
       try replace h18 := h18.up' sts41
       try replace h19 := h19.up' sts41
       try replace h22 := h22.up' sts41
       try replace h26 := h26.up' sts41
       try replace h30 := h30.up' sts41
       try replace h31 := h31.up' sts41
       first | (refine k_field_addr fld56_1 rfl rfl ?_) | (refine k_field_at rfl (by assumption) (by rfl) fld56_1 rfl ?_; intro q34 h34)
       exact fq_end)
  first
  | (refine rd_read ?c42 rfl rfl (fun s43 sts43 => ?h42) ?_
     case h42 =>
       try replace hb := hb.up' sts43
       try replace hv := hv.up' sts43
       try replace h2 := h2.up' sts43
       try replace h3 := h3.up' sts43
       try replace h18 := h18.up' sts43
       try replace h19 := h19.up' sts43
       try replace h22 := h22.up' sts43
       try replace h26 := h26.up' sts43
       try replace h30 := h30.up' sts43
       try replace h31 := h31.up' sts43
       try replace h34 := h34.up' sts43
       first | refine k_load_blk one3 rfl (by assumption) (by rfl) rfl ?_ | refine k_load_val one3 rfl (by assumption) rfl ?_
       exact fq_end)
  first
  | (refine rd_read ?c44 rfl rfl (fun s45 sts45 => ?h44) ?_
     case h44 =>
       try replace hb := hb.up' sts45
       try replace hv := hv.up' sts45
       try replace h2 := h2.up' sts45
       try replace h3 := h3.up' sts45
       try replace h18 := h18.up' sts45
       try replace h19 := h19.up' sts45
       try replace h22 := h22.up' sts45
       try replace h26 := h26.up' sts45
       try replace h30 := h30.up' sts45
       try replace h31 := h31.up' sts45
       try replace h34 := h34.up' sts45
       first | refine k_load_blk one3 rfl (by assumption) (by rfl) rfl ?_ | refine k_load_val one3 rfl (by assumption) rfl ?_
       exact fq_end)
  first
  | (refine rd_read ?c46 rfl rfl (fun s47 sts47 => ?h46) ?_
     case h46 =>
       try replace hb := hb.up' sts47
       try replace hv := hv.up' sts47
       try replace h2 := h2.up' sts47
       try replace h3 := h3.up' sts47
       try replace h18 := h18.up' sts47
       try replace h19 := h19.up' sts47
       try replace h22 := h22.up' sts47
       try replace h26 := h26.up' sts47
       try replace h30 := h30.up' sts47
       try replace h31 := h31.up' sts47
       try replace h34 := h34.up' sts47
       first | refine k_addN rfl rfl (by omega) (by omega) rfl ?_ | refine k_add rfl rfl rfl ?_
       exact fq_end)
  refine rd_nil ?_
  first | refine k_nilCheck rfl rfl ?_ | refine k_nilCheck_at rfl (by assumption) rfl ?_
  first | (refine k_field_addr fld56_1 rfl rfl ?_) | (refine k_field_at rfl (by assumption) (by rfl) fld56_1 rfl ?_; intro q39 h39)
  first
  | (refine k_store_blk size3 rfl rfl (by assumption) (by first | (simp; done) | (simp; omega) | omega) (by first | rfl | (have := SL.cells1 (by assumption); simpa using congrArg List.length this) | (have := SL.cells1 (Own.sl (by assumption)); simpa using congrArg List.length this)) (by first | rfl | (simp; done) | (rw [SL.cells1 (by assumption)]; simp [SL.one1 (by assumption)]) | (have hq := Own.sl (by assumption); rw [hq.cells1]; simp [hq.one1])) (by first | rfl | (simp <;> omega)) ?_; intro s48 sts48 hb39)
  | (refine k_store_elt size3 rfl rfl (by assumption) (by assumption) (by first | omega | (simp; omega)) (by first | assumption | exact R.of_SL (by assumption) | exact R.val rfl) (by rfl) ?_; intro s48 sts48 hb39)
  have szs48 := sts48.size
  have hS : Step (KC k 0) s s48 := by first | exact hS.trans0 sts48 | exact hS.transK sts48 | exact hS.transOC sts48 | (refine hS.transNewC sts48 ?_; first | omega | (dsimp only; omega)) | (refine hS.transNewO sts48 ?_; first | omega | (dsimp only; omega)) | (refine hS.transSub sts48 ?_; intro l hl; simp only [KC, KO] at hl ⊢; omega)
  try replace hb := hb.up' sts48
  try replace hv := hv.up' sts48
  try replace h2 := h2.up' sts48
  try replace h3 := h3.up' sts48
  try replace h18 := h18.up' sts48
  try replace h19 := h19.up' sts48
  try replace h22 := h22.up' sts48
  try replace h26 := h26.up' sts48
  try replace h30 := h30.up' sts48
  try replace h31 := h31.up' sts48
  try replace h34 := h34.up' sts48
  try replace h39 := h39.up' sts48
  refine k_nil ?_
  refine k_keep [(4, _), (6, _)] ⟨rfl, rfl, trivial⟩ ?_
  refine k_seq ?_
  refine k_region ?_
  refine k_move rfl rfl ?_
  refine k_assign rfl rfl ?_
  refine k_nil ?_
  refine k_keep [(4, _)] ⟨rfl, trivial⟩ ?_
  refine k_ret ?_
  refine ⟨_, rfl, Ret.mk hS ?_⟩
  exact ⟨by simpa [Bs, List.map_drop, List.map_take] using h31, hb39⟩

theorem take_len {r : Rd} {n : Int} : ((r.take n).1.length : Int) ≤ max n 0 := by
  unfold Rd.take
  split
  · simp; omega
  · split
    · simp; omega
    · simp; omega
theorem takeO_len {w : Option Rd} {n : Int} : ((takeO w n).1.length : Int) ≤ max n 0 := by
  cases w with
  | none => simp [takeO]; omega
  | some r => exact take_len
theorem R.nilB {s : St} : R s (.slice none 0 0) (.sl 1 (Bs [])) := R.of_SL (.inl ⟨rfl, none, 0, rfl, fun _ => rfl⟩)
theorem take_c {s : St} {k : Nat} {p : Value} {w : Option Rd} {n : Int} (h : RdO s k p w) : Calls Try.prog 46 #[p, .int .i64 n] s.w (Ret s (KC k 0) fun s1 v => R s1 v (.sl 1 (Bs (takeO w n).1)) ∧ RdO s1 k p (takeO w n).2) := by
  by_cases he : errO w = 2
  · have e1 : takeO w n = ([], w) := by
      cases w with
      | none => rfl
      | some r =>
        have : r.bad = true := by
          cases hb : r.bad with
          | true => rfl
          | false => rw [errO, hb] at he; simp at he
        simp [takeO, Rd.take, this]
    rw [e1]
    refine (take_out h he).mono ?_
    rintro e w' ⟨s1, v1, rfl, rfl, st, rfl⟩
    exact Ret.mk (st.of0 (by have := h.ne; intro c hh; simp [KC] at hh <;> omega)) ⟨R.nilB, h.up' st⟩
  · cases w with
    | none => exact absurd rfl he
    | some r =>
      obtain ⟨al, a, f⟩ := r
      obtain ⟨h0, h3, h4, b, v, rfl, h1, h2⟩ := h
      cases f with
      | true => exact absurd rfl he
      | false =>
        by_cases hn : 0 ≤ n ∧ n ≤ (al.length : Int) - a
        · obtain ⟨m, rfl⟩ : ∃ m : Nat, n = (m : Int) := ⟨n.toNat, by omega⟩
          have h3' : a ≤ al.length := h3
          refine (take_ok (n := m) h0 h1 h2 h3 h4 (by show a + m ≤ al.length; omega)).mono ?_
          rintro e w' ⟨s1, v1, rfl, rfl, st, g1, g2⟩
          have e1 : takeO (some ⟨al, a, false⟩) (m : Int) = ((al.drop a).take m, some ⟨al, a + m, false⟩) := by
            simp only [takeO, Rd.take]
            rw [if_neg (by simp), if_pos hn]
            simp
          rw [e1]
          refine Ret.mk st ⟨g1, h0, by show a + m ≤ al.length; omega, h4, b, v, rfl, g2, h2.up' st⟩
        · refine (take_no h0 h1 h2 h3 h4 hn).mono ?_
          rintro e w' ⟨s1, v1, rfl, rfl, st, rfl, g2⟩
          have e1 : takeO (some ⟨al, a, false⟩) n = ([], some ⟨al, a, true⟩) := by
            simp only [takeO, Rd.take]
            rw [if_neg (by simp), if_neg hn]
            rfl
          rw [e1]
          exact Ret.mk st ⟨R.nilB, h0, h3, h4, b, v, rfl, g2, h2.up' st⟩

end Go.Proofs
