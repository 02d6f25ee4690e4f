import Derived.Test.YtcagpghggohoiaaFwR
import Derived.Test.YtcagpghggohoiaaNum
import Derived.Test.YtcagpghggohoiaaProg
import Derived.Test.YtcagpghggohoiaaShelf
set_option linter.unusedSimpArgs false
set_option linter.unusedVariables false
namespace Go.Proofs
open Go.Fw
theorem arr81 : arrT Try.prog 81 5 9 1 := ⟨Try.underlying81, by kernel_rfl⟩
theorem cal17 : Callable Try.prog 17 := ⟨_, Try.func17, by kernel_rfl, by kernel_rfl⟩
theorem cal36 : Callable Try.prog 36 := ⟨_, Try.func36, by kernel_rfl, by kernel_rfl⟩
theorem cal40 : Callable Try.prog 40 := ⟨_, Try.func40, by kernel_rfl, by kernel_rfl⟩
theorem elem27 : elemT Try.prog 27 5 1 1 (.int .u8 0) := elemT_of Try.underlying27 (by kernel_rfl) (by kernel_rfl) (by kernel_rfl) (by kernel_rfl) (by decide)
theorem size5 : sizeT Try.prog 5 1 = true := by kernel_rfl
theorem slc27 : sliceT Try.prog 27 5 1 (.int .u8 0) := ⟨Try.underlying27, by kernel_rfl, by kernel_rfl, by kernel_rfl, by decide⟩
theorem zero81 : zeroT Try.prog 81 = some (.agg #[.int .u8 0, .int .u8 0, .int .u8 0, .int .u8 0, .int .u8 0, .int .u8 0, .int .u8 0, .int .u8 0, .int .u8 0]) := by kernel_rfl

theorem Len64_c {s : St} {x : Nat} (h1 : x < 18446744073709551616) : Calls Try.prog 40 #[.int .u64 (x : Int)] s.w (Ret s K0 fun _ v => v = .int .i64 (Lib.bitLen x)) := by
  refine (Try.bits_Len64 x s.w (by omega) (by omega)).mono ?_
  rintro e w' ⟨rfl, rfl⟩
  exact Ret.mk (Step.refl s) rfl
abbrev cellB (b : UInt8) : Value := .int .u8 b.toNat
theorem laid_set (x j : Nat) (hj : j < 9) : List.take (0 + (8 - (j : Int)).toNat * 1) (List.replicate (9 - j) (Value.int IntKind.u8 0) ++ List.map (fun b => Value.int IntKind.u8 b.toNat) (be j x)) ++ (Value.int IntKind.u8 ((x / 256 ^ j % 256 : Nat) : Int)).cells.toList ++ List.drop (0 + (8 - (j : Int)).toNat * 1 + 1) (List.replicate (9 - j) (Value.int IntKind.u8 0) ++ List.map (fun b => Value.int IntKind.u8 b.toNat) (be j x)) =
    List.replicate (9 - (j + 1)) (Value.int IntKind.u8 0) ++ List.map (fun b => Value.int IntKind.u8 b.toNat) (be (j + 1) x) := by
  have h1 : (8 - (j : Int)).toNat = 8 - j := by omega
  rw [h1, Nat.mul_one, Nat.zero_add, be_front]
  rw [List.take_append_of_le_length (by simp; omega), List.drop_append, List.drop_eq_nil_of_le (by simp; omega)]
  have h3 : 8 - j + 1 - (List.replicate (9 - j) (Value.int IntKind.u8 0)).length = 0 := by rw [List.length_replicate]; omega
  have h4 : min (8 - j) (9 - j) = 9 - (j + 1) := by omega
  rw [h3, List.drop_zero, List.take_replicate, h4]
  simp [Value.cells]
theorem laid_mid (x : Nat) (hz : 1 ≤ sizeN x ∧ sizeN x ≤ 9) (h : 1 < (sizeN x : Int)) : List.take (0 + (9 - (sizeN x : Int)).toNat * 1) (List.map cellB (be 9 x)) ++ (Value.int IntKind.u8 (247 + (sizeN x : Int) - 1)).cells.toList ++ List.drop (0 + (9 - (sizeN x : Int)).toNat * 1 + 1) (List.map cellB (be 9 x)) =
    ((be 9 x).take (9 - sizeN x) ++ UInt8.ofNat (246 + sizeN x) :: (be 9 x).drop (10 - sizeN x)).map cellB := by
  have h1 : (9 - (sizeN x : Int)).toNat = 9 - sizeN x := by omega
  have h2 : 9 - sizeN x + 1 = 10 - sizeN x := by omega
  have h3 : (247 + (sizeN x : Int) - 1) = ((UInt8.ofNat (246 + sizeN x)).toNat : Int) := by
    rw [UInt8.toNat_ofNat']; omega
  rw [h1, Nat.mul_one, Nat.zero_add, h2, h3]
  simp [Value.cells, List.map_take, List.map_drop]
theorem laid_one (x : Nat) (h : ¬ 1 < (sizeN x : Int)) : x ≤ 247 := by
  unfold sizeN at h
  split at h
  · assumption
  · have := blen_pos1 (x := x) (by omega)
    omega
theorem laid_end1 (x : Nat) (hx : x < 18446744073709551616) (h : 1 < (sizeN x : Int)) : (List.take (9 - (9 - (sizeN x : Int)).toNat) (List.drop (9 - (sizeN x : Int)).toNat (List.map cellB (List.take (9 - sizeN x) (be 9 x) ++ UInt8.ofNat (246 + sizeN x) :: List.drop (10 - sizeN x) (be 9 x))))).map D.val = Bs (encN x) := by
  have hz := sizeN_le hx
  have h1 : (9 - (sizeN x : Int)).toNat = 9 - sizeN x := by omega
  have hn : ¬ x ≤ 247 := by
    intro hle
    unfold sizeN at h
    rw [if_pos hle] at h
    omega
  have hs : sizeN x = 1 + blen x := by unfold sizeN; rw [if_neg hn]
  have hb := blen_le8 hx
  rw [h1, ← List.map_drop, List.drop_left' (by simp <;> omega), List.take_of_length_le (by simp <;> omega)]
  have e1 : List.drop (10 - sizeN x) (be 9 x) = be (blen x) x := by
    have := be_drop (9 - blen x) (blen x) x
    rw [show 9 - blen x + blen x = 9 by omega] at this
    rw [show 10 - sizeN x = 9 - blen x by omega]
    exact this
  rw [e1]
  unfold encN
  rw [if_neg hn, hs, show 246 + (1 + blen x) = 247 + blen x by omega]
  simp
theorem laid_end0 (x : Nat) (hz : 1 ≤ sizeN x ∧ sizeN x ≤ 9) (h : x ≤ 247) : (List.take (9 - (9 - (sizeN x : Int)).toNat) (List.drop (9 - (sizeN x : Int)).toNat (List.map cellB (be 9 x)))).map D.val = Bs (encN x) := by
  have hs : sizeN x = 1 := by unfold sizeN; rw [if_pos h]
  have h1 : (9 - (sizeN x : Int)).toNat = 8 := by omega
  have e1 : List.drop 8 (be 9 x) = be 1 x := be_drop 8 1 x
  rw [h1, ← List.map_drop, e1]
  unfold encN
  rw [if_pos h]
  simp [be, Nat.mod_eq_of_lt (show x < 256 by omega)]

set_option maxHeartbeats 2000000 in
set_option maxRecDepth 100000 in
theorem Size_c {s : St} {x : Nat} (hx : x < 18446744073709551616) : Calls Try.prog 17 #[.int .u64 (x : Int)] s.w (Ret s (K0) (fun _ v => v = .int .i64 (sizeN x))) := by
  have hb := Lib.bitLen_le x 64 (by omega) (by simpa using hx)
  have hbl := bitLen_blen x hx
  have hS : Step (K0) s s := (Step.refl _).of0 (by first | exact fun _ h => h | (intro c h; simp [KC, KO] at h <;> omega))
  refine k_fn (rs := [2]) (args := [.int .u64 (x : Int)]) Try.func17 rfl rfl rfl rfl ?_
  refine k_seq ?_
  refine k_region ?_
  refine k_assign rfl rfl ?_
  refine k_nil ?_
  refine k_seq ?_
  refine k_seq ?_
  refine k_region ?_
  refine k_move rfl rfl ?_
  refine k_leq rfl rfl rfl ?_
  refine k_nil ?_
  refine k_keep [(0, _), (2, _), (4, _)] ⟨rfl, rfl, rfl, trivial⟩ ?_
  first | refine k_cond_dec rfl (fun c4 => ?_) (fun c4 => ?_) | refine k_cond rfl (fun c4 => ?_) (fun c4 => ?_)
  · -- t4 True
    refine k_seq ?_
    refine k_region ?_
    refine k_assign rfl rfl ?_
    refine k_nil ?_
    refine k_keep [(0, _), (2, _)] ⟨rfl, rfl, trivial⟩ ?_
    refine k_ret ?_
    refine ⟨_, rfl, Ret.mk hS ?_⟩
    simp only [sizeN]
    rw [if_pos (by omega)]; rfl
  · -- t4 False
    refine k_skip ?_
    refine k_seq ?_
    refine k_region ?_
    refine k_move rfl rfl ?_
    refine k_call cal40 rfl (Len64_c (by first | assumption | omega | exact SL.of_R (by assumption) | exact Own.sl (by assumption))) rfl ?_
    rintro s2 v6 sts2 rfl
    have szs2 := sts2.size
    have hS : Step (K0) s s2 := by first | exact hS.trans0 sts2 | exact hS.transK sts2 | exact hS.transOC sts2 | (refine hS.transNewC sts2 ?_; first | omega | (dsimp only; omega)) | (refine hS.transNewO sts2 ?_; first | omega | (dsimp only; omega)) | (refine hS.transSub sts2 ?_; intro l hl; simp only [KC, KO] at hl ⊢; omega)
    first | refine k_addN rfl rfl (by omega) (by omega) rfl ?_ | refine k_add rfl rfl rfl ?_
    first | refine k_quoNN rfl rfl (by omega) (by omega) rfl ?_ | refine k_quoN rfl rfl (by omega) (by omega) (by omega) rfl ?_ | refine k_quo rfl rfl (by first | omega | decide) rfl ?_
    first | refine k_addN rfl rfl (by omega) (by omega) rfl ?_ | refine k_add rfl rfl rfl ?_
    refine k_assign rfl rfl ?_
    refine k_nil ?_
    refine k_keep [(2, _)] ⟨rfl, trivial⟩ ?_
    refine k_ret ?_
    refine ⟨_, rfl, Ret.mk hS ?_⟩
    simp only [sizeN, Int.toNat_natCast]
    rw [if_neg (by omega), ← hbl]; simp only [one]; congr 1 <;> omega

set_option maxHeartbeats 2000000 in
set_option maxRecDepth 100000 in
theorem Clone_c {s : St} {l : Lab} {v : Value} {ds : List D} (h : SL s l v 1 ds) (hl : ds.length ≤ 140737488355328) : Calls Try.prog 36 #[v] s.w (Ret s (K0) (fun s1 v1 => R s1 v1 (.sl 1 ds))) := by
  have hS : Step (K0) s s := (Step.refl _).of0 (by first | exact fun _ h => h | (intro c h; simp [KC, KO] at h <;> omega))
  refine k_fn (rs := [2]) (args := [v]) Try.func36 rfl rfl rfl rfl ?_
  refine k_seq ?_
  refine k_region ?_
  refine k_assign rfl rfl ?_
  refine k_nil ?_
  refine k_seq ?_
  refine k_seq ?_
  refine k_region ?_
  refine k_move rfl rfl ?_
  first | refine k_eql_snil Try.underlying27 rfl rfl rfl ?_ | refine k_eql_snilv Try.underlying27 rfl rfl (by first | assumption | exact SL.of_R (by assumption) | exact Own.sl (by assumption)) rfl ?_
  refine k_nil ?_
  refine k_keep [(0, _), (2, _), (4, _)] ⟨rfl, rfl, rfl, trivial⟩ ?_
  first | refine k_cond_dec rfl (fun c4 => ?_) (fun c4 => ?_) | refine k_cond rfl (fun c4 => ?_) (fun c4 => ?_)
  · -- t4 True
    refine k_seq ?_
    refine k_region ?_
    refine k_assign rfl rfl ?_
    refine k_nil ?_
    refine k_keep [(0, _), (2, _)] ⟨rfl, rfl, trivial⟩ ?_
    refine k_ret ?_
    refine ⟨_, rfl, Ret.mk hS ?_⟩
    obtain rfl := h.nilS_nil c4
    exact R.of_SL (.inl ⟨rfl, none, 0, rfl, fun _ => rfl⟩)
  · -- t4 False
    refine k_skip ?_
    refine k_seq ?_
    refine k_region ?_
    refine k_bslice_own (ds := []) slc27 rfl RVs.nil rfl rfl rfl rfl ?_
    intro s5 v5 b5 st5 ge5 h5
    have hS := hS.trans0 st5
    replace h := h.up' st5 (by first | exact id | simp)
    refine k_move rfl rfl ?_
    first
    | refine k_append elem27 rfl rfl (by assumption) (by first | assumption | exact SL.of_R (by assumption) | exact Own.sl (by assumption)) (by first | omega | (simp; omega)) (by first | omega | (simp; omega)) rfl ?_
    | refine k_append_nil 1007 elem27 rfl rfl (by first | assumption | exact SL.of_R (by assumption) | exact Own.sl (by assumption)) (by first | omega | (simp; omega)) (by first | omega | (simp; omega)) rfl ?_
    intro s2 v7 sts2 h7
    have szs2 := sts2.size
    have hS : Step (K0) s s2 := by first | exact hS.trans0 sts2 | exact hS.transK sts2 | exact hS.transOC sts2 | (refine hS.transNewC sts2 ?_; first | omega | (dsimp only; omega)) | (refine hS.transNewO sts2 ?_; first | omega | (dsimp only; omega)) | (refine hS.transSub sts2 ?_; intro l hl; simp only [KC, KO] at hl ⊢; omega)
    try replace h := h.up' sts2
    refine k_assign rfl rfl ?_
    refine k_nil ?_
    refine k_keep [(2, _)] ⟨rfl, trivial⟩ ?_
    refine k_ret ?_
    obtain ⟨s9, e9, st9, r9⟩ := h7.freeze
    refine ⟨_, rfl, ?_⟩
    rw [← e9]
    exact Ret.mk (hS.transNewC st9 (by dsimp only; omega)) (by simpa using r9)

set_option maxHeartbeats 2000000 in
set_option maxRecDepth 100000 in
theorem laid_c {s : St} {x : Nat} (hx : x < 18446744073709551616) : Calls Try.prog 35 #[.int .u64 (x : Int)] s.w (Ret s (K0) (fun s1 v1 => R s1 v1 (.sl 1 (Bs (encN x))))) := by
  have hz := sizeN_le hx
  have hS : Step (K0) s s := (Step.refl _).of0 (by first | exact fun _ h => h | (intro c h; simp [KC, KO] at h <;> omega))
  refine k_fn (rs := [2]) (args := [.int .u64 (x : Int)]) Try.func35 rfl rfl rfl rfl ?_
  refine k_seq ?_
  refine k_region ?_
  refine k_assign rfl rfl ?_
  refine k_nil ?_
  refine k_seq ?_
  refine k_region ?_
  refine k_alloc zero81 rfl ?_
  intro s1 b3 sts1 h3 ge3
  have szs1 := sts1.size
  have hS : Step (K0) s s1 := by first | exact hS.trans0 sts1 | exact hS.transK sts1 | exact hS.transOC sts1 | (refine hS.transNewC sts1 ?_; first | omega | (dsimp only; omega)) | (refine hS.transNewO sts1 ?_; first | omega | (dsimp only; omega)) | (refine hS.transSub sts1 ?_; intro l hl; simp only [KC, KO] at hl ⊢; omega)
  refine k_nil ?_
  refine k_seq ?_
  refine k_region ?_
  refine k_move rfl rfl ?_
  refine k_call cal17 rfl (Size_c (by first | assumption | omega | exact SL.of_R (by assumption) | exact Own.sl (by assumption))) rfl ?_
  rintro s2 v7 sts2 rfl
  have szs2 := sts2.size
  have hS : Step (K0) s s2 := by first | exact hS.trans0 sts2 | exact hS.transK sts2 | exact hS.transOC sts2 | (refine hS.transNewC sts2 ?_; first | omega | (dsimp only; omega)) | (refine hS.transNewO sts2 ?_; first | omega | (dsimp only; omega)) | (refine hS.transSub sts2 ?_; intro l hl; simp only [KC, KO] at hl ⊢; omega)
  try replace h3 := h3.up' sts2
  refine k_assign rfl rfl ?_
  refine k_nil ?_
  refine k_keep [(0, _), (2, _), (3, _), (4, _)] ⟨rfl, rfl, rfl, rfl, trivial⟩ ?_
  refine k_seq ?_
  refine k_seq ?_
  refine k_region ?_
  refine k_assign rfl rfl ?_
  refine k_nil ?_
  refine k_block ?_
  refine k_loopc (X := St × Nat) [(2, _), (3, _), (4, _)] (fun (xL : St × Nat) => match xL with | (sl, j) => [(0, .int .u64 ((x / 256 ^ j : Nat) : Int)), (5, .int .i64 (8 - (j : Int)))]) (fun (xL : St × Nat) wL => match xL with | (sl, j) => sl.w = wL ∧ Step (KC (b3 + 1) 0) s2 sl ∧ (Blk sl b3 ⟨b3 + 1, 0⟩ (List.replicate (9 - j) (Value.int .u8 0) ++ (be j x).map fun b => Value.int .u8 b.toNat) 81 ∧ j ≤ 9)) (fun (xL : St × Nat) => match xL with | (sl, j) => 9 - j) (s2, 0) ⟨rfl, rfl, rfl, trivial⟩ ?hv3 ?hi3 ?round3
  case hv3 => exact ⟨(by first | rfl | (simp <;> rfl)), (by first | rfl | (simp <;> rfl)), trivial⟩
  case hi3 =>
    refine ⟨rfl, (Step.refl _).of0 (by first | exact fun _ h => h | (intro c h; simp [KC, KO] at h <;> omega)), ?_⟩
    exact ⟨h3, by omega⟩
  rintro ⟨s4, j⟩ wL ⟨rfl, hE3, h3, hj⟩
  have stE3 := hE3
  have szs4 := stE3.size
  have hS : Step (K0) s s4 := by first | exact hS.trans0 stE3 | exact hS.transK stE3 | exact hS.transOC stE3 | (refine hS.transNewC stE3 ?_; first | omega | (dsimp only; omega)) | (refine hS.transNewO stE3 ?_; first | omega | (dsimp only; omega)) | (refine hS.transSub stE3 ?_; intro l hl; simp only [KC, KO] at hl ⊢; omega)
  try replace h3 := h3.up' stE3
  refine k_seq ?_
  refine k_seq ?_
  refine k_region ?_
  refine k_move rfl rfl ?_
  refine k_geq rfl rfl rfl ?_
  refine k_nil ?_
  refine k_keep [(0, _), (2, _), (3, _), (4, _), (5, _), (9, _)] ⟨rfl, rfl, rfl, rfl, rfl, rfl, trivial⟩ ?_
  first | refine k_cond_dec rfl (fun c9 => ?_) (fun c9 => ?_) | refine k_cond rfl (fun c9 => ?_) (fun c9 => ?_)
  · -- t9 True
    refine k_skip ?_
    refine k_seq ?_
    refine k_block ?_
    refine k_seq ?_
    refine k_region ?_
    refine k_move rfl rfl ?_
    refine k_move rfl rfl ?_
    first | refine k_convN Try.underlying29 Try.underlying5 rfl (wrap_u8 (by omega) (by omega)) rfl ?_ | refine k_conv_u8 Try.underlying29 Try.underlying5 rfl rfl ?_ | refine k_conv Try.underlying29 Try.underlying5 rfl rfl ?_
    refine k_ixaddr_arr arr81 rfl rfl (by omega) (by omega) rfl ?_
    first
    | (refine k_store_blk size5 rfl rfl (by assumption) (by first | (simp; done) | (simp; omega) | omega) (by first | rfl | (have := SL.cells1 (by assumption); simpa using congrArg List.length this) | (have := SL.cells1 (Own.sl (by assumption)); simpa using congrArg List.length this)) (by first | rfl | (simp; done) | (rw [SL.cells1 (by assumption)]; simp [SL.one1 (by assumption)]) | (have hq := Own.sl (by assumption); rw [hq.cells1]; simp [hq.one1])) (by first | rfl | (simp <;> omega)) ?_; intro s6 sts6 hb15)
    | (refine k_store_elt size5 rfl rfl (by assumption) (by assumption) (by first | omega | (simp; omega)) (by first | assumption | exact R.of_SL (by assumption) | exact R.val rfl) (by rfl) ?_; intro s6 sts6 hb15)
    have szs6 := sts6.size
    have hS : Step (K0) s s6 := by first | exact hS.trans0 sts6 | exact hS.transK sts6 | exact hS.transOC sts6 | (refine hS.transNewC sts6 ?_; first | omega | (dsimp only; omega)) | (refine hS.transNewO sts6 ?_; first | omega | (dsimp only; omega)) | (refine hS.transSub sts6 ?_; intro l hl; simp only [KC, KO] at hl ⊢; omega)
    have hE3 : Step (KC (b3 + 1) 0) s2 s6 := by first | exact hE3.trans0 sts6 | exact hE3.transK sts6 | exact hE3.transOC sts6 | (refine hE3.transNewC sts6 ?_; first | omega | (dsimp only; omega)) | (refine hE3.transNewO sts6 ?_; first | omega | (dsimp only; omega)) | (refine hE3.transSub sts6 ?_; intro l hl; simp only [KC, KO] at hl ⊢; omega)
    try replace h3 := h3.up' sts6
    refine k_nil ?_
    refine k_keep [(0, _), (2, _), (3, _), (4, _), (5, _)] ⟨rfl, rfl, rfl, rfl, rfl, trivial⟩ ?_
    refine k_region ?_
    refine k_move rfl rfl ?_
    first | refine k_shrCN (m := 256) rfl rfl rfl rfl rfl ?_ | refine k_shrC (m := 256) rfl rfl rfl rfl (by omega) rfl ?_
    refine k_assign rfl rfl ?_
    refine k_nil ?_
    refine k_blk ?_
    refine k_region ?_
    refine k_move rfl rfl ?_
    first | refine k_subN rfl rfl (by omega) (by omega) rfl ?_ | refine k_sub_ rfl rfl rfl ?_
    refine k_assign rfl rfl ?_
    refine k_nil ?_
    refine k_stop ⟨(s6, j + 1), ⟨?_, ?_, trivial⟩, ⟨rfl, rfl, rfl, trivial⟩, ⟨rfl, hE3, ?_⟩, ?_⟩
    · rw [Nat.pow_succ, ← Nat.div_div_eq_div_mul]; rfl
    · first | rfl | exact congrArg (fun z => some (Value.int _ z)) (by omega) | exact congrArg (fun z => some (Value.int _ z)) (by simp; done) | (simp; done)
    · exact ⟨by rw [laid_set x j (by omega)] at hb15; exact hb15, by omega⟩
    · first | omega | (dsimp only; omega)
  · -- t9 False
    obtain rfl : j = 9 := by omega
    have h3 : Blk s4 b3 ⟨b3 + 1, 0⟩ ((be 9 x).map cellB) 81 := by simpa using h3
    refine k_exit rfl ?_
    refine k_seq ?_
    refine k_seq ?_
    refine k_region ?_
    refine k_move rfl rfl ?_
    refine k_gtr rfl rfl rfl ?_
    refine k_nil ?_
    refine k_keep [(2, _), (3, _), (4, _), (19, _)] ⟨rfl, rfl, rfl, rfl, trivial⟩ ?_
    first | refine k_cond_dec rfl (fun c19 => ?_) (fun c19 => ?_) | refine k_cond rfl (fun c19 => ?_) (fun c19 => ?_)
    · -- t19 True
      refine k_region ?_
      refine k_move rfl rfl ?_
      first | refine k_subN rfl rfl (by omega) (by omega) rfl ?_ | refine k_sub_ rfl rfl rfl ?_
      refine k_move rfl rfl ?_
      first | refine k_addN rfl rfl (by omega) (by omega) rfl ?_ | refine k_add rfl rfl rfl ?_
      first | refine k_subN rfl rfl (by omega) (by omega) rfl ?_ | refine k_sub_ rfl rfl rfl ?_
      first | refine k_convN Try.underlying3 Try.underlying5 rfl (wrap_u8 (by omega) (by omega)) rfl ?_ | refine k_conv_u8 Try.underlying3 Try.underlying5 rfl rfl ?_ | refine k_conv Try.underlying3 Try.underlying5 rfl rfl ?_
      refine k_ixaddr_arr arr81 rfl rfl (by omega) (by omega) rfl ?_
      first
      | (refine k_store_blk size5 rfl rfl (by assumption) (by first | (simp; done) | (simp; omega) | omega) (by first | rfl | (have := SL.cells1 (by assumption); simpa using congrArg List.length this) | (have := SL.cells1 (Own.sl (by assumption)); simpa using congrArg List.length this)) (by first | rfl | (simp; done) | (rw [SL.cells1 (by assumption)]; simp [SL.one1 (by assumption)]) | (have hq := Own.sl (by assumption); rw [hq.cells1]; simp [hq.one1])) (by first | rfl | (simp <;> omega)) ?_; intro s8 sts8 hb26)
      | (refine k_store_elt size5 rfl rfl (by assumption) (by assumption) (by first | omega | (simp; omega)) (by first | assumption | exact R.of_SL (by assumption) | exact R.val rfl) (by rfl) ?_; intro s8 sts8 hb26)
      have szs8 := sts8.size
      have hS : Step (K0) s s8 := by first | exact hS.trans0 sts8 | exact hS.transK sts8 | exact hS.transOC sts8 | (refine hS.transNewC sts8 ?_; first | omega | (dsimp only; omega)) | (refine hS.transNewO sts8 ?_; first | omega | (dsimp only; omega)) | (refine hS.transSub sts8 ?_; intro l hl; simp only [KC, KO] at hl ⊢; omega)
      have hE3 : Step (KC (b3 + 1) 0) s2 s8 := by first | exact hE3.trans0 sts8 | exact hE3.transK sts8 | exact hE3.transOC sts8 | (refine hE3.transNewC sts8 ?_; first | omega | (dsimp only; omega)) | (refine hE3.transNewO sts8 ?_; first | omega | (dsimp only; omega)) | (refine hE3.transSub sts8 ?_; intro l hl; simp only [KC, KO] at hl ⊢; omega)
      try replace h3 := h3.up' sts8
      rw [laid_mid x hz c19] at hb26
      refine k_nil ?_
      refine k_keep [(2, _), (3, _), (4, _)] ⟨rfl, rfl, rfl, trivial⟩ ?_
      refine k_seq ?_
      refine k_region ?_
      refine k_move rfl rfl ?_
      first | refine k_subN rfl rfl (by omega) (by omega) rfl ?_ | refine k_sub_ rfl rfl rfl ?_
      refine k_cut_arr arr81 rfl (by assumption) (by first | rfl | (simp; omega)) (by first | rfl | exact all_bytes _ | (simp; done)) (by first | exact CutAt.nat rfl | exact CutAt.int rfl (by omega)) CutAt.none (by first | omega | (simp; omega)) (by first | omega | (simp; omega)) rfl ?_
      intro v29 h29
      refine k_call cal36 rfl (Clone_c (by first | assumption | omega | exact SL.of_R (by assumption) | exact Own.sl (by assumption)) (by first | omega | (simp; omega))) rfl ?_
      rintro s9 v30 sts9 h30
      have szs9 := sts9.size
      have hS : Step (K0) s s9 := by first | exact hS.trans0 sts9 | exact hS.transK sts9 | exact hS.transOC sts9 | (refine hS.transNewC sts9 ?_; first | omega | (dsimp only; omega)) | (refine hS.transNewO sts9 ?_; first | omega | (dsimp only; omega)) | (refine hS.transSub sts9 ?_; intro l hl; simp only [KC, KO] at hl ⊢; omega)
      have hE3 : Step (KC (b3 + 1) 0) s2 s9 := by first | exact hE3.trans0 sts9 | exact hE3.transK sts9 | exact hE3.transOC sts9 | (refine hE3.transNewC sts9 ?_; first | omega | (dsimp only; omega)) | (refine hE3.transNewO sts9 ?_; first | omega | (dsimp only; omega)) | (refine hE3.transSub sts9 ?_; intro l hl; simp only [KC, KO] at hl ⊢; omega)
      try replace h3 := h3.up' sts9
      try replace hb26 := hb26.up' sts9
      try replace h29 := h29.up' sts9
      refine k_assign rfl rfl ?_
      refine k_nil ?_
      refine k_keep [(2, _)] ⟨rfl, trivial⟩ ?_
      refine k_ret ?_
      refine ⟨_, rfl, Ret.mk hS ?_⟩
      first | (have e := laid_end1 x hx c19) | (have e := laid_end0 x hz hx1)
      rw [e] at h30
      exact h30
    · -- t19 False
      have hx1 := laid_one x c19
      refine k_skip ?_
      refine k_seq ?_
      refine k_region ?_
      refine k_move rfl rfl ?_
      first | refine k_subN rfl rfl (by omega) (by omega) rfl ?_ | refine k_sub_ rfl rfl rfl ?_
      refine k_cut_arr arr81 rfl (by assumption) (by first | rfl | (simp; omega)) (by first | rfl | exact all_bytes _ | (simp; done)) (by first | exact CutAt.nat rfl | exact CutAt.int rfl (by omega)) CutAt.none (by first | omega | (simp; omega)) (by first | omega | (simp; omega)) rfl ?_
      intro v29 h29
      refine k_call cal36 rfl (Clone_c (by first | assumption | omega | exact SL.of_R (by assumption) | exact Own.sl (by assumption)) (by first | omega | (simp; omega))) rfl ?_
      rintro s10 v30 sts10 h30
      have szs10 := sts10.size
      have hS : Step (K0) s s10 := by first | exact hS.trans0 sts10 | exact hS.transK sts10 | exact hS.transOC sts10 | (refine hS.transNewC sts10 ?_; first | omega | (dsimp only; omega)) | (refine hS.transNewO sts10 ?_; first | omega | (dsimp only; omega)) | (refine hS.transSub sts10 ?_; intro l hl; simp only [KC, KO] at hl ⊢; omega)
      have hE3 : Step (KC (b3 + 1) 0) s2 s10 := by first | exact hE3.trans0 sts10 | exact hE3.transK sts10 | exact hE3.transOC sts10 | (refine hE3.transNewC sts10 ?_; first | omega | (dsimp only; omega)) | (refine hE3.transNewO sts10 ?_; first | omega | (dsimp only; omega)) | (refine hE3.transSub sts10 ?_; intro l hl; simp only [KC, KO] at hl ⊢; omega)
      try replace h3 := h3.up' sts10
      try replace h29 := h29.up' sts10
      refine k_assign rfl rfl ?_
      refine k_nil ?_
      refine k_keep [(2, _)] ⟨rfl, trivial⟩ ?_
      refine k_ret ?_
      refine ⟨_, rfl, Ret.mk hS ?_⟩
      first | (have e := laid_end1 x hx c19) | (have e := laid_end0 x hz hx1)
      rw [e] at h30
      exact h30

end Go.Proofs
