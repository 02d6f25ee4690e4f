import Derived.Test.YtcagpghggohoiaaY02I
set_option linter.unusedSimpArgs false
set_option linter.unusedVariables false
namespace Go.Proofs
open Go.Fw
theorem cal10 : Callable Try.prog 10 := ⟨_, Try.func10, by kernel_rfl, by kernel_rfl⟩
theorem cal12 : Callable Try.prog 12 := ⟨_, Try.func12, by kernel_rfl, by kernel_rfl⟩
theorem cal20 : Callable Try.prog 20 := ⟨_, Try.func20, by kernel_rfl, by kernel_rfl⟩
theorem cal26 : Callable Try.prog 26 := ⟨_, Try.func26, by kernel_rfl, by kernel_rfl⟩
theorem cal30 : Callable Try.prog 30 := ⟨_, Try.func30, by kernel_rfl, by kernel_rfl⟩
theorem cal31 : Callable Try.prog 31 := ⟨_, Try.func31, by kernel_rfl, by kernel_rfl⟩
theorem cal32 : Callable Try.prog 32 := ⟨_, Try.func32, by kernel_rfl, by kernel_rfl⟩
theorem cal33 : Callable Try.prog 33 := ⟨_, Try.func33, by kernel_rfl, by kernel_rfl⟩

theorem aw1 : encs [0, 247, 248, 300] = [0, 247, 248, 248, 249, 1, 44] := by simp [encs, encN, blen, be]
theorem aw2 : Rd.uint ⟨[248, 7], 0, false⟩ = (0, ⟨[248, 7], 0, true⟩) := by simp [Rd.uint, Rd.whole, Rd.uint1, Rd.take, valB, sizeN, blen, Rd.fail]
theorem aw3 : Rd.text 9 ⟨[2, 97], 0, false⟩ = ([], ⟨[2, 97], 0, true⟩) := by rfl
theorem aw4 : be 4 258 = [0, 0, 1, 2] := by simp [be]
theorem aw5 : encN 2 = [2] := by simp [encN]
theorem aw6 : sizeN 300 = 3 := by simp [sizeN, blen]
theorem RText_some {s : St} {k : Nat} {p : Value} {r r1 : Rd} {l : List UInt8} {most : Int} (h : RdO s k p (some r)) (e : r.text most = (l, r1)) (hmo : most < 9223372036854775808) : Calls Try.prog 32 #[p, .int .i64 most] s.w (Ret s (KC k 0) fun s1 v1 => v1 = S l ∧ RdO s1 k p (some r1)) := by
  have := RText_c (most := most) h hmo
  simp only [optR, e] at this
  exact this

set_option maxHeartbeats 2000000 in
set_option maxRecDepth 100000 in
theorem awake_c {s : St} : Calls Try.prog 9 #[] s.w (Ret s (K0) (fun s1 v1 => v1 = .bool true)) := by
  have hS : Step (K0) s s := (Step.refl _).of0 (by first | exact fun _ h => h | (intro c h; simp [KC, KO] at h <;> omega))
  refine k_fn (rs := [0]) (args := []) Try.func9 rfl rfl rfl rfl ?_
  refine k_seq ?_
  refine k_region ?_
  refine k_assign rfl rfl ?_
  refine k_nil ?_
  refine k_seq ?_
  refine k_region ?_
  refine k_call cal10 rfl (NewWriter_c) rfl ?_
  rintro s1 v6 sts1 ⟨k6, hk6, hw6⟩
  have szs1 := sts1.size
  have hS : Step (K0) s s1 := by first | exact hS.trans0 sts1 | exact hS.transK sts1 | exact hS.transOC sts1 | (refine hS.transNewC sts1 ?_; first | omega | (dsimp only; omega)) | (refine hS.transNewO sts1 ?_; first | omega | (dsimp only; omega)) | (refine hS.transSub sts1 ?_; intro l hl; simp only [KC, KO] at hl ⊢; omega)
  have hl6 := hw6.le
  refine k_assign rfl rfl ?_
  refine k_nil ?_
  refine k_keep [(0, _), (1, _)] ⟨rfl, rfl, trivial⟩ ?_
  refine k_seq ?_
  refine k_region ?_
  refine k_move rfl rfl ?_
  refine k_bslice slc22 rfl (RVs.cons (by first | assumption | exact R.of_SL (by assumption) | exact R.val rfl) (RVs.cons (by first | assumption | exact R.of_SL (by assumption) | exact R.val rfl) (RVs.cons (by first | assumption | exact R.of_SL (by assumption) | exact R.val rfl) (RVs.cons (by first | assumption | exact R.of_SL (by assumption) | exact R.val rfl) RVs.nil)))) (by rfl) (by rfl) rfl rfl ?_
  intro s2 v8 sts2 h8
  have szs2 := sts2.size
  have hS : Step (K0) s s2 := by first | exact hS.trans0 sts2 | exact hS.transK sts2 | exact hS.transOC sts2 | (refine hS.transNewC sts2 ?_; first | omega | (dsimp only; omega)) | (refine hS.transNewO sts2 ?_; first | omega | (dsimp only; omega)) | (refine hS.transSub sts2 ?_; intro l hl; simp only [KC, KO] at hl ⊢; omega)
  try replace hw6 := hw6.up' sts2
  have h8 : SL s2 L0 v8 1 ([0, 247, 248, 300].map uD) := SL.of_R h8
  refine k_call cal11 rfl (Put_c (by assumption) (by first | assumption | omega | exact SL.of_R (by assumption) | exact Own.sl (by assumption)) (by first | assumption | decide | (simp; done) | (simp; omega)) (by first | omega | decide | (simp; done) | (simp; omega) | (simp [wl]; omega)) (by first | assumption | omega | (simp; omega))) rfl ?_
  rintro s3 v9 sts3 ⟨rfl, hw6⟩
  have szs3 := sts3.size
  have hS : Step (K0) s s3 := by first | exact hS.trans0 sts3 | exact hS.transK sts3 | exact hS.transOC sts3 | (refine hS.transNewC sts3 ?_; first | omega | (dsimp only; omega)) | (refine hS.transNewO sts3 ?_; first | omega | (dsimp only; omega)) | (refine hS.transSub sts3 ?_; intro l hl; simp only [KC, KO] at hl ⊢; omega)
  try replace hw6 := hw6.up' sts3
  try replace h8 := h8.up' sts3
  refine k_nil ?_
  refine k_keep [(0, _), (1, _)] ⟨rfl, rfl, trivial⟩ ?_
  refine k_seq ?_
  refine k_region ?_
  have ew : Option.map (fun x => x ++ encs [0, 247, 248, 300]) (some []) = some [0, 247, 248, 248, 249, 1, 44] := by simp [aw1]
  rw [ew] at hw6
  refine k_move rfl rfl ?_
  refine k_call cal30 rfl (U32_c (by assumption) (by first | assumption | omega | decide) (by first | omega | decide | (simp; done) | (simp; omega) | (simp [wl]; omega))) rfl ?_
  rintro s4 v11 sts4 ⟨rfl, hw6⟩
  have szs4 := sts4.size
  have hS : Step (K0) s s4 := by first | exact hS.trans0 sts4 | exact hS.transK sts4 | exact hS.transOC sts4 | (refine hS.transNewC sts4 ?_; first | omega | (dsimp only; omega)) | (refine hS.transNewO sts4 ?_; first | omega | (dsimp only; omega)) | (refine hS.transSub sts4 ?_; intro l hl; simp only [KC, KO] at hl ⊢; omega)
  try replace hw6 := hw6.up' sts4
  try replace h8 := h8.up' sts4
  try replace hw6 := hw6.up' sts4
  refine k_nil ?_
  refine k_keep [(0, _), (1, _)] ⟨rfl, rfl, trivial⟩ ?_
  refine k_seq ?_
  refine k_region ?_
  have ew : Option.map (fun x => x ++ be 4 258) (some [0, 247, 248, 248, 249, 1, 44]) = some [0, 247, 248, 248, 249, 1, 44, 0, 0, 1, 2] := by simp [aw4]
  rw [ew] at hw6
  refine k_move rfl rfl ?_
  refine k_call cal31 rfl (WText_c (by assumption) (by first | omega | decide | (simp; done) | (simp; omega) | (simp [wl]; omega))) rfl ?_
  rintro s5 v13 sts5 ⟨rfl, hw6⟩
  have szs5 := sts5.size
  have hS : Step (K0) s s5 := by first | exact hS.trans0 sts5 | exact hS.transK sts5 | exact hS.transOC sts5 | (refine hS.transNewC sts5 ?_; first | omega | (dsimp only; omega)) | (refine hS.transNewO sts5 ?_; first | omega | (dsimp only; omega)) | (refine hS.transSub sts5 ?_; intro l hl; simp only [KC, KO] at hl ⊢; omega)
  try replace hw6 := hw6.up' sts5
  try replace h8 := h8.up' sts5
  try replace hw6 := hw6.up' sts5
  try replace hw6 := hw6.up' sts5
  refine k_nil ?_
  refine k_keep [(0, _), (1, _)] ⟨rfl, rfl, trivial⟩ ?_
  refine k_seq ?_
  refine k_region ?_
  have hw6 : WrO s5 k6 v6 (some [0, 247, 248, 248, 249, 1, 44, 0, 0, 1, 2, 2, 97, 98]) := by simpa [aw5] using hw6
  refine k_bslice slc27 rfl (RVs.cons (by first | assumption | exact R.of_SL (by assumption) | exact R.val rfl) (RVs.cons (by first | assumption | exact R.of_SL (by assumption) | exact R.val rfl) RVs.nil)) (by rfl) (by rfl) rfl rfl ?_
  intro s6 v14 sts6 h14
  have szs6 := sts6.size
  have hS : Step (K0) s s6 := by first | exact hS.trans0 sts6 | exact hS.transK sts6 | exact hS.transOC sts6 | (refine hS.transNewC sts6 ?_; first | omega | (dsimp only; omega)) | (refine hS.transNewO sts6 ?_; first | omega | (dsimp only; omega)) | (refine hS.transSub sts6 ?_; intro l hl; simp only [KC, KO] at hl ⊢; omega)
  try replace hw6 := hw6.up' sts6
  try replace h8 := h8.up' sts6
  try replace hw6 := hw6.up' sts6
  try replace hw6 := hw6.up' sts6
  try replace hw6 := hw6.up' sts6
  have h14 : SL s6 L0 v14 1 (Bs [248, 7]) := SL.of_R h14
  refine k_call cal20 rfl (NewReader_c (by first | assumption | omega | exact SL.of_R (by assumption) | exact Own.sl (by assumption)) (by first | assumption | decide | (unfold BIG; omega) | (unfold BIG; simp; done) | (unfold BIG; simp; omega))) rfl ?_
  rintro s7 v15 sts7 ⟨k15, hk15, hw15⟩
  have szs7 := sts7.size
  have hS : Step (K0) s s7 := by first | exact hS.trans0 sts7 | exact hS.transK sts7 | exact hS.transOC sts7 | (refine hS.transNewC sts7 ?_; first | omega | (dsimp only; omega)) | (refine hS.transNewO sts7 ?_; first | omega | (dsimp only; omega)) | (refine hS.transSub sts7 ?_; intro l hl; simp only [KC, KO] at hl ⊢; omega)
  try replace hw6 := hw6.up' sts7
  try replace h8 := h8.up' sts7
  try replace hw6 := hw6.up' sts7
  try replace hw6 := hw6.up' sts7
  try replace hw6 := hw6.up' sts7
  try replace h14 := h14.up' sts7
  have hl15 := hw15.le
  refine k_assign rfl rfl ?_
  refine k_nil ?_
  refine k_keep [(0, _), (1, _), (2, _)] ⟨rfl, rfl, rfl, trivial⟩ ?_
  refine k_seq ?_
  refine k_region ?_
  refine k_move rfl rfl ?_
  refine k_call cal21 rfl (RUint_some (by assumption) aw2) rfl ?_
  rintro s8 v17 sts8 ⟨rfl, hw15⟩
  have szs8 := sts8.size
  have hS : Step (K0) s s8 := by first | exact hS.trans0 sts8 | exact hS.transK sts8 | exact hS.transOC sts8 | (refine hS.transNewC sts8 ?_; first | omega | (dsimp only; omega)) | (refine hS.transNewO sts8 ?_; first | omega | (dsimp only; omega)) | (refine hS.transSub sts8 ?_; intro l hl; simp only [KC, KO] at hl ⊢; omega)
  try replace hw6 := hw6.up' sts8
  try replace h8 := h8.up' sts8
  try replace hw6 := hw6.up' sts8
  try replace hw6 := hw6.up' sts8
  try replace hw6 := hw6.up' sts8
  try replace h14 := h14.up' sts8
  try replace hw15 := hw15.up' sts8
  refine k_assign rfl rfl ?_
  refine k_nil ?_
  refine k_keep [(0, _), (1, _), (2, _), (3, _)] ⟨rfl, rfl, rfl, rfl, trivial⟩ ?_
  refine k_seq ?_
  refine k_region ?_
  refine k_bslice slc27 rfl (RVs.cons (by first | assumption | exact R.of_SL (by assumption) | exact R.val rfl) (RVs.cons (by first | assumption | exact R.of_SL (by assumption) | exact R.val rfl) RVs.nil)) (by rfl) (by rfl) rfl rfl ?_
  intro s9 v18 sts9 h18
  have szs9 := sts9.size
  have hS : Step (K0) s s9 := by first | exact hS.trans0 sts9 | exact hS.transK sts9 | exact hS.transOC sts9 | (refine hS.transNewC sts9 ?_; first | omega | (dsimp only; omega)) | (refine hS.transNewO sts9 ?_; first | omega | (dsimp only; omega)) | (refine hS.transSub sts9 ?_; intro l hl; simp only [KC, KO] at hl ⊢; omega)
  try replace hw6 := hw6.up' sts9
  try replace h8 := h8.up' sts9
  try replace hw6 := hw6.up' sts9
  try replace hw6 := hw6.up' sts9
  try replace hw6 := hw6.up' sts9
  try replace h14 := h14.up' sts9
  try replace hw15 := hw15.up' sts9
  try replace hw15 := hw15.up' sts9
  have h18 : SL s9 L0 v18 1 (Bs [2, 97]) := SL.of_R h18
  refine k_call cal20 rfl (NewReader_c (by first | assumption | omega | exact SL.of_R (by assumption) | exact Own.sl (by assumption)) (by first | assumption | decide | (unfold BIG; omega) | (unfold BIG; simp; done) | (unfold BIG; simp; omega))) rfl ?_
  rintro s10 v19 sts10 ⟨k19, hk19, hw19⟩
  have szs10 := sts10.size
  have hS : Step (K0) s s10 := by first | exact hS.trans0 sts10 | exact hS.transK sts10 | exact hS.transOC sts10 | (refine hS.transNewC sts10 ?_; first | omega | (dsimp only; omega)) | (refine hS.transNewO sts10 ?_; first | omega | (dsimp only; omega)) | (refine hS.transSub sts10 ?_; intro l hl; simp only [KC, KO] at hl ⊢; omega)
  try replace hw6 := hw6.up' sts10
  try replace h8 := h8.up' sts10
  try replace hw6 := hw6.up' sts10
  try replace hw6 := hw6.up' sts10
  try replace hw6 := hw6.up' sts10
  try replace h14 := h14.up' sts10
  try replace hw15 := hw15.up' sts10
  try replace hw15 := hw15.up' sts10
  try replace h18 := h18.up' sts10
  have hl19 := hw19.le
  refine k_assign rfl rfl ?_
  refine k_nil ?_
  refine k_keep [(0, _), (1, _), (2, _), (3, _), (4, _)] ⟨rfl, rfl, rfl, rfl, rfl, trivial⟩ ?_
  refine k_seq ?_
  refine k_region ?_
  refine k_move rfl rfl ?_
  refine k_call cal32 rfl (RText_some (by assumption) aw3 (by decide)) rfl ?_
  rintro s11 v21 sts11 ⟨rfl, hw19⟩
  have szs11 := sts11.size
  have hS : Step (K0) s s11 := by first | exact hS.trans0 sts11 | exact hS.transK sts11 | exact hS.transOC sts11 | (refine hS.transNewC sts11 ?_; first | omega | (dsimp only; omega)) | (refine hS.transNewO sts11 ?_; first | omega | (dsimp only; omega)) | (refine hS.transSub sts11 ?_; intro l hl; simp only [KC, KO] at hl ⊢; omega)
  try replace hw6 := hw6.up' sts11
  try replace h8 := h8.up' sts11
  try replace hw6 := hw6.up' sts11
  try replace hw6 := hw6.up' sts11
  try replace hw6 := hw6.up' sts11
  try replace h14 := h14.up' sts11
  try replace hw15 := hw15.up' sts11
  try replace hw15 := hw15.up' sts11
  try replace h18 := h18.up' sts11
  try replace hw19 := hw19.up' sts11
  refine k_assign rfl rfl ?_
  refine k_nil ?_
  refine k_keep [(0, _), (1, _), (2, _), (3, _), (4, _), (5, _)] ⟨rfl, rfl, rfl, rfl, rfl, rfl, trivial⟩ ?_
  refine k_seq ?_
  refine k_region ?_
  refine k_move rfl rfl ?_
  refine k_call cal12 rfl (Bytes_c (by assumption) (by first | omega | decide | (simp; done) | (simp; omega) | (simp [wl]; omega))) rfl ?_
  rintro s12 v23 sts12 h23
  have szs12 := sts12.size
  have hS : Step (K0) s s12 := by first | exact hS.trans0 sts12 | exact hS.transK sts12 | exact hS.transOC sts12 | (refine hS.transNewC sts12 ?_; first | omega | (dsimp only; omega)) | (refine hS.transNewO sts12 ?_; first | omega | (dsimp only; omega)) | (refine hS.transSub sts12 ?_; intro l hl; simp only [KC, KO] at hl ⊢; omega)
  try replace hw6 := hw6.up' sts12
  try replace h8 := h8.up' sts12
  try replace hw6 := hw6.up' sts12
  try replace hw6 := hw6.up' sts12
  try replace hw6 := hw6.up' sts12
  try replace h14 := h14.up' sts12
  try replace hw15 := hw15.up' sts12
  try replace hw15 := hw15.up' sts12
  try replace h18 := h18.up' sts12
  try replace hw19 := hw19.up' sts12
  try replace hw19 := hw19.up' sts12
  refine k_bts Try.underlying27 Try.underlying5 Try.underlying9 rfl (by first | assumption | exact SL.of_R (by assumption) | exact Own.sl (by assumption)) rfl ?_
  refine k_eql_str rfl rfl rfl ?_
  refine k_as (v := .bool true) (by first | rfl | simp) ?_
  refine k_move rfl rfl ?_
  refine k_yes rfl rfl ?_
  refine k_move rfl rfl ?_
  refine k_yes rfl rfl ?_
  refine k_eql rfl rfl rfl ?_
  refine k_as (v := .bool true) (by first | rfl | simp) ?_
  refine k_pickT rfl rfl rfl rfl ?_
  refine k_move rfl rfl ?_
  refine k_yes rfl rfl ?_
  refine k_move rfl rfl ?_
  refine k_yes rfl rfl ?_
  refine k_call cal27 rfl (Err_c (by assumption)) rfl ?_
  rintro s13 v32 sts13 rfl
  have szs13 := sts13.size
  have hS : Step (K0) s s13 := by first | exact hS.trans0 sts13 | exact hS.transK sts13 | exact hS.transOC sts13 | (refine hS.transNewC sts13 ?_; first | omega | (dsimp only; omega)) | (refine hS.transNewO sts13 ?_; first | omega | (dsimp only; omega)) | (refine hS.transSub sts13 ?_; intro l hl; simp only [KC, KO] at hl ⊢; omega)
  try replace hw6 := hw6.up' sts13
  try replace h8 := h8.up' sts13
  try replace hw6 := hw6.up' sts13
  try replace hw6 := hw6.up' sts13
  try replace hw6 := hw6.up' sts13
  try replace h14 := h14.up' sts13
  try replace hw15 := hw15.up' sts13
  try replace hw15 := hw15.up' sts13
  try replace h18 := h18.up' sts13
  try replace hw19 := hw19.up' sts13
  try replace hw19 := hw19.up' sts13
  try replace h23 := h23.up' sts13
  refine k_yes rfl rfl ?_
  refine k_eql rfl rfl rfl ?_
  refine k_as (v := .bool true) (by first | rfl | simp) ?_
  refine k_pickT rfl rfl rfl rfl ?_
  refine k_move rfl rfl ?_
  refine k_yes rfl rfl ?_
  refine k_move rfl rfl ?_
  refine k_yes rfl rfl ?_
  refine k_call cal26 rfl (At_c (by assumption)) rfl ?_
  rintro s14 v37 sts14 rfl
  have szs14 := sts14.size
  have hS : Step (K0) s s14 := by first | exact hS.trans0 sts14 | exact hS.transK sts14 | exact hS.transOC sts14 | (refine hS.transNewC sts14 ?_; first | omega | (dsimp only; omega)) | (refine hS.transNewO sts14 ?_; first | omega | (dsimp only; omega)) | (refine hS.transSub sts14 ?_; intro l hl; simp only [KC, KO] at hl ⊢; omega)
  try replace hw6 := hw6.up' sts14
  try replace h8 := h8.up' sts14
  try replace hw6 := hw6.up' sts14
  try replace hw6 := hw6.up' sts14
  try replace hw6 := hw6.up' sts14
  try replace h14 := h14.up' sts14
  try replace hw15 := hw15.up' sts14
  try replace hw15 := hw15.up' sts14
  try replace h18 := h18.up' sts14
  try replace hw19 := hw19.up' sts14
  try replace hw19 := hw19.up' sts14
  try replace h23 := h23.up' sts14
  refine k_yes rfl rfl ?_
  refine k_eql rfl rfl rfl ?_
  refine k_as (v := .bool true) (by first | rfl | simp) ?_
  refine k_pickT rfl rfl rfl rfl ?_
  refine k_move rfl rfl ?_
  refine k_yes rfl rfl ?_
  refine k_move rfl rfl ?_
  refine k_yes rfl rfl ?_
  refine k_eql_str rfl rfl rfl ?_
  refine k_as (v := .bool true) (by first | rfl | simp) ?_
  refine k_pickT rfl rfl rfl rfl ?_
  refine k_move rfl rfl ?_
  refine k_yes rfl rfl ?_
  refine k_move rfl rfl ?_
  refine k_yes rfl rfl ?_
  refine k_call cal33 rfl (RU8_c (by assumption)) rfl ?_
  rintro s15 v46 sts15 ⟨rfl, hw19⟩
  have szs15 := sts15.size
  have hS : Step (K0) s s15 := by first | exact hS.trans0 sts15 | exact hS.transK sts15 | exact hS.transOC sts15 | (refine hS.transNewC sts15 ?_; first | omega | (dsimp only; omega)) | (refine hS.transNewO sts15 ?_; first | omega | (dsimp only; omega)) | (refine hS.transSub sts15 ?_; intro l hl; simp only [KC, KO] at hl ⊢; omega)
  try replace hw6 := hw6.up' sts15
  try replace h8 := h8.up' sts15
  try replace hw6 := hw6.up' sts15
  try replace hw6 := hw6.up' sts15
  try replace hw6 := hw6.up' sts15
  try replace h14 := h14.up' sts15
  try replace hw15 := hw15.up' sts15
  try replace hw15 := hw15.up' sts15
  try replace h18 := h18.up' sts15
  try replace hw19 := hw19.up' sts15
  try replace hw19 := hw19.up' sts15
  try replace h23 := h23.up' sts15
  refine k_yes rfl rfl ?_
  refine k_eql rfl rfl rfl ?_
  refine k_as (v := .bool true) (by first | rfl | simp) ?_
  refine k_pickT rfl rfl rfl rfl ?_
  refine k_move rfl rfl ?_
  refine k_yes rfl rfl ?_
  refine k_call cal17 rfl (Size_c (x := 300) (by decide)) rfl ?_
  rintro s16 v50 sts16 rfl
  have szs16 := sts16.size
  have hS : Step (K0) s s16 := by first | exact hS.trans0 sts16 | exact hS.transK sts16 | exact hS.transOC sts16 | (refine hS.transNewC sts16 ?_; first | omega | (dsimp only; omega)) | (refine hS.transNewO sts16 ?_; first | omega | (dsimp only; omega)) | (refine hS.transSub sts16 ?_; intro l hl; simp only [KC, KO] at hl ⊢; omega)
  try replace hw6 := hw6.up' sts16
  try replace h8 := h8.up' sts16
  try replace hw6 := hw6.up' sts16
  try replace hw6 := hw6.up' sts16
  try replace hw6 := hw6.up' sts16
  try replace h14 := h14.up' sts16
  try replace hw15 := hw15.up' sts16
  try replace hw15 := hw15.up' sts16
  try replace h18 := h18.up' sts16
  try replace hw19 := hw19.up' sts16
  try replace hw19 := hw19.up' sts16
  try replace h23 := h23.up' sts16
  try replace hw19 := hw19.up' sts16
  refine k_as (v := .int .i64 3) (by rw [aw6]; rfl) ?_
  refine k_yes rfl rfl ?_
  refine k_eql rfl rfl rfl ?_
  refine k_as (v := .bool true) rfl ?_
  refine k_pickT rfl rfl rfl rfl ?_
  refine k_assign rfl rfl ?_
  refine k_nil ?_
  refine k_keep [(0, _)] ⟨rfl, trivial⟩ ?_
  refine k_ret ?_
  refine ⟨_, rfl, Ret.mk hS ?_⟩
  rfl

end Go.Proofs
