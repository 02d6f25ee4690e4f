import Derived.Test.YtcagpghggohoiaaY02L
set_option linter.unusedSimpArgs false
set_option linter.unusedVariables false
namespace Go.Proofs
open Go.Fw
theorem cal13 : Callable Try.prog 13 := ⟨_, Try.func13, by kernel_rfl, by kernel_rfl⟩
theorem cal9 : Callable Try.prog 9 := ⟨_, Try.func9, by kernel_rfl, by kernel_rfl⟩

set_option maxHeartbeats 2000000 in
set_option maxRecDepth 100000 in
theorem CodeOrder_c {s : St} {va vb : Value} {l m : List Nat} (ha : R s va (.sl 1 (l.map uD))) (hb : R s vb (.sl 1 (m.map uD))) (hl : ∀ x ∈ l, x < 18446744073709551616) (hm : ∀ x ∈ m, x < 18446744073709551616) (hll : l.length ≤ 9223372036854775807) (hml : m.length ≤ 9223372036854775807) : Calls Try.prog 3 #[va, vb] s.w (Ret s (K0) (fun _ v => v = .bool true)) := by
  have zl := encs_len l hl
  have zm := encs_len m hm
  have hw0 : wl (some []) = 0 := rfl
  have hS : Step (K0) s s := (Step.refl _).of0 (by first | exact fun _ h => h | (intro c h; simp [KC, KO] at h <;> omega))
  refine k_fn (rs := [4]) (args := [va, vb]) Try.func3 rfl rfl rfl rfl ?_
  refine k_seq ?_
  refine k_region ?_
  refine k_assign rfl rfl ?_
  refine k_nil ?_
  refine k_seq ?_
  refine k_seq ?_
  refine k_region ?_
  refine k_move rfl rfl ?_
  refine k_len Try.underlying22 rfl (by first | exact ⟨_, _, rfl⟩ | exact SL.hasLen (by assumption) | exact (SL.of_R (by assumption)).hasLen | exact (Own.sl (by assumption)).hasLen) rfl ?_
  try simp only [List.length_map]
  refine k_gtr rfl rfl rfl ?_
  refine k_move rfl rfl ?_
  first | refine k_split (fun c13 => ?_) (fun c13 => ?_) | refine k_splitb (fun c13 => ?_) (fun c13 => ?_)
  · -- t13 True
    refine k_no rfl rfl rfl rfl ?_
    refine k_no rfl rfl rfl rfl ?_
    refine k_no rfl rfl rfl rfl ?_
    refine k_pickT rfl rfl rfl rfl ?_
    refine k_nil ?_
    refine k_keep [(0, _), (1, _), (4, _), (17, _)] ⟨rfl, rfl, rfl, rfl, trivial⟩ ?_
    refine k_cond_true rfl ?_
    refine k_seq ?_
    refine k_region ?_
    refine k_call cal9 rfl (awake_c) rfl ?_
    rintro s1 v18 sts1 rfl
    have szs1 := sts1.size
    have hS : Step (K0) s s1 := by first | exact hS.trans0 sts1 | exact hS.transK sts1 | exact hS.transOC sts1 | (refine hS.transNewC sts1 ?_; first | omega | (dsimp only; omega)) | (refine hS.transNewO sts1 ?_; first | omega | (dsimp only; omega)) | (refine hS.transSub sts1 ?_; intro l hl; simp only [KC, KO] at hl ⊢; omega)
    try replace ha := ha.up' sts1
    try replace hb := hb.up' sts1
    refine k_assign rfl rfl ?_
    refine k_nil ?_
    refine k_keep [(0, _), (1, _), (4, _)] ⟨rfl, rfl, rfl, trivial⟩ ?_
    refine k_ret ?_
    refine ⟨_, rfl, Ret.mk hS ?_⟩
    rfl
  · -- t13 False
    refine k_yes rfl rfl ?_
    refine k_move rfl rfl ?_
    refine k_yes rfl rfl ?_
    refine k_len Try.underlying22 rfl (by first | exact ⟨_, _, rfl⟩ | exact SL.hasLen (by assumption) | exact (SL.of_R (by assumption)).hasLen | exact (Own.sl (by assumption)).hasLen) rfl ?_
    try simp only [List.length_map]
    refine k_yes rfl rfl ?_
    refine k_gtr rfl rfl rfl ?_
    refine k_pickF rfl rfl rfl rfl ?_
    refine k_nil ?_
    refine k_keep [(0, _), (1, _), (4, _), (17, _)] ⟨rfl, rfl, rfl, rfl, trivial⟩ ?_
    first | refine k_cond_dec rfl (fun c17 => ?_) (fun c17 => ?_) | refine k_cond rfl (fun c17 => ?_) (fun c17 => ?_)
    · -- t17 True
      refine k_seq ?_
      refine k_region ?_
      refine k_call cal9 rfl (awake_c) rfl ?_
      rintro s3 v18 sts3 rfl
      have szs3 := sts3.size
      have hS : Step (K0) s s3 := by first | exact hS.trans0 sts3 | exact hS.transK sts3 | exact hS.transOC sts3 | (refine hS.transNewC sts3 ?_; first | omega | (dsimp only; omega)) | (refine hS.transNewO sts3 ?_; first | omega | (dsimp only; omega)) | (refine hS.transSub sts3 ?_; intro l hl; simp only [KC, KO] at hl ⊢; omega)
      try replace ha := ha.up' sts3
      try replace hb := hb.up' sts3
      refine k_assign rfl rfl ?_
      refine k_nil ?_
      refine k_keep [(0, _), (1, _), (4, _)] ⟨rfl, rfl, rfl, trivial⟩ ?_
      refine k_ret ?_
      refine ⟨_, rfl, Ret.mk hS ?_⟩
      rfl
    · -- t17 False
      refine k_skip ?_
      refine k_seq ?_
      refine k_region ?_
      refine k_call cal10 rfl (NewWriter_c) rfl ?_
      rintro s4 v19 sts4 ⟨k19, hk19, hw19⟩
      have szs4 := sts4.size
      have hS : Step (K0) s s4 := by first | exact hS.trans0 sts4 | exact hS.transK sts4 | exact hS.transOC sts4 | (refine hS.transNewC sts4 ?_; first | omega | (dsimp only; omega)) | (refine hS.transNewO sts4 ?_; first | omega | (dsimp only; omega)) | (refine hS.transSub sts4 ?_; intro l hl; simp only [KC, KO] at hl ⊢; omega)
      try replace ha := ha.up' sts4
      try replace hb := hb.up' sts4
      have hl19 := hw19.le
      refine k_call cal10 rfl (NewWriter_c) rfl ?_
      rintro s5 v20 sts5 ⟨k20, hk20, hw20⟩
      have szs5 := sts5.size
      have hS : Step (K0) s s5 := by first | exact hS.trans0 sts5 | exact hS.transK sts5 | exact hS.transOC sts5 | (refine hS.transNewC sts5 ?_; first | omega | (dsimp only; omega)) | (refine hS.transNewO sts5 ?_; first | omega | (dsimp only; omega)) | (refine hS.transSub sts5 ?_; intro l hl; simp only [KC, KO] at hl ⊢; omega)
      try replace ha := ha.up' sts5
      try replace hb := hb.up' sts5
      try replace hw19 := hw19.up' sts5
      have hl20 := hw20.le
      refine k_assign rfl rfl ?_
      refine k_assign rfl rfl ?_
      refine k_nil ?_
      refine k_keep [(0, _), (1, _), (4, _), (5, _), (6, _)] ⟨rfl, rfl, rfl, rfl, rfl, trivial⟩ ?_
      refine k_seq ?_
      refine k_region ?_
      refine k_move rfl rfl ?_
      refine k_move rfl rfl ?_
      refine k_call cal11 rfl (Put_c (by assumption) (SL.of_R ha) hl (by first | omega | decide | (simp; done) | (simp; omega) | (simp [wl]; omega)) (by first | assumption | omega | (simp; omega))) rfl ?_
      rintro s6 v23 sts6 ⟨rfl, hw19⟩
      have szs6 := sts6.size
      have hS : Step (K0) s s6 := by first | exact hS.trans0 sts6 | exact hS.transK sts6 | exact hS.transOC sts6 | (refine hS.transNewC sts6 ?_; first | omega | (dsimp only; omega)) | (refine hS.transNewO sts6 ?_; first | omega | (dsimp only; omega)) | (refine hS.transSub sts6 ?_; intro l hl; simp only [KC, KO] at hl ⊢; omega)
      try replace ha := ha.up' sts6
      try replace hb := hb.up' sts6
      try replace hw19 := hw19.up' sts6
      try replace hw20 := hw20.up' sts6
      refine k_nil ?_
      refine k_keep [(0, _), (1, _), (4, _), (5, _), (6, _)] ⟨rfl, rfl, rfl, rfl, rfl, trivial⟩ ?_
      refine k_seq ?_
      refine k_region ?_
      refine k_move rfl rfl ?_
      refine k_move rfl rfl ?_
      refine k_call cal11 rfl (Put_c (by assumption) (SL.of_R hb) hm (by first | omega | decide | (simp; done) | (simp; omega) | (simp [wl]; omega)) (by first | assumption | omega | (simp; omega))) rfl ?_
      rintro s7 v26 sts7 ⟨rfl, hw20⟩
      have szs7 := sts7.size
      have hS : Step (K0) s s7 := by first | exact hS.trans0 sts7 | exact hS.transK sts7 | exact hS.transOC sts7 | (refine hS.transNewC sts7 ?_; first | omega | (dsimp only; omega)) | (refine hS.transNewO sts7 ?_; first | omega | (dsimp only; omega)) | (refine hS.transSub sts7 ?_; intro l hl; simp only [KC, KO] at hl ⊢; omega)
      try replace ha := ha.up' sts7
      try replace hb := hb.up' sts7
      try replace hw19 := hw19.up' sts7
      try replace hw20 := hw20.up' sts7
      try replace hw19 := hw19.up' sts7
      refine k_nil ?_
      refine k_keep [(0, _), (1, _), (4, _), (5, _), (6, _)] ⟨rfl, rfl, rfl, rfl, rfl, trivial⟩ ?_
      refine k_seq ?_
      refine k_region ?_
      refine k_move rfl rfl ?_
      refine k_call cal12 rfl (Bytes_c (by assumption) (by first | omega | decide | (simp; done) | (simp; omega) | (simp [wl]; omega))) rfl ?_
      rintro s8 v28 sts8 h28
      have szs8 := sts8.size
      have hS : Step (K0) s s8 := by first | exact hS.trans0 sts8 | exact hS.transK sts8 | exact hS.transOC sts8 | (refine hS.transNewC sts8 ?_; first | omega | (dsimp only; omega)) | (refine hS.transNewO sts8 ?_; first | omega | (dsimp only; omega)) | (refine hS.transSub sts8 ?_; intro l hl; simp only [KC, KO] at hl ⊢; omega)
      try replace ha := ha.up' sts8
      try replace hb := hb.up' sts8
      try replace hw19 := hw19.up' sts8
      try replace hw20 := hw20.up' sts8
      try replace hw19 := hw19.up' sts8
      try replace hw20 := hw20.up' sts8
      have h28 : R s8 v28 (.sl 1 (Bs (encs l))) := by simpa using h28
      refine k_move rfl rfl ?_
      refine k_call cal12 rfl (Bytes_c (by assumption) (by first | omega | decide | (simp; done) | (simp; omega) | (simp [wl]; omega))) rfl ?_
      rintro s9 v30 sts9 h30
      have szs9 := sts9.size
      have hS : Step (K0) s s9 := by first | exact hS.trans0 sts9 | exact hS.transK sts9 | exact hS.transOC sts9 | (refine hS.transNewC sts9 ?_; first | omega | (dsimp only; omega)) | (refine hS.transNewO sts9 ?_; first | omega | (dsimp only; omega)) | (refine hS.transSub sts9 ?_; intro l hl; simp only [KC, KO] at hl ⊢; omega)
      try replace ha := ha.up' sts9
      try replace hb := hb.up' sts9
      try replace hw19 := hw19.up' sts9
      try replace hw20 := hw20.up' sts9
      try replace hw19 := hw19.up' sts9
      try replace hw20 := hw20.up' sts9
      try replace h28 := h28.up' sts9
      have h30 : R s9 v30 (.sl 1 (Bs (encs m))) := by simpa using h30
      refine k_assign rfl rfl ?_
      refine k_assign rfl rfl ?_
      refine k_nil ?_
      refine k_keep [(0, _), (1, _), (4, _), (7, _), (8, _)] ⟨rfl, rfl, rfl, rfl, rfl, trivial⟩ ?_
      refine k_seq ?_
      refine k_seq ?_
      refine k_region ?_
      refine k_assign rfl rfl ?_
      refine k_nil ?_
      refine k_block ?_
      refine k_loopc (X := St × Nat) [(0, _), (1, _), (7, _), (8, _)] (fun (xL : St × Nat) => match xL with | (sl, i) => [(4, .bool false), (9, .int .i64 (i : Int))]) (fun (xL : St × Nat) wL => match xL with | (sl, i) => sl.w = wL ∧ Step (K0) s9 sl ∧ (i ≤ l.length ∧ i ≤ m.length ∧ l.take i = m.take i)) (fun (xL : St × Nat) => match xL with | (sl, i) => l.length - i) (s9, 0) ⟨rfl, rfl, rfl, rfl, trivial⟩ ?hv10 ?hi10 ?round10
      case hv10 => exact ⟨(by first | rfl | (simp <;> rfl)), (by first | rfl | (simp <;> rfl)), trivial⟩
      case hi10 =>
        refine ⟨rfl, (Step.refl _).of0 (by first | exact fun _ h => h | (intro c h; simp [KC, KO] at h <;> omega)), ?_⟩
        exact ⟨Nat.zero_le _, Nat.zero_le _, rfl⟩
      rintro ⟨s11, i⟩ wL ⟨rfl, hE10, hi, hj, he⟩
      have stE10 := hE10
      have szs11 := stE10.size
      have hS : Step (K0) s s11 := by first | exact hS.trans0 stE10 | exact hS.transK stE10 | exact hS.transOC stE10 | (refine hS.transNewC stE10 ?_; first | omega | (dsimp only; omega)) | (refine hS.transNewO stE10 ?_; first | omega | (dsimp only; omega)) | (refine hS.transSub stE10 ?_; intro l hl; simp only [KC, KO] at hl ⊢; omega)
      try replace ha := ha.up' stE10
      try replace hb := hb.up' stE10
      try replace hw19 := hw19.up' stE10
      try replace hw20 := hw20.up' stE10
      try replace hw19 := hw19.up' stE10
      try replace hw20 := hw20.up' stE10
      try replace h28 := h28.up' stE10
      try replace h30 := h30.up' stE10
      refine k_seq ?_
      refine k_seq ?_
      refine k_region ?_
      refine k_move rfl rfl ?_
      refine k_move rfl rfl ?_
      refine k_len Try.underlying22 rfl (by first | exact ⟨_, _, rfl⟩ | exact SL.hasLen (by assumption) | exact (SL.of_R (by assumption)).hasLen | exact (Own.sl (by assumption)).hasLen) rfl ?_
      try simp only [List.length_map]
      refine k_lss rfl rfl rfl ?_
      refine k_move rfl rfl ?_
      first | refine k_split (fun c35 => ?_) (fun c35 => ?_) | refine k_splitb (fun c35 => ?_) (fun c35 => ?_)
      · -- t35 True
        refine k_yes rfl rfl ?_
        refine k_move rfl rfl ?_
        refine k_yes rfl rfl ?_
        refine k_move rfl rfl ?_
        refine k_yes rfl rfl ?_
        refine k_len Try.underlying22 rfl (by first | exact ⟨_, _, rfl⟩ | exact SL.hasLen (by assumption) | exact (SL.of_R (by assumption)).hasLen | exact (Own.sl (by assumption)).hasLen) rfl ?_
        try simp only [List.length_map]
        refine k_yes rfl rfl ?_
        refine k_lss rfl rfl rfl ?_
        refine k_pickT rfl rfl rfl rfl ?_
        refine k_nil ?_
        refine k_keep [(0, _), (1, _), (4, _), (7, _), (8, _), (9, _), (40, _)] ⟨rfl, rfl, rfl, rfl, rfl, rfl, rfl, trivial⟩ ?_
        first | refine k_cond_dec rfl (fun c40 => ?_) (fun c40 => ?_) | refine k_cond rfl (fun c40 => ?_) (fun c40 => ?_)
        · -- t40 True
          refine k_skip ?_
          refine k_seq ?_
          refine k_block ?_
          refine k_seq ?_
          refine k_keep [(0, _), (1, _), (4, _), (7, _), (8, _), (9, _)] ⟨rfl, rfl, rfl, rfl, rfl, rfl, trivial⟩ ?_
          refine k_draw (K0) 9 [(false, 0), (false, 1), (false, 2), (false, 3), (false, 4), (false, 5), (false, 6), (false, 7), (false, 8)] mixed (fun _ h => h) rfl rfl ?_
          intro s13 sts13
          have szs13 := sts13.size
          have hS : Step (K0) s s13 := by first | exact hS.trans0 sts13 | exact hS.transK sts13 | exact hS.transOC sts13 | (refine hS.transNewC sts13 ?_; first | omega | (dsimp only; omega)) | (refine hS.transNewO sts13 ?_; first | omega | (dsimp only; omega)) | (refine hS.transSub sts13 ?_; intro l hl; simp only [KC, KO] at hl ⊢; omega)
          have hE10 : Step (K0) s9 s13 := by first | exact hE10.trans0 sts13 | exact hE10.transK sts13 | exact hE10.transOC sts13 | (refine hE10.transNewC sts13 ?_; first | omega | (dsimp only; omega)) | (refine hE10.transNewO sts13 ?_; first | omega | (dsimp only; omega)) | (refine hE10.transSub sts13 ?_; intro l hl; simp only [KC, KO] at hl ⊢; omega)
          try replace ha := ha.up' sts13
          try replace hb := hb.up' sts13
          try replace hw19 := hw19.up' sts13
          try replace hw20 := hw20.up' sts13
          try replace hw19 := hw19.up' sts13
          try replace hw20 := hw20.up' sts13
          try replace h28 := h28.up' sts13
          try replace h30 := h30.up' sts13
          first
          | (refine rd_read ?c14 rfl rfl (fun s15 sts15 => ?h14) ?_
             case h14 =>
               try replace ha := ha.up' sts15
               try replace hb := hb.up' sts15
               try replace hw19 := hw19.up' sts15
               try replace hw20 := hw20.up' sts15
               try replace hw19 := hw19.up' sts15
               try replace hw20 := hw20.up' sts15
               try replace h28 := h28.up' sts15
               try replace h30 := h30.up' sts15
               refine k_move rfl rfl ?_
               exact fq_end)
          first
          | (refine rd_read ?c16 rfl rfl (fun s17 sts17 => ?h16) ?_
             case h16 =>
               try replace ha := ha.up' sts17
               try replace hb := hb.up' sts17
               try replace hw19 := hw19.up' sts17
               try replace hw20 := hw20.up' sts17
               try replace hw19 := hw19.up' sts17
               try replace hw20 := hw20.up' sts17
               try replace h28 := h28.up' sts17
               try replace h30 := h30.up' sts17
               refine k_move rfl rfl ?_
               exact fq_end)
          first
          | (refine rd_ixN rfl (wanted_none rfl) Try.underlying22 size29 rfl rfl (by first | assumption | exact SL.of_R (by assumption) | exact Own.sl (by assumption)) (by first | exact at_map (by first | omega | (simp; omega)) | exact at_map' (by omega) (by first | omega | (simp; omega)) | (simp; omega) | simp) rfl ?_; intro q45 h45)
          | (refine rd_ix rfl (wanted_none rfl) Try.underlying22 size29 rfl rfl (by first | assumption | exact SL.of_R (by assumption) | exact Own.sl (by assumption)) (by omega) (by first | exact at_map (by first | omega | (simp; omega)) | exact at_map' (by omega) (by first | omega | (simp; omega)) | (simp; omega) | simp) rfl ?_; intro q45 h45)
          first
          | (refine rd_read ?c20 rfl rfl (fun s21 sts21 => ?h20) ?_
             case h20 =>
               try replace ha := ha.up' sts21
               try replace hb := hb.up' sts21
               try replace hw19 := hw19.up' sts21
               try replace hw20 := hw20.up' sts21
               try replace hw19 := hw19.up' sts21
               try replace hw20 := hw20.up' sts21
               try replace h28 := h28.up' sts21
               try replace h30 := h30.up' sts21
               try replace h45 := h45.up' sts21
               first | refine k_load_blk one29 rfl (by assumption) (by rfl) rfl ?_ | refine k_load_val one29 rfl (by assumption) rfl ?_
               exact fq_end)
          first
          | (refine rd_read ?c22 rfl rfl (fun s23 sts23 => ?h22) ?_
             case h22 =>
               try replace ha := ha.up' sts23
               try replace hb := hb.up' sts23
               try replace hw19 := hw19.up' sts23
               try replace hw20 := hw20.up' sts23
               try replace hw19 := hw19.up' sts23
               try replace hw20 := hw20.up' sts23
               try replace h28 := h28.up' sts23
               try replace h30 := h30.up' sts23
               try replace h45 := h45.up' sts23
               refine k_move rfl rfl ?_
               exact fq_end)
          first
          | (refine rd_read ?c24 rfl rfl (fun s25 sts25 => ?h24) ?_
             case h24 =>
               try replace ha := ha.up' sts25
               try replace hb := hb.up' sts25
               try replace hw19 := hw19.up' sts25
               try replace hw20 := hw20.up' sts25
               try replace hw19 := hw19.up' sts25
               try replace hw20 := hw20.up' sts25
               try replace h28 := h28.up' sts25
               try replace h30 := h30.up' sts25
               try replace h45 := h45.up' sts25
               refine k_move rfl rfl ?_
               exact fq_end)
          first
          | (refine rd_ixN rfl (wanted_none rfl) Try.underlying22 size29 rfl rfl (by first | assumption | exact SL.of_R (by assumption) | exact Own.sl (by assumption)) (by first | exact at_map (by first | omega | (simp; omega)) | exact at_map' (by omega) (by first | omega | (simp; omega)) | (simp; omega) | simp) rfl ?_; intro q49 h49)
          | (refine rd_ix rfl (wanted_none rfl) Try.underlying22 size29 rfl rfl (by first | assumption | exact SL.of_R (by assumption) | exact Own.sl (by assumption)) (by omega) (by first | exact at_map (by first | omega | (simp; omega)) | exact at_map' (by omega) (by first | omega | (simp; omega)) | (simp; omega) | simp) rfl ?_; intro q49 h49)
          first
          | (refine rd_read ?c28 rfl rfl (fun s29 sts29 => ?h28) ?_
             case h28 =>
               try replace ha := ha.up' sts29
               try replace hb := hb.up' sts29
               try replace hw19 := hw19.up' sts29
               try replace hw20 := hw20.up' sts29
               try replace hw19 := hw19.up' sts29
               try replace hw20 := hw20.up' sts29
               try replace h28 := h28.up' sts29
               try replace h30 := h30.up' sts29
               try replace h45 := h45.up' sts29
               try replace h49 := h49.up' sts29
               first | refine k_load_blk one29 rfl (by assumption) (by rfl) rfl ?_ | refine k_load_val one29 rfl (by assumption) rfl ?_
               exact fq_end)
          first
          | (refine rd_read ?c30 rfl rfl (fun s31 sts31 => ?h30) ?_
             case h30 =>
               try replace ha := ha.up' sts31
               try replace hb := hb.up' sts31
               try replace hw19 := hw19.up' sts31
               try replace hw20 := hw20.up' sts31
               try replace hw19 := hw19.up' sts31
               try replace hw20 := hw20.up' sts31
               try replace h28 := h28.up' sts31
               try replace h30 := h30.up' sts31
               try replace h45 := h45.up' sts31
               try replace h49 := h49.up' sts31
               refine k_neq rfl rfl rfl ?_
               exact fq_end)
          refine rd_nil ?_
          refine k_nil ?_
          refine k_keep [(0, _), (1, _), (4, _), (7, _), (8, _), (9, _), (51, _)] ⟨rfl, rfl, rfl, rfl, rfl, rfl, rfl, trivial⟩ ?_
          first | refine k_cond_dec rfl (fun c51 => ?_) (fun c51 => ?_) | refine k_cond rfl (fun c51 => ?_) (fun c51 => ?_)
          · -- t51 True
            have o1 := order_at hl hm he (by omega) (by omega) (fun e => c51 (by rw [e]))
            have o2 := order_at hm hl he.symm (by omega) (by omega) (fun e => c51 (by rw [e]))
            refine k_seq ?_
            refine k_keep [(0, _), (1, _), (7, _), (8, _), (9, _)] ⟨rfl, rfl, rfl, rfl, rfl, trivial⟩ ?_
            refine k_draw (K0) 31 [(false, 0), (false, 1), (false, 3), (false, 4), (false, 5), (false, 6), (false, 7), (false, 8), (false, 9), (false, 10), (false, 11), (true, 2), (false, 12), (false, 13), (false, 14), (false, 15), (false, 17), (false, 18), (false, 19), (false, 20), (false, 21), (false, 22), (false, 23), (false, 24), (false, 25), (true, 16), (false, 26), (false, 27), (false, 28), (true, 29), (false, 30)] mixed (fun _ h => h) rfl rfl ?_
            intro s33 sts33
            have szs33 := sts33.size
            have hS : Step (K0) s s33 := by first | exact hS.trans0 sts33 | exact hS.transK sts33 | exact hS.transOC sts33 | (refine hS.transNewC sts33 ?_; first | omega | (dsimp only; omega)) | (refine hS.transNewO sts33 ?_; first | omega | (dsimp only; omega)) | (refine hS.transSub sts33 ?_; intro l hl; simp only [KC, KO] at hl ⊢; omega)
            have hE10 : Step (K0) s9 s33 := by first | exact hE10.trans0 sts33 | exact hE10.transK sts33 | exact hE10.transOC sts33 | (refine hE10.transNewC sts33 ?_; first | omega | (dsimp only; omega)) | (refine hE10.transNewO sts33 ?_; first | omega | (dsimp only; omega)) | (refine hE10.transSub sts33 ?_; intro l hl; simp only [KC, KO] at hl ⊢; omega)
            try replace ha := ha.up' sts33
            try replace hb := hb.up' sts33
            try replace hw19 := hw19.up' sts33
            try replace hw20 := hw20.up' sts33
            try replace hw19 := hw19.up' sts33
            try replace hw20 := hw20.up' sts33
            try replace h28 := h28.up' sts33
            try replace h30 := h30.up' sts33
            try replace h45 := h45.up' sts33
            try replace h49 := h49.up' sts33
            first
            | (refine rd_read ?c34 rfl rfl (fun s35 sts35 => ?h34) ?_
               case h34 =>
                 try replace ha := ha.up' sts35
                 try replace hb := hb.up' sts35
                 try replace hw19 := hw19.up' sts35
                 try replace hw20 := hw20.up' sts35
                 try replace hw19 := hw19.up' sts35
                 try replace hw20 := hw20.up' sts35
                 try replace h28 := h28.up' sts35
                 try replace h30 := h30.up' sts35
                 try replace h45 := h45.up' sts35
                 try replace h49 := h49.up' sts35
                 refine k_move rfl rfl ?_
                 exact fq_end)
            first
            | (refine rd_read ?c36 rfl rfl (fun s37 sts37 => ?h36) ?_
               case h36 =>
                 try replace ha := ha.up' sts37
                 try replace hb := hb.up' sts37
                 try replace hw19 := hw19.up' sts37
                 try replace hw20 := hw20.up' sts37
                 try replace hw19 := hw19.up' sts37
                 try replace hw20 := hw20.up' sts37
                 try replace h28 := h28.up' sts37
                 try replace h30 := h30.up' sts37
                 try replace h45 := h45.up' sts37
                 try replace h49 := h49.up' sts37
                 refine k_move rfl rfl ?_
                 exact fq_end)
            first
            | (refine rd_read ?c38 rfl rfl (fun s39 sts39 => ?h38) ?_
               case h38 =>
                 try replace ha := ha.up' sts39
                 try replace hb := hb.up' sts39
                 try replace hw19 := hw19.up' sts39
                 try replace hw20 := hw20.up' sts39
                 try replace hw19 := hw19.up' sts39
                 try replace hw20 := hw20.up' sts39
                 try replace h28 := h28.up' sts39
                 try replace h30 := h30.up' sts39
                 try replace h45 := h45.up' sts39
                 try replace h49 := h49.up' sts39
                 refine k_move rfl rfl ?_
                 exact fq_end)
            first
            | (refine rd_read ?c40 rfl rfl (fun s41 sts41 => ?h40) ?_
               case h40 =>
                 try replace ha := ha.up' sts41
                 try replace hb := hb.up' sts41
                 try replace hw19 := hw19.up' sts41
                 try replace hw20 := hw20.up' sts41
                 try replace hw19 := hw19.up' sts41
                 try replace hw20 := hw20.up' sts41
                 try replace h28 := h28.up' sts41
                 try replace h30 := h30.up' sts41
                 try replace h45 := h45.up' sts41
                 try replace h49 := h49.up' sts41
                 refine k_move rfl rfl ?_
                 exact fq_end)
            first
            | (refine rd_ixN rfl (wanted_none rfl) Try.underlying22 size29 rfl rfl (by first | assumption | exact SL.of_R (by assumption) | exact Own.sl (by assumption)) (by first | exact at_map (by first | omega | (simp; omega)) | exact at_map' (by omega) (by first | omega | (simp; omega)) | (simp; omega) | simp) rfl ?_; intro q57 h57)
            | (refine rd_ix rfl (wanted_none rfl) Try.underlying22 size29 rfl rfl (by first | assumption | exact SL.of_R (by assumption) | exact Own.sl (by assumption)) (by omega) (by first | exact at_map (by first | omega | (simp; omega)) | exact at_map' (by omega) (by first | omega | (simp; omega)) | (simp; omega) | simp) rfl ?_; intro q57 h57)
            first
            | (refine rd_read ?c44 rfl rfl (fun s45 sts45 => ?h44) ?_
               case h44 =>
                 try replace ha := ha.up' sts45
                 try replace hb := hb.up' sts45
                 try replace hw19 := hw19.up' sts45
                 try replace hw20 := hw20.up' sts45
                 try replace hw19 := hw19.up' sts45
                 try replace hw20 := hw20.up' sts45
                 try replace h28 := h28.up' sts45
                 try replace h30 := h30.up' sts45
                 try replace h45 := h45.up' sts45
                 try replace h49 := h49.up' sts45
                 try replace h57 := h57.up' sts45
                 first | refine k_load_blk one29 rfl (by assumption) (by rfl) rfl ?_ | refine k_load_val one29 rfl (by assumption) rfl ?_
                 exact fq_end)
            first
            | (refine rd_read ?c46 rfl rfl (fun s47 sts47 => ?h46) ?_
               case h46 =>
                 try replace ha := ha.up' sts47
                 try replace hb := hb.up' sts47
                 try replace hw19 := hw19.up' sts47
                 try replace hw20 := hw20.up' sts47
                 try replace hw19 := hw19.up' sts47
                 try replace hw20 := hw20.up' sts47
                 try replace h28 := h28.up' sts47
                 try replace h30 := h30.up' sts47
                 try replace h45 := h45.up' sts47
                 try replace h49 := h49.up' sts47
                 try replace h57 := h57.up' sts47
                 refine k_move rfl rfl ?_
                 exact fq_end)
            first
            | (refine rd_read ?c48 rfl rfl (fun s49 sts49 => ?h48) ?_
               case h48 =>
                 try replace ha := ha.up' sts49
                 try replace hb := hb.up' sts49
                 try replace hw19 := hw19.up' sts49
                 try replace hw20 := hw20.up' sts49
                 try replace hw19 := hw19.up' sts49
                 try replace hw20 := hw20.up' sts49
                 try replace h28 := h28.up' sts49
                 try replace h30 := h30.up' sts49
                 try replace h45 := h45.up' sts49
                 try replace h49 := h49.up' sts49
                 try replace h57 := h57.up' sts49
                 refine k_move rfl rfl ?_
                 exact fq_end)
            first
            | (refine rd_ixN rfl (wanted_none rfl) Try.underlying22 size29 rfl rfl (by first | assumption | exact SL.of_R (by assumption) | exact Own.sl (by assumption)) (by first | exact at_map (by first | omega | (simp; omega)) | exact at_map' (by omega) (by first | omega | (simp; omega)) | (simp; omega) | simp) rfl ?_; intro q61 h61)
            | (refine rd_ix rfl (wanted_none rfl) Try.underlying22 size29 rfl rfl (by first | assumption | exact SL.of_R (by assumption) | exact Own.sl (by assumption)) (by omega) (by first | exact at_map (by first | omega | (simp; omega)) | exact at_map' (by omega) (by first | omega | (simp; omega)) | (simp; omega) | simp) rfl ?_; intro q61 h61)
            first
            | (refine rd_read ?c52 rfl rfl (fun s53 sts53 => ?h52) ?_
               case h52 =>
                 try replace ha := ha.up' sts53
                 try replace hb := hb.up' sts53
                 try replace hw19 := hw19.up' sts53
                 try replace hw20 := hw20.up' sts53
                 try replace hw19 := hw19.up' sts53
                 try replace hw20 := hw20.up' sts53
                 try replace h28 := h28.up' sts53
                 try replace h30 := h30.up' sts53
                 try replace h45 := h45.up' sts53
                 try replace h49 := h49.up' sts53
                 try replace h57 := h57.up' sts53
                 try replace h61 := h61.up' sts53
                 first | refine k_load_blk one29 rfl (by assumption) (by rfl) rfl ?_ | refine k_load_val one29 rfl (by assumption) rfl ?_
                 exact fq_end)
            first
            | (refine rd_read ?c54 rfl rfl (fun s55 sts55 => ?h54) ?_
               case h54 =>
                 try replace ha := ha.up' sts55
                 try replace hb := hb.up' sts55
                 try replace hw19 := hw19.up' sts55
                 try replace hw20 := hw20.up' sts55
                 try replace hw19 := hw19.up' sts55
                 try replace hw20 := hw20.up' sts55
                 try replace h28 := h28.up' sts55
                 try replace h30 := h30.up' sts55
                 try replace h45 := h45.up' sts55
                 try replace h49 := h49.up' sts55
                 try replace h57 := h57.up' sts55
                 try replace h61 := h61.up' sts55
                 refine k_lss rfl rfl rfl ?_
                 exact fq_end)
            refine rd_act rfl rfl ?_
            refine k_call cal13 rfl (less_c (by exact SL.of_R (by assumption)) (by exact SL.of_R (by assumption)) (by first | omega | decide | (simp; done) | (simp; omega) | (simp [wl]; omega)) (by first | omega | decide | (simp; done) | (simp; omega) | (simp [wl]; omega))) rfl ?_
            rintro s56 v54 sts56 rfl
            have szs56 := sts56.size
            have hS : Step (K0) s s56 := by first | exact hS.trans0 sts56 | exact hS.transK sts56 | exact hS.transOC sts56 | (refine hS.transNewC sts56 ?_; first | omega | (dsimp only; omega)) | (refine hS.transNewO sts56 ?_; first | omega | (dsimp only; omega)) | (refine hS.transSub sts56 ?_; intro l hl; simp only [KC, KO] at hl ⊢; omega)
            have hE10 : Step (K0) s9 s56 := by first | exact hE10.trans0 sts56 | exact hE10.transK sts56 | exact hE10.transOC sts56 | (refine hE10.transNewC sts56 ?_; first | omega | (dsimp only; omega)) | (refine hE10.transNewO sts56 ?_; first | omega | (dsimp only; omega)) | (refine hE10.transSub sts56 ?_; intro l hl; simp only [KC, KO] at hl ⊢; omega)
            try replace ha := ha.up' sts56
            try replace hb := hb.up' sts56
            try replace hw19 := hw19.up' sts56
            try replace hw20 := hw20.up' sts56
            try replace hw19 := hw19.up' sts56
            try replace hw20 := hw20.up' sts56
            try replace h28 := h28.up' sts56
            try replace h30 := h30.up' sts56
            try replace h45 := h45.up' sts56
            try replace h49 := h49.up' sts56
            try replace h57 := h57.up' sts56
            try replace h61 := h61.up' sts56
            refine rd_cont sts56 ?_
            first
            | (refine rd_read ?c57 rfl rfl (fun s58 sts58 => ?h57) ?_
               case h57 =>
                 try replace ha := ha.up' sts58
                 try replace hb := hb.up' sts58
                 try replace hw19 := hw19.up' sts58
                 try replace hw20 := hw20.up' sts58
                 try replace hw19 := hw19.up' sts58
                 try replace hw20 := hw20.up' sts58
                 try replace h28 := h28.up' sts58
                 try replace h30 := h30.up' sts58
                 try replace h45 := h45.up' sts58
                 try replace h49 := h49.up' sts58
                 try replace h57 := h57.up' sts58
                 try replace h61 := h61.up' sts58
                 refine k_eqlb Try.underlying4 rfl rfl rfl ?_
                 refine k_as (v := .bool true) (by simp [o1]) ?_
                 exact fq_end)
            first
            | (refine rd_read ?c59 rfl rfl (fun s60 sts60 => ?h59) ?_
               case h59 =>
                 try replace ha := ha.up' sts60
                 try replace hb := hb.up' sts60
                 try replace hw19 := hw19.up' sts60
                 try replace hw20 := hw20.up' sts60
                 try replace hw19 := hw19.up' sts60
                 try replace hw20 := hw20.up' sts60
                 try replace h28 := h28.up' sts60
                 try replace h30 := h30.up' sts60
                 try replace h45 := h45.up' sts60
                 try replace h49 := h49.up' sts60
                 try replace h57 := h57.up' sts60
                 try replace h61 := h61.up' sts60
                 refine k_move rfl rfl ?_
                 exact fq_end)
            first
            | (refine rd_read ?c61 rfl rfl (fun s62 sts62 => ?h61) ?_
               case h61 =>
                 try replace ha := ha.up' sts62
                 try replace hb := hb.up' sts62
                 try replace hw19 := hw19.up' sts62
                 try replace hw20 := hw20.up' sts62
                 try replace hw19 := hw19.up' sts62
                 try replace hw20 := hw20.up' sts62
                 try replace h28 := h28.up' sts62
                 try replace h30 := h30.up' sts62
                 try replace h45 := h45.up' sts62
                 try replace h49 := h49.up' sts62
                 try replace h57 := h57.up' sts62
                 try replace h61 := h61.up' sts62
                 refine k_yes rfl rfl ?_
                 refine k_move rfl rfl ?_
                 exact fq_end)
            first
            | (refine rd_read ?c63 rfl rfl (fun s64 sts64 => ?h63) ?_
               case h63 =>
                 try replace ha := ha.up' sts64
                 try replace hb := hb.up' sts64
                 try replace hw19 := hw19.up' sts64
                 try replace hw20 := hw20.up' sts64
                 try replace hw19 := hw19.up' sts64
                 try replace hw20 := hw20.up' sts64
                 try replace h28 := h28.up' sts64
                 try replace h30 := h30.up' sts64
                 try replace h45 := h45.up' sts64
                 try replace h49 := h49.up' sts64
                 try replace h57 := h57.up' sts64
                 try replace h61 := h61.up' sts64
                 refine k_yes rfl rfl ?_
                 refine k_move rfl rfl ?_
                 exact fq_end)
            first
            | (refine rd_read ?c65 rfl rfl (fun s66 sts66 => ?h65) ?_
               case h65 =>
                 try replace ha := ha.up' sts66
                 try replace hb := hb.up' sts66
                 try replace hw19 := hw19.up' sts66
                 try replace hw20 := hw20.up' sts66
                 try replace hw19 := hw19.up' sts66
                 try replace hw20 := hw20.up' sts66
                 try replace h28 := h28.up' sts66
                 try replace h30 := h30.up' sts66
                 try replace h45 := h45.up' sts66
                 try replace h49 := h49.up' sts66
                 try replace h57 := h57.up' sts66
                 try replace h61 := h61.up' sts66
                 refine k_yes rfl rfl ?_
                 refine k_move rfl rfl ?_
                 exact fq_end)
            first
            | (refine rd_read ?c67 rfl rfl (fun s68 sts68 => ?h67) ?_
               case h67 =>
                 try replace ha := ha.up' sts68
                 try replace hb := hb.up' sts68
                 try replace hw19 := hw19.up' sts68
                 try replace hw20 := hw20.up' sts68
                 try replace hw19 := hw19.up' sts68
                 try replace hw20 := hw20.up' sts68
                 try replace h28 := h28.up' sts68
                 try replace h30 := h30.up' sts68
                 try replace h45 := h45.up' sts68
                 try replace h49 := h49.up' sts68
                 try replace h57 := h57.up' sts68
                 try replace h61 := h61.up' sts68
                 refine k_yes rfl rfl ?_
                 refine k_move rfl rfl ?_
                 exact fq_end)
            first
            | (refine rd_ixN rfl (wanted_yes rfl rfl rfl) Try.underlying22 size29 rfl rfl (by first | assumption | exact SL.of_R (by assumption) | exact Own.sl (by assumption)) (by first | exact at_map (by first | omega | (simp; omega)) | exact at_map' (by omega) (by first | omega | (simp; omega)) | (simp; omega) | simp) rfl ?_; intro q71 h71)
            | (refine rd_ix rfl (wanted_yes rfl rfl rfl) Try.underlying22 size29 rfl rfl (by first | assumption | exact SL.of_R (by assumption) | exact Own.sl (by assumption)) (by omega) (by first | exact at_map (by first | omega | (simp; omega)) | exact at_map' (by omega) (by first | omega | (simp; omega)) | (simp; omega) | simp) rfl ?_; intro q71 h71)
            first
            | (refine rd_read ?c71 rfl rfl (fun s72 sts72 => ?h71) ?_
               case h71 =>
                 try replace ha := ha.up' sts72
                 try replace hb := hb.up' sts72
                 try replace hw19 := hw19.up' sts72
                 try replace hw20 := hw20.up' sts72
                 try replace hw19 := hw19.up' sts72
                 try replace hw20 := hw20.up' sts72
                 try replace h28 := h28.up' sts72
                 try replace h30 := h30.up' sts72
                 try replace h45 := h45.up' sts72
                 try replace h49 := h49.up' sts72
                 try replace h57 := h57.up' sts72
                 try replace h61 := h61.up' sts72
                 try replace h71 := h71.up' sts72
                 refine k_yes rfl rfl ?_
                 first | refine k_load_blk one29 rfl (by assumption) (by rfl) rfl ?_ | refine k_load_val one29 rfl (by assumption) rfl ?_
                 exact fq_end)
            first
            | (refine rd_read ?c73 rfl rfl (fun s74 sts74 => ?h73) ?_
               case h73 =>
                 try replace ha := ha.up' sts74
                 try replace hb := hb.up' sts74
                 try replace hw19 := hw19.up' sts74
                 try replace hw20 := hw20.up' sts74
                 try replace hw19 := hw19.up' sts74
                 try replace hw20 := hw20.up' sts74
                 try replace h28 := h28.up' sts74
                 try replace h30 := h30.up' sts74
                 try replace h45 := h45.up' sts74
                 try replace h49 := h49.up' sts74
                 try replace h57 := h57.up' sts74
                 try replace h61 := h61.up' sts74
                 try replace h71 := h71.up' sts74
                 refine k_yes rfl rfl ?_
                 refine k_move rfl rfl ?_
                 exact fq_end)
            first
            | (refine rd_read ?c75 rfl rfl (fun s76 sts76 => ?h75) ?_
               case h75 =>
                 try replace ha := ha.up' sts76
                 try replace hb := hb.up' sts76
                 try replace hw19 := hw19.up' sts76
                 try replace hw20 := hw20.up' sts76
                 try replace hw19 := hw19.up' sts76
                 try replace hw20 := hw20.up' sts76
                 try replace h28 := h28.up' sts76
                 try replace h30 := h30.up' sts76
                 try replace h45 := h45.up' sts76
                 try replace h49 := h49.up' sts76
                 try replace h57 := h57.up' sts76
                 try replace h61 := h61.up' sts76
                 try replace h71 := h71.up' sts76
                 refine k_yes rfl rfl ?_
                 refine k_move rfl rfl ?_
                 exact fq_end)
            first
            | (refine rd_ixN rfl (wanted_yes rfl rfl rfl) Try.underlying22 size29 rfl rfl (by first | assumption | exact SL.of_R (by assumption) | exact Own.sl (by assumption)) (by first | exact at_map (by first | omega | (simp; omega)) | exact at_map' (by omega) (by first | omega | (simp; omega)) | (simp; omega) | simp) rfl ?_; intro q75 h75)
            | (refine rd_ix rfl (wanted_yes rfl rfl rfl) Try.underlying22 size29 rfl rfl (by first | assumption | exact SL.of_R (by assumption) | exact Own.sl (by assumption)) (by omega) (by first | exact at_map (by first | omega | (simp; omega)) | exact at_map' (by omega) (by first | omega | (simp; omega)) | (simp; omega) | simp) rfl ?_; intro q75 h75)
            first
            | (refine rd_read ?c79 rfl rfl (fun s80 sts80 => ?h79) ?_
               case h79 =>
                 try replace ha := ha.up' sts80
                 try replace hb := hb.up' sts80
                 try replace hw19 := hw19.up' sts80
                 try replace hw20 := hw20.up' sts80
                 try replace hw19 := hw19.up' sts80
                 try replace hw20 := hw20.up' sts80
                 try replace h28 := h28.up' sts80
                 try replace h30 := h30.up' sts80
                 try replace h45 := h45.up' sts80
                 try replace h49 := h49.up' sts80
                 try replace h57 := h57.up' sts80
                 try replace h61 := h61.up' sts80
                 try replace h71 := h71.up' sts80
                 try replace h75 := h75.up' sts80
                 refine k_yes rfl rfl ?_
                 first | refine k_load_blk one29 rfl (by assumption) (by rfl) rfl ?_ | refine k_load_val one29 rfl (by assumption) rfl ?_
                 exact fq_end)
            first
            | (refine rd_read ?c81 rfl rfl (fun s82 sts82 => ?h81) ?_
               case h81 =>
                 try replace ha := ha.up' sts82
                 try replace hb := hb.up' sts82
                 try replace hw19 := hw19.up' sts82
                 try replace hw20 := hw20.up' sts82
                 try replace hw19 := hw19.up' sts82
                 try replace hw20 := hw20.up' sts82
                 try replace h28 := h28.up' sts82
                 try replace h30 := h30.up' sts82
                 try replace h45 := h45.up' sts82
                 try replace h49 := h49.up' sts82
                 try replace h57 := h57.up' sts82
                 try replace h61 := h61.up' sts82
                 try replace h71 := h71.up' sts82
                 try replace h75 := h75.up' sts82
                 refine k_yes rfl rfl ?_
                 refine k_lss rfl rfl rfl ?_
                 exact fq_end)
            refine rd_act rfl rfl ?_
            refine k_yes rfl rfl ?_
            refine k_call cal13 rfl (less_c (by exact SL.of_R (by assumption)) (by exact SL.of_R (by assumption)) (by first | omega | decide | (simp; done) | (simp; omega) | (simp [wl]; omega)) (by first | omega | decide | (simp; done) | (simp; omega) | (simp [wl]; omega))) rfl ?_
            rintro s83 v68 sts83 rfl
            have szs83 := sts83.size
            have hS : Step (K0) s s83 := by first | exact hS.trans0 sts83 | exact hS.transK sts83 | exact hS.transOC sts83 | (refine hS.transNewC sts83 ?_; first | omega | (dsimp only; omega)) | (refine hS.transNewO sts83 ?_; first | omega | (dsimp only; omega)) | (refine hS.transSub sts83 ?_; intro l hl; simp only [KC, KO] at hl ⊢; omega)
            have hE10 : Step (K0) s9 s83 := by first | exact hE10.trans0 sts83 | exact hE10.transK sts83 | exact hE10.transOC sts83 | (refine hE10.transNewC sts83 ?_; first | omega | (dsimp only; omega)) | (refine hE10.transNewO sts83 ?_; first | omega | (dsimp only; omega)) | (refine hE10.transSub sts83 ?_; intro l hl; simp only [KC, KO] at hl ⊢; omega)
            try replace ha := ha.up' sts83
            try replace hb := hb.up' sts83
            try replace hw19 := hw19.up' sts83
            try replace hw20 := hw20.up' sts83
            try replace hw19 := hw19.up' sts83
            try replace hw20 := hw20.up' sts83
            try replace h28 := h28.up' sts83
            try replace h30 := h30.up' sts83
            try replace h45 := h45.up' sts83
            try replace h49 := h49.up' sts83
            try replace h57 := h57.up' sts83
            try replace h61 := h61.up' sts83
            try replace h71 := h71.up' sts83
            try replace h75 := h75.up' sts83
            refine rd_cont sts83 ?_
            first
            | (refine rd_read ?c84 rfl rfl (fun s85 sts85 => ?h84) ?_
               case h84 =>
                 try replace ha := ha.up' sts85
                 try replace hb := hb.up' sts85
                 try replace hw19 := hw19.up' sts85
                 try replace hw20 := hw20.up' sts85
                 try replace hw19 := hw19.up' sts85
                 try replace hw20 := hw20.up' sts85
                 try replace h28 := h28.up' sts85
                 try replace h30 := h30.up' sts85
                 try replace h45 := h45.up' sts85
                 try replace h49 := h49.up' sts85
                 try replace h57 := h57.up' sts85
                 try replace h61 := h61.up' sts85
                 try replace h71 := h71.up' sts85
                 try replace h75 := h75.up' sts85
                 refine k_yes rfl rfl ?_
                 refine k_eqlb Try.underlying4 rfl rfl rfl ?_
                 refine k_as (v := .bool true) (by simp [o2]) ?_
                 exact fq_end)
            first
            | (refine rd_read ?c86 rfl rfl (fun s87 sts87 => ?h86) ?_
               case h86 =>
                 try replace ha := ha.up' sts87
                 try replace hb := hb.up' sts87
                 try replace hw19 := hw19.up' sts87
                 try replace hw20 := hw20.up' sts87
                 try replace hw19 := hw19.up' sts87
                 try replace hw20 := hw20.up' sts87
                 try replace h28 := h28.up' sts87
                 try replace h30 := h30.up' sts87
                 try replace h45 := h45.up' sts87
                 try replace h49 := h49.up' sts87
                 try replace h57 := h57.up' sts87
                 try replace h61 := h61.up' sts87
                 try replace h71 := h71.up' sts87
                 try replace h75 := h75.up' sts87
                 refine k_pickT rfl rfl rfl rfl ?_
                 exact fq_end)
            first
            | (refine rd_read ?c88 rfl rfl (fun s89 sts89 => ?h88) ?_
               case h88 =>
                 try replace ha := ha.up' sts89
                 try replace hb := hb.up' sts89
                 try replace hw19 := hw19.up' sts89
                 try replace hw20 := hw20.up' sts89
                 try replace hw19 := hw19.up' sts89
                 try replace hw20 := hw20.up' sts89
                 try replace h28 := h28.up' sts89
                 try replace h30 := h30.up' sts89
                 try replace h45 := h45.up' sts89
                 try replace h49 := h49.up' sts89
                 try replace h57 := h57.up' sts89
                 try replace h61 := h61.up' sts89
                 try replace h71 := h71.up' sts89
                 try replace h75 := h75.up' sts89
                 refine k_move rfl rfl ?_
                 exact fq_end)
            refine rd_act rfl rfl ?_
            refine k_yes rfl rfl ?_
            refine k_call cal9 rfl (awake_c) rfl ?_
            rintro s90 v81 sts90 rfl
            have szs90 := sts90.size
            have hS : Step (K0) s s90 := by first | exact hS.trans0 sts90 | exact hS.transK sts90 | exact hS.transOC sts90 | (refine hS.transNewC sts90 ?_; first | omega | (dsimp only; omega)) | (refine hS.transNewO sts90 ?_; first | omega | (dsimp only; omega)) | (refine hS.transSub sts90 ?_; intro l hl; simp only [KC, KO] at hl ⊢; omega)
            have hE10 : Step (K0) s9 s90 := by first | exact hE10.trans0 sts90 | exact hE10.transK sts90 | exact hE10.transOC sts90 | (refine hE10.transNewC sts90 ?_; first | omega | (dsimp only; omega)) | (refine hE10.transNewO sts90 ?_; first | omega | (dsimp only; omega)) | (refine hE10.transSub sts90 ?_; intro l hl; simp only [KC, KO] at hl ⊢; omega)
            try replace ha := ha.up' sts90
            try replace hb := hb.up' sts90
            try replace hw19 := hw19.up' sts90
            try replace hw20 := hw20.up' sts90
            try replace hw19 := hw19.up' sts90
            try replace hw20 := hw20.up' sts90
            try replace h28 := h28.up' sts90
            try replace h30 := h30.up' sts90
            try replace h45 := h45.up' sts90
            try replace h49 := h49.up' sts90
            try replace h57 := h57.up' sts90
            try replace h61 := h61.up' sts90
            try replace h71 := h71.up' sts90
            try replace h75 := h75.up' sts90
            refine rd_cont sts90 ?_
            first
            | (refine rd_read ?c91 rfl rfl (fun s92 sts92 => ?h91) ?_
               case h91 =>
                 try replace ha := ha.up' sts92
                 try replace hb := hb.up' sts92
                 try replace hw19 := hw19.up' sts92
                 try replace hw20 := hw20.up' sts92
                 try replace hw19 := hw19.up' sts92
                 try replace hw20 := hw20.up' sts92
                 try replace h28 := h28.up' sts92
                 try replace h30 := h30.up' sts92
                 try replace h45 := h45.up' sts92
                 try replace h49 := h49.up' sts92
                 try replace h57 := h57.up' sts92
                 try replace h61 := h61.up' sts92
                 try replace h71 := h71.up' sts92
                 try replace h75 := h75.up' sts92
                 refine k_pickT rfl rfl rfl rfl ?_
                 exact fq_end)
            refine rd_nil ?_
            refine k_assign rfl rfl ?_
            refine k_nil ?_
            refine k_keep [(0, _), (1, _), (4, _), (7, _), (8, _), (9, _)] ⟨rfl, rfl, rfl, rfl, rfl, rfl, trivial⟩ ?_
            refine k_ret ?_
            refine ⟨_, rfl, Ret.mk hS ?_⟩
            rfl
          · -- t51 False
            refine k_skip ?_
            refine k_blk ?_
            refine k_region ?_
            refine k_move rfl rfl ?_
            first | refine k_addN rfl rfl (by omega) (by omega) rfl ?_ | refine k_add rfl rfl rfl ?_
            refine k_assign rfl rfl ?_
            refine k_nil ?_
            refine k_stop ⟨(s13, i + 1), ⟨?_, ?_, trivial⟩, ⟨rfl, rfl, rfl, rfl, trivial⟩, ⟨rfl, hE10, ?_⟩, ?_⟩
            · first | rfl | exact congrArg (fun z => some (Value.int _ z)) (by omega) | exact congrArg (fun z => some (Value.int _ z)) (by simp; done) | (simp; done)
            · first | rfl | exact congrArg (fun z => some (Value.int _ z)) (by omega) | exact congrArg (fun z => some (Value.int _ z)) (by simp; done) | (simp; done)
            · have e26 : l.getD i default = m.getD i default := by omega
              exact ⟨by omega, by omega, take_more he (by omega) (by omega) e26⟩
            · first | omega | (dsimp only; omega)
        · -- t40 False
          refine k_exit rfl ?_
          refine k_seq ?_
          refine k_region ?_
          refine k_move rfl rfl ?_
          refine k_move rfl rfl ?_
          have o1 := order_end he hi hj (by omega)
          have o2 := order_end he.symm hj hi (by omega)
          refine k_call cal13 rfl (less_c (by exact SL.of_R (by assumption)) (by exact SL.of_R (by assumption)) (by first | omega | decide | (simp; done) | (simp; omega) | (simp [wl]; omega)) (by first | omega | decide | (simp; done) | (simp; omega) | (simp [wl]; omega))) rfl ?_
          rintro s93 v85 sts93 rfl
          have szs93 := sts93.size
          have hS : Step (K0) s s93 := by first | exact hS.trans0 sts93 | exact hS.transK sts93 | exact hS.transOC sts93 | (refine hS.transNewC sts93 ?_; first | omega | (dsimp only; omega)) | (refine hS.transNewO sts93 ?_; first | omega | (dsimp only; omega)) | (refine hS.transSub sts93 ?_; intro l hl; simp only [KC, KO] at hl ⊢; omega)
          have hE10 : Step (K0) s9 s93 := by first | exact hE10.trans0 sts93 | exact hE10.transK sts93 | exact hE10.transOC sts93 | (refine hE10.transNewC sts93 ?_; first | omega | (dsimp only; omega)) | (refine hE10.transNewO sts93 ?_; first | omega | (dsimp only; omega)) | (refine hE10.transSub sts93 ?_; intro l hl; simp only [KC, KO] at hl ⊢; omega)
          try replace ha := ha.up' sts93
          try replace hb := hb.up' sts93
          try replace hw19 := hw19.up' sts93
          try replace hw20 := hw20.up' sts93
          try replace hw19 := hw19.up' sts93
          try replace hw20 := hw20.up' sts93
          try replace h28 := h28.up' sts93
          try replace h30 := h30.up' sts93
          refine k_move rfl rfl ?_
          refine k_len Try.underlying22 rfl (by first | exact ⟨_, _, rfl⟩ | exact SL.hasLen (by assumption) | exact (SL.of_R (by assumption)).hasLen | exact (Own.sl (by assumption)).hasLen) rfl ?_
          try simp only [List.length_map]
          refine k_move rfl rfl ?_
          refine k_len Try.underlying22 rfl (by first | exact ⟨_, _, rfl⟩ | exact SL.hasLen (by assumption) | exact (SL.of_R (by assumption)).hasLen | exact (Own.sl (by assumption)).hasLen) rfl ?_
          try simp only [List.length_map]
          refine k_lss rfl rfl rfl ?_
          refine k_eqlb Try.underlying4 rfl rfl rfl ?_
          refine k_as (v := .bool true) (by simp [o1]) ?_
          refine k_move rfl rfl ?_
          refine k_yes rfl rfl ?_
          refine k_move rfl rfl ?_
          refine k_yes rfl rfl ?_
          refine k_move rfl rfl ?_
          refine k_yes rfl rfl ?_
          refine k_call cal13 rfl (less_c (by exact SL.of_R (by assumption)) (by exact SL.of_R (by assumption)) (by first | omega | decide | (simp; done) | (simp; omega) | (simp [wl]; omega)) (by first | omega | decide | (simp; done) | (simp; omega) | (simp [wl]; omega))) rfl ?_
          rintro s94 v95 sts94 rfl
          have szs94 := sts94.size
          have hS : Step (K0) s s94 := by first | exact hS.trans0 sts94 | exact hS.transK sts94 | exact hS.transOC sts94 | (refine hS.transNewC sts94 ?_; first | omega | (dsimp only; omega)) | (refine hS.transNewO sts94 ?_; first | omega | (dsimp only; omega)) | (refine hS.transSub sts94 ?_; intro l hl; simp only [KC, KO] at hl ⊢; omega)
          have hE10 : Step (K0) s9 s94 := by first | exact hE10.trans0 sts94 | exact hE10.transK sts94 | exact hE10.transOC sts94 | (refine hE10.transNewC sts94 ?_; first | omega | (dsimp only; omega)) | (refine hE10.transNewO sts94 ?_; first | omega | (dsimp only; omega)) | (refine hE10.transSub sts94 ?_; intro l hl; simp only [KC, KO] at hl ⊢; omega)
          try replace ha := ha.up' sts94
          try replace hb := hb.up' sts94
          try replace hw19 := hw19.up' sts94
          try replace hw20 := hw20.up' sts94
          try replace hw19 := hw19.up' sts94
          try replace hw20 := hw20.up' sts94
          try replace h28 := h28.up' sts94
          try replace h30 := h30.up' sts94
          refine k_yes rfl rfl ?_
          refine k_move rfl rfl ?_
          refine k_yes rfl rfl ?_
          refine k_len Try.underlying22 rfl (by first | exact ⟨_, _, rfl⟩ | exact SL.hasLen (by assumption) | exact (SL.of_R (by assumption)).hasLen | exact (Own.sl (by assumption)).hasLen) rfl ?_
          try simp only [List.length_map]
          refine k_yes rfl rfl ?_
          refine k_move rfl rfl ?_
          refine k_yes rfl rfl ?_
          refine k_len Try.underlying22 rfl (by first | exact ⟨_, _, rfl⟩ | exact SL.hasLen (by assumption) | exact (SL.of_R (by assumption)).hasLen | exact (Own.sl (by assumption)).hasLen) rfl ?_
          try simp only [List.length_map]
          refine k_yes rfl rfl ?_
          refine k_lss rfl rfl rfl ?_
          refine k_yes rfl rfl ?_
          refine k_eqlb Try.underlying4 rfl rfl rfl ?_
          refine k_as (v := .bool true) (by simp [o2]) ?_
          refine k_pickT rfl rfl rfl rfl ?_
          refine k_move rfl rfl ?_
          refine k_yes rfl rfl ?_
          refine k_call cal9 rfl (awake_c) rfl ?_
          rintro s95 v104 sts95 rfl
          have szs95 := sts95.size
          have hS : Step (K0) s s95 := by first | exact hS.trans0 sts95 | exact hS.transK sts95 | exact hS.transOC sts95 | (refine hS.transNewC sts95 ?_; first | omega | (dsimp only; omega)) | (refine hS.transNewO sts95 ?_; first | omega | (dsimp only; omega)) | (refine hS.transSub sts95 ?_; intro l hl; simp only [KC, KO] at hl ⊢; omega)
          have hE10 : Step (K0) s9 s95 := by first | exact hE10.trans0 sts95 | exact hE10.transK sts95 | exact hE10.transOC sts95 | (refine hE10.transNewC sts95 ?_; first | omega | (dsimp only; omega)) | (refine hE10.transNewO sts95 ?_; first | omega | (dsimp only; omega)) | (refine hE10.transSub sts95 ?_; intro l hl; simp only [KC, KO] at hl ⊢; omega)
          try replace ha := ha.up' sts95
          try replace hb := hb.up' sts95
          try replace hw19 := hw19.up' sts95
          try replace hw20 := hw20.up' sts95
          try replace hw19 := hw19.up' sts95
          try replace hw20 := hw20.up' sts95
          try replace h28 := h28.up' sts95
          try replace h30 := h30.up' sts95
          refine k_pickT rfl rfl rfl rfl ?_
          refine k_assign rfl rfl ?_
          refine k_nil ?_
          refine k_keep [(4, _)] ⟨rfl, trivial⟩ ?_
          refine k_ret ?_
          refine ⟨_, rfl, Ret.mk hS ?_⟩
          rfl
      · -- t35 False
        refine k_no rfl rfl rfl rfl ?_
        refine k_no rfl rfl rfl rfl ?_
        refine k_no rfl rfl rfl rfl ?_
        refine k_no rfl rfl rfl rfl ?_
        refine k_pickF rfl rfl rfl rfl ?_
        refine k_nil ?_
        refine k_keep [(0, _), (1, _), (4, _), (7, _), (8, _), (9, _), (40, _)] ⟨rfl, rfl, rfl, rfl, rfl, rfl, rfl, trivial⟩ ?_
        refine k_cond_false rfl ?_
        refine k_exit rfl ?_
        refine k_seq ?_
        refine k_region ?_
        refine k_move rfl rfl ?_
        refine k_move rfl rfl ?_
        have o1 := order_end he hi hj (by omega)
        have o2 := order_end he.symm hj hi (by omega)
        refine k_call cal13 rfl (less_c (by exact SL.of_R (by assumption)) (by exact SL.of_R (by assumption)) (by first | omega | decide | (simp; done) | (simp; omega) | (simp [wl]; omega)) (by first | omega | decide | (simp; done) | (simp; omega) | (simp [wl]; omega))) rfl ?_
        rintro s96 v85 sts96 rfl
        have szs96 := sts96.size
        have hS : Step (K0) s s96 := by first | exact hS.trans0 sts96 | exact hS.transK sts96 | exact hS.transOC sts96 | (refine hS.transNewC sts96 ?_; first | omega | (dsimp only; omega)) | (refine hS.transNewO sts96 ?_; first | omega | (dsimp only; omega)) | (refine hS.transSub sts96 ?_; intro l hl; simp only [KC, KO] at hl ⊢; omega)
        have hE10 : Step (K0) s9 s96 := by first | exact hE10.trans0 sts96 | exact hE10.transK sts96 | exact hE10.transOC sts96 | (refine hE10.transNewC sts96 ?_; first | omega | (dsimp only; omega)) | (refine hE10.transNewO sts96 ?_; first | omega | (dsimp only; omega)) | (refine hE10.transSub sts96 ?_; intro l hl; simp only [KC, KO] at hl ⊢; omega)
        try replace ha := ha.up' sts96
        try replace hb := hb.up' sts96
        try replace hw19 := hw19.up' sts96
        try replace hw20 := hw20.up' sts96
        try replace hw19 := hw19.up' sts96
        try replace hw20 := hw20.up' sts96
        try replace h28 := h28.up' sts96
        try replace h30 := h30.up' sts96
        refine k_move rfl rfl ?_
        refine k_len Try.underlying22 rfl (by first | exact ⟨_, _, rfl⟩ | exact SL.hasLen (by assumption) | exact (SL.of_R (by assumption)).hasLen | exact (Own.sl (by assumption)).hasLen) rfl ?_
        try simp only [List.length_map]
        refine k_move rfl rfl ?_
        refine k_len Try.underlying22 rfl (by first | exact ⟨_, _, rfl⟩ | exact SL.hasLen (by assumption) | exact (SL.of_R (by assumption)).hasLen | exact (Own.sl (by assumption)).hasLen) rfl ?_
        try simp only [List.length_map]
        refine k_lss rfl rfl rfl ?_
        refine k_eqlb Try.underlying4 rfl rfl rfl ?_
        refine k_as (v := .bool true) (by simp [o1]) ?_
        refine k_move rfl rfl ?_
        refine k_yes rfl rfl ?_
        refine k_move rfl rfl ?_
        refine k_yes rfl rfl ?_
        refine k_move rfl rfl ?_
        refine k_yes rfl rfl ?_
        refine k_call cal13 rfl (less_c (by exact SL.of_R (by assumption)) (by exact SL.of_R (by assumption)) (by first | omega | decide | (simp; done) | (simp; omega) | (simp [wl]; omega)) (by first | omega | decide | (simp; done) | (simp; omega) | (simp [wl]; omega))) rfl ?_
        rintro s97 v95 sts97 rfl
        have szs97 := sts97.size
        have hS : Step (K0) s s97 := by first | exact hS.trans0 sts97 | exact hS.transK sts97 | exact hS.transOC sts97 | (refine hS.transNewC sts97 ?_; first | omega | (dsimp only; omega)) | (refine hS.transNewO sts97 ?_; first | omega | (dsimp only; omega)) | (refine hS.transSub sts97 ?_; intro l hl; simp only [KC, KO] at hl ⊢; omega)
        have hE10 : Step (K0) s9 s97 := by first | exact hE10.trans0 sts97 | exact hE10.transK sts97 | exact hE10.transOC sts97 | (refine hE10.transNewC sts97 ?_; first | omega | (dsimp only; omega)) | (refine hE10.transNewO sts97 ?_; first | omega | (dsimp only; omega)) | (refine hE10.transSub sts97 ?_; intro l hl; simp only [KC, KO] at hl ⊢; omega)
        try replace ha := ha.up' sts97
        try replace hb := hb.up' sts97
        try replace hw19 := hw19.up' sts97
        try replace hw20 := hw20.up' sts97
        try replace hw19 := hw19.up' sts97
        try replace hw20 := hw20.up' sts97
        try replace h28 := h28.up' sts97
        try replace h30 := h30.up' sts97
        refine k_yes rfl rfl ?_
        refine k_move rfl rfl ?_
        refine k_yes rfl rfl ?_
        refine k_len Try.underlying22 rfl (by first | exact ⟨_, _, rfl⟩ | exact SL.hasLen (by assumption) | exact (SL.of_R (by assumption)).hasLen | exact (Own.sl (by assumption)).hasLen) rfl ?_
        try simp only [List.length_map]
        refine k_yes rfl rfl ?_
        refine k_move rfl rfl ?_
        refine k_yes rfl rfl ?_
        refine k_len Try.underlying22 rfl (by first | exact ⟨_, _, rfl⟩ | exact SL.hasLen (by assumption) | exact (SL.of_R (by assumption)).hasLen | exact (Own.sl (by assumption)).hasLen) rfl ?_
        try simp only [List.length_map]
        refine k_yes rfl rfl ?_
        refine k_lss rfl rfl rfl ?_
        refine k_yes rfl rfl ?_
        refine k_eqlb Try.underlying4 rfl rfl rfl ?_
        refine k_as (v := .bool true) (by simp [o2]) ?_
        refine k_pickT rfl rfl rfl rfl ?_
        refine k_move rfl rfl ?_
        refine k_yes rfl rfl ?_
        refine k_call cal9 rfl (awake_c) rfl ?_
        rintro s98 v104 sts98 rfl
        have szs98 := sts98.size
        have hS : Step (K0) s s98 := by first | exact hS.trans0 sts98 | exact hS.transK sts98 | exact hS.transOC sts98 | (refine hS.transNewC sts98 ?_; first | omega | (dsimp only; omega)) | (refine hS.transNewO sts98 ?_; first | omega | (dsimp only; omega)) | (refine hS.transSub sts98 ?_; intro l hl; simp only [KC, KO] at hl ⊢; omega)
        have hE10 : Step (K0) s9 s98 := by first | exact hE10.trans0 sts98 | exact hE10.transK sts98 | exact hE10.transOC sts98 | (refine hE10.transNewC sts98 ?_; first | omega | (dsimp only; omega)) | (refine hE10.transNewO sts98 ?_; first | omega | (dsimp only; omega)) | (refine hE10.transSub sts98 ?_; intro l hl; simp only [KC, KO] at hl ⊢; omega)
        try replace ha := ha.up' sts98
        try replace hb := hb.up' sts98
        try replace hw19 := hw19.up' sts98
        try replace hw20 := hw20.up' sts98
        try replace hw19 := hw19.up' sts98
        try replace hw20 := hw20.up' sts98
        try replace h28 := h28.up' sts98
        try replace h30 := h30.up' sts98
        refine k_pickT rfl rfl rfl rfl ?_
        refine k_assign rfl rfl ?_
        refine k_nil ?_
        refine k_keep [(4, _)] ⟨rfl, trivial⟩ ?_
        refine k_ret ?_
        refine ⟨_, rfl, Ret.mk hS ?_⟩
        rfl

end Go.Proofs
