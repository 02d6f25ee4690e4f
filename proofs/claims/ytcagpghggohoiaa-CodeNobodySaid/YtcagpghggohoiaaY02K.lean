import Derived.Test.YtcagpghggohoiaaY02J
set_option linter.unusedSimpArgs false
set_option linter.unusedVariables false
namespace Go.Proofs
open Go.Fw


/-- Bytes, one behind the other: the first in which they are unlike says. -/
def lessB : List UInt8 → List UInt8 → Bool
  | [], [] => false
  | [], _ :: _ => true
  | _ :: _, [] => false
  | a :: x, b :: y => if a = b then lessB x y else decide (a.toNat < b.toNat)
theorem lessB_split (p x y : List UInt8) : lessB (p ++ x) (p ++ y) = lessB x y := by
  induction p with
  | nil => rfl
  | cons a p ih => simp [lessB, ih]
theorem take_more {α : Type} [Inhabited α] {a b : List α} {i : Nat} (h : a.take i = b.take i) (ha : i < a.length) (hb : i < b.length) (he : a.getD i default = b.getD i default) : a.take (i + 1) = b.take (i + 1) := by
  rw [List.take_succ_eq_append_getElem ha, List.take_succ_eq_append_getElem hb, h]
  simp [List.getD, ha, hb] at he
  rw [he]
theorem lessB_at {a b : List UInt8} {i : Nat} (h : a.take i = b.take i) (ha : i < a.length) (hb : i < b.length) (hne : a.getD i default ≠ b.getD i default) : lessB a b = decide ((a.getD i default).toNat < (b.getD i default).toNat) := by
  have e1 : a = a.take i ++ a.getD i default :: a.drop (i + 1) := by
    conv => lhs; rw [← List.take_append_drop i a]
    congr 1
    rw [List.drop_eq_getElem_cons ha]
    simp [List.getD, ha]
  have e2 : b = a.take i ++ b.getD i default :: b.drop (i + 1) := by
    conv => lhs; rw [← List.take_append_drop i b]
    rw [h]
    congr 1
    rw [List.drop_eq_getElem_cons hb]
    simp [List.getD, hb]
  generalize a.getD i default = c at *
  generalize b.getD i default = d at *
  rw [e1, e2, lessB_split]
  simp [lessB, hne]
theorem lessB_end {a b : List UInt8} {i : Nat} (h : a.take i = b.take i) (ha : i ≤ a.length) (hb : i ≤ b.length) (hc : i = a.length ∨ i = b.length) : lessB a b = decide (a.length < b.length) := by
  have e1 : a = a.take i ++ a.drop i := (List.take_append_drop i a).symm
  have e2 : b = a.take i ++ b.drop i := by rw [h]; exact (List.take_append_drop i b).symm
  have h1 : a.length = i + (a.drop i).length := by simp; omega
  have h2 : b.length = i + (b.drop i).length := by simp; omega
  rw [h1, h2]
  conv => lhs; rw [e1, e2, lessB_split]
  rcases hc with hc | hc
  · have : a.drop i = [] := List.drop_eq_nil_of_le (by omega)
    rw [this]
    cases hq : b.drop i <;> simp [lessB]
  · have : b.drop i = [] := List.drop_eq_nil_of_le (by omega)
    rw [this]
    cases hq : a.drop i <;> simp [lessB]

set_option maxHeartbeats 2000000 in
set_option maxRecDepth 100000 in
theorem less_c {s : St} {va vb : Value} {a b : List UInt8} {la lb : Lab} (ha : SL s la va 1 (Bs a)) (hb : SL s lb vb 1 (Bs b)) (hal : a.length ≤ 140737488355328) (hbl : b.length ≤ 140737488355328) : Calls Try.prog 13 #[va, vb] s.w (Ret s (K0) (fun _ v => v = .bool (lessB a b))) := by
  have hS : Step (K0) s s := (Step.refl _).of0 (by first | exact fun _ h => h | (intro c h; simp [KC, KO] at h <;> omega))
  refine k_fn (rs := [4]) (args := [va, vb]) Try.func13 rfl rfl rfl rfl ?_
  refine k_seq ?_
  refine k_region ?_
  refine k_assign rfl rfl ?_
  refine k_nil ?_
  refine k_seq ?_
  refine k_seq ?_
  refine k_region ?_
  refine k_assign rfl rfl ?_
  refine k_nil ?_
  refine k_block ?_
  refine k_loopc (X := St × Nat) [(0, _), (1, _)] (fun (xL : St × Nat) => match xL with | (sl, i) => [(4, .bool false), (5, .int .i64 (i : Int))]) (fun (xL : St × Nat) wL => match xL with | (sl, i) => sl.w = wL ∧ Step (K0) s sl ∧ (i ≤ a.length ∧ i ≤ b.length ∧ a.take i = b.take i)) (fun (xL : St × Nat) => match xL with | (sl, i) => a.length - i) (s, 0) ⟨rfl, rfl, trivial⟩ ?hv1 ?hi1 ?round1
  case hv1 => exact ⟨(by first | rfl | (simp <;> rfl)), (by first | rfl | (simp <;> rfl)), trivial⟩
  case hi1 =>
    refine ⟨rfl, (Step.refl _).of0 (by first | exact fun _ h => h | (intro c h; simp [KC, KO] at h <;> omega)), ?_⟩
    exact ⟨Nat.zero_le _, Nat.zero_le _, rfl⟩
  rintro ⟨s2, i⟩ wL ⟨rfl, hE1, hi, hj, he⟩
  have stE1 := hE1
  have szs2 := stE1.size
  have hS : Step (K0) s s2 := by first | exact hS.trans0 stE1 | exact hS.transK stE1 | exact hS.transOC stE1 | (refine hS.transNewC stE1 ?_; first | omega | (dsimp only; omega)) | (refine hS.transNewO stE1 ?_; first | omega | (dsimp only; omega)) | (refine hS.transSub stE1 ?_; intro l hl; simp only [KC, KO] at hl ⊢; omega)
  try replace ha := ha.up' stE1
  try replace hb := hb.up' stE1
  refine k_seq ?_
  refine k_seq ?_
  refine k_region ?_
  refine k_move rfl rfl ?_
  refine k_move rfl rfl ?_
  refine k_len Try.underlying27 rfl (by first | exact ⟨_, _, rfl⟩ | exact SL.hasLen (by assumption) | exact (SL.of_R (by assumption)).hasLen | exact (Own.sl (by assumption)).hasLen) rfl ?_
  try simp only [List.length_map]
  refine k_lss rfl rfl rfl ?_
  refine k_move rfl rfl ?_
  first | refine k_split (fun c10 => ?_) (fun c10 => ?_) | refine k_splitb (fun c10 => ?_) (fun c10 => ?_)
  · -- t10 True
    refine k_yes rfl rfl ?_
    refine k_move rfl rfl ?_
    refine k_yes rfl rfl ?_
    refine k_move rfl rfl ?_
    refine k_yes rfl rfl ?_
    refine k_len Try.underlying27 rfl (by first | exact ⟨_, _, rfl⟩ | exact SL.hasLen (by assumption) | exact (SL.of_R (by assumption)).hasLen | exact (Own.sl (by assumption)).hasLen) rfl ?_
    try simp only [List.length_map]
    refine k_yes rfl rfl ?_
    refine k_lss rfl rfl rfl ?_
    refine k_pickT rfl rfl rfl rfl ?_
    refine k_nil ?_
    refine k_keep [(0, _), (1, _), (4, _), (5, _), (15, _)] ⟨rfl, rfl, rfl, rfl, rfl, trivial⟩ ?_
    first | refine k_cond_dec rfl (fun c15 => ?_) (fun c15 => ?_) | refine k_cond rfl (fun c15 => ?_) (fun c15 => ?_)
    · -- t15 True
      refine k_skip ?_
      refine k_seq ?_
      refine k_block ?_
      refine k_seq ?_
      refine k_keep [(0, _), (1, _), (4, _), (5, _)] ⟨rfl, rfl, rfl, rfl, trivial⟩ ?_
      refine k_draw (K0) 9 [(false, 0), (false, 1), (false, 2), (false, 3), (false, 4), (false, 5), (false, 6), (false, 7), (false, 8)] mixed (fun _ h => h) rfl rfl ?_
      intro s4 sts4
      have szs4 := sts4.size
      have hS : Step (K0) s s4 := by first | exact hS.trans0 sts4 | exact hS.transK sts4 | exact hS.transOC sts4 | (refine hS.transNewC sts4 ?_; first | omega | (dsimp only; omega)) | (refine hS.transNewO sts4 ?_; first | omega | (dsimp only; omega)) | (refine hS.transSub sts4 ?_; intro l hl; simp only [KC, KO] at hl ⊢; omega)
      have hE1 : Step (K0) s s4 := by first | exact hE1.trans0 sts4 | exact hE1.transK sts4 | exact hE1.transOC sts4 | (refine hE1.transNewC sts4 ?_; first | omega | (dsimp only; omega)) | (refine hE1.transNewO sts4 ?_; first | omega | (dsimp only; omega)) | (refine hE1.transSub sts4 ?_; intro l hl; simp only [KC, KO] at hl ⊢; omega)
      try replace ha := ha.up' sts4
      try replace hb := hb.up' sts4
      first
      | (refine rd_read ?c5 rfl rfl (fun s6 sts6 => ?h5) ?_
         case h5 =>
           try replace ha := ha.up' sts6
           try replace hb := hb.up' sts6
           refine k_move rfl rfl ?_
           exact fq_end)
      first
      | (refine rd_read ?c7 rfl rfl (fun s8 sts8 => ?h7) ?_
         case h7 =>
           try replace ha := ha.up' sts8
           try replace hb := hb.up' sts8
           refine k_move rfl rfl ?_
           exact fq_end)
      first
      | (refine rd_ixN rfl (wanted_none rfl) Try.underlying27 size5 rfl rfl (by first | assumption | exact SL.of_R (by assumption) | exact Own.sl (by assumption)) (by first | exact at_map (by first | omega | (simp; omega)) | exact at_map' (by omega) (by first | omega | (simp; omega)) | (simp; omega) | simp) rfl ?_; intro q20 h20)
      | (refine rd_ix rfl (wanted_none rfl) Try.underlying27 size5 rfl rfl (by first | assumption | exact SL.of_R (by assumption) | exact Own.sl (by assumption)) (by omega) (by first | exact at_map (by first | omega | (simp; omega)) | exact at_map' (by omega) (by first | omega | (simp; omega)) | (simp; omega) | simp) rfl ?_; intro q20 h20)
      first
      | (refine rd_read ?c11 rfl rfl (fun s12 sts12 => ?h11) ?_
         case h11 =>
           try replace ha := ha.up' sts12
           try replace hb := hb.up' sts12
           try replace h20 := h20.up' sts12
           first | refine k_load_blk one5 rfl (by assumption) (by rfl) rfl ?_ | refine k_load_val one5 rfl (by assumption) rfl ?_
           exact fq_end)
      first
      | (refine rd_read ?c13 rfl rfl (fun s14 sts14 => ?h13) ?_
         case h13 =>
           try replace ha := ha.up' sts14
           try replace hb := hb.up' sts14
           try replace h20 := h20.up' sts14
           refine k_move rfl rfl ?_
           exact fq_end)
      first
      | (refine rd_read ?c15 rfl rfl (fun s16 sts16 => ?h15) ?_
         case h15 =>
           try replace ha := ha.up' sts16
           try replace hb := hb.up' sts16
           try replace h20 := h20.up' sts16
           refine k_move rfl rfl ?_
           exact fq_end)
      first
      | (refine rd_ixN rfl (wanted_none rfl) Try.underlying27 size5 rfl rfl (by first | assumption | exact SL.of_R (by assumption) | exact Own.sl (by assumption)) (by first | exact at_map (by first | omega | (simp; omega)) | exact at_map' (by omega) (by first | omega | (simp; omega)) | (simp; omega) | simp) rfl ?_; intro q24 h24)
      | (refine rd_ix rfl (wanted_none rfl) Try.underlying27 size5 rfl rfl (by first | assumption | exact SL.of_R (by assumption) | exact Own.sl (by assumption)) (by omega) (by first | exact at_map (by first | omega | (simp; omega)) | exact at_map' (by omega) (by first | omega | (simp; omega)) | (simp; omega) | simp) rfl ?_; intro q24 h24)
      first
      | (refine rd_read ?c19 rfl rfl (fun s20 sts20 => ?h19) ?_
         case h19 =>
           try replace ha := ha.up' sts20
           try replace hb := hb.up' sts20
           try replace h20 := h20.up' sts20
           try replace h24 := h24.up' sts20
           first | refine k_load_blk one5 rfl (by assumption) (by rfl) rfl ?_ | refine k_load_val one5 rfl (by assumption) rfl ?_
           exact fq_end)
      first
      | (refine rd_read ?c21 rfl rfl (fun s22 sts22 => ?h21) ?_
         case h21 =>
           try replace ha := ha.up' sts22
           try replace hb := hb.up' sts22
           try replace h20 := h20.up' sts22
           try replace h24 := h24.up' sts22
           refine k_neq rfl rfl rfl ?_
           exact fq_end)
      refine rd_nil ?_
      refine k_nil ?_
      refine k_keep [(0, _), (1, _), (4, _), (5, _), (26, _)] ⟨rfl, rfl, rfl, rfl, rfl, trivial⟩ ?_
      first | refine k_cond_dec rfl (fun c26 => ?_) (fun c26 => ?_) | refine k_cond rfl (fun c26 => ?_) (fun c26 => ?_)
      · -- t26 True
        refine k_seq ?_
        refine k_keep [(0, _), (1, _), (5, _)] ⟨rfl, rfl, rfl, trivial⟩ ?_
        refine k_draw (K0) 9 [(false, 0), (false, 1), (false, 2), (false, 3), (false, 4), (false, 5), (false, 6), (false, 7), (false, 8)] mixed (fun _ h => h) rfl rfl ?_
        intro s24 sts24
        have szs24 := sts24.size
        have hS : Step (K0) s s24 := by first | exact hS.trans0 sts24 | exact hS.transK sts24 | exact hS.transOC sts24 | (refine hS.transNewC sts24 ?_; first | omega | (dsimp only; omega)) | (refine hS.transNewO sts24 ?_; first | omega | (dsimp only; omega)) | (refine hS.transSub sts24 ?_; intro l hl; simp only [KC, KO] at hl ⊢; omega)
        have hE1 : Step (K0) s s24 := by first | exact hE1.trans0 sts24 | exact hE1.transK sts24 | exact hE1.transOC sts24 | (refine hE1.transNewC sts24 ?_; first | omega | (dsimp only; omega)) | (refine hE1.transNewO sts24 ?_; first | omega | (dsimp only; omega)) | (refine hE1.transSub sts24 ?_; intro l hl; simp only [KC, KO] at hl ⊢; omega)
        try replace ha := ha.up' sts24
        try replace hb := hb.up' sts24
        try replace h20 := h20.up' sts24
        try replace h24 := h24.up' sts24
        first
        | (refine rd_read ?c25 rfl rfl (fun s26 sts26 => ?h25) ?_
           case h25 =>
             try replace ha := ha.up' sts26
             try replace hb := hb.up' sts26
             try replace h20 := h20.up' sts26
             try replace h24 := h24.up' sts26
             refine k_move rfl rfl ?_
             exact fq_end)
        first
        | (refine rd_read ?c27 rfl rfl (fun s28 sts28 => ?h27) ?_
           case h27 =>
             try replace ha := ha.up' sts28
             try replace hb := hb.up' sts28
             try replace h20 := h20.up' sts28
             try replace h24 := h24.up' sts28
             refine k_move rfl rfl ?_
             exact fq_end)
        first
        | (refine rd_ixN rfl (wanted_none rfl) Try.underlying27 size5 rfl rfl (by first | assumption | exact SL.of_R (by assumption) | exact Own.sl (by assumption)) (by first | exact at_map (by first | omega | (simp; omega)) | exact at_map' (by omega) (by first | omega | (simp; omega)) | (simp; omega) | simp) rfl ?_; intro q29 h29)
        | (refine rd_ix rfl (wanted_none rfl) Try.underlying27 size5 rfl rfl (by first | assumption | exact SL.of_R (by assumption) | exact Own.sl (by assumption)) (by omega) (by first | exact at_map (by first | omega | (simp; omega)) | exact at_map' (by omega) (by first | omega | (simp; omega)) | (simp; omega) | simp) rfl ?_; intro q29 h29)
        first
        | (refine rd_read ?c31 rfl rfl (fun s32 sts32 => ?h31) ?_
           case h31 =>
             try replace ha := ha.up' sts32
             try replace hb := hb.up' sts32
             try replace h20 := h20.up' sts32
             try replace h24 := h24.up' sts32
             try replace h29 := h29.up' sts32
             first | refine k_load_blk one5 rfl (by assumption) (by rfl) rfl ?_ | refine k_load_val one5 rfl (by assumption) rfl ?_
             exact fq_end)
        first
        | (refine rd_read ?c33 rfl rfl (fun s34 sts34 => ?h33) ?_
           case h33 =>
             try replace ha := ha.up' sts34
             try replace hb := hb.up' sts34
             try replace h20 := h20.up' sts34
             try replace h24 := h24.up' sts34
             try replace h29 := h29.up' sts34
             refine k_move rfl rfl ?_
             exact fq_end)
        first
        | (refine rd_read ?c35 rfl rfl (fun s36 sts36 => ?h35) ?_
           case h35 =>
             try replace ha := ha.up' sts36
             try replace hb := hb.up' sts36
             try replace h20 := h20.up' sts36
             try replace h24 := h24.up' sts36
             try replace h29 := h29.up' sts36
             refine k_move rfl rfl ?_
             exact fq_end)
        first
        | (refine rd_ixN rfl (wanted_none rfl) Try.underlying27 size5 rfl rfl (by first | assumption | exact SL.of_R (by assumption) | exact Own.sl (by assumption)) (by first | exact at_map (by first | omega | (simp; omega)) | exact at_map' (by omega) (by first | omega | (simp; omega)) | (simp; omega) | simp) rfl ?_; intro q33 h33)
        | (refine rd_ix rfl (wanted_none rfl) Try.underlying27 size5 rfl rfl (by first | assumption | exact SL.of_R (by assumption) | exact Own.sl (by assumption)) (by omega) (by first | exact at_map (by first | omega | (simp; omega)) | exact at_map' (by omega) (by first | omega | (simp; omega)) | (simp; omega) | simp) rfl ?_; intro q33 h33)
        first
        | (refine rd_read ?c39 rfl rfl (fun s40 sts40 => ?h39) ?_
           case h39 =>
             try replace ha := ha.up' sts40
             try replace hb := hb.up' sts40
             try replace h20 := h20.up' sts40
             try replace h24 := h24.up' sts40
             try replace h29 := h29.up' sts40
             try replace h33 := h33.up' sts40
             first | refine k_load_blk one5 rfl (by assumption) (by rfl) rfl ?_ | refine k_load_val one5 rfl (by assumption) rfl ?_
             exact fq_end)
        first
        | (refine rd_read ?c41 rfl rfl (fun s42 sts42 => ?h41) ?_
           case h41 =>
             try replace ha := ha.up' sts42
             try replace hb := hb.up' sts42
             try replace h20 := h20.up' sts42
             try replace h24 := h24.up' sts42
             try replace h29 := h29.up' sts42
             try replace h33 := h33.up' sts42
             refine k_lss rfl rfl rfl ?_
             exact fq_end)
        refine rd_nil ?_
        refine k_assign rfl rfl ?_
        refine k_nil ?_
        refine k_keep [(0, _), (1, _), (4, _), (5, _)] ⟨rfl, rfl, rfl, rfl, trivial⟩ ?_
        refine k_ret ?_
        refine ⟨_, rfl, Ret.mk hS ?_⟩
        first | (rw [lessB_end he hi hj (by omega)]; simp [one]; done) | (rw [lessB_at he (by omega) (by omega) (fun e => c26 (by rw [e]))]; simp [one]; done)
      · -- t26 False
        refine k_skip ?_
        refine k_blk ?_
        refine k_region ?_
        refine k_move rfl rfl ?_
        first | refine k_addN rfl rfl (by omega) (by omega) rfl ?_ | refine k_add rfl rfl rfl ?_
        refine k_assign rfl rfl ?_
        refine k_nil ?_
        refine k_stop ⟨(s4, i + 1), ⟨?_, ?_, trivial⟩, ⟨rfl, rfl, trivial⟩, ⟨rfl, hE1, ?_⟩, ?_⟩
        · first | rfl | exact congrArg (fun z => some (Value.int _ z)) (by omega) | exact congrArg (fun z => some (Value.int _ z)) (by simp; done) | (simp; done)
        · first | rfl | exact congrArg (fun z => some (Value.int _ z)) (by omega) | exact congrArg (fun z => some (Value.int _ z)) (by simp; done) | (simp; done)
        · have e26 : a.getD i default = b.getD i default := by
            apply UInt8.toNat_inj.1
            omega
          exact ⟨by omega, by omega, take_more he (by omega) (by omega) e26⟩
        · first | omega | (dsimp only; omega)
    · -- t15 False
      refine k_exit rfl ?_
      refine k_seq ?_
      refine k_region ?_
      refine k_move rfl rfl ?_
      refine k_len Try.underlying27 rfl (by first | exact ⟨_, _, rfl⟩ | exact SL.hasLen (by assumption) | exact (SL.of_R (by assumption)).hasLen | exact (Own.sl (by assumption)).hasLen) rfl ?_
      try simp only [List.length_map]
      refine k_move rfl rfl ?_
      refine k_len Try.underlying27 rfl (by first | exact ⟨_, _, rfl⟩ | exact SL.hasLen (by assumption) | exact (SL.of_R (by assumption)).hasLen | exact (Own.sl (by assumption)).hasLen) rfl ?_
      try simp only [List.length_map]
      refine k_lss rfl rfl rfl ?_
      refine k_assign rfl rfl ?_
      refine k_nil ?_
      refine k_keep [(4, _)] ⟨rfl, trivial⟩ ?_
      refine k_ret ?_
      refine ⟨_, rfl, Ret.mk hS ?_⟩
      first | (rw [lessB_end he hi hj (by omega)]; simp [one]; done) | (rw [lessB_at he (by omega) (by omega) (fun e => c26 (by rw [e]))]; simp [one]; done)
  · -- t10 False
    refine k_no rfl rfl rfl rfl ?_
    refine k_no rfl rfl rfl rfl ?_
    refine k_no rfl rfl rfl rfl ?_
    refine k_no rfl rfl rfl rfl ?_
    refine k_pickF rfl rfl rfl rfl ?_
    refine k_nil ?_
    refine k_keep [(0, _), (1, _), (4, _), (5, _), (15, _)] ⟨rfl, rfl, rfl, rfl, rfl, trivial⟩ ?_
    refine k_cond_false rfl ?_
    refine k_exit rfl ?_
    refine k_seq ?_
    refine k_region ?_
    refine k_move rfl rfl ?_
    refine k_len Try.underlying27 rfl (by first | exact ⟨_, _, rfl⟩ | exact SL.hasLen (by assumption) | exact (SL.of_R (by assumption)).hasLen | exact (Own.sl (by assumption)).hasLen) rfl ?_
    try simp only [List.length_map]
    refine k_move rfl rfl ?_
    refine k_len Try.underlying27 rfl (by first | exact ⟨_, _, rfl⟩ | exact SL.hasLen (by assumption) | exact (SL.of_R (by assumption)).hasLen | exact (Own.sl (by assumption)).hasLen) rfl ?_
    try simp only [List.length_map]
    refine k_lss rfl rfl rfl ?_
    refine k_assign rfl rfl ?_
    refine k_nil ?_
    refine k_keep [(4, _)] ⟨rfl, trivial⟩ ?_
    refine k_ret ?_
    refine ⟨_, rfl, Ret.mk hS ?_⟩
    first | (rw [lessB_end he hi hj (by omega)]; simp [one]; done) | (rw [lessB_at he (by omega) (by omega) (fun e => c26 (by rw [e]))]; simp [one]; done)

end Go.Proofs
