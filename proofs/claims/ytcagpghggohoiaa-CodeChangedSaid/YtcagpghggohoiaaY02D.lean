import Derived.Test.YtcagpghggohoiaaY02C
set_option linter.unusedSimpArgs false
set_option linter.unusedVariables false
namespace Go.Proofs
open Go.Fw
theorem fld56_1 : fieldT Try.prog 56 1 = some 1 := by kernel_rfl
theorem fld56_2 : fieldT Try.prog 56 2 = some 2 := by kernel_rfl
theorem one3 : oneT Try.prog 3 = true := by kernel_rfl
theorem one4 : oneT Try.prog 4 = true := by kernel_rfl
theorem one5 : oneT Try.prog 5 = true := by kernel_rfl
theorem size4 : sizeT Try.prog 4 1 = true := by kernel_rfl

abbrev BIG : Nat := 70368744177664
/-- A Reader: the bytes, the place, a fault. -/
structure Rd where
  all : List UInt8
  pl : Nat
  bad : Bool
def Rd.fail (r : Rd) : Rd := { r with bad := true }
def Rd.take (r : Rd) (n : Int) : List UInt8 × Rd :=
  if r.bad = true then ([], r) else if 0 ≤ n ∧ n ≤ (r.all.length : Int) - r.pl then ((r.all.drop r.pl).take n.toNat, { r with pl := r.pl + n.toNat }) else ([], r.fail)
def RdO (s : St) (k : Nat) (p : Value) : Option Rd → Prop
  | none => p = .pointer none ∧ k ≠ 0 ∧ k ≤ s.n
  | some r => k ≠ 0 ∧ r.pl ≤ r.all.length ∧ r.all.length ≤ BIG ∧ ∃ b v, p = .pointer (some ⟨b, 0, none⟩) ∧ Blk s b ⟨k, 0⟩ [v, .int .i64 (r.pl : Int), .bool r.bad] 56 ∧ R s v (.sl 1 (Bs r.all))
theorem RdO.up' {K : Lab → Prop} {s s' : St} {k : Nat} {p : Value} {w : Option Rd} (h : RdO s k p w) (st : Step K s s') (hk : ∀ c, ¬ K ⟨k, c⟩ := by intro c; first | exact id | (simp [KC, KO] <;> omega)) : RdO s' k p w := by
  cases w with
  | none => exact ⟨h.1, h.2.1, Nat.le_trans h.2.2 st.size⟩
  | some l =>
    obtain ⟨h0, h3, h4, b, v, e, h1, h2⟩ := h
    exact ⟨h0, h3, h4, b, v, e, h1.up st (hk 0), h2.up st⟩
theorem RdO.ne {s : St} {k : Nat} {p : Value} {w : Option Rd} (h : RdO s k p w) : k ≠ 0 := by
  cases w with
  | none => exact h.2.1
  | some l => exact h.1
theorem RdO.le {s : St} {k : Nat} {p : Value} {w : Option Rd} (h : RdO s k p w) : k ≤ s.n := by
  cases w with
  | none => exact h.2.2
  | some l => obtain ⟨h0, h3, h4, b, v, e, h1, h2⟩ := h; exact h1.own_le
theorem valB_take (l : List UInt8) (i : Nat) (h : i < l.length) : valB (l.take (i + 1)) = valB (l.take i) * 256 + (l.getD i default).toNat := by
  rw [List.take_succ_eq_append_getElem h, valB_snoc]
  simp [List.getD, h]
theorem valB_small (l : List UInt8) (h : l.length ≤ 7) : valB l < 72057594037927936 := by
  have h1 := valB_lt l
  have h2 : 256 ^ l.length ≤ 256 ^ 7 := Nat.pow_le_pow_right (by omega) h
  omega

set_option maxHeartbeats 2000000 in
set_option maxRecDepth 100000 in
theorem number_c {s : St} {vb : Value} {l : List UInt8} {lx : Lab} (hx : SL s lx vb 1 (Bs l)) (hl : l.length ≤ 8) : Calls Try.prog 45 #[vb] s.w (Ret s (K0) (fun _ v => v = .int .u64 (valB l : Nat))) := by
  have hS : Step (K0) s s := (Step.refl _).of0 (by first | exact fun _ h => h | (intro c h; simp [KC, KO] at h <;> omega))
  refine k_fn (rs := [2]) (args := [vb]) Try.func45 rfl rfl rfl rfl ?_
  refine k_seq ?_
  refine k_region ?_
  refine k_assign rfl rfl ?_
  refine k_nil ?_
  refine k_seq ?_
  refine k_seq ?_
  refine k_region ?_
  refine k_move rfl rfl ?_
  refine k_len Try.underlying27 rfl (by first | exact ⟨_, _, rfl⟩ | exact SL.hasLen (by assumption) | exact (SL.of_R (by assumption)).hasLen | exact (Own.sl (by assumption)).hasLen) rfl ?_
  try simp only [List.length_map]
  refine k_move rfl rfl ?_
  refine k_nil ?_
  refine k_keep [(2, _), (5, _), (6, _), (7, _)] ⟨rfl, rfl, rfl, rfl, trivial⟩ ?_
  refine k_block ?_
  refine k_loopc (X := St × Nat) [(5, _), (6, _)] (fun (xL : St × Nat) => match xL with | (sl, i) => [(2, .int .u64 ((valB (l.take i) : Nat) : Int)), (7, .int .i64 (i : Int))]) (fun (xL : St × Nat) wL => match xL with | (sl, i) => sl.w = wL ∧ Step (K0) s sl ∧ (i ≤ l.length)) (fun (xL : St × Nat) => match xL with | (sl, i) => l.length - i) (s, 0) ⟨rfl, rfl, trivial⟩ ?hv1 ?hi1 ?round1
  case hv1 => exact ⟨(by first | rfl | (simp <;> rfl)), (by first | rfl | (simp <;> rfl)), trivial⟩
  case hi1 =>
    refine ⟨rfl, (Step.refl _).of0 (by first | exact fun _ h => h | (intro c h; simp [KC, KO] at h <;> omega)), ?_⟩
    exact Nat.zero_le _
  rintro ⟨s2, i⟩ wL ⟨rfl, hE1, hi⟩
  have stE1 := hE1
  have szs2 := stE1.size
  have hS : Step (K0) s s2 := by first | exact hS.trans0 stE1 | exact hS.transK stE1 | exact hS.transOC stE1 | (refine hS.transNewC stE1 ?_; first | omega | (dsimp only; omega)) | (refine hS.transNewO stE1 ?_; first | omega | (dsimp only; omega)) | (refine hS.transSub stE1 ?_; intro l hl; simp only [KC, KO] at hl ⊢; omega)
  try replace hx := hx.up' stE1
  refine k_seq ?_
  refine k_region ?_
  refine k_lss rfl rfl rfl ?_
  refine k_nil ?_
  refine k_seq ?_
  first | refine k_cond_dec rfl (fun c8 => ?_) (fun c8 => ?_) | refine k_cond rfl (fun c8 => ?_) (fun c8 => ?_)
  · -- t8 True
    have hi2 : i < l.length := by omega
    have hcc : (l.getD i default).toNat < 256 := UInt8.toNat_lt _
    have hv := valB_small (l.take i) (by rw [List.length_take]; omega)
    refine k_skip ?_
    refine k_seq ?_
    refine k_block ?_
    refine k_seq ?_
    refine k_region ?_
    first
    | (refine k_ixaddr_ownN Try.underlying27 size5 rfl rfl (by assumption) (by (first | exact at_map (by first | omega | (simp; omega)) | exact at_map' (by omega) (by first | omega | (simp; omega)) | (simp; omega) | simp)) rfl ?_; intro q9 h9 he9)
    | (refine k_ixaddr_own Try.underlying27 size5 rfl rfl (by assumption) (by omega) (by (first | exact at_map (by first | omega | (simp; omega)) | exact at_map' (by omega) (by first | omega | (simp; omega)) | (simp; omega) | simp)) rfl ?_; intro q9 h9 he9)
    | (refine k_ixaddrN Try.underlying27 size5 rfl rfl (by first | assumption | exact SL.of_R (by assumption)) (by (first | exact at_map (by first | omega | (simp; omega)) | exact at_map' (by omega) (by first | omega | (simp; omega)) | (simp; omega) | simp)) rfl ?_; intro q9 h9)
    | (refine k_ixaddr Try.underlying27 size5 rfl rfl (by first | assumption | exact SL.of_R (by assumption)) (by omega) (by (first | exact at_map (by first | omega | (simp; omega)) | exact at_map' (by omega) (by first | omega | (simp; omega)) | (simp; omega) | simp)) rfl ?_; intro q9 h9)
    first | refine k_load_blk one5 rfl (by assumption) (by rfl) rfl ?_ | refine k_load_val one5 rfl (by assumption) rfl ?_
    refine k_assign rfl rfl ?_
    refine k_nil ?_
    refine k_keep [(2, _), (4, _), (5, _), (6, _), (7, _)] ⟨rfl, rfl, rfl, rfl, rfl, trivial⟩ ?_
    refine k_region ?_
    refine k_move rfl rfl ?_
    refine k_shlC (m := 256) rfl rfl rfl rfl rfl ?_
    refine k_move rfl rfl ?_
    first | refine k_convN Try.underlying5 Try.underlying29 rfl (wrap_u64 (by omega) (by omega)) rfl ?_ | refine k_conv_u64 Try.underlying5 Try.underlying29 rfl rfl ?_ | refine k_conv Try.underlying5 Try.underlying29 rfl rfl ?_
    refine k_orb rfl rfl hv rfl ?_
    refine k_assign rfl rfl ?_
    refine k_nil ?_
    refine k_blk ?_
    refine k_region ?_
    first | refine k_addN rfl rfl (by omega) (by omega) rfl ?_ | refine k_add rfl rfl rfl ?_
    refine k_move rfl rfl ?_
    refine k_nil ?_
    refine k_stop ⟨(s2, i + 1), ⟨?_, ?_, trivial⟩, ⟨rfl, rfl, trivial⟩, ⟨rfl, hE1, ?_⟩, ?_⟩
    · rw [valB_take l i (by omega)]; rfl
    · first | rfl | exact congrArg (fun z => some (Value.int _ z)) (by omega) | exact congrArg (fun z => some (Value.int _ z)) (by simp; done) | (simp; done)
    · omega
    · first | omega | (dsimp only; omega)
  · -- t8 False
    refine k_exit rfl ?_
    refine k_seq ?_
    refine k_region ?_
    refine k_move rfl rfl ?_
    refine k_assign rfl rfl ?_
    refine k_nil ?_
    refine k_keep [(2, _)] ⟨rfl, trivial⟩ ?_
    refine k_ret ?_
    refine ⟨_, rfl, Ret.mk hS ?_⟩
    have : i = l.length := by omega
    subst this
    rw [List.take_length]; rfl

set_option maxHeartbeats 2000000 in
set_option maxRecDepth 100000 in
theorem Err_nil {s : St} : Calls Try.prog 27 #[.pointer none] s.w (Ret s (K0) (fun _ v => v = .int .i64 2)) := by
  have hS : Step (K0) s s := (Step.refl _).of0 (by first | exact fun _ h => h | (intro c h; simp [KC, KO] at h <;> omega))
  refine k_fn (rs := [2]) (args := [.pointer none]) Try.func27 rfl rfl rfl rfl ?_
  refine k_seq ?_
  refine k_region ?_
  refine k_assign rfl rfl ?_
  refine k_nil ?_
  refine k_seq ?_
  refine k_seq ?_
  refine k_region ?_
  refine k_move rfl rfl ?_
  refine k_eql_pnil Try.underlying41 rfl rfl rfl ?_
  refine k_as (v := .bool true) (by first | rfl | simp) ?_
  refine k_move rfl rfl ?_
  refine k_no rfl rfl rfl rfl ?_
  refine k_no rfl rfl rfl rfl ?_
  refine k_no rfl rfl rfl rfl ?_
  refine k_no rfl rfl rfl rfl ?_
  refine k_pickT rfl rfl rfl rfl ?_
  refine k_nil ?_
  refine k_keep [(2, _), (10, _)] ⟨rfl, rfl, trivial⟩ ?_
  refine k_cond_true rfl ?_
  refine k_seq ?_
  refine k_region ?_
  refine k_assign rfl rfl ?_
  refine k_nil ?_
  refine k_keep [(2, _)] ⟨rfl, trivial⟩ ?_
  refine k_ret ?_
  refine ⟨_, rfl, Ret.mk hS ?_⟩
  rfl

set_option maxHeartbeats 2000000 in
set_option maxRecDepth 100000 in
theorem Err_some {s : St} {k b a : Nat} {v : Value} {f : Bool} (hb : Blk s b ⟨k, 0⟩ [v, .int .i64 (a : Int), .bool f] 56) : Calls Try.prog 27 #[.pointer (some ⟨b, 0, none⟩)] s.w (Ret s (K0) (fun _ v => v = .int .i64 (if f = true then 2 else 0))) := by
  have hS : Step (K0) s s := (Step.refl _).of0 (by first | exact fun _ h => h | (intro c h; simp [KC, KO] at h <;> omega))
  refine k_fn (rs := [2]) (args := [.pointer (some ⟨b, 0, none⟩)]) Try.func27 rfl rfl rfl rfl ?_
  refine k_seq ?_
  refine k_region ?_
  refine k_assign rfl rfl ?_
  refine k_nil ?_
  refine k_seq ?_
  refine k_seq ?_
  refine k_region ?_
  refine k_move rfl rfl ?_
  refine k_eql_pnil Try.underlying41 rfl rfl rfl ?_
  refine k_as (v := .bool false) (by first | rfl | simp) ?_
  refine k_move rfl rfl ?_
  refine k_yes rfl rfl ?_
  refine k_move rfl rfl ?_
  refine k_yes rfl rfl ?_
  first | refine k_nilCheck rfl rfl ?_ | refine k_nilCheck_at rfl (by assumption) rfl ?_
  refine k_yes rfl rfl ?_
  first | (refine k_field_addr fld56_2 rfl rfl ?_) | (refine k_field_at rfl (by assumption) (by rfl) fld56_2 rfl ?_; intro q8 h8)
  refine k_yes rfl rfl ?_
  first | refine k_load_blk one4 rfl (by assumption) (by rfl) rfl ?_ | refine k_load_val one4 rfl (by assumption) rfl ?_
  refine k_pickF rfl rfl rfl rfl ?_
  refine k_nil ?_
  refine k_keep [(2, _), (10, _)] ⟨rfl, rfl, trivial⟩ ?_
  first | refine k_cond_dec rfl (fun c10 => ?_) (fun c10 => ?_) | refine k_cond rfl (fun c10 => ?_) (fun c10 => ?_)
  · -- t10 True
    refine k_seq ?_
    refine k_region ?_
    refine k_assign rfl rfl ?_
    refine k_nil ?_
    refine k_keep [(2, _)] ⟨rfl, trivial⟩ ?_
    refine k_ret ?_
    refine ⟨_, rfl, Ret.mk hS ?_⟩
    simp [c10]
  · -- t10 False
    refine k_skip ?_
    refine k_seq ?_
    refine k_region ?_
    refine k_assign rfl rfl ?_
    refine k_nil ?_
    refine k_keep [(2, _)] ⟨rfl, trivial⟩ ?_
    refine k_ret ?_
    refine ⟨_, rfl, Ret.mk hS ?_⟩
    simp [c10]

set_option maxHeartbeats 2000000 in
set_option maxRecDepth 100000 in
theorem Fail_nil {s : St} : Calls Try.prog 23 #[.pointer none] s.w (Ret s (K0) (fun _ v => v = .tuple #[])) := by
  have hS : Step (K0) s s := (Step.refl _).of0 (by first | exact fun _ h => h | (intro c h; simp [KC, KO] at h <;> omega))
  refine k_fn (rs := []) (args := [.pointer none]) Try.func23 rfl rfl rfl rfl ?_
  refine k_seq ?_
  refine k_region ?_
  refine k_move rfl rfl ?_
  refine k_neq_pnil Try.underlying41 rfl rfl rfl ?_
  refine k_as (v := .bool false) (by first | rfl | simp) ?_
  refine k_nil ?_
  refine k_keep [(0, _), (3, _)] ⟨rfl, rfl, trivial⟩ ?_
  refine k_cond_false rfl ?_
  refine k_skip ?_
  refine k_end ?_
  refine ⟨_, rfl, Ret.mk hS ?_⟩
  rfl

set_option maxHeartbeats 2000000 in
set_option maxRecDepth 100000 in
theorem Fail_some {s : St} {k b a : Nat} {v : Value} {f : Bool} (hk : k ≠ 0) (hb : Blk s b ⟨k, 0⟩ [v, .int .i64 (a : Int), .bool f] 56) : Calls Try.prog 23 #[.pointer (some ⟨b, 0, none⟩)] s.w (Ret s (KC k 0) (fun s1 v1 => v1 = .tuple #[] ∧ Blk s1 b ⟨k, 0⟩ [v, .int .i64 (a : Int), .bool true] 56)) := by
  have hS : Step (KC k 0) s s := (Step.refl _).of0 (by first | exact fun _ h => h | (intro c h; simp [KC, KO] at h <;> omega))
  refine k_fn (rs := []) (args := [.pointer (some ⟨b, 0, none⟩)]) Try.func23 rfl rfl rfl rfl ?_
  refine k_seq ?_
  refine k_region ?_
  refine k_move rfl rfl ?_
  refine k_neq_pnil Try.underlying41 rfl rfl rfl ?_
  refine k_as (v := .bool true) (by first | rfl | simp) ?_
  refine k_nil ?_
  refine k_keep [(0, _), (3, _)] ⟨rfl, rfl, trivial⟩ ?_
  refine k_cond_true rfl ?_
  refine k_region ?_
  refine k_move rfl rfl ?_
  first | refine k_nilCheck rfl rfl ?_ | refine k_nilCheck_at rfl (by assumption) rfl ?_
  first | (refine k_field_addr fld56_2 rfl rfl ?_) | (refine k_field_at rfl (by assumption) (by rfl) fld56_2 rfl ?_; intro q6 h6)
  first
  | (refine k_store_blk size4 rfl rfl (by assumption) (by first | (simp; done) | (simp; omega) | omega) (by first | rfl | (have := SL.cells1 (by assumption); simpa using congrArg List.length this) | (have := SL.cells1 (Own.sl (by assumption)); simpa using congrArg List.length this)) (by first | rfl | (simp; done) | (rw [SL.cells1 (by assumption)]; simp [SL.one1 (by assumption)]) | (have hq := Own.sl (by assumption); rw [hq.cells1]; simp [hq.one1])) (by first | rfl | (simp <;> omega)) ?_; intro s1 sts1 hb6)
  | (refine k_store_elt size4 rfl rfl (by assumption) (by assumption) (by first | omega | (simp; omega)) (by first | assumption | exact R.of_SL (by assumption) | exact R.val rfl) (by rfl) ?_; intro s1 sts1 hb6)
  have szs1 := sts1.size
  have hS : Step (KC k 0) s s1 := by first | exact hS.trans0 sts1 | exact hS.transK sts1 | exact hS.transOC sts1 | (refine hS.transNewC sts1 ?_; first | omega | (dsimp only; omega)) | (refine hS.transNewO sts1 ?_; first | omega | (dsimp only; omega)) | (refine hS.transSub sts1 ?_; intro l hl; simp only [KC, KO] at hl ⊢; omega)
  try replace hb := hb.up' sts1
  try replace h6 := h6.up' sts1
  refine k_nil ?_
  refine k_end ?_
  refine ⟨_, rfl, Ret.mk hS ?_⟩
  exact ⟨rfl, hb6⟩

set_option maxHeartbeats 2000000 in
set_option maxRecDepth 100000 in
theorem At_nil {s : St} : Calls Try.prog 26 #[.pointer none] s.w (Ret s (K0) (fun _ v => v = .int .i64 0)) := by
  have hS : Step (K0) s s := (Step.refl _).of0 (by first | exact fun _ h => h | (intro c h; simp [KC, KO] at h <;> omega))
  refine k_fn (rs := [2]) (args := [.pointer none]) Try.func26 rfl rfl rfl rfl ?_
  refine k_seq ?_
  refine k_region ?_
  refine k_assign rfl rfl ?_
  refine k_nil ?_
  refine k_seq ?_
  refine k_seq ?_
  refine k_region ?_
  refine k_move rfl rfl ?_
  refine k_eql_pnil Try.underlying41 rfl rfl rfl ?_
  refine k_as (v := .bool true) (by first | rfl | simp) ?_
  refine k_nil ?_
  refine k_keep [(0, _), (2, _), (4, _)] ⟨rfl, rfl, rfl, trivial⟩ ?_
  refine k_cond_true rfl ?_
  refine k_seq ?_
  refine k_region ?_
  refine k_assign rfl rfl ?_
  refine k_nil ?_
  refine k_keep [(0, _), (2, _)] ⟨rfl, rfl, trivial⟩ ?_
  refine k_ret ?_
  refine ⟨_, rfl, Ret.mk hS ?_⟩
  rfl

set_option maxHeartbeats 2000000 in
set_option maxRecDepth 100000 in
theorem At_some {s : St} {k b a : Nat} {v : Value} {f : Bool} (hb : Blk s b ⟨k, 0⟩ [v, .int .i64 (a : Int), .bool f] 56) : Calls Try.prog 26 #[.pointer (some ⟨b, 0, none⟩)] s.w (Ret s (K0) (fun _ v => v = .int .i64 (a : Int))) := by
  have hS : Step (K0) s s := (Step.refl _).of0 (by first | exact fun _ h => h | (intro c h; simp [KC, KO] at h <;> omega))
  refine k_fn (rs := [2]) (args := [.pointer (some ⟨b, 0, none⟩)]) Try.func26 rfl rfl rfl rfl ?_
  refine k_seq ?_
  refine k_region ?_
  refine k_assign rfl rfl ?_
  refine k_nil ?_
  refine k_seq ?_
  refine k_seq ?_
  refine k_region ?_
  refine k_move rfl rfl ?_
  refine k_eql_pnil Try.underlying41 rfl rfl rfl ?_
  refine k_as (v := .bool false) (by first | rfl | simp) ?_
  refine k_nil ?_
  refine k_keep [(0, _), (2, _), (4, _)] ⟨rfl, rfl, rfl, trivial⟩ ?_
  refine k_cond_false rfl ?_
  refine k_skip ?_
  refine k_seq ?_
  refine k_region ?_
  refine k_move rfl rfl ?_
  first | refine k_nilCheck rfl rfl ?_ | refine k_nilCheck_at rfl (by assumption) rfl ?_
  first | (refine k_field_addr fld56_1 rfl rfl ?_) | (refine k_field_at rfl (by assumption) (by rfl) fld56_1 rfl ?_; intro q7 h7)
  first | refine k_load_blk one3 rfl (by assumption) (by rfl) rfl ?_ | refine k_load_val one3 rfl (by assumption) rfl ?_
  refine k_assign rfl rfl ?_
  refine k_nil ?_
  refine k_keep [(2, _)] ⟨rfl, trivial⟩ ?_
  refine k_ret ?_
  refine ⟨_, rfl, Ret.mk hS ?_⟩
  rfl

end Go.Proofs
