import Derived.Test.YtcagpghggohoiaaY02A
set_option linter.unusedSimpArgs false
set_option linter.unusedVariables false
namespace Go.Proofs
open Go.Fw
theorem fld65_0 : fieldT Try.prog 65 0 = some 0 := by kernel_rfl
theorem one27 : oneT Try.prog 27 = true := by kernel_rfl
theorem plc65 : placesT Try.prog 65 [(0, 1)] := ⟨_, Try.underlying65, fun _ => by kernel_rfl⟩
theorem size27 : sizeT Try.prog 27 1 = true := by kernel_rfl
theorem zero65 : zeroT Try.prog 65 = some (.agg #[.slice none 0 0]) := by kernel_rfl

/-- A Writer: nil, or one that has these bytes. -/
def WrO (s : St) (k : Nat) (p : Value) : Option (List UInt8) → Prop
  | none => p = .pointer none ∧ k ≠ 0 ∧ k ≤ s.n
  | some l => k ≠ 0 ∧ ∃ b v, p = .pointer (some ⟨b, 0, none⟩) ∧ Blk s b ⟨k, 0⟩ [v] 65 ∧ Own s ⟨k, 1⟩ 5 1 v (Bs l)
theorem WrO.up' {K : Lab → Prop} {s s' : St} {k : Nat} {p : Value} {w : Option (List UInt8)} (h : WrO s k p w) (st : Step K s s') (hk : ∀ c, ¬ K ⟨k, c⟩ := by intro c; first | exact id | (simp [KC, KO] <;> omega)) : WrO s' k p w := by
  cases w with
  | none => exact ⟨h.1, h.2.1, Nat.le_trans h.2.2 st.size⟩
  | some l =>
    obtain ⟨h0, b, v, e, h1, h2⟩ := h
    exact ⟨h0, b, v, e, h1.up st (hk 0), h2.up st (hk 1)⟩
theorem WrO.ne {s : St} {k : Nat} {p : Value} {w : Option (List UInt8)} (h : WrO s k p w) : k ≠ 0 := by
  cases w with
  | none => exact h.2.1
  | some l => exact h.1
theorem WrO.le {s : St} {k : Nat} {p : Value} {w : Option (List UInt8)} (h : WrO s k p w) : k ≤ s.n := by
  cases w with
  | none => exact h.2.2
  | some l => obtain ⟨h0, b, v, e, h1, h2⟩ := h; exact h1.own_le
/-- How many bytes a Writer has. -/
def wl (w : Option (List UInt8)) : Nat := (w.getD []).length
theorem wl_map (w : Option (List UInt8)) (e : List UInt8) : wl (w.map (· ++ e)) ≤ wl w + e.length := by cases w <;> simp [wl]
abbrev uD (x : Nat) : D := .val (.int .u64 (x : Int))
def encs (xs : List Nat) : List UInt8 := (xs.map encN).flatten

set_option maxHeartbeats 2000000 in
set_option maxRecDepth 100000 in
theorem NewWriter_c {s : St} : Calls Try.prog 10 #[] s.w (Ret s (K0) (fun s1 v1 => ∃ k, s.n < k ∧ WrO s1 k v1 (some []))) := by
  have hS : Step (K0) s s := (Step.refl _).of0 (by first | exact fun _ h => h | (intro c h; simp [KC, KO] at h <;> omega))
  refine k_fn (rs := [0]) (args := []) Try.func10 rfl rfl rfl rfl ?_
  refine k_seq ?_
  refine k_region ?_
  refine k_assign rfl rfl ?_
  refine k_nil ?_
  refine k_seq ?_
  refine k_region ?_
  refine k_build plc65 zero65 rfl (Parts.nil) (by rfl) rfl ?_
  refine k_box rfl rfl ?_
  intro s1 b2 sts1 h2 ge2
  have szs1 := sts1.size
  have hS : Step (K0) s s1 := by first | exact hS.trans0 sts1 | exact hS.transK sts1 | exact hS.transOC sts1 | (refine hS.transNewC sts1 ?_; first | omega | (dsimp only; omega)) | (refine hS.transNewO sts1 ?_; first | omega | (dsimp only; omega)) | (refine hS.transSub sts1 ?_; intro l hl; simp only [KC, KO] at hl ⊢; omega)
  refine k_assign rfl rfl ?_
  refine k_nil ?_
  refine k_keep [(0, _)] ⟨rfl, trivial⟩ ?_
  refine k_ret ?_
  refine ⟨_, rfl, Ret.mk hS ?_⟩
  refine ⟨b2 + 1, by omega, by omega, b2, _, rfl, h2, Own.nil (by simp) (by have := h2.lt; simp; omega)⟩

set_option maxHeartbeats 2000000 in
set_option maxRecDepth 100000 in
theorem Raw_nil {s : St} {k : Nat} (hk : k ≠ 0) (vb : Value) : Calls Try.prog 34 #[.pointer none, vb] s.w (Ret s (KO k) (fun s1 v1 => v1 = .tuple #[])) := by
  have hS : Step (KO k) s s := (Step.refl _).of0 (by first | exact fun _ h => h | (intro c h; simp [KC, KO] at h <;> omega))
  refine k_fn (rs := []) (args := [.pointer none, vb]) Try.func34 rfl rfl rfl rfl ?_
  refine k_seq ?_
  refine k_region ?_
  refine k_move rfl rfl ?_
  refine k_neq_pnil Try.underlying24 rfl rfl rfl ?_
  refine k_as (v := .bool false) (by first | rfl | simp) ?_
  refine k_nil ?_
  refine k_keep [(0, _), (1, _), (5, _)] ⟨rfl, rfl, rfl, trivial⟩ ?_
  refine k_cond_false rfl ?_
  refine k_skip ?_
  refine k_end ?_
  refine ⟨_, rfl, Ret.mk hS ?_⟩
  rfl

set_option maxHeartbeats 2000000 in
set_option maxRecDepth 100000 in
theorem Raw_some {s : St} {k b : Nat} {v vb : Value} {l m : List UInt8} {lx : Lab} (hk : k ≠ 0) (hb : Blk s b ⟨k, 0⟩ [v] 65) (ho : Own s ⟨k, 1⟩ 5 1 v (Bs l)) (hx : SL s lx vb 1 (Bs m)) (hsz : l.length + m.length ≤ 140737488355328) : Calls Try.prog 34 #[.pointer (some ⟨b, 0, none⟩), vb] s.w (Ret s (KO k) (fun s1 v1 => v1 = .tuple #[] ∧ ∃ u, Blk s1 b ⟨k, 0⟩ [u] 65 ∧ Own s1 ⟨k, 1⟩ 5 1 u (Bs (l ++ m)))) := by
  have hS : Step (KO k) s s := (Step.refl _).of0 (by first | exact fun _ h => h | (intro c h; simp [KC, KO] at h <;> omega))
  refine k_fn (rs := []) (args := [.pointer (some ⟨b, 0, none⟩), vb]) Try.func34 rfl rfl rfl rfl ?_
  refine k_seq ?_
  refine k_region ?_
  refine k_move rfl rfl ?_
  refine k_neq_pnil Try.underlying24 rfl rfl rfl ?_
  refine k_as (v := .bool true) (by first | rfl | simp) ?_
  refine k_nil ?_
  refine k_keep [(0, _), (1, _), (5, _)] ⟨rfl, rfl, rfl, trivial⟩ ?_
  refine k_cond_true rfl ?_
  refine k_region ?_
  refine k_move rfl rfl ?_
  refine k_move rfl rfl ?_
  first | refine k_nilCheck rfl rfl ?_ | refine k_nilCheck_at rfl (by assumption) rfl ?_
  first | (refine k_field_addr fld65_0 rfl rfl ?_) | (refine k_field_at rfl (by assumption) (by rfl) fld65_0 rfl ?_; intro q9 h9)
  first | refine k_load_blk one27 rfl (by assumption) (by rfl) rfl ?_ | refine k_load_val one27 rfl (by assumption) rfl ?_ | (refine k_load_sl one27 rfl (by assumption) rfl ?_; intro v10 h10)
  refine k_move rfl rfl ?_
  first
  | refine k_append elem27 rfl rfl (by assumption) (by first | assumption | exact SL.of_R (by assumption) | exact Own.sl (by assumption)) (by first | omega | (simp; omega)) (by first | omega | (simp; omega)) rfl ?_
  | refine k_append_nil 1012 elem27 rfl rfl (by first | assumption | exact SL.of_R (by assumption) | exact Own.sl (by assumption)) (by first | omega | (simp; omega)) (by first | omega | (simp; omega)) rfl ?_
  intro s1 v12 sts1 h12
  have szs1 := sts1.size
  have hS : Step (KO k) s s1 := by first | exact hS.trans0 sts1 | exact hS.transK sts1 | exact hS.transOC sts1 | (refine hS.transNewC sts1 ?_; first | omega | (dsimp only; omega)) | (refine hS.transNewO sts1 ?_; first | omega | (dsimp only; omega)) | (refine hS.transSub sts1 ?_; intro l hl; simp only [KC, KO] at hl ⊢; omega)
  try replace hb := hb.up' sts1
  try replace ho := ho.up' sts1
  try replace hx := hx.up' sts1
  try replace h9 := h9.up' sts1
  try replace h10 := h10.up' sts1
  first | refine k_nilCheck rfl rfl ?_ | refine k_nilCheck_at rfl (by assumption) rfl ?_
  first | (refine k_field_addr fld65_0 rfl rfl ?_) | (refine k_field_at rfl (by assumption) (by rfl) fld65_0 rfl ?_; intro q14 h14)
  first
  | (refine k_store_blk size27 rfl rfl (by assumption) (by first | (simp; done) | (simp; omega) | omega) (by first | rfl | (have := SL.cells1 (by assumption); simpa using congrArg List.length this) | (have := SL.cells1 (Own.sl (by assumption)); simpa using congrArg List.length this)) (by first | rfl | (simp; done) | (rw [SL.cells1 (by assumption)]; simp [SL.one1 (by assumption)]) | (have hq := Own.sl (by assumption); rw [hq.cells1]; simp [hq.one1])) (by first | rfl | (simp <;> omega)) ?_; intro s2 sts2 hb14)
  | (refine k_store_elt size27 rfl rfl (by assumption) (by assumption) (by first | omega | (simp; omega)) (by first | assumption | exact R.of_SL (by assumption) | exact R.val rfl) (by rfl) ?_; intro s2 sts2 hb14)
  have szs2 := sts2.size
  have hS : Step (KO k) s s2 := by first | exact hS.trans0 sts2 | exact hS.transK sts2 | exact hS.transOC sts2 | (refine hS.transNewC sts2 ?_; first | omega | (dsimp only; omega)) | (refine hS.transNewO sts2 ?_; first | omega | (dsimp only; omega)) | (refine hS.transSub sts2 ?_; intro l hl; simp only [KC, KO] at hl ⊢; omega)
  try replace hb := hb.up' sts2
  try replace ho := ho.up' sts2
  try replace hx := hx.up' sts2
  try replace h9 := h9.up' sts2
  try replace h10 := h10.up' sts2
  try replace h12 := h12.up' sts2
  try replace h14 := h14.up' sts2
  refine k_nil ?_
  refine k_end ?_
  refine ⟨_, rfl, Ret.mk hS ?_⟩
  refine ⟨rfl, v12, ?_, ?_⟩
  · simpa [h12.sl.cells1] using hb14
  · simpa using h12

theorem Raw_c {s : St} {k : Nat} {p vb : Value} {w : Option (List UInt8)} {m : List UInt8} {lx : Lab} (h : WrO s k p w) (hx : SL s lx vb 1 (Bs m)) (hsz : wl w + m.length ≤ 140737488355328) :
    Calls Try.prog 34 #[p, vb] s.w (Ret s (KO k) fun s1 v1 => v1 = .tuple #[] ∧ WrO s1 k p (w.map (· ++ m))) := by
  cases w with
  | none =>
    obtain ⟨rfl, h0, hle⟩ := h
    refine (Raw_nil h0 vb).mono ?_
    rintro e w' ⟨s1, v1, rfl, rfl, st, rfl⟩
    exact Ret.mk st ⟨rfl, rfl, h0, Nat.le_trans hle st.size⟩
  | some l =>
    obtain ⟨h0, b, v, rfl, h1, h2⟩ := h
    refine (Raw_some h0 h1 h2 hx hsz).mono ?_
    rintro e w' ⟨s1, v1, rfl, rfl, st, rfl, u, g1, g2⟩
    exact Ret.mk st ⟨rfl, h0, b, u, rfl, g1, g2⟩

end Go.Proofs
