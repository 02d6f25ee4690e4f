import Derived.Test.YtcagpghggohoiaaY02E
set_option linter.unusedSimpArgs false
set_option linter.unusedVariables false
namespace Go.Proofs
open Go.Fw
theorem cal44 : Callable Try.prog 44 := ⟨_, Try.func44, by kernel_rfl, by kernel_rfl⟩
theorem cal45 : Callable Try.prog 45 := ⟨_, Try.func45, by kernel_rfl, by kernel_rfl⟩
theorem cal46 : Callable Try.prog 46 := ⟨_, Try.func46, by kernel_rfl, by kernel_rfl⟩
theorem cal56 : Callable Try.prog 56 := ⟨_, Try.func56, by kernel_rfl, by kernel_rfl⟩
theorem zero29 : zeroT Try.prog 29 = some (.int .u64 0) := by kernel_rfl
theorem zero3 : zeroT Try.prog 3 = some (.int .i64 0) := by kernel_rfl

theorem Rd.take_bad {r : Rd} {n : Int} (h : (r.take n).2.bad = false) : r.bad = false := by
  unfold Rd.take at h
  split at h
  · exact h
  · rename_i hb; simpa using hb
/-- A number, or a fault: it says nothing of the place at a fault. -/
def Rd.uint1 (r : Rd) : Nat × Rd :=
  let t := r.take 1
  if valB t.1 ≤ 247 then (valB t.1, t.2) else
  let t2 := t.2.take ((valB t.1 : Int) - 247)
  if sizeN (valB t2.1) = valB t.1 - 247 + 1 then (valB t2.1, t2.2) else (valB t2.1, t2.2.fail)
def Rd.whole {α : Type} (z : α) (f : Rd → α × Rd) (r : Rd) : α × Rd :=
  if r.bad = true then (z, r) else if (f r).2.bad = true then (z, { (f r).2 with pl := r.pl }) else f r
def Rd.uint (r : Rd) : Nat × Rd := r.whole 0 Rd.uint1
def Rd.text1 (most : Int) (r : Rd) : List UInt8 × Rd :=
  let t := r.uint
  if most < 0 ∨ (t.1 : Int) > most then ([], t.2.fail) else t.2.take t.1
def Rd.text (most : Int) (r : Rd) : List UInt8 × Rd := r.whole [] (Rd.text1 most)
def optR {α : Type} (z : α) (f : Rd → α × Rd) : Option Rd → α × Option Rd
  | none => (z, none)
  | some r => ((f r).1, some (f r).2)
theorem take_pl (r : Rd) (n : Int) : r.pl ≤ (r.take n).2.pl ∧ (r.take n).2.all = r.all := by
  unfold Rd.take
  split
  · exact ⟨Nat.le_refl _, rfl⟩
  · split
    · exact ⟨Nat.le_add_right _ _, rfl⟩
    · exact ⟨Nat.le_refl _, rfl⟩
theorem uint1_pl (r : Rd) : r.pl ≤ r.uint1.2.pl ∧ r.uint1.2.all = r.all := by
  have h1 := take_pl r 1
  have h2 := take_pl (r.take 1).2 ((valB (r.take 1).1 : Int) - 247)
  unfold Rd.uint1
  simp only
  split
  · exact h1
  · split
    · exact ⟨Nat.le_trans h1.1 h2.1, h2.2.trans h1.2⟩
    · exact ⟨Nat.le_trans h1.1 h2.1, h2.2.trans h1.2⟩
theorem whole_pl {α : Type} {z : α} {f : Rd → α × Rd} (r : Rd) (h : r.pl ≤ (f r).2.pl ∧ (f r).2.all = r.all) : r.pl ≤ (r.whole z f).2.pl ∧ (r.whole z f).2.all = r.all := by
  unfold Rd.whole
  split
  · exact ⟨Nat.le_refl _, rfl⟩
  · split
    · exact ⟨Nat.le_refl _, h.2⟩
    · exact h
theorem text1_pl (most : Int) (r : Rd) : r.pl ≤ (r.text1 most).2.pl ∧ (r.text1 most).2.all = r.all := by
  have h1 := whole_pl (z := 0) r (uint1_pl r)
  have h2 := take_pl r.uint.2 r.uint.1
  unfold Rd.text1
  simp only
  split
  · exact h1
  · exact ⟨Nat.le_trans h1.1 h2.1, h2.2.trans h1.2⟩
theorem _root_.Go.Fw.Step.transTwo {K : Lab → Prop} {q k : Nat} {a b c : St} (h : Step K a b) (h' : Step (fun l => (l.o = k ∧ l.c = 0) ∨ (l.o = q ∧ l.c = 0)) b c) (hq : a.n < q) (hk : ∀ l, l.o = k ∧ l.c = 0 → K l) : Step K a c :=
  h.trans h' (fun i hi hl => by
    rcases hl with hl | hl
    · exact hk _ hl
    · have := a.wf i; omega)

set_option maxHeartbeats 2000000 in
set_option maxRecDepth 100000 in
theorem Uint1_c {s : St} {k b2 : Nat} {p : Value} {l2 : Lab} {r : Rd} (hw : RdO s k p (some r)) (h2 : Blk s b2 l2 [p] 41) (hl2 : l2.o ≠ k) : Calls Try.prog 44 #[.pointer (some ⟨b2, 0, none⟩)] s.w (Ret s (KC k 0) (fun s1 v1 => v1 = .int .u64 (r.uint1.1 : Int) ∧ RdO s1 k p (some r.uint1.2))) := by
  have hkn := hw.ne
  obtain ⟨pa, rfl⟩ := hw.ptr
  obtain ⟨l1, r1, e1⟩ : ∃ l1 r1, r.take 1 = (l1, r1) := ⟨_, _, rfl⟩
  have hl1 : l1.length ≤ 1 := by have := take_len (r := r) (n := 1); rw [e1] at this; simp only at this; omega
  have hv1 : valB l1 < 256 := by have h1 := valB_lt l1; have h2 := Nat.pow_le_pow_right (show 0 < 256 by omega) hl1; omega
  obtain ⟨l2, r2, e2⟩ : ∃ l2 r2, r1.take ((valB l1 : Int) - 247) = (l2, r2) := ⟨_, _, rfl⟩
  have hl2 : l2.length ≤ 8 := by have := take_len (r := r1) (n := (valB l1 : Int) - 247); rw [e2] at this; simp only at this; omega
  have hv2 : valB l2 < 18446744073709551616 := by have h1 := valB_lt l2; have h2 := Nat.pow_le_pow_right (show 0 < 256 by omega) hl2; omega
  have hz2 := sizeN_le hv2
  have eu : r.uint1 = if valB l1 ≤ 247 then (valB l1, r1) else if sizeN (valB l2) = valB l1 - 247 + 1 then (valB l2, r2) else (valB l2, r2.fail) := by simp only [Rd.uint1, e1, e2]
  have hS : Step (KC k 0) s s := (Step.refl _).of0 (by first | exact fun _ h => h | (intro c h; simp [KC, KO] at h <;> omega))
  refine k_fn (rs := [1]) (args := [.pointer (some ⟨b2, 0, none⟩)]) Try.func44 rfl rfl rfl rfl ?_
  refine k_seq ?_
  refine k_region ?_
  refine k_assign rfl rfl ?_
  refine k_nil ?_
  refine k_seq ?_
  refine k_region ?_
  first | refine k_load_blk one41 rfl (by assumption) (by rfl) rfl ?_ | refine k_load_val one41 rfl (by assumption) rfl ?_
  refine k_call cal46 rfl (take_c (by assumption)) rfl ?_
  rintro s1 v5 sts1 ⟨h5, hw⟩
  have szs1 := sts1.size
  have hS : Step (KC k 0) s s1 := by first | exact hS.trans0 sts1 | exact hS.transK sts1 | exact hS.transOC sts1 | (refine hS.transNewC sts1 ?_; first | omega | (dsimp only; omega)) | (refine hS.transNewO sts1 ?_; first | omega | (dsimp only; omega)) | (refine hS.transSub sts1 ?_; intro l hl; simp only [KC, KO] at hl ⊢; omega)
  try replace hw := hw.up' sts1
  try replace h2 := h2.up' sts1
  simp only [takeO, e1] at h5 hw
  refine k_call cal45 rfl (number_c (by first | assumption | omega | exact SL.of_R (by assumption) | exact Own.sl (by assumption)) (by first | omega | (simp; omega))) rfl ?_
  rintro s2 v6 sts2 rfl
  have szs2 := sts2.size
  have hS : Step (KC k 0) s s2 := by first | exact hS.trans0 sts2 | exact hS.transK sts2 | exact hS.transOC sts2 | (refine hS.transNewC sts2 ?_; first | omega | (dsimp only; omega)) | (refine hS.transNewO sts2 ?_; first | omega | (dsimp only; omega)) | (refine hS.transSub sts2 ?_; intro l hl; simp only [KC, KO] at hl ⊢; omega)
  try replace hw := hw.up' sts2
  try replace h2 := h2.up' sts2
  try replace h5 := h5.up' sts2
  try replace hw := hw.up' sts2
  refine k_assign rfl rfl ?_
  refine k_nil ?_
  refine k_keep [(0, _), (1, _), (2, _)] ⟨rfl, rfl, rfl, trivial⟩ ?_
  refine k_seq ?_
  refine k_seq ?_
  refine k_region ?_
  refine k_move rfl rfl ?_
  refine k_leq rfl rfl rfl ?_
  refine k_nil ?_
  refine k_keep [(0, _), (1, _), (2, _), (8, _)] ⟨rfl, rfl, rfl, rfl, trivial⟩ ?_
  first | refine k_cond_dec rfl (fun c8 => ?_) (fun c8 => ?_) | refine k_cond rfl (fun c8 => ?_) (fun c8 => ?_)
  · -- t8 True
    refine k_seq ?_
    refine k_region ?_
    refine k_move rfl rfl ?_
    refine k_assign rfl rfl ?_
    refine k_nil ?_
    refine k_keep [(0, _), (1, _), (2, _)] ⟨rfl, rfl, rfl, trivial⟩ ?_
    refine k_ret ?_
    refine ⟨_, rfl, Ret.mk hS ?_⟩
    rw [eu, if_pos (by omega)]; exact ⟨rfl, hw⟩
  · -- t8 False
    refine k_skip ?_
    refine k_seq ?_
    refine k_region ?_
    refine k_move rfl rfl ?_
    first | refine k_convN Try.underlying29 Try.underlying3 rfl (wrap_i64 (by omega) (by omega)) rfl ?_ | refine k_conv Try.underlying29 Try.underlying3 rfl rfl ?_
    first | refine k_subN rfl rfl (by omega) (by omega) rfl ?_ | refine k_sub_ rfl rfl rfl ?_
    refine k_assign rfl rfl ?_
    refine k_nil ?_
    refine k_keep [(0, _), (1, _), (2, _), (3, _)] ⟨rfl, rfl, rfl, rfl, trivial⟩ ?_
    refine k_seq ?_
    refine k_seq ?_
    refine k_region ?_
    first | refine k_load_blk one41 rfl (by assumption) (by rfl) rfl ?_ | refine k_load_val one41 rfl (by assumption) rfl ?_
    refine k_move rfl rfl ?_
    refine k_call cal46 rfl (take_c (by assumption)) rfl ?_
    rintro s4 v15 sts4 ⟨h15, hw⟩
    have szs4 := sts4.size
    have hS : Step (KC k 0) s s4 := by first | exact hS.trans0 sts4 | exact hS.transK sts4 | exact hS.transOC sts4 | (refine hS.transNewC sts4 ?_; first | omega | (dsimp only; omega)) | (refine hS.transNewO sts4 ?_; first | omega | (dsimp only; omega)) | (refine hS.transSub sts4 ?_; intro l hl; simp only [KC, KO] at hl ⊢; omega)
    try replace hw := hw.up' sts4
    try replace h2 := h2.up' sts4
    try replace h5 := h5.up' sts4
    try replace hw := hw.up' sts4
    simp only [takeO, e2] at h15 hw
    refine k_call cal45 rfl (number_c (by first | assumption | omega | exact SL.of_R (by assumption) | exact Own.sl (by assumption)) (by first | omega | (simp; omega))) rfl ?_
    rintro s5 v16 sts5 rfl
    have szs5 := sts5.size
    have hS : Step (KC k 0) s s5 := by first | exact hS.trans0 sts5 | exact hS.transK sts5 | exact hS.transOC sts5 | (refine hS.transNewC sts5 ?_; first | omega | (dsimp only; omega)) | (refine hS.transNewO sts5 ?_; first | omega | (dsimp only; omega)) | (refine hS.transSub sts5 ?_; intro l hl; simp only [KC, KO] at hl ⊢; omega)
    try replace hw := hw.up' sts5
    try replace h2 := h2.up' sts5
    try replace h5 := h5.up' sts5
    try replace hw := hw.up' sts5
    try replace h15 := h15.up' sts5
    try replace hw := hw.up' sts5
    refine k_assign rfl rfl ?_
    refine k_nil ?_
    refine k_keep [(0, _), (1, _), (2, _), (3, _)] ⟨rfl, rfl, rfl, rfl, trivial⟩ ?_
    refine k_seq ?_
    refine k_region ?_
    refine k_move rfl rfl ?_
    refine k_call cal17 rfl (Size_c (by first | assumption | omega | exact SL.of_R (by assumption) | exact Own.sl (by assumption))) rfl ?_
    rintro s6 v18 sts6 rfl
    have szs6 := sts6.size
    have hS : Step (KC k 0) s s6 := by first | exact hS.trans0 sts6 | exact hS.transK sts6 | exact hS.transOC sts6 | (refine hS.transNewC sts6 ?_; first | omega | (dsimp only; omega)) | (refine hS.transNewO sts6 ?_; first | omega | (dsimp only; omega)) | (refine hS.transSub sts6 ?_; intro l hl; simp only [KC, KO] at hl ⊢; omega)
    try replace hw := hw.up' sts6
    try replace h2 := h2.up' sts6
    try replace h5 := h5.up' sts6
    try replace hw := hw.up' sts6
    try replace h15 := h15.up' sts6
    try replace hw := hw.up' sts6
    refine k_move rfl rfl ?_
    first | refine k_addN rfl rfl (by omega) (by omega) rfl ?_ | refine k_add rfl rfl rfl ?_
    refine k_neq rfl rfl rfl ?_
    refine k_nil ?_
    refine k_keep [(0, _), (1, _), (2, _), (21, _)] ⟨rfl, rfl, rfl, rfl, trivial⟩ ?_
    first | refine k_cond_dec rfl (fun c21 => ?_) (fun c21 => ?_) | refine k_cond rfl (fun c21 => ?_) (fun c21 => ?_)
    · -- t21 True
      refine k_region ?_
      first | refine k_load_blk one41 rfl (by assumption) (by rfl) rfl ?_ | refine k_load_val one41 rfl (by assumption) rfl ?_
      refine k_call cal23 rfl (Fail_c (by assumption)) rfl ?_
      rintro s8 v23 sts8 ⟨rfl, hw⟩
      have szs8 := sts8.size
      have hS : Step (KC k 0) s s8 := by first | exact hS.trans0 sts8 | exact hS.transK sts8 | exact hS.transOC sts8 | (refine hS.transNewC sts8 ?_; first | omega | (dsimp only; omega)) | (refine hS.transNewO sts8 ?_; first | omega | (dsimp only; omega)) | (refine hS.transSub sts8 ?_; intro l hl; simp only [KC, KO] at hl ⊢; omega)
      try replace hw := hw.up' sts8
      try replace h2 := h2.up' sts8
      try replace h5 := h5.up' sts8
      try replace hw := hw.up' sts8
      try replace h15 := h15.up' sts8
      try replace hw := hw.up' sts8
      refine k_nil ?_
      refine k_keep [(1, _), (2, _)] ⟨rfl, rfl, trivial⟩ ?_
      refine k_seq ?_
      refine k_region ?_
      refine k_move rfl rfl ?_
      refine k_assign rfl rfl ?_
      refine k_nil ?_
      refine k_keep [(1, _)] ⟨rfl, trivial⟩ ?_
      refine k_ret ?_
      refine ⟨_, rfl, Ret.mk hS ?_⟩
      first | (rw [eu, if_neg (by omega), if_neg (by omega)]; exact ⟨rfl, hw⟩) | (rw [eu, if_neg (by omega), if_pos (by omega)]; exact ⟨rfl, hw⟩)
    · -- t21 False
      refine k_skip ?_
      refine k_seq ?_
      refine k_region ?_
      refine k_move rfl rfl ?_
      refine k_assign rfl rfl ?_
      refine k_nil ?_
      refine k_keep [(1, _)] ⟨rfl, trivial⟩ ?_
      refine k_ret ?_
      refine ⟨_, rfl, Ret.mk hS ?_⟩
      first | (rw [eu, if_neg (by omega), if_neg (by omega)]; exact ⟨rfl, hw⟩) | (rw [eu, if_neg (by omega), if_pos (by omega)]; exact ⟨rfl, hw⟩)

set_option maxHeartbeats 2000000 in
set_option maxRecDepth 100000 in
theorem whole1_uint64_bad {s : St} {k b a q b1 b3 b4 : Nat} {v x0 : Value} {f : Int} {l1 l3 : Lab} (hk : k ≠ 0) (hq : q ≠ 0) (hqk : q ≠ k) (hb : Blk s b ⟨k, 0⟩ [v, .int .i64 (a : Int), .bool true] 56) (h1 : Blk s b1 l1 [.pointer (some ⟨b, 0, none⟩)] 41) (h3 : Blk s b3 l3 [.int .i64 f] 3) (h4 : Blk s b4 ⟨q, 0⟩ [x0] 29) (h1k : l1.o ≠ k ∧ l3.o ≠ k) : CallsD Try.prog 56 #[.pointer (some ⟨b1, 0, none⟩), .pointer (some ⟨b3, 0, none⟩), .pointer (some ⟨b4, 0, none⟩)] .returning s.w (fun e u w_ => u = .returning ∧ Ret s (fun l => (l.o = k ∧ l.c = 0) ∨ (l.o = q ∧ l.c = 0)) (fun s1 v1 => v1 = .tuple #[] ∧ Blk s1 b ⟨k, 0⟩ [v, .int .i64 f, .bool true] 56 ∧ Blk s1 b4 ⟨q, 0⟩ [.int .u64 0] 29) e w_) := by
  have hS : Step (fun l => (l.o = k ∧ l.c = 0) ∨ (l.o = q ∧ l.c = 0)) s s := (Step.refl _).of0 (by first | exact fun _ h => h | (intro c h; simp [KC, KO] at h <;> omega))
  refine k_fnD (rs := []) (args := [.pointer (some ⟨b1, 0, none⟩), .pointer (some ⟨b3, 0, none⟩), .pointer (some ⟨b4, 0, none⟩)]) Try.func56 rfl rfl rfl rfl ?_
  refine k_seq ?_
  refine k_region ?_
  first | refine k_load_blk one41 rfl (by assumption) (by rfl) rfl ?_ | refine k_load_val one41 rfl (by assumption) rfl ?_
  first | refine k_nilCheck rfl rfl ?_ | refine k_nilCheck_at rfl (by assumption) rfl ?_
  first | (refine k_field_addr fld56_2 rfl rfl ?_) | (refine k_field_at rfl (by assumption) (by rfl) fld56_2 rfl ?_; intro q6 h6)
  first | refine k_load_blk one4 rfl (by assumption) (by rfl) rfl ?_ | refine k_load_val one4 rfl (by assumption) rfl ?_
  refine k_as (v := .bool true) (by first | rfl | simp) ?_
  refine k_nil ?_
  refine k_keep [(0, _), (1, _), (2, _), (7, _)] ⟨rfl, rfl, rfl, rfl, trivial⟩ ?_
  refine k_cond_true rfl ?_
  refine k_seq ?_
  refine k_region ?_
  first | refine k_load_blk one41 rfl (by assumption) (by rfl) rfl ?_ | refine k_load_val one41 rfl (by assumption) rfl ?_
  first | refine k_load_blk one3 rfl (by assumption) (by rfl) rfl ?_ | refine k_load_val one3 rfl (by assumption) rfl ?_
  first | refine k_nilCheck rfl rfl ?_ | refine k_nilCheck_at rfl (by assumption) rfl ?_
  first | (refine k_field_addr fld56_1 rfl rfl ?_) | (refine k_field_at rfl (by assumption) (by rfl) fld56_1 rfl ?_; intro q11 h11)
  first
  | (refine k_store_blk size3 rfl rfl (by assumption) (by first | (simp; done) | (simp; omega) | omega) (by first | rfl | (have := SL.cells1 (by assumption); simpa using congrArg List.length this) | (have := SL.cells1 (Own.sl (by assumption)); simpa using congrArg List.length this)) (by first | rfl | (simp; done) | (rw [SL.cells1 (by assumption)]; simp [SL.one1 (by assumption)]) | (have hq := Own.sl (by assumption); rw [hq.cells1]; simp [hq.one1])) (by first | rfl | (simp <;> omega)) ?_; intro s1 sts1 hb11)
  | (refine k_store_elt size3 rfl rfl (by assumption) (by assumption) (by first | omega | (simp; omega)) (by first | assumption | exact R.of_SL (by assumption) | exact R.val rfl) (by rfl) ?_; intro s1 sts1 hb11)
  have szs1 := sts1.size
  have hS : Step (fun l => (l.o = k ∧ l.c = 0) ∨ (l.o = q ∧ l.c = 0)) s s1 := by first | exact hS.trans0 sts1 | exact hS.transK sts1 | exact hS.transOC sts1 | (refine hS.transNewC sts1 ?_; first | omega | (dsimp only; omega)) | (refine hS.transNewO sts1 ?_; first | omega | (dsimp only; omega)) | (refine hS.transSub sts1 ?_; intro l hl; simp only [KC, KO] at hl ⊢; omega)
  try replace hb := hb.up' sts1
  try replace h1 := h1.up' sts1
  try replace h3 := h3.up' sts1
  try replace h4 := h4.up' sts1
  try replace h6 := h6.up' sts1
  try replace h11 := h11.up' sts1
  refine k_nil ?_
  refine k_keep [(2, _)] ⟨rfl, trivial⟩ ?_
  refine k_seq ?_
  refine k_region ?_
  refine k_assign rfl rfl ?_
  refine k_nil ?_
  refine k_region ?_
  refine k_move rfl rfl ?_
  first
  | (refine k_store_blk size29 rfl rfl (by assumption) (by first | (simp; done) | (simp; omega) | omega) (by first | rfl | (have := SL.cells1 (by assumption); simpa using congrArg List.length this) | (have := SL.cells1 (Own.sl (by assumption)); simpa using congrArg List.length this)) (by first | rfl | (simp; done) | (rw [SL.cells1 (by assumption)]; simp [SL.one1 (by assumption)]) | (have hq := Own.sl (by assumption); rw [hq.cells1]; simp [hq.one1])) (by first | rfl | (simp <;> omega)) ?_; intro s2 sts2 hb2)
  | (refine k_store_elt size29 rfl rfl (by assumption) (by assumption) (by first | omega | (simp; omega)) (by first | assumption | exact R.of_SL (by assumption) | exact R.val rfl) (by rfl) ?_; intro s2 sts2 hb2)
  have szs2 := sts2.size
  have hS : Step (fun l => (l.o = k ∧ l.c = 0) ∨ (l.o = q ∧ l.c = 0)) s s2 := by first | exact hS.trans0 sts2 | exact hS.transK sts2 | exact hS.transOC sts2 | (refine hS.transNewC sts2 ?_; first | omega | (dsimp only; omega)) | (refine hS.transNewO sts2 ?_; first | omega | (dsimp only; omega)) | (refine hS.transSub sts2 ?_; intro l hl; simp only [KC, KO] at hl ⊢; omega)
  try replace hb := hb.up' sts2
  try replace h1 := h1.up' sts2
  try replace h3 := h3.up' sts2
  try replace h4 := h4.up' sts2
  try replace h6 := h6.up' sts2
  try replace h11 := h11.up' sts2
  try replace hb11 := hb11.up' sts2
  refine k_nil ?_
  refine k_end ?_
  refine ⟨_, rfl, Ret.mk hS ?_⟩
  exact ⟨rfl, hb11, hb2⟩

set_option maxHeartbeats 2000000 in
set_option maxRecDepth 100000 in
theorem whole1_uint64_ok {s : St} {k b a q b1 b3 b4 : Nat} {v x0 : Value} {f : Int} {l1 l3 : Lab} (hk : k ≠ 0) (hq : q ≠ 0) (hqk : q ≠ k) (hb : Blk s b ⟨k, 0⟩ [v, .int .i64 (a : Int), .bool false] 56) (h1 : Blk s b1 l1 [.pointer (some ⟨b, 0, none⟩)] 41) (h3 : Blk s b3 l3 [.int .i64 f] 3) (h4 : Blk s b4 ⟨q, 0⟩ [x0] 29) (h1k : l1.o ≠ k ∧ l3.o ≠ k) : CallsD Try.prog 56 #[.pointer (some ⟨b1, 0, none⟩), .pointer (some ⟨b3, 0, none⟩), .pointer (some ⟨b4, 0, none⟩)] .returning s.w (fun e u w_ => u = .returning ∧ Ret s (K0) (fun s1 v1 => v1 = .tuple #[] ∧ Blk s1 b ⟨k, 0⟩ [v, .int .i64 (a : Int), .bool false] 56 ∧ Blk s1 b4 ⟨q, 0⟩ [x0] 29) e w_) := by
  have hS : Step (K0) s s := (Step.refl _).of0 (by first | exact fun _ h => h | (intro c h; simp [KC, KO] at h <;> omega))
  refine k_fnD (rs := []) (args := [.pointer (some ⟨b1, 0, none⟩), .pointer (some ⟨b3, 0, none⟩), .pointer (some ⟨b4, 0, none⟩)]) Try.func56 rfl rfl rfl rfl ?_
  refine k_seq ?_
  refine k_region ?_
  first | refine k_load_blk one41 rfl (by assumption) (by rfl) rfl ?_ | refine k_load_val one41 rfl (by assumption) rfl ?_
  first | refine k_nilCheck rfl rfl ?_ | refine k_nilCheck_at rfl (by assumption) rfl ?_
  first | (refine k_field_addr fld56_2 rfl rfl ?_) | (refine k_field_at rfl (by assumption) (by rfl) fld56_2 rfl ?_; intro q6 h6)
  first | refine k_load_blk one4 rfl (by assumption) (by rfl) rfl ?_ | refine k_load_val one4 rfl (by assumption) rfl ?_
  refine k_as (v := .bool false) (by first | rfl | simp) ?_
  refine k_nil ?_
  refine k_keep [(0, _), (1, _), (2, _), (7, _)] ⟨rfl, rfl, rfl, rfl, trivial⟩ ?_
  refine k_cond_false rfl ?_
  refine k_skip ?_
  refine k_end ?_
  refine ⟨_, rfl, Ret.mk hS ?_⟩
  exact ⟨rfl, hb, h4⟩

set_option maxHeartbeats 2000000 in
set_option maxRecDepth 100000 in
theorem whole_uint64_out {s : St} {k : Nat} {p f : Value} {w : Option Rd} (hw : RdO s k p w) (he : errO w = 2) : Calls Try.prog 43 #[p, f] s.w (Ret s (K0) (fun s1 v1 => v1 = .int .u64 0)) := by
  obtain ⟨pa, rfl⟩ := hw.ptr
  have hS : Step (K0) s s := (Step.refl _).of0 (by first | exact fun _ h => h | (intro c h; simp [KC, KO] at h <;> omega))
  refine k_fn_raw (args := [.pointer pa, f]) Try.func43 rfl rfl ?_
  refine raw_seq ?_
  refine k_region ?_
  try have lt_hw_s1 := hw.lt
  refine k_box rfl rfl ?_
  intro s1 b2 sts1 h2 ge2
  have szs1 := sts1.size
  have hS : Step (K0) s s1 := by first | exact hS.trans0 sts1 | exact hS.transK sts1 | exact hS.transOC sts1 | (refine hS.transNewC sts1 ?_; first | omega | (dsimp only; omega)) | (refine hS.transNewO sts1 ?_; first | omega | (dsimp only; omega)) | (refine hS.transSub sts1 ?_; intro l hl; simp only [KC, KO] at hl ⊢; omega)
  try replace hw := hw.up' sts1
  try have lt_hw_s2 := hw.lt
  try have lt_h2_s2 := h2.lt
  refine k_alloc zero29 rfl ?_
  intro s2 b4 sts2 h4 ge4
  have szs2 := sts2.size
  have hS : Step (K0) s s2 := by first | exact hS.trans0 sts2 | exact hS.transK sts2 | exact hS.transOC sts2 | (refine hS.transNewC sts2 ?_; first | omega | (dsimp only; omega)) | (refine hS.transNewO sts2 ?_; first | omega | (dsimp only; omega)) | (refine hS.transSub sts2 ?_; intro l hl; simp only [KC, KO] at hl ⊢; omega)
  try replace hw := hw.up' sts2
  try replace h2 := h2.up' sts2
  refine k_nil ?_
  refine k_stop ?_
  refine raw_seq ?_
  refine k_seq ?_
  refine k_region ?_
  first | refine k_load_blk one41 rfl (by assumption) (by rfl) rfl ?_ | refine k_load_val one41 rfl (by assumption) rfl ?_
  refine k_call cal27 rfl (Err_c (by assumption)) rfl ?_
  rintro s3 v7 sts3 rfl
  have szs3 := sts3.size
  have hS : Step (K0) s s3 := by first | exact hS.trans0 sts3 | exact hS.transK sts3 | exact hS.transOC sts3 | (refine hS.transNewC sts3 ?_; first | omega | (dsimp only; omega)) | (refine hS.transNewO sts3 ?_; first | omega | (dsimp only; omega)) | (refine hS.transSub sts3 ?_; intro l hl; simp only [KC, KO] at hl ⊢; omega)
  try replace hw := hw.up' sts3
  try replace h2 := h2.up' sts3
  try replace h4 := h4.up' sts3
  rw [he]
  refine k_neq rfl rfl rfl ?_
  refine k_as (v := .bool true) (by first | rfl | simp) ?_
  refine k_nil ?_
  refine k_keep [(1, _), (2, _), (4, _), (8, _)] ⟨rfl, rfl, rfl, rfl, trivial⟩ ?_
  refine k_cond_true rfl ?_
  refine k_seq ?_
  refine k_region ?_
  first | refine k_load_blk one29 rfl (by assumption) (by rfl) rfl ?_ | refine k_load_val one29 rfl (by assumption) rfl ?_
  first
  | (refine k_store_blk size29 rfl rfl (by assumption) (by first | (simp; done) | (simp; omega) | omega) (by first | rfl | (have := SL.cells1 (by assumption); simpa using congrArg List.length this) | (have := SL.cells1 (Own.sl (by assumption)); simpa using congrArg List.length this)) (by first | rfl | (simp; done) | (rw [SL.cells1 (by assumption)]; simp [SL.one1 (by assumption)]) | (have hq := Own.sl (by assumption); rw [hq.cells1]; simp [hq.one1])) (by first | rfl | (simp <;> omega)) ?_; intro s4 sts4 hb4)
  | (refine k_store_elt size29 rfl rfl (by assumption) (by assumption) (by first | omega | (simp; omega)) (by first | assumption | exact R.of_SL (by assumption) | exact R.val rfl) (by rfl) ?_; intro s4 sts4 hb4)
  have szs4 := sts4.size
  have hS : Step (K0) s s4 := by first | exact hS.trans0 sts4 | exact hS.transK sts4 | exact hS.transOC sts4 | (refine hS.transNewC sts4 ?_; first | omega | (dsimp only; omega)) | (refine hS.transNewO sts4 ?_; first | omega | (dsimp only; omega)) | (refine hS.transSub sts4 ?_; intro l hl; simp only [KC, KO] at hl ⊢; omega)
  try replace hw := hw.up' sts4
  try replace h2 := h2.up' sts4
  try replace h4 := h4.up' sts4
  refine k_nil ?_
  refine k_keep [(1, _), (2, _), (4, _)] ⟨rfl, rfl, rfl, trivial⟩ ?_
  refine k_ret ?_
  exact rawret0 rfl one29 rfl (by assumption) (Ret.mk hS rfl)

set_option maxHeartbeats 2000000 in
set_option maxRecDepth 100000 in
theorem whole_uint64_ok {s : St} {k b a : Nat} {v : Value} {al : List UInt8} {bu : Nat} {lu : Lab} (hu : Blk s bu lu [.pointer (some ⟨b, 0, none⟩)] 41) (huk : lu.o ≠ k) (hk : k ≠ 0) (hb : Blk s b ⟨k, 0⟩ [v, .int .i64 (a : Int), .bool false] 56) (hv : R s v (.sl 1 (Bs al))) (ha : a ≤ al.length) (hal : al.length ≤ BIG) : Calls Try.prog 43 #[.pointer (some ⟨b, 0, none⟩), .func (.func 44) #[] #[.pointer (some ⟨bu, 0, none⟩)]] s.w (Ret s (KC k 0) (fun s1 v1 => v1 = .int .u64 (((⟨al, a, false⟩ : Rd).whole 0 Rd.uint1).1 : Int) ∧ RdO s1 k (.pointer (some ⟨b, 0, none⟩)) (some ((⟨al, a, false⟩ : Rd).whole 0 Rd.uint1).2))) := by
  have hkl : k ≤ s.n := hb.own_le
  have lhu := hu.own_le
  have hS : Step (KC k 0) s s := (Step.refl _).of0 (by first | exact fun _ h => h | (intro c h; simp [KC, KO] at h <;> omega))
  refine k_fn_raw (args := [.pointer (some ⟨b, 0, none⟩), .func (.func 44) #[] #[.pointer (some ⟨bu, 0, none⟩)]]) Try.func43 rfl rfl ?_
  refine raw_seq ?_
  refine k_region ?_
  try have lt_hb_s1 := hb.lt
  try have lt_hv_s1 := hv.lt
  try have lt_hu_s1 := hu.lt
  refine k_box rfl rfl ?_
  intro s1 b2 sts1 h2 ge2
  have szs1 := sts1.size
  have hS : Step (KC k 0) s s1 := by first | exact hS.trans0 sts1 | exact hS.transK sts1 | exact hS.transOC sts1 | (refine hS.transNewC sts1 ?_; first | omega | (dsimp only; omega)) | (refine hS.transNewO sts1 ?_; first | omega | (dsimp only; omega)) | (refine hS.transSub sts1 ?_; intro l hl; simp only [KC, KO] at hl ⊢; omega)
  try replace hb := hb.up' sts1
  try replace hv := hv.up' sts1
  try replace hu := hu.up' sts1
  try have lt_hb_s2 := hb.lt
  try have lt_hv_s2 := hv.lt
  try have lt_hu_s2 := hu.lt
  try have lt_h2_s2 := h2.lt
  refine k_alloc zero29 rfl ?_
  intro s2 b4 sts2 h4 ge4
  have szs2 := sts2.size
  have hS : Step (KC k 0) s s2 := by first | exact hS.trans0 sts2 | exact hS.transK sts2 | exact hS.transOC sts2 | (refine hS.transNewC sts2 ?_; first | omega | (dsimp only; omega)) | (refine hS.transNewO sts2 ?_; first | omega | (dsimp only; omega)) | (refine hS.transSub sts2 ?_; intro l hl; simp only [KC, KO] at hl ⊢; omega)
  try replace hb := hb.up' sts2
  try replace hv := hv.up' sts2
  try replace hu := hu.up' sts2
  try replace h2 := h2.up' sts2
  refine k_nil ?_
  refine k_stop ?_
  refine raw_seq ?_
  refine k_seq ?_
  refine k_region ?_
  first | refine k_load_blk one41 rfl (by assumption) (by rfl) rfl ?_ | refine k_load_val one41 rfl (by assumption) rfl ?_
  refine k_call cal27 rfl (Err_some (k := k) (by first | assumption | omega | exact SL.of_R (by assumption) | exact Own.sl (by assumption))) rfl ?_
  rintro s3 v7 sts3 rfl
  have szs3 := sts3.size
  have hS : Step (KC k 0) s s3 := by first | exact hS.trans0 sts3 | exact hS.transK sts3 | exact hS.transOC sts3 | (refine hS.transNewC sts3 ?_; first | omega | (dsimp only; omega)) | (refine hS.transNewO sts3 ?_; first | omega | (dsimp only; omega)) | (refine hS.transSub sts3 ?_; intro l hl; simp only [KC, KO] at hl ⊢; omega)
  try replace hb := hb.up' sts3
  try replace hv := hv.up' sts3
  try replace hu := hu.up' sts3
  try replace h2 := h2.up' sts3
  try replace h4 := h4.up' sts3
  refine k_neq rfl rfl rfl ?_
  refine k_as (v := .bool false) (by first | rfl | simp) ?_
  refine k_nil ?_
  refine k_keep [(1, _), (2, _), (4, _), (8, _)] ⟨rfl, rfl, rfl, rfl, trivial⟩ ?_
  refine k_cond_false rfl ?_
  refine k_skip ?_
  refine k_stop ?_
  refine raw_seq ?_
  refine k_region ?_
  first | refine k_load_blk one41 rfl (by assumption) (by rfl) rfl ?_ | refine k_load_val one41 rfl (by assumption) rfl ?_
  first | refine k_nilCheck rfl rfl ?_ | refine k_nilCheck_at rfl (by assumption) rfl ?_
  first | (refine k_field_addr fld56_1 rfl rfl ?_) | (refine k_field_at rfl (by assumption) (by rfl) fld56_1 rfl ?_; intro q12 h12)
  first | refine k_load_blk one3 rfl (by assumption) (by rfl) rfl ?_ | refine k_load_val one3 rfl (by assumption) rfl ?_
  try have lt_hb_s4 := hb.lt
  try have lt_hv_s4 := hv.lt
  try have lt_hu_s4 := hu.lt
  try have lt_h2_s4 := h2.lt
  try have lt_h4_s4 := h4.lt
  try have lt_h12_s4 := h12.lt
  refine k_alloc zero3 rfl ?_
  intro s4 b5 sts4 h5 ge5
  have szs4 := sts4.size
  have hS : Step (KC k 0) s s4 := by first | exact hS.trans0 sts4 | exact hS.transK sts4 | exact hS.transOC sts4 | (refine hS.transNewC sts4 ?_; first | omega | (dsimp only; omega)) | (refine hS.transNewO sts4 ?_; first | omega | (dsimp only; omega)) | (refine hS.transSub sts4 ?_; intro l hl; simp only [KC, KO] at hl ⊢; omega)
  try replace hb := hb.up' sts4
  try replace hv := hv.up' sts4
  try replace hu := hu.up' sts4
  try replace h2 := h2.up' sts4
  try replace h4 := h4.up' sts4
  try replace h12 := h12.up' sts4
  first
  | (refine k_store_blk size3 rfl rfl (by assumption) (by first | (simp; done) | (simp; omega) | omega) (by first | rfl | (have := SL.cells1 (by assumption); simpa using congrArg List.length this) | (have := SL.cells1 (Own.sl (by assumption)); simpa using congrArg List.length this)) (by first | rfl | (simp; done) | (rw [SL.cells1 (by assumption)]; simp [SL.one1 (by assumption)]) | (have hq := Own.sl (by assumption); rw [hq.cells1]; simp [hq.one1])) (by first | rfl | (simp <;> omega)) ?_; intro s5 sts5 hb5)
  | (refine k_store_elt size3 rfl rfl (by assumption) (by assumption) (by first | omega | (simp; omega)) (by first | assumption | exact R.of_SL (by assumption) | exact R.val rfl) (by rfl) ?_; intro s5 sts5 hb5)
  have szs5 := sts5.size
  have hS : Step (KC k 0) s s5 := by first | exact hS.trans0 sts5 | exact hS.transK sts5 | exact hS.transOC sts5 | (refine hS.transNewC sts5 ?_; first | omega | (dsimp only; omega)) | (refine hS.transNewO sts5 ?_; first | omega | (dsimp only; omega)) | (refine hS.transSub sts5 ?_; intro l hl; simp only [KC, KO] at hl ⊢; omega)
  try replace hb := hb.up' sts5
  try replace hv := hv.up' sts5
  try replace hu := hu.up' sts5
  try replace h2 := h2.up' sts5
  try replace h4 := h4.up' sts5
  try replace h12 := h12.up' sts5
  try replace h5 := h5.up' sts5
  refine k_nil ?_
  refine k_stop ?_
  refine raw_defer rfl rfl ?_
  refine raw_last ?_
  refine k_seq ?_
  refine k_region ?_
  refine k_move rfl rfl ?_
  refine k_callv cal44 rfl rfl (Uint1_c (r := ⟨al, a, false⟩) ⟨hk, ha, hal, b, v, rfl, hb, hv⟩ hu huk) rfl ?_
  rintro s6 v16 sts6 ⟨rfl, hw⟩
  have szs6 := sts6.size
  have hS : Step (KC k 0) s s6 := by first | exact hS.trans0 sts6 | exact hS.transK sts6 | exact hS.transOC sts6 | (refine hS.transNewC sts6 ?_; first | omega | (dsimp only; omega)) | (refine hS.transNewO sts6 ?_; first | omega | (dsimp only; omega)) | (refine hS.transSub sts6 ?_; intro l hl; simp only [KC, KO] at hl ⊢; omega)
  try replace hv := hv.up' sts6
  try replace hu := hu.up' sts6
  try replace h2 := h2.up' sts6
  try replace h4 := h4.up' sts6
  try replace h12 := h12.up' sts6
  try replace h5 := h5.up' sts6
  try replace hb5 := hb5.up' sts6
  first
  | (refine k_store_blk size29 rfl rfl (by assumption) (by first | (simp; done) | (simp; omega) | omega) (by first | rfl | (have := SL.cells1 (by assumption); simpa using congrArg List.length this) | (have := SL.cells1 (Own.sl (by assumption)); simpa using congrArg List.length this)) (by first | rfl | (simp; done) | (rw [SL.cells1 (by assumption)]; simp [SL.one1 (by assumption)]) | (have hq := Own.sl (by assumption); rw [hq.cells1]; simp [hq.one1])) (by first | rfl | (simp <;> omega)) ?_; intro s7 sts7 hb4)
  | (refine k_store_elt size29 rfl rfl (by assumption) (by assumption) (by first | omega | (simp; omega)) (by first | assumption | exact R.of_SL (by assumption) | exact R.val rfl) (by rfl) ?_; intro s7 sts7 hb4)
  have szs7 := sts7.size
  have hS : Step (KC k 0) s s7 := by first | exact hS.trans0 sts7 | exact hS.transK sts7 | exact hS.transOC sts7 | (refine hS.transNewC sts7 ?_; first | omega | (dsimp only; omega)) | (refine hS.transNewO sts7 ?_; first | omega | (dsimp only; omega)) | (refine hS.transSub sts7 ?_; intro l hl; simp only [KC, KO] at hl ⊢; omega)
  try replace hv := hv.up' sts7
  try replace hu := hu.up' sts7
  try replace h2 := h2.up' sts7
  try replace h4 := h4.up' sts7
  try replace h12 := h12.up' sts7
  try replace h5 := h5.up' sts7
  try replace hb5 := hb5.up' sts7
  try replace hw := hw.up' sts7
  refine k_nil ?_
  refine k_keep [(4, _)] ⟨rfl, trivial⟩ ?_
  refine k_ret ?_
  have hpl := uint1_pl (⟨al, a, false⟩ : Rd)
  have ew : (⟨al, a, false⟩ : Rd).whole 0 Rd.uint1 = if (Rd.uint1 (⟨al, a, false⟩ : Rd)).2.bad = true then (0, { (Rd.uint1 (⟨al, a, false⟩ : Rd)).2 with pl := a }) else Rd.uint1 (⟨al, a, false⟩ : Rd) := by simp only [Rd.whole]; rw [if_neg (by simp)]
  generalize hy : Rd.uint1 (⟨al, a, false⟩ : Rd) = y at *
  obtain ⟨x, ⟨al2, a2, f2⟩⟩ := y
  obtain ⟨_, g1, g2, b', v', e', g3, g4⟩ := hw
  cases e'
  rw [ew]
  cases f2 with
  | true =>
    refine rawret1 (l := ⟨b4 + 1, 0⟩) (Tb := 29) rfl one29 rfl cal56 (whole1_uint64_bad (q := b4 + 1) hk (by omega) (by omega) g3 h2 hb5 hb4 (by simp; omega)) ?_
    rintro s9 x9 st9 ⟨rfl, i1, i2⟩
    exact ⟨_, i2, Ret.mk (hS.transTwo st9 (by omega) (fun l hl => hl)) ⟨rfl, hk, Nat.le_trans hpl.1 g1, g2, b, v', rfl, i1, g4.up' st9⟩⟩
  | false =>
    refine rawret1 (l := ⟨b4 + 1, 0⟩) (Tb := 29) rfl one29 rfl cal56 (whole1_uint64_ok (q := b4 + 1) hk (by omega) (by omega) g3 h2 hb5 hb4 (by simp; omega)) ?_
    rintro s9 x9 st9 ⟨rfl, i1, i2⟩
    exact ⟨_, i2, Ret.mk (hS.trans0 st9) ⟨rfl, hk, g1, g2, b, v', rfl, i1, g4.up' st9⟩⟩

theorem whole_uint64_c {s : St} {k bu : Nat} {p : Value} {w : Option Rd} {lu : Lab} (h : RdO s k p w) (hu : Blk s bu lu [p] 41) (huk : lu.o ≠ k) :
    Calls Try.prog 43 #[p, .func (.func 44) #[] #[.pointer (some ⟨bu, 0, none⟩)]] s.w (Ret s (KC k 0) fun s1 v1 => v1 = .int .u64 ((optR 0 Rd.uint w).1 : Int) ∧ RdO s1 k p (optR 0 Rd.uint w).2) := by
  by_cases he : errO w = 2
  · have e1 : optR 0 Rd.uint w = (0, w) := by
      cases w with
      | none => rfl
      | some r =>
        have : r.bad = true := by
          cases hb : r.bad with
          | true => rfl
          | false => rw [errO, hb] at he; simp at he
        simp [optR, Rd.uint, Rd.whole, this]
    rw [e1]
    refine (whole_uint64_out h he).mono ?_
    rintro e w' ⟨s1, v1, rfl, rfl, st, rfl⟩
    exact Ret.mk (st.of0 (by have := h.ne; intro c hh; simp [KC] at hh <;> omega)) ⟨rfl, h.up' st⟩
  · cases w with
    | none => exact absurd rfl he
    | some r =>
      obtain ⟨al, a, f⟩ := r
      obtain ⟨h0, h3, h4, b, v, rfl, h1, h2⟩ := h
      cases f with
      | true => exact absurd rfl he
      | false => exact whole_uint64_ok hu huk h0 h1 h2 h3 h4

end Go.Proofs
