import Derived.Test.YtcagpghggohoiaaY02B
set_option linter.unusedSimpArgs false
set_option linter.unusedVariables false
namespace Go.Proofs
open Go.Fw
theorem cal11 : Callable Try.prog 11 := ⟨_, Try.func11, by kernel_rfl, by kernel_rfl⟩
theorem cal34 : Callable Try.prog 34 := ⟨_, Try.func34, by kernel_rfl, by kernel_rfl⟩
theorem cal35 : Callable Try.prog 35 := ⟨_, Try.func35, by kernel_rfl, by kernel_rfl⟩
theorem one29 : oneT Try.prog 29 = true := by kernel_rfl
theorem size29 : sizeT Try.prog 29 1 = true := by kernel_rfl
theorem slc22 : sliceT Try.prog 22 29 1 (.int .u64 0) := ⟨Try.underlying22, by kernel_rfl, by kernel_rfl, by kernel_rfl, by decide⟩

theorem encs_take (xs : List Nat) (i : Nat) (h : i < xs.length) : encs (xs.take (i + 1)) = encs (xs.take i) ++ encN (xs.getD i default) := by
  unfold encs
  rw [List.take_succ_eq_append_getElem h, List.map_append, List.flatten_append]
  simp [List.getD, h]
theorem encs_len (xs : List Nat) (h : ∀ x ∈ xs, x < 18446744073709551616) : (encs xs).length ≤ 9 * xs.length := by
  induction xs with
  | nil => simp [encs]
  | cons x r ih =>
    have h1 := ih (fun y hy => h y (by simp [hy]))
    have h2 := sizeN_le (h x (by simp))
    have h3 := encN_len x
    unfold encs at h1 ⊢
    simp only [List.map_cons, List.flatten_cons, List.length_append, List.length_cons]
    omega
theorem encs_take_len (xs : List Nat) (h : ∀ x ∈ xs, x < 18446744073709551616) (i : Nat) : (encs (xs.take i)).length ≤ 9 * xs.length := by
  have h1 := encs_len (xs.take i) (fun x hx => h x (List.mem_of_mem_take hx))
  have h2 : (xs.take i).length ≤ xs.length := List.length_take_le' _ _
  omega

theorem bD_of (x : Nat) (h : x < 256) : bD (UInt8.ofNat x) = .val (.int .u8 (x : Int)) := by
  have : (UInt8.ofNat x).toNat = x := by rw [UInt8.toNat_ofNat']; omega
  simp only [bD, this]
theorem four (x : Nat) (h : x < 4294967296) : be 4 x = [UInt8.ofNat (x / 16777216), UInt8.ofNat (x / 65536 % 256), UInt8.ofNat (x / 256 % 256), UInt8.ofNat (x % 256)] := by
  have : x / 16777216 % 256 = x / 16777216 := Nat.mod_eq_of_lt (by omega)
  simp only [be, Nat.div_div_eq_div_mul, List.nil_append, List.cons_append]
  rw [this]

set_option maxHeartbeats 2000000 in
set_option maxRecDepth 100000 in
theorem Put_c {s : St} {k : Nat} {p vb : Value} {w : Option (List UInt8)} {xs : List Nat} {lx : Lab} (hw : WrO s k p w) (hx : SL s lx vb 1 (xs.map uD)) (hxs : ∀ x ∈ xs, x < 18446744073709551616) (hsz : wl w + 9 * xs.length ≤ 140737488355328) (hlx : lx.o ≠ k) : Calls Try.prog 11 #[p, vb] s.w (Ret s (KO k) (fun s1 v1 => v1 = .tuple #[] ∧ WrO s1 k p (w.map (· ++ encs xs)))) := by
  have hkn := hw.ne
  have hS : Step (KO k) s s := (Step.refl _).of0 (by first | exact fun _ h => h | (intro c h; simp [KC, KO] at h <;> omega))
  refine k_fn (rs := []) (args := [p, vb]) Try.func11 rfl rfl rfl rfl ?_
  refine k_seq ?_
  refine k_region ?_
  refine k_move rfl rfl ?_
  refine k_len Try.underlying22 rfl (by first | exact ⟨_, _, rfl⟩ | exact SL.hasLen (by assumption) | exact (SL.of_R (by assumption)).hasLen | exact (Own.sl (by assumption)).hasLen) rfl ?_
  try simp only [List.length_map]
  refine k_move rfl rfl ?_
  refine k_nil ?_
  refine k_keep [(0, _), (6, _), (7, _), (8, _)] ⟨rfl, rfl, rfl, rfl, trivial⟩ ?_
  refine k_block ?_
  refine k_loopc (X := St × Nat) [(0, _), (6, _), (7, _)] (fun (xL : St × Nat) => match xL with | (sl, i) => [(8, .int .i64 (i : Int))]) (fun (xL : St × Nat) wL => match xL with | (sl, i) => sl.w = wL ∧ Step (KO k) s sl ∧ (i ≤ xs.length ∧ WrO sl k p (w.map (· ++ encs (xs.take i))))) (fun (xL : St × Nat) => match xL with | (sl, i) => xs.length - i) (s, 0) ⟨rfl, rfl, rfl, trivial⟩ ?hv1 ?hi1 ?round1
  case hv1 => exact ⟨(by first | rfl | (simp <;> rfl)), trivial⟩
  case hi1 =>
    refine ⟨rfl, (Step.refl _).of0 (by first | exact fun _ h => h | (intro c h; simp [KC, KO] at h <;> omega)), ?_⟩
    exact ⟨Nat.zero_le _, by cases w <;> simpa [encs] using hw⟩
  rintro ⟨s2, i⟩ wL ⟨rfl, hE1, hi, hw⟩
  have stE1 := hE1
  have szs2 := stE1.size
  have hS : Step (KO k) s s2 := by first | exact hS.trans0 stE1 | exact hS.transK stE1 | exact hS.transOC stE1 | (refine hS.transNewC stE1 ?_; first | omega | (dsimp only; omega)) | (refine hS.transNewO stE1 ?_; first | omega | (dsimp only; omega)) | (refine hS.transSub stE1 ?_; intro l hl; simp only [KC, KO] at hl ⊢; omega)
  try replace hw := hw.up' stE1
  try replace hx := hx.up' stE1
  refine k_seq ?_
  refine k_region ?_
  refine k_lss rfl rfl rfl ?_
  refine k_nil ?_
  refine k_seq ?_
  first | refine k_cond_dec rfl (fun c9 => ?_) (fun c9 => ?_) | refine k_cond rfl (fun c9 => ?_) (fun c9 => ?_)
  · -- t9 True
    have hi2 : i < xs.length := by omega
    have hxi : xs.getD i default < 18446744073709551616 := by simp only [List.getD, List.getElem?_eq_getElem hi2, Option.getD_some]; exact hxs _ (List.getElem_mem hi2)
    have hel := encN_len (xs.getD i default)
    have hel2 := sizeN_le hxi
    have htl := encs_take_len xs hxs i
    have hwl := wl_map w (encs (xs.take i))
    have hel3 : (encs (xs.take i)).length + (encN (xs.getD i default)).length ≤ 9 * xs.length := by rw [← List.length_append, ← encs_take xs i hi2]; exact encs_take_len xs hxs (i + 1)
    refine k_skip ?_
    refine k_seq ?_
    refine k_block ?_
    refine k_seq ?_
    refine k_region ?_
    first
    | (refine k_ixaddr_ownN Try.underlying22 size29 rfl rfl (by assumption) (by (first | exact at_map (by first | omega | (simp; omega)) | exact at_map' (by omega) (by first | omega | (simp; omega)) | (simp; omega) | simp)) rfl ?_; intro q10 h10 he10)
    | (refine k_ixaddr_own Try.underlying22 size29 rfl rfl (by assumption) (by omega) (by (first | exact at_map (by first | omega | (simp; omega)) | exact at_map' (by omega) (by first | omega | (simp; omega)) | (simp; omega) | simp)) rfl ?_; intro q10 h10 he10)
    | (refine k_ixaddrN Try.underlying22 size29 rfl rfl (by first | assumption | exact SL.of_R (by assumption)) (by (first | exact at_map (by first | omega | (simp; omega)) | exact at_map' (by omega) (by first | omega | (simp; omega)) | (simp; omega) | simp)) rfl ?_; intro q10 h10)
    | (refine k_ixaddr Try.underlying22 size29 rfl rfl (by first | assumption | exact SL.of_R (by assumption)) (by omega) (by (first | exact at_map (by first | omega | (simp; omega)) | exact at_map' (by omega) (by first | omega | (simp; omega)) | (simp; omega) | simp)) rfl ?_; intro q10 h10)
    first | refine k_load_blk one29 rfl (by assumption) (by rfl) rfl ?_ | refine k_load_val one29 rfl (by assumption) rfl ?_
    refine k_assign rfl rfl ?_
    refine k_nil ?_
    refine k_keep [(0, _), (5, _), (6, _), (7, _), (8, _)] ⟨rfl, rfl, rfl, rfl, rfl, trivial⟩ ?_
    refine k_region ?_
    refine k_move rfl rfl ?_
    refine k_move rfl rfl ?_
    refine k_call cal35 rfl (laid_c (by first | assumption | omega | exact SL.of_R (by assumption) | exact Own.sl (by assumption))) rfl ?_
    rintro s4 v14 sts4 h14
    have szs4 := sts4.size
    have hS : Step (KO k) s s4 := by first | exact hS.trans0 sts4 | exact hS.transK sts4 | exact hS.transOC sts4 | (refine hS.transNewC sts4 ?_; first | omega | (dsimp only; omega)) | (refine hS.transNewO sts4 ?_; first | omega | (dsimp only; omega)) | (refine hS.transSub sts4 ?_; intro l hl; simp only [KC, KO] at hl ⊢; omega)
    have hE1 : Step (KO k) s s4 := by first | exact hE1.trans0 sts4 | exact hE1.transK sts4 | exact hE1.transOC sts4 | (refine hE1.transNewC sts4 ?_; first | omega | (dsimp only; omega)) | (refine hE1.transNewO sts4 ?_; first | omega | (dsimp only; omega)) | (refine hE1.transSub sts4 ?_; intro l hl; simp only [KC, KO] at hl ⊢; omega)
    try replace hw := hw.up' sts4
    try replace hx := hx.up' sts4
    try replace h10 := h10.up' sts4
    refine k_call cal34 rfl (Raw_c (by assumption) (by first | assumption | omega | exact SL.of_R (by assumption) | exact Own.sl (by assumption)) (by first | omega | (simp; omega))) rfl ?_
    rintro s5 v15 sts5 ⟨rfl, hw⟩
    have szs5 := sts5.size
    have hS : Step (KO k) s s5 := by first | exact hS.trans0 sts5 | exact hS.transK sts5 | exact hS.transOC sts5 | (refine hS.transNewC sts5 ?_; first | omega | (dsimp only; omega)) | (refine hS.transNewO sts5 ?_; first | omega | (dsimp only; omega)) | (refine hS.transSub sts5 ?_; intro l hl; simp only [KC, KO] at hl ⊢; omega)
    have hE1 : Step (KO k) s s5 := by first | exact hE1.trans0 sts5 | exact hE1.transK sts5 | exact hE1.transOC sts5 | (refine hE1.transNewC sts5 ?_; first | omega | (dsimp only; omega)) | (refine hE1.transNewO sts5 ?_; first | omega | (dsimp only; omega)) | (refine hE1.transSub sts5 ?_; intro l hl; simp only [KC, KO] at hl ⊢; omega)
    try replace hw := hw.up' sts5
    try replace hx := hx.up' sts5
    try replace h10 := h10.up' sts5
    try replace h14 := h14.up' sts5
    refine k_nil ?_
    refine k_blk ?_
    refine k_region ?_
    first | refine k_addN rfl rfl (by omega) (by omega) rfl ?_ | refine k_add rfl rfl rfl ?_
    refine k_move rfl rfl ?_
    refine k_nil ?_
    refine k_stop ⟨(s5, i + 1), ⟨?_, trivial⟩, ⟨rfl, rfl, rfl, trivial⟩, ⟨rfl, hE1, ?_⟩, ?_⟩
    · first | rfl | exact congrArg (fun z => some (Value.int _ z)) (by omega) | exact congrArg (fun z => some (Value.int _ z)) (by simp; done) | (simp; done)
    · refine ⟨by omega, ?_⟩
      rw [encs_take xs i (by omega)]
      cases w <;> simpa using hw
    · first | omega | (dsimp only; omega)
  · -- t9 False
    refine k_exit rfl ?_
    refine k_end ?_
    refine ⟨_, rfl, Ret.mk hS ?_⟩
    have : i = xs.length := by omega
    subst this
    rw [List.take_length] at hw
    exact ⟨rfl, hw⟩

set_option maxHeartbeats 2000000 in
set_option maxRecDepth 100000 in
theorem U8_c {s : St} {k : Nat} {p : Value} {w : Option (List UInt8)} {x : Nat} (hw : WrO s k p w) (hx : x < 256) (hsz : wl w + 1 ≤ 140737488355328) : Calls Try.prog 37 #[p, .int .u8 (x : Int)] s.w (Ret s (KO k) (fun s1 v1 => v1 = .tuple #[] ∧ WrO s1 k p (w.map (· ++ [UInt8.ofNat x])))) := by
  have hkn := hw.ne
  have hkl := hw.le
  have hS : Step (KO k) s s := (Step.refl _).of0 (by first | exact fun _ h => h | (intro c h; simp [KC, KO] at h <;> omega))
  refine k_fn (rs := []) (args := [p, .int .u8 (x : Int)]) Try.func37 rfl rfl rfl rfl ?_
  refine k_region ?_
  refine k_move rfl rfl ?_
  refine k_move rfl rfl ?_
  refine k_bslice slc27 rfl (RVs.cons (by first | assumption | exact R.of_SL (by assumption) | exact R.val rfl) RVs.nil) (by rfl) (by rfl) rfl rfl ?_
  intro s1 v6 sts1 h6
  have szs1 := sts1.size
  have hS : Step (KO k) s s1 := by first | exact hS.trans0 sts1 | exact hS.transK sts1 | exact hS.transOC sts1 | (refine hS.transNewC sts1 ?_; first | omega | (dsimp only; omega)) | (refine hS.transNewO sts1 ?_; first | omega | (dsimp only; omega)) | (refine hS.transSub sts1 ?_; intro l hl; simp only [KC, KO] at hl ⊢; omega)
  try replace hw := hw.up' sts1
  have h6 : R s1 v6 (.sl 1 (Bs [UInt8.ofNat x])) := by
    simp only [Bs, List.map_cons, List.map_nil, bD_of x hx]
    exact h6
  refine k_call cal34 rfl (Raw_c (by assumption) (by first | assumption | omega | exact SL.of_R (by assumption) | exact Own.sl (by assumption)) (by first | omega | (simp; omega))) rfl ?_
  rintro s2 v7 sts2 ⟨rfl, hw⟩
  have szs2 := sts2.size
  have hS : Step (KO k) s s2 := by first | exact hS.trans0 sts2 | exact hS.transK sts2 | exact hS.transOC sts2 | (refine hS.transNewC sts2 ?_; first | omega | (dsimp only; omega)) | (refine hS.transNewO sts2 ?_; first | omega | (dsimp only; omega)) | (refine hS.transSub sts2 ?_; intro l hl; simp only [KC, KO] at hl ⊢; omega)
  try replace hw := hw.up' sts2
  try replace h6 := h6.up' sts2
  refine k_nil ?_
  refine k_end ?_
  refine ⟨_, rfl, Ret.mk hS ?_⟩
  exact ⟨rfl, hw⟩

set_option maxHeartbeats 2000000 in
set_option maxRecDepth 100000 in
theorem U32_c {s : St} {k : Nat} {p : Value} {w : Option (List UInt8)} {x : Nat} (hw : WrO s k p w) (hx : x < 4294967296) (hsz : wl w + 4 ≤ 140737488355328) : Calls Try.prog 30 #[p, .int .u32 (x : Int)] s.w (Ret s (KO k) (fun s1 v1 => v1 = .tuple #[] ∧ WrO s1 k p (w.map (· ++ be 4 x)))) := by
  have hkn := hw.ne
  have hkl := hw.le
  have hS : Step (KO k) s s := (Step.refl _).of0 (by first | exact fun _ h => h | (intro c h; simp [KC, KO] at h <;> omega))
  refine k_fn (rs := []) (args := [p, .int .u32 (x : Int)]) Try.func30 rfl rfl rfl rfl ?_
  refine k_region ?_
  refine k_move rfl rfl ?_
  refine k_move rfl rfl ?_
  first | refine k_shrCN (m := 16777216) rfl rfl rfl rfl rfl ?_ | refine k_shrC (m := 16777216) rfl rfl rfl rfl (by omega) rfl ?_
  first | refine k_convN Try.underlying58 Try.underlying5 rfl (wrap_u8 (by omega) (by omega)) rfl ?_ | refine k_conv_u8 Try.underlying58 Try.underlying5 rfl rfl ?_ | refine k_conv Try.underlying58 Try.underlying5 rfl rfl ?_
  refine k_move rfl rfl ?_
  first | refine k_shrCN (m := 65536) rfl rfl rfl rfl rfl ?_ | refine k_shrC (m := 65536) rfl rfl rfl rfl (by omega) rfl ?_
  first | refine k_convN Try.underlying58 Try.underlying5 rfl (wrap_u8 (by omega) (by omega)) rfl ?_ | refine k_conv_u8 Try.underlying58 Try.underlying5 rfl rfl ?_ | refine k_conv Try.underlying58 Try.underlying5 rfl rfl ?_
  refine k_move rfl rfl ?_
  first | refine k_shrCN (m := 256) rfl rfl rfl rfl rfl ?_ | refine k_shrC (m := 256) rfl rfl rfl rfl (by omega) rfl ?_
  first | refine k_convN Try.underlying58 Try.underlying5 rfl (wrap_u8 (by omega) (by omega)) rfl ?_ | refine k_conv_u8 Try.underlying58 Try.underlying5 rfl rfl ?_ | refine k_conv Try.underlying58 Try.underlying5 rfl rfl ?_
  refine k_move rfl rfl ?_
  first | refine k_convN Try.underlying58 Try.underlying5 rfl (wrap_u8 (by omega) (by omega)) rfl ?_ | refine k_conv_u8 Try.underlying58 Try.underlying5 rfl rfl ?_ | refine k_conv Try.underlying58 Try.underlying5 rfl rfl ?_
  refine k_bslice slc27 rfl (RVs.cons (by first | assumption | exact R.of_SL (by assumption) | exact R.val rfl) (RVs.cons (by first | assumption | exact R.of_SL (by assumption) | exact R.val rfl) (RVs.cons (by first | assumption | exact R.of_SL (by assumption) | exact R.val rfl) (RVs.cons (by first | assumption | exact R.of_SL (by assumption) | exact R.val rfl) RVs.nil)))) (by rfl) (by rfl) rfl rfl ?_
  intro s1 v16 sts1 h16
  have szs1 := sts1.size
  have hS : Step (KO k) s s1 := by first | exact hS.trans0 sts1 | exact hS.transK sts1 | exact hS.transOC sts1 | (refine hS.transNewC sts1 ?_; first | omega | (dsimp only; omega)) | (refine hS.transNewO sts1 ?_; first | omega | (dsimp only; omega)) | (refine hS.transSub sts1 ?_; intro l hl; simp only [KC, KO] at hl ⊢; omega)
  try replace hw := hw.up' sts1
  have h16 : R s1 v16 (.sl 1 (Bs (be 4 x))) := by
    rw [four x hx]
    simp only [Bs, List.map_cons, List.map_nil]
    rw [bD_of (x / 16777216) (by omega), bD_of (x / 65536 % 256) (by omega), bD_of (x / 256 % 256) (by omega), bD_of (x % 256) (by omega)]
    exact h16
  have e4 : (be 4 x).length = 4 := be_len 4 x
  refine k_call cal34 rfl (Raw_c (by assumption) (by first | assumption | omega | exact SL.of_R (by assumption) | exact Own.sl (by assumption)) (by first | omega | (simp; omega))) rfl ?_
  rintro s2 v17 sts2 ⟨rfl, hw⟩
  have szs2 := sts2.size
  have hS : Step (KO k) s s2 := by first | exact hS.trans0 sts2 | exact hS.transK sts2 | exact hS.transOC sts2 | (refine hS.transNewC sts2 ?_; first | omega | (dsimp only; omega)) | (refine hS.transNewO sts2 ?_; first | omega | (dsimp only; omega)) | (refine hS.transSub sts2 ?_; intro l hl; simp only [KC, KO] at hl ⊢; omega)
  try replace hw := hw.up' sts2
  try replace h16 := h16.up' sts2
  refine k_nil ?_
  refine k_end ?_
  refine ⟨_, rfl, Ret.mk hS ?_⟩
  exact ⟨rfl, hw⟩

set_option maxHeartbeats 2000000 in
set_option maxRecDepth 100000 in
theorem WUint_c {s : St} {k : Nat} {p : Value} {w : Option (List UInt8)} {x : Nat} (hw : WrO s k p w) (hx : x < 18446744073709551616) (hsz : wl w + 9 ≤ 140737488355328) : Calls Try.prog 19 #[p, .int .u64 (x : Int)] s.w (Ret s (KO k) (fun s1 v1 => v1 = .tuple #[] ∧ WrO s1 k p (w.map (· ++ encN x)))) := by
  have hkn := hw.ne
  have hkl := hw.le
  have hS : Step (KO k) s s := (Step.refl _).of0 (by first | exact fun _ h => h | (intro c h; simp [KC, KO] at h <;> omega))
  refine k_fn (rs := []) (args := [p, .int .u64 (x : Int)]) Try.func19 rfl rfl rfl rfl ?_
  refine k_region ?_
  refine k_move rfl rfl ?_
  refine k_move rfl rfl ?_
  refine k_bslice slc22 rfl (RVs.cons (by first | assumption | exact R.of_SL (by assumption) | exact R.val rfl) RVs.nil) (by rfl) (by rfl) rfl rfl ?_
  intro s1 v6 sts1 h6
  have szs1 := sts1.size
  have hS : Step (KO k) s s1 := by first | exact hS.trans0 sts1 | exact hS.transK sts1 | exact hS.transOC sts1 | (refine hS.transNewC sts1 ?_; first | omega | (dsimp only; omega)) | (refine hS.transNewO sts1 ?_; first | omega | (dsimp only; omega)) | (refine hS.transSub sts1 ?_; intro l hl; simp only [KC, KO] at hl ⊢; omega)
  try replace hw := hw.up' sts1
  have h6 : SL s1 L0 v6 1 ([x].map uD) := SL.of_R h6
  refine k_call cal11 rfl (Put_c (by assumption) (by first | assumption | omega | exact SL.of_R (by assumption) | exact Own.sl (by assumption)) (by first | assumption | decide | (simp; done) | (simp; omega)) (by first | omega | decide | (simp; done) | (simp; omega) | (simp [wl]; omega)) (by first | assumption | omega | (simp; omega))) rfl ?_
  rintro s2 v7 sts2 ⟨rfl, hw⟩
  have szs2 := sts2.size
  have hS : Step (KO k) s s2 := by first | exact hS.trans0 sts2 | exact hS.transK sts2 | exact hS.transOC sts2 | (refine hS.transNewC sts2 ?_; first | omega | (dsimp only; omega)) | (refine hS.transNewO sts2 ?_; first | omega | (dsimp only; omega)) | (refine hS.transSub sts2 ?_; intro l hl; simp only [KC, KO] at hl ⊢; omega)
  try replace hw := hw.up' sts2
  try replace h6 := h6.up' sts2
  refine k_nil ?_
  refine k_end ?_
  refine ⟨_, rfl, Ret.mk hS ?_⟩
  exact ⟨rfl, by simpa [encs] using hw⟩

set_option maxHeartbeats 2000000 in
set_option maxRecDepth 100000 in
theorem WText_c {s : St} {k : Nat} {p : Value} {w : Option (List UInt8)} {l : List UInt8} (hw : WrO s k p w) (hsz : wl w + l.length + 9 ≤ 140737488355328) : Calls Try.prog 31 #[p, S l] s.w (Ret s (KO k) (fun s1 v1 => v1 = .tuple #[] ∧ WrO s1 k p (w.map (· ++ (encN l.length ++ l))))) := by
  have hkn := hw.ne
  have hkl := hw.le
  have hel := encN_len l.length
  have hel2 := sizeN_le (x := l.length) (by omega)
  have hwl := wl_map w (encs [l.length])
  have he1 : encs [l.length] = encN l.length := by simp [encs]
  rw [he1] at hwl
  have hS : Step (KO k) s s := (Step.refl _).of0 (by first | exact fun _ h => h | (intro c h; simp [KC, KO] at h <;> omega))
  refine k_fn (rs := []) (args := [p, S l]) Try.func31 rfl rfl rfl rfl ?_
  refine k_seq ?_
  refine k_region ?_
  refine k_move rfl rfl ?_
  refine k_move rfl rfl ?_
  refine k_len_str Try.underlying9 rfl rfl ?_
  first | refine k_convN Try.underlying3 Try.underlying29 rfl (wrap_u64 (by omega) (by omega)) rfl ?_ | refine k_conv_u64 Try.underlying3 Try.underlying29 rfl rfl ?_ | refine k_conv Try.underlying3 Try.underlying29 rfl rfl ?_
  refine k_bslice slc22 rfl (RVs.cons (by first | assumption | exact R.of_SL (by assumption) | exact R.val rfl) RVs.nil) (by rfl) (by rfl) rfl rfl ?_
  intro s1 v8 sts1 h8
  have szs1 := sts1.size
  have hS : Step (KO k) s s1 := by first | exact hS.trans0 sts1 | exact hS.transK sts1 | exact hS.transOC sts1 | (refine hS.transNewC sts1 ?_; first | omega | (dsimp only; omega)) | (refine hS.transNewO sts1 ?_; first | omega | (dsimp only; omega)) | (refine hS.transSub sts1 ?_; intro l hl; simp only [KC, KO] at hl ⊢; omega)
  try replace hw := hw.up' sts1
  have h8 : SL s1 L0 v8 1 ([l.length].map uD) := SL.of_R h8
  refine k_call cal11 rfl (Put_c (by assumption) (by first | assumption | omega | exact SL.of_R (by assumption) | exact Own.sl (by assumption)) (by first | assumption | decide | (simp; done) | (simp; omega)) (by first | omega | decide | (simp; done) | (simp; omega) | (simp [wl]; omega)) (by first | assumption | omega | (simp; omega))) rfl ?_
  rintro s2 v9 sts2 ⟨rfl, hw⟩
  have szs2 := sts2.size
  have hS : Step (KO k) s s2 := by first | exact hS.trans0 sts2 | exact hS.transK sts2 | exact hS.transOC sts2 | (refine hS.transNewC sts2 ?_; first | omega | (dsimp only; omega)) | (refine hS.transNewO sts2 ?_; first | omega | (dsimp only; omega)) | (refine hS.transSub sts2 ?_; intro l hl; simp only [KC, KO] at hl ⊢; omega)
  try replace hw := hw.up' sts2
  try replace h8 := h8.up' sts2
  refine k_nil ?_
  refine k_keep [(0, _), (1, _)] ⟨rfl, rfl, trivial⟩ ?_
  refine k_region ?_
  refine k_move rfl rfl ?_
  refine k_move rfl rfl ?_
  rw [he1] at hw
  refine k_stb Try.underlying9 Try.underlying27 Try.underlying5 rfl rfl ?_
  intro s3 v12 sts3 h12
  have szs3 := sts3.size
  have hS : Step (KO k) s s3 := by first | exact hS.trans0 sts3 | exact hS.transK sts3 | exact hS.transOC sts3 | (refine hS.transNewC sts3 ?_; first | omega | (dsimp only; omega)) | (refine hS.transNewO sts3 ?_; first | omega | (dsimp only; omega)) | (refine hS.transSub sts3 ?_; intro l hl; simp only [KC, KO] at hl ⊢; omega)
  try replace hw := hw.up' sts3
  try replace h8 := h8.up' sts3
  try replace hw := hw.up' sts3
  refine k_call cal34 rfl (Raw_c (by assumption) (by first | assumption | omega | exact SL.of_R (by assumption) | exact Own.sl (by assumption)) (by first | omega | (simp; omega))) rfl ?_
  rintro s4 v13 sts4 ⟨rfl, hw⟩
  have szs4 := sts4.size
  have hS : Step (KO k) s s4 := by first | exact hS.trans0 sts4 | exact hS.transK sts4 | exact hS.transOC sts4 | (refine hS.transNewC sts4 ?_; first | omega | (dsimp only; omega)) | (refine hS.transNewO sts4 ?_; first | omega | (dsimp only; omega)) | (refine hS.transSub sts4 ?_; intro l hl; simp only [KC, KO] at hl ⊢; omega)
  try replace hw := hw.up' sts4
  try replace h8 := h8.up' sts4
  try replace hw := hw.up' sts4
  try replace h12 := h12.up' sts4
  refine k_nil ?_
  refine k_end ?_
  refine ⟨_, rfl, Ret.mk hS ?_⟩
  refine ⟨rfl, ?_⟩
  cases w <;> simpa using hw

set_option maxHeartbeats 2000000 in
set_option maxRecDepth 100000 in
theorem Bytes_nil {s : St} : Calls Try.prog 12 #[.pointer none] s.w (Ret s (K0) (fun s1 v1 => R s1 v1 (.sl 1 (Bs [])))) := by
  have hS : Step (K0) s s := (Step.refl _).of0 (by first | exact fun _ h => h | (intro c h; simp [KC, KO] at h <;> omega))
  refine k_fn (rs := [2]) (args := [.pointer none]) Try.func12 rfl rfl rfl rfl ?_
  refine k_seq ?_
  refine k_region ?_
  refine k_assign rfl rfl ?_
  refine k_nil ?_
  refine k_seq ?_
  refine k_seq ?_
  refine k_region ?_
  refine k_move rfl rfl ?_
  refine k_eql_pnil Try.underlying24 rfl rfl rfl ?_
  refine k_as (v := .bool true) (by first | rfl | simp) ?_
  refine k_nil ?_
  refine k_keep [(0, _), (2, _), (4, _)] ⟨rfl, rfl, rfl, trivial⟩ ?_
  refine k_cond_true rfl ?_
  refine k_seq ?_
  refine k_region ?_
  refine k_assign rfl rfl ?_
  refine k_nil ?_
  refine k_keep [(0, _), (2, _)] ⟨rfl, rfl, trivial⟩ ?_
  refine k_ret ?_
  refine ⟨_, rfl, Ret.mk hS ?_⟩
  exact R.of_SL (.inl ⟨rfl, none, 0, rfl, fun _ => rfl⟩)

set_option maxHeartbeats 2000000 in
set_option maxRecDepth 100000 in
theorem Bytes_some {s : St} {k b : Nat} {v : Value} {l : List UInt8} (hb : Blk s b ⟨k, 0⟩ [v] 65) (ho : Own s ⟨k, 1⟩ 5 1 v (Bs l)) (hsz : l.length ≤ 140737488355328) : Calls Try.prog 12 #[.pointer (some ⟨b, 0, none⟩)] s.w (Ret s (K0) (fun s1 v1 => R s1 v1 (.sl 1 (Bs l)))) := by
  have hS : Step (K0) s s := (Step.refl _).of0 (by first | exact fun _ h => h | (intro c h; simp [KC, KO] at h <;> omega))
  refine k_fn (rs := [2]) (args := [.pointer (some ⟨b, 0, none⟩)]) Try.func12 rfl rfl rfl rfl ?_
  refine k_seq ?_
  refine k_region ?_
  refine k_assign rfl rfl ?_
  refine k_nil ?_
  refine k_seq ?_
  refine k_seq ?_
  refine k_region ?_
  refine k_move rfl rfl ?_
  refine k_eql_pnil Try.underlying24 rfl rfl rfl ?_
  refine k_as (v := .bool false) (by first | rfl | simp) ?_
  refine k_nil ?_
  refine k_keep [(0, _), (2, _), (4, _)] ⟨rfl, rfl, rfl, trivial⟩ ?_
  refine k_cond_false rfl ?_
  refine k_skip ?_
  refine k_seq ?_
  refine k_region ?_
  refine k_move rfl rfl ?_
  first | refine k_nilCheck rfl rfl ?_ | refine k_nilCheck_at rfl (by assumption) rfl ?_
  first | (refine k_field_addr fld65_0 rfl rfl ?_) | (refine k_field_at rfl (by assumption) (by rfl) fld65_0 rfl ?_; intro q7 h7)
  first | refine k_load_blk one27 rfl (by assumption) (by rfl) rfl ?_ | refine k_load_val one27 rfl (by assumption) rfl ?_ | (refine k_load_sl one27 rfl (by assumption) rfl ?_; intro v8 h8)
  refine k_call cal36 rfl (Clone_c (by first | assumption | omega | exact SL.of_R (by assumption) | exact Own.sl (by assumption)) (by first | omega | (simp; omega))) rfl ?_
  rintro s1 v9 sts1 h9
  have szs1 := sts1.size
  have hS : Step (K0) s s1 := by first | exact hS.trans0 sts1 | exact hS.transK sts1 | exact hS.transOC sts1 | (refine hS.transNewC sts1 ?_; first | omega | (dsimp only; omega)) | (refine hS.transNewO sts1 ?_; first | omega | (dsimp only; omega)) | (refine hS.transSub sts1 ?_; intro l hl; simp only [KC, KO] at hl ⊢; omega)
  try replace hb := hb.up' sts1
  try replace ho := ho.up' sts1
  try replace h7 := h7.up' sts1
  try replace h8 := h8.up' sts1
  refine k_assign rfl rfl ?_
  refine k_nil ?_
  refine k_keep [(2, _)] ⟨rfl, trivial⟩ ?_
  refine k_ret ?_
  refine ⟨_, rfl, Ret.mk hS ?_⟩
  exact h9

theorem Bytes_c {s : St} {k : Nat} {p : Value} {w : Option (List UInt8)} (h : WrO s k p w) (hsz : wl w ≤ 140737488355328) :
    Calls Try.prog 12 #[p] s.w (Ret s K0 fun s1 v1 => R s1 v1 (.sl 1 (Bs (w.getD [])))) := by
  cases w with
  | none => obtain ⟨rfl, h0, hle⟩ := h; exact Bytes_nil
  | some l => obtain ⟨h0, b, v, rfl, h1, h2⟩ := h; exact Bytes_some h1 h2 hsz

end Go.Proofs
