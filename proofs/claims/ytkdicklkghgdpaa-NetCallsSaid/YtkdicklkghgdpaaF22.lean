import Derived.Test.YtkdicklkghgdpaaP22
set_option linter.unusedSimpArgs false
set_option linter.unusedVariables false
namespace Go.Proofs
open Go.Fw
theorem agg32 : aggT Try.prog 32 5 = true := by kernel_rfl
theorem agg43 : aggT Try.prog 43 4 = true := by kernel_rfl
theorem agg58 : aggT Try.prog 58 2 = true := by kernel_rfl
theorem agg64 : aggT Try.prog 64 19 = true := by kernel_rfl
theorem cal10 : Callable Try.prog 10 := ⟨_, Try.func10, by kernel_rfl, by kernel_rfl⟩
theorem cal11 : Callable Try.prog 11 := ⟨_, Try.func11, by kernel_rfl, by kernel_rfl⟩
theorem cal12 : Callable Try.prog 12 := ⟨_, Try.func12, by kernel_rfl, by kernel_rfl⟩
theorem cal13 : Callable Try.prog 13 := ⟨_, Try.func13, by kernel_rfl, by kernel_rfl⟩
theorem cal14 : Callable Try.prog 14 := ⟨_, Try.func14, by kernel_rfl, by kernel_rfl⟩
theorem cal15 : Callable Try.prog 15 := ⟨_, Try.func15, by kernel_rfl, by kernel_rfl⟩
theorem cal16 : Callable Try.prog 16 := ⟨_, Try.func16, by kernel_rfl, by kernel_rfl⟩
theorem cal17 : Callable Try.prog 17 := ⟨_, Try.func17, by kernel_rfl, by kernel_rfl⟩
theorem cal18 : Callable Try.prog 18 := ⟨_, Try.func18, by kernel_rfl, by kernel_rfl⟩
theorem cal19 : Callable Try.prog 19 := ⟨_, Try.func19, by kernel_rfl, by kernel_rfl⟩
theorem cal20 : Callable Try.prog 20 := ⟨_, Try.func20, by kernel_rfl, by kernel_rfl⟩
theorem cal21 : Callable Try.prog 21 := ⟨_, Try.func21, by kernel_rfl, by kernel_rfl⟩
theorem cal22 : Callable Try.prog 22 := ⟨_, Try.func22, by kernel_rfl, by kernel_rfl⟩
theorem cal23 : Callable Try.prog 23 := ⟨_, Try.func23, by kernel_rfl, by kernel_rfl⟩
theorem cal24 : Callable Try.prog 24 := ⟨_, Try.func24, by kernel_rfl, by kernel_rfl⟩
theorem cal25 : Callable Try.prog 25 := ⟨_, Try.func25, by kernel_rfl, by kernel_rfl⟩
theorem cal29 : Callable Try.prog 29 := ⟨_, Try.func29, by kernel_rfl, by kernel_rfl⟩
theorem cal30 : Callable Try.prog 30 := ⟨_, Try.func30, by kernel_rfl, by kernel_rfl⟩
theorem cal31 : Callable Try.prog 31 := ⟨_, Try.func31, by kernel_rfl, by kernel_rfl⟩
theorem cal32 : Callable Try.prog 32 := ⟨_, Try.func32, by kernel_rfl, by kernel_rfl⟩
theorem cal33 : Callable Try.prog 33 := ⟨_, Try.func33, by kernel_rfl, by kernel_rfl⟩
theorem cal34 : Callable Try.prog 34 := ⟨_, Try.func34, by kernel_rfl, by kernel_rfl⟩
theorem cal35 : Callable Try.prog 35 := ⟨_, Try.func35, by kernel_rfl, by kernel_rfl⟩
theorem cal38 : Callable Try.prog 38 := ⟨_, Try.func38, by kernel_rfl, by kernel_rfl⟩
theorem cal39 : Callable Try.prog 39 := ⟨_, Try.func39, by kernel_rfl, by kernel_rfl⟩
theorem cal51 : Callable Try.prog 51 := ⟨_, Try.func51, by kernel_rfl, by kernel_rfl⟩
theorem cal8 : Callable Try.prog 8 := ⟨_, Try.func8, by kernel_rfl, by kernel_rfl⟩
theorem cal9 : Callable Try.prog 9 := ⟨_, Try.func9, by kernel_rfl, by kernel_rfl⟩
theorem elem23 : elemT Try.prog 23 5 1 1 (.int .u8 0) := elemT_of Try.underlying23 (by kernel_rfl) (by kernel_rfl) (by kernel_rfl) (by kernel_rfl) (by decide)
theorem elem46 : elemT Try.prog 46 36 3 40 (.agg #[.int .i64 0, .int .i64 0, .slice none 0 0]) := elemT_of Try.underlying46 (by kernel_rfl) (by kernel_rfl) (by kernel_rfl) (by kernel_rfl) (by decide)
theorem elem47 : elemT Try.prog 47 3 1 8 (.int .i64 0) := elemT_of Try.underlying47 (by kernel_rfl) (by kernel_rfl) (by kernel_rfl) (by kernel_rfl) (by decide)
theorem elem56 : elemT Try.prog 56 81 4 48 (.agg #[.int .i64 0, .int .i64 0, .slice none 0 0, .bool false]) := elemT_of Try.underlying56 (by kernel_rfl) (by kernel_rfl) (by kernel_rfl) (by kernel_rfl) (by decide)
theorem flat43 : ∀ (a0 b0 : Int) (a1 b1 : Int) (a2 b2 : Int) (a3 b3 : Int), flatT Try.prog 43 [.int .u64 a0, .int .i64 a1, .int .i64 a2, .int .i64 a3] [.int .u64 b0, .int .i64 b1, .int .i64 b2, .int .i64 b3] := by
  intros
  refine ⟨by kernel_rfl, by kernel_rfl, by kernel_rfl, ?_⟩
  simp only [Program.fieldsOf, Try.underlying43]
  simp [alikeF, alikeV, Try.underlying30, Try.underlying3]
theorem fld32_0 : fieldT Try.prog 32 0 = some 0 := by kernel_rfl
theorem fld32_1 : fieldT Try.prog 32 1 = some 1 := by kernel_rfl
theorem fld32_2 : fieldT Try.prog 32 2 = some 2 := by kernel_rfl
theorem fld32_3 : fieldT Try.prog 32 3 = some 3 := by kernel_rfl
theorem fld32_4 : fieldT Try.prog 32 4 = some 4 := by kernel_rfl
theorem fld43_0 : fieldT Try.prog 43 0 = some 0 := by kernel_rfl
theorem fld43_1 : fieldT Try.prog 43 1 = some 1 := by kernel_rfl
theorem fld43_2 : fieldT Try.prog 43 2 = some 2 := by kernel_rfl
theorem fld43_3 : fieldT Try.prog 43 3 = some 3 := by kernel_rfl
theorem fld58_0 : fieldT Try.prog 58 0 = some 0 := by kernel_rfl
theorem fld58_1 : fieldT Try.prog 58 1 = some 1 := by kernel_rfl
theorem fld64_0 : fieldT Try.prog 64 0 = some 0 := by kernel_rfl
theorem fld64_1 : fieldT Try.prog 64 1 = some 1 := by kernel_rfl
theorem fld81_0 : fieldT Try.prog 81 0 = some 0 := by kernel_rfl
theorem fld81_1 : fieldT Try.prog 81 1 = some 3 := by kernel_rfl
theorem one24 : oneT Try.prog 24 = true := by kernel_rfl
theorem one30 : oneT Try.prog 30 = true := by kernel_rfl
theorem one4 : oneT Try.prog 4 = true := by kernel_rfl
theorem one5 : oneT Try.prog 5 = true := by kernel_rfl
theorem one56 : oneT Try.prog 56 = true := by kernel_rfl
theorem plc36 : placesT Try.prog 36 [(0, 1), (1, 1), (2, 1)] := ⟨_, Try.underlying36, fun _ => by kernel_rfl⟩
theorem plc58 : placesT Try.prog 58 [(0, 1), (1, 1)] := ⟨_, Try.underlying58, fun _ => by kernel_rfl⟩
theorem plc64 : placesT Try.prog 64 [(0, 1), (1, 1), (2, 1), (3, 16)] := ⟨_, Try.underlying64, fun _ => by kernel_rfl⟩
theorem plc81 : placesT Try.prog 81 [(0, 3), (3, 1)] := ⟨_, Try.underlying81, fun _ => by kernel_rfl⟩
theorem size23 : sizeT Try.prog 23 1 = true := by kernel_rfl
theorem size24 : sizeT Try.prog 24 1 = true := by kernel_rfl
theorem size3 : sizeT Try.prog 3 1 = true := by kernel_rfl
theorem size30 : sizeT Try.prog 30 1 = true := by kernel_rfl
theorem size32 : sizeT Try.prog 32 5 = true := by kernel_rfl
theorem size4 : sizeT Try.prog 4 1 = true := by kernel_rfl
theorem size43 : sizeT Try.prog 43 4 = true := by kernel_rfl
theorem size5 : sizeT Try.prog 5 1 = true := by kernel_rfl
theorem size56 : sizeT Try.prog 56 1 = true := by kernel_rfl
theorem size58 : sizeT Try.prog 58 2 = true := by kernel_rfl
theorem size60 : sizeT Try.prog 60 1 = true := by kernel_rfl
theorem size64 : sizeT Try.prog 64 19 = true := by kernel_rfl
theorem size81 : sizeT Try.prog 81 4 = true := by kernel_rfl
theorem slc23 : sliceT Try.prog 23 5 1 (.int .u8 0) := ⟨Try.underlying23, by kernel_rfl, by kernel_rfl, by kernel_rfl, by decide⟩
theorem slc46 : sliceT Try.prog 46 36 3 (.agg #[.int .i64 0, .int .i64 0, .slice none 0 0]) := ⟨Try.underlying46, by kernel_rfl, by kernel_rfl, by kernel_rfl, by decide⟩
theorem slc47 : sliceT Try.prog 47 3 1 (.int .i64 0) := ⟨Try.underlying47, by kernel_rfl, by kernel_rfl, by kernel_rfl, by decide⟩
theorem slc56 : sliceT Try.prog 56 81 4 (.agg #[.int .i64 0, .int .i64 0, .slice none 0 0, .bool false]) := ⟨Try.underlying56, by kernel_rfl, by kernel_rfl, by kernel_rfl, by decide⟩
theorem slc65 : sliceT Try.prog 65 24 1 (.pointer none) := ⟨Try.underlying65, by kernel_rfl, by kernel_rfl, by kernel_rfl, by decide⟩
theorem zero32 : zeroT Try.prog 32 = some (.agg #[.int .i64 0, .int .i64 0, .int .i64 0, .int .u64 0, .slice none 0 0]) := by kernel_rfl
theorem zero58 : zeroT Try.prog 58 = some (.agg #[.int .i64 0, .slice none 0 0]) := by kernel_rfl
theorem zero64 : zeroT Try.prog 64 = some (.agg #[.int .i64 0, .int .u64 0, .map none, .int .i64 0, .int .i64 0, .int .i64 0, .int .i64 0, .int .i64 0, .int .i64 0, .int .i64 0, .int .i64 0, .int .i64 0, .int .i64 0, .int .i64 0, .int .i64 0, .int .i64 0, .int .i64 0, .int .i64 0, .int .i64 0]) := by kernel_rfl
theorem zero81 : zeroT Try.prog 81 = some (.agg #[.int .i64 0, .int .i64 0, .slice none 0 0, .bool false]) := by kernel_rfl
theorem opnLaw22Call {s : St} {cs : List Value} {x : Law22Call} (h : RC s cs (dLaw22Call x)) : ∃ v4 : Value, cs = [.int .i64 x.Do, .int .i64 x.A, .int .i64 x.B, .int .u64 (x.Id.toNat : Int), v4] ∧ R s v4 ((dL 1 bD) x.Bytes) := by
  obtain ⟨c1, r1, rfl, g1, e1⟩ := h.acons
  obtain rfl := g1.val_inv
  obtain ⟨c2, r2, rfl, g2, e2⟩ := e1.acons
  obtain rfl := g2.val_inv
  obtain ⟨c3, r3, rfl, g3, e3⟩ := e2.acons
  obtain rfl := g3.val_inv
  obtain ⟨c4, r4, rfl, g4, e4⟩ := e3.acons
  obtain rfl := g4.val_inv
  obtain ⟨c5, r5, rfl, g5, e5⟩ := e4.acons
  obtain ⟨v4, rfl, q4⟩ := g5.sl_inv
  obtain rfl := e5.anil
  exact ⟨v4, rfl, q4⟩
theorem clsLaw22Call {s : St} (x : Law22Call) {v4 : Value} (q4 : R s v4 ((dL 1 bD) x.Bytes)) : RC s [.int .i64 x.Do, .int .i64 x.A, .int .i64 x.B, .int .u64 (x.Id.toNat : Int), v4] (dLaw22Call x) := (RC.mkc (RC.val _ rfl) (RC.mkc (RC.val _ rfl) (RC.mkc (RC.val _ rfl) (RC.mkc (RC.val _ rfl) (RC.mkc q4 RC.mkn)))))
theorem opnRef22Letter {s : St} {cs : List Value} {x : Ref22Letter} (h : RC s cs (dRef22Letter x)) : ∃ v2 : Value, cs = [.int .i64 x.M.From, .int .i64 x.M.To, v2, .bool x.Out] ∧ R s v2 ((dL 1 bD) x.M.Bytes) := by
  obtain ⟨c1, r1, rfl, g1, e1⟩ := h.acons
  have g1 := g1
  obtain ⟨c2, r2, rfl, g2, e2⟩ := g1.acons
  obtain rfl := g2.val_inv
  obtain ⟨c3, r3, rfl, g3, e3⟩ := e2.acons
  obtain rfl := g3.val_inv
  obtain ⟨c4, r4, rfl, g4, e4⟩ := e3.acons
  obtain ⟨v2, rfl, q2⟩ := g4.sl_inv
  obtain rfl := e4.anil
  obtain ⟨c5, r5, rfl, g5, e5⟩ := e1.acons
  obtain rfl := g5.val_inv
  obtain rfl := e5.anil
  exact ⟨v2, rfl, q2⟩
theorem clsRef22Letter {s : St} (x : Ref22Letter) {v2 : Value} (q2 : R s v2 ((dL 1 bD) x.M.Bytes)) : RC s [.int .i64 x.M.From, .int .i64 x.M.To, v2, .bool x.Out] (dRef22Letter x) := (RC.mkc (RC.mkc (RC.val _ rfl) (RC.mkc (RC.val _ rfl) (RC.mkc q2 RC.mkn))) (RC.mkc (RC.val _ rfl) RC.mkn))
theorem opnRef22Net {s : St} {cs : List Value} {x : Ref22Net} (h : RC s cs (dRef22Net x)) : ∃ v1 : Value, cs = [.int .i64 x.Replicas, v1] ∧ R s v1 ((dL 4 dRef22Letter) x.All) := by
  obtain ⟨c1, r1, rfl, g1, e1⟩ := h.acons
  obtain rfl := g1.val_inv
  obtain ⟨c2, r2, rfl, g2, e2⟩ := e1.acons
  obtain ⟨v1, rfl, q1⟩ := g2.sl_inv
  obtain rfl := e2.anil
  exact ⟨v1, rfl, q1⟩
theorem clsRef22Net {s : St} (x : Ref22Net) {v1 : Value} (q1 : R s v1 ((dL 4 dRef22Letter) x.All)) : RC s [.int .i64 x.Replicas, v1] (dRef22Net x) := (RC.mkc (RC.val _ rfl) (RC.mkc q1 RC.mkn))
/-- An object in memory: Ref22Net. -/
def ORef22Net (s : St) (k : Nat) (p : Value) (x : Ref22Net) : Prop := k ≠ 0 ∧ ∃ b, p = .pointer (some ⟨b, 0, none⟩) ∧ ∃ v1 : Value, Blk s b ⟨k, 0⟩ [.int .i64 x.Replicas, v1] 58 ∧ R s v1 ((dL 4 dRef22Letter) x.All)
theorem ORef22Net.ptr {s : St} {k : Nat} {p : Value} {x : Ref22Net} (h : ORef22Net s k p x) : ∃ b, p = .pointer (some ⟨b, 0, none⟩) := by obtain ⟨_, b, e, _⟩ := h; exact ⟨b, e⟩
theorem ORef22Net.at_ {s : St} {k b : Nat} {x : Ref22Net} (h : ORef22Net s k (.pointer (some ⟨b, 0, none⟩)) x) : ∃ v1 : Value, Blk s b ⟨k, 0⟩ [.int .i64 x.Replicas, v1] 58 ∧ R s v1 ((dL 4 dRef22Letter) x.All) := by
  obtain ⟨_, b', e, h⟩ := h
  injection e with e; injection e with e; injection e with e
  subst e
  exact h
theorem ORef22Net.mk_ {s : St} {k b : Nat} (x : Ref22Net) (h0 : k ≠ 0) {v1 : Value} (g1 : R s v1 ((dL 4 dRef22Letter) x.All)) (hb : Blk s b ⟨k, 0⟩ [.int .i64 x.Replicas, v1] 58) : ORef22Net s k (.pointer (some ⟨b, 0, none⟩)) x := ⟨h0, b, rfl, ⟨v1, hb, g1⟩⟩
theorem ORef22Net.ne {s : St} {k : Nat} {p : Value} {x : Ref22Net} (h : ORef22Net s k p x) : k ≠ 0 := h.1
theorem ORef22Net.le {s : St} {k : Nat} {p : Value} {x : Ref22Net} (h : ORef22Net s k p x) : k ≤ s.n := by
  obtain ⟨b, rfl⟩ := h.ptr
  obtain ⟨v1, hb, g1⟩ := h.at_
  exact hb.own_le
theorem ORef22Net.up2 {K : Lab → Prop} {s s' : St} {k : Nat} {p : Value} {x : Ref22Net} (h : ORef22Net s k p x) (st : Step K s s') (hk : ∀ c, ¬ K ⟨k, c⟩ := by intro c; first | exact id | (simp only [KU, KN, KC, KO, K0] <;> omega)) : ORef22Net s' k p x := by
  obtain ⟨h0, b, e, h⟩ := h
  obtain ⟨v1, hb, g1⟩ := h
  exact ⟨h0, b, e, ⟨v1, hb.up st (hk 0), g1.up st⟩⟩
def OptORef22Net (s : St) (k : Nat) (p : Value) : Option Ref22Net → Prop
  | none => p = .pointer none
  | some x => ORef22Net s k p x
theorem OptORef22Net.le {s : St} {k : Nat} {p : Value} {x : Option Ref22Net} (h : OptORef22Net s k p x) : x = none ∨ k ≤ s.n := by
  cases x with
  | none => exact .inl rfl
  | some x => have h : ORef22Net s k p x := h; exact .inr h.le
theorem OptORef22Net.up2 {K : Lab → Prop} {s s' : St} {k : Nat} {p : Value} {x : Option Ref22Net} (h : OptORef22Net s k p x) (st : Step K s s') (hk : k ≤ s.n → k ≠ 0 → ∀ c, ¬ K ⟨k, c⟩ := by intro _ _ c; first | exact id | (simp only [KU, KN, KC, KO, K0] <;> omega)) : OptORef22Net s' k p x := by
  cases x with
  | none => exact h
  | some x => have h : ORef22Net s k p x := h; exact ORef22Net.up2 h st (hk h.le h.ne)
theorem OptORef22Net.up3 {K : Lab → Prop} {s s' : St} {k n0 : Nat} {p : Value} {x : Option Ref22Net} (h : OptORef22Net s k p x) (ol : x = none ∨ k ≤ n0) (st : Step K s s') (hk : k ≤ n0 → k ≠ 0 → ∀ c, ¬ K ⟨k, c⟩ := by intro _ _ c; first | exact id | (simp only [KU, KN, KC, KO, K0] <;> omega)) : OptORef22Net s' k p x := by
  cases x with
  | none => exact h
  | some x => have h : ORef22Net s k p x := h; exact ORef22Net.up2 h st (hk (ol.resolve_left (by simp)) h.ne)
end Go.Proofs
