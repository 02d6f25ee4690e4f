import Derived.Test.YtecbmbcdinkccaaDoorP01D
set_option linter.unusedSimpArgs false
set_option linter.unusedVariables false
namespace Go.Proofs
open Go.Fw
theorem agg25 : aggT Tryd.prog 25 5 = true := by kernel_rfl
theorem arr52 : arrT Tryd.prog 52 9 7 1 := ⟨Tryd.underlying52, by kernel_rfl⟩
theorem arr94 : arrT Tryd.prog 94 5 24 1 := ⟨Tryd.underlying94, by kernel_rfl⟩
theorem cal10 : Callable Tryd.prog 10 := ⟨_, Tryd.func10, by kernel_rfl, by kernel_rfl⟩
theorem cal11 : Callable Tryd.prog 11 := ⟨_, Tryd.func11, by kernel_rfl, by kernel_rfl⟩
theorem cal12 : Callable Tryd.prog 12 := ⟨_, Tryd.func12, by kernel_rfl, by kernel_rfl⟩
theorem cal13 : Callable Tryd.prog 13 := ⟨_, Tryd.func13, by kernel_rfl, by kernel_rfl⟩
theorem cal14 : Callable Tryd.prog 14 := ⟨_, Tryd.func14, by kernel_rfl, by kernel_rfl⟩
theorem cal15 : Callable Tryd.prog 15 := ⟨_, Tryd.func15, by kernel_rfl, by kernel_rfl⟩
theorem cal16 : Callable Tryd.prog 16 := ⟨_, Tryd.func16, by kernel_rfl, by kernel_rfl⟩
theorem cal17 : Callable Tryd.prog 17 := ⟨_, Tryd.func17, by kernel_rfl, by kernel_rfl⟩
theorem cal18 : Callable Tryd.prog 18 := ⟨_, Tryd.func18, by kernel_rfl, by kernel_rfl⟩
theorem cal19 : Callable Tryd.prog 19 := ⟨_, Tryd.func19, by kernel_rfl, by kernel_rfl⟩
theorem cal20 : Callable Tryd.prog 20 := ⟨_, Tryd.func20, by kernel_rfl, by kernel_rfl⟩
theorem cal21 : Callable Tryd.prog 21 := ⟨_, Tryd.func21, by kernel_rfl, by kernel_rfl⟩
theorem cal22 : Callable Tryd.prog 22 := ⟨_, Tryd.func22, by kernel_rfl, by kernel_rfl⟩
theorem cal23 : Callable Tryd.prog 23 := ⟨_, Tryd.func23, by kernel_rfl, by kernel_rfl⟩
theorem cal24 : Callable Tryd.prog 24 := ⟨_, Tryd.func24, by kernel_rfl, by kernel_rfl⟩
theorem cal25 : Callable Tryd.prog 25 := ⟨_, Tryd.func25, by kernel_rfl, by kernel_rfl⟩
theorem cal26 : Callable Tryd.prog 26 := ⟨_, Tryd.func26, by kernel_rfl, by kernel_rfl⟩
theorem cal27 : Callable Tryd.prog 27 := ⟨_, Tryd.func27, by kernel_rfl, by kernel_rfl⟩
theorem cal28 : Callable Tryd.prog 28 := ⟨_, Tryd.func28, by kernel_rfl, by kernel_rfl⟩
theorem cal29 : Callable Tryd.prog 29 := ⟨_, Tryd.func29, by kernel_rfl, by kernel_rfl⟩
theorem cal30 : Callable Tryd.prog 30 := ⟨_, Tryd.func30, by kernel_rfl, by kernel_rfl⟩
theorem cal31 : Callable Tryd.prog 31 := ⟨_, Tryd.func31, by kernel_rfl, by kernel_rfl⟩
theorem cal32 : Callable Tryd.prog 32 := ⟨_, Tryd.func32, by kernel_rfl, by kernel_rfl⟩
theorem cal33 : Callable Tryd.prog 33 := ⟨_, Tryd.func33, by kernel_rfl, by kernel_rfl⟩
theorem cal34 : Callable Tryd.prog 34 := ⟨_, Tryd.func34, by kernel_rfl, by kernel_rfl⟩
theorem cal35 : Callable Tryd.prog 35 := ⟨_, Tryd.func35, by kernel_rfl, by kernel_rfl⟩
theorem cal36 : Callable Tryd.prog 36 := ⟨_, Tryd.func36, by kernel_rfl, by kernel_rfl⟩
theorem cal37 : Callable Tryd.prog 37 := ⟨_, Tryd.func37, by kernel_rfl, by kernel_rfl⟩
theorem cal38 : Callable Tryd.prog 38 := ⟨_, Tryd.func38, by kernel_rfl, by kernel_rfl⟩
theorem cal39 : Callable Tryd.prog 39 := ⟨_, Tryd.func39, by kernel_rfl, by kernel_rfl⟩
theorem cal4 : Callable Tryd.prog 4 := ⟨_, Tryd.func4, by kernel_rfl, by kernel_rfl⟩
theorem cal40 : Callable Tryd.prog 40 := ⟨_, Tryd.func40, by kernel_rfl, by kernel_rfl⟩
theorem cal41 : Callable Tryd.prog 41 := ⟨_, Tryd.func41, by kernel_rfl, by kernel_rfl⟩
theorem cal42 : Callable Tryd.prog 42 := ⟨_, Tryd.func42, by kernel_rfl, by kernel_rfl⟩
theorem cal43 : Callable Tryd.prog 43 := ⟨_, Tryd.func43, by kernel_rfl, by kernel_rfl⟩
theorem cal44 : Callable Tryd.prog 44 := ⟨_, Tryd.func44, by kernel_rfl, by kernel_rfl⟩
theorem cal45 : Callable Tryd.prog 45 := ⟨_, Tryd.func45, by kernel_rfl, by kernel_rfl⟩
theorem cal46 : Callable Tryd.prog 46 := ⟨_, Tryd.func46, by kernel_rfl, by kernel_rfl⟩
theorem cal5 : Callable Tryd.prog 5 := ⟨_, Tryd.func5, by kernel_rfl, by kernel_rfl⟩
theorem cal50 : Callable Tryd.prog 50 := ⟨_, Tryd.func50, by kernel_rfl, by kernel_rfl⟩
theorem cal6 : Callable Tryd.prog 6 := ⟨_, Tryd.func6, by kernel_rfl, by kernel_rfl⟩
theorem cal65 : Callable Tryd.prog 65 := ⟨_, Tryd.func65, by kernel_rfl, by kernel_rfl⟩
theorem cal66 : Callable Tryd.prog 66 := ⟨_, Tryd.func66, by kernel_rfl, by kernel_rfl⟩
theorem cal67 : Callable Tryd.prog 67 := ⟨_, Tryd.func67, by kernel_rfl, by kernel_rfl⟩
theorem cal68 : Callable Tryd.prog 68 := ⟨_, Tryd.func68, by kernel_rfl, by kernel_rfl⟩
theorem cal7 : Callable Tryd.prog 7 := ⟨_, Tryd.func7, by kernel_rfl, by kernel_rfl⟩
theorem cal8 : Callable Tryd.prog 8 := ⟨_, Tryd.func8, by kernel_rfl, by kernel_rfl⟩
theorem cal9 : Callable Tryd.prog 9 := ⟨_, Tryd.func9, by kernel_rfl, by kernel_rfl⟩
theorem elem22 : elemT Tryd.prog 22 25 5 80 (.agg #[.int .i64 0, .int .i64 0, S [], .slice none 0 0, .slice none 0 0]) := elemT_of Tryd.underlying22 (by kernel_rfl) (by kernel_rfl) (by kernel_rfl) (by kernel_rfl) (by decide)
theorem elem23 : elemT Tryd.prog 23 9 1 16 (S []) := elemT_of Tryd.underlying23 (by kernel_rfl) (by kernel_rfl) (by kernel_rfl) (by kernel_rfl) (by decide)
theorem elem37 : elemT Tryd.prog 37 5 1 1 (.int .u8 0) := elemT_of Tryd.underlying37 (by kernel_rfl) (by kernel_rfl) (by kernel_rfl) (by kernel_rfl) (by decide)
theorem fld25_0 : fieldT Tryd.prog 25 0 = some 0 := by kernel_rfl
theorem fld25_1 : fieldT Tryd.prog 25 1 = some 1 := by kernel_rfl
theorem fld25_2 : fieldT Tryd.prog 25 2 = some 2 := by kernel_rfl
theorem fld25_3 : fieldT Tryd.prog 25 3 = some 3 := by kernel_rfl
theorem fld25_4 : fieldT Tryd.prog 25 4 = some 4 := by kernel_rfl
theorem fld41_0 : fieldT Tryd.prog 41 0 = some 0 := by kernel_rfl
theorem fld41_1 : fieldT Tryd.prog 41 1 = some 1 := by kernel_rfl
theorem ifcT62 : ifcT Tryd.prog 62 := by unfold ifcT; kernel_rfl
theorem mixed : Tryd.prog.follows .mixedOrders = true := by kernel_rfl
theorem one2 : oneT Tryd.prog 2 = true := by kernel_rfl
theorem one22 : oneT Tryd.prog 22 = true := by kernel_rfl
theorem one23 : oneT Tryd.prog 23 = true := by kernel_rfl
theorem one28 : oneT Tryd.prog 28 = true := by kernel_rfl
theorem one3 : oneT Tryd.prog 3 = true := by kernel_rfl
theorem one4 : oneT Tryd.prog 4 = true := by kernel_rfl
theorem one9 : oneT Tryd.prog 9 = true := by kernel_rfl
theorem plc25 : placesT Tryd.prog 25 [(0, 1), (1, 1), (2, 1), (3, 1), (4, 1)] := ⟨_, Tryd.underlying25, fun _ => by kernel_rfl⟩
theorem plc41 : placesT Tryd.prog 41 [(0, 1), (1, 1)] := ⟨_, Tryd.underlying41, fun _ => by kernel_rfl⟩
theorem size2 : sizeT Tryd.prog 2 1 = true := by kernel_rfl
theorem size22 : sizeT Tryd.prog 22 1 = true := by kernel_rfl
theorem size23 : sizeT Tryd.prog 23 1 = true := by kernel_rfl
theorem size25 : sizeT Tryd.prog 25 5 = true := by kernel_rfl
theorem size28 : sizeT Tryd.prog 28 1 = true := by kernel_rfl
theorem size4 : sizeT Tryd.prog 4 1 = true := by kernel_rfl
theorem size9 : sizeT Tryd.prog 9 1 = true := by kernel_rfl
theorem slc22 : sliceT Tryd.prog 22 25 5 (.agg #[.int .i64 0, .int .i64 0, S [], .slice none 0 0, .slice none 0 0]) := ⟨Tryd.underlying22, by kernel_rfl, by kernel_rfl, by kernel_rfl, by decide⟩
theorem slc23 : sliceT Tryd.prog 23 9 1 (S []) := ⟨Tryd.underlying23, by kernel_rfl, by kernel_rfl, by kernel_rfl, by decide⟩
theorem slc37 : sliceT Tryd.prog 37 5 1 (.int .u8 0) := ⟨Tryd.underlying37, by kernel_rfl, by kernel_rfl, by kernel_rfl, by decide⟩
theorem zero25 : zeroT Tryd.prog 25 = some (.agg #[.int .i64 0, .int .i64 0, S [], .slice none 0 0, .slice none 0 0]) := by kernel_rfl
theorem zero28 : zeroT Tryd.prog 28 = some (.int .i64 0) := by kernel_rfl
theorem zero41 : zeroT Tryd.prog 41 = some (.agg #[S [], .bool false]) := by kernel_rfl
theorem zero52 : zeroT Tryd.prog 52 = some (.agg #[S [], S [], S [], S [], S [], S [], S []]) := by kernel_rfl
theorem zero94 : zeroT Tryd.prog 94 = some (.agg #[.int .u8 0, .int .u8 0, .int .u8 0, .int .u8 0, .int .u8 0, .int .u8 0, .int .u8 0, .int .u8 0, .int .u8 0, .int .u8 0, .int .u8 0, .int .u8 0, .int .u8 0, .int .u8 0, .int .u8 0, .int .u8 0, .int .u8 0, .int .u8 0, .int .u8 0, .int .u8 0, .int .u8 0, .int .u8 0, .int .u8 0, .int .u8 0]) := by kernel_rfl
theorem opnApiValue {s : St} {cs : List Value} {x : ApiValue} (h : RC s cs (dApiValue x)) : ∃ v3 : Value, ∃ v4 : Value, cs = [.int .i64 x.Kind, .int .i64 x.Num, S x.Text, v3, v4] ∧ R s v3 ((dL 5 dApiValue) x.List_) ∧ R s v4 ((dL 1 dS) x.Keys) := by
  replace h : RC s cs (.agg [dI64 x.Kind, dI64 x.Num, dS x.Text, (dL 5 dApiValue) x.List_, (dL 1 dS) x.Keys]) := by have e := dsApiValue_eq x.List_; have h2 : RC s cs (.agg [dI64 x.Kind, dI64 x.Num, dS x.Text, .sl 5 (dsApiValue x.List_), (dL 1 dS) x.Keys]) := h; rw [e] at h2; exact h2
  obtain ⟨c1, r1, rfl, g1, e1⟩ := h.acons
  obtain rfl := g1.val_inv
  obtain ⟨c2, r2, rfl, g2, e2⟩ := e1.acons
  obtain rfl := g2.val_inv
  obtain ⟨c3, r3, rfl, g3, e3⟩ := e2.acons
  obtain rfl := g3.val_inv
  obtain ⟨c4, r4, rfl, g4, e4⟩ := e3.acons
  obtain ⟨v3, rfl, q3⟩ := g4.sl_inv
  obtain ⟨c5, r5, rfl, g5, e5⟩ := e4.acons
  obtain ⟨v4, rfl, q4⟩ := g5.sl_inv
  obtain rfl := e5.anil
  exact ⟨v3, v4, rfl, q3, q4⟩
theorem clsApiValue {s : St} (x : ApiValue) {v3 : Value} (q3 : R s v3 ((dL 5 dApiValue) x.List_)) {v4 : Value} (q4 : R s v4 ((dL 1 dS) x.Keys)) : RC s [.int .i64 x.Kind, .int .i64 x.Num, S x.Text, v3, v4] (dApiValue x) := by
  have e := dsApiValue_eq x.List_
  show RC s [.int .i64 x.Kind, .int .i64 x.Num, S x.Text, v3, v4] (.agg [dI64 x.Kind, dI64 x.Num, dS x.Text, .sl 5 (dsApiValue x.List_), (dL 1 dS) x.Keys])
  rw [e]
  exact (RC.mkc (RC.val _ rfl) (RC.mkc (RC.val _ rfl) (RC.mkc (RC.val _ rfl) (RC.mkc q3 (RC.mkc q4 RC.mkn)))))
theorem opnValueReader {s : St} {cs : List Value} {x : ValueReader} (h : RC s cs (dValueReader x)) : cs = [S x.rest, .bool x.ok] := by
  obtain ⟨c1, r1, rfl, g1, e1⟩ := h.acons
  obtain rfl := g1.val_inv
  obtain ⟨c2, r2, rfl, g2, e2⟩ := e1.acons
  obtain rfl := g2.val_inv
  obtain rfl := e2.anil
  exact rfl
theorem clsValueReader {s : St} (x : ValueReader) : RC s [S x.rest, .bool x.ok] (dValueReader x) := (RC.mkc (RC.val _ rfl) (RC.mkc (RC.val _ rfl) RC.mkn))
/-- An object in memory: ValueReader. -/
def OValueReader (s : St) (k : Nat) (p : Value) (x : ValueReader) : Prop := k ≠ 0 ∧ ∃ b, p = .pointer (some ⟨b, 0, none⟩) ∧ Blk s b ⟨k, 0⟩ [S x.rest, .bool x.ok] 41
theorem OValueReader.ptr {s : St} {k : Nat} {p : Value} {x : ValueReader} (h : OValueReader s k p x) : ∃ b, p = .pointer (some ⟨b, 0, none⟩) := by obtain ⟨_, b, e, _⟩ := h; exact ⟨b, e⟩
theorem OValueReader.at_ {s : St} {k b : Nat} {x : ValueReader} (h : OValueReader s k (.pointer (some ⟨b, 0, none⟩)) x) : Blk s b ⟨k, 0⟩ [S x.rest, .bool x.ok] 41 := by
  obtain ⟨_, b', e, h⟩ := h
  injection e with e; injection e with e; injection e with e
  subst e
  exact h
theorem OValueReader.mk_ {s : St} {k b : Nat} (x : ValueReader) (h0 : k ≠ 0)  (hb : Blk s b ⟨k, 0⟩ [S x.rest, .bool x.ok] 41) : OValueReader s k (.pointer (some ⟨b, 0, none⟩)) x := ⟨h0, b, rfl, hb⟩
theorem OValueReader.ne {s : St} {k : Nat} {p : Value} {x : ValueReader} (h : OValueReader s k p x) : k ≠ 0 := h.1
theorem OValueReader.le {s : St} {k : Nat} {p : Value} {x : ValueReader} (h : OValueReader s k p x) : k ≤ s.n := by
  obtain ⟨b, rfl⟩ := h.ptr
  obtain hb := h.at_
  exact hb.own_le
theorem OValueReader.up2 {K : Lab → Prop} {s s' : St} {k : Nat} {p : Value} {x : ValueReader} (h : OValueReader s k p x) (st : Step K s s') (hk : ∀ c, ¬ K ⟨k, c⟩ := by intro c; first | exact id | (simp only [KU, KN, KC, KO, K0, KB] <;> omega)) : OValueReader s' k p x := by
  obtain ⟨h0, b, e, h⟩ := h
  obtain hb := id h
  exact ⟨h0, b, e, hb.up st (hk 0)⟩
def OptOValueReader (s : St) (k : Nat) (p : Value) : Option ValueReader → Prop
  | none => p = .pointer none
  | some x => OValueReader s k p x
theorem OptOValueReader.le {s : St} {k : Nat} {p : Value} {x : Option ValueReader} (h : OptOValueReader s k p x) : x = none ∨ k ≤ s.n := by
  cases x with
  | none => exact .inl rfl
  | some x => have h : OValueReader s k p x := h; exact .inr h.le
theorem OptOValueReader.up2 {K : Lab → Prop} {s s' : St} {k : Nat} {p : Value} {x : Option ValueReader} (h : OptOValueReader s k p x) (st : Step K s s') (hk : k ≤ s.n → k ≠ 0 → ∀ c, ¬ K ⟨k, c⟩ := by intro _ _ c; first | exact id | (simp only [KU, KN, KC, KO, K0, KB] <;> omega)) : OptOValueReader s' k p x := by
  cases x with
  | none => exact h
  | some x => have h : OValueReader s k p x := h; exact OValueReader.up2 h st (hk h.le h.ne)
theorem OptOValueReader.up3 {K : Lab → Prop} {s s' : St} {k n0 : Nat} {p : Value} {x : Option ValueReader} (h : OptOValueReader s k p x) (ol : x = none ∨ k ≤ n0) (st : Step K s s') (hk : k ≤ n0 → k ≠ 0 → ∀ c, ¬ K ⟨k, c⟩ := by intro _ _ c; first | exact id | (simp only [KU, KN, KC, KO, K0, KB] <;> omega)) : OptOValueReader s' k p x := by
  cases x with
  | none => exact h
  | some x => have h : OValueReader s k p x := h; exact OValueReader.up2 h st (hk (ol.resolve_left (by simp)) h.ne)
end Go.Proofs
