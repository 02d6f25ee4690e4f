import Derived.Test.YtecbmbcdinkccaaGreatDoorP01Z
set_option linter.unusedSimpArgs false
set_option linter.unusedVariables false
namespace Go.Proofs
open Go.Fw
theorem agg25 : aggT Tryz.prog 25 5 = true := by kernel_rfl
theorem arr122 : arrT Tryz.prog 122 5 24 1 := ⟨Tryz.underlying122, by kernel_rfl⟩
theorem arr77 : arrT Tryz.prog 77 9 7 1 := ⟨Tryz.underlying77, by kernel_rfl⟩
theorem cal10 : Callable Tryz.prog 10 := ⟨_, Tryz.func10, by kernel_rfl, by kernel_rfl⟩
theorem cal11 : Callable Tryz.prog 11 := ⟨_, Tryz.func11, by kernel_rfl, by kernel_rfl⟩
theorem cal110 : Callable Tryz.prog 110 := ⟨_, Tryz.func110, by kernel_rfl, by kernel_rfl⟩
theorem cal111 : Callable Tryz.prog 111 := ⟨_, Tryz.func111, by kernel_rfl, by kernel_rfl⟩
theorem cal112 : Callable Tryz.prog 112 := ⟨_, Tryz.func112, by kernel_rfl, by kernel_rfl⟩
theorem cal113 : Callable Tryz.prog 113 := ⟨_, Tryz.func113, by kernel_rfl, by kernel_rfl⟩
theorem cal12 : Callable Tryz.prog 12 := ⟨_, Tryz.func12, by kernel_rfl, by kernel_rfl⟩
theorem cal13 : Callable Tryz.prog 13 := ⟨_, Tryz.func13, by kernel_rfl, by kernel_rfl⟩
theorem cal15 : Callable Tryz.prog 15 := ⟨_, Tryz.func15, by kernel_rfl, by kernel_rfl⟩
theorem cal22 : Callable Tryz.prog 22 := ⟨_, Tryz.func22, by kernel_rfl, by kernel_rfl⟩
theorem cal23 : Callable Tryz.prog 23 := ⟨_, Tryz.func23, by kernel_rfl, by kernel_rfl⟩
theorem cal24 : Callable Tryz.prog 24 := ⟨_, Tryz.func24, by kernel_rfl, by kernel_rfl⟩
theorem cal25 : Callable Tryz.prog 25 := ⟨_, Tryz.func25, by kernel_rfl, by kernel_rfl⟩
theorem cal26 : Callable Tryz.prog 26 := ⟨_, Tryz.func26, by kernel_rfl, by kernel_rfl⟩
theorem cal27 : Callable Tryz.prog 27 := ⟨_, Tryz.func27, by kernel_rfl, by kernel_rfl⟩
theorem cal28 : Callable Tryz.prog 28 := ⟨_, Tryz.func28, by kernel_rfl, by kernel_rfl⟩
theorem cal29 : Callable Tryz.prog 29 := ⟨_, Tryz.func29, by kernel_rfl, by kernel_rfl⟩
theorem cal30 : Callable Tryz.prog 30 := ⟨_, Tryz.func30, by kernel_rfl, by kernel_rfl⟩
theorem cal31 : Callable Tryz.prog 31 := ⟨_, Tryz.func31, by kernel_rfl, by kernel_rfl⟩
theorem cal32 : Callable Tryz.prog 32 := ⟨_, Tryz.func32, by kernel_rfl, by kernel_rfl⟩
theorem cal33 : Callable Tryz.prog 33 := ⟨_, Tryz.func33, by kernel_rfl, by kernel_rfl⟩
theorem cal34 : Callable Tryz.prog 34 := ⟨_, Tryz.func34, by kernel_rfl, by kernel_rfl⟩
theorem cal35 : Callable Tryz.prog 35 := ⟨_, Tryz.func35, by kernel_rfl, by kernel_rfl⟩
theorem cal36 : Callable Tryz.prog 36 := ⟨_, Tryz.func36, by kernel_rfl, by kernel_rfl⟩
theorem cal37 : Callable Tryz.prog 37 := ⟨_, Tryz.func37, by kernel_rfl, by kernel_rfl⟩
theorem cal38 : Callable Tryz.prog 38 := ⟨_, Tryz.func38, by kernel_rfl, by kernel_rfl⟩
theorem cal39 : Callable Tryz.prog 39 := ⟨_, Tryz.func39, by kernel_rfl, by kernel_rfl⟩
theorem cal40 : Callable Tryz.prog 40 := ⟨_, Tryz.func40, by kernel_rfl, by kernel_rfl⟩
theorem cal41 : Callable Tryz.prog 41 := ⟨_, Tryz.func41, by kernel_rfl, by kernel_rfl⟩
theorem cal42 : Callable Tryz.prog 42 := ⟨_, Tryz.func42, by kernel_rfl, by kernel_rfl⟩
theorem cal46 : Callable Tryz.prog 46 := ⟨_, Tryz.func46, by kernel_rfl, by kernel_rfl⟩
theorem cal47 : Callable Tryz.prog 47 := ⟨_, Tryz.func47, by kernel_rfl, by kernel_rfl⟩
theorem cal48 : Callable Tryz.prog 48 := ⟨_, Tryz.func48, by kernel_rfl, by kernel_rfl⟩
theorem cal49 : Callable Tryz.prog 49 := ⟨_, Tryz.func49, by kernel_rfl, by kernel_rfl⟩
theorem cal50 : Callable Tryz.prog 50 := ⟨_, Tryz.func50, by kernel_rfl, by kernel_rfl⟩
theorem cal51 : Callable Tryz.prog 51 := ⟨_, Tryz.func51, by kernel_rfl, by kernel_rfl⟩
theorem cal52 : Callable Tryz.prog 52 := ⟨_, Tryz.func52, by kernel_rfl, by kernel_rfl⟩
theorem cal53 : Callable Tryz.prog 53 := ⟨_, Tryz.func53, by kernel_rfl, by kernel_rfl⟩
theorem cal54 : Callable Tryz.prog 54 := ⟨_, Tryz.func54, by kernel_rfl, by kernel_rfl⟩
theorem cal55 : Callable Tryz.prog 55 := ⟨_, Tryz.func55, by kernel_rfl, by kernel_rfl⟩
theorem cal56 : Callable Tryz.prog 56 := ⟨_, Tryz.func56, by kernel_rfl, by kernel_rfl⟩
theorem cal57 : Callable Tryz.prog 57 := ⟨_, Tryz.func57, by kernel_rfl, by kernel_rfl⟩
theorem cal58 : Callable Tryz.prog 58 := ⟨_, Tryz.func58, by kernel_rfl, by kernel_rfl⟩
theorem cal59 : Callable Tryz.prog 59 := ⟨_, Tryz.func59, by kernel_rfl, by kernel_rfl⟩
theorem cal60 : Callable Tryz.prog 60 := ⟨_, Tryz.func60, by kernel_rfl, by kernel_rfl⟩
theorem cal61 : Callable Tryz.prog 61 := ⟨_, Tryz.func61, by kernel_rfl, by kernel_rfl⟩
theorem cal62 : Callable Tryz.prog 62 := ⟨_, Tryz.func62, by kernel_rfl, by kernel_rfl⟩
theorem cal63 : Callable Tryz.prog 63 := ⟨_, Tryz.func63, by kernel_rfl, by kernel_rfl⟩
theorem cal7 : Callable Tryz.prog 7 := ⟨_, Tryz.func7, by kernel_rfl, by kernel_rfl⟩
theorem cal70 : Callable Tryz.prog 70 := ⟨_, Tryz.func70, by kernel_rfl, by kernel_rfl⟩
theorem cal71 : Callable Tryz.prog 71 := ⟨_, Tryz.func71, by kernel_rfl, by kernel_rfl⟩
theorem cal72 : Callable Tryz.prog 72 := ⟨_, Tryz.func72, by kernel_rfl, by kernel_rfl⟩
theorem cal73 : Callable Tryz.prog 73 := ⟨_, Tryz.func73, by kernel_rfl, by kernel_rfl⟩
theorem cal74 : Callable Tryz.prog 74 := ⟨_, Tryz.func74, by kernel_rfl, by kernel_rfl⟩
theorem cal75 : Callable Tryz.prog 75 := ⟨_, Tryz.func75, by kernel_rfl, by kernel_rfl⟩
theorem cal76 : Callable Tryz.prog 76 := ⟨_, Tryz.func76, by kernel_rfl, by kernel_rfl⟩
theorem cal77 : Callable Tryz.prog 77 := ⟨_, Tryz.func77, by kernel_rfl, by kernel_rfl⟩
theorem cal78 : Callable Tryz.prog 78 := ⟨_, Tryz.func78, by kernel_rfl, by kernel_rfl⟩
theorem cal79 : Callable Tryz.prog 79 := ⟨_, Tryz.func79, by kernel_rfl, by kernel_rfl⟩
theorem cal8 : Callable Tryz.prog 8 := ⟨_, Tryz.func8, by kernel_rfl, by kernel_rfl⟩
theorem cal80 : Callable Tryz.prog 80 := ⟨_, Tryz.func80, by kernel_rfl, by kernel_rfl⟩
theorem cal86 : Callable Tryz.prog 86 := ⟨_, Tryz.func86, by kernel_rfl, by kernel_rfl⟩
theorem cal87 : Callable Tryz.prog 87 := ⟨_, Tryz.func87, by kernel_rfl, by kernel_rfl⟩
theorem cal88 : Callable Tryz.prog 88 := ⟨_, Tryz.func88, by kernel_rfl, by kernel_rfl⟩
theorem cal89 : Callable Tryz.prog 89 := ⟨_, Tryz.func89, by kernel_rfl, by kernel_rfl⟩
theorem cal9 : Callable Tryz.prog 9 := ⟨_, Tryz.func9, by kernel_rfl, by kernel_rfl⟩
theorem cal91 : Callable Tryz.prog 91 := ⟨_, Tryz.func91, by kernel_rfl, by kernel_rfl⟩
theorem elem22 : elemT Tryz.prog 22 25 5 80 (.agg #[.int .i64 0, .int .i64 0, S [], .slice none 0 0, .slice none 0 0]) := elemT_of Tryz.underlying22 (by kernel_rfl) (by kernel_rfl) (by kernel_rfl) (by kernel_rfl) (by decide)
theorem elem23 : elemT Tryz.prog 23 9 1 16 (S []) := elemT_of Tryz.underlying23 (by kernel_rfl) (by kernel_rfl) (by kernel_rfl) (by kernel_rfl) (by decide)
theorem elem54 : elemT Tryz.prog 54 5 1 1 (.int .u8 0) := elemT_of Tryz.underlying54 (by kernel_rfl) (by kernel_rfl) (by kernel_rfl) (by kernel_rfl) (by decide)
theorem fld25_0 : fieldT Tryz.prog 25 0 = some 0 := by kernel_rfl
theorem fld25_1 : fieldT Tryz.prog 25 1 = some 1 := by kernel_rfl
theorem fld25_2 : fieldT Tryz.prog 25 2 = some 2 := by kernel_rfl
theorem fld25_3 : fieldT Tryz.prog 25 3 = some 3 := by kernel_rfl
theorem fld25_4 : fieldT Tryz.prog 25 4 = some 4 := by kernel_rfl
theorem fld68_0 : fieldT Tryz.prog 68 0 = some 0 := by kernel_rfl
theorem fld68_1 : fieldT Tryz.prog 68 1 = some 1 := by kernel_rfl
theorem ifcT81 : ifcT Tryz.prog 81 := by unfold ifcT; kernel_rfl
theorem mixed : Tryz.prog.follows .mixedOrders = true := by kernel_rfl
theorem one2 : oneT Tryz.prog 2 = true := by kernel_rfl
theorem one22 : oneT Tryz.prog 22 = true := by kernel_rfl
theorem one23 : oneT Tryz.prog 23 = true := by kernel_rfl
theorem one3 : oneT Tryz.prog 3 = true := by kernel_rfl
theorem one32 : oneT Tryz.prog 32 = true := by kernel_rfl
theorem one4 : oneT Tryz.prog 4 = true := by kernel_rfl
theorem one9 : oneT Tryz.prog 9 = true := by kernel_rfl
theorem plc25 : placesT Tryz.prog 25 [(0, 1), (1, 1), (2, 1), (3, 1), (4, 1)] := ⟨_, Tryz.underlying25, fun _ => by kernel_rfl⟩
theorem plc68 : placesT Tryz.prog 68 [(0, 1), (1, 1)] := ⟨_, Tryz.underlying68, fun _ => by kernel_rfl⟩
theorem size2 : sizeT Tryz.prog 2 1 = true := by kernel_rfl
theorem size22 : sizeT Tryz.prog 22 1 = true := by kernel_rfl
theorem size23 : sizeT Tryz.prog 23 1 = true := by kernel_rfl
theorem size25 : sizeT Tryz.prog 25 5 = true := by kernel_rfl
theorem size3 : sizeT Tryz.prog 3 1 = true := by kernel_rfl
theorem size32 : sizeT Tryz.prog 32 1 = true := by kernel_rfl
theorem size4 : sizeT Tryz.prog 4 1 = true := by kernel_rfl
theorem size9 : sizeT Tryz.prog 9 1 = true := by kernel_rfl
theorem slc22 : sliceT Tryz.prog 22 25 5 (.agg #[.int .i64 0, .int .i64 0, S [], .slice none 0 0, .slice none 0 0]) := ⟨Tryz.underlying22, by kernel_rfl, by kernel_rfl, by kernel_rfl, by decide⟩
theorem slc23 : sliceT Tryz.prog 23 9 1 (S []) := ⟨Tryz.underlying23, by kernel_rfl, by kernel_rfl, by kernel_rfl, by decide⟩
theorem slc54 : sliceT Tryz.prog 54 5 1 (.int .u8 0) := ⟨Tryz.underlying54, by kernel_rfl, by kernel_rfl, by kernel_rfl, by decide⟩
theorem slc70 : sliceT Tryz.prog 70 3 1 (.int .i64 0) := ⟨Tryz.underlying70, by kernel_rfl, by kernel_rfl, by kernel_rfl, by decide⟩
theorem zero122 : zeroT Tryz.prog 122 = some (.agg #[.int .u8 0, .int .u8 0, .int .u8 0, .int .u8 0, .int .u8 0, .int .u8 0, .int .u8 0, .int .u8 0, .int .u8 0, .int .u8 0, .int .u8 0, .int .u8 0, .int .u8 0, .int .u8 0, .int .u8 0, .int .u8 0, .int .u8 0, .int .u8 0, .int .u8 0, .int .u8 0, .int .u8 0, .int .u8 0, .int .u8 0, .int .u8 0]) := by kernel_rfl
theorem zero25 : zeroT Tryz.prog 25 = some (.agg #[.int .i64 0, .int .i64 0, S [], .slice none 0 0, .slice none 0 0]) := by kernel_rfl
theorem zero32 : zeroT Tryz.prog 32 = some (.int .i64 0) := by kernel_rfl
theorem zero68 : zeroT Tryz.prog 68 = some (.agg #[S [], .bool false]) := by kernel_rfl
theorem zero77 : zeroT Tryz.prog 77 = some (.agg #[S [], S [], S [], S [], S [], S [], S []]) := by kernel_rfl
theorem opnApiValue {s : St} {cs : List Value} {x : ApiValue} (h : RC s cs (dApiValue x)) : ∃ v3 : Value, ∃ v4 : Value, cs = [.int .i64 x.Kind, .int .i64 x.Num, S x.Text, v3, v4] ∧ R s v3 ((dL 5 dApiValue) x.List_) ∧ R s v4 ((dL 1 dS) x.Keys) := by
  replace h : RC s cs (.agg [dI64 x.Kind, dI64 x.Num, dS x.Text, (dL 5 dApiValue) x.List_, (dL 1 dS) x.Keys]) := by have e := dsApiValue_eq x.List_; have h2 : RC s cs (.agg [dI64 x.Kind, dI64 x.Num, dS x.Text, .sl 5 (dsApiValue x.List_), (dL 1 dS) x.Keys]) := h; rw [e] at h2; exact h2
  obtain ⟨c1, r1, rfl, g1, e1⟩ := h.acons
  obtain rfl := g1.val_inv
  obtain ⟨c2, r2, rfl, g2, e2⟩ := e1.acons
  obtain rfl := g2.val_inv
  obtain ⟨c3, r3, rfl, g3, e3⟩ := e2.acons
  obtain rfl := g3.val_inv
  obtain ⟨c4, r4, rfl, g4, e4⟩ := e3.acons
  obtain ⟨v3, rfl, q3⟩ := g4.sl_inv
  obtain ⟨c5, r5, rfl, g5, e5⟩ := e4.acons
  obtain ⟨v4, rfl, q4⟩ := g5.sl_inv
  obtain rfl := e5.anil
  exact ⟨v3, v4, rfl, q3, q4⟩
theorem clsApiValue {s : St} (x : ApiValue) {v3 : Value} (q3 : R s v3 ((dL 5 dApiValue) x.List_)) {v4 : Value} (q4 : R s v4 ((dL 1 dS) x.Keys)) : RC s [.int .i64 x.Kind, .int .i64 x.Num, S x.Text, v3, v4] (dApiValue x) := by
  have e := dsApiValue_eq x.List_
  show RC s [.int .i64 x.Kind, .int .i64 x.Num, S x.Text, v3, v4] (.agg [dI64 x.Kind, dI64 x.Num, dS x.Text, .sl 5 (dsApiValue x.List_), (dL 1 dS) x.Keys])
  rw [e]
  exact (RC.mkc (RC.val _ rfl) (RC.mkc (RC.val _ rfl) (RC.mkc (RC.val _ rfl) (RC.mkc q3 (RC.mkc q4 RC.mkn)))))
theorem opnValueReader {s : St} {cs : List Value} {x : ValueReader} (h : RC s cs (dValueReader x)) : cs = [S x.rest, .bool x.ok] := by
  obtain ⟨c1, r1, rfl, g1, e1⟩ := h.acons
  obtain rfl := g1.val_inv
  obtain ⟨c2, r2, rfl, g2, e2⟩ := e1.acons
  obtain rfl := g2.val_inv
  obtain rfl := e2.anil
  exact rfl
theorem clsValueReader {s : St} (x : ValueReader) : RC s [S x.rest, .bool x.ok] (dValueReader x) := (RC.mkc (RC.val _ rfl) (RC.mkc (RC.val _ rfl) RC.mkn))
/-- An object in memory: ValueReader. -/
def OValueReader (s : St) (k : Nat) (p : Value) (x : ValueReader) : Prop := k ≠ 0 ∧ ∃ b, p = .pointer (some ⟨b, 0, none⟩) ∧ Blk s b ⟨k, 0⟩ [S x.rest, .bool x.ok] 68
theorem OValueReader.ptr {s : St} {k : Nat} {p : Value} {x : ValueReader} (h : OValueReader s k p x) : ∃ b, p = .pointer (some ⟨b, 0, none⟩) := by obtain ⟨_, b, e, _⟩ := h; exact ⟨b, e⟩
theorem OValueReader.at_ {s : St} {k b : Nat} {x : ValueReader} (h : OValueReader s k (.pointer (some ⟨b, 0, none⟩)) x) : Blk s b ⟨k, 0⟩ [S x.rest, .bool x.ok] 68 := by
  obtain ⟨_, b', e, h⟩ := h
  injection e with e; injection e with e; injection e with e
  subst e
  exact h
theorem OValueReader.mk_ {s : St} {k b : Nat} (x : ValueReader) (h0 : k ≠ 0)  (hb : Blk s b ⟨k, 0⟩ [S x.rest, .bool x.ok] 68) : OValueReader s k (.pointer (some ⟨b, 0, none⟩)) x := ⟨h0, b, rfl, hb⟩
theorem OValueReader.ne {s : St} {k : Nat} {p : Value} {x : ValueReader} (h : OValueReader s k p x) : k ≠ 0 := h.1
theorem OValueReader.le {s : St} {k : Nat} {p : Value} {x : ValueReader} (h : OValueReader s k p x) : k ≤ s.n := by
  obtain ⟨b, rfl⟩ := h.ptr
  obtain hb := h.at_
  exact hb.own_le
theorem OValueReader.up2 {K : Lab → Prop} {s s' : St} {k : Nat} {p : Value} {x : ValueReader} (h : OValueReader s k p x) (st : Step K s s') (hk : ∀ c, ¬ K ⟨k, c⟩ := by intro c; first | exact id | (simp only [KU, KN, KC, KO, K0, KB] <;> omega)) : OValueReader s' k p x := by
  obtain ⟨h0, b, e, h⟩ := h
  obtain hb := id h
  exact ⟨h0, b, e, hb.up st (hk 0)⟩
def OptOValueReader (s : St) (k : Nat) (p : Value) : Option ValueReader → Prop
  | none => p = .pointer none
  | some x => OValueReader s k p x
theorem OptOValueReader.le {s : St} {k : Nat} {p : Value} {x : Option ValueReader} (h : OptOValueReader s k p x) : x = none ∨ k ≤ s.n := by
  cases x with
  | none => exact .inl rfl
  | some x => have h : OValueReader s k p x := h; exact .inr h.le
theorem OptOValueReader.up2 {K : Lab → Prop} {s s' : St} {k : Nat} {p : Value} {x : Option ValueReader} (h : OptOValueReader s k p x) (st : Step K s s') (hk : k ≤ s.n → k ≠ 0 → ∀ c, ¬ K ⟨k, c⟩ := by intro _ _ c; first | exact id | (simp only [KU, KN, KC, KO, K0, KB] <;> omega)) : OptOValueReader s' k p x := by
  cases x with
  | none => exact h
  | some x => have h : OValueReader s k p x := h; exact OValueReader.up2 h st (hk h.le h.ne)
theorem OptOValueReader.up3 {K : Lab → Prop} {s s' : St} {k n0 : Nat} {p : Value} {x : Option ValueReader} (h : OptOValueReader s k p x) (ol : x = none ∨ k ≤ n0) (st : Step K s s') (hk : k ≤ n0 → k ≠ 0 → ∀ c, ¬ K ⟨k, c⟩ := by intro _ _ c; first | exact id | (simp only [KU, KN, KC, KO, K0, KB] <;> omega)) : OptOValueReader s' k p x := by
  cases x with
  | none => exact h
  | some x => have h : OValueReader s k p x := h; exact OValueReader.up2 h st (hk (ol.resolve_left (by simp)) h.ne)
end Go.Proofs
