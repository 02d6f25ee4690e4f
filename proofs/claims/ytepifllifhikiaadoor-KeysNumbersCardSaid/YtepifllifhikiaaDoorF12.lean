import Derived.Test.YtepifllifhikiaaDoorP12
set_option linter.unusedSimpArgs false
set_option linter.unusedVariables false
namespace Go.Proofs
open Go.Fw
theorem agg47 : aggT Tryd.prog 47 4 = true := by kernel_rfl
theorem agg55 : aggT Tryd.prog 55 2 = true := by kernel_rfl
theorem agg67 : aggT Tryd.prog 67 2 = true := by kernel_rfl
theorem agg74 : aggT Tryd.prog 74 2 = true := by kernel_rfl
theorem arr80 : arrT Tryd.prog 80 5 10 1 := ⟨Tryd.underlying80, by kernel_rfl⟩
theorem cal10 : Callable Tryd.prog 10 := ⟨_, Tryd.func10, by kernel_rfl, by kernel_rfl⟩
theorem cal100 : Callable Tryd.prog 100 := ⟨_, Tryd.func100, by kernel_rfl, by kernel_rfl⟩
theorem cal11 : Callable Tryd.prog 11 := ⟨_, Tryd.func11, by kernel_rfl, by kernel_rfl⟩
theorem cal12 : Callable Tryd.prog 12 := ⟨_, Tryd.func12, by kernel_rfl, by kernel_rfl⟩
theorem cal14 : Callable Tryd.prog 14 := ⟨_, Tryd.func14, by kernel_rfl, by kernel_rfl⟩
theorem cal15 : Callable Tryd.prog 15 := ⟨_, Tryd.func15, by kernel_rfl, by kernel_rfl⟩
theorem cal16 : Callable Tryd.prog 16 := ⟨_, Tryd.func16, by kernel_rfl, by kernel_rfl⟩
theorem cal17 : Callable Tryd.prog 17 := ⟨_, Tryd.func17, by kernel_rfl, by kernel_rfl⟩
theorem cal18 : Callable Tryd.prog 18 := ⟨_, Tryd.func18, by kernel_rfl, by kernel_rfl⟩
theorem cal19 : Callable Tryd.prog 19 := ⟨_, Tryd.func19, by kernel_rfl, by kernel_rfl⟩
theorem cal20 : Callable Tryd.prog 20 := ⟨_, Tryd.func20, by kernel_rfl, by kernel_rfl⟩
theorem cal21 : Callable Tryd.prog 21 := ⟨_, Tryd.func21, by kernel_rfl, by kernel_rfl⟩
theorem cal22 : Callable Tryd.prog 22 := ⟨_, Tryd.func22, by kernel_rfl, by kernel_rfl⟩
theorem cal23 : Callable Tryd.prog 23 := ⟨_, Tryd.func23, by kernel_rfl, by kernel_rfl⟩
theorem cal24 : Callable Tryd.prog 24 := ⟨_, Tryd.func24, by kernel_rfl, by kernel_rfl⟩
theorem cal25 : Callable Tryd.prog 25 := ⟨_, Tryd.func25, by kernel_rfl, by kernel_rfl⟩
theorem cal26 : Callable Tryd.prog 26 := ⟨_, Tryd.func26, by kernel_rfl, by kernel_rfl⟩
theorem cal27 : Callable Tryd.prog 27 := ⟨_, Tryd.func27, by kernel_rfl, by kernel_rfl⟩
theorem cal28 : Callable Tryd.prog 28 := ⟨_, Tryd.func28, by kernel_rfl, by kernel_rfl⟩
theorem cal29 : Callable Tryd.prog 29 := ⟨_, Tryd.func29, by kernel_rfl, by kernel_rfl⟩
theorem cal30 : Callable Tryd.prog 30 := ⟨_, Tryd.func30, by kernel_rfl, by kernel_rfl⟩
theorem cal31 : Callable Tryd.prog 31 := ⟨_, Tryd.func31, by kernel_rfl, by kernel_rfl⟩
theorem cal32 : Callable Tryd.prog 32 := ⟨_, Tryd.func32, by kernel_rfl, by kernel_rfl⟩
theorem cal33 : Callable Tryd.prog 33 := ⟨_, Tryd.func33, by kernel_rfl, by kernel_rfl⟩
theorem cal34 : Callable Tryd.prog 34 := ⟨_, Tryd.func34, by kernel_rfl, by kernel_rfl⟩
theorem cal35 : Callable Tryd.prog 35 := ⟨_, Tryd.func35, by kernel_rfl, by kernel_rfl⟩
theorem cal36 : Callable Tryd.prog 36 := ⟨_, Tryd.func36, by kernel_rfl, by kernel_rfl⟩
theorem cal37 : Callable Tryd.prog 37 := ⟨_, Tryd.func37, by kernel_rfl, by kernel_rfl⟩
theorem cal38 : Callable Tryd.prog 38 := ⟨_, Tryd.func38, by kernel_rfl, by kernel_rfl⟩
theorem cal39 : Callable Tryd.prog 39 := ⟨_, Tryd.func39, by kernel_rfl, by kernel_rfl⟩
theorem cal40 : Callable Tryd.prog 40 := ⟨_, Tryd.func40, by kernel_rfl, by kernel_rfl⟩
theorem cal41 : Callable Tryd.prog 41 := ⟨_, Tryd.func41, by kernel_rfl, by kernel_rfl⟩
theorem cal42 : Callable Tryd.prog 42 := ⟨_, Tryd.func42, by kernel_rfl, by kernel_rfl⟩
theorem cal43 : Callable Tryd.prog 43 := ⟨_, Tryd.func43, by kernel_rfl, by kernel_rfl⟩
theorem cal44 : Callable Tryd.prog 44 := ⟨_, Tryd.func44, by kernel_rfl, by kernel_rfl⟩
theorem cal45 : Callable Tryd.prog 45 := ⟨_, Tryd.func45, by kernel_rfl, by kernel_rfl⟩
theorem cal46 : Callable Tryd.prog 46 := ⟨_, Tryd.func46, by kernel_rfl, by kernel_rfl⟩
theorem cal49 : Callable Tryd.prog 49 := ⟨_, Tryd.func49, by kernel_rfl, by kernel_rfl⟩
theorem cal50 : Callable Tryd.prog 50 := ⟨_, Tryd.func50, by kernel_rfl, by kernel_rfl⟩
theorem cal9 : Callable Tryd.prog 9 := ⟨_, Tryd.func9, by kernel_rfl, by kernel_rfl⟩
theorem cal97 : Callable Tryd.prog 97 := ⟨_, Tryd.func97, by kernel_rfl, by kernel_rfl⟩
theorem cal98 : Callable Tryd.prog 98 := ⟨_, Tryd.func98, by kernel_rfl, by kernel_rfl⟩
theorem cal99 : Callable Tryd.prog 99 := ⟨_, Tryd.func99, by kernel_rfl, by kernel_rfl⟩
theorem conc74 : Program.concrete Tryd.prog 74 = true := by kernel_rfl
theorem conc76 : Program.concrete Tryd.prog 76 = true := by kernel_rfl
theorem elem28 : elemT Tryd.prog 28 55 2 24 (.agg #[S [], .int .i64 0]) := elemT_of Tryd.underlying28 (by kernel_rfl) (by kernel_rfl) (by kernel_rfl) (by kernel_rfl) (by decide)
theorem elem53 : elemT Tryd.prog 53 9 1 16 (S []) := elemT_of Tryd.underlying53 (by kernel_rfl) (by kernel_rfl) (by kernel_rfl) (by kernel_rfl) (by decide)
theorem elem62 : elemT Tryd.prog 62 67 2 24 (.agg #[S [], .int .i64 0]) := elemT_of Tryd.underlying62 (by kernel_rfl) (by kernel_rfl) (by kernel_rfl) (by kernel_rfl) (by decide)
theorem elem70 : elemT Tryd.prog 70 74 2 32 (.agg #[.slice none 0 0, .int .i64 0]) := elemT_of Tryd.underlying70 (by kernel_rfl) (by kernel_rfl) (by kernel_rfl) (by kernel_rfl) (by decide)
theorem flat55 : ∀ (a0 b0 : ByteArray) (a1 b1 : Int), flatT Tryd.prog 55 [.string a0, .int .i64 a1] [.string b0, .int .i64 b1] := by
  intros
  refine ⟨by kernel_rfl, by kernel_rfl, by kernel_rfl, ?_⟩
  simp only [Program.fieldsOf, Tryd.underlying55]
  simp [alikeF, alikeV, Tryd.underlying9, Tryd.underlying3]
theorem fld47_0 : fieldT Tryd.prog 47 0 = some 0 := by kernel_rfl
theorem fld47_1 : fieldT Tryd.prog 47 1 = some 1 := by kernel_rfl
theorem fld47_2 : fieldT Tryd.prog 47 2 = some 2 := by kernel_rfl
theorem fld47_3 : fieldT Tryd.prog 47 3 = some 3 := by kernel_rfl
theorem fld55_0 : fieldT Tryd.prog 55 0 = some 0 := by kernel_rfl
theorem fld55_1 : fieldT Tryd.prog 55 1 = some 1 := by kernel_rfl
theorem fld64_0 : fieldT Tryd.prog 64 0 = some 0 := by kernel_rfl
theorem fld67_0 : fieldT Tryd.prog 67 0 = some 0 := by kernel_rfl
theorem fld67_1 : fieldT Tryd.prog 67 1 = some 1 := by kernel_rfl
theorem fld74_0 : fieldT Tryd.prog 74 0 = some 0 := by kernel_rfl
theorem fld74_1 : fieldT Tryd.prog 74 1 = some 1 := by kernel_rfl
theorem meth76_Pop : methT Tryd.prog 76 "Pop" 100 := fun _ _ => by kernel_rfl
theorem methv76_Len : methV Tryd.prog 76 "Len" 97 70 = true := by kernel_rfl
theorem methv76_Less : methV Tryd.prog 76 "Less" 98 70 = true := by kernel_rfl
theorem methv76_Swap : methV Tryd.prog 76 "Swap" 99 70 = true := by kernel_rfl
theorem mixed : Tryd.prog.follows .mixedOrders = true := by kernel_rfl
theorem one24 : oneT Tryd.prog 24 = true := by kernel_rfl
theorem one26 : oneT Tryd.prog 26 = true := by kernel_rfl
theorem one28 : oneT Tryd.prog 28 = true := by kernel_rfl
theorem one3 : oneT Tryd.prog 3 = true := by kernel_rfl
theorem one53 : oneT Tryd.prog 53 = true := by kernel_rfl
theorem one62 : oneT Tryd.prog 62 = true := by kernel_rfl
theorem one70 : oneT Tryd.prog 70 = true := by kernel_rfl
theorem one9 : oneT Tryd.prog 9 = true := by kernel_rfl
theorem plc55 : placesT Tryd.prog 55 [(0, 1), (1, 1)] := ⟨_, Tryd.underlying55, fun _ => by kernel_rfl⟩
theorem plc64 : placesT Tryd.prog 64 [(0, 1)] := ⟨_, Tryd.underlying64, fun _ => by kernel_rfl⟩
theorem plc67 : placesT Tryd.prog 67 [(0, 1), (1, 1)] := ⟨_, Tryd.underlying67, fun _ => by kernel_rfl⟩
theorem plc74 : placesT Tryd.prog 74 [(0, 1), (1, 1)] := ⟨_, Tryd.underlying74, fun _ => by kernel_rfl⟩
theorem size26 : sizeT Tryd.prog 26 1 = true := by kernel_rfl
theorem size28 : sizeT Tryd.prog 28 1 = true := by kernel_rfl
theorem size3 : sizeT Tryd.prog 3 1 = true := by kernel_rfl
theorem size47 : sizeT Tryd.prog 47 4 = true := by kernel_rfl
theorem size5 : sizeT Tryd.prog 5 1 = true := by kernel_rfl
theorem size53 : sizeT Tryd.prog 53 1 = true := by kernel_rfl
theorem size55 : sizeT Tryd.prog 55 2 = true := by kernel_rfl
theorem size62 : sizeT Tryd.prog 62 1 = true := by kernel_rfl
theorem size67 : sizeT Tryd.prog 67 2 = true := by kernel_rfl
theorem size70 : sizeT Tryd.prog 70 1 = true := by kernel_rfl
theorem size74 : sizeT Tryd.prog 74 2 = true := by kernel_rfl
theorem size9 : sizeT Tryd.prog 9 1 = true := by kernel_rfl
theorem slc24 : sliceT Tryd.prog 24 26 1 (.pointer none) := ⟨Tryd.underlying24, by kernel_rfl, by kernel_rfl, by kernel_rfl, by decide⟩
theorem slc28 : sliceT Tryd.prog 28 55 2 (.agg #[S [], .int .i64 0]) := ⟨Tryd.underlying28, by kernel_rfl, by kernel_rfl, by kernel_rfl, by decide⟩
theorem slc53 : sliceT Tryd.prog 53 9 1 (S []) := ⟨Tryd.underlying53, by kernel_rfl, by kernel_rfl, by kernel_rfl, by decide⟩
theorem slc62 : sliceT Tryd.prog 62 67 2 (.agg #[S [], .int .i64 0]) := ⟨Tryd.underlying62, by kernel_rfl, by kernel_rfl, by kernel_rfl, by decide⟩
theorem slc70 : sliceT Tryd.prog 70 74 2 (.agg #[.slice none 0 0, .int .i64 0]) := ⟨Tryd.underlying70, by kernel_rfl, by kernel_rfl, by kernel_rfl, by decide⟩
theorem zero28 : zeroT Tryd.prog 28 = some (.slice none 0 0) := by kernel_rfl
theorem zero53 : zeroT Tryd.prog 53 = some (.slice none 0 0) := by kernel_rfl
theorem zero55 : zeroT Tryd.prog 55 = some (.agg #[S [], .int .i64 0]) := by kernel_rfl
theorem zero64 : zeroT Tryd.prog 64 = some (.agg #[.slice none 0 0]) := by kernel_rfl
theorem zero67 : zeroT Tryd.prog 67 = some (.agg #[S [], .int .i64 0]) := by kernel_rfl
theorem zero70 : zeroT Tryd.prog 70 = some (.slice none 0 0) := by kernel_rfl
theorem zero74 : zeroT Tryd.prog 74 = some (.agg #[.slice none 0 0, .int .i64 0]) := by kernel_rfl
theorem zero80 : zeroT Tryd.prog 80 = some (.agg #[.int .u8 0, .int .u8 0, .int .u8 0, .int .u8 0, .int .u8 0, .int .u8 0, .int .u8 0, .int .u8 0, .int .u8 0, .int .u8 0]) := by kernel_rfl
theorem opnKeysEntryInt {s : St} {cs : List Value} {x : KeysEntryInt} (h : RC s cs (dKeysEntryInt x)) : cs = [S x.key_, .int .i64 x.v] := by
  obtain ⟨c1, r1, rfl, g1, e1⟩ := h.acons
  obtain rfl := g1.val_inv
  obtain ⟨c2, r2, rfl, g2, e2⟩ := e1.acons
  obtain rfl := g2.val_inv
  obtain rfl := e2.anil
  exact rfl
theorem clsKeysEntryInt {s : St} (x : KeysEntryInt) : RC s [S x.key_, .int .i64 x.v] (dKeysEntryInt x) := (RC.mkc (RC.val _ rfl) (RC.mkc (RC.val _ rfl) RC.mkn))
theorem opnKeysIndexInt {s : St} {cs : List Value} {x : KeysIndexInt} (h : RC s cs (dKeysIndexInt x)) : ∃ v0 : Value, cs = [v0] ∧ R s v0 ((dL 2 dKeysEntryInt) x.l) := by
  obtain ⟨c1, r1, rfl, g1, e1⟩ := h.acons
  obtain ⟨v0, rfl, q0⟩ := g1.sl_inv
  obtain rfl := e1.anil
  exact ⟨v0, rfl, q0⟩
theorem clsKeysIndexInt {s : St} (x : KeysIndexInt) {v0 : Value} (q0 : R s v0 ((dL 2 dKeysEntryInt) x.l)) : RC s [v0] (dKeysIndexInt x) := (RC.mkc q0 RC.mkn)
/-- An object in memory: KeysIndexInt. -/
def OKeysIndexInt (s : St) (k : Nat) (p : Value) (x : KeysIndexInt) : Prop := k ≠ 0 ∧ ∃ b, p = .pointer (some ⟨b, 0, none⟩) ∧ ∃ v0 : Value, Blk s b ⟨k, 0⟩ [v0] 64 ∧ Own s ⟨k, 2⟩ 67 2 v0 (x.l.map dKeysEntryInt)
theorem OKeysIndexInt.ptr {s : St} {k : Nat} {p : Value} {x : KeysIndexInt} (h : OKeysIndexInt s k p x) : ∃ b, p = .pointer (some ⟨b, 0, none⟩) := by obtain ⟨_, b, e, _⟩ := h; exact ⟨b, e⟩
theorem OKeysIndexInt.at_ {s : St} {k b : Nat} {x : KeysIndexInt} (h : OKeysIndexInt s k (.pointer (some ⟨b, 0, none⟩)) x) : ∃ v0 : Value, Blk s b ⟨k, 0⟩ [v0] 64 ∧ Own s ⟨k, 2⟩ 67 2 v0 (x.l.map dKeysEntryInt) := by
  obtain ⟨_, b', e, h⟩ := h
  injection e with e; injection e with e; injection e with e
  subst e
  exact h
theorem OKeysIndexInt.mk_ {s : St} {k b : Nat} (x : KeysIndexInt) (h0 : k ≠ 0) {v0 : Value} (g0 : Own s ⟨k, 2⟩ 67 2 v0 (x.l.map dKeysEntryInt)) (hb : Blk s b ⟨k, 0⟩ [v0] 64) : OKeysIndexInt s k (.pointer (some ⟨b, 0, none⟩)) x := ⟨h0, b, rfl, ⟨v0, hb, g0⟩⟩
theorem OKeysIndexInt.ne {s : St} {k : Nat} {p : Value} {x : KeysIndexInt} (h : OKeysIndexInt s k p x) : k ≠ 0 := h.1
theorem OKeysIndexInt.le {s : St} {k : Nat} {p : Value} {x : KeysIndexInt} (h : OKeysIndexInt s k p x) : k ≤ s.n := by
  obtain ⟨b, rfl⟩ := h.ptr
  obtain ⟨v0, hb, g0⟩ := h.at_
  exact hb.own_le
theorem OKeysIndexInt.up2 {K : Lab → Prop} {s s' : St} {k : Nat} {p : Value} {x : KeysIndexInt} (h : OKeysIndexInt s k p x) (st : Step K s s') (hk : ∀ c, ¬ K ⟨k, c⟩ := by intro c; first | exact id | (simp only [KU, KN, KC, KO, K0, KB] <;> omega)) : OKeysIndexInt s' k p x := by
  obtain ⟨h0, b, e, h⟩ := h
  obtain ⟨v0, hb, g0⟩ := h
  exact ⟨h0, b, e, ⟨v0, hb.up st (hk 0), g0.up st (hk 2)⟩⟩
def OptOKeysIndexInt (s : St) (k : Nat) (p : Value) : Option KeysIndexInt → Prop
  | none => p = .pointer none
  | some x => OKeysIndexInt s k p x
theorem OptOKeysIndexInt.le {s : St} {k : Nat} {p : Value} {x : Option KeysIndexInt} (h : OptOKeysIndexInt s k p x) : x = none ∨ k ≤ s.n := by
  cases x with
  | none => exact .inl rfl
  | some x => have h : OKeysIndexInt s k p x := h; exact .inr h.le
theorem OptOKeysIndexInt.up2 {K : Lab → Prop} {s s' : St} {k : Nat} {p : Value} {x : Option KeysIndexInt} (h : OptOKeysIndexInt s k p x) (st : Step K s s') (hk : k ≤ s.n → k ≠ 0 → ∀ c, ¬ K ⟨k, c⟩ := by intro _ _ c; first | exact id | (simp only [KU, KN, KC, KO, K0, KB] <;> omega)) : OptOKeysIndexInt s' k p x := by
  cases x with
  | none => exact h
  | some x => have h : OKeysIndexInt s k p x := h; exact OKeysIndexInt.up2 h st (hk h.le h.ne)
theorem OptOKeysIndexInt.up3 {K : Lab → Prop} {s s' : St} {k n0 : Nat} {p : Value} {x : Option KeysIndexInt} (h : OptOKeysIndexInt s k p x) (ol : x = none ∨ k ≤ n0) (st : Step K s s') (hk : k ≤ n0 → k ≠ 0 → ∀ c, ¬ K ⟨k, c⟩ := by intro _ _ c; first | exact id | (simp only [KU, KN, KC, KO, K0, KB] <;> omega)) : OptOKeysIndexInt s' k p x := by
  cases x with
  | none => exact h
  | some x => have h : OKeysIndexInt s k p x := h; exact OKeysIndexInt.up2 h st (hk (ol.resolve_left (by simp)) h.ne)
theorem opnLaw12Act {s : St} {cs : List Value} {x : Law12Act} (h : RC s cs (dLaw12Act x)) : cs = [.int .i64 x.Do, .int .i64 x.V, S x.Key, S x.To] := by
  obtain ⟨c1, r1, rfl, g1, e1⟩ := h.acons
  obtain rfl := g1.val_inv
  obtain ⟨c2, r2, rfl, g2, e2⟩ := e1.acons
  obtain rfl := g2.val_inv
  obtain ⟨c3, r3, rfl, g3, e3⟩ := e2.acons
  obtain rfl := g3.val_inv
  obtain ⟨c4, r4, rfl, g4, e4⟩ := e3.acons
  obtain rfl := g4.val_inv
  obtain rfl := e4.anil
  exact rfl
theorem clsLaw12Act {s : St} (x : Law12Act) : RC s [.int .i64 x.Do, .int .i64 x.V, S x.Key, S x.To] (dLaw12Act x) := (RC.mkc (RC.val _ rfl) (RC.mkc (RC.val _ rfl) (RC.mkc (RC.val _ rfl) (RC.mkc (RC.val _ rfl) RC.mkn))))
theorem opnRef12Entry {s : St} {cs : List Value} {x : Ref12Entry} (h : RC s cs (dRef12Entry x)) : cs = [S x.Key, .int .i64 x.V] := by
  obtain ⟨c1, r1, rfl, g1, e1⟩ := h.acons
  obtain rfl := g1.val_inv
  obtain ⟨c2, r2, rfl, g2, e2⟩ := e1.acons
  obtain rfl := g2.val_inv
  obtain rfl := e2.anil
  exact rfl
theorem clsRef12Entry {s : St} (x : Ref12Entry) : RC s [S x.Key, .int .i64 x.V] (dRef12Entry x) := (RC.mkc (RC.val _ rfl) (RC.mkc (RC.val _ rfl) RC.mkn))
theorem opnKeysFrontInt {s : St} {cs : List Value} {x : KeysFrontInt} (h : RC s cs (dKeysFrontInt x)) : ∃ v0 : Value, cs = [v0, .int .i64 x.at_] ∧ R s v0 ((dL 2 dKeysEntryInt) x.l) := by
  obtain ⟨c1, r1, rfl, g1, e1⟩ := h.acons
  obtain ⟨v0, rfl, q0⟩ := g1.sl_inv
  obtain ⟨c2, r2, rfl, g2, e2⟩ := e1.acons
  obtain rfl := g2.val_inv
  obtain rfl := e2.anil
  exact ⟨v0, rfl, q0⟩
theorem clsKeysFrontInt {s : St} (x : KeysFrontInt) {v0 : Value} (q0 : R s v0 ((dL 2 dKeysEntryInt) x.l)) : RC s [v0, .int .i64 x.at_] (dKeysFrontInt x) := (RC.mkc q0 (RC.mkc (RC.val _ rfl) RC.mkn))
/-- An object in memory: (List KeysFrontInt). -/
def OKeysFrontsInt (s : St) (k : Nat) (p : Value) (x : (List KeysFrontInt)) : Prop := k ≠ 0 ∧ ∃ b, p = .pointer (some ⟨b, 0, none⟩) ∧ ∃ v0 : Value, Blk s b ⟨k, 0⟩ [v0] 70 ∧ Own s ⟨k, 2⟩ 74 2 v0 (x.map dKeysFrontInt)
theorem OKeysFrontsInt.ptr {s : St} {k : Nat} {p : Value} {x : (List KeysFrontInt)} (h : OKeysFrontsInt s k p x) : ∃ b, p = .pointer (some ⟨b, 0, none⟩) := by obtain ⟨_, b, e, _⟩ := h; exact ⟨b, e⟩
theorem OKeysFrontsInt.at_ {s : St} {k b : Nat} {x : (List KeysFrontInt)} (h : OKeysFrontsInt s k (.pointer (some ⟨b, 0, none⟩)) x) : ∃ v0 : Value, Blk s b ⟨k, 0⟩ [v0] 70 ∧ Own s ⟨k, 2⟩ 74 2 v0 (x.map dKeysFrontInt) := by
  obtain ⟨_, b', e, h⟩ := h
  injection e with e; injection e with e; injection e with e
  subst e
  exact h
theorem OKeysFrontsInt.mk_ {s : St} {k b : Nat} (x : (List KeysFrontInt)) (h0 : k ≠ 0) {v0 : Value} (g0 : Own s ⟨k, 2⟩ 74 2 v0 (x.map dKeysFrontInt)) (hb : Blk s b ⟨k, 0⟩ [v0] 70) : OKeysFrontsInt s k (.pointer (some ⟨b, 0, none⟩)) x := ⟨h0, b, rfl, ⟨v0, hb, g0⟩⟩
theorem OKeysFrontsInt.ne {s : St} {k : Nat} {p : Value} {x : (List KeysFrontInt)} (h : OKeysFrontsInt s k p x) : k ≠ 0 := h.1
theorem OKeysFrontsInt.le {s : St} {k : Nat} {p : Value} {x : (List KeysFrontInt)} (h : OKeysFrontsInt s k p x) : k ≤ s.n := by
  obtain ⟨b, rfl⟩ := h.ptr
  obtain ⟨v0, hb, g0⟩ := h.at_
  exact hb.own_le
theorem OKeysFrontsInt.up2 {K : Lab → Prop} {s s' : St} {k : Nat} {p : Value} {x : (List KeysFrontInt)} (h : OKeysFrontsInt s k p x) (st : Step K s s') (hk : ∀ c, ¬ K ⟨k, c⟩ := by intro c; first | exact id | (simp only [KU, KN, KC, KO, K0, KB] <;> omega)) : OKeysFrontsInt s' k p x := by
  obtain ⟨h0, b, e, h⟩ := h
  obtain ⟨v0, hb, g0⟩ := h
  exact ⟨h0, b, e, ⟨v0, hb.up st (hk 0), g0.up st (hk 2)⟩⟩
def OptOKeysFrontsInt (s : St) (k : Nat) (p : Value) : Option (List KeysFrontInt) → Prop
  | none => p = .pointer none
  | some x => OKeysFrontsInt s k p x
theorem OptOKeysFrontsInt.le {s : St} {k : Nat} {p : Value} {x : Option (List KeysFrontInt)} (h : OptOKeysFrontsInt s k p x) : x = none ∨ k ≤ s.n := by
  cases x with
  | none => exact .inl rfl
  | some x => have h : OKeysFrontsInt s k p x := h; exact .inr h.le
theorem OptOKeysFrontsInt.up2 {K : Lab → Prop} {s s' : St} {k : Nat} {p : Value} {x : Option (List KeysFrontInt)} (h : OptOKeysFrontsInt s k p x) (st : Step K s s') (hk : k ≤ s.n → k ≠ 0 → ∀ c, ¬ K ⟨k, c⟩ := by intro _ _ c; first | exact id | (simp only [KU, KN, KC, KO, K0, KB] <;> omega)) : OptOKeysFrontsInt s' k p x := by
  cases x with
  | none => exact h
  | some x => have h : OKeysFrontsInt s k p x := h; exact OKeysFrontsInt.up2 h st (hk h.le h.ne)
theorem OptOKeysFrontsInt.up3 {K : Lab → Prop} {s s' : St} {k n0 : Nat} {p : Value} {x : Option (List KeysFrontInt)} (h : OptOKeysFrontsInt s k p x) (ol : x = none ∨ k ≤ n0) (st : Step K s s') (hk : k ≤ n0 → k ≠ 0 → ∀ c, ¬ K ⟨k, c⟩ := by intro _ _ c; first | exact id | (simp only [KU, KN, KC, KO, K0, KB] <;> omega)) : OptOKeysFrontsInt s' k p x := by
  cases x with
  | none => exact h
  | some x => have h : OKeysFrontsInt s k p x := h; exact OKeysFrontsInt.up2 h st (hk (ol.resolve_left (by simp)) h.ne)
theorem St20.as_v9_some {e : St20} {x : (List UInt8)} (h : e.as_v9 = some x) : e = .v9 x := by cases e <;> simp [St20.as_v9] at h ⊢ <;> exact h
theorem St20.as_v9_none {s : St} {v : Value} {e : St20} (h : e.as_v9 = none) (hr : R s v (dSt20 e)) : ∃ tu u, v = .iface tu u ∧ Nat.beq tu 9 = false := by
  cases e <;> first | (simp [St20.as_v9] at h; done) | (obtain ⟨u, rfl, _⟩ := R.ifc_inv hr; exact ⟨_, u, rfl, by decide⟩)
theorem St20.as_front_int_some {e : St20} {x : KeysFrontInt} (h : e.as_front_int = some x) : e = .front_int x := by cases e <;> simp [St20.as_front_int] at h ⊢ <;> exact h
theorem St20.as_front_int_none {s : St} {v : Value} {e : St20} (h : e.as_front_int = none) (hr : R s v (dSt20 e)) : ∃ tu u, v = .iface tu u ∧ Nat.beq tu 74 = false := by
  cases e <;> first | (simp [St20.as_front_int] at h; done) | (obtain ⟨u, rfl, _⟩ := R.ifc_inv hr; exact ⟨_, u, rfl, by decide⟩)
theorem dSt20_wd (e : St20) : (dSt20 e).wd = 1 := by cases e <;> rfl
theorem dSt20_na (e : St20) : (dSt20 e).isAgg = false := by cases e <;> rfl
end Go.Proofs
