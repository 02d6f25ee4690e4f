import Derived.Test.YtcagpghggohoiaaP02
set_option linter.unusedSimpArgs false
set_option linter.unusedVariables false
namespace Go.Proofs
open Go.Fw
theorem agg36 : aggT Try.prog 36 4 = true := by kernel_rfl
theorem cal14 : Callable Try.prog 14 := ⟨_, Try.func14, by kernel_rfl, by kernel_rfl⟩
theorem cal15 : Callable Try.prog 15 := ⟨_, Try.func15, by kernel_rfl, by kernel_rfl⟩
theorem cal16 : Callable Try.prog 16 := ⟨_, Try.func16, by kernel_rfl, by kernel_rfl⟩
theorem cal18 : Callable Try.prog 18 := ⟨_, Try.func18, by kernel_rfl, by kernel_rfl⟩
theorem cal19 : Callable Try.prog 19 := ⟨_, Try.func19, by kernel_rfl, by kernel_rfl⟩
theorem cal22 : Callable Try.prog 22 := ⟨_, Try.func22, by kernel_rfl, by kernel_rfl⟩
theorem cal24 : Callable Try.prog 24 := ⟨_, Try.func24, by kernel_rfl, by kernel_rfl⟩
theorem cal25 : Callable Try.prog 25 := ⟨_, Try.func25, by kernel_rfl, by kernel_rfl⟩
theorem cal28 : Callable Try.prog 28 := ⟨_, Try.func28, by kernel_rfl, by kernel_rfl⟩
theorem cal29 : Callable Try.prog 29 := ⟨_, Try.func29, by kernel_rfl, by kernel_rfl⟩
theorem cal37 : Callable Try.prog 37 := ⟨_, Try.func37, by kernel_rfl, by kernel_rfl⟩
theorem cal38 : Callable Try.prog 38 := ⟨_, Try.func38, by kernel_rfl, by kernel_rfl⟩
theorem cal39 : Callable Try.prog 39 := ⟨_, Try.func39, by kernel_rfl, by kernel_rfl⟩
theorem cal41 : Callable Try.prog 41 := ⟨_, Try.func41, by kernel_rfl, by kernel_rfl⟩
theorem cal42 : Callable Try.prog 42 := ⟨_, Try.func42, by kernel_rfl, by kernel_rfl⟩
theorem cal47 : Callable Try.prog 47 := ⟨_, Try.func47, by kernel_rfl, by kernel_rfl⟩
theorem cal48 : Callable Try.prog 48 := ⟨_, Try.func48, by kernel_rfl, by kernel_rfl⟩
theorem cal49 : Callable Try.prog 49 := ⟨_, Try.func49, by kernel_rfl, by kernel_rfl⟩
theorem cal50 : Callable Try.prog 50 := ⟨_, Try.func50, by kernel_rfl, by kernel_rfl⟩
theorem cal51 : Callable Try.prog 51 := ⟨_, Try.func51, by kernel_rfl, by kernel_rfl⟩
theorem cal52 : Callable Try.prog 52 := ⟨_, Try.func52, by kernel_rfl, by kernel_rfl⟩
theorem cal53 : Callable Try.prog 53 := ⟨_, Try.func53, by kernel_rfl, by kernel_rfl⟩
theorem cal58 : Callable Try.prog 58 := ⟨_, Try.func58, by kernel_rfl, by kernel_rfl⟩
theorem cal59 : Callable Try.prog 59 := ⟨_, Try.func59, by kernel_rfl, by kernel_rfl⟩
theorem fld36_0 : fieldT Try.prog 36 0 = some 0 := by kernel_rfl
theorem fld36_1 : fieldT Try.prog 36 1 = some 1 := by kernel_rfl
theorem fld36_2 : fieldT Try.prog 36 2 = some 2 := by kernel_rfl
theorem fld36_3 : fieldT Try.prog 36 3 = some 3 := by kernel_rfl
theorem fld49_0 : fieldT Try.prog 49 0 = some 0 := by kernel_rfl
theorem fld49_1 : fieldT Try.prog 49 1 = some 1 := by kernel_rfl
theorem plc49 : placesT Try.prog 49 [(0, 1), (1, 1)] := ⟨_, Try.underlying49, fun _ => by kernel_rfl⟩
theorem size36 : sizeT Try.prog 36 4 = true := by kernel_rfl
theorem zero36 : zeroT Try.prog 36 = some (.agg #[.int .i64 0, .int .i64 0, .int .u64 0, S []]) := by kernel_rfl
theorem zero49 : zeroT Try.prog 49 = some (.agg #[.slice none 0 0, .bool false]) := by kernel_rfl
theorem opnLaw02Item {s : St} {cs : List Value} {x : Law02Item} (h : RC s cs (dLaw02Item x)) : cs = [.int .i64 x.Kind, .int .i64 x.Most, .int .u64 (x.X.toNat : Int), S x.S] := by
  obtain ⟨c1, r1, rfl, g1, e1⟩ := h.acons
  obtain rfl := g1.val_inv
  obtain ⟨c2, r2, rfl, g2, e2⟩ := e1.acons
  obtain rfl := g2.val_inv
  obtain ⟨c3, r3, rfl, g3, e3⟩ := e2.acons
  obtain rfl := g3.val_inv
  obtain ⟨c4, r4, rfl, g4, e4⟩ := e3.acons
  obtain rfl := g4.val_inv
  obtain rfl := e4.anil
  exact rfl
theorem clsLaw02Item {s : St} (x : Law02Item) : RC s [.int .i64 x.Kind, .int .i64 x.Most, .int .u64 (x.X.toNat : Int), S x.S] (dLaw02Item x) := (RC.mkc (RC.val _ rfl) (RC.mkc (RC.val _ rfl) (RC.mkc (RC.val _ rfl) (RC.mkc (RC.val _ rfl) RC.mkn))))
theorem opnCodeReader {s : St} {cs : List Value} {x : CodeReader} (h : RC s cs (dCodeReader x)) : ∃ v0 : Value, cs = [v0, .int .i64 x.at_, .bool x.fault] ∧ R s v0 ((dL 1 bD) x.all_) := by
  obtain ⟨c1, r1, rfl, g1, e1⟩ := h.acons
  obtain ⟨v0, rfl, q0⟩ := g1.sl_inv
  obtain ⟨c2, r2, rfl, g2, e2⟩ := e1.acons
  obtain rfl := g2.val_inv
  obtain ⟨c3, r3, rfl, g3, e3⟩ := e2.acons
  obtain rfl := g3.val_inv
  obtain rfl := e3.anil
  exact ⟨v0, rfl, q0⟩
theorem clsCodeReader {s : St} (x : CodeReader) {v0 : Value} (q0 : R s v0 ((dL 1 bD) x.all_)) : RC s [v0, .int .i64 x.at_, .bool x.fault] (dCodeReader x) := (RC.mkc q0 (RC.mkc (RC.val _ rfl) (RC.mkc (RC.val _ rfl) RC.mkn)))
theorem opnRef02Reader {s : St} {cs : List Value} {x : Ref02Reader} (h : RC s cs (dRef02Reader x)) : ∃ v0 : Value, cs = [v0, .bool x.Bad] ∧ R s v0 ((dL 1 bD) x.B) := by
  obtain ⟨c1, r1, rfl, g1, e1⟩ := h.acons
  obtain ⟨v0, rfl, q0⟩ := g1.sl_inv
  obtain ⟨c2, r2, rfl, g2, e2⟩ := e1.acons
  obtain rfl := g2.val_inv
  obtain rfl := e2.anil
  exact ⟨v0, rfl, q0⟩
theorem clsRef02Reader {s : St} (x : Ref02Reader) {v0 : Value} (q0 : R s v0 ((dL 1 bD) x.B)) : RC s [v0, .bool x.Bad] (dRef02Reader x) := (RC.mkc q0 (RC.mkc (RC.val _ rfl) RC.mkn))
/-- An object in memory: Ref02Reader. -/
def ORef02Reader (s : St) (k : Nat) (p : Value) (x : Ref02Reader) : Prop := k ≠ 0 ∧ ∃ b, p = .pointer (some ⟨b, 0, none⟩) ∧ ∃ v0 : Value, Blk s b ⟨k, 0⟩ [v0, .bool x.Bad] 49 ∧ R s v0 ((dL 1 bD) x.B)
theorem ORef02Reader.ptr {s : St} {k : Nat} {p : Value} {x : Ref02Reader} (h : ORef02Reader s k p x) : ∃ b, p = .pointer (some ⟨b, 0, none⟩) := by obtain ⟨_, b, e, _⟩ := h; exact ⟨b, e⟩
theorem ORef02Reader.at_ {s : St} {k b : Nat} {x : Ref02Reader} (h : ORef02Reader s k (.pointer (some ⟨b, 0, none⟩)) x) : ∃ v0 : Value, Blk s b ⟨k, 0⟩ [v0, .bool x.Bad] 49 ∧ R s v0 ((dL 1 bD) x.B) := by
  obtain ⟨_, b', e, h⟩ := h
  injection e with e; injection e with e; injection e with e
  subst e
  exact h
theorem ORef02Reader.mk_ {s : St} {k b : Nat} (x : Ref02Reader) (h0 : k ≠ 0) {v0 : Value} (g0 : R s v0 ((dL 1 bD) x.B)) (hb : Blk s b ⟨k, 0⟩ [v0, .bool x.Bad] 49) : ORef02Reader s k (.pointer (some ⟨b, 0, none⟩)) x := ⟨h0, b, rfl, ⟨v0, hb, g0⟩⟩
theorem ORef02Reader.ne {s : St} {k : Nat} {p : Value} {x : Ref02Reader} (h : ORef02Reader s k p x) : k ≠ 0 := h.1
theorem ORef02Reader.le {s : St} {k : Nat} {p : Value} {x : Ref02Reader} (h : ORef02Reader s k p x) : k ≤ s.n := by
  obtain ⟨b, rfl⟩ := h.ptr
  obtain ⟨v0, hb, g0⟩ := h.at_
  exact hb.own_le
theorem ORef02Reader.up' {K : Lab → Prop} {s s' : St} {k : Nat} {p : Value} {x : Ref02Reader} (h : ORef02Reader s k p x) (st : Step K s s') (hk : ∀ c, ¬ K ⟨k, c⟩ := by intro c; first | exact id | (simp [KC, KO, KU] <;> omega)) : ORef02Reader s' k p x := by
  obtain ⟨h0, b, e, h⟩ := h
  obtain ⟨v0, hb, g0⟩ := h
  exact ⟨h0, b, e, ⟨v0, hb.up st (hk 0), g0.up st⟩⟩
def OptORef02Reader (s : St) (k : Nat) (p : Value) : Option Ref02Reader → Prop
  | none => p = .pointer none
  | some x => ORef02Reader s k p x
end Go.Proofs
