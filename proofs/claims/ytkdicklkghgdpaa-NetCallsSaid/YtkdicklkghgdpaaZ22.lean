import Derived.Test.YtkdicklkghgdpaaFwSort
import Derived.Shelf.SlMaps.Clone
import Derived.Test.YtkdicklkghgdpaaShelf
set_option linter.unusedSimpArgs false
set_option linter.unusedVariables false
namespace Go.Proofs
open Go.Fw
structure ApiMessage where
  From : Int
  To : Int
  Bytes : (List UInt8)
abbrev dApiMessage (x : ApiMessage) : D := .agg [dI64 x.From, dI64 x.To, (dL 1 bD) x.Bytes]
structure NetNet where
  replicas : Int
  last : UInt64
  bag : (Option (List (UInt64 × ApiMessage)))
  between : (List Int)
structure ApiLetter where
  Id : UInt64
  From : Int
  To : Int
  Size : Int
abbrev dApiLetter (x : ApiLetter) : D := .agg [dU64 x.Id, dI64 x.From, dI64 x.To, dI64 x.Size]
def net_Net_none (a0 : NetNet) : Option Bool := some a0.bag.isNone
def net_Net_none_nil  : Option Bool := some true
theorem agg36 : aggT Try.prog 36 3 = true := by kernel_rfl
theorem arr61 : arrT Try.prog 61 3 4 1 := ⟨Try.underlying61, by kernel_rfl⟩
theorem arr62 : arrT Try.prog 62 61 4 4 := ⟨Try.underlying62, by kernel_rfl⟩
theorem cal26 : Callable Try.prog 26 := ⟨_, Try.func26, by kernel_rfl, by kernel_rfl⟩
theorem cal27 : Callable Try.prog 27 := ⟨_, Try.func27, by kernel_rfl, by kernel_rfl⟩
theorem elem40 : elemT Try.prog 40 43 4 32 (.agg #[.int .u64 0, .int .i64 0, .int .i64 0, .int .i64 0]) := elemT_of Try.underlying40 (by kernel_rfl) (by kernel_rfl) (by kernel_rfl) (by kernel_rfl) (by decide)
theorem fld36_0 : fieldT Try.prog 36 0 = some 0 := by kernel_rfl
theorem fld36_1 : fieldT Try.prog 36 1 = some 1 := by kernel_rfl
theorem fld36_2 : fieldT Try.prog 36 2 = some 2 := by kernel_rfl
theorem fld64_2 : fieldT Try.prog 64 2 = some 2 := by kernel_rfl
theorem fld64_3 : fieldT Try.prog 64 3 = some 3 := by kernel_rfl
theorem mapT60 : mapT Try.prog 60 30 36 := ⟨Try.underlying60, Try.underlying30⟩
theorem mixed : Try.prog.follows .mixedOrders = true := by kernel_rfl
theorem one23 : oneT Try.prog 23 = true := by kernel_rfl
theorem one3 : oneT Try.prog 3 = true := by kernel_rfl
theorem one60 : oneT Try.prog 60 = true := by kernel_rfl
theorem plc43 : placesT Try.prog 43 [(0, 1), (1, 1), (2, 1), (3, 1)] := ⟨_, Try.underlying43, fun _ => by kernel_rfl⟩
theorem size36 : sizeT Try.prog 36 3 = true := by kernel_rfl
theorem slc40 : sliceT Try.prog 40 43 4 (.agg #[.int .u64 0, .int .i64 0, .int .i64 0, .int .i64 0]) := ⟨Try.underlying40, by kernel_rfl, by kernel_rfl, by kernel_rfl, by decide⟩
theorem zero36 : zeroT Try.prog 36 = some (.agg #[.int .i64 0, .int .i64 0, .slice none 0 0]) := by kernel_rfl
theorem zero43 : zeroT Try.prog 43 = some (.agg #[.int .u64 0, .int .i64 0, .int .i64 0, .int .i64 0]) := by kernel_rfl
theorem opnApiMessage {s : St} {cs : List Value} {x : ApiMessage} (h : RC s cs (dApiMessage x)) : ∃ v2 : Value, cs = [.int .i64 x.From, .int .i64 x.To, v2] ∧ R s v2 ((dL 1 bD) x.Bytes) := by
  obtain ⟨c1, r1, rfl, g1, e1⟩ := h.acons
  obtain rfl := g1.val_inv
  obtain ⟨c2, r2, rfl, g2, e2⟩ := e1.acons
  obtain rfl := g2.val_inv
  obtain ⟨c3, r3, rfl, g3, e3⟩ := e2.acons
  obtain ⟨v2, rfl, q2⟩ := g3.sl_inv
  obtain rfl := e3.anil
  exact ⟨v2, rfl, q2⟩
theorem clsApiMessage {s : St} (x : ApiMessage) {v2 : Value} (q2 : R s v2 ((dL 1 bD) x.Bytes)) : RC s [.int .i64 x.From, .int .i64 x.To, v2] (dApiMessage x) := (RC.mkc (RC.val _ rfl) (RC.mkc (RC.val _ rfl) (RC.mkc q2 RC.mkn)))
/-- An object in memory: NetNet. -/
def ONetNet (s : St) (k : Nat) (p : Value) (x : NetNet) : Prop := k ≠ 0 ∧ ∃ b, p = .pointer (some ⟨b, 0, none⟩) ∧ ∃ v2 : Value, Blk s b ⟨k, 0⟩ (([.int .i64 x.replicas, .int .u64 (x.last.toNat : Int), v2] : List Value) ++ x.between.map cI) 64 ∧ MapO s ⟨k, 1⟩ dApiMessage v2 x.bag ∧ x.between.length = 16
theorem ONetNet.ptr {s : St} {k : Nat} {p : Value} {x : NetNet} (h : ONetNet s k p x) : ∃ b, p = .pointer (some ⟨b, 0, none⟩) := by obtain ⟨_, b, e, _⟩ := h; exact ⟨b, e⟩
theorem ONetNet.at_ {s : St} {k b : Nat} {x : NetNet} (h : ONetNet s k (.pointer (some ⟨b, 0, none⟩)) x) : ∃ v2 : Value, Blk s b ⟨k, 0⟩ (([.int .i64 x.replicas, .int .u64 (x.last.toNat : Int), v2] : List Value) ++ x.between.map cI) 64 ∧ MapO s ⟨k, 1⟩ dApiMessage v2 x.bag ∧ x.between.length = 16 := by
  obtain ⟨_, b', e, h⟩ := h
  injection e with e; injection e with e; injection e with e
  subst e
  exact h
theorem ONetNet.mk_ {s : St} {k b : Nat} (x : NetNet) (h0 : k ≠ 0) {v2 : Value} (g2 : MapO s ⟨k, 1⟩ dApiMessage v2 x.bag) (g3 : x.between.length = 16) (hb : Blk s b ⟨k, 0⟩ (([.int .i64 x.replicas, .int .u64 (x.last.toNat : Int), v2] : List Value) ++ x.between.map cI) 64) : ONetNet s k (.pointer (some ⟨b, 0, none⟩)) x := ⟨h0, b, rfl, ⟨v2, hb, g2, g3⟩⟩
theorem ONetNet.ne {s : St} {k : Nat} {p : Value} {x : NetNet} (h : ONetNet s k p x) : k ≠ 0 := h.1
theorem ONetNet.le {s : St} {k : Nat} {p : Value} {x : NetNet} (h : ONetNet s k p x) : k ≤ s.n := by
  obtain ⟨b, rfl⟩ := h.ptr
  obtain ⟨v2, hb, g2, g3⟩ := h.at_
  exact hb.own_le
theorem ONetNet.up2 {K : Lab → Prop} {s s' : St} {k : Nat} {p : Value} {x : NetNet} (h : ONetNet s k p x) (st : Step K s s') (hk : ∀ c, ¬ K ⟨k, c⟩ := by intro c; first | exact id | (simp only [KU, KN, KC, KO, K0] <;> omega)) : ONetNet s' k p x := by
  obtain ⟨h0, b, e, h⟩ := h
  obtain ⟨v2, hb, g2, g3⟩ := h
  exact ⟨h0, b, e, ⟨v2, hb.up st (hk 0), g2.up st (hk 1), g3⟩⟩
def OptONetNet (s : St) (k : Nat) (p : Value) : Option NetNet → Prop
  | none => p = .pointer none
  | some x => ONetNet s k p x
theorem OptONetNet.le {s : St} {k : Nat} {p : Value} {x : Option NetNet} (h : OptONetNet s k p x) : x = none ∨ k ≤ s.n := by
  cases x with
  | none => exact .inl rfl
  | some x => have h : ONetNet s k p x := h; exact .inr h.le
theorem OptONetNet.up2 {K : Lab → Prop} {s s' : St} {k : Nat} {p : Value} {x : Option NetNet} (h : OptONetNet s k p x) (st : Step K s s') (hk : k ≤ s.n → k ≠ 0 → ∀ c, ¬ K ⟨k, c⟩ := by intro _ _ c; first | exact id | (simp only [KU, KN, KC, KO, K0] <;> omega)) : OptONetNet s' k p x := by
  cases x with
  | none => exact h
  | some x => have h : ONetNet s k p x := h; exact ONetNet.up2 h st (hk h.le h.ne)
theorem OptONetNet.up3 {K : Lab → Prop} {s s' : St} {k n0 : Nat} {p : Value} {x : Option NetNet} (h : OptONetNet s k p x) (ol : x = none ∨ k ≤ n0) (st : Step K s s') (hk : k ≤ n0 → k ≠ 0 → ∀ c, ¬ K ⟨k, c⟩ := by intro _ _ c; first | exact id | (simp only [KU, KN, KC, KO, K0] <;> omega)) : OptONetNet s' k p x := by
  cases x with
  | none => exact h
  | some x => have h : ONetNet s k p x := h; exact ONetNet.up2 h st (hk (ol.resolve_left (by simp)) h.ne)
theorem opnApiLetter {s : St} {cs : List Value} {x : ApiLetter} (h : RC s cs (dApiLetter x)) : cs = [.int .u64 (x.Id.toNat : Int), .int .i64 x.From, .int .i64 x.To, .int .i64 x.Size] := by
  obtain ⟨c1, r1, rfl, g1, e1⟩ := h.acons
  obtain rfl := g1.val_inv
  obtain ⟨c2, r2, rfl, g2, e2⟩ := e1.acons
  obtain rfl := g2.val_inv
  obtain ⟨c3, r3, rfl, g3, e3⟩ := e2.acons
  obtain rfl := g3.val_inv
  obtain ⟨c4, r4, rfl, g4, e4⟩ := e3.acons
  obtain rfl := g4.val_inv
  obtain rfl := e4.anil
  exact rfl
theorem clsApiLetter {s : St} (x : ApiLetter) : RC s [.int .u64 (x.Id.toNat : Int), .int .i64 x.From, .int .i64 x.To, .int .i64 x.Size] (dApiLetter x) := (RC.mkc (RC.val _ rfl) (RC.mkc (RC.val _ rfl) (RC.mkc (RC.val _ rfl) (RC.mkc (RC.val _ rfl) RC.mkn))))
set_option maxHeartbeats 1000000 in
set_option maxRecDepth 100000 in
theorem net_Net_none_w {s : St} {k0 : Nat} {p0 : Value} {a0 : NetNet} {r : Bool} (ho0 : ONetNet s k0 p0 a0) (h : net_Net_none a0 = some r) : Calls Try.prog 26 #[p0] s.w (Ret s K0 (fun s1 v => v = .bool r)) := by
  unfold net_Net_none at h
  have le0 := ho0.le
  have ne0 := ho0.ne
  obtain ⟨bo0, rfl⟩ := ho0.ptr
  obtain ⟨wo0_0, hb_o0, hwo0_0, hwo0_1⟩ := ho0.at_
  have hS : Step K0 s s := (Step.refl _).of0 (by first | exact fun _ h => h | (intro c h; simp [KC, KO, KU, KN] at h <;> omega))
  refine k_fn (rs := [2]) (args := [.pointer (some ⟨bo0, 0, none⟩)]) Try.func26 rfl rfl rfl rfl ?_
  refine k_seq ?_
  refine k_region ?_
  refine k_assign rfl rfl ?_
  refine k_nil ?_
  refine k_seq ?_
  refine k_region ?_
  refine k_move rfl rfl ?_
  refine k_eql_pnil Try.underlying24 rfl rfl rfl ?_
  refine k_move rfl rfl ?_
  refine k_yes rfl rfl ?_
  refine k_move rfl rfl ?_
  refine k_yes rfl rfl ?_
  refine k_nilCheck rfl rfl ?_
  refine k_yes rfl rfl ?_
  refine k_field_addr fld64_2 rfl rfl ?_
  refine k_yes rfl rfl ?_
  refine k_load_blk one60 rfl hb_o0 rfl rfl ?_
  refine k_yes rfl rfl ?_
  refine k_eql_nilmap mapT60 rfl rfl hwo0_0 rfl ?_
  refine k_pickF rfl rfl rfl rfl ?_
  refine k_assign rfl rfl ?_
  refine k_nil ?_
  refine k_keep [(2, _)] ⟨rfl, trivial⟩ ?_
  refine k_ret ?_
  obtain rfl := Option.some.inj h
  refine ⟨_, rfl, Ret.mk hS ?_⟩
  exact rfl
set_option maxHeartbeats 1000000 in
set_option maxRecDepth 100000 in
theorem net_Net_none_nil_w {s : St}  {r : Bool}  (h : net_Net_none_nil = some r) : Calls Try.prog 26 #[.pointer none] s.w (Ret s K0 (fun s1 v => v = .bool r)) := by
  unfold net_Net_none_nil at h
  have hS : Step K0 s s := (Step.refl _).of0 (by first | exact fun _ h => h | (intro c h; simp [KC, KO, KU, KN] at h <;> omega))
  refine k_fn (rs := [2]) (args := [.pointer none]) Try.func26 rfl rfl rfl rfl ?_
  refine k_seq ?_
  refine k_region ?_
  refine k_assign rfl rfl ?_
  refine k_nil ?_
  refine k_seq ?_
  refine k_region ?_
  refine k_move rfl rfl ?_
  refine k_eql_pnil Try.underlying24 rfl rfl rfl ?_
  refine k_move rfl rfl ?_
  refine k_no rfl rfl rfl rfl ?_
  refine k_no rfl rfl rfl rfl ?_
  refine k_no rfl rfl rfl rfl ?_
  refine k_no rfl rfl rfl rfl ?_
  refine k_no rfl rfl rfl rfl ?_
  refine k_pickT rfl rfl rfl rfl ?_
  refine k_assign rfl rfl ?_
  refine k_nil ?_
  refine k_keep [(2, _)] ⟨rfl, trivial⟩ ?_
  refine k_ret ?_
  obtain rfl := Option.some.inj h
  refine ⟨_, rfl, Ret.mk hS ?_⟩
  exact rfl
def net_room (m : ApiMessage) : Option Nat := if (0 ≤ i64 (m.From - 1) ∧ i64 (m.From - 1) < 4) ∧ (0 ≤ i64 (m.To - 1) ∧ i64 (m.To - 1) < 4) then some (0 + 3 + (i64 (m.From - 1)).toNat * 4 + (i64 (m.To - 1)).toNat * 1) else none
set_option maxHeartbeats 1000000 in
set_option maxRecDepth 100000 in
theorem net_room_w {s : St} {b : Nat} {q1_0 : Value} {m : ApiMessage} {r : Nat} (h : net_room m = some r) : Calls Try.prog 25 #[.pointer (some ⟨b, 0, none⟩), .agg #[.int .i64 m.From, .int .i64 m.To, q1_0]] s.w (Ret s K0 fun s1 v => v = .pointer (some ⟨b, r, none⟩)) := by
  unfold net_room at h
  by_cases c : (0 ≤ i64 (m.From - 1) ∧ i64 (m.From - 1) < 4) ∧ (0 ≤ i64 (m.To - 1) ∧ i64 (m.To - 1) < 4)
  case neg => exact (noneNe (itF h c)).elim
  obtain rfl := Option.some.inj (itT h c)
  obtain ⟨⟨c1, c2⟩, c3, c4⟩ := c
  have hS : Step K0 s s := Step.refl _
  refine k_fn (rs := [4]) (args := [.pointer (some ⟨b, 0, none⟩), .agg #[.int .i64 m.From, .int .i64 m.To, q1_0]]) Try.func25 rfl rfl rfl rfl ?_
  refine k_seq ?_
  refine k_region ?_
  refine k_box rfl rfl ?_
  intro s1 b1 st1 h1 ge1
  have hS : Step K0 s s1 := hS.trans0 st1
  refine k_assign rfl rfl ?_
  refine k_nil ?_
  refine k_keep [(0, _), (3, _)] ⟨rfl, rfl, trivial⟩ ?_
  refine k_seq ?_
  refine k_drawT (KN s1.n) 11 (.read 0 (.read 1 (.read 2 (.read 3 (.read 4 (.read 5 (.read 6 (.read 7 (.read 8 (.read 9 (.read 10 .fin))))))))))) mixed (by intro c h; (try simp only [KN] at h) <;> omega) rfl rfl rfl ?_
  intro s2 st2
  have hS : Step K0 s s2 := hS.trans0 st2
  have lt1 := h1.lt
  replace h1 := h1.up2 st2
  refine rt_read (.pointer (some ⟨b, 0, none⟩)) rfl rfl (fun s3 st3 => k_move rfl rfl fq_end) ?_
  refine rt_read (.pointer (some ⟨b1, 0, none⟩)) rfl rfl (fun s3 st3 => k_field_addr fld36_0 rfl rfl fq_end) ?_
  refine rt_read (.int .i64 m.From) rfl rfl (fun s3 st3 => k_load_blk one3 rfl (h1.up2 st3) rfl rfl fq_end) ?_
  refine rt_read (.int .i64 (i64 (m.From - 1))) rfl rfl (fun s3 st3 => k_sub_ rfl rfl rfl fq_end) ?_
  refine rt_read (.pointer (some ⟨b1, 1, none⟩)) rfl rfl (fun s3 st3 => k_field_addr fld36_1 rfl rfl fq_end) ?_
  refine rt_read (.int .i64 m.To) rfl rfl (fun s3 st3 => k_load_blk one3 rfl (h1.up2 st3) rfl rfl fq_end) ?_
  refine rt_read (.int .i64 (i64 (m.To - 1))) rfl rfl (fun s3 st3 => k_sub_ rfl rfl rfl fq_end) ?_
  refine rt_read (.pointer (some ⟨b, 0, none⟩)) rfl rfl (fun s3 st3 => k_nilCheck rfl rfl fq_end) ?_
  refine rt_read (.pointer (some ⟨b, 0 + 3, none⟩)) rfl rfl (fun s3 st3 => k_field_addr fld64_3 rfl rfl fq_end) ?_
  refine rt_read (.pointer (some ⟨b, 0 + 3 + (i64 (m.From - 1)).toNat * 4, none⟩)) rfl rfl (fun s3 st3 => k_ixaddr_arr arr62 rfl rfl c1 c2 rfl fq_end) ?_
  refine rt_read (.pointer (some ⟨b, 0 + 3 + (i64 (m.From - 1)).toNat * 4 + (i64 (m.To - 1)).toNat * 1, none⟩)) rfl rfl (fun s3 st3 => k_ixaddr_arr arr61 rfl rfl c3 c4 rfl fq_end) ?_
  refine rt_fin ?_
  refine k_assign rfl rfl ?_
  refine k_nil ?_
  refine k_ret ?_
  exact ⟨_, rfl, Ret.mk hS rfl⟩

open Go.Sort Go.Shelf
theorem RangeO_len {α : Type} {s : St} {li l : Lab} {f : α → D} {vm : Value} {b : Nat} {r got : List (UInt64 × α)} {last : Option (Value × Value)} (h : RangeO s li l f vm b r got last) : got.length ≤ r.length := by
  obtain ⟨h0, h00, m, es, clock, seen, e, hm, hg, hh, he, hn, hc, hb, hgb, hhb, hp, hl⟩ := h
  have := hp.length_eq
  rw [List.length_append] at this
  omega
def encLetter (x : ApiLetter) : List Value := [.int .u64 (x.Id.toNat : Int), .int .i64 x.From, .int .i64 x.To, .int .i64 x.Size]
def cfLetter (x y : ApiLetter) : Int := if (x.Id.toNat : Int) < (y.Id.toNat : Int) then -1 else 1
set_option maxHeartbeats 1000000 in
theorem letters_cmp (x y : ApiLetter) (W : World) : Calls Try.prog 28 (#[.agg (encLetter x).toArray, .agg (encLetter y).toArray] ++ #[]) W fun e w' => e = .returned (.int .i64 (cfLetter x y)) ∧ ∃ q os', w' = grow (W.drewN q) os' := by
  unfold encLetter cfLetter
  change Calls Try.prog 28 #[.agg #[.int .u64 (x.Id.toNat : Int), .int .i64 x.From, .int .i64 x.To, .int .i64 x.Size], .agg #[.int .u64 (y.Id.toNat : Int), .int .i64 y.From, .int .i64 y.To, .int .i64 y.Size]] W _
  generalize (x.Id.toNat : Int) = a, (y.Id.toNat : Int) = b
  go_enter Try.func28, Try.ntmps28
  go_wp2
  · go_ret
    refine ⟨?_, 0, _, by rw [alloc_eq_grow, alloc_eq_grow, grow_grow]; rfl⟩
    rfl
  · go_ret
    refine ⟨?_, 0, _, by rw [alloc_eq_grow, alloc_eq_grow, grow_grow]; rfl⟩
    rfl
theorem ltLetter (x y : ApiLetter) : ltOf cfLetter x y = decide ((x.Id.toNat : Int) < (y.Id.toNat : Int)) := by
  unfold ltOf cfLetter
  by_cases h : (x.Id.toNat : Int) < (y.Id.toNat : Int) <;> simp [h]
theorem swoLetter [Inhabited ApiLetter] : SWO (ltOf cfLetter) where
  irrefl x := by rw [ltLetter]; simp
  trans x y z h1 h2 := by rw [ltLetter] at *; simp at *; omega
  ntrans x y z h1 h2 := by rw [ltLetter] at *; simp at *; omega
theorem sortLetter_w {s : St} {l : Lab} {v : Value} {xs : List ApiLetter} (h : Own s l 43 4 v (xs.map dApiLetter)) (hsz : xs.length < 4611686018427387904) :
    Calls Try.prog 27 #[v, .func (.func 28) #[] #[]] s.w (Ret s (KC l.o l.c) (fun s1 u => u = .tuple #[] ∧ ∃ ys : List ApiLetter, Own s1 l 43 4 v (ys.map dApiLetter) ∧ ys.Perm xs ∧ ys.Pairwise (fun a b => ltOf cfLetter b a = false))) :=
  sortFunc_calls (P := Try.prog) (ρ := Try.sortLetter_ren) Try.sortLetter (k := 4) Try.isAgg43 Try.sizeOf43 (enc := encLetter) (fun _ => rfl) (fun x v hv => by simp [encLetter] at hv; rcases hv with rfl | rfl | rfl | rfl <;> rfl) (fun h => opnApiLetter h) (fun s x => clsApiLetter x) cfLetter 28 #[] swoLetter (enters_of Try.func28 (by kernel_rfl) rfl) (fun W x y => letters_cmp x y W) h hsz
def letterOf (q : UInt64 × ApiMessage) : ApiLetter := ⟨q.1, q.2.From, q.2.To, (q.2.Bytes.length : Int)⟩
def net_Net_Letters_nil : Option (List ApiLetter) := some []
def net_Net_Letters (a0 : NetNet) : Option (List ApiLetter) := if a0.bag.isNone = true then some [] else a0.bag.bind fun b => if b.length ≤ 1000000 ∧ (b.map fun q => q.1.toNat).Pairwise (· < ·) then some (b.map letterOf) else none
theorem letters_eq {b : List (UInt64 × ApiMessage)} {ys : List ApiLetter} {got : List (UInt64 × ApiMessage)} (hb : (b.map fun q => q.1.toNat).Pairwise (· < ·)) (hg : b.Perm got) (hp : ys.Perm (got.map letterOf)) (hs : ys.Pairwise (fun a b => ltOf cfLetter b a = false)) : ys = b.map letterOf := by
  have hp2 : ys.Perm (b.map letterOf) := hp.trans (hg.map _).symm
  have hpw : (b.map letterOf).Pairwise (fun x y => x.Id.toNat < y.Id.toNat) := by
    rw [List.pairwise_map] at hb ⊢
    exact hb
  have hle : ∀ x y : ApiLetter, ltOf cfLetter y x = false → x.Id.toNat ≤ y.Id.toNat := fun x y h => by rw [ltLetter] at h; simp at h; exact h
  have hs' : ys.Pairwise (fun x y => x.Id.toNat ≤ y.Id.toNat) := hs.imp (fun h => hle _ _ h)
  have hs2 : (b.map letterOf).Pairwise (fun x y => x.Id.toNat ≤ y.Id.toNat) := hpw.imp (fun h => Nat.le_of_lt h)
  refine List.Perm.eq_of_pairwise (le := fun x y : ApiLetter => x.Id.toNat ≤ y.Id.toNat) ?_ hs' hs2 hp2
  intro x y hx hy h1 h2
  have e : x.Id.toNat = y.Id.toNat := Nat.le_antisymm h1 h2
  have hx' := hp2.mem_iff.1 hx
  -- two of one number are one
  have key : ∀ l : List ApiLetter, l.Pairwise (fun x y => x.Id.toNat < y.Id.toNat) → x ∈ l → y ∈ l → x = y := by
    intro l hl
    induction l with
    | nil => intro h; cases h
    | cons z l ih =>
      intro h3 h4
      obtain ⟨g1, g2⟩ := List.pairwise_cons.1 hl
      rcases List.mem_cons.1 h3 with h5 | h5 <;> rcases List.mem_cons.1 h4 with h6 | h6
      · rw [h5, h6]
      · have := g1 _ h6; rw [← h5] at this; omega
      · have := g1 _ h5; rw [← h6] at this; omega
      · exact ih g2 h5 h6
  exact key _ hpw hx' hy
set_option maxHeartbeats 1000000 in
set_option maxRecDepth 100000 in
theorem net_Net_Letters_nil_w {s : St} {r : List ApiLetter} (h : net_Net_Letters_nil = some r) : Calls Try.prog 14 #[.pointer none] s.w (Ret s K0 (fun s1 v => ∃ (u0 : Value), v = u0 ∧ R s1 u0 (.sl 4 (r.map dApiLetter)))) := by
  unfold net_Net_Letters_nil at h
  have hS : Step K0 s s := Step.refl _
  refine k_fn (rs := [2]) (args := [.pointer none]) Try.func14 rfl rfl rfl rfl ?_
  refine k_seq ?_
  refine k_region ?_
  refine k_assign rfl rfl ?_
  refine k_nil ?_
  refine k_seq ?_
  refine k_seq ?_
  refine k_region ?_
  refine k_move rfl rfl ?_
  refine k_call cal26 rfl (net_Net_none_nil_w (r := true) rfl) rfl ?_
  rintro s2 vr2 st2 rfl
  have hS : Step K0 s s2 := hS.trans0 st2
  refine k_nil ?_
  refine k_cond_true rfl ?_
  refine k_seq ?_
  refine k_region ?_
  refine k_assign rfl rfl ?_
  refine k_nil ?_
  refine k_ret ?_
  obtain rfl := Option.some.inj h
  refine ⟨_, rfl, Ret.mk hS ?_⟩
  exact ⟨_, rfl, R.of_SL (.inl ⟨rfl, none, 0, rfl, fun _ => rfl⟩)⟩
set_option maxHeartbeats 1000000 in
set_option maxRecDepth 100000 in
theorem net_Net_Letters_w {s : St} {k0 : Nat} {p0 : Value} {a0 : NetNet} {r : List ApiLetter} (ho0 : ONetNet s k0 p0 a0) (h : net_Net_Letters a0 = some r) : Calls Try.prog 14 #[p0] s.w (Ret s K0 (fun s1 v => ∃ (u0 : Value), v = u0 ∧ R s1 u0 (.sl 4 (r.map dApiLetter)))) := by
  unfold net_Net_Letters at h
  have le0 := ho0.le
  have ne0 := ho0.ne
  obtain ⟨bo0, rfl⟩ := ho0.ptr
  obtain ⟨wo0_0, hb_o0, hwo0_0, hwo0_1⟩ := ho0.at_
  have hS : Step K0 s s := Step.refl _
  refine k_fn (rs := [2]) (args := [.pointer (some ⟨bo0, 0, none⟩)]) Try.func14 rfl rfl rfl rfl ?_
  refine k_seq ?_
  refine k_region ?_
  refine k_assign rfl rfl ?_
  refine k_nil ?_
  refine k_seq ?_
  refine k_seq ?_
  refine k_region ?_
  refine k_move rfl rfl ?_
  refine k_call cal26 rfl (net_Net_none_w (r := a0.bag.isNone) (ONetNet.mk_ a0 (by omega) hwo0_0 hwo0_1 hb_o0) rfl) rfl ?_
  rintro s2 vr2 st2 rfl
  have szs2 := st2.size
  have hS : Step K0 s s2 := hS.trans0 st2
  replace hwo0_0 := hwo0_0.up2 st2
  replace hb_o0 := hb_o0.up2 st2
  refine k_nil ?_
  refine k_cond rfl (fun c3 => ?_) (fun c3 => ?_)
  · have h := itT h c3
    refine k_seq ?_
    refine k_region ?_
    refine k_assign rfl rfl ?_
    refine k_nil ?_
    refine k_ret ?_
    obtain rfl := Option.some.inj h
    refine ⟨_, rfl, Ret.mk hS ?_⟩
    exact ⟨_, rfl, R.of_SL (.inl ⟨rfl, none, 0, rfl, fun _ => rfl⟩)⟩
  · have h := itF h (by rw [c3]; decide)
    obtain ⟨b, hb, h⟩ := ob h
    by_cases hcc : b.length ≤ 1000000 ∧ (b.map fun q => q.1.toNat).Pairwise (· < ·)
    case neg => exact (noneNe (itF h hcc)).elim
    replace h := itT h hcc
    obtain ⟨hlen, hord⟩ := hcc
    rw [hb] at hwo0_0
    refine k_skip ?_
    refine k_seq ?_
    refine k_region ?_
    refine k_assign rfl rfl ?_
    refine k_nil ?_
    refine k_seq ?_
    refine k_seq ?_
    refine k_region ?_
    refine k_move rfl rfl ?_
    refine k_nilCheck rfl rfl ?_
    refine k_field_addr fld64_2 rfl rfl ?_
    refine k_load_blk one60 rfl hb_o0 rfl rfl ?_
    refine k_range_map ⟨_, _, mapT60⟩ rfl hwo0_0 rfl ?_
    intro s4 b4 st4 ge4 lt4 hR
    have szs4 := st4.size
    have hS : Step K0 s s4 := hS.trans0 st4
    have hO : Own s4 ⟨s4.n + 1, 3003⟩ 43 4 (.slice none 0 0) ((([] : List (UInt64 × ApiMessage)).map letterOf).map dApiLetter) := Own.nil (by simp) (by simp)
    refine k_nil ?_
    refine k_block ?_
    refine k_loopc (X := St × List (UInt64 × ApiMessage) × Value × Option (Value × Value)) [(12, .pointer (some ⟨b4, 0, none⟩))] (fun x => [(3, x.2.2.1)]) (fun x w => x.1.w = w ∧ Step (KU (KC (b4 + 1) 0) (KC (s4.n + 1) 3003)) s4 x.1 ∧ RangeO x.1 ⟨b4 + 1, 0⟩ ⟨k0, 1⟩ dApiMessage wo0_0 b4 b x.2.1 x.2.2.2 ∧ Own x.1 ⟨s4.n + 1, 3003⟩ 43 4 x.2.2.1 ((x.2.1.map letterOf).map dApiLetter)) (fun x => b.length - x.2.1.length) (s4, [], .slice none 0 0, none) ⟨rfl, trivial⟩ ⟨rfl, trivial⟩ ⟨rfl, (Step.refl _).of0 (by intro c h; simp [KC, KU] at h), hR, hO⟩ ?_
    rintro ⟨s5, got, v5, last⟩ w5 ⟨rfl, hE, hR, hO⟩
    dsimp only at hE hR hO ⊢
    have szs5 := hE.size
    have hS5 : Step K0 s s5 := hS.comp hE (by intro l hl hk; (try simp only [KC, KO, KU, KN, K0] at hk ⊢) <;> omega)
    refine k_seq ?_
    refine k_region ?_
    refine k_next_map rfl hR (.inl (by (try dsimp only); omega)) rfl (fun hperm => ?_) ?_
    · refine k_extract rfl rfl rfl ?_
      refine k_nil ?_
      refine k_seq ?_
      refine k_cond_false rfl ?_
      refine k_exit rfl ?_
      refine k_seq ?_
      refine k_region ?_
      refine k_move rfl rfl ?_
      have hgl : got.length = b.length := hperm.length_eq.symm
      refine k_call (vs := [v5, .func (.func 28) #[] #[]]) cal27 rfl (sortLetter_w hO (by rw [List.length_map]; omega)) rfl ?_
      rintro s6 v6 st6 ⟨rfl, ys, hO6, hp6, hs6⟩
      have hS6 : Step K0 s s6 := hS5.comp st6 (by intro l hl hk; (try simp only [KC, KO, KU, KN, K0] at hk ⊢) <;> omega)
      obtain rfl : ys = b.map letterOf := letters_eq hord hperm hp6 hs6
      refine k_nil ?_
      refine k_seq ?_
      refine k_region ?_
      refine k_move rfl rfl ?_
      refine k_assign rfl rfl ?_
      refine k_nil ?_
      refine k_ret ?_
      obtain ⟨s7, e7, st7, h7⟩ := hO6.freeze
      rw [← e7]
      have hS7 : Step K0 s s7 := hS6.comp st7 (by intro l hl hk; (try simp only [KC, KO, KU, KN, K0] at hk ⊢) <;> omega)
      obtain rfl := Option.some.inj h
      refine ⟨_, rfl, Ret.mk hS7 ?_⟩
      exact ⟨_, rfl, h7⟩
    · rintro s6 q v6 st6 hv6 hR
      have szs6 := st6.size
      have hS6 : Step (KU (KC (b4 + 1) 0) (KC (s4.n + 1) 3003)) s4 s6 := hE.comp st6 (by intro l hl hk; (try simp only [KC, KO, KU, KN, K0] at hk ⊢) <;> omega)
      replace hO := hO.up2 st6
      have hgl := RangeO_len hR
      rw [List.length_append, List.length_cons, List.length_nil] at hgl
      obtain ⟨c6, rfl, hv6⟩ := hv6
      have hv6 : RC _ c6.toList _ := hv6
      obtain ⟨c6⟩ := c6
      dsimp only at hv6
      obtain ⟨q6, rfl, hq6⟩ := opnApiMessage hv6
      refine k_extract rfl rfl rfl ?_
      refine k_nil ?_
      refine k_seq ?_
      refine k_cond_true rfl ?_
      refine k_skip ?_
      refine k_block ?_
      refine k_seq ?_
      refine k_region ?_
      refine k_entry_map rfl hR rfl ?_
      refine k_extract rfl rfl rfl ?_
      refine k_extract rfl rfl rfl ?_
      refine k_alloc zero36 rfl ?_
      intro s7 b7 st7 h7 ge7
      have szs7 := st7.size
      have hS7 : Step (KU (KC (b4 + 1) 0) (KC (s4.n + 1) 3003)) s4 s7 := hS6.trans0 st7
      replace hO := hO.up2 st7
      replace hR := hR.up2 st7
      replace hq6 := hq6.up st7
      have lt7 := h7.lt
      refine k_assign rfl rfl ?_
      refine k_store_c (cs' := [.int .i64 q.2.From, .int .i64 q.2.To, q6]) size36 rfl rfl h7 (by first | (simp; done) | omega | (dsimp only; omega)) (CellsOf.lit (vs := [.int .i64 q.2.From, .int .i64 q.2.To, q6]) rfl (ones.cons rfl (ones.cons rfl (ones.cons (SL.of_R hq6).one1 ones.nil)))) rfl (by first | rfl | (simp; done) | (simp; omega)) rfl ?_
      intro s8 st8 h8
      have szs8 := st8.size
      have hS8 : Step (KU (KC (b4 + 1) 0) (KC (s4.n + 1) 3003)) s4 s8 := hS7.comp st8 (by intro l hl hk; (try simp only [KC, KO, KU, KN, K0] at hk ⊢) <;> omega)
      replace hO := hO.up2 st8
      replace hR := hR.up2 st8
      replace hq6 := hq6.up st8
      refine k_nil ?_
      refine k_region ?_
      refine k_move rfl rfl ?_
      refine k_move rfl rfl ?_
      refine k_field_addr fld36_0 rfl rfl ?_
      refine k_load_blk one3 rfl h8 rfl rfl ?_
      refine k_field_addr fld36_1 rfl rfl ?_
      refine k_load_blk one3 rfl h8 rfl rfl ?_
      refine k_field_addr fld36_2 rfl rfl ?_
      refine k_load_blk one23 rfl h8 rfl rfl ?_
      refine k_len Try.underlying23 rfl (SL.of_R hq6).hasLen rfl ?_
      refine k_as (v := .int .i64 (q.2.Bytes.length : Int)) (by simp only [List.length_map]) ?_
      refine k_build plc43 zero43 rfl (Parts.cons (CellsOf.lit rfl rfl).1 (Parts.cons (CellsOf.lit rfl rfl).1 (Parts.cons (CellsOf.lit rfl rfl).1 (Parts.cons (CellsOf.lit rfl rfl).1 Parts.nil)))) (by rfl) rfl ?_
      refine k_as (v := .agg (encLetter (letterOf q)).toArray) rfl ?_
      refine k_bslice2 (ds := [letterOf q].map dApiLetter) slc40 rfl (RVs.cons ⟨_, rfl, clsApiLetter (letterOf q)⟩ RVs.nil) (by rfl) (by rfl) rfl rfl ?_
      intro s9 v9 b9 st9 ge9 lt9 h9
      have szs9 := st9.size
      have hS9 : Step (KU (KC (b4 + 1) 0) (KC (s4.n + 1) 3003)) s4 s9 := hS8.trans0 st9
      replace hO := hO.up2 st9
      replace hR := hR.up2 st9
      refine k_append (es := [letterOf q].map dApiLetter) elem40 rfl rfl hO (h9.sl) (by simp only [List.length_map, List.length_cons, List.length_nil]; omega) (by simp only [List.length_map, List.length_cons, List.length_nil]; omega) rfl ?_
      intro s10 v10 st10 h10
      have szs10 := st10.size
      have hS10 : Step (KU (KC (b4 + 1) 0) (KC (s4.n + 1) 3003)) s4 s10 := hS9.comp st10 (by intro l hl hk; (try simp only [KC, KO, KU, KN, K0] at hk ⊢) <;> omega)
      replace hR := hR.up2 st10
      rw [← List.map_append] at h10
      refine k_assign rfl rfl ?_
      refine k_nil ?_
      refine k_blk ?_
      refine k_stop ⟨(s10, got ++ [q], v10, some _), ⟨rfl, trivial⟩, ⟨rfl, trivial⟩, ⟨rfl, hS10, hR, ?_⟩, ?_⟩
      · rw [List.map_append]; exact h10
      · simp only [List.length_append, List.length_cons, List.length_nil]; omega
/-- maps.Clone. -/
theorem cloneBag_w {s : St} {l : Lab} {v : Value} {r : List (UInt64 × ApiMessage)} (h : MapO s l dApiMessage v (some r)) : Calls Try.prog 35 #[v] s.w (Ret s K0 (fun s1 u => ∃ b, s.n ≤ b ∧ b < s1.n ∧ MapO s1 ⟨b + 1, 0⟩ dApiMessage u (some r))) := by
  obtain ⟨h0, m, es, clock, rfl, hm, hg, hh, he, hn, hc⟩ := h
  have hcl : Calls Try.prog 35 #[.map (some m)] s.w fun e w' => e = .returned (.map (some s.w.heap.size)) ∧ w' = s.w.alloc (.map es.toArray clock) := AnyW.maps_Clone (P := Try.prog) (ρ := Try.cloneBag_ren) Try.cloneBag m es.toArray clock s.w hh
  refine hcl.mono ?_
  rintro e w' ⟨rfl, rfl⟩
  have st : Step K0 s (s.to (s.w.alloc (.map es.toArray clock)) ⟨s.n + 1, 0⟩ (Nat.le_refl _)) := St.to_alloc
  exact Ret.mk st ⟨s.n, Nat.le_refl _, by show s.n < (s.w.alloc _).heap.size; simp, by simp, s.n, es, clock, rfl, by show s.n < (s.w.alloc _).heap.size; simp, St.to_g_new (Nat.le_refl _), heap_alloc_new _ _, he.up st, hn, hc⟩

end Go.Proofs
