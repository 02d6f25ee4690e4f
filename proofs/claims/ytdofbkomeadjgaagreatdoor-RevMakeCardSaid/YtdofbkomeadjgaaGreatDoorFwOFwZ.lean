import Derived.Test.YtdofbkomeadjgaaGreatDoorFwHFwN
import Derived.IntWalk
import Derived.Defers
import Derived.Laws.IdiomCopy
set_option linter.unusedSimpArgs false
set_option linter.unusedVariables false
namespace Go.Fw
theorem wrap_i64 {p : Int} (h0 : -9223372036854775808 ≤ p) (h1 : p ≤ 9223372036854775807) : IntKind.i64.wrap p = p := IntWalk.i64_in p ⟨h0, h1⟩
theorem wrap_u {k : IntKind} (hk : k.signed = false) {p : Int} (h0 : 0 ≤ p) (h1 : p < 2 ^ k.bits) : k.wrap p = p := by
  simp [IntKind.wrap, hk]; exact Int.emod_eq_of_lt h0 h1
theorem wrap_u64 {p : Int} (h0 : 0 ≤ p) (h1 : p ≤ 18446744073709551615) : IntKind.u64.wrap p = p := wrap_u rfl h0 (by show p < 2 ^ 64; omega)
theorem wrap_u32 {p : Int} (h0 : 0 ≤ p) (h1 : p ≤ 4294967295) : IntKind.u32.wrap p = p := wrap_u rfl h0 (by show p < 2 ^ 32; omega)
theorem wrap_u8 {p : Int} (h0 : 0 ≤ p) (h1 : p ≤ 255) : IntKind.u8.wrap p = p := wrap_u rfl h0 (by show p < 2 ^ 8; omega)
theorem wrap_u64_mod (p : Int) : IntKind.u64.wrap p = p % 18446744073709551616 := by simp [IntKind.wrap, IntKind.signed, IntKind.bits]
theorem wrap_u32_mod (p : Int) : IntKind.u32.wrap p = p % 4294967296 := by simp [IntKind.wrap, IntKind.signed, IntKind.bits]
theorem wrap_u8_mod (p : Int) : IntKind.u8.wrap p = p % 256 := by simp [IntKind.wrap, IntKind.signed, IntKind.bits]
theorem R.val {s : St} {v : Value} (h : v.oneCell' = true) : R s v (.val v) := RC.val v h
theorem RVs.cons {s : St} {v : Value} {d : D} {vs : List Value} {ds : List D} (h : R s v d) (hr : RVs s vs ds) : RVs s (v :: vs) (d :: ds) := ⟨h, hr⟩
theorem RVs.nil {s : St} : RVs s [] [] := trivial
theorem Parts.cons {i : Nat} {v : Value} {cs : List Value} {r : List (Nat × Value)} {q : List (Nat × List Value)} (h : v.cells.toList = cs) (hr : Parts r q) : Parts ((i, v) :: r) ((i, cs) :: q) := ⟨rfl, h, hr⟩
theorem Parts.nil : Parts [] [] := trivial
def nilS : Value → Bool
  | .slice none _ _ => true
  | _ => false
def bytesT (P : Program) (t : TypeId) (m : Nat) : Bool := match P.info? t with | some i => i.bytes == m | none => false
theorem elemT_of {P : Program} {t e w b : Nat} {z : Value} (h1 : P.underlying t = some (.slice e)) (h2 : sizeT P e w = true) (h3 : bytesT P e b = true) (h4 : zeroT P e = some z) (h5 : z.cells.size = w) (h6 : 0 < w) : elemT P t e w b z := by
  unfold sizeT at h2
  unfold bytesT at h3
  unfold zeroT at h4
  cases hi : P.info? e with
  | none => rw [hi] at h2; simp at h2
  | some i =>
    rw [hi] at h2 h3 h4
    exact ⟨i, h1, hi, h4, by simpa using h2, by simpa using h3, h5, h6⟩
section
variable {P : Program} {n : Nat} {Df : Md} {ops : Array Oper} {Q : Post} {rest : List Oper} {ρ : Env} {s : St} {w : World}
variable {d : Nat} {ty : TypeId} {pos : String} {aft : Array Edge} {x y : Operand} {tx tyy : TypeId} {p q : Int} {k : IntKind}
theorem jAz {c : Operand} {v : Value} (hc : ev ρ c = some (.bool true)) (hx : ev ρ x = some v) (hy : (ev ρ y).isSome = true) (hd : Nat.blt d n = true)
    (hK : KL P n Df ops Q rest ((d, v) :: ρ) w) : KL P n Df ops Q (⟨some d, .pick c x y, ty, pos, aft, none⟩ :: rest) ρ w := by
  obtain ⟨u, hu⟩ := Option.isSome_iff_exists.1 hy
  exact k_pick (b := true) hc hx hu hd hK
theorem jAy {c : Operand} {v : Value} (hc : ev ρ c = some (.bool false)) (hx : (ev ρ x).isSome = true) (hy : ev ρ y = some v) (hd : Nat.blt d n = true)
    (hK : KL P n Df ops Q rest ((d, v) :: ρ) w) : KL P n Df ops Q (⟨some d, .pick c x y, ty, pos, aft, none⟩ :: rest) ρ w := by
  obtain ⟨u, hu⟩ := Option.isSome_iff_exists.1 hx
  exact k_pick (b := false) hc hu hy hd hK
theorem k_eql_snilv {l : Lab} {v : Value} {w0 : Nat} {ds : List D} {e : TypeId} (hT : P.underlying tx = some (.slice e)) (hx : ev ρ x = some v) (hy : ev ρ y = some (.slice none 0 0)) (h : SL s l v w0 ds) (hd : Nat.blt d n = true)
    (hK : KL P n Df ops Q rest ((d, .bool (nilS v)) :: ρ) s.w) : KL P n Df ops Q (⟨some d, .binOp .eql tx x y tyy, ty, pos, aft, none⟩ :: rest) ρ s.w := by
  obtain ⟨a, c, rfl, _⟩ := h.val
  refine k_eql_snil hT hx hy hd ?_
  cases a <;> exact hK
theorem SL.nilS_nil {l : Lab} {v : Value} {w0 : Nat} {ds : List D} (h : SL s l v w0 ds) (hn : nilS v = true) : ds = [] := by
  obtain ⟨a, c, rfl, ha⟩ := h.val
  cases a with
  | none => exact List.eq_nil_of_length_eq_zero (ha rfl).1
  | some a => simp [nilS] at hn
def CutAt (ρ : Env) (dflt : Nat) : Option Operand → Nat → Prop
  | none, i => i = dflt
  | some z, i => ∃ k p, ev ρ z = some (.int k p) ∧ 0 ≤ p ∧ p.toNat = i
theorem CutAt.none {dflt : Nat} : CutAt ρ dflt none dflt := rfl
theorem CutAt.int {dflt : Nat} {z : Operand} (h : ev ρ z = some (.int k p)) (h0 : 0 ≤ p) : CutAt ρ dflt (some z) p.toNat := ⟨k, p, h, h0, rfl⟩
theorem CutAt.nat {dflt i : Nat} {z : Operand} (h : ev ρ z = some (.int k (i : Int))) : CutAt ρ dflt (some z) i := ⟨k, i, h, by omega, by simp⟩
theorem CutAt.lo {z : Option Operand} {i : Nat} (h : CutAt ρ 0 z i) : match (generalizing := false) z with | Option.none => i = 0 | some z => ∃ k, ev ρ z = some (.int k i) := by
  cases z with
  | none => exact h
  | some z => obtain ⟨k, p, h1, h2, rfl⟩ := h; exact ⟨k, by rw [h1]; congr 2; omega⟩
theorem CutAt.hi {z : Option Operand} {i m : Nat} (h : CutAt ρ m z i) : match (generalizing := false) z with | Option.none => i = m | some z => ∃ k, ev ρ z = some (.int k i) := by
  cases z with
  | none => exact h
  | some z => obtain ⟨k, p, h1, h2, rfl⟩ := h; exact ⟨k, by rw [h1]; congr 2; omega⟩
theorem k_cut_sl {l : Lab} {v : Value} {w0 : Nat} {ds : List D} {e : TypeId} {lo hi : Option Operand} {i j : Nat} (hT : P.underlying tx = some (.slice e)) (hs : sizeT P e w0 = true) (hx : ev ρ x = some v) (h : SL s l v w0 ds)
    (hlo : CutAt ρ 0 lo i) (hhi : CutAt ρ ds.length hi j) (hij : i ≤ j) (hj : j ≤ ds.length) (hd : Nat.blt d n = true)
    (hK : ∀ v', SL s l v' w0 ((ds.drop i).take (j - i)) → KL P n Df ops Q rest ((d, v') :: ρ) s.w) :
    KL P n Df ops Q (⟨some d, .slice tx x lo hi none, ty, pos, aft, none⟩ :: rest) ρ s.w := k_slice_sl hT hs hx h hlo.lo hhi.hi hij hj hd hK
theorem k_cut_str {l : List UInt8} {lo hi : Option Operand} {i j : Nat} (hT : P.underlying tx = some .string) (hx : ev ρ x = some (S l))
    (hlo : CutAt ρ 0 lo i) (hhi : CutAt ρ l.length hi j) (hij : i ≤ j) (hj : j ≤ l.length) (hd : Nat.blt d n = true)
    (hK : KL P n Df ops Q rest ((d, S ((l.drop i).take (j - i))) :: ρ) w) : KL P n Df ops Q (⟨some d, .slice tx x lo hi none, ty, pos, aft, none⟩ :: rest) ρ w := k_slice_str hT hx hlo.lo hhi.hi hij hj hd hK
theorem k_callv {K : Lab → Prop} {φ : St → Value → Prop} {f : FuncId} {xs : List Operand} {ats : Array TypeId} {vs caps : List Value} (hf : Callable P f) (hx : evs ρ xs = some vs) (hv : ev ρ x = some (.func (.func f) #[] caps.toArray))
    (hc : Calls P f (vs ++ caps).toArray s.w (Ret s K φ)) (hd : Nat.blt d n = true)
    (hK : ∀ s' v, Step K s s' → φ s' v → KL P n Df ops Q rest ((d, v) :: ρ) s'.w) :
    KL P n Df ops Q (⟨some d, .call { callee := .value x, args := xs.toArray, argTypes := ats }, ty, pos, aft, none⟩ :: rest) ρ s.w := by
  intro a ha
  refine wpListIn_plain rfl fun K' hk => ?_
  obtain ⟨fn, h1, h2, h3⟩ := hf
  have hr : (execOp a.eval ⟨some d, .call { callee := .value x, args := xs.toArray, argTypes := ats }, ty, pos, aft, none⟩).run P s.w = .ok (.enter f (vs ++ caps).toArray) s.w := by
    have hx' := Agr.evs (η := a.eval) (fun _ _ e => ha.ev e) hx
    have h2' : ¬ fn.name = "runtime.NumGoroutine" := by intro e; rw [e] at h2; simp at h2
    have h3' : ¬ fn.body = none := by intro e; rw [e] at h3; simp at h3
    unfold execOp
    simp only [resolve, Deferred.ofValue, ha.ev hv]
    simp [invoke, callFunc, h1, h2', h3', hx', program, Sem.run, go_sem]
  refine op_in (x := .enter f (vs ++ caps).toArray) (by intro d e; cases e) hr ?_
  rw [Oper.uponIn_enter]
  refine ⟨fun h => absurd h (by simp), calls_in (hc.mono ?_)⟩
  rintro e w' ⟨s', v, rfl, rfl, st, h⟩
  exact hk _ _ (hK s' v st h _ (ha.put hd v))
theorem k_append_nil {lx : Lab} (c : Nat) {t e w0 bytes : Nat} {z : Value} {vx : Value} {es : List D} (hT : elemT P t e w0 bytes z) (hx : ev ρ x = some (.slice none 0 0)) (hy : ev ρ y = some vx) (h' : SL s lx vx w0 es)
    (hsz : es.length * bytes ≤ 140737488355328) (hmx : es.length ≤ 9223372036854775807) (hd : Nat.blt d n = true)
    (hK : ∀ s' v', Step K0 s s' → Own s' ⟨s.n + 1, c⟩ e w0 v' es → KL P n Df ops Q rest ((d, v') :: ρ) s'.w) :
    KL P n Df ops Q (⟨some d, .call { callee := .builtin .append, args := [x, y].toArray, argTypes := [t, t].toArray }, ty, pos, aft, none⟩ :: rest) ρ s.w :=
  k_append hT hx hy (Own.nil (l := ⟨s.n + 1, c⟩) (by simp) (Nat.le_refl _)) h' (by simpa using hsz) (by simpa using hmx) hd (fun s' v' st ho =>
    hK s' v' ((Step.refl s).transNew st (fun l hl => by have h1 : l.o = s.n + 1 := hl.1; omega)) (by simpa using ho))
end
end Go.Fw

set_option linter.unusedSimpArgs false
set_option linter.unusedVariables false
namespace Go.Fw
section
variable {P : Program} {n : Nat} {Df : Md} {F : Post} {k : List It} {ρ : Env} {w : World}
theorem look_append {ρ1 ρ2 : Env} {t : Nat} {v : Value} (h : look (ρ1 ++ ρ2) t = some v) : look ρ1 t = some v ∨ look ρ2 t = some v := by
  induction ρ1 with
  | nil => exact .inr h
  | cons p r ih =>
    obtain ⟨u, x⟩ := p
    simp only [List.cons_append, look] at h ⊢
    cases e : Nat.beq u t with
    | true => rw [e] at h; exact .inl h
    | false => rw [e] at h; simp only [cond_false] at h ⊢; exact ih h
theorem Ag.sub2 {ρ1 ρ2 : Env} {a : Act} (ha : Ag n Df ρ a) (h1 : Sub ρ ρ1) (h2 : Sub ρ ρ2) : Ag n Df (ρ1 ++ ρ2) a :=
  ⟨ha.size, fun t v e => by
    rcases look_append e with h | h
    · exact ha.get t v (h1.look t v h)
    · exact ha.get t v (h2.look t v h), ha.defers⟩
theorem jBr {X : Type} {body : Code} (ρc : Env) (ρv : X → Env) (inv : X → World → Prop) (μ : X → Nat) (x0 : X) (hc : Sub ρ ρc) (hv : Sub ρ (ρv x0)) (hi : inv x0 w)
    (round : ∀ x w, inv x w → G P n Df F (.code body :: .stop (fun ρ' w' => ∃ x', Sub ρ' (ρv x') ∧ Sub ρ' ρc ∧ inv x' w' ∧ μ x' < μ x) :: k) (ρv x ++ ρc) w) :
    G P n Df F (.code (.loop body) :: k) ρ w := by
  intro a ha
  refine wpIn_loop_ghost (fun m a w => ∃ x, Ag n Df (ρv x ++ ρc) a ∧ inv x w ∧ μ x = m) (μ x0) ⟨x0, ha.sub2 hv hc, hi, rfl⟩ ?_
  rintro m a w ⟨x, hag, hx, rfl⟩
  refine wpIn_mono (round x w hx a hag) ?_
  rintro e a' w' ⟨ρ', hag', hq⟩
  cases e with
  | normal => obtain ⟨x', h1, h1', h2, h3⟩ := hq; exact ⟨μ x', h3, x', hag'.sub2 h1 h1', h2, rfl⟩
  | exit i => exact ⟨ρ', hag', hq⟩
  | goto l => exact ⟨ρ', hag', hq⟩
  | ret => exact ⟨ρ', hag', hq⟩
  | panic ch => exact ⟨ρ', hag', hq⟩
  | outgrown => exact ⟨ρ', hag', hq⟩
theorem jBp {X : Type} {c c2 : Code} {k : List It} (ρc : Env) (ρv : X → Env) (inv : X → World → Prop) (h1 : G P n Df F (.code c :: .stop (fun ρ' w' => ∃ x', Sub ρ' (ρv x') ∧ Sub ρ' ρc ∧ inv x' w') :: .code c2 :: k) ρ w)
    (h2 : ∀ x w, inv x w → G P n Df F (.code c2 :: k) (ρv x ++ ρc) w) : G P n Df F (.code c :: .code c2 :: k) ρ w :=
  k_cut _ h1 (fun ρ' w' ⟨x', q1, q2, q3⟩ a ha => h2 x' w' q3 a (ha.sub2 q1 q2))
end
end Go.Fw

set_option linter.unusedSimpArgs false
set_option linter.unusedVariables false
namespace Go.Fw
def RAW (P : Program) (n : Nat) (Df : Md) (W : Exit → Act → World → Prop) (c : Code) (ρ : Env) (w : World) : Prop := ∀ a, Ag n Df ρ a → c.wpIn (fnc Df.rd) 0 P W a w
def RawF (n : Nat) (Df : Md) (W : Exit → Act → World → Prop) : Post := fun e ρ w => ∀ a, Ag n Df ρ a → W e a w
section
variable {P : Program} {n : Nat} {Df : Md} {W : Exit → Act → World → Prop} {ρ : Env} {w : World} {s : St}
end
end Go.Fw

set_option linter.unusedSimpArgs false
set_option linter.unusedVariables false
namespace Go.Fw
section
variable {P : Program} {n : Nat} {Df : Md} {ops : Array Oper} {K : Lab → Prop} {Fin : Env → St → Prop} {r : List (Bool × Nat)} {i : Nat} {ρ : Env} {s : St}
variable {d j : Nat} {ty : TypeId} {pos : String} {aft : Array Edge} {x y : Operand} {tx : TypeId} {g : Option (Nat × Bool)}
def Wanted (P : Program) (n : Nat) (Df : Md) (ops : Array Oper) (ρ : Env) (o : Oper) : Prop :=
  ∀ Q w, KL P n Df ops Q [{ o with guard := none }] ρ w → KL P n Df ops Q [o] ρ w
theorem wanted_none {o : Oper} (h : o.guard = none) : Wanted P n Df ops ρ o := fun Q w hq => by
  obtain ⟨a, b, c, d, e, g⟩ := o
  simp only at h
  subst h
  exact hq
theorem wanted_yes {o : Oper} {q d : Nat} {b : Bool} (h : o.guard = some (q, b)) (hj : (ops[q]?).bind (·.dst) = some d) (hv : look ρ d = some (.bool b)) : Wanted P n Df ops ρ o := fun Q w hq => by
  obtain ⟨a, b', c, d', e, g⟩ := o
  simp only at h
  subst h
  exact jAn hj hv hq
theorem k_ixaddrP {Q : Post} {rest : List Oper} {w0 : World} {b off cap len w : Nat} {e : TypeId} {k : IntKind} {p : Int} (hT : P.underlying tx = some (.slice e)) (hs : sizeT P e w = true) (hx : ev ρ x = some (.slice (some ⟨b, off, none⟩) len cap)) (hy : ev ρ y = some (.int k p))
    (h0 : 0 ≤ p) (h1 : p < len) (hd : Nat.blt d n = true) (hK : KL P n Df ops Q rest ((d, .pointer (some ⟨b, off + p.toNat * w, none⟩)) :: ρ) w0) :
    KL P n Df ops Q (⟨some d, .indexAddr tx x y, ty, pos, aft, none⟩ :: rest) ρ w0 :=
  .val rfl rfl hd (fun η hη => by simp [execOp, hη.ev hx, hη.ev hy, run_indexAt_slice hT hs h0 h1]) hK
end
end Go.Fw

set_option linter.unusedSimpArgs false
set_option linter.unusedVariables false
namespace Go.Fw
theorem ob {α β : Type} {o : Option α} {f : α → Option β} {r : β} (h : o.bind f = some r) : ∃ x, o = some x ∧ f x = some r := Option.bind_eq_some_iff.1 h
theorem itT {β : Type} {p : Prop} [Decidable p] {a b : Option β} {r : β} (h : (if p then a else b) = some r) (c : p) : a = some r := by rw [if_pos c] at h; exact h
theorem itF {β : Type} {p : Prop} [Decidable p] {a b : Option β} {r : β} (h : (if p then a else b) = some r) (c : ¬ p) : b = some r := by rw [if_neg c] at h; exact h
theorem ibT {β : Type} {c : Bool} {a b : Option β} {r : β} (h : (if c = true then a else b) = some r) (e : c = true) : a = some r := itT h e
theorem ibF {β : Type} {c : Bool} {a b : Option β} {r : β} (h : (if c = true then a else b) = some r) (e : c = false) : b = some r := itF h (by rw [e]; decide)
theorem noneNe {β : Type} {r : β} (h : (none : Option β) = some r) : False := by cases h
def fuG (n : Nat) : Nat := if n = 0 then 1 else 2 * fuG (n - 1)
  termination_by n
  decreasing_by omega
def FU : Nat := fuG 70
theorem FU_ge : 1180591620717411303424 ≤ FU := by simp [FU, fuG]
def geti {α : Type} (l : List α) (i : Int) : Option α := if 0 ≤ i then l[i.toNat]? else none
def subl {α : Type} (l : List α) (a b : Int) : Option (List α) := if 0 ≤ a ∧ a ≤ b ∧ b ≤ l.length then some ((l.drop a.toNat).take (b.toNat - a.toNat)) else none
def app {α : Type} (lim : Nat) (l m : List α) : Option (List α) := if l.length + m.length ≤ lim then some (l ++ m) else none
def makel {α : Type} (lim : Nat) (z : α) (c : Int) : Option (List α) := if 0 ≤ c ∧ c ≤ lim then some (List.replicate c.toNat z) else none
def ofI8 (p : Int) : UInt8 := UInt8.ofNat (p % 256).toNat
def ofI32 (p : Int) : UInt32 := UInt32.ofNat (p % 4294967296).toNat
def ofI64 (p : Int) : UInt64 := UInt64.ofNat (p % 18446744073709551616).toNat
def i64 (p : Int) : Int := IntKind.i64.wrap p
def i32 (p : Int) : Int := IntKind.i32.wrap p
theorem jAk {α : Type} {l : List α} {i : Int} {x : α} (h : geti l i = some x) : 0 ≤ i ∧ i < l.length ∧ l[i.toNat]? = some x := by
  unfold geti at h
  split at h
  · rename_i h0
    have := (List.getElem?_eq_some_iff.1 h).1
    exact ⟨h0, by omega, h⟩
  · cases h
theorem jAr {α : Type} {l : List α} {f : α → D} {i : Int} {x : α} (h : geti l i = some x) : (l.map f)[i.toNat]? = some (f x) := by
  rw [List.getElem?_map, (jAk h).2.2]; rfl
theorem subl_out {α : Type} {l m : List α} {a b : Int} (h : subl l a b = some m) : 0 ≤ a ∧ a ≤ b ∧ b ≤ l.length ∧ m = (l.drop a.toNat).take (b.toNat - a.toNat) := by
  unfold subl at h
  split at h
  · rename_i h0; cases h; exact ⟨h0.1, h0.2.1, h0.2.2, rfl⟩
  · cases h
theorem jAm {α : Type} {lim : Nat} {l m r : List α} (h : app lim l m = some r) : l.length + m.length ≤ lim ∧ r = l ++ m := by
  unfold app at h
  split at h
  · rename_i h0; cases h; exact ⟨h0, rfl⟩
  · cases h
theorem makel_out {α : Type} {lim : Nat} {z : α} {c : Int} {r : List α} (h : makel lim z c = some r) : 0 ≤ c ∧ c ≤ lim ∧ r = List.replicate c.toNat z := by
  unfold makel at h
  split at h
  · rename_i h0; cases h; exact ⟨h0.1, h0.2, rfl⟩
  · cases h
theorem jBs {l : List UInt8} {i : Int} {x : UInt8} (h : geti l i = some x) : l.getD i.toNat 0 = x := by
  rw [List.getD_eq_getElem?_getD, (jAk h).2.2]; rfl
theorem subl_ij {α : Type} {l m : List α} {a b : Int} (h : subl l a b = some m) : a.toNat ≤ b.toNat := by have := subl_out h; omega
theorem subl_j {α : Type} {l m : List α} {a b : Int} (h : subl l a b = some m) : b.toNat ≤ l.length := by have := subl_out h; omega
def jn {α β : Type} (f : α) (g : α → β) : β := g f
theorem jn_out {α β : Type} {f : α} {g : α → Option β} {r : β} (h : jn f g = some r) : ∃ k, k = f ∧ g k = some r := ⟨f, rfl, h⟩
def oc {α β : Type} (o : Option α) (a : β) (f : α → β) : β := match o with | none => a | some x => f x
abbrev dI64 (x : Int) : D := .val (.int .i64 x)
abbrev dI32 (x : Int) : D := .val (.int .i32 x)
abbrev dU32 (x : UInt32) : D := .val (.int .u32 (x.toNat : Int))
abbrev dU64 (x : UInt64) : D := .val (.int .u64 (x.toNat : Int))
abbrev dB (x : Bool) : D := .val (.bool x)
abbrev dS (x : List UInt8) : D := .val (S x)
abbrev dL {α : Type} (w : Nat) (f : α → D) (l : List α) : D := .sl w (l.map f)
abbrev dA {α : Type} (f : α → D) (l : List α) : D := .agg (l.map f)
theorem tmod_nn {p q : Int} (h : 0 ≤ p) : 0 ≤ p.tmod q ∧ p.tmod q ≤ p := by
  refine ⟨Int.tmod_nonneg _ h, ?_⟩
  obtain ⟨a, rfl⟩ := Int.eq_ofNat_of_zero_le h
  obtain ⟨b, rfl | rfl⟩ := Int.eq_nat_or_neg q
  · rw [← Int.ofNat_tmod]; exact Int.ofNat_le.2 (Nat.mod_le _ _)
  · rw [Int.tmod_neg, ← Int.ofNat_tmod]; exact Int.ofNat_le.2 (Nat.mod_le _ _)
theorem w8 (p : Int) : IntKind.u8.wrap p = ((ofI8 p).toNat : Int) := by
  rw [wrap_u8_mod]; unfold ofI8; rw [UInt8.toNat_ofNat']; omega
theorem w32 (p : Int) : IntKind.u32.wrap p = ((ofI32 p).toNat : Int) := by
  rw [wrap_u32_mod]; unfold ofI32; rw [UInt32.toNat_ofNat']; omega
theorem w64 (p : Int) : IntKind.u64.wrap p = ((ofI64 p).toNat : Int) := by
  rw [wrap_u64_mod]; unfold ofI64; rw [UInt64.toNat_ofNat']; omega
theorem i64_eq {p : Int} (h0 : -9223372036854775808 ≤ p) (h1 : p ≤ 9223372036854775807) : i64 p = p := wrap_i64 h0 h1
theorem i64_b8 (x : UInt8) : IntKind.i64.wrap (x.toNat : Int) = (x.toNat : Int) := wrap_i64 (by omega) (by have := x.toNat_lt; omega)
theorem ofI32_nat {p : Int} (h0 : 0 ≤ p) (h1 : p < 4294967296) : ((ofI32 p).toNat : Int) = p := by unfold ofI32; rw [UInt32.toNat_ofNat']; omega
theorem ofI64_nat {p : Int} (h0 : 0 ≤ p) (h1 : p < 18446744073709551616) : ((ofI64 p).toNat : Int) = p := by unfold ofI64; rw [UInt64.toNat_ofNat']; omega
theorem rem32 (x : UInt32) (q : Int) : ((x.toNat : Int)).tmod q = ((ofI32 ((x.toNat : Int).tmod q)).toNat : Int) := by
  have h := tmod_nn (p := (x.toNat : Int)) (q := q) (by omega)
  have := x.toNat_lt
  exact (ofI32_nat h.1 (by omega)).symm
theorem rem64 (x : UInt64) (q : Int) : ((x.toNat : Int)).tmod q = ((ofI64 ((x.toNat : Int).tmod q)).toNat : Int) := by
  have h := tmod_nn (p := (x.toNat : Int)) (q := q) (by omega)
  have := x.toNat_lt
  exact (ofI64_nat h.1 (by omega)).symm
theorem bofI {m : Nat} (a : Nat) : BitVec.ofInt m (a : Int) = BitVec.ofNat m a := BitVec.ofInt_natCast _ _
theorem or8 (x y : UInt8) : IntKind.u8.wrap ((BitVec.ofInt IntKind.u8.bits (x.toNat : Int) ||| BitVec.ofInt IntKind.u8.bits (y.toNat : Int)).toNat : Int) = ((x ||| y).toNat : Int) := by
  have e : (BitVec.ofNat 8 x.toNat ||| BitVec.ofNat 8 y.toNat).toNat = (x ||| y).toNat := by
    rw [BitVec.toNat_or, BitVec.toNat_ofNat, BitVec.toNat_ofNat, Nat.mod_eq_of_lt x.toNat_lt, Nat.mod_eq_of_lt y.toNat_lt, UInt8.toNat_or]
  rw [bofI, bofI]
  show IntKind.u8.wrap (((BitVec.ofNat 8 x.toNat ||| BitVec.ofNat 8 y.toNat).toNat : Nat) : Int) = _
  have h := (x ||| y).toNat_lt
  rw [e, wrap_u8 (by omega) (by omega)]
theorem or32 (x y : UInt32) : IntKind.u32.wrap ((BitVec.ofInt IntKind.u32.bits (x.toNat : Int) ||| BitVec.ofInt IntKind.u32.bits (y.toNat : Int)).toNat : Int) = ((x ||| y).toNat : Int) := by
  have e : (BitVec.ofNat 32 x.toNat ||| BitVec.ofNat 32 y.toNat).toNat = (x ||| y).toNat := by
    rw [BitVec.toNat_or, BitVec.toNat_ofNat, BitVec.toNat_ofNat, Nat.mod_eq_of_lt x.toNat_lt, Nat.mod_eq_of_lt y.toNat_lt, UInt32.toNat_or]
  rw [bofI, bofI]
  show IntKind.u32.wrap (((BitVec.ofNat 32 x.toNat ||| BitVec.ofNat 32 y.toNat).toNat : Nat) : Int) = _
  have h := (x ||| y).toNat_lt
  rw [e, wrap_u32 (by omega) (by omega)]
theorem xor32 (x y : UInt32) : IntKind.u32.wrap ((BitVec.ofInt IntKind.u32.bits (x.toNat : Int) ^^^ BitVec.ofInt IntKind.u32.bits (y.toNat : Int)).toNat : Int) = ((x ^^^ y).toNat : Int) := by
  have e : (BitVec.ofNat 32 x.toNat ^^^ BitVec.ofNat 32 y.toNat).toNat = (x ^^^ y).toNat := by
    rw [BitVec.toNat_xor, BitVec.toNat_ofNat, BitVec.toNat_ofNat, Nat.mod_eq_of_lt x.toNat_lt, Nat.mod_eq_of_lt y.toNat_lt, UInt32.toNat_xor]
  rw [bofI, bofI]
  show IntKind.u32.wrap (((BitVec.ofNat 32 x.toNat ^^^ BitVec.ofNat 32 y.toNat).toNat : Nat) : Int) = _
  have h := (x ^^^ y).toNat_lt
  rw [e, wrap_u32 (by omega) (by omega)]
theorem and64 (x y : UInt64) : IntKind.u64.wrap ((BitVec.ofInt IntKind.u64.bits (x.toNat : Int) &&& BitVec.ofInt IntKind.u64.bits (y.toNat : Int)).toNat : Int) = ((x &&& y).toNat : Int) := by
  have e : (BitVec.ofNat 64 x.toNat &&& BitVec.ofNat 64 y.toNat).toNat = (x &&& y).toNat := by
    rw [BitVec.toNat_and, BitVec.toNat_ofNat, BitVec.toNat_ofNat, Nat.mod_eq_of_lt x.toNat_lt, Nat.mod_eq_of_lt y.toNat_lt, UInt64.toNat_and]
  rw [bofI, bofI]
  show IntKind.u64.wrap (((BitVec.ofNat 64 x.toNat &&& BitVec.ofNat 64 y.toNat).toNat : Nat) : Int) = _
  have h := (x &&& y).toNat_lt
  rw [e, wrap_u64 (by omega) (by omega)]
theorem shrN (a q m : Nat) : ((a : Int)).fdiv (2 ^ (min q m)) = ((a / 2 ^ min q m : Nat) : Int) := by
  rw [Int.fdiv_eq_ediv_of_nonneg _ (by exact_mod_cast Nat.zero_le _)]
  push_cast
  rfl
theorem lt_div {a b m : Nat} (h : a < m) : a / b < m := Nat.lt_of_le_of_lt (Nat.div_le_self _ _) h
def shr64 (x : UInt64) (q : Int) : UInt64 := UInt64.ofNat (x.toNat / 2 ^ min q.toNat 64)
def shr32 (x : UInt32) (q : Int) : UInt32 := UInt32.ofNat (x.toNat / 2 ^ min q.toNat 32)
def shr8 (x : UInt8) (q : Int) : UInt8 := UInt8.ofNat (x.toNat / 2 ^ min q.toNat 8)
theorem shr64_eq (x : UInt64) (q : Int) : ((x.toNat : Int)).fdiv (2 ^ (min q.toNat IntKind.u64.bits)) = ((shr64 x q).toNat : Int) := by
  have h1 : ((x.toNat : Int)).fdiv (2 ^ (min q.toNat 64)) = ((x.toNat / 2 ^ min q.toNat 64 : Nat) : Int) := by
    exact shrN x.toNat q.toNat 64
  have h2 := lt_div (b := 2 ^ min q.toNat 64) x.toNat_lt
  show ((x.toNat : Int)).fdiv (2 ^ (min q.toNat 64)) = _
  rw [h1]; unfold shr64; rw [UInt64.toNat_ofNat', Nat.mod_eq_of_lt h2]
theorem shr32_eq (x : UInt32) (q : Int) : ((x.toNat : Int)).fdiv (2 ^ (min q.toNat IntKind.u32.bits)) = ((shr32 x q).toNat : Int) := by
  have h1 : ((x.toNat : Int)).fdiv (2 ^ (min q.toNat 32)) = ((x.toNat / 2 ^ min q.toNat 32 : Nat) : Int) := by
    exact shrN x.toNat q.toNat 32
  have h2 := lt_div (b := 2 ^ min q.toNat 32) x.toNat_lt
  show ((x.toNat : Int)).fdiv (2 ^ (min q.toNat 32)) = _
  rw [h1]; unfold shr32; rw [UInt32.toNat_ofNat', Nat.mod_eq_of_lt h2]
theorem RC.acons {s : St} {cs : List Value} {d : D} {ds : List D} (h : RC s cs (.agg (d :: ds))) : ∃ c1 c2, cs = c1 ++ c2 ∧ RC s c1 d ∧ RC s c2 (.agg ds) := by
  generalize e : D.agg (d :: ds) = dd at h
  cases h with
  | agg css ds' hl h =>
    cases e
    cases css with
    | nil => simp at hl
    | cons c r =>
      refine ⟨c, r.flatten, by simp, ?_, RC.agg r ds (by simpa using hl) (fun i h1 h2 => ?_)⟩
      · have := h 0 (by simp) (by simp); simpa using this
      · have := h (i + 1) (by simpa using h1) (by simpa using h2); simpa using this
  | _ => cases e
theorem RC.anil {s : St} {cs : List Value} (h : RC s cs (.agg [])) : cs = [] := by
  generalize e : D.agg [] = dd at h
  cases h with
  | agg css ds' hl h =>
    cases e
    cases css with
    | nil => rfl
    | cons c r => simp at hl
  | _ => cases e
theorem RC.mkn {s : St} : RC s [] (.agg []) := RC.agg [] [] rfl (fun i h1 _ => by simp at h1)
theorem RC.mkc {s : St} {c1 c2 : List Value} {d : D} {ds : List D} (h1 : RC s c1 d) (h2 : RC s c2 (.agg ds)) : RC s (c1 ++ c2) (.agg (d :: ds)) := by
  generalize e : D.agg ds = dd at h2
  cases h2 with
  | agg css ds' hl h =>
    cases e
    have := RC.agg (s := s) (c1 :: css) (d :: ds) (by simp [hl]) (fun i h3 h4 => by
      cases i with
      | zero => exact h1
      | succ i => exact h i (by simpa using h3) (by simpa using h4))
    simpa using this
  | _ => cases e
def CellsOf (v : Value) (vs : List Value) : Prop := v.cells.toList = vs ∧ vs.all Value.oneCell' = true
theorem CellsOf.lit {v : Value} {vs : List Value} (h1 : v.cells.toList = vs) (h2 : vs.all Value.oneCell' = true) : CellsOf v vs := ⟨h1, h2⟩
theorem CellsOf.sl {s : St} {l : Lab} {v : Value} {w : Nat} {ds : List D} (h : SL s l v w ds) : CellsOf v [v] := ⟨h.cells1, by simp [h.one1]⟩
theorem CellsOf.rc {s : St} {cs : List Value} {d : D} (h : RC s cs d) : CellsOf (.agg cs.toArray) cs := ⟨rfl, List.all_eq_true.2 h.one_cells⟩
theorem SL.fix {s : St} {l : Lab} {v : Value} {w : Nat} {ds : List D} (h : SL s l v w ds) : ∃ l' : Lab, l'.o ≤ s.n ∧ (∀ k, l.o ≠ k → k ≠ 0 → l'.o ≠ k) ∧ SL s l' v w ds := by
  rcases h with h | ⟨b, off, cap, cs, e, hb, hg, r⟩
  · exact ⟨L0, Nat.zero_le _, fun k _ hk => fun h => hk h.symm, .inl h⟩
  · refine ⟨l, ?_, fun k h _ => h, .inr ⟨b, off, cap, cs, e, hb, hg, r⟩⟩
    have := s.wf b; rw [hg] at this; omega
abbrev KU (K1 K2 : Lab → Prop) : Lab → Prop := fun l => K1 l ∨ K2 l
theorem Step.comp {K K' : Lab → Prop} {a b c : St} (h : Step K a b) (h' : Step K' b c) (hk : ∀ l : Lab, l.o ≤ a.n → K' l → K l) : Step K a c :=
  h.trans h' (fun i hi hl => hk _ (Nat.le_trans (a.wf i) hi) hl)
theorem Own.anew {s : St} {n : Nat} {l : Lab} {e : TypeId} {w : Nat} {v : Value} {ds : List D} (c : Nat) (h : Own s l e w v ds) (hn : n < l.o ∧ l.c = 0) (hs : n ≤ s.n) :
    ∃ l' : Lab, ((l'.o = s.n + 1 ∧ l'.c = c) ∨ (n < l'.o ∧ l'.o ≤ s.n ∧ l'.c = 0)) ∧ Own s l' e w v ds := by
  obtain ⟨h0, h1, xs, ho, hg, hr⟩ := h
  rcases ho.2 with ⟨hv, hz⟩ | ⟨g, cap, cur, hv, r⟩
  · subst hv
    have hd : ds = [] := List.eq_nil_of_length_eq_zero hz
    subst hd
    exact ⟨⟨s.n + 1, c⟩, .inl ⟨rfl, rfl⟩, Own.nil (by simp) (Nat.le_refl _)⟩
  · refine ⟨l, .inr ⟨hn.1, ?_, hn.2⟩, h0, h1, xs, ho, hg, hr⟩
    have hlt := (ho.lt g (by rw [hv]; rfl)).2
    have hl := hg g (by rw [hv]; rfl)
    have hw := s.wf g
    have : s.n = s.w.heap.size := rfl
    rw [hl] at hw
    omega
theorem Own.zero {s : St} {l : Lab} {e : TypeId} {w : Nat} {v : Value} {ds : List D} (h : Own s l e w v ds) : ∃ s', s'.w = s.w ∧ Step (KC l.o l.c) s s' ∧ Own s' ⟨l.o, 0⟩ e w v ds := by
  classical
  obtain ⟨h0, h1, xs, ho, hg, hr⟩ := h
  let s' : St := ⟨s.w, fun b => if v.ownBlock = some b then ⟨l.o, 0⟩ else s.g b, fun b => by
    by_cases hb : v.ownBlock = some b
    · have := s.wf b; rw [hg b hb] at this; simp [hb]; exact this
    · simp [hb]; exact s.wf b⟩
  have hst : Step (KC l.o l.c) s s' := ⟨rfl, rfl, rfl, Nat.le_refl _, fun b hb hk => ⟨rfl, by
    by_cases hvb : v.ownBlock = some b
    · exact absurd ⟨by rw [hg b hvb], by rw [hg b hvb]⟩ hk
    · simp [s', hvb]⟩, fun c hc => h0 hc.1.symm⟩
  exact ⟨s', rfl, hst, h0, h1, xs, ho, fun g hgb => by simp [s', hgb], hr.up hst⟩
theorem Own.le1 {s : St} {l : Lab} {e : TypeId} {w : Nat} {v : Value} {ds : List D} (h : Own s l e w v ds) : l.o ≠ 0 ∧ l.o ≤ s.n + 1 := ⟨h.1, h.2.1⟩
theorem Own.le_ne {s : St} {l : Lab} {e : TypeId} {w : Nat} {v : Value} {ds : List D} (h : Own s l e w v ds) (hne : ds ≠ []) : l.o ≤ s.n := by
  rcases h.sl with ⟨h1, _⟩ | ⟨b, off, cap, cs, e, hb, hg, _⟩
  · exact absurd h1 hne
  · have := s.wf b; rw [hg] at this; omega
section
variable {P : Program} {n : Nat} {Df : Md} {ops : Array Oper} {Q : Post} {rest : List Oper} {ρ : Env} {s : St} {w0 : World}
variable {d : Nat} {ty : TypeId} {pos : String} {aft : Array Edge} {x y : Operand} {tx tyy : TypeId}
theorem jAo {b i m : Nat} {l : Lab} {cs vs cs' : List Value} {T : TypeId} {v : Value} (hT : sizeT P tx m = true) (hx : ev ρ x = some (.pointer (some ⟨b, i, none⟩))) (hy : ev ρ y = some v) (hb : Blk s b l cs T) (hl0 : l.o ≠ 0)
    (hc : CellsOf v vs) (hm : Nat.beq vs.length m = true) (hi : Nat.ble (i + m) cs.length = true) (e : cs.take i ++ vs ++ cs.drop (i + m) = cs')
    (hK : ∀ s', Step (KC l.o l.c) s s' → Blk s' b l cs' T → KL P n Df ops Q rest ρ s'.w) :
    KL P n Df ops Q (⟨none, .store tx x y, ty, pos, aft, none⟩ :: rest) ρ s.w := by
  obtain ⟨h1, h2⟩ := hc
  have hm' : vs.length = m := Nat.eq_of_beq_eq_true hm
  refine k_store_blk hT hx hy hb hl0 (by rw [← Array.length_toList, h1, hm']) (by rw [h1]; exact h2) hi ?_
  rw [h1, e]
  exact hK
theorem jDb {b i m : Nat} {l : Lab} {cs cs' : List Value} {T : TypeId} (hT : aggT P tx m = true) (hx : ev ρ x = some (.pointer (some ⟨b, i, none⟩))) (hb : Blk s b l cs T) (hc : (cs.drop i).take m = cs') (hm : Nat.beq cs'.length m = true) (hd : Nat.blt d n = true)
    (hK : KL P n Df ops Q rest ((d, .agg cs'.toArray) :: ρ) s.w) : KL P n Df ops Q (⟨some d, .load tx x, ty, pos, aft, none⟩ :: rest) ρ s.w := by
  have hm' : cs'.length = m := Nat.eq_of_beq_eq_true hm
  refine .val rfl rfl hd (v := .agg cs'.toArray) (fun η ha => ?_) hK
  have hv : ∀ j, j < cs'.length → s.w.cell? ⟨b, i + j, none⟩ = cs'[j]? := by
    intro j hj
    rw [hb.cell, ← hc, List.getElem?_take, if_pos (by omega), List.getElem?_drop]
  simp [execOp, ha.ev hx, Instr.loadAt, Instr.sureAddr, run_loadVar_agg (by rw [hm']; exact hT) hv]
theorem CutAt.len {dflt i : Nat} (h : i = dflt) : CutAt ρ dflt Option.none i := h
theorem jBb {l : List Oper} (t : Nat) {v : Value} (hl : look ρ t = some v) (h : KL P n Df ops Q l ((t, v) :: ρ) w0) : KL P n Df ops Q l ρ w0 := by
  intro a ha
  refine h a ⟨ha.size, fun u z e => ?_, ha.defers⟩
  simp only [look] at e
  by_cases q : t = u
  · subst q; simp at e; subst e; exact ha.get t v hl
  · have e' : Nat.beq t u = false := by rw [← Bool.not_eq_true, Nat.beq_eq]; exact q
    rw [e'] at e; exact ha.get u z e
theorem jCb {dst : Option Tmp} {op : Op} {ty : TypeId} {pos : String} {aft : Array Edge} {j d : Nat} {b : Bool} {t : Nat}
    (hj : (ops[j]?).bind (·.dst) = some d) (hv : look ρ d = some undef) (hd : dst = some t) (hdn : Nat.blt t n = true)
    (h : KL P n Df ops Q rest ((t, undef) :: ρ) w0) : KL P n Df ops Q (⟨dst, op, ty, pos, aft, some (j, b)⟩ :: rest) ρ w0 := by
  intro a ha
  have hy : yielded ops a.tmps j = none := by
    have h1 := ha.get d _ hv
    unfold yielded
    rw [hj]
    rw [Array.getD_eq_getD_getElem?] at h1
    simp only [Option.bind_some]
    cases hq : a.tmps[d]? with
    | none => rfl
    | some q => rw [hq] at h1; simp at h1; simp [h1, undef]
  unfold wpListIn
  have e2 : Region.wanted ⟨dst, op, ty, pos, aft, some (j, b)⟩ (yielded ops a.tmps) = false := by simp [Region.wanted, hy]
  rw [if_neg (by rw [e2]; simp)]
  subst hd
  exact ⟨fun _ _ => trivial, h _ (ha.put hdn _)⟩
theorem upon_map {r : Option Nat} {Q1 Q2 : Exit → Act → World → Prop} {o : Oper} {a : Act} {w : World} {K K' : Act → World → Prop} (hk : ∀ a w, K a w → K' a w) (hq1 : ∀ ch a' w', ¬ Q1 (.panic ch) a' w') (hq2 : ¬ LetsOut Q1) (h : o.wpIn (fnc r) 0 P a w K Q1) : o.wpIn (fnc r) 0 P a w K' Q2 := by
  unfold Oper.wpIn at *
  refine ⟨h.1, ?_⟩
  have h := h.2
  generalize (o.semAt (fnc r).round a.eval).run P w = r at *
  cases r with
  | ok nx w' =>
    cases nx with
    | value v => exact hk _ _ h
    | skip => exact hk _ _ h
    | defer dd => exact hk _ _ h
    | enter f args =>
      simp only [Oper.uponIn] at h ⊢
      exact ⟨h.1, CallsIn.mono h.2 (fun e w'' he => by
        cases e with
        | returned v => exact hk _ _ he
        | panicked ch => exact absurd he (hq1 _ _ _)
        | outgrown => exact absurd he hq2)⟩
    | row row args =>
      simp only [Oper.uponIn] at h ⊢
      exact ⟨h.1, RowsIn.mono h.2 (fun v w'' he => hk _ _ he)⟩
    | round l f tmps assign body =>
      simp only [Oper.uponIn] at h ⊢
      exact ⟨h.1, RoundIn.mono h.2 (fun e w'' he => by
        cases e with
        | returned v => exact hk _ _ he
        | panicked ch => exact absurd he (hq1 _ _ _)
        | outgrown => exact absurd he hq2)⟩
    | _ => exact h.elim
  | halt x w' =>
    cases x <;> simp only [Oper.uponIn] at h ⊢ <;> first | exact absurd h (hq1 _ _ _) | exact h
theorem wpList_cat {rr : Option Nat} {Q1 Q2 : Exit → Act → World → Prop} (hq1 : ∀ ch a' w', ¬ Q1 (.panic ch) a' w') (hq2 : ¬ LetsOut Q1) {l2 : List Oper} (hq : ∀ a w, Q1 .normal a w → wpListIn (fnc rr) 0 P ops Q2 l2 a w) : ∀ (l1 : List Oper) (a : Act) (w : World), wpListIn (fnc rr) 0 P ops Q1 l1 a w → wpListIn (fnc rr) 0 P ops Q2 (l1 ++ l2) a w
  | [], a, w, h => hq a w h
  | o :: r, a, w, h => by
    simp only [List.cons_append, wpListIn] at h ⊢
    by_cases hw : Region.wanted o (yielded ops a.tmps) = true
    · rw [if_pos hw] at h ⊢
      exact upon_map (fun a w hh => wpList_cat hq1 hq2 hq r a w hh) hq1 hq2 h
    · rw [if_neg hw] at h ⊢
      exact ⟨h.1, wpList_cat hq1 hq2 hq r _ _ h.2⟩
theorem jBm {X : Type} {l : List Oper} (m : Nat) (ρc : Env) (ρv : X → Env) (inv : X → World → Prop)
    (h1 : KL P n Df ops (fun e ρ' w' => e = .normal ∧ ∃ x, Sub ρ' (ρv x) ∧ Sub ρ' ρc ∧ inv x w') (l.take m) ρ w0)
    (h2 : ∀ x w, inv x w → KL P n Df ops Q (l.drop m) (ρv x ++ ρc) w) : KL P n Df ops Q l ρ w0 := by
  intro a ha
  have h := h1 a ha
  rw [← List.take_append_drop m l]
  refine wpList_cat ?_ ?_ ?_ _ _ _ h
  · rintro ch a' w' ⟨ρ', _, e, _⟩; cases e
  · rintro ⟨a', w', ρ', _, e, _⟩; cases e
  · rintro a' w' ⟨ρ', hag, _, x, q1, q2, q3⟩
    exact h2 x w' q3 a' (hag.sub2 q1 q2)
theorem jBc {φ : Env → World → Prop} (h : φ ρ w0) : KL P n Df ops (fun e ρ' w' => e = .normal ∧ φ ρ' w') [] ρ w0 := fun a ha => ⟨ρ, ha, rfl, h⟩
end
end Go.Fw

set_option linter.unusedSimpArgs false
set_option linter.unusedVariables false
namespace Go.Fw
theorem RCs.drop {s : St} {w : Nat} {xs : List Value} {ds : List D} (h : RCs s w xs ds) (k : Nat) : RCs s w (xs.drop (k * w)) (ds.drop k) := by
  refine ⟨by rw [List.length_drop, List.length_drop, h.1, Nat.sub_mul], fun i hi => ?_⟩
  have hi' : k + i < ds.length := by rw [List.length_drop] at hi; omega
  have h2 := h.2 (k + i) hi'
  rw [List.getElem_drop, List.drop_drop, ← Nat.add_mul]
  exact h2
theorem RCs.take {s : St} {w : Nat} {xs : List Value} {ds : List D} (h : RCs s w xs ds) (k : Nat) : RCs s w (xs.take (k * w)) (ds.take k) := by
  refine ⟨by rw [List.length_take, List.length_take, h.1]; rcases Nat.le_total k ds.length with hh | hh <;> simp [Nat.min_eq_left, Nat.min_eq_right, hh, Nat.mul_le_mul_right], fun i hi => ?_⟩
  have hi' : i < k ∧ i < ds.length := by rw [List.length_take] at hi; omega
  have h2 := h.2 i hi'.2
  rw [List.getElem_take]
  have e : ((xs.take (k * w)).drop (i * w)).take w = (xs.drop (i * w)).take w := by
    have hm : i * w + w ≤ k * w := by
      calc i * w + w = (i + 1) * w := by rw [Nat.add_mul, Nat.one_mul]
        _ ≤ k * w := Nat.mul_le_mul_right _ hi'.1
    rw [List.drop_take, List.take_take]
    congr 1
    omega
  rw [e]
  exact h2
section
variable {P : Program} {n : Nat} {Df : Md} {ops : Array Oper} {Q : Post} {rest : List Oper} {ρ : Env} {s : St} {w0 : World}
variable {d : Nat} {ty : TypeId} {pos : String} {aft : Array Edge} {x y : Operand} {tx tyy : TypeId}
def cpy {α : Type} (l m : List α) : List α := m.take l.length ++ l.drop m.length
end
end Go.Fw
namespace Go.Fw
section
variable {P : Program} {n : Nat} {Df : Md} {ops : Array Oper} {Q : Post} {rest : List Oper} {ρ : Env} {s : St} {w0 : World}
variable {d : Nat} {ty : TypeId} {pos : String} {aft : Array Edge} {x y : Operand} {tx tyy : TypeId}
end
end Go.Fw

set_option linter.unusedSimpArgs false
set_option linter.unusedVariables false
namespace Go.Fw
def resOK (P : Program) (ρ : Env) (w : World) : ResultVar → Value → Prop
  | .tmp t, v => look ρ t = some v
  | .cell t ty, v => ∃ a, look ρ t = some (.pointer (some a)) ∧ (loadVar ty a).run P w = .ok v w
def resAll (P : Program) (ρ : Env) (w : World) : List ResultVar → List Value → Prop
  | [], [] => True
  | r :: rs, v :: vs => resOK P ρ w r v ∧ resAll P ρ w rs vs
  | _, _ => False
def RetFc (P : Program) (rs : List ResultVar) (T : Ending → World → Prop) : Post
  | .normal, ρ, w => ∃ vs, resAll P ρ w rs vs ∧ T (.returned (one vs)) w
  | .ret, ρ, w => ∃ vs, resAll P ρ w rs vs ∧ T (.returned (one vs)) w
  | _, _, _ => False
def resDo (tmps : Array Value) : ResultVar → Sem Value
  | .tmp t => pure (tmps.getD t undef)
  | .cell a t => do loadVar t (← asAddr (tmps.getD a undef))
theorem resDo_run {P : Program} {n : Nat} {Df : Md} {ρ : Env} {a : Act} {w : World} (h : Ag n Df ρ a) {r : ResultVar} {v : Value} (hr : resOK P ρ w r v) : (resDo a.tmps r).run P w = .ok v w := by
  cases r with
  | tmp t =>
    have := h.get t v hr
    simp only [resDo, this]; rfl
  | cell t ty =>
    obtain ⟨ad, h1, h2⟩ := hr
    have := h.get t _ h1
    simp only [resDo, this, asAddr, Sem.run_bind]
    simpa [Result.andThen] using h2
theorem results_c {P : Program} {n : Nat} {Df : Md} {ρ : Env} {a : Act} {w : World} {fn : Func} {rs : List ResultVar} {vs : List Value} (h : Ag n Df ρ a) (hr : fn.results = rs.toArray) (hl : Nat.ble rs.length 4 = true) (hv : resAll P ρ w rs vs) :
    (results fn a.tmps).run P w = .ok (one vs) w := by
  have e : results fn a.tmps = (do
      let vs ← rs.toArray.mapM (resDo a.tmps)
      pure (if h : vs.size = 1 then vs[0] else .tuple vs)) := by
    unfold results
    rw [hr]
    congr 1
  rw [e]
  match rs, vs, hl, hv with
  | [], [], _, _ => simp [one]
  | [r], [v], _, ⟨h1, _⟩ => simp [resDo_run h h1, one]
  | [r, r2], [v, v2], _, ⟨h1, h2, _⟩ => simp [resDo_run h h1, resDo_run h h2, one]
  | [r, r2, r3], [v, v2, v3], _, ⟨h1, h2, h3, _⟩ => simp [resDo_run h h1, resDo_run h h2, resDo_run h h3, one]
  | [r, r2, r3, r4], [v, v2, v3, v4], _, ⟨h1, h2, h3, h4, _⟩ => simp [resDo_run h h1, resDo_run h h2, resDo_run h h3, resDo_run h h4, one]
  | _ :: _ :: _ :: _ :: _ :: _, _, h, _ => simp at h
theorem jCy {P : Program} {w : World} {f : FuncId} {fn : Func} {c : Code} {args : List Value} {rs : List ResultVar} {T : Ending → World → Prop} (hf : P.funcs[f]? = some fn) (hb : fn.body = some c)
    (hr : fn.results = rs.toArray) (hl : Nat.ble rs.length 4 = true) (hn : Nat.ble args.length fn.ntmps = true)
    (h : G P fn.ntmps M0 (RetFc P rs T) [.code c] (start 0 args) w) : Calls P f args.toArray w T := by
  refine in_calls (callsIn_of_wp (F := fnc none) hf hb trivial (wpIn_mono (h _ ?_) ?_))
  · have hn' : args.length ≤ fn.ntmps := by simpa using hn
    refine ⟨by simp; omega, ?_, rfl⟩
    intro t v e
    obtain ⟨_, h2⟩ := start_look args 0 t v e
    have h3 : t < args.length := (List.getElem?_eq_some_iff.1 h2).1
    simp only [Nat.sub_zero] at h2
    rw [List.getElem?_eq_getElem h3] at h2
    simpa [Array.getD_eq_getD_getElem?, Array.getElem?_append, h3] using h2
  · rintro e a' w' ⟨ρ', hag, hq⟩
    cases e with
    | normal =>
      obtain ⟨vs, h1, h2⟩ := hq
      exact ⟨hag.defers, one vs, results_c hag hr hl h1, h2⟩
    | ret =>
      obtain ⟨vs, h1, h2⟩ := hq
      exact ⟨hag.defers, one vs, results_c hag hr hl h1, h2⟩
    | exit i => exact hq.elim
    | goto l => exact hq.elim
    | panic ch => exact hq.elim
    | outgrown => exact hq.elim
theorem res_blk {P : Program} {s : St} {ρ : Env} {t ty b : Nat} {l : Lab} {cs : List Value} {T : TypeId} (hx : look ρ t = some (.pointer (some ⟨b, 0, none⟩))) (hT : aggT P ty cs.length = true) (hb : Blk s b l cs T) : resOK P ρ s.w (.cell t ty) (.agg cs.toArray) :=
  ⟨_, hx, run_loadVar_agg hT (fun j hj => by rw [hb.cell, Nat.zero_add])⟩
def EltO (w : Nat) (v : Value) (i o : Nat) (p : Value) : Prop := ∃ g len cap, v = .slice (some ⟨g, 0, none⟩) len cap ∧ p = .pointer (some ⟨g, i * w + o, none⟩)
section
variable {P : Program} {n : Nat} {Df : Md} {ops : Array Oper} {Q : Post} {rest : List Oper} {ρ : Env} {s : St} {w0 : World}
variable {d : Nat} {ty : TypeId} {pos : String} {aft : Array Edge} {x y : Operand} {tx tyy : TypeId}
end
end Go.Fw
