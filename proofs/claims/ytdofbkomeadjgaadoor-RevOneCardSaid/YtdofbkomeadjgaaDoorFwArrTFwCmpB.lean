import Derived.Test.YtdofbkomeadjgaaDoorFwTabFwVW
import Derived.Stop.BytesEq
import Derived.Lib.Bytealg
set_option linter.unusedSimpArgs false
set_option linter.unusedVariables false
namespace Go.Fw
/-! Arrays of a few numbers that lie within structs, or are indexed openly. -/
def seti {α : Type} (l : List α) (i : Int) (v : α) : Option (List α) := if 0 ≤ i ∧ i < l.length then some (l.set i.toNat v) else none
theorem seti_out {α : Type} {l z : List α} {i : Int} {v : α} (h : seti l i v = some z) : 0 ≤ i ∧ i < l.length ∧ z = l.set i.toNat v ∧ z.length = l.length := by
  unfold seti at h
  split at h
  · rename_i h0
    cases h
    exact ⟨h0.1, h0.2, rfl, List.length_set⟩
  · cases h
theorem lit8 {α : Type} {l : List α} (h : l.length = 8) (d : α) : l = [l.getD 0 d, l.getD 1 d, l.getD 2 d, l.getD 3 d, l.getD 4 d, l.getD 5 d, l.getD 6 d, l.getD 7 d] := by
  match l, h with
  | [_, _, _, _, _, _, _, _], _ => rfl
theorem lit16 {α : Type} {l : List α} (h : l.length = 16) (d : α) : l = [l.getD 0 d, l.getD 1 d, l.getD 2 d, l.getD 3 d, l.getD 4 d, l.getD 5 d, l.getD 6 d, l.getD 7 d, l.getD 8 d, l.getD 9 d, l.getD 10 d, l.getD 11 d, l.getD 12 d, l.getD 13 d, l.getD 14 d, l.getD 15 d] := by
  match l, h with
  | [_, _, _, _, _, _, _, _, _, _, _, _, _, _, _, _], _ => rfl
theorem Blk.litE {s : St} {b : Nat} {l : Lab} {T : TypeId} {α : Type} {f : α → Value} {pre post : List Value} {z y : List α} (h : Blk s b l (pre ++ (z.map f ++ post)) T) (e : z = y) : Blk s b l (pre ++ (y.map f ++ post)) T := e ▸ h
section
variable {P : Program} {n : Nat} {Df : Md} {ops : Array Oper} {Q : Post} {rest : List Oper} {ρ : Env} {s : St} {w0 : World}
variable {d : Nat} {ty : TypeId} {pos : String} {aft : Array Edge} {x y z : Operand} {tx tyy : TypeId} {α : Type}
theorem k_load_el2 {b m : Nat} {p : Int} {zz : α} (f : α → Value) {pre post : List Value} {xs : List α} {l : Lab} {T : TypeId} (hT : oneT P tx = true) (hx : ev ρ x = some (.pointer (some ⟨b, m + p.toNat, none⟩))) (hb : Blk s b l (pre ++ (xs.map f ++ post)) T) (hm : pre.length = m) (hg : geti xs p = some zz) (hd : Nat.blt d n = true)
    (hK : KL P n Df ops Q rest ((d, f zz) :: ρ) s.w) : KL P n Df ops Q (⟨some d, .load tx x, ty, pos, aft, none⟩ :: rest) ρ s.w := by
  obtain ⟨h0, h1, h2⟩ := geti_out hg
  refine k_load_blk hT hx hb ?_ hd hK
  have hj : p.toNat < xs.length := by omega
  rw [List.getElem?_append_right (by omega), hm, show m + p.toNat - m = p.toNat by omega, List.getElem?_append_left (by rw [List.length_map]; exact hj), List.getElem?_map, h2]
  rfl
theorem k_store_el2 {b m : Nat} {p : Int} {v : α} (f : α → Value) (hf : ∀ x, (f x).oneCell' = true) {pre post : List Value} {xs zs : List α} {l : Lab} {T : TypeId} (hT : sizeT P tx 1 = true) (hx : ev ρ x = some (.pointer (some ⟨b, m + p.toNat, none⟩))) (hy : ev ρ y = some (f v)) (hb : Blk s b l (pre ++ (xs.map f ++ post)) T) (hl0 : l.o ≠ 0) (hm : pre.length = m) (hg : seti xs p v = some zs)
    (hK : ∀ s', Step (KC l.o l.c) s s' → Blk s' b l (pre ++ (zs.map f ++ post)) T → KL P n Df ops Q rest ρ s'.w) :
    KL P n Df ops Q (⟨none, .store tx x y, ty, pos, aft, none⟩ :: rest) ρ s.w := by
  obtain ⟨h0, h1, h2, h3⟩ := seti_out hg
  have hlen : (pre ++ (xs.map f ++ post)).length = m + (xs.length + post.length) := by rw [List.length_append, List.length_append, List.length_map, hm]
  have e : (pre ++ (xs.map f ++ post)).take (m + p.toNat) ++ [f v] ++ (pre ++ (xs.map f ++ post)).drop (m + p.toNat + 1) = pre ++ (zs.map f ++ post) := by
    have hj : p.toNat < xs.length := by omega
    rw [h2]
    generalize p.toNat = j at hj
    subst hm
    rw [List.take_append, List.drop_append, List.take_of_length_le (by omega), List.drop_eq_nil_of_le (by omega), List.nil_append, show pre.length + j - pre.length = j by omega, show pre.length + j + 1 - pre.length = j + 1 by omega,
      List.take_append_of_le_length (by rw [List.length_map]; omega), List.drop_append_of_le_length (by rw [List.length_map]; omega), List.set_eq_take_append_cons_drop, if_pos hj]
    simp [List.map_take, List.map_drop]
  have hble : Nat.ble (m + p.toNat + 1) (pre ++ (xs.map f ++ post)).length = true := by simp only [Nat.ble_eq, hlen]; omega
  refine k_store_c (cs' := pre ++ (zs.map f ++ post)) hT hx hy hb hl0 (CellsOf.lit (vs := [f v]) ?_ ?_) rfl hble e hK
  · exact cells1 (hf v)
  · simp [hf]
/-- A cut of a row that is a part of a block. -/
theorem k_cut_pt {t e q b m : Nat} {g : α → D} (f : α → Value) (hfg : ∀ x, g x = .val (f x)) (hf : ∀ x, (f x).oneCell' = true) {pre post : List Value} {xs : List α} {l : Lab} {T : TypeId} {lo hi : Option Operand} {i j : Nat} (hT : arrT P t e q 1) (hx : ev ρ x = some (.pointer (some ⟨b, m, none⟩))) (hb : Blk s b l (pre ++ (xs.map f ++ post)) T) (hm : pre.length = m) (hl : xs.length = q)
    (hlo : CutAt ρ 0 lo i) (hhi : CutAt ρ q hi j) (hij : i ≤ j) (hj : j ≤ q) (hiq : i < q) (hd : Nat.blt d n = true)
    (hK : SL s l (.slice (some ⟨b, m + i, none⟩) (j - i) (q - i)) 1 (((xs.drop i).take (j - i)).map g) → KL P n Df ops Q rest ((d, .slice (some ⟨b, m + i, none⟩) (j - i) (q - i)) :: ρ) s.w) :
    KL P n Df ops Q (⟨some d, .slice t x lo hi none, ty, pos, aft, none⟩ :: rest) ρ s.w := by
  obtain ⟨hu, hs⟩ := hT
  have hlo := hlo.lo
  have hhi := hhi.hi
  have hne : ¬ q = i := by omega
  have hadd : ((⟨b, m, none⟩ : Addr).add (i * 1)) = ⟨b, m + i, none⟩ := by rw [Nat.mul_one]; unfold Addr.add; split <;> simp_all
  have hrun : ∀ η : Operand → Value, Agr ρ η → (execOp η ⟨some d, .slice t x lo hi none, ty, pos, aft, none⟩).run P s.w = .ok (.value (.slice (some (if q = i then ⟨b, m, none⟩ else Addr.add ⟨b, m, none⟩ (i * 1))) (j - i) (q - i))) s.w := by
    intro η hη
    cases lo with
    | none =>
      simp only at hlo
      subst hlo
      cases hi with
      | none => simp only at hhi; subst hhi; simp [execOp, hη.ev hx, Instr.sliceAt, Instr.sureAddr, Instr.sliceBounds, run_underlying hu, run_sizeOf hs]
      | some z => obtain ⟨k, hz⟩ := hhi; simp [execOp, hη.ev hx, hη.ev hz, Instr.sliceAt, Instr.sureAddr, Instr.sliceBounds, Instr.sliceBound, asIntOf, run_underlying hu, run_sizeOf hs, hj]
    | some yy =>
      obtain ⟨k, hy⟩ := hlo
      cases hi with
      | none => simp only at hhi; subst hhi; simp [execOp, hη.ev hx, hη.ev hy, Instr.sliceAt, Instr.sureAddr, Instr.sliceBounds, Instr.sliceBound, asIntOf, run_underlying hu, run_sizeOf hs, hij]
      | some z => obtain ⟨k', hz⟩ := hhi; simp [execOp, hη.ev hx, hη.ev hy, hη.ev hz, Instr.sliceAt, Instr.sureAddr, Instr.sliceBounds, Instr.sliceBound, asIntOf, run_underlying hu, run_sizeOf hs, hij, hj]
  rw [if_neg hne, hadd] at hrun
  refine .val rfl rfl hd hrun (hK ?_)
  have hlen : (((xs.drop i).take (j - i)).map g).length = j - i := by rw [List.length_map, List.length_take, List.length_drop]; omega
  refine .inr ⟨b, m + i, q - i, fun k => [((xs[i + k]?).map f).getD .nilIface], by rw [hlen], hb.lt, hb.lab, by omega, fun k hk => rfl, fun k hk c hc => ?_, fun k hk => ?_⟩
  · have hk' : i + k < xs.length := by rw [hlen] at hk; omega
    obtain rfl : c = 0 := by omega
    have h1 := hb.cell (m + (i + k))
    rw [List.getElem?_append_right (by omega), hm, show m + (i + k) - m = i + k by omega, List.getElem?_append_left (by rw [List.length_map]; exact hk'), List.getElem?_map, List.getElem?_eq_getElem hk'] at h1
    simp only [Nat.mul_one, Nat.add_zero, List.getElem?_eq_getElem hk', Nat.add_assoc]
    exact h1
  · have hk' : i + k < xs.length := by rw [hlen] at hk; omega
    simp only [List.getElem?_eq_getElem hk', List.getElem_map, List.getElem_take, List.getElem_drop, Option.map_some, Option.getD_some, hfg]
    exact .val _ (hf _)
theorem RCs.vals {w : Nat} {s : St} {f : α → Value} {g : α → D} (hfg : ∀ x, g x = .val (f x)) {xs : List Value} {ys : List α} (h : RCs s 1 xs (ys.map g)) : xs = ys.map f := by
  have hl : xs.length = ys.length := by have := h.1; rw [List.length_map] at this; omega
  refine List.ext_getElem (by rw [hl, List.length_map]) fun i h1 h2 => ?_
  have hi : i < (ys.map g).length := by rw [List.length_map]; omega
  have hr := h.2 i hi
  have hy : i < ys.length := by omega
  rw [Nat.mul_one, List.getElem_map, hfg] at hr
  have := hr.val_inv
  have e : (xs.drop i).take 1 = [xs[i]] := by rw [List.drop_eq_getElem_cons h1]; rfl
  rw [e] at this
  rw [List.getElem_map]
  exact (List.cons.inj this).1
/-- copy onto a cut of such a row. -/
theorem run_copyA {b m i j q : Nat} {l lx : Lab} {dT sT e bytes : Nat} {zz vy : Value} {g : α → D} (f : α → Value) (hfg : ∀ x, g x = .val (f x)) (hf : ∀ x, (f x).oneCell' = true) {pre post : List Value} {xs ys : List α} {T : TypeId} (hT : elemT P dT e 1 bytes zz)
    (hb : Blk s b l (pre ++ (xs.map f ++ post)) T) (hl0 : l.o ≠ 0) (hm : pre.length = m) (hl : xs.length = q) (hij : i ≤ j) (hj : j ≤ q) (hs : SL s lx vy 1 (ys.map g)) :
    ∃ s', Step (KC l.o l.c) s s' ∧ Blk s' b l (pre ++ ((xs.take i ++ (ys.take (j - i) ++ xs.drop (i + min ys.length (j - i)))).map f ++ post)) T ∧ (Builtin.copy_ #[dT, sT] ty #[.slice (some ⟨b, m + i, none⟩) (j - i) (q - i), vy]).run P s.w = .ok (goInt ((min ys.length (j - i) : Nat) : Int)) s'.w := by
  obtain ⟨i', h1, h2, h3, h4, h5, h6, h7⟩ := hT
  have hsz : (P.info? e).map (·.size) = some 1 := by rw [h2]; simp [h4]
  have hyl : (ys.map g).length = ys.length := List.length_map ..
  by_cases h0 : min ys.length (j - i) = 0
  · obtain ⟨a2, cap2, hvy, hz2⟩ := hs.val
    rw [hyl] at hvy
    have hrun := run_copy_none (P := P) s.w dT sT ty e (some ⟨b, m + i, none⟩) a2 (j - i) (q - i) ys.length cap2 h1 hsz h0
    refine ⟨s, (Step.refl s).of0 (fun c hc => hl0 hc.1.symm), ?_, ?_⟩
    · have e1 : xs.take i ++ (ys.take (j - i) ++ xs.drop (i + min ys.length (j - i))) = xs := by
        have : ys.take (j - i) = [] := List.eq_nil_of_length_eq_zero (by rw [List.length_take]; omega)
        rw [this, h0, Nat.add_zero, List.nil_append, List.take_append_drop]
      rw [e1]; exact hb
    · rw [hvy, hrun, h0]; rfl
  · rcases hs.cells with ⟨he, _⟩ | ⟨b2, off, cap3, zs, hvy', hr, hc⟩
    · rw [List.map_eq_nil_iff] at he; subst he; simp at h0
    · rw [hyl] at hvy'
      have hzs := RCs.vals (w := 1) hfg hr
      subst hzs
      have hl1 : ((ys.map f).take (j - i)).length = Nat.min ys.length (j - i) * 1 := by rw [List.length_take, List.length_map, Nat.mul_one]; exact Nat.min_comm ..
      obtain ⟨fr, hheap, hfr⟩ := hb.heap
      have hclen : (pre ++ (xs.map f ++ post)).length = m + (q + post.length) := by rw [List.length_append, List.length_append, List.length_map, hm, hl]
      have hlt2 : ((ys.map f).take (j - i)).length ≤ j - i := by rw [List.length_take]; omega
      have hrun := run_copy_cellsK (P := P) s.w dT sT ty e 1 b (m + i) (j - i) (q - i) ⟨b2, off, none⟩ ys.length cap3 ((ys.map f).take (j - i)) h1 hsz hl1
        (fun k u hu => by
          rw [List.getElem?_take] at hu
          split at hu
          · exact hc k u hu
          · cases hu)
        (fun k hk => by rw [hb.cell, List.getElem?_eq_getElem (by omega)]; rfl) (fun k hk => hb.frozen _ (by omega))
        (fun u hu => by
          have hu' := List.mem_of_mem_take hu
          obtain ⟨w, _, rfl⟩ := List.mem_map.1 hu'
          exact hf w)
      have hle : m + i + ((ys.map f).take (j - i)).length ≤ (pre ++ (xs.map f ++ post)).length := by omega
      have hst := hb.store hl0 (m + i) ((ys.map f).take (j - i)) hle
      refine ⟨_, hst.1, ?_, ?_⟩
      · have e1 : (pre ++ (xs.map f ++ post)).take (m + i) ++ (ys.map f).take (j - i) ++ (pre ++ (xs.map f ++ post)).drop (m + i + ((ys.map f).take (j - i)).length) = pre ++ ((xs.take i ++ (ys.take (j - i) ++ xs.drop (i + min ys.length (j - i)))).map f ++ post) := by
          have hk : ((ys.map f).take (j - i)).length = min ys.length (j - i) := by rw [List.length_take, List.length_map, Nat.min_comm]
          rw [hk]
          subst hm
          rw [List.take_append, List.drop_append, List.take_of_length_le (by omega), List.drop_eq_nil_of_le (by omega), List.nil_append, show pre.length + i - pre.length = i by omega, show pre.length + i + min ys.length (j - i) - pre.length = i + min ys.length (j - i) by omega,
            List.take_append_of_le_length (by rw [List.length_map]; omega), List.drop_append_of_le_length (by rw [List.length_map]; omega)]
          simp [List.map_take, List.map_drop]
        exact e1 ▸ hst.2
      · rw [hvy', hrun]; rfl
/-- A row, from i to j of which another one has been copied. -/
def cpyAt {α : Type} (xs : List α) (i j : Nat) (ys : List α) : List α := xs.take i ++ (ys.take (j - i) ++ xs.drop (i + min ys.length (j - i)))
theorem cpyAt_len {α : Type} {xs ys : List α} {i j q : Nat} (hl : xs.length = q) (hij : i ≤ j) (hj : j ≤ q) : (cpyAt xs i j ys).length = q := by
  unfold cpyAt
  simp only [List.length_append, List.length_take, List.length_drop]
  omega
theorem k_copyA {b m i j q : Nat} {l lx : Lab} {dT sT e bytes : Nat} {zz vy : Value} {g : α → D} (f : α → Value) (hfg : ∀ x, g x = .val (f x)) (hf : ∀ x, (f x).oneCell' = true) {pre post : List Value} {xs ys : List α} {T : TypeId} (hT : elemT P dT e 1 bytes zz)
    (hx : ev ρ x = some (.slice (some ⟨b, m + i, none⟩) (j - i) (q - i))) (hy : ev ρ y = some vy) (hb : Blk s b l (pre ++ (xs.map f ++ post)) T) (hl0 : l.o ≠ 0) (hm : pre.length = m) (hl : xs.length = q) (hij : i ≤ j) (hj : j ≤ q) (hs : SL s lx vy 1 (ys.map g)) (hd : Nat.blt d n = true)
    (hK : ∀ s', Step (KC l.o l.c) s s' → Blk s' b l (pre ++ ((cpyAt xs i j ys).map f ++ post)) T → KL P n Df ops Q rest ((d, .int .i64 ((min ys.length (j - i) : Nat) : Int)) :: ρ) s'.w) :
    KL P n Df ops Q (⟨some d, .call { callee := .builtin .copy, args := [x, y].toArray, argTypes := [dT, sT].toArray }, ty, pos, aft, none⟩ :: rest) ρ s.w := by
  obtain ⟨s', st, ho, hrun⟩ := run_copyA (P := P) (ty := ty) (dT := dT) (sT := sT) f hfg hf hT hb hl0 hm hl hij hj hs
  refine .val rfl rfl hd (v := .int .i64 ((min ys.length (j - i) : Nat) : Int)) (w' := s'.w) (fun η ha => ?_) (hK s' st ho)
  simp [execOp, resolve, invoke, builtin, ha.ev hx, ha.ev hy, hrun, goInt]
theorem Blk.tl {b : Nat} {l : Lab} {T : TypeId} {f : α → Value} {pre : List Value} {xs : List α} (h : Blk s b l (pre ++ xs.map f) T) : Blk s b l (pre ++ (xs.map f ++ [])) T := by rw [List.append_nil]; exact h
theorem Blk.tl' {b : Nat} {l : Lab} {T : TypeId} {f : α → Value} {pre : List Value} {xs : List α} (h : Blk s b l (pre ++ (xs.map f ++ [])) T) : Blk s b l (pre ++ xs.map f) T := by rw [List.append_nil] at h; exact h
/-- A call that is walked where it stands. -/
theorem k_call_in {w : World} {f : FuncId} {xs : List Operand} {ats : Array TypeId} {vs : List Value} (hf : Callable P f) (hx : evs ρ xs = some vs) (hd : Nat.blt d n = true)
    (hc : Calls P f vs.toArray w (fun e w' => ∃ v, e = .returned v ∧ KL P n Df ops Q rest ((d, v) :: ρ) w')) :
    KL P n Df ops Q (⟨some d, .call { callee := .value (.func f), args := xs.toArray, argTypes := ats }, ty, pos, aft, none⟩ :: rest) ρ w := by
  refine k_call_raw rfl rfl hf hx hc ?_ ?_
  · rintro v w' ⟨v', e, h⟩ a ha
    injection e with e
    subst e
    exact h _ (ha.put hd v)
  · rintro e w' ⟨v', e, _⟩
    exact ⟨v', e⟩
theorem k_callv_in {w : World} {f : FuncId} {xs : List Operand} {ats : Array TypeId} {vs caps : List Value} (hf : Callable P f) (hx : evs ρ xs = some vs) (hv : ev ρ x = some (.func (.func f) #[] caps.toArray)) (hd : Nat.blt d n = true)
    (hc : Calls P f (vs ++ caps).toArray w (fun e w' => ∃ v, e = .returned v ∧ KL P n Df ops Q rest ((d, v) :: ρ) w')) :
    KL P n Df ops Q (⟨some d, .call { callee := .value x, args := xs.toArray, argTypes := ats }, ty, pos, aft, none⟩ :: rest) ρ w := by
  intro a ha
  refine wpListIn_plain rfl fun K' hk => ?_
  obtain ⟨fn, h1, h2, h3⟩ := hf
  have hr : (execOp a.eval ⟨some d, .call { callee := .value x, args := xs.toArray, argTypes := ats }, ty, pos, aft, none⟩).run P w = .ok (.enter f (vs ++ caps).toArray) w := by
    have hx' := Agr.evs (η := a.eval) (fun _ _ e => ha.ev e) hx
    have h2' : ¬ fn.name = "runtime.NumGoroutine" := by intro e; rw [e] at h2; simp at h2
    have h3' : ¬ fn.body = none := by intro e; rw [e] at h3; simp at h3
    unfold execOp
    simp only [resolve, Deferred.ofValue, ha.ev hv]
    simp [invoke, callFunc, h1, h2', h3', hx', program, Sem.run, go_sem]
  refine op_in (x := .enter f (vs ++ caps).toArray) (by intro d e; cases e) hr ?_
  rw [Oper.uponIn_enter]
  refine ⟨fun h => absurd h (by simp), calls_in (hc.mono ?_)⟩
  rintro e w' ⟨v, rfl, h⟩
  exact hk _ _ (h _ (ha.put hd v))
theorem k_compl32 {a : UInt32} (hx : ev ρ x = some (.int .u32 (a.toNat : Int))) (hd : Nat.blt d n = true)
    (hK : KL P n Df ops Q rest ((d, .int .u32 ((4294967295 ^^^ a).toNat : Int)) :: ρ) w0) : KL P n Df ops Q (⟨some d, .unOp .xor tx x, ty, pos, aft, none⟩ :: rest) ρ w0 := by
  have e : (BitVec.ofInt IntKind.u32.bits ((4294967295 : UInt32).toNat : Int) ^^^ BitVec.ofInt IntKind.u32.bits (a.toNat : Int)).toNat = (BitVec.ofInt IntKind.u32.bits ((4294967295 : UInt32).toNat : Int) ^^^ BitVec.ofInt IntKind.u32.bits (a.toNat : Int)).toNat := rfl
  refine .val rfl rfl hd (v := .int .u32 (IntKind.u32.wrap ((BitVec.ofInt IntKind.u32.bits ((4294967295 : UInt32).toNat : Int) ^^^ BitVec.ofInt IntKind.u32.bits (a.toNat : Int)).toNat : Int))) (fun η ha => ?_) (by rw [xor32]; exact hK)
  simp only [execOp, ha.ev hx, Op.unary, Op.intBits]
  rfl
end
end Go.Fw

set_option linter.unusedSimpArgs false
set_option linter.unusedVariables false
namespace Go.Fw
/-! Loops, blocks that have a range over a function within: round by round. -/
section
variable {P : Program} {n : Nat} {Df : Md} {ρ : Env} {w : World} {W : Exit → Act → World → Prop}
/-- Behind a block. -/
def WBk (P : Program) (i : Nat) (k : List Code) (W : Exit → Act → World → Prop) : Exit → Act → World → Prop := Exit.inBlock i (Exit.then (RK P W k) W)
/-- Behind a round of a loop. -/
def WLp (P : Program) (x : Code) (k : List Code) (W : Exit → Act → World → Prop) (m : Nat) : Exit → Act → World → Prop := Exit.then (Code.roundsIn (fnc none) 0 P x (Exit.then (RK P W k) W) m) (Exit.then (RK P W k) W)
theorem rk_nil (h : RawF n Df W .normal ρ w) : RAWK P n Df W [] ρ w := h
theorem rk_block {i : Nat} {x : Code} {k : List Code} (h : RAWK P n Df (WBk P i k W) [x] ρ w) : RAWK P n Df W (.block i x :: k) ρ w := by
  intro a ha
  refine wpIn_block (wpIn_mono (h a ha) ?_)
  intro e a' w' hq
  cases e <;> exact hq
theorem rf_bend {i : Nat} {k : List Code} (h : RAWK P n Df W k ρ w) : RawF n Df (WBk P i k W) .normal ρ w := fun a ha => h a ha
theorem rf_bexit {i : Nat} {k : List Code} (h : RAWK P n Df W k ρ w) : RawF n Df (WBk P i k W) (.exit i) ρ w := by
  intro a ha
  have := h a ha
  simp only [WBk, Exit.inBlock, if_true, beq_self_eq_true]
  exact this
/-- Ways that meet again, ahead of a range over a function. -/
theorem k_cutr {X : Type} {c : Code} {k : List Code} (ρc : Env) (ρv : X → Env) (inv : X → World → Prop) (h1 : G P n Df (RawF n Df W) [.code c, .stop (fun ρ' w' => ∃ x', Sub ρ' (ρv x') ∧ Sub ρ' ρc ∧ inv x' w')] ρ w)
    (h2 : ∀ x w, inv x w → RAWK P n Df W k (ρv x ++ ρc) w) : G P n Df (RawF n Df W) [.code c, .stop (RAWK P n Df W k)] ρ w := by
  intro a ha
  refine wpIn_mono (h1 a ha) ?_
  rintro e a' w' ⟨ρ', hag', hq⟩
  cases e with
  | normal =>
    obtain ⟨x', q1, q2, q3⟩ := hq
    exact ⟨ρ', hag', fun a2 ha2 => h2 x' w' q3 a2 (ha2.sub2 q1 q2)⟩
  | exit i => exact ⟨ρ', hag', hq⟩
  | goto l => exact ⟨ρ', hag', hq⟩
  | ret => exact ⟨ρ', hag', hq⟩
  | panic ch => exact ⟨ρ', hag', hq⟩
  | outgrown => exact ⟨ρ', hag', hq⟩
/-- Behind a round of a loop of which something is known. -/
def WLI (P : Program) (n : Nat) (k : List Code) (W : Exit → Act → World → Prop) {X : Type} (ρc : Env) (ρv : X → Env) (dfs : X → List Deferred) (inv : X → World → Prop) (μ : X → Nat) (x : X) : Exit → Act → World → Prop :=
  Exit.then (fun a w => ∃ x', Ag n ⟨dfs x', none⟩ (ρv x' ++ ρc) a ∧ inv x' w ∧ μ x' < μ x) (Exit.then (RK P W k) W)
theorem rk_loopc {X : Type} {body : Code} {k : List Code} {df : List Deferred} (ρc : Env) (ρv : X → Env) (dfs : X → List Deferred) (inv : X → World → Prop) (μ : X → Nat) (x0 : X) (hdf : df = dfs x0) (hc : Sub ρ ρc) (hv : Sub ρ (ρv x0)) (hi : inv x0 w)
    (round : ∀ x w, inv x w → RAWK P n ⟨dfs x, none⟩ (WLI P n k W ρc ρv dfs inv μ x) [body] (ρv x ++ ρc) w) : RAWK P n ⟨df, none⟩ W (.loop body :: k) ρ w := by
  subst hdf
  intro a ha
  refine wpIn_loop_ghost (fun m a w => ∃ x, Ag n ⟨dfs x, none⟩ (ρv x ++ ρc) a ∧ inv x w ∧ μ x = m) (μ x0) ⟨x0, ha.sub2 hv hc, hi, rfl⟩ ?_
  rintro m a w ⟨x, hag, hx, rfl⟩
  refine wpIn_mono (round x w hx a hag) ?_
  intro e a' w' hq
  cases e with
  | normal => obtain ⟨x', h1, h2, h3⟩ := hq; exact ⟨μ x', h3, x', h1, h2, rfl⟩
  | exit i => exact hq
  | goto l => exact hq
  | ret => exact hq
  | panic ch => exact hq
  | outgrown => exact hq
theorem rf_round {X : Type} {k : List Code} {df : List Deferred} {ρc : Env} {ρv : X → Env} {dfs : X → List Deferred} {inv : X → World → Prop} {μ : X → Nat} {x : X} (h : ∃ x', df = dfs x' ∧ Sub ρ (ρv x') ∧ Sub ρ ρc ∧ inv x' w ∧ μ x' < μ x) :
    RawF n ⟨df, none⟩ (WLI P n k W ρc ρv dfs inv μ x) .normal ρ w := by
  obtain ⟨x', rfl, h1, h2, h3, h4⟩ := h
  exact fun a ha => ⟨x', ha.sub2 h1 h2, h3, h4⟩
theorem rf_iexit {X : Type} {k : List Code} {ρc : Env} {ρv : X → Env} {dfs : X → List Deferred} {inv : X → World → Prop} {μ : X → Nat} {x : X} {i : Nat} (h : RawF n Df W (.exit i) ρ w) : RawF n Df (WLI P n k W ρc ρv dfs inv μ x) (.exit i) ρ w := h
end
/-- Marks that ranges have left, between lo and hi, the last one first. -/
def MarksL (s : St) (lo : Nat) : Nat → List Deferred → Prop
  | _, [] => True
  | hi, d :: df => ∃ D, d = ⟨.collected D, #[]⟩ ∧ Mark s D ∧ lo ≤ D ∧ D < hi ∧ MarksL s lo D df
theorem MarksL.nil {s : St} {lo hi : Nat} : MarksL s lo hi [] := trivial
theorem MarksL.mono {s : St} {lo : Nat} : ∀ {df : List Deferred} {hi hi' : Nat}, MarksL s lo hi df → hi ≤ hi' → MarksL s lo hi' df
  | [], _, _, _, _ => trivial
  | _ :: _, _, _, ⟨D, h1, h2, h3, h4, h5⟩, h => ⟨D, h1, h2, h3, Nat.lt_of_lt_of_le h4 h, h5⟩
theorem MarksL.upK {K : Lab → Prop} {s s' : St} {lo : Nat} (st : Step K s s') : ∀ {df : List Deferred} {hi : Nat}, MarksL s lo hi df → (∀ D, lo ≤ D → D < hi → ¬ K ⟨D + 1, 0⟩) → MarksL s' lo hi df
  | [], _, _, _ => trivial
  | _ :: _, _, ⟨D, h1, h2, h3, h4, h5⟩, hk => ⟨D, h1, h2.up2 st (hk D h3 h4), h3, h4, MarksL.upK st h5 (fun D' h6 h7 => hk D' h6 (by omega))⟩
theorem MarksL.up2 {K : Lab → Prop} {s s' : St} {lo hi : Nat} {df : List Deferred} (h : MarksL s lo hi df) (st : Step K s s') (hk : ∀ l, K l → l.o ≤ lo ∨ hi < l.o := by intro l hl; first | exact hl.elim | omega | (simp only [KU, KN, KC, KO, K0, KB] at hl; omega)) : MarksL s' lo hi df :=
  h.upK st (fun D h1 h2 hl => by have h3 := hk _ hl; have h4 : (⟨D + 1, 0⟩ : Lab).o = D + 1 := rfl; omega)
theorem MarksL.cons {s : St} {lo hi D : Nat} {df : List Deferred} (hM : Mark s D) (hD : lo ≤ D) (h : MarksL s lo hi df) (hs : hi ≤ D) : MarksL s lo s.n (⟨.collected D, #[]⟩ :: df) := ⟨D, rfl, hM, hD, hM.1, h.mono hs⟩
theorem re_all {P : Program} {n : Nat} {ρ : Env} {fn : Func} {T : Ending → World → Prop} {lo : Nat} : ∀ {df : List Deferred} {hi : Nat} {s : St}, MarksL s lo hi df → (∀ s2 : St, Step (KN lo) s s2 → RE P n fn T [] ρ s2.w) → RE P n fn T df ρ s.w
  | [], _, s, _, h => h s ((Step.refl s).of0 (fun c hc => absurd hc (Nat.not_lt_zero _)))
  | d :: df, hi, s, ⟨D, e, hM, h1, h2, h3⟩, h => by
    subst e
    refine re_cons hM fun s2 st => re_all (lo := lo) (hi := D) (df := df) (h3.upK st ?_) ?_
    · intro D' _ h4 hl
      have h5 : (⟨D' + 1, 0⟩ : Lab).o = D + 1 := hl.1
      have h6 : (⟨D' + 1, 0⟩ : Lab).o = D' + 1 := rfl
      omega
    · intro s3 st3
      have st' : Step (KN lo) s s2 := st.mono (fun l hl => by have h5 : l.o = D + 1 := hl.1; show lo < l.o; omega) (fun c hc => absurd hc (Nat.not_lt_zero _))
      exact h s3 (st'.transK st3)
end Go.Fw

set_option linter.unusedSimpArgs false
set_option linter.unusedVariables false
namespace Go.Fw
/-! Structs of a number and a row of bytes, compared. -/
def flatB (P : Program) (t : TypeId) (k : IntKind) (m : Nat) : Prop := P.underlying t = some (.struct (P.fieldsOf t)) ∧ P.stoodInHeld t = false ∧ P.eqGuardType P.depth t = false ∧
  ∃ f0 f1 e, (P.fieldsOf t).toList = [f0, f1] ∧ f0.name ≠ "_" ∧ f1.name ≠ "_" ∧ f0.offset = 0 ∧ f1.offset = 1 ∧ P.underlying f0.type = some (.int k) ∧ P.underlying f1.type = some (.array m e) ∧ P.underlying e = some (.int .u8) ∧ sizeT P e 1 = true ∧ sizeT P f1.type m = true
theorem run_eqB {P : Program} {w : World} {t : TypeId} {k : IntKind} {m : Nat} {a b : Int} {xs ys : List UInt8} (hT : flatB P t k m) (hx : xs.length = m) (hy : ys.length = m) :
    (Op.equalIn 10000 t (.agg (.int k a :: xs.map cB).toArray) (.agg (.int k b :: ys.map cB).toArray)).run P w = .ok (decide (a = b ∧ xs = ys)) w := by
  obtain ⟨h1, h2, h3, f0, f1, e, hf, n0, n1, o0, o1, u0, u1, ue, se, s1⟩ := hT
  rw [run_equalIn_struct (P := P) w 9999 t _ _ h1 h2, hf]
  have p0 : ∀ (w : World) (c : Int) (zs : List UInt8), (part f0.type (.int k c :: zs.map cB).toArray f0.offset).run P w = .ok (.int k c) w := fun w c zs => by
    simp [part, isAgg, run_underlying u0, o0]
  have p1 : ∀ (w : World) (c : Int) (zs : List UInt8), zs.length = m → (part f1.type (.int k c :: zs.map cB).toArray f1.offset).run P w = .ok (.agg (zs.map cB).toArray) w := fun w c zs hz => by
    have ex : ((Value.int k c :: zs.map cB).toArray).extract 1 (1 + m) = (zs.map cB).toArray := by
      apply Array.ext'
      simp only [List.extract_toArray, List.extract_eq_take_drop, List.drop_succ_cons, List.drop_zero, Nat.add_sub_cancel_left]
      rw [List.take_of_length_le (by rw [List.length_map]; omega)]
    simp only [part, isAgg, Sem.run_bind, run_underlying u1, Result.andThen_ok, o1, run_sizeOf s1, Sem.run_pure, if_true, ex]
  have e1 := run_equalIn_bytes (P := P) w 9997 f1.type e m u1 ue (fun w => run_sizeOf se) xs ys hx hy
  have e1' : (Op.equalIn 9999 f1.type (.agg (xs.map cB).toArray) (.agg (ys.map cB).toArray)).run P w = .ok (xs == ys) w := e1
  simp only [Op.eqFields, n0, n1, ne_eq, not_false_eq_true, if_true, Sem.run_bind, p0, Result.andThen_ok, run_equalIn_int w 9998 _ k k a b u0, p1 _ _ _ hx, p1 _ _ _ hy]
  by_cases hab : a = b
  · subst hab
    by_cases hxy : xs = ys
    · subst hxy
      simp [p1 _ _ _ hx, e1']
    · have hne : (xs == ys) = false := by simpa using hxy
      simp [p1 _ _ _ hx, p1 _ _ _ hy, e1', hxy]
  · simp [hab]
section
variable {P : Program} {n : Nat} {Df : Md} {ops : Array Oper} {Q : Post} {rest : List Oper} {ρ : Env} {s : St} {w0 : World}
variable {d : Nat} {ty : TypeId} {pos : String} {aft : Array Edge} {x y : Operand} {tx tyy : TypeId}
theorem k_eql_fb {k : IntKind} {m : Nat} {a b : Int} {xs ys : List UInt8} (hT : flatB P tx k m) (hx : ev ρ x = some (.agg (.int k a :: xs.map cB).toArray)) (hy : ev ρ y = some (.agg (.int k b :: ys.map cB).toArray)) (hl : xs.length = m) (hl2 : ys.length = m) (hd : Nat.blt d n = true)
    (hK : KL P n Df ops Q rest ((d, .bool (decide (a = b ∧ xs = ys))) :: ρ) w0) : KL P n Df ops Q (⟨some d, .binOp .eql tx x y tyy, ty, pos, aft, none⟩ :: rest) ρ w0 := by
  refine .val rfl rfl hd (v := .bool (decide (a = b ∧ xs = ys))) (w' := w0) (fun η ha => ?_) hK
  have e := run_eqB (P := P) (w := w0) (a := a) (b := b) hT hl hl2
  simp only [execOp, ha.ev hx, ha.ev hy, Sem.run_bind, run_eqGuard_agg w0 _ tx _ _ _ _ hT.2.2.1, Result.andThen_ok, run_eql_struct, e]
  rfl
theorem k_neq_fb {k : IntKind} {m : Nat} {a b : Int} {xs ys : List UInt8} (hT : flatB P tx k m) (hx : ev ρ x = some (.agg (.int k a :: xs.map cB).toArray)) (hy : ev ρ y = some (.agg (.int k b :: ys.map cB).toArray)) (hl : xs.length = m) (hl2 : ys.length = m) (hd : Nat.blt d n = true)
    (hK : KL P n Df ops Q rest ((d, .bool (decide (¬ (a = b ∧ xs = ys)))) :: ρ) w0) : KL P n Df ops Q (⟨some d, .binOp .neq tx x y tyy, ty, pos, aft, none⟩ :: rest) ρ w0 := by
  refine .val rfl rfl hd (v := .bool (decide (¬ (a = b ∧ xs = ys)))) (w' := w0) (fun η ha => ?_) hK
  have e := run_eqB (P := P) (w := w0) (a := a) (b := b) hT hl hl2
  simp only [execOp, ha.ev hx, ha.ev hy, Sem.run_bind, run_eqGuard_agg w0 _ tx _ _ _ _ hT.2.2.1, Result.andThen_ok, run_neq_struct, e, decide_not]
  rfl
end
end Go.Fw

set_option linter.unusedSimpArgs false
set_option linter.unusedVariables false
namespace Go.Fw
theorem dec_andT {P : Prop} [Decidable P] {b : Bool} (h : P) : b = decide (P ∧ b = true) := by cases b <;> simp [h]
theorem dec_andF {P Q : Prop} [Decidable P] [Decidable Q] (h : ¬ P) : false = decide (P ∧ Q) := by simp [h]
theorem dec_orF {P : Prop} [Decidable P] {b : Bool} (h : ¬ P) : b = decide (P ∨ b = true) := by cases b <;> simp [h]
theorem dec_orT {P Q : Prop} [Decidable P] [Decidable Q] (h : P) : true = decide (P ∨ Q) := by simp [h]
/-! Two rows of bytes, compared by the library; a block that nobody writes any more. -/
theorem run_loadBytes {P : Program} {w : World} : ∀ (xs : List UInt8) (a : Addr) (acc : ByteArray), (∀ j x, xs[j]? = some x → w.cell? (a.add j) = some (cB x)) → (Extern.Bytes.loadBytes a xs.length acc).run P w = .ok ⟨(acc.data.toList ++ xs).toArray⟩ w
  | [], a, acc, _ => by simp [Extern.Bytes.loadBytes]
  | x :: xs, a, acc, h => by
    have h0 : w.cell? a = some (cB x) := by
      have := h 0 x rfl
      have e : a.add 0 = a := by unfold Addr.add; split <;> simp_all
      rwa [e] at this
    have ih := run_loadBytes (P := P) (w := w) xs (a.add 1) (acc.push x) (fun j y hy => by
      have := h (j + 1) y (by simpa using hy)
      have e : (a.add 1).add j = a.add (j + 1) := by unfold Addr.add; split <;> simp_all <;> omega
      rw [e]; exact this)
    have e2 : (x.toNat : Int).toNat.toUInt8 = x := by simp
    simp only [List.length_cons, Extern.Bytes.loadBytes, Sem.run_bind, run_load h0, Result.andThen_ok, e2, ih]
    congr 2
    simp
theorem run_bytesOf {P : Program} {s : St} {l : Lab} {v : Value} {xs : List UInt8} (h : SL s l v 1 (xs.map bD)) : (Extern.Bytes.bytesOf v).run P s.w = .ok ⟨xs.toArray⟩ s.w := by
  rcases h.cells with ⟨he, a, cap, rfl, hz⟩ | ⟨b, off, cap, zs, rfl, hr, hc⟩
  · rw [List.map_eq_nil_iff] at he
    subst he
    cases a with
    | none => simp [Extern.Bytes.bytesOf]; rfl
    | some a => exact run_loadBytes [] a .empty (fun j x h => by simp at h)
  · have hzs := RCs.vals (w := 1) (f := cB) (g := bD) (fun _ => rfl) hr
    subst hzs
    have := run_loadBytes (P := P) (w := s.w) xs ⟨b, off, none⟩ .empty (fun j x hx => hc j _ (by rw [List.getElem?_map, hx]; rfl))
    rw [List.length_map]
    exact this
theorem run_cmpB {P : Program} {s : St} {l l2 : Lab} {v u : Value} {xs ys : List UInt8} (h : SL s l v 1 (xs.map bD)) (h2 : SL s l2 u 1 (ys.map bD)) : (Extern.BytealgCompare.compare #[v, u]).run P s.w = .ok (.int .i64 (Lib.compareBytes xs ys)) s.w := by
  change Sem.run P (do pure (goInt (Extern.BytealgCompare.cmp (← Extern.Bytes.bytesOf v) (← Extern.Bytes.bytesOf u)))) s.w = _
  simp only [Sem.run_bind, run_bytesOf h, run_bytesOf h2, Result.andThen_ok, Sem.run_pure]
  rw [Lib.cmp_eq]
  rfl
section
variable {P : Program} {n : Nat} {Df : Md} {ops : Array Oper} {Q : Post} {rest : List Oper} {ρ : Env} {s : St} {w0 : World}
variable {d : Nat} {ty : TypeId} {pos : String} {aft : Array Edge} {x y : Operand} {tx tyy : TypeId}
/-- A call of what has no body. -/
theorem k_call_ext {f : FuncId} {xs : List Operand} {ats : Array TypeId} {vs : List Value} {v : Value} (hx : evs ρ xs = some vs) (hrun : (callFunc f vs.toArray).run P w0 = .ok (.value v) w0) (hd : Nat.blt d n = true)
    (hK : KL P n Df ops Q rest ((d, v) :: ρ) w0) : KL P n Df ops Q (⟨some d, .call { callee := .value (.func f), args := xs.toArray, argTypes := ats }, ty, pos, aft, none⟩ :: rest) ρ w0 := by
  refine .val rfl rfl hd (v := v) (w' := w0) (fun η ha => ?_) hK
  have hx' := Agr.evs (η := η) (fun _ _ e => ha.ev e) hx
  have hff : η (.func f) = .func (.func f) #[] #[] := by
    have := ha.ev (x := .func f) (v := .func (.func f) #[] #[]) rfl
    exact this
  unfold execOp
  simp only [resolve, Deferred.ofValue, hff]
  simp [invoke, hx', hrun]
end
theorem Blk.freeze {s : St} {b : Nat} {l : Lab} {cs : List Value} {T : TypeId} (h : Blk s b l cs T) (hl0 : l.o ≠ 0) : ∃ s', s'.w = s.w ∧ Step (KC l.o l.c) s s' ∧ Blk s' b L0 cs T := by
  classical
  refine ⟨⟨s.w, fun x => if x = b then L0 else s.g x, fun x => ?_⟩, rfl, ⟨rfl, rfl, rfl, Nat.le_refl _, fun b' hb' hk => ⟨rfl, ?_⟩, fun c hc => hl0 hc.1.symm⟩, h.heap, by simp⟩
  · by_cases hx : x = b
    · simp [hx, L0]
    · simp [hx]; exact s.wf x
  · have : b' ≠ b := by rintro rfl; exact hk (by rw [h.lab]; exact ⟨rfl, rfl⟩)
    simp [this]
theorem Blk.cutSL {α : Type} {s : St} {b m q : Nat} {l : Lab} {T : TypeId} {g : α → D} (f : α → Value) (hfg : ∀ x, g x = .val (f x)) (hf : ∀ x, (f x).oneCell' = true) {pre post : List Value} {xs : List α} {i j : Nat} (hb : Blk s b l (pre ++ (xs.map f ++ post)) T) (hm : pre.length = m) (hl : xs.length = q) (hij : i ≤ j) (hj : j ≤ q) :
    SL s l (.slice (some ⟨b, m + i, none⟩) (j - i) (q - i)) 1 (((xs.drop i).take (j - i)).map g) := by
  have hlen : (((xs.drop i).take (j - i)).map g).length = j - i := by rw [List.length_map, List.length_take, List.length_drop]; omega
  refine .inr ⟨b, m + i, q - i, fun k => [((xs[i + k]?).map f).getD .nilIface], by rw [hlen], hb.lt, hb.lab, by omega, fun k hk => rfl, fun k hk c hc => ?_, fun k hk => ?_⟩
  · have hk' : i + k < xs.length := by rw [hlen] at hk; omega
    obtain rfl : c = 0 := by omega
    have h1 := hb.cell (m + (i + k))
    rw [List.getElem?_append_right (by omega), hm, show m + (i + k) - m = i + k by omega, List.getElem?_append_left (by rw [List.length_map]; exact hk'), List.getElem?_map, List.getElem?_eq_getElem hk'] at h1
    simp only [Nat.mul_one, Nat.add_zero, List.getElem?_eq_getElem hk', Nat.add_assoc]
    exact h1
  · have hk' : i + k < xs.length := by rw [hlen] at hk; omega
    simp only [List.getElem?_eq_getElem hk', List.getElem_map, List.getElem_take, List.getElem_drop, Option.map_some, Option.getD_some, hfg]
    exact .val _ (hf _)
end Go.Fw
