import Derived.Test.YtdofbkomeadjgaaGreatDoorFwTabFwVW
import Derived.Stop.BytesEq
import Derived.Lib.Bytealg
import Derived.ArgAppend
set_option linter.unusedSimpArgs false
set_option linter.unusedVariables false
namespace Go.Fw
def seti {α : Type} (l : List α) (i : Int) (v : α) : Option (List α) := if 0 ≤ i ∧ i < l.length then some (l.set i.toNat v) else none
theorem seti_out {α : Type} {l z : List α} {i : Int} {v : α} (h : seti l i v = some z) : 0 ≤ i ∧ i < l.length ∧ z = l.set i.toNat v ∧ z.length = l.length := by
  unfold seti at h
  split at h
  · rename_i h0
    cases h
    exact ⟨h0.1, h0.2, rfl, List.length_set⟩
  · cases h
theorem lit8 {α : Type} {l : List α} (h : l.length = 8) (d : α) : l = [l.getD 0 d, l.getD 1 d, l.getD 2 d, l.getD 3 d, l.getD 4 d, l.getD 5 d, l.getD 6 d, l.getD 7 d] := by
  match l, h with
  | [_, _, _, _, _, _, _, _], _ => rfl
theorem lit16 {α : Type} {l : List α} (h : l.length = 16) (d : α) : l = [l.getD 0 d, l.getD 1 d, l.getD 2 d, l.getD 3 d, l.getD 4 d, l.getD 5 d, l.getD 6 d, l.getD 7 d, l.getD 8 d, l.getD 9 d, l.getD 10 d, l.getD 11 d, l.getD 12 d, l.getD 13 d, l.getD 14 d, l.getD 15 d] := by
  match l, h with
  | [_, _, _, _, _, _, _, _, _, _, _, _, _, _, _, _], _ => rfl
theorem Blk.litE {s : St} {b : Nat} {l : Lab} {T : TypeId} {α : Type} {f : α → Value} {pre post : List Value} {z y : List α} (h : Blk s b l (pre ++ (z.map f ++ post)) T) (e : z = y) : Blk s b l (pre ++ (y.map f ++ post)) T := e ▸ h
section
variable {P : Program} {n : Nat} {Df : Md} {ops : Array Oper} {Q : Post} {rest : List Oper} {ρ : Env} {s : St} {w0 : World}
variable {d : Nat} {ty : TypeId} {pos : String} {aft : Array Edge} {x y z : Operand} {tx tyy : TypeId} {α : Type}
theorem jCo {b m : Nat} {p : Int} {zz : α} (f : α → Value) {pre post : List Value} {xs : List α} {l : Lab} {T : TypeId} (hT : oneT P tx = true) (hx : ev ρ x = some (.pointer (some ⟨b, m + p.toNat, none⟩))) (hb : Blk s b l (pre ++ (xs.map f ++ post)) T) (hm : pre.length = m) (hg : geti xs p = some zz) (hd : Nat.blt d n = true)
    (hK : KL P n Df ops Q rest ((d, f zz) :: ρ) s.w) : KL P n Df ops Q (⟨some d, .load tx x, ty, pos, aft, none⟩ :: rest) ρ s.w := by
  obtain ⟨h0, h1, h2⟩ := jAk hg
  refine jAj hT hx hb ?_ hd hK
  have hj : p.toNat < xs.length := by omega
  rw [List.getElem?_append_right (by omega), hm, show m + p.toNat - m = p.toNat by omega, List.getElem?_append_left (by rw [List.length_map]; exact hj), List.getElem?_map, h2]
  rfl
theorem jDc {b m : Nat} {p : Int} {v : α} (f : α → Value) (hf : ∀ x, (f x).oneCell' = true) {pre post : List Value} {xs zs : List α} {l : Lab} {T : TypeId} (hT : sizeT P tx 1 = true) (hx : ev ρ x = some (.pointer (some ⟨b, m + p.toNat, none⟩))) (hy : ev ρ y = some (f v)) (hb : Blk s b l (pre ++ (xs.map f ++ post)) T) (hl0 : l.o ≠ 0) (hm : pre.length = m) (hg : seti xs p v = some zs)
    (hK : ∀ s', Step (KC l.o l.c) s s' → Blk s' b l (pre ++ (zs.map f ++ post)) T → KL P n Df ops Q rest ρ s'.w) :
    KL P n Df ops Q (⟨none, .store tx x y, ty, pos, aft, none⟩ :: rest) ρ s.w := by
  obtain ⟨h0, h1, h2, h3⟩ := seti_out hg
  have hlen : (pre ++ (xs.map f ++ post)).length = m + (xs.length + post.length) := by rw [List.length_append, List.length_append, List.length_map, hm]
  have e : (pre ++ (xs.map f ++ post)).take (m + p.toNat) ++ [f v] ++ (pre ++ (xs.map f ++ post)).drop (m + p.toNat + 1) = pre ++ (zs.map f ++ post) := by
    have hj : p.toNat < xs.length := by omega
    rw [h2]
    generalize p.toNat = j at hj
    subst hm
    rw [List.take_append, List.drop_append, List.take_of_length_le (by omega), List.drop_eq_nil_of_le (by omega), List.nil_append, show pre.length + j - pre.length = j by omega, show pre.length + j + 1 - pre.length = j + 1 by omega,
      List.take_append_of_le_length (by rw [List.length_map]; omega), List.drop_append_of_le_length (by rw [List.length_map]; omega), List.set_eq_take_append_cons_drop, if_pos hj]
    simp [List.map_take, List.map_drop]
  have hble : Nat.ble (m + p.toNat + 1) (pre ++ (xs.map f ++ post)).length = true := by simp only [Nat.ble_eq, hlen]; omega
  refine jAo (cs' := pre ++ (zs.map f ++ post)) hT hx hy hb hl0 (CellsOf.lit (vs := [f v]) ?_ ?_) rfl hble e hK
  · exact cells1 (hf v)
  · simp [hf]
theorem jBt {t e q b m : Nat} {g : α → D} (f : α → Value) (hfg : ∀ x, g x = .val (f x)) (hf : ∀ x, (f x).oneCell' = true) {pre post : List Value} {xs : List α} {l : Lab} {T : TypeId} {lo hi : Option Operand} {i j : Nat} (hT : arrT P t e q 1) (hx : ev ρ x = some (.pointer (some ⟨b, m, none⟩))) (hb : Blk s b l (pre ++ (xs.map f ++ post)) T) (hm : pre.length = m) (hl : xs.length = q)
    (hlo : CutAt ρ 0 lo i) (hhi : CutAt ρ q hi j) (hij : i ≤ j) (hj : j ≤ q) (hiq : i < q) (hd : Nat.blt d n = true)
    (hK : SL s l (.slice (some ⟨b, m + i, none⟩) (j - i) (q - i)) 1 (((xs.drop i).take (j - i)).map g) → KL P n Df ops Q rest ((d, .slice (some ⟨b, m + i, none⟩) (j - i) (q - i)) :: ρ) s.w) :
    KL P n Df ops Q (⟨some d, .slice t x lo hi none, ty, pos, aft, none⟩ :: rest) ρ s.w := by
  obtain ⟨hu, hs⟩ := hT
  have hlo := hlo.lo
  have hhi := hhi.hi
  have hne : ¬ q = i := by omega
  have hadd : ((⟨b, m, none⟩ : Addr).add (i * 1)) = ⟨b, m + i, none⟩ := by rw [Nat.mul_one]; unfold Addr.add; split <;> simp_all
  have hrun : ∀ η : Operand → Value, Agr ρ η → (execOp η ⟨some d, .slice t x lo hi none, ty, pos, aft, none⟩).run P s.w = .ok (.value (.slice (some (if q = i then ⟨b, m, none⟩ else Addr.add ⟨b, m, none⟩ (i * 1))) (j - i) (q - i))) s.w := by
    intro η hη
    cases lo with
    | none =>
      simp only at hlo
      subst hlo
      cases hi with
      | none => simp only at hhi; subst hhi; simp [execOp, hη.ev hx, Instr.sliceAt, Instr.sureAddr, Instr.sliceBounds, run_underlying hu, run_sizeOf hs]
      | some z => obtain ⟨k, hz⟩ := hhi; simp [execOp, hη.ev hx, hη.ev hz, Instr.sliceAt, Instr.sureAddr, Instr.sliceBounds, Instr.sliceBound, asIntOf, run_underlying hu, run_sizeOf hs, hj]
    | some yy =>
      obtain ⟨k, hy⟩ := hlo
      cases hi with
      | none => simp only at hhi; subst hhi; simp [execOp, hη.ev hx, hη.ev hy, Instr.sliceAt, Instr.sureAddr, Instr.sliceBounds, Instr.sliceBound, asIntOf, run_underlying hu, run_sizeOf hs, hij]
      | some z => obtain ⟨k', hz⟩ := hhi; simp [execOp, hη.ev hx, hη.ev hy, hη.ev hz, Instr.sliceAt, Instr.sureAddr, Instr.sliceBounds, Instr.sliceBound, asIntOf, run_underlying hu, run_sizeOf hs, hij, hj]
  rw [if_neg hne, hadd] at hrun
  refine .val rfl rfl hd hrun (hK ?_)
  have hlen : (((xs.drop i).take (j - i)).map g).length = j - i := by rw [List.length_map, List.length_take, List.length_drop]; omega
  refine .inr ⟨b, m + i, q - i, fun k => [((xs[i + k]?).map f).getD .nilIface], by rw [hlen], hb.lt, hb.lab, by omega, fun k hk => rfl, fun k hk c hc => ?_, fun k hk => ?_⟩
  · have hk' : i + k < xs.length := by rw [hlen] at hk; omega
    obtain rfl : c = 0 := by omega
    have h1 := hb.cell (m + (i + k))
    rw [List.getElem?_append_right (by omega), hm, show m + (i + k) - m = i + k by omega, List.getElem?_append_left (by rw [List.length_map]; exact hk'), List.getElem?_map, List.getElem?_eq_getElem hk'] at h1
    simp only [Nat.mul_one, Nat.add_zero, List.getElem?_eq_getElem hk', Nat.add_assoc]
    exact h1
  · have hk' : i + k < xs.length := by rw [hlen] at hk; omega
    simp only [List.getElem?_eq_getElem hk', List.getElem_map, List.getElem_take, List.getElem_drop, Option.map_some, Option.getD_some, hfg]
    exact .val _ (hf _)
theorem RCs.vals {w : Nat} {s : St} {f : α → Value} {g : α → D} (hfg : ∀ x, g x = .val (f x)) {xs : List Value} {ys : List α} (h : RCs s 1 xs (ys.map g)) : xs = ys.map f := by
  have hl : xs.length = ys.length := by have := h.1; rw [List.length_map] at this; omega
  refine List.ext_getElem (by rw [hl, List.length_map]) fun i h1 h2 => ?_
  have hi : i < (ys.map g).length := by rw [List.length_map]; omega
  have hr := h.2 i hi
  have hy : i < ys.length := by omega
  rw [Nat.mul_one, List.getElem_map, hfg] at hr
  have := hr.val_inv
  have e : (xs.drop i).take 1 = [xs[i]] := by rw [List.drop_eq_getElem_cons h1]; rfl
  rw [e] at this
  rw [List.getElem_map]
  exact (List.cons.inj this).1
theorem run_copyA {b m i j q : Nat} {l lx : Lab} {dT sT e bytes : Nat} {zz vy : Value} {g : α → D} (f : α → Value) (hfg : ∀ x, g x = .val (f x)) (hf : ∀ x, (f x).oneCell' = true) {pre post : List Value} {xs ys : List α} {T : TypeId} (hT : elemT P dT e 1 bytes zz)
    (hb : Blk s b l (pre ++ (xs.map f ++ post)) T) (hl0 : l.o ≠ 0) (hm : pre.length = m) (hl : xs.length = q) (hij : i ≤ j) (hj : j ≤ q) (hs : SL s lx vy 1 (ys.map g)) :
    ∃ s', Step (KC l.o l.c) s s' ∧ Blk s' b l (pre ++ ((xs.take i ++ (ys.take (j - i) ++ xs.drop (i + min ys.length (j - i)))).map f ++ post)) T ∧ (Builtin.copy_ #[dT, sT] ty #[.slice (some ⟨b, m + i, none⟩) (j - i) (q - i), vy]).run P s.w = .ok (goInt ((min ys.length (j - i) : Nat) : Int)) s'.w := by
  obtain ⟨i', h1, h2, h3, h4, h5, h6, h7⟩ := hT
  have hsz : (P.info? e).map (·.size) = some 1 := by rw [h2]; simp [h4]
  have hyl : (ys.map g).length = ys.length := List.length_map ..
  by_cases h0 : min ys.length (j - i) = 0
  · obtain ⟨a2, cap2, hvy, hz2⟩ := hs.val
    rw [hyl] at hvy
    have hrun := run_copy_none (P := P) s.w dT sT ty e (some ⟨b, m + i, none⟩) a2 (j - i) (q - i) ys.length cap2 h1 hsz h0
    refine ⟨s, (Step.refl s).of0 (fun c hc => hl0 hc.1.symm), ?_, ?_⟩
    · have e1 : xs.take i ++ (ys.take (j - i) ++ xs.drop (i + min ys.length (j - i))) = xs := by
        have : ys.take (j - i) = [] := List.eq_nil_of_length_eq_zero (by rw [List.length_take]; omega)
        rw [this, h0, Nat.add_zero, List.nil_append, List.take_append_drop]
      rw [e1]; exact hb
    · rw [hvy, hrun, h0]; rfl
  · rcases hs.cells with ⟨he, _⟩ | ⟨b2, off, cap3, zs, hvy', hr, hc⟩
    · rw [List.map_eq_nil_iff] at he; subst he; simp at h0
    · rw [hyl] at hvy'
      have hzs := RCs.vals (w := 1) hfg hr
      subst hzs
      have hl1 : ((ys.map f).take (j - i)).length = Nat.min ys.length (j - i) * 1 := by rw [List.length_take, List.length_map, Nat.mul_one]; exact Nat.min_comm ..
      obtain ⟨fr, hheap, hfr⟩ := hb.heap
      have hclen : (pre ++ (xs.map f ++ post)).length = m + (q + post.length) := by rw [List.length_append, List.length_append, List.length_map, hm, hl]
      have hlt2 : ((ys.map f).take (j - i)).length ≤ j - i := by rw [List.length_take]; omega
      have hrun := run_copy_cellsK (P := P) s.w dT sT ty e 1 b (m + i) (j - i) (q - i) ⟨b2, off, none⟩ ys.length cap3 ((ys.map f).take (j - i)) h1 hsz hl1
        (fun k u hu => by
          rw [List.getElem?_take] at hu
          split at hu
          · exact hc k u hu
          · cases hu)
        (fun k hk => by rw [hb.cell, List.getElem?_eq_getElem (by omega)]; rfl) (fun k hk => hb.frozen _ (by omega))
        (fun u hu => by
          have hu' := List.mem_of_mem_take hu
          obtain ⟨w, _, rfl⟩ := List.mem_map.1 hu'
          exact hf w)
      have hle : m + i + ((ys.map f).take (j - i)).length ≤ (pre ++ (xs.map f ++ post)).length := by omega
      have hst := hb.store hl0 (m + i) ((ys.map f).take (j - i)) hle
      refine ⟨_, hst.1, ?_, ?_⟩
      · have e1 : (pre ++ (xs.map f ++ post)).take (m + i) ++ (ys.map f).take (j - i) ++ (pre ++ (xs.map f ++ post)).drop (m + i + ((ys.map f).take (j - i)).length) = pre ++ ((xs.take i ++ (ys.take (j - i) ++ xs.drop (i + min ys.length (j - i)))).map f ++ post) := by
          have hk : ((ys.map f).take (j - i)).length = min ys.length (j - i) := by rw [List.length_take, List.length_map, Nat.min_comm]
          rw [hk]
          subst hm
          rw [List.take_append, List.drop_append, List.take_of_length_le (by omega), List.drop_eq_nil_of_le (by omega), List.nil_append, show pre.length + i - pre.length = i by omega, show pre.length + i + min ys.length (j - i) - pre.length = i + min ys.length (j - i) by omega,
            List.take_append_of_le_length (by rw [List.length_map]; omega), List.drop_append_of_le_length (by rw [List.length_map]; omega)]
          simp [List.map_take, List.map_drop]
        exact e1 ▸ hst.2
      · rw [hvy', hrun]; rfl
def cpyAt {α : Type} (xs : List α) (i j : Nat) (ys : List α) : List α := xs.take i ++ (ys.take (j - i) ++ xs.drop (i + min ys.length (j - i)))
theorem cpyAt_len {α : Type} {xs ys : List α} {i j q : Nat} (hl : xs.length = q) (hij : i ≤ j) (hj : j ≤ q) : (cpyAt xs i j ys).length = q := by
  unfold cpyAt
  simp only [List.length_append, List.length_take, List.length_drop]
  omega
theorem jDf {b m i j q : Nat} {l lx : Lab} {dT sT e bytes : Nat} {zz vy : Value} {g : α → D} (f : α → Value) (hfg : ∀ x, g x = .val (f x)) (hf : ∀ x, (f x).oneCell' = true) {pre post : List Value} {xs ys : List α} {T : TypeId} (hT : elemT P dT e 1 bytes zz)
    (hx : ev ρ x = some (.slice (some ⟨b, m + i, none⟩) (j - i) (q - i))) (hy : ev ρ y = some vy) (hb : Blk s b l (pre ++ (xs.map f ++ post)) T) (hl0 : l.o ≠ 0) (hm : pre.length = m) (hl : xs.length = q) (hij : i ≤ j) (hj : j ≤ q) (hs : SL s lx vy 1 (ys.map g)) (hd : Nat.blt d n = true)
    (hK : ∀ s', Step (KC l.o l.c) s s' → Blk s' b l (pre ++ ((cpyAt xs i j ys).map f ++ post)) T → KL P n Df ops Q rest ((d, .int .i64 ((min ys.length (j - i) : Nat) : Int)) :: ρ) s'.w) :
    KL P n Df ops Q (⟨some d, .call { callee := .builtin .copy, args := [x, y].toArray, argTypes := [dT, sT].toArray }, ty, pos, aft, none⟩ :: rest) ρ s.w := by
  obtain ⟨s', st, ho, hrun⟩ := run_copyA (P := P) (ty := ty) (dT := dT) (sT := sT) f hfg hf hT hb hl0 hm hl hij hj hs
  refine .val rfl rfl hd (v := .int .i64 ((min ys.length (j - i) : Nat) : Int)) (w' := s'.w) (fun η ha => ?_) (hK s' st ho)
  simp [execOp, resolve, invoke, builtin, ha.ev hx, ha.ev hy, hrun, goInt]
theorem Blk.tl {b : Nat} {l : Lab} {T : TypeId} {f : α → Value} {pre : List Value} {xs : List α} (h : Blk s b l (pre ++ xs.map f) T) : Blk s b l (pre ++ (xs.map f ++ [])) T := by rw [List.append_nil]; exact h
theorem Blk.tl' {b : Nat} {l : Lab} {T : TypeId} {f : α → Value} {pre : List Value} {xs : List α} (h : Blk s b l (pre ++ (xs.map f ++ [])) T) : Blk s b l (pre ++ xs.map f) T := by rw [List.append_nil] at h; exact h
theorem k_call_in {w : World} {f : FuncId} {xs : List Operand} {ats : Array TypeId} {vs : List Value} (hf : Callable P f) (hx : evs ρ xs = some vs) (hd : Nat.blt d n = true)
    (hc : Calls P f vs.toArray w (fun e w' => ∃ v, e = .returned v ∧ KL P n Df ops Q rest ((d, v) :: ρ) w')) :
    KL P n Df ops Q (⟨some d, .call { callee := .value (.func f), args := xs.toArray, argTypes := ats }, ty, pos, aft, none⟩ :: rest) ρ w := by
  refine k_call_raw rfl rfl hf hx hc ?_ ?_
  · rintro v w' ⟨v', e, h⟩ a ha
    injection e with e
    subst e
    exact h _ (ha.put hd v)
  · rintro e w' ⟨v', e, _⟩
    exact ⟨v', e⟩
theorem jDh {w : World} {f : FuncId} {xs : List Operand} {ats : Array TypeId} {vs caps : List Value} (hf : Callable P f) (hx : evs ρ xs = some vs) (hv : ev ρ x = some (.func (.func f) #[] caps.toArray)) (hd : Nat.blt d n = true)
    (hc : Calls P f (vs ++ caps).toArray w (fun e w' => ∃ v, e = .returned v ∧ KL P n Df ops Q rest ((d, v) :: ρ) w')) :
    KL P n Df ops Q (⟨some d, .call { callee := .value x, args := xs.toArray, argTypes := ats }, ty, pos, aft, none⟩ :: rest) ρ w := by
  intro a ha
  refine wpListIn_plain rfl fun K' hk => ?_
  obtain ⟨fn, h1, h2, h3⟩ := hf
  have hr : (execOp a.eval ⟨some d, .call { callee := .value x, args := xs.toArray, argTypes := ats }, ty, pos, aft, none⟩).run P w = .ok (.enter f (vs ++ caps).toArray) w := by
    have hx' := Agr.evs (η := a.eval) (fun _ _ e => ha.ev e) hx
    have h2' : ¬ fn.name = "runtime.NumGoroutine" := by intro e; rw [e] at h2; simp at h2
    have h3' : ¬ fn.body = none := by intro e; rw [e] at h3; simp at h3
    unfold execOp
    simp only [resolve, Deferred.ofValue, ha.ev hv]
    simp [invoke, callFunc, h1, h2', h3', hx', program, Sem.run, go_sem]
  refine op_in (x := .enter f (vs ++ caps).toArray) (by intro d e; cases e) hr ?_
  rw [Oper.uponIn_enter]
  refine ⟨fun h => absurd h (by simp), calls_in (hc.mono ?_)⟩
  rintro e w' ⟨v, rfl, h⟩
  exact hk _ _ (h _ (ha.put hd v))
theorem k_compl32 {a : UInt32} (hx : ev ρ x = some (.int .u32 (a.toNat : Int))) (hd : Nat.blt d n = true)
    (hK : KL P n Df ops Q rest ((d, .int .u32 ((4294967295 ^^^ a).toNat : Int)) :: ρ) w0) : KL P n Df ops Q (⟨some d, .unOp .xor tx x, ty, pos, aft, none⟩ :: rest) ρ w0 := by
  have e : (BitVec.ofInt IntKind.u32.bits ((4294967295 : UInt32).toNat : Int) ^^^ BitVec.ofInt IntKind.u32.bits (a.toNat : Int)).toNat = (BitVec.ofInt IntKind.u32.bits ((4294967295 : UInt32).toNat : Int) ^^^ BitVec.ofInt IntKind.u32.bits (a.toNat : Int)).toNat := rfl
  refine .val rfl rfl hd (v := .int .u32 (IntKind.u32.wrap ((BitVec.ofInt IntKind.u32.bits ((4294967295 : UInt32).toNat : Int) ^^^ BitVec.ofInt IntKind.u32.bits (a.toNat : Int)).toNat : Int))) (fun η ha => ?_) (by rw [xor32]; exact hK)
  simp only [execOp, ha.ev hx, Op.unary, Op.intBits]
  rfl
end
end Go.Fw

set_option linter.unusedSimpArgs false
set_option linter.unusedVariables false
namespace Go.Fw
section
variable {P : Program} {n : Nat} {Df : Md} {ρ : Env} {w : World} {W : Exit → Act → World → Prop}
def WBk (P : Program) (i : Nat) (k : List Code) (W : Exit → Act → World → Prop) : Exit → Act → World → Prop := Exit.inBlock i (Exit.then (RK P W k) W)
def WLp (P : Program) (x : Code) (k : List Code) (W : Exit → Act → World → Prop) (m : Nat) : Exit → Act → World → Prop := Exit.then (Code.roundsIn (fnc none) 0 P x (Exit.then (RK P W k) W) m) (Exit.then (RK P W k) W)
theorem rk_nil (h : RawF n Df W .normal ρ w) : RAWK P n Df W [] ρ w := h
theorem rk_block {i : Nat} {x : Code} {k : List Code} (h : RAWK P n Df (WBk P i k W) [x] ρ w) : RAWK P n Df W (.block i x :: k) ρ w := by
  intro a ha
  refine wpIn_block (wpIn_mono (h a ha) ?_)
  intro e a' w' hq
  cases e <;> exact hq
theorem rf_bend {i : Nat} {k : List Code} (h : RAWK P n Df W k ρ w) : RawF n Df (WBk P i k W) .normal ρ w := fun a ha => h a ha
theorem rf_bexit {i : Nat} {k : List Code} (h : RAWK P n Df W k ρ w) : RawF n Df (WBk P i k W) (.exit i) ρ w := by
  intro a ha
  have := h a ha
  simp only [WBk, Exit.inBlock, if_true, beq_self_eq_true]
  exact this
theorem k_cutr {X : Type} {c : Code} {k : List Code} (ρc : Env) (ρv : X → Env) (inv : X → World → Prop) (h1 : G P n Df (RawF n Df W) [.code c, .stop (fun ρ' w' => ∃ x', Sub ρ' (ρv x') ∧ Sub ρ' ρc ∧ inv x' w')] ρ w)
    (h2 : ∀ x w, inv x w → RAWK P n Df W k (ρv x ++ ρc) w) : G P n Df (RawF n Df W) [.code c, .stop (RAWK P n Df W k)] ρ w := by
  intro a ha
  refine wpIn_mono (h1 a ha) ?_
  rintro e a' w' ⟨ρ', hag', hq⟩
  cases e with
  | normal =>
    obtain ⟨x', q1, q2, q3⟩ := hq
    exact ⟨ρ', hag', fun a2 ha2 => h2 x' w' q3 a2 (ha2.sub2 q1 q2)⟩
  | exit i => exact ⟨ρ', hag', hq⟩
  | goto l => exact ⟨ρ', hag', hq⟩
  | ret => exact ⟨ρ', hag', hq⟩
  | panic ch => exact ⟨ρ', hag', hq⟩
  | outgrown => exact ⟨ρ', hag', hq⟩
def WLI (P : Program) (n : Nat) (k : List Code) (W : Exit → Act → World → Prop) {X : Type} (ρc : Env) (ρv : X → Env) (dfs : X → List Deferred) (inv : X → World → Prop) (μ : X → Nat) (x : X) : Exit → Act → World → Prop :=
  Exit.then (fun a w => ∃ x', Ag n ⟨dfs x', none⟩ (ρv x' ++ ρc) a ∧ inv x' w ∧ μ x' < μ x) (Exit.then (RK P W k) W)
theorem rk_loopc {X : Type} {body : Code} {k : List Code} {df : List Deferred} (ρc : Env) (ρv : X → Env) (dfs : X → List Deferred) (inv : X → World → Prop) (μ : X → Nat) (x0 : X) (hdf : df = dfs x0) (hc : Sub ρ ρc) (hv : Sub ρ (ρv x0)) (hi : inv x0 w)
    (round : ∀ x w, inv x w → RAWK P n ⟨dfs x, none⟩ (WLI P n k W ρc ρv dfs inv μ x) [body] (ρv x ++ ρc) w) : RAWK P n ⟨df, none⟩ W (.loop body :: k) ρ w := by
  subst hdf
  intro a ha
  refine wpIn_loop_ghost (fun m a w => ∃ x, Ag n ⟨dfs x, none⟩ (ρv x ++ ρc) a ∧ inv x w ∧ μ x = m) (μ x0) ⟨x0, ha.sub2 hv hc, hi, rfl⟩ ?_
  rintro m a w ⟨x, hag, hx, rfl⟩
  refine wpIn_mono (round x w hx a hag) ?_
  intro e a' w' hq
  cases e with
  | normal => obtain ⟨x', h1, h2, h3⟩ := hq; exact ⟨μ x', h3, x', h1, h2, rfl⟩
  | exit i => exact hq
  | goto l => exact hq
  | ret => exact hq
  | panic ch => exact hq
  | outgrown => exact hq
theorem rf_round {X : Type} {k : List Code} {df : List Deferred} {ρc : Env} {ρv : X → Env} {dfs : X → List Deferred} {inv : X → World → Prop} {μ : X → Nat} {x : X} (h : ∃ x', df = dfs x' ∧ Sub ρ (ρv x') ∧ Sub ρ ρc ∧ inv x' w ∧ μ x' < μ x) :
    RawF n ⟨df, none⟩ (WLI P n k W ρc ρv dfs inv μ x) .normal ρ w := by
  obtain ⟨x', rfl, h1, h2, h3, h4⟩ := h
  exact fun a ha => ⟨x', ha.sub2 h1 h2, h3, h4⟩
theorem rf_iexit {X : Type} {k : List Code} {ρc : Env} {ρv : X → Env} {dfs : X → List Deferred} {inv : X → World → Prop} {μ : X → Nat} {x : X} {i : Nat} (h : RawF n Df W (.exit i) ρ w) : RawF n Df (WLI P n k W ρc ρv dfs inv μ x) (.exit i) ρ w := h
end
def MarksL (s : St) (lo : Nat) : Nat → List Deferred → Prop
  | _, [] => True
  | hi, d :: df => ∃ D, d = ⟨.collected D, #[]⟩ ∧ Mark s D ∧ lo ≤ D ∧ D < hi ∧ MarksL s lo D df
theorem MarksL.nil {s : St} {lo hi : Nat} : MarksL s lo hi [] := trivial
theorem MarksL.mono {s : St} {lo : Nat} : ∀ {df : List Deferred} {hi hi' : Nat}, MarksL s lo hi df → hi ≤ hi' → MarksL s lo hi' df
  | [], _, _, _, _ => trivial
  | _ :: _, _, _, ⟨D, h1, h2, h3, h4, h5⟩, h => ⟨D, h1, h2, h3, Nat.lt_of_lt_of_le h4 h, h5⟩
theorem MarksL.upK {K : Lab → Prop} {s s' : St} {lo : Nat} (st : Step K s s') : ∀ {df : List Deferred} {hi : Nat}, MarksL s lo hi df → (∀ D, lo ≤ D → D < hi → ¬ K ⟨D + 1, 0⟩) → MarksL s' lo hi df
  | [], _, _, _ => trivial
  | _ :: _, _, ⟨D, h1, h2, h3, h4, h5⟩, hk => ⟨D, h1, h2.up2 st (hk D h3 h4), h3, h4, MarksL.upK st h5 (fun D' h6 h7 => hk D' h6 (by omega))⟩
theorem MarksL.up2 {K : Lab → Prop} {s s' : St} {lo hi : Nat} {df : List Deferred} (h : MarksL s lo hi df) (st : Step K s s') (hk : ∀ l, K l → l.o ≤ lo ∨ hi < l.o := by intro l hl; first | exact hl.elim | omega | (simp only [KU, KN, KC, KO, K0, KB] at hl; omega)) : MarksL s' lo hi df :=
  h.upK st (fun D h1 h2 hl => by have h3 := hk _ hl; have h4 : (⟨D + 1, 0⟩ : Lab).o = D + 1 := rfl; omega)
theorem MarksL.cons {s : St} {lo hi D : Nat} {df : List Deferred} (hM : Mark s D) (hD : lo ≤ D) (h : MarksL s lo hi df) (hs : hi ≤ D) : MarksL s lo s.n (⟨.collected D, #[]⟩ :: df) := ⟨D, rfl, hM, hD, hM.1, h.mono hs⟩
theorem re_all {P : Program} {n : Nat} {ρ : Env} {fn : Func} {T : Ending → World → Prop} {lo : Nat} : ∀ {df : List Deferred} {hi : Nat} {s : St}, MarksL s lo hi df → (∀ s2 : St, Step (KN lo) s s2 → RE P n fn T [] ρ s2.w) → RE P n fn T df ρ s.w
  | [], _, s, _, h => h s ((Step.refl s).of0 (fun c hc => absurd hc (Nat.not_lt_zero _)))
  | d :: df, hi, s, ⟨D, e, hM, h1, h2, h3⟩, h => by
    subst e
    refine re_cons hM fun s2 st => re_all (lo := lo) (hi := D) (df := df) (h3.upK st ?_) ?_
    · intro D' _ h4 hl
      have h5 : (⟨D' + 1, 0⟩ : Lab).o = D + 1 := hl.1
      have h6 : (⟨D' + 1, 0⟩ : Lab).o = D' + 1 := rfl
      omega
    · intro s3 st3
      have st' : Step (KN lo) s s2 := st.mono (fun l hl => by have h5 : l.o = D + 1 := hl.1; show lo < l.o; omega) (fun c hc => absurd hc (Nat.not_lt_zero _))
      exact h s3 (st'.transK st3)
end Go.Fw

set_option linter.unusedSimpArgs false
set_option linter.unusedVariables false
namespace Go.Fw
def flatB (P : Program) (t : TypeId) (k : IntKind) (m : Nat) : Prop := P.underlying t = some (.struct (P.fieldsOf t)) ∧ P.stoodInHeld t = false ∧ P.eqGuardType P.depth t = false ∧
  ∃ f0 f1 e, (P.fieldsOf t).toList = [f0, f1] ∧ f0.name ≠ "_" ∧ f1.name ≠ "_" ∧ f0.offset = 0 ∧ f1.offset = 1 ∧ P.underlying f0.type = some (.int k) ∧ P.underlying f1.type = some (.array m e) ∧ P.underlying e = some (.int .u8) ∧ sizeT P e 1 = true ∧ sizeT P f1.type m = true
theorem run_eqB {P : Program} {w : World} {t : TypeId} {k : IntKind} {m : Nat} {a b : Int} {xs ys : List UInt8} (hT : flatB P t k m) (hx : xs.length = m) (hy : ys.length = m) :
    (Op.equalIn 10000 t (.agg (.int k a :: xs.map cB).toArray) (.agg (.int k b :: ys.map cB).toArray)).run P w = .ok (decide (a = b ∧ xs = ys)) w := by
  obtain ⟨h1, h2, h3, f0, f1, e, hf, n0, n1, o0, o1, u0, u1, ue, se, s1⟩ := hT
  rw [run_equalIn_struct (P := P) w 9999 t _ _ h1 h2, hf]
  have p0 : ∀ (w : World) (c : Int) (zs : List UInt8), (part f0.type (.int k c :: zs.map cB).toArray f0.offset).run P w = .ok (.int k c) w := fun w c zs => by
    simp [part, isAgg, run_underlying u0, o0]
  have p1 : ∀ (w : World) (c : Int) (zs : List UInt8), zs.length = m → (part f1.type (.int k c :: zs.map cB).toArray f1.offset).run P w = .ok (.agg (zs.map cB).toArray) w := fun w c zs hz => by
    have ex : ((Value.int k c :: zs.map cB).toArray).extract 1 (1 + m) = (zs.map cB).toArray := by
      apply Array.ext'
      simp only [List.extract_toArray, List.extract_eq_take_drop, List.drop_succ_cons, List.drop_zero, Nat.add_sub_cancel_left]
      rw [List.take_of_length_le (by rw [List.length_map]; omega)]
    simp only [part, isAgg, Sem.run_bind, run_underlying u1, Result.andThen_ok, o1, run_sizeOf s1, Sem.run_pure, if_true, ex]
  have e1 := run_equalIn_bytes (P := P) w 9997 f1.type e m u1 ue (fun w => run_sizeOf se) xs ys hx hy
  have e1' : (Op.equalIn 9999 f1.type (.agg (xs.map cB).toArray) (.agg (ys.map cB).toArray)).run P w = .ok (xs == ys) w := e1
  simp only [Op.eqFields, n0, n1, ne_eq, not_false_eq_true, if_true, Sem.run_bind, p0, Result.andThen_ok, run_equalIn_int w 9998 _ k k a b u0, p1 _ _ _ hx, p1 _ _ _ hy]
  by_cases hab : a = b
  · subst hab
    by_cases hxy : xs = ys
    · subst hxy
      simp [p1 _ _ _ hx, e1']
    · have hne : (xs == ys) = false := by simpa using hxy
      simp [p1 _ _ _ hx, p1 _ _ _ hy, e1', hxy]
  · simp [hab]
section
variable {P : Program} {n : Nat} {Df : Md} {ops : Array Oper} {Q : Post} {rest : List Oper} {ρ : Env} {s : St} {w0 : World}
variable {d : Nat} {ty : TypeId} {pos : String} {aft : Array Edge} {x y : Operand} {tx tyy : TypeId}
theorem k_eql_fb {k : IntKind} {m : Nat} {a b : Int} {xs ys : List UInt8} (hT : flatB P tx k m) (hx : ev ρ x = some (.agg (.int k a :: xs.map cB).toArray)) (hy : ev ρ y = some (.agg (.int k b :: ys.map cB).toArray)) (hl : xs.length = m) (hl2 : ys.length = m) (hd : Nat.blt d n = true)
    (hK : KL P n Df ops Q rest ((d, .bool (decide (a = b ∧ xs = ys))) :: ρ) w0) : KL P n Df ops Q (⟨some d, .binOp .eql tx x y tyy, ty, pos, aft, none⟩ :: rest) ρ w0 := by
  refine .val rfl rfl hd (v := .bool (decide (a = b ∧ xs = ys))) (w' := w0) (fun η ha => ?_) hK
  have e := run_eqB (P := P) (w := w0) (a := a) (b := b) hT hl hl2
  simp only [execOp, ha.ev hx, ha.ev hy, Sem.run_bind, run_eqGuard_agg w0 _ tx _ _ _ _ hT.2.2.1, Result.andThen_ok, run_eql_struct, e]
  rfl
theorem k_neq_fb {k : IntKind} {m : Nat} {a b : Int} {xs ys : List UInt8} (hT : flatB P tx k m) (hx : ev ρ x = some (.agg (.int k a :: xs.map cB).toArray)) (hy : ev ρ y = some (.agg (.int k b :: ys.map cB).toArray)) (hl : xs.length = m) (hl2 : ys.length = m) (hd : Nat.blt d n = true)
    (hK : KL P n Df ops Q rest ((d, .bool (decide (¬ (a = b ∧ xs = ys)))) :: ρ) w0) : KL P n Df ops Q (⟨some d, .binOp .neq tx x y tyy, ty, pos, aft, none⟩ :: rest) ρ w0 := by
  refine .val rfl rfl hd (v := .bool (decide (¬ (a = b ∧ xs = ys)))) (w' := w0) (fun η ha => ?_) hK
  have e := run_eqB (P := P) (w := w0) (a := a) (b := b) hT hl hl2
  simp only [execOp, ha.ev hx, ha.ev hy, Sem.run_bind, run_eqGuard_agg w0 _ tx _ _ _ _ hT.2.2.1, Result.andThen_ok, run_neq_struct, e, decide_not]
  rfl
end
end Go.Fw

set_option linter.unusedSimpArgs false
set_option linter.unusedVariables false
namespace Go.Fw
theorem dec_andT {P : Prop} [Decidable P] {b : Bool} (h : P) : b = decide (P ∧ b = true) := by cases b <;> simp [h]
theorem dec_andF {P Q : Prop} [Decidable P] [Decidable Q] (h : ¬ P) : false = decide (P ∧ Q) := by simp [h]
theorem dec_orF {P : Prop} [Decidable P] {b : Bool} (h : ¬ P) : b = decide (P ∨ b = true) := by cases b <;> simp [h]
theorem dec_orT {P Q : Prop} [Decidable P] [Decidable Q] (h : P) : true = decide (P ∨ Q) := by simp [h]
theorem run_loadBytes {P : Program} {w : World} : ∀ (xs : List UInt8) (a : Addr) (acc : ByteArray), (∀ j x, xs[j]? = some x → w.cell? (a.add j) = some (cB x)) → (Extern.Bytes.loadBytes a xs.length acc).run P w = .ok ⟨(acc.data.toList ++ xs).toArray⟩ w
  | [], a, acc, _ => by simp [Extern.Bytes.loadBytes]
  | x :: xs, a, acc, h => by
    have h0 : w.cell? a = some (cB x) := by
      have := h 0 x rfl
      have e : a.add 0 = a := by unfold Addr.add; split <;> simp_all
      rwa [e] at this
    have ih := run_loadBytes (P := P) (w := w) xs (a.add 1) (acc.push x) (fun j y hy => by
      have := h (j + 1) y (by simpa using hy)
      have e : (a.add 1).add j = a.add (j + 1) := by unfold Addr.add; split <;> simp_all <;> omega
      rw [e]; exact this)
    have e2 : (x.toNat : Int).toNat.toUInt8 = x := by simp
    simp only [List.length_cons, Extern.Bytes.loadBytes, Sem.run_bind, run_load h0, Result.andThen_ok, e2, ih]
    congr 2
    simp
theorem run_bytesOf {P : Program} {s : St} {l : Lab} {v : Value} {xs : List UInt8} (h : SL s l v 1 (xs.map bD)) : (Extern.Bytes.bytesOf v).run P s.w = .ok ⟨xs.toArray⟩ s.w := by
  rcases h.cells with ⟨he, a, cap, rfl, hz⟩ | ⟨b, off, cap, zs, rfl, hr, hc⟩
  · rw [List.map_eq_nil_iff] at he
    subst he
    cases a with
    | none => simp [Extern.Bytes.bytesOf]; rfl
    | some a => exact run_loadBytes [] a .empty (fun j x h => by simp at h)
  · have hzs := RCs.vals (w := 1) (f := cB) (g := bD) (fun _ => rfl) hr
    subst hzs
    have := run_loadBytes (P := P) (w := s.w) xs ⟨b, off, none⟩ .empty (fun j x hx => hc j _ (by rw [List.getElem?_map, hx]; rfl))
    rw [List.length_map]
    exact this
theorem run_cmpB {P : Program} {s : St} {l l2 : Lab} {v u : Value} {xs ys : List UInt8} (h : SL s l v 1 (xs.map bD)) (h2 : SL s l2 u 1 (ys.map bD)) : (Extern.BytealgCompare.compare #[v, u]).run P s.w = .ok (.int .i64 (Lib.compareBytes xs ys)) s.w := by
  change Sem.run P (do pure (goInt (Extern.BytealgCompare.cmp (← Extern.Bytes.bytesOf v) (← Extern.Bytes.bytesOf u)))) s.w = _
  simp only [Sem.run_bind, run_bytesOf h, run_bytesOf h2, Result.andThen_ok, Sem.run_pure]
  rw [Lib.cmp_eq]
  rfl
section
variable {P : Program} {n : Nat} {Df : Md} {ops : Array Oper} {Q : Post} {rest : List Oper} {ρ : Env} {s : St} {w0 : World}
variable {d : Nat} {ty : TypeId} {pos : String} {aft : Array Edge} {x y : Operand} {tx tyy : TypeId}
theorem k_call_ext {f : FuncId} {xs : List Operand} {ats : Array TypeId} {vs : List Value} {v : Value} (hx : evs ρ xs = some vs) (hrun : (callFunc f vs.toArray).run P w0 = .ok (.value v) w0) (hd : Nat.blt d n = true)
    (hK : KL P n Df ops Q rest ((d, v) :: ρ) w0) : KL P n Df ops Q (⟨some d, .call { callee := .value (.func f), args := xs.toArray, argTypes := ats }, ty, pos, aft, none⟩ :: rest) ρ w0 := by
  refine .val rfl rfl hd (v := v) (w' := w0) (fun η ha => ?_) hK
  have hx' := Agr.evs (η := η) (fun _ _ e => ha.ev e) hx
  have hff : η (.func f) = .func (.func f) #[] #[] := by
    have := ha.ev (x := .func f) (v := .func (.func f) #[] #[]) rfl
    exact this
  unfold execOp
  simp only [resolve, Deferred.ofValue, hff]
  simp [invoke, hx', hrun]
end
theorem Blk.freeze {s : St} {b : Nat} {l : Lab} {cs : List Value} {T : TypeId} (h : Blk s b l cs T) (hl0 : l.o ≠ 0) : ∃ s', s'.w = s.w ∧ Step (KC l.o l.c) s s' ∧ Blk s' b L0 cs T := by
  classical
  refine ⟨⟨s.w, fun x => if x = b then L0 else s.g x, fun x => ?_⟩, rfl, ⟨rfl, rfl, rfl, Nat.le_refl _, fun b' hb' hk => ⟨rfl, ?_⟩, fun c hc => hl0 hc.1.symm⟩, h.heap, by simp⟩
  · by_cases hx : x = b
    · simp [hx, L0]
    · simp [hx]; exact s.wf x
  · have : b' ≠ b := by rintro rfl; exact hk (by rw [h.lab]; exact ⟨rfl, rfl⟩)
    simp [this]
theorem Blk.cutSL {α : Type} {s : St} {b m q : Nat} {l : Lab} {T : TypeId} {g : α → D} (f : α → Value) (hfg : ∀ x, g x = .val (f x)) (hf : ∀ x, (f x).oneCell' = true) {pre post : List Value} {xs : List α} {i j : Nat} (hb : Blk s b l (pre ++ (xs.map f ++ post)) T) (hm : pre.length = m) (hl : xs.length = q) (hij : i ≤ j) (hj : j ≤ q) :
    SL s l (.slice (some ⟨b, m + i, none⟩) (j - i) (q - i)) 1 (((xs.drop i).take (j - i)).map g) := by
  have hlen : (((xs.drop i).take (j - i)).map g).length = j - i := by rw [List.length_map, List.length_take, List.length_drop]; omega
  refine .inr ⟨b, m + i, q - i, fun k => [((xs[i + k]?).map f).getD .nilIface], by rw [hlen], hb.lt, hb.lab, by omega, fun k hk => rfl, fun k hk c hc => ?_, fun k hk => ?_⟩
  · have hk' : i + k < xs.length := by rw [hlen] at hk; omega
    obtain rfl : c = 0 := by omega
    have h1 := hb.cell (m + (i + k))
    rw [List.getElem?_append_right (by omega), hm, show m + (i + k) - m = i + k by omega, List.getElem?_append_left (by rw [List.length_map]; exact hk'), List.getElem?_map, List.getElem?_eq_getElem hk'] at h1
    simp only [Nat.mul_one, Nat.add_zero, List.getElem?_eq_getElem hk', Nat.add_assoc]
    exact h1
  · have hk' : i + k < xs.length := by rw [hlen] at hk; omega
    simp only [List.getElem?_eq_getElem hk', List.getElem_map, List.getElem_take, List.getElem_drop, Option.map_some, Option.getD_some, hfg]
    exact .val _ (hf _)
end Go.Fw

set_option linter.unusedSimpArgs false
set_option linter.unusedVariables false
namespace Go.FwT
open Go.Fw hiding Own k_append k_append_nil k_append_str k_append_str_nil k_bslice2 k_cut_row0 Elt jBe jBn k_makeI2
def Own (s : St) (l : Lab) (e : TypeId) (w : Nat) (v : Value) (ds : List D) : Prop :=
  l.o ≠ 0 ∧ l.o ≤ s.n + 1 ∧ ((v = .slice none 0 0 ∧ ds = []) ∨
    ∃ (g off cap : Nat) (cur : List Value), v = .slice (some ⟨g, off, none⟩) ds.length cap ∧ RB s g l e cur ∧ ds.length ≤ cap ∧ cap ≤ maxLen ∧ off + cap * w ≤ cur.length ∧ RCs s w ((cur.drop off).take (ds.length * w)) ds)
theorem Own.of {s : St} {l : Lab} {e : TypeId} {w : Nat} {v : Value} {ds : List D} (h : Go.Fw.Own s l e w v ds) : Own s l e w v ds := by
  obtain ⟨h0, h1, xs, ho, hg, hr⟩ := h
  refine ⟨h0, h1, ?_⟩
  rcases ho.2 with ⟨hv, hz⟩ | ⟨g, cap, cur, rfl, _, hh, hle, hcm, hsz, hx⟩
  · exact .inl ⟨hv, List.eq_nil_of_length_eq_zero hz⟩
  · refine .inr ⟨g, 0, cap, cur.toList, rfl, ⟨by simpa using hh, hg g rfl⟩, hle, hcm, by rw [Array.length_toList, hsz]; omega, ?_⟩
    rw [List.drop_zero, hx]; exact hr
theorem Own.blk {s : St} {l : Lab} {e : TypeId} {w : Nat} {v : Value} {ds : List D} (h : Own s l e w v ds) : ∀ g, v.ownBlock = some g → s.g g = l ∧ g < s.n := by
  obtain ⟨_, _, ⟨rfl, _⟩ | ⟨g, off, cap, cur, rfl, hb, _⟩⟩ := h
  · intro g hg; simp [Value.ownBlock] at hg
  · intro g' hg
    simp [Value.ownBlock] at hg
    subst hg
    exact ⟨hb.lab, (Array.getElem?_eq_some_iff.1 hb.heap).1⟩
theorem Own.up {K : Lab → Prop} {s s' : St} {l : Lab} {e : TypeId} {w : Nat} {v : Value} {ds : List D} (h : Own s l e w v ds) (st : Step K s s') (hk : ¬ K l) : Own s' l e w v ds := by
  obtain ⟨h0, h1, h⟩ := h
  refine ⟨h0, Nat.le_trans h1 (Nat.add_le_add_right st.size 1), ?_⟩
  rcases h with h | ⟨g, off, cap, cur, e1, hb, h2, h3, h4, h5⟩
  · exact .inl h
  · exact .inr ⟨g, off, cap, cur, e1, hb.up2 st hk, h2, h3, h4, h5.up st⟩
theorem Own.up2 {K : Lab → Prop} {s s' : St} {l : Lab} {e : TypeId} {v : Value} {w : Nat} {ds : List D} (h : Own s l e w v ds) (st : Step K s s') (hk : ¬ K l := by first | exact id | (simp only [KU, KN, KC, KO, K0, KB] <;> omega)) : Own s' l e w v ds := h.up st hk
theorem Own.nil {s : St} {l : Lab} {e : TypeId} {w : Nat} (h0 : l.o ≠ 0) (h1 : l.o ≤ s.n + 1) : Own s l e w (.slice none 0 0) [] := ⟨h0, h1, .inl ⟨rfl, rfl⟩⟩
theorem Own.sl {s : St} {l : Lab} {e : TypeId} {w : Nat} {v : Value} {ds : List D} (h : Own s l e w v ds) : SL s l v w ds := by
  obtain ⟨h0, h1, ⟨rfl, rfl⟩ | ⟨g, off, cap, cur, rfl, hb, hle, hcm, hsz, hr⟩⟩ := h
  · exact .inl ⟨rfl, none, 0, rfl, fun _ => rfl⟩
  · have hmul := Nat.mul_le_mul_right w hle
    refine .inr ⟨g, off, cap, fun i => (((cur.drop off).take (ds.length * w)).drop (i * w)).take w, rfl, (Array.getElem?_eq_some_iff.1 hb.heap).1, hb.lab, hle, ?_, ?_, hr.2⟩
    · intro i hi
      have : i * w + w ≤ ds.length * w := by
        calc i * w + w = (i + 1) * w := by rw [Nat.add_mul, Nat.one_mul]
          _ ≤ ds.length * w := Nat.mul_le_mul_right _ hi
      simp; omega
    · intro i hi j hj
      have : i * w + w ≤ ds.length * w := by
        calc i * w + w = (i + 1) * w := by rw [Nat.add_mul, Nat.one_mul]
          _ ≤ ds.length * w := Nat.mul_le_mul_right _ hi
      rw [hb.cell]
      rw [List.getElem?_take_of_lt hj, List.getElem?_drop, List.getElem?_take_of_lt (by omega), List.getElem?_drop]
      congr 1; omega
theorem Own.move {s : St} {l : Lab} {e : TypeId} {w : Nat} {v : Value} {ds : List D} (h : Own s l e w v ds) (l' : Lab) (hl : l'.o ≤ l.o) : ∃ s', s'.w = s.w ∧ s'.n = s.n ∧ Step (KC l.o l.c) s s' ∧ ∀ g, v.ownBlock = some g → s'.g g = l' := by
  classical
  have hb := h.blk
  have h0 := h.1
  let s' : St := ⟨s.w, fun b => if v.ownBlock = some b then l' else s.g b, fun b => by
    by_cases hv : v.ownBlock = some b
    · have := s.wf b; rw [(hb b hv).1] at this; simp [hv]; omega
    · simp [hv]; exact s.wf b⟩
  refine ⟨s', rfl, rfl, ⟨rfl, rfl, rfl, Nat.le_refl _, fun b hb' hk => ⟨rfl, ?_⟩, fun c hc => h0 hc.1.symm⟩, fun g hg => by simp [s', hg]⟩
  by_cases hvb : v.ownBlock = some b
  · exact absurd ⟨by rw [(hb b hvb).1], by rw [(hb b hvb).1]⟩ hk
  · simp [s', hvb]
theorem Own.under {s s' : St} {l l' : Lab} {e : TypeId} {w : Nat} {v : Value} {ds : List D} (h : Own s l e w v ds) {K : Lab → Prop} (st : Step K s s') (hw : s'.w = s.w) (hg : ∀ g, v.ownBlock = some g → s'.g g = l') (h0 : l'.o ≠ 0) (h1 : l'.o ≤ s'.n + 1) : Own s' l' e w v ds := by
  obtain ⟨_, _, h⟩ := h
  refine ⟨h0, h1, ?_⟩
  rcases h with h | ⟨g, off, cap, cur, rfl, hb, h2, h3, h4, h5⟩
  · exact .inl h
  · exact .inr ⟨g, off, cap, cur, rfl, ⟨by rw [hw]; exact hb.heap, hg g rfl⟩, h2, h3, h4, h5.up st⟩
theorem Own.freeze {s : St} {l : Lab} {e : TypeId} {w : Nat} {v : Value} {ds : List D} (h : Own s l e w v ds) : ∃ s', s'.w = s.w ∧ Step (KC l.o l.c) s s' ∧ R s' v (.sl w ds) := by
  obtain ⟨s', e1, _, st, hg⟩ := h.move L0 (Nat.zero_le _)
  refine ⟨s', e1, st, R.of_SL ?_⟩
  rcases h.sl with hn | ⟨b, off, cap, cs, hv, hb, hgb, hcap, hw, hc, hr⟩
  · exact .inl hn
  · exact .inr ⟨b, off, cap, cs, hv, Nat.lt_of_lt_of_le hb st.size, hg b (by rw [hv]; rfl), hcap, hw, fun i hi j hj => by rw [e1]; exact hc i hi j hj, fun i hi => (hr i hi).up st⟩
theorem Own.anew {s : St} {n : Nat} {l : Lab} {e : TypeId} {w : Nat} {v : Value} {ds : List D} (c : Nat) (h : Own s l e w v ds) (hn : n < l.o ∧ l.c = 0) (hs : n ≤ s.n) :
    ∃ l' : Lab, ((l'.o = s.n + 1 ∧ l'.c = c) ∨ (n < l'.o ∧ l'.o ≤ s.n ∧ l'.c = 0)) ∧ Own s l' e w v ds := by
  have hb := h.blk
  obtain ⟨h0, h1, ⟨rfl, rfl⟩ | hr⟩ := id h
  · exact ⟨⟨s.n + 1, c⟩, .inl ⟨rfl, rfl⟩, Own.nil (by simp) (Nat.le_refl _)⟩
  · refine ⟨l, .inr ⟨hn.1, ?_, hn.2⟩, h⟩
    obtain ⟨g, off, cap, cur, rfl, hb2, _⟩ := hr
    have := s.wf g
    have h3 := hb g rfl
    rw [h3.1] at this
    omega
theorem Own.zero {s : St} {l : Lab} {e : TypeId} {w : Nat} {v : Value} {ds : List D} (h : Own s l e w v ds) : ∃ s', s'.w = s.w ∧ Step (KC l.o l.c) s s' ∧ Own s' ⟨l.o, 0⟩ e w v ds := by
  obtain ⟨s', e1, e2, st, hg⟩ := h.move ⟨l.o, 0⟩ (Nat.le_refl _)
  exact ⟨s', e1, st, h.under st e1 hg h.1 (by rw [e2]; exact h.2.1)⟩
theorem Own.le1 {s : St} {l : Lab} {e : TypeId} {w : Nat} {v : Value} {ds : List D} (h : Own s l e w v ds) : l.o ≠ 0 ∧ l.o ≤ s.n + 1 := ⟨h.1, h.2.1⟩
theorem Own.le_ne {s : St} {l : Lab} {e : TypeId} {w : Nat} {v : Value} {ds : List D} (h : Own s l e w v ds) (hne : ds ≠ []) : l.o ≤ s.n := by
  rcases h.sl with ⟨h1, _⟩ | ⟨b, off, cap, cs, e, hb, hg, _⟩
  · exact absurd h1 hne
  · have := s.wf b; rw [hg] at this; omega
theorem Own.relabel {s : St} {l : Lab} {e : TypeId} {w : Nat} {v : Value} {ds : List D} (q c : Nat) (h : Own s l e w v ds) (hq : q < l.o) (hs : q ≤ s.n) : ∃ s', s'.w = s.w ∧ Step (KC l.o l.c) s s' ∧ Own s' ⟨q + 1, c⟩ e w v ds := by
  obtain ⟨s', e1, e2, st, hg⟩ := h.move ⟨q + 1, c⟩ hq
  exact ⟨s', e1, st, h.under st e1 hg (Nat.succ_ne_zero _) (by rw [e2]; exact Nat.succ_le_succ hs)⟩
section
variable {P : Program} {n : Nat} {Df : Md} {ops : Array Oper} {Q : Post} {rest : List Oper} {ρ : Env} {s : St} {w0 : World}
variable {d : Nat} {ty : TypeId} {pos : String} {aft : Array Edge} {x y z : Operand} {tx tyy : TypeId}
theorem subl_tail_ {α : Type} {l m : List α} {a : Int} (h : subl l a (l.length : Int) = some m) : m = l.drop a.toNat := by
  rw [(subl_out h).2.2.2, Int.toNat_natCast]
  exact List.take_of_length_le (by rw [List.length_drop]; omega)
theorem cut_app {α : Type} (cur ys : List α) (o k m : Nat) (h : o + k + ys.length ≤ cur.length) (hm : m = k + ys.length) : ((cur.take (o + k) ++ ys ++ cur.drop (o + k + ys.length)).drop o).take m = (cur.drop o).take k ++ ys := by
  subst hm
  rw [List.append_assoc, List.drop_append_of_le_length (by simp; omega), ← List.append_assoc, List.take_append_of_le_length (by simp; omega), List.take_of_length_le (by simp; omega), List.drop_take, Nat.add_sub_cancel_left]
theorem k_append {l lx : Lab} {t e w bytes : Nat} {z : Value} {v vx : Value} {ds es : List D} (hT : elemT P t e w bytes z) (hx : ev ρ x = some v) (hy : ev ρ y = some vx) (h : Own s l e w v ds) (h' : SL s lx vx w es)
    (hsz : (ds.length + es.length) * bytes ≤ 140737488355328) (hmx : ds.length + es.length ≤ 9223372036854775807) (hd : Nat.blt d n = true)
    (hK : ∀ s' v', Step (KC l.o l.c) s s' → Own s' l e w v' (ds ++ es) → KL P n Df ops Q rest ((d, v') :: ρ) s'.w) :
    KL P n Df ops Q (⟨some d, .call { callee := .builtin .append, args := [x, y].toArray, argTypes := [t, t].toArray }, ty, pos, aft, none⟩ :: rest) ρ s.w := by
  have hblk := h.blk
  have hmx' : ds.length + es.length ≤ maxLen := by unfold maxLen; omega
  obtain ⟨h0, hle, hc⟩ := id h
  rcases hc with ⟨rfl, rfl⟩ | ⟨g, off0, cap', cur, rfl, hb, hle', hcm, hsz', hr⟩
  · exact Go.Fw.k_append hT hx hy (Go.Fw.Own.nil h0 hle) h' hsz hmx hd (fun s' v' st ho => hK s' v' st (Own.of ho))
  obtain ⟨i, h1, h2, h3, h4, h5, h6, h7⟩ := id hT
  rcases h'.cells with ⟨rfl, a, cap, rfl, ha⟩ | ⟨b, off, cap, ys, rfl, hys, hcc⟩
  · refine .val rfl rfl hd (v := .slice (some ⟨g, off0, none⟩) ds.length cap') (w' := s.w) (fun η ha' => ?_) (hK s _ ⟨rfl, rfl, rfl, Nat.le_refl _, fun _ _ _ => ⟨rfl, rfl⟩, fun c hc => h0 hc.1.symm⟩ (by rw [List.append_nil]; exact h))
    have hrun : (Builtin.append_ #[t, t] ty #[.slice (some ⟨g, off0, none⟩) ds.length cap', .slice a 0 cap]).run P s.w = .ok (.slice (some ⟨g, off0, none⟩) ds.length cap') s.w := by
      cases a <;> simp [Builtin.append_, run_underlying h1, sizeOf, typeInfo, h2, Builtin.lenOf, hle', Builtin.firstCells, loadCells, loadCellsFrom, storeCells]
    simp [execOp, resolve, invoke, builtin, ha'.ev hx, ha'.ev hy, hrun]
  · have hyl : ys.length = es.length * w := hys.1
    have hone := hys.one_cells
    have hmul := Nat.mul_le_mul_right w hle'
    by_cases hroom : ds.length + es.length ≤ cap'
    · have hmul2 := Nat.mul_le_mul_right w hroom
      rw [Nat.add_mul] at hmul2
      have hrun := run_append_room_cells (P := P) s.w t ty e i h1 h2 g off0 ds.length cap' ⟨b, off, none⟩ es.length cap ys (by rw [h4]; exact hyl) hcc hone hroom
        (fun j hj => by rw [h4, hb.cell, List.getElem?_eq_getElem (by omega)]; rfl) (fun j hj => by simp [World.frozen?, hb.heap])
      rw [h4] at hrun
      have hset := heap_setCells g ys (off0 + ds.length * w) s.w cur e (0, 0) hb.heap (by omega)
      obtain ⟨r1, r2, r3, r4⟩ := setCells_rest g ys (off0 + ds.length * w) s.w
      have st : Step (KC l.o l.c) s (s.re (s.w.setCells g (off0 + ds.length * w) ys)) := by
        refine ⟨r1, r2, r3, Nat.le_of_eq r4.symm, fun b' hb' hk => ⟨heap_setCells_ne g b' ?_ ys _ s.w, rfl⟩, fun c hc => h0 hc.1.symm⟩
        rintro rfl
        exact hk (by rw [hb.lab]; exact ⟨rfl, rfl⟩)
      refine .val rfl rfl hd (v := .slice (some ⟨g, off0, none⟩) (ds.length + es.length) cap') (w' := s.w.setCells g (off0 + ds.length * w) ys) (fun η ha => ?_) (hK (s.re _) _ st ⟨h0, Nat.le_trans hle (Nat.add_le_add_right st.size 1), .inr ⟨g, off0, cap', _, by rw [List.length_append], ⟨hset, hb.lab⟩, by rw [List.length_append]; exact hroom, hcm, ?_, ?_⟩⟩)
      · simp [execOp, resolve, invoke, builtin, ha.ev hx, ha.ev hy, hrun]
      · simp only [List.length_append, List.length_take, List.length_drop]; omega
      · rw [List.length_append, cut_app cur ys off0 (ds.length * w) _ (by omega) (by rw [Nat.add_mul, hyl])]
        exact (hr.append hys).up st
    · have hol : ((cur.drop off0).take (ds.length * w)).length = ds.length * w := by rw [List.length_take, List.length_drop]; omega
      obtain ⟨v', w', hrun, how, hgr⟩ := run_append_arg_grows (P := P) s.w t ty e i z w bytes h1 h2 h3 h4 h5 h6 h7 ⟨g, off0, none⟩ ds.length cap' ((cur.drop off0).take (ds.length * w)) hol (fun j u hj => by
          rw [addr_add, hb.cell]
          rw [List.getElem?_take] at hj
          split at hj
          · rw [List.getElem?_drop] at hj; exact hj
          · cases hj) ⟨b, off, none⟩ es.length cap ys hyl hcc (by omega) hmx' (by simpa using hsz)
      have how0 : w'.ownsRow 0 e w v' (ds ++ es).length ((cur.drop off0).take (ds.length * w) ++ ys) := by
        rw [List.length_append]
        refine ⟨how.1, ?_⟩
        rcases how.2 with h | ⟨g, c, cu, e1, e2, r⟩
        · exact .inl h
        · exact .inr ⟨g, c, cu, e1, Nat.zero_le _, r⟩
      have hgr' : s.w.grownBy w' (Value.ownBlock (.slice (some ⟨g, off0, none⟩) ds.length cap')) := ⟨hgr.os, hgr.tape, hgr.output, hgr.size, fun k hk _ => hgr.block k hk (by simp)⟩
      have hown := own_grown (l := l) (v := .slice (some ⟨g, off0, none⟩) ds.length cap') (m := 0) h0 hle (fun g hg => (hblk g hg).1) (hr.append hys) how0 hgr' (fun g' hgb hlt => by
        have h1 := how.lt g' hgb
        have h2 : s.n = s.w.heap.size := rfl
        omega)
      refine .val rfl rfl hd (v := v') (w' := w') (fun η ha => ?_) (hK (s.to w' l hle) v' hown.1 (Own.of hown.2))
      simp [execOp, resolve, invoke, builtin, ha.ev hx, ha.ev hy, hrun]
theorem k_append_nil {lx : Lab} (c : Nat) {t e w0 bytes : Nat} {z : Value} {vx : Value} {es : List D} (hT : elemT P t e w0 bytes z) (hx : ev ρ x = some (.slice none 0 0)) (hy : ev ρ y = some vx) (h' : SL s lx vx w0 es)
    (hsz : es.length * bytes ≤ 140737488355328) (hmx : es.length ≤ 9223372036854775807) (hd : Nat.blt d n = true)
    (hK : ∀ s' v', Step K0 s s' → Own s' ⟨s.n + 1, c⟩ e w0 v' es → KL P n Df ops Q rest ((d, v') :: ρ) s'.w) :
    KL P n Df ops Q (⟨some d, .call { callee := .builtin .append, args := [x, y].toArray, argTypes := [t, t].toArray }, ty, pos, aft, none⟩ :: rest) ρ s.w :=
  Go.Fw.k_append_nil c hT hx hy h' hsz hmx hd (fun s' v' st ho => hK s' v' st (Own.of ho))
theorem k_append_str {l : Lab} {t u e bytes : Nat} {z : Value} {v : Value} {ds : List D} {m : List UInt8} (hT : elemT P t e 1 bytes z) (hz : z = .int .u8 0) (hb1 : bytes = 1) (hu : P.underlying u = some .string) (hx : ev ρ x = some v) (hy : ev ρ y = some (S m)) (h : Own s l e 1 v ds)
    (hsz : ds.length + m.length ≤ 140737488355328) (hd : Nat.blt d n = true)
    (hK : ∀ s' v', Step (KC l.o l.c) s s' → Own s' l e 1 v' (ds ++ Bs m) → KL P n Df ops Q rest ((d, v') :: ρ) s'.w) :
    KL P n Df ops Q (⟨some d, .call { callee := .builtin .append, args := [x, y].toArray, argTypes := [t, u].toArray }, ty, pos, aft, none⟩ :: rest) ρ s.w := by
  have hblk := h.blk
  obtain ⟨h0, hle, hc⟩ := id h
  rcases hc with ⟨rfl, rfl⟩ | ⟨g, off0, cap', cur, rfl, hb, hle', hcm, hsz', hr⟩
  · exact Go.Fw.k_append_str hT hz hb1 hu hx hy (Go.Fw.Own.nil h0 hle) hsz hd (fun s' v' st ho => hK s' v' st (Own.of ho))
  subst hz hb1
  obtain ⟨i, h1, h2, h3, h4, h5, h6, h7⟩ := id hT
  have hss : (ByteArray.mk m.toArray).size = m.length := by rw [S_size]
  have hcells : Lib.strCells ⟨m.toArray⟩ = m.map fun b => Value.int .u8 b.toNat := by simp [Lib.strCells]
  have hyl : (Lib.strCells ⟨m.toArray⟩).length = m.length := by rw [hcells, List.length_map]
  have hys : RCs s 1 (Lib.strCells ⟨m.toArray⟩) (Bs m) := by rw [hcells]; exact RCs.bytes m
  have hbl : (Bs m).length = m.length := by simp
  have hone := Lib.strCells_oneCell ⟨m.toArray⟩
  rw [Nat.mul_one] at hr
  by_cases hroom : ds.length + m.length ≤ cap'
  · have hf := Lib.run_firstCells_string (P := P) s.w 1 ⟨m.toArray⟩
    have hst := run_storeCells_cells (P := P) g (off0 + ds.length) (Lib.strCells ⟨m.toArray⟩) 0 s.w (fun j hj => by rw [Nat.add_zero, hb.cell, List.getElem?_eq_getElem (by omega)]; rfl) (fun j hj => by simp [World.frozen?, hb.heap]) hone
    simp only [Nat.add_zero] at hst
    have hrun : (Builtin.append_ #[t, u] ty #[.slice (some ⟨g, off0, none⟩) ds.length cap', S m]).run P s.w = .ok (.slice (some ⟨g, off0, none⟩) (ds.length + m.length) cap') (s.w.setCells g (off0 + ds.length) (Lib.strCells ⟨m.toArray⟩)) := by
      rw [hss] at hf
      simp [Builtin.append_, run_underlying h1, run_underlying hu, sizeOf, typeInfo, h2, h4, Builtin.lenOf, hroom, hf, Addr.add_lit, hst, S, hss]
    have hset := heap_setCells g (Lib.strCells ⟨m.toArray⟩) (off0 + ds.length) s.w cur e (0, 0) hb.heap (by omega)
    obtain ⟨r1, r2, r3, r4⟩ := setCells_rest g (Lib.strCells ⟨m.toArray⟩) (off0 + ds.length) s.w
    have st : Step (KC l.o l.c) s (s.re (s.w.setCells g (off0 + ds.length) (Lib.strCells ⟨m.toArray⟩))) := by
      refine ⟨r1, r2, r3, Nat.le_of_eq r4.symm, fun b' hb' hk => ⟨heap_setCells_ne g b' ?_ (Lib.strCells ⟨m.toArray⟩) _ s.w, rfl⟩, fun c hc => h0 hc.1.symm⟩
      rintro rfl
      exact hk (by rw [hb.lab]; exact ⟨rfl, rfl⟩)
    refine .val rfl rfl hd (v := .slice (some ⟨g, off0, none⟩) (ds.length + m.length) cap') (w' := s.w.setCells g (off0 + ds.length) (Lib.strCells ⟨m.toArray⟩)) (fun η ha => ?_) (hK (s.re _) _ st ⟨h0, Nat.le_trans hle (Nat.add_le_add_right st.size 1), .inr ⟨g, off0, cap', _, by rw [List.length_append, hbl], ⟨hset, hb.lab⟩, by rw [List.length_append, hbl]; exact hroom, hcm, ?_, ?_⟩⟩)
    · simp [execOp, resolve, invoke, builtin, ha.ev hx, ha.ev hy, hrun]
    · simp only [List.length_append, List.length_take, List.length_drop]; omega
    · rw [List.length_append, hbl, Nat.mul_one, cut_app cur _ off0 ds.length _ (by omega) (by rw [hyl])]
      exact (hr.append hys).up st
  · have hol : ((cur.drop off0).take ds.length).length = ds.length := by rw [List.length_take, List.length_drop]; omega
    have hrun := Lib.run_append_grow_string (P := P) s.w t u ty e i (.int .u8 0) h1 hu h2 h3 ⟨g, off0, none⟩ ds.length cap' ((cur.drop off0).take ds.length) (by rw [h4]; simpa using hol) (fun j u hj => by
        rw [addr_add, hb.cell]
        rw [List.getElem?_take] at hj
        split at hj
        · rw [List.getElem?_drop] at hj; exact hj
        · cases hj) ⟨m.toArray⟩ (by omega) (by omega) (by rw [h5]; exact growslice_fits (by omega) (by omega))
    have hge := grownCap_ge s.w (ds.length + (ByteArray.mk m.toArray).size) cap' e
    have hcm2 : grownCap s.w (ds.length + (ByteArray.mk m.toArray).size) cap' e ≤ maxLen := grownCap_le_maxLen s.w _ cap' e (by unfold maxLen; omega)
    have how0 : (s.w.drew.alloc (.cells (((cur.drop off0).take ds.length).toArray ++ (Lib.strCells ⟨m.toArray⟩).toArray ++ Builtin.zeroCells (Value.int .u8 0).cells (grownCap s.w (ds.length + (ByteArray.mk m.toArray).size) cap' e - (ds.length + (ByteArray.mk m.toArray).size))) e)).ownsRow 0 e 1
        (.slice (some ⟨s.w.heap.size, 0, none⟩) (ds.length + (ByteArray.mk m.toArray).size) (grownCap s.w (ds.length + (ByteArray.mk m.toArray).size) cap' e)) (ds ++ Bs m).length ((cur.drop off0).take ds.length ++ Lib.strCells ⟨m.toArray⟩) := by
      have hlen : (((cur.drop off0).take ds.length) ++ Lib.strCells ⟨m.toArray⟩).length = ds.length + (ByteArray.mk m.toArray).size := by rw [List.length_append, hol, hyl, hss]
      refine ⟨by rw [hlen, List.length_append, hbl, hss, Nat.mul_one], .inr ⟨s.w.heap.size, _, _, by rw [List.length_append, hbl, hss], Nat.zero_le _, heap_alloc_new s.w.drew _, by rw [List.length_append, hbl, ← hss]; exact hge, hcm2, ?_, ?_⟩⟩
      · have hz1 : (Value.int IntKind.u8 0).cells.size = 1 := rfl
        simp only [Array.size_append, List.size_toArray, size_zeroCells, hz1, hol, hyl, hss]
        rw [hss] at hge
        omega
      · simp only [Array.toList_append, List.append_assoc]
        rw [← List.append_assoc, List.length_append, hbl, Nat.mul_one, ← hss, ← hlen]
        exact List.take_left
    have hgr' : s.w.grownBy (s.w.drew.alloc (.cells (((cur.drop off0).take ds.length).toArray ++ (Lib.strCells ⟨m.toArray⟩).toArray ++ Builtin.zeroCells (Value.int .u8 0).cells (grownCap s.w (ds.length + (ByteArray.mk m.toArray).size) cap' e - (ds.length + (ByteArray.mk m.toArray).size))) e)) (Value.ownBlock (.slice (some ⟨g, off0, none⟩) ds.length cap')) :=
      ⟨rfl, rfl, rfl, by simp, fun k hk _ => heap_alloc_old s.w.drew _ hk⟩
    have hown := own_grown (l := l) (v := .slice (some ⟨g, off0, none⟩) ds.length cap') (m := 0) h0 hle (fun g hg => (hblk g hg).1) (hr.append hys) how0 hgr' (fun g' hgb hlt => by
      simp [Value.ownBlock] at hgb
      have h2 : s.n = s.w.heap.size := rfl
      omega)
    refine .val rfl rfl hd (fun η ha => ?_) (hK (s.to _ l hle) _ hown.1 (Own.of hown.2))
    simp [execOp, resolve, invoke, builtin, ha.ev hx, ha.ev hy, S, hrun]
    rfl
theorem k_append_str_nil (c : Nat) {t u e bytes : Nat} {z : Value} {m : List UInt8} (hT : elemT P t e 1 bytes z) (hz : z = .int .u8 0) (hb1 : bytes = 1) (hu : P.underlying u = some .string) (hx : ev ρ x = some (.slice none 0 0)) (hy : ev ρ y = some (S m))
    (hsz : m.length ≤ 140737488355328) (hd : Nat.blt d n = true)
    (hK : ∀ s' v', Step K0 s s' → Own s' ⟨s.n + 1, c⟩ e 1 v' (Bs m) → KL P n Df ops Q rest ((d, v') :: ρ) s'.w) :
    KL P n Df ops Q (⟨some d, .call { callee := .builtin .append, args := [x, y].toArray, argTypes := [t, u].toArray }, ty, pos, aft, none⟩ :: rest) ρ s.w :=
  Go.Fw.k_append_str_nil c hT hz hb1 hu hx hy hsz hd (fun s' v' st ho => hK s' v' st (Own.of ho))
theorem k_bslice2 {t e w m : Nat} {z : Value} {ps : List (Nat × Operand)} {vs : List Value} {ds : List D} (hT : sliceT P t e w z) (hx : evp ρ 0 ps = some vs) (hr : RVs s vs ds) (hm : ds.length = m) (hw : ds.all (fun d => Nat.beq d.wd w) = true) (hs : Nat.ble (m * w) 16777216 = true) (hd : Nat.blt d n = true)
    (hK : ∀ s' v b, Step K0 s s' → s.n ≤ b → b < s'.n → Own s' ⟨b + 1, 0⟩ e w v ds → KL P n Df ops Q rest ((d, v) :: ρ) s'.w) :
    KL P n Df ops Q (⟨some d, .buildSlice t m ps.toArray, ty, pos, aft, none⟩ :: rest) ρ s.w :=
  Go.Fw.k_bslice2 hT hx hr hm hw hs hd (fun s' v b st h1 h2 ho => hK s' v b st h1 h2 (Own.of ho))
theorem k_cut_row0 {t e w m : Nat} {l : Lab} {v : Value} {k : IntKind} (hT : P.underlying t = some (.slice e)) (hs : sizeT P e w = true) (hx : ev ρ x = some v) (h : Row0 s l e w m v) (hz : ev ρ z = some (.int k 0)) (hd : Nat.blt d n = true)
    (hK : ∀ v', Own s l e w v' [] → KL P n Df ops Q rest ((d, v') :: ρ) s.w) : KL P n Df ops Q (⟨some d, .slice t x none (some z) none, ty, pos, aft, none⟩ :: rest) ρ s.w :=
  Go.Fw.k_cut_row0 hT hs hx h hz hd (fun v' ho => hK v' (Own.of ho))
theorem k_cut_tail {l : Lab} {e w i : Nat} {v : Value} {ds : List D} {lo : Operand} (hT : P.underlying tx = some (.slice e)) (hs : sizeT P e w = true) (hx : ev ρ x = some v) (h : Own s l e w v ds) (hlo : CutAt ρ 0 (some lo) i) (hi : i < ds.length) (hd : Nat.blt d n = true)
    (hK : ∀ v', Own s l e w v' (ds.drop i) → KL P n Df ops Q rest ((d, v') :: ρ) s.w) :
    KL P n Df ops Q (⟨some d, .slice tx x (some lo) none none, ty, pos, aft, none⟩ :: rest) ρ s.w := by
  obtain ⟨h0, hle, ⟨rfl, rfl⟩ | ⟨g, off0, cap', cur, rfl, hb, hle', hcm, hsz', hr⟩⟩ := h
  · simp at hi
  · refine k_cut_raw hT hs hx hlo (by exact rfl) (Nat.le_of_lt hi) hle' (by omega) hd (hK _ ⟨h0, hle, .inr ⟨g, off0 + i * w, cap' - i, cur, by rw [List.length_drop], hb, by rw [List.length_drop]; omega, by omega, ?_, ?_⟩⟩)
    · have : off0 + i * w + (cap' - i) * w = off0 + cap' * w := by rw [Nat.add_assoc, ← Nat.add_mul]; congr 2; omega
      omega
    · have e1 : (cur.drop (off0 + i * w)).take ((ds.drop i).length * w) = ((cur.drop off0).take (ds.length * w)).drop (i * w) := by
        rw [List.drop_take, List.drop_drop, List.length_drop, Nat.sub_mul]
      rw [e1]
      refine ⟨?_, fun j hj => ?_⟩
      · rw [List.length_drop, hr.1, List.length_drop, Nat.sub_mul]
      · rw [List.length_drop] at hj
        have := hr.2 (i + j) (by omega)
        rw [List.drop_drop, ← Nat.add_mul, List.getElem_drop]
        exact this
def Elt (w : Nat) (v : Value) (i : Nat) (q : Value) : Prop := ∃ g off len cap, v = .slice (some ⟨g, off, none⟩) len cap ∧ q = .pointer (some ⟨g, off + i * w, none⟩)
theorem jBe {l : Lab} {v : Value} {w : Nat} {ds : List D} {dd : D} {e e' : TypeId} {k : IntKind} {p : Int} (hT : P.underlying tx = some (.slice e)) (hs : sizeT P e w = true) (hx : ev ρ x = some v) (hy : ev ρ y = some (.int k p)) (h : Own s l e' w v ds)
    (h0 : 0 ≤ p) (hdd : ds[p.toNat]? = some dd) (hd : Nat.blt d n = true) (hK : ∀ q, At s l q dd → Elt w v p.toNat q → KL P n Df ops Q rest ((d, q) :: ρ) s.w) :
    KL P n Df ops Q (⟨some d, .indexAddr tx x y, ty, pos, aft, none⟩ :: rest) ρ s.w := by
  have hsl := h.sl
  obtain ⟨b, off, cap, e1, ha⟩ := hsl.at hdd
  have hlt : p.toNat < ds.length := (List.getElem?_eq_some_iff.1 hdd).1
  subst e1
  refine .val rfl rfl hd (v := .pointer (some ⟨b, off + p.toNat * w, none⟩)) (fun η hη => ?_) (hK _ ha ⟨b, off, _, _, rfl, rfl⟩)
  simp only [execOp, hη.ev hx, hη.ev hy, Sem.run_bind, Go.Fw.run_indexAt_slice hT hs h0 (show p < (ds.length : Int) by omega)]
  rfl
theorem cut_set {α : Type} (cur ys : List α) (o k w m : Nat) (hy : ys.length = w) (h1 : k + w ≤ m) (h2 : o + m ≤ cur.length) : ((cur.take (o + k) ++ ys ++ cur.drop (o + k + ys.length)).drop o).take m = ((cur.drop o).take m).take k ++ ys ++ ((cur.drop o).take m).drop (k + w) := by
  rw [List.append_assoc, List.drop_append_of_le_length (by simp; omega), ← List.append_assoc, List.drop_take, Nat.add_sub_cancel_left, List.take_take, Nat.min_eq_left (by omega), List.take_append, List.take_of_length_le (by simp; omega), List.drop_take, List.drop_drop]
  congr 1
  simp only [List.length_append, List.length_take, List.length_drop]
  rw [hy]
  congr 2
  · omega
  · omega
theorem jBn {l : Lab} {e w i : Nat} {v q u : Value} {ds : List D} {dd : D} (hT : sizeT P tx w = true) (hx : ev ρ x = some q) (hy : ev ρ y = some u) (h : Own s l e w v ds) (he : Elt w v i q) (hi : i < ds.length) (hu : R s u dd) (hw : dd.wd = w)
    (hK : ∀ s', Step (KC l.o l.c) s s' → Own s' l e w v (ds.set i dd) → KL P n Df ops Q rest ρ s'.w) :
    KL P n Df ops Q (⟨none, .store tx x y, ty, pos, aft, none⟩ :: rest) ρ s.w := by
  obtain ⟨g, off, len, cap, hv, rfl⟩ := he
  have hrc := hu.rc
  have hul : u.cells.toList.length = w := by rw [hrc.len, hw]
  obtain ⟨h0, hle, ⟨rfl, rfl⟩ | ⟨g', off', cap', cur, hv', hb, hlc, hcm, hsz, hr⟩⟩ := h
  · simp at hi
  subst hv
  injection hv' with e1 e2 e3
  injection e1 with e1
  injection e1 with e1 e4
  subst e1 e2 e3 e4
  have hwi : i * w + w ≤ ds.length * w := by
    calc i * w + w = (i + 1) * w := by rw [Nat.add_mul, Nat.one_mul]
      _ ≤ ds.length * w := Nat.mul_le_mul_right _ hi
  have hcw : ds.length * w ≤ cap * w := Nat.mul_le_mul_right _ hlc
  have hst := run_storeCells_cells (P := P) g (off + i * w) u.cells.toList 0 s.w (fun j hj => by
    rw [Nat.add_zero, hb.cell, List.getElem?_eq_getElem (by omega)]; rfl) (fun j hj => by simp [World.frozen?, hb.heap]) (fun u hu => hrc.one_cells u hu)
  simp only [Nat.add_zero] at hst
  have hset := heap_setCells g u.cells.toList (off + i * w) s.w cur e (0, 0) hb.heap (by omega)
  obtain ⟨r1, r2, r3, r4⟩ := setCells_rest g u.cells.toList (off + i * w) s.w
  have st : Step (KC l.o l.c) s (s.re (s.w.setCells g (off + i * w) u.cells.toList)) := by
    refine ⟨r1, r2, r3, Nat.le_of_eq r4.symm, fun b' hb' hk => ⟨heap_setCells_ne g b' ?_ u.cells.toList _ s.w, rfl⟩, fun c hc => h0 hc.1.symm⟩
    rintro rfl
    exact hk (by rw [hb.lab]; exact ⟨rfl, rfl⟩)
  have hl2 : (ds.set i dd).length = ds.length := List.length_set
  refine .eff rfl rfl (fun η ha => ?_) (hK _ st ⟨h0, Nat.le_trans hle (Nat.add_le_add_right st.size 1), .inr ⟨g, off, cap, _, by rw [hl2], ⟨hset, hb.lab⟩, by rw [hl2]; exact hlc, hcm, ?_, ?_⟩⟩)
  · have hsz' : u.cells.size = w := by simpa using hul
    simp [execOp, ha.ev hx, ha.ev hy, Instr.storeAt, Instr.sureAddr, storeVar, Go.Fw.run_sizeOf hT, hsz', hst]
    rfl
  · simp only [List.length_append, List.length_take, List.length_drop]; omega
  · rw [hl2, cut_set cur _ off (i * w) w (ds.length * w) hul hwi (by omega)]
    exact (hr.set hi hrc hul).up st
theorem k_makeI2 {t e w bytes : Nat} {z : Value} {dz : D} {k k' : IntKind} {p : Int} (hT : elemT P t e w bytes z) (hx : ev ρ x = some (.int k p)) (hy : ev ρ y = some (.int k' p)) (h0 : 0 ≤ p) (hz : RC s z.cells.toList dz) (hw : dz.wd = w)
    (hb : bytes * p ≤ 281474976710656) (hc : p ≤ 9223372036854775807) (hd : Nat.blt d n = true)
    (hK : ∀ s' v b, Step K0 s s' → s.n ≤ b → b < s'.n → Own s' ⟨b + 1, 0⟩ e w v (List.replicate p.toNat dz) → KL P n Df ops Q rest ((d, v) :: ρ) s'.w) :
    KL P n Df ops Q (⟨some d, .makeSlice t x y, ty, pos, aft, none⟩ :: rest) ρ s.w :=
  Go.Fw.k_makeI2 hT hx hy h0 hz hw hb hc hd (fun s' v b st h1 h2 ho => hK s' v b st h1 h2 (Own.of ho))
end
end Go.FwT
