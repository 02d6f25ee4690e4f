import Derived.Test.YtepifllifhikiaaDoorFwItoa
set_option linter.unusedSimpArgs false
set_option linter.unusedVariables false
namespace Go.Fw
/-! rows of numbers, of texts, at a block's end -/
abbrev cB (x : UInt8) : Value := .int .u8 (x.toNat : Int)
abbrev cU (x : UInt32) : Value := .int .u32 (x.toNat : Int)
abbrev cW (x : UInt64) : Value := .int .u64 (x.toNat : Int)
theorem ones.arrF {α : Type} {f : α → Value} {pre : List Value} (xs : List α) (hf : ∀ x, (f x).oneCell' = true) (h : pre.all Value.oneCell' = true) : (pre ++ xs.map f).all Value.oneCell' = true := by
  rw [List.all_append, h, Bool.true_and]
  induction xs with
  | nil => rfl
  | cons x xs ih => rw [List.map_cons, List.all_cons, ih, hf]; rfl
section
variable {P : Program} {n : Nat} {Df : Md} {ops : Array Oper} {Q : Post} {rest : List Oper} {ρ : Env} {s : St} {w0 : World}
variable {d : Nat} {ty : TypeId} {pos : String} {aft : Array Edge} {x y z : Operand} {tx tyy : TypeId} {α : Type}
theorem k_ixarr {t e q m b : Nat} {k : IntKind} {p : Int} {xs : List α} {zz : α} (hT : arrT P t e q 1) (hx : ev ρ x = some (.pointer (some ⟨b, m, none⟩))) (hy : ev ρ y = some (.int k p)) (hl : xs.length = q) (hg : geti xs p = some zz) (hd : Nat.blt d n = true)
    (hK : KL P n Df ops Q rest ((d, .pointer (some ⟨b, m + p.toNat, none⟩)) :: ρ) w0) : KL P n Df ops Q (⟨some d, .indexAddr t x y, ty, pos, aft, none⟩ :: rest) ρ w0 := by
  obtain ⟨h0, h1, h2⟩ := geti_out hg
  refine k_ixaddr_arr hT hx hy h0 (by omega) hd ?_
  rw [Nat.mul_one]; exact hK
theorem k_load_el {b m : Nat} {p : Int} {zz : α} (f : α → Value) {pre : List Value} {xs : List α} {l : Lab} {T : TypeId} (hT : oneT P tx = true) (hx : ev ρ x = some (.pointer (some ⟨b, m + p.toNat, none⟩))) (hb : Blk s b l (pre ++ xs.map f) T) (hm : pre.length = m) (hg : geti xs p = some zz) (hd : Nat.blt d n = true)
    (hK : KL P n Df ops Q rest ((d, f zz) :: ρ) s.w) : KL P n Df ops Q (⟨some d, .load tx x, ty, pos, aft, none⟩ :: rest) ρ s.w := by
  obtain ⟨h0, h1, h2⟩ := geti_out hg
  refine k_load_blk hT hx hb ?_ hd hK
  rw [List.getElem?_append_right (by omega), List.getElem?_map, hm, show m + p.toNat - m = p.toNat by omega, h2]
  rfl
theorem k_store_el {b m : Nat} {p : Int} {zz v : α} (f : α → Value) (hf : ∀ x, (f x).oneCell' = true) {pre : List Value} {xs : List α} {l : Lab} {T : TypeId} (hT : sizeT P tx 1 = true) (hx : ev ρ x = some (.pointer (some ⟨b, m + p.toNat, none⟩))) (hy : ev ρ y = some (f v)) (hb : Blk s b l (pre ++ xs.map f) T) (hl0 : l.o ≠ 0) (hm : pre.length = m) (hg : geti xs p = some zz)
    (hK : ∀ s', Step (KC l.o l.c) s s' → Blk s' b l (pre ++ (xs.set p.toNat v).map f) T → KL P n Df ops Q rest ρ s'.w) :
    KL P n Df ops Q (⟨none, .store tx x y, ty, pos, aft, none⟩ :: rest) ρ s.w := by
  obtain ⟨h0, h1, h2⟩ := geti_out hg
  have hlen : (pre ++ xs.map f).length = m + xs.length := by rw [List.length_append, List.length_map, hm]
  have e : (pre ++ xs.map f).take (m + p.toNat) ++ [f v] ++ (pre ++ xs.map f).drop (m + p.toNat + 1) = pre ++ (xs.set p.toNat v).map f := by
    generalize p.toNat = j at h2
    subst hm
    have hj : j < xs.length := (List.getElem?_eq_some_iff.1 h2).1
    rw [List.take_append, List.drop_append, List.take_of_length_le (by omega), List.drop_eq_nil_of_le (by omega), List.nil_append]
    rw [List.set_eq_take_append_cons_drop, if_pos hj]
    simp [List.map_take, List.map_drop, Nat.add_assoc]
  have hble : Nat.ble (m + p.toNat + 1) (pre ++ xs.map f).length = true := by simp only [Nat.ble_eq, hlen]; omega
  refine k_store_c (cs' := pre ++ (xs.set p.toNat v).map f) hT hx hy hb hl0 (CellsOf.lit (vs := [f v]) ?_ ?_) rfl hble e hK
  · exact cells1 (hf v)
  · simp [hf]
/-- A cut of a whole row. -/
theorem k_cut_row {t e q b : Nat} {g : α → D} (f : α → Value) (hfg : ∀ x, g x = .val (f x)) (hf : ∀ x, (f x).oneCell' = true) {xs : List α} {l : Lab} {T : TypeId} {lo hi : Option Operand} {i j : Nat} (hT : arrT P t e q 1) (hx : ev ρ x = some (.pointer (some ⟨b, 0, none⟩))) (hb : Blk s b l ([] ++ xs.map f) T) (hl : xs.length = q)
    (hlo : CutAt ρ 0 lo i) (hhi : CutAt ρ q hi j) (hij : i ≤ j) (hj : j ≤ q) (hd : Nat.blt d n = true)
    (hK : ∀ v, SL s l v 1 (((xs.drop i).take (j - i)).map g) → KL P n Df ops Q rest ((d, v) :: ρ) s.w) :
    KL P n Df ops Q (⟨some d, .slice t x lo hi none, ty, pos, aft, none⟩ :: rest) ρ s.w := by
  refine k_cut_arr hT hx hb (by simpa using hl) (ones.arrF xs hf rfl) hlo hhi hij hj hd (fun v hv => hK v ?_)
  have e : (([] ++ xs.map f).drop i |>.take (j - i)).map D.val = ((xs.drop i).take (j - i)).map g := by
    rw [List.nil_append, ← List.map_drop, ← List.map_take, List.map_map]
    refine List.map_congr_left fun x _ => (hfg x).symm
  rw [← e]; exact hv
/-- An element of a row that is a value. -/
theorem k_index_row {t e q : Nat} {k : IntKind} {p : Int} {zz : α} (f : α → Value) {xs : List α} (hT : arrT P t e q 1) (hO : oneT P e = true) (hx : ev ρ x = some (.agg ([] ++ xs.map f).toArray)) (hy : ev ρ y = some (.int k p)) (hl : xs.length = q) (hg : geti xs p = some zz) (hd : Nat.blt d n = true)
    (hK : KL P n Df ops Q rest ((d, f zz) :: ρ) w0) : KL P n Df ops Q (⟨some d, .index t x y, ty, pos, aft, none⟩ :: rest) ρ w0 := by
  obtain ⟨h0, h1, h2⟩ := geti_out hg
  exact k_index_arr hT hO hx hy h0 (by omega) (by rw [List.nil_append, List.getElem?_map, h2]; rfl) hd hK
end
end Go.Fw
