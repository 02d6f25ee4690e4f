import Derived.Test.YtepifllifhikiaaDoorFwArr
import Derived.Test.YtepifllifhikiaaDoorFwIns
import Derived.Test.YtepifllifhikiaaDoorIns12
import Derived.Lib.AppendIntMem
import Derived.Test.YtepifllifhikiaaDoorShelf
set_option linter.unusedSimpArgs false
set_option linter.unusedVariables false
namespace Go.Proofs
open Go.Fw
theorem compare_w {s : St} {a0 a1 : List UInt8} : Calls Tryd.prog 46 #[S a0, S a1] s.w (Ret s K0 (fun _ v => v = .int .i64 (Lib.compareBytes a0 a1))) := by
  refine (Tryd.strings_Compare ⟨a0.toArray⟩ ⟨a1.toArray⟩ s.w).mono ?_
  rintro e w' ⟨rfl, rfl⟩
  exact ⟨s, _, rfl, rfl, Step.refl s, by simp⟩
def Tab0 (s : St) : Prop := Tb Tryd.prog s "internal/strconv.uint64pow10" .u64 Lib.pow10Tab
theorem Tab0.up2 {K : Lab → Prop} {s s' : St} (h : Tab0 s) (st : Step K s s') : Tab0 s' := Tb.up2 h st
theorem itoa_w {s : St} {a0 : Int} (ht : Tab0 s) (h : -9223372036854775808 ≤ a0 ∧ a0 ≤ 9223372036854775807) : Calls Tryd.prog 37 #[.int .i64 a0] s.w (Ret s K0 (fun _ v => v = S (itoaF a0))) := by
  refine (Tryd.strconv_Itoa a0 h.1 h.2 s.w (Tb.is ht)).mono ?_
  rintro e w' ⟨rfl, k, os, rfl⟩
  exact Ret.below (Lib.below_grow _ _ (Nat.le_refl _) k os) (fun _ _ _ => by rw [itoaF_eq h.1 h.2])
theorem repeat_w {s : St} {a0 : List UInt8} {a1 : Int} (h : 0 ≤ a1 ∧ a1 ≤ 1000000 ∧ a0.length ≤ 1000000) : Calls Tryd.prog 38 #[S a0, .int .i64 a1] s.w (Ret s K0 (fun _ v => v = S (Lib.repeatL a0 a1.toNat))) := by
  obtain ⟨c, rfl⟩ : ∃ c : Nat, a1 = c := ⟨a1.toNat, by omega⟩
  have hm : (⟨a0.toArray⟩ : ByteArray).size * c ≤ 1000000 * 1000000 := Nat.mul_le_mul (by show a0.toArray.size ≤ _; simp; omega) (by omega)
  refine (Tryd.strings_Repeat ⟨a0.toArray⟩ c s.w (by omega) (by omega)).mono ?_
  rintro e w' ⟨rfl, hb⟩
  exact Ret.below hb (fun _ _ _ => by simp)

def insl {α : Type} (l : List α) (i : Int) (x : α) : Option (List α) := if 0 ≤ i ∧ i ≤ l.length ∧ l.length ≤ 1000000 then some (l.take i.toNat ++ x :: l.drop i.toNat) else none
def dell {α : Type} (l : List α) (i j : Int) : Option (List α) := if 0 ≤ i ∧ i < l.length ∧ j = i + 1 ∧ l.length ≤ 1000000 then some (l.take i.toNat ++ l.drop (i.toNat + 1)) else none
theorem insert_i {α : Type} {f : α → D} {s : St} {l lv : Lab} {v vv : Value} {i : Int} {ds r : List α} {x : α} (h : Own s l 67 2 v (ds.map f)) (hv : Own s lv 67 2 vv ([x].map f)) (hl : lv.o ≠ l.o) (hr : insl ds i x = some r) :
    Calls Tryd.prog 30 #[v, .int .i64 i, vv] s.w (Ret s (KC l.o l.c) (fun s1 u => Own s1 l 67 2 u (r.map f))) := by
  unfold insl at hr
  split at hr
  · rename_i c
    cases hr
    obtain ⟨k, rfl⟩ : ∃ k : Nat, i = k := ⟨i.toNat, by omega⟩
    have := insert_w (k := k) h hv hl (by rw [List.length_map]; omega) (by rw [List.length_map]; exact c.2.2)
    simpa [List.map_take, List.map_drop] using this
  · cases hr
theorem delete_i {α : Type} {f : α → D} {s : St} {l : Lab} {v : Value} {i j : Int} {ds r : List α} (h : Own s l 67 2 v (ds.map f)) (hr : dell ds i j = some r) :
    Calls Tryd.prog 40 #[v, .int .i64 i, .int .i64 j] s.w (Ret s (KC l.o l.c) (fun s1 u => Own s1 l 67 2 u (r.map f))) := by
  unfold dell at hr
  split at hr
  · rename_i c
    cases hr
    obtain ⟨k, rfl⟩ : ∃ k : Nat, i = k := ⟨i.toNat, by omega⟩
    obtain rfl : j = ((k + 1 : Nat) : Int) := by omega
    have := delete_w (k := k) h (by rw [List.length_map]; omega) (by rw [List.length_map]; exact c.2.2.2)
    simpa [List.map_take, List.map_drop] using this
  · cases hr

end Go.Proofs
