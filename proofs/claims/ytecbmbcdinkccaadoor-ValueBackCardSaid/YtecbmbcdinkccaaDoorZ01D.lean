import Derived.Test.YtecbmbcdinkccaaDoorFwTabFwVW
import Derived.Shelf.Strings.SlTrimAscii
import Derived.Test.YtecbmbcdinkccaaDoorShelf
set_option linter.unusedSimpArgs false
set_option linter.unusedVariables false
namespace Go.Proofs
open Go.Fw
def Tab0 (s : St) : Prop := Ev s 3 -- strconv.ErrSyntax
theorem Tab0.up2 {K : Lab → Prop} {s s' : St} (h : Tab0 s) (st : Step K s s') : Tab0 s' := Ev.up2 h st
def Tab1 (s : St) : Prop := Ev s 4 -- strconv.ErrRange
theorem Tab1.up2 {K : Lab → Prop} {s s' : St} (h : Tab1 s) (st : Step K s s') : Tab1 s' := Ev.up2 h st
def Tab2 (s : St) : Prop := Tb Tryd.prog s "internal/strconv.uint64pow10" .u64 Lib.pow10Tab
theorem Tab2.up2 {K : Lab → Prop} {s s' : St} (h : Tab2 s) (st : Step K s s') : Tab2 s' := Tb.up2 h st
theorem itoa_w {s : St} {a0 : Int} (ht : Tab2 s) (h : -9223372036854775808 ≤ a0 ∧ a0 ≤ 9223372036854775807) : Calls Tryd.prog 33 #[.int .i64 a0] s.w (Ret s K0 (fun _ v => v = S (itoaF a0))) := by
  refine (Tryd.strconv_Itoa a0 h.1 h.2 s.w (Tb.is ht)).mono ?_
  rintro e w' ⟨rfl, k, os, rfl⟩
  exact Ret.below (Lib.below_grow _ _ (Nat.le_refl _) k os) (fun _ _ _ => by rw [itoaF_eq h.1 h.2])
theorem formatInt_w {s : St} {a0 : Int} (ht : Tab2 s) (h : -9223372036854775808 ≤ a0 ∧ a0 ≤ 9223372036854775807) : Calls Tryd.prog 40 #[.int .i64 a0, .int .i64 10] s.w (Ret s K0 (fun _ v => v = S (itoaF a0))) := by
  refine (Tryd.strconv_FormatInt_10 a0 h.1 h.2 s.w (Tb.is ht)).mono ?_
  rintro e w' ⟨rfl, k, os, rfl⟩
  exact Ret.below (Lib.below_grow _ _ (Nat.le_refl _) k os) (fun _ _ _ => by rw [itoaF_eq h.1 h.2])
theorem small_w {s : St} {a0 : Int} (h : 0 ≤ a0 ∧ a0 < 100) : Calls Tryd.prog 65 #[.int .i64 a0] s.w (Ret s K0 (fun _ v => v = S (decF 30 a0.toNat))) := by
  obtain ⟨c, rfl⟩ : ∃ c : Nat, a0 = c := ⟨a0.toNat, by omega⟩
  refine (Tryd.internal_strconv_small c (by omega) s.w).mono ?_
  rintro e w' ⟨rfl, rfl⟩
  exact ⟨s, _, rfl, rfl, Step.refl s, by rw [Int.toNat_natCast, decF_eq 30 c (Nat.lt_trans (show c < 100 by omega) (by decide)) (by decide)]⟩
theorem numDigits_w {s : St} {a0 : UInt64} (ht : Tab2 s) (h : 1 ≤ a0.toNat) : Calls Tryd.prog 66 #[.int .u64 (a0.toNat : Int)] s.w (Ret s K0 (fun _ v => v = .int .i64 ((decF 30 a0.toNat).length : Int))) := by
  refine (Tryd.internal_strconv_numDigits a0.toNat h a0.toNat_lt s.w (Tb.is ht)).mono ?_
  rintro e w' ⟨rfl, rfl⟩
  exact ⟨s, _, rfl, rfl, Step.refl s, by rw [decF_eq 30 _ (Nat.lt_trans a0.toNat_lt (by decide)) (by decide), Lib.decDigits_eq]; simp⟩
theorem fmt10_w {s : St} {l : Lab} {b q : Nat} {xs : List UInt8} {T : TypeId} {j : Nat} {a1 : UInt64} (hb : Blk s b l ([] ++ xs.map cB) T) (hl0 : l.o ≠ 0) (hnd : j ≤ xs.length) (hlen : (decF 30 a1.toNat).length = j ∧ j < 1000) :
    Calls Tryd.prog 67 #[.slice (some ⟨b, 0, none⟩) j q, .int .u64 (a1.toNat : Int)] s.w (Ret s (KC l.o l.c) (fun s1 v => v = .tuple #[] ∧ Blk s1 b l ([] ++ (decF 30 a1.toNat ++ xs.drop j).map cB) T)) := by
  have hz : (xs.take j).toArray.size = j := by simp; omega
  have hH : Go.Sort.Holds (fun (b : UInt8) => Value.int .u8 (b.toNat : Int)) s.w b 0 (xs.take j).toArray := fun i hi => by
    rw [hz] at hi
    refine ⟨?_, ?_⟩
    · have := hb.cell (0 + i)
      rw [this, Nat.zero_add, List.nil_append, List.getElem?_map, List.getElem?_eq_getElem (by omega), getElem!_pos _ i (by rw [hz]; exact hi)]
      simp
    · exact hb.frozen (0 + i) (by simp; omega)
  have hu : a1.toNat < 10 ^ (xs.take j).toArray.size := by
    rw [hz, ← hlen.1]
    exact decF_lt 30 a1.toNat (Nat.lt_trans a1.toNat_lt (by decide)) (by decide)
  have := Tryd.internal_strconv_formatBase10 b 0 q a1.toNat (xs.take j).toArray s.w hH hu a1.toNat_lt (by rw [hz]; omega)
  rw [hz] at this
  refine this.mono ?_
  rintro e w' ⟨rfl, h⟩
  exact fmt10_ret hb hl0 hnd a1.toNat_lt hlen.1 h
theorem cutPrefix_w {s : St} {a0 a1 : List UInt8} : Calls Tryd.prog 37 #[S a0, S a1] s.w (Ret s K0 (fun _ v => v = .tuple #[S (Lib.trimPrefix a0 a1), .bool (Lib.hasPrefix a0 a1)])) := by
  refine (Tryd.strings_CutPrefix ⟨a0.toArray⟩ ⟨a1.toArray⟩ s.w).mono ?_
  rintro e w' ⟨rfl, rfl⟩
  exact ⟨s, _, rfl, rfl, Step.refl s, by simp⟩
theorem trimLeft_w {s : St} {a0 a1 : List UInt8} (h : a1.all (fun b => decide (b.toNat < 128)) = true ∧ a1.length ≤ 1000000) : Calls Tryd.prog 38 #[S a0, S a1] s.w (Ret s K0 (fun _ v => v = S (Lib.trimLeftS a0 a1))) := by
  refine (Any.strings_TrimLeft_laid Tryd.strTrimLeft (by kernel_rfl) ⟨a0.toArray⟩ ⟨a1.toArray⟩ s.w (by show a1.toArray.size < _; simp; omega) (ascii_of_all (by simpa using h.1))).mono ?_
  rintro e w' ⟨rfl, hb⟩
  exact Ret.below hb (fun _ _ _ => by simp)
theorem containsAny_w {s : St} {a0 a1 : List UInt8} (h : a0.all (fun b => decide (b.toNat < 128)) = true ∧ a1.all (fun b => decide (b.toNat < 128)) = true ∧ a0.length ≤ 1000000 ∧ a1.length ≤ 1000000) : Calls Tryd.prog 42 #[S a0, S a1] s.w (Ret s K0 (fun _ v => v = .bool (Lib.containsAny a0 a1))) := by
  refine (Tryd.strings_ContainsAny_laid ⟨a0.toArray⟩ ⟨a1.toArray⟩ s.w (by show a0.toArray.size < _; simp; omega) (by show a1.toArray.size < _; simp; omega) (fun j b hj => ?_) (fun j b hj => ?_)).mono ?_
  · have := List.all_eq_true.1 h.1 b (List.mem_of_getElem? (by simpa using hj)); simpa using this
  · have := List.all_eq_true.1 h.2.1 b (List.mem_of_getElem? (by simpa using hj)); simpa using this
  rintro e w' ⟨rfl, hb⟩
  exact Ret.below hb (fun _ _ _ => by simp)
theorem index_w {s : St} {a0 a1 : List UInt8} (h : a1.length = 1) : Calls Tryd.prog 46 #[S a0, S a1] s.w (Ret s K0 (fun _ v => v = .int .i64 (Lib.indexByte a0 (a1.headD 0)))) := by
  obtain ⟨c, rfl⟩ : ∃ c, a1 = [c] := by match a1, h with | [c], _ => exact ⟨c, rfl⟩
  refine (Tryd.strings_Index_one ⟨a0.toArray⟩ c s.w).mono ?_
  rintro e w' ⟨rfl, rfl⟩
  exact ⟨s, _, rfl, rfl, Step.refl s, by simp⟩
def atoiR (a0 : List UInt8) : Int × Bool := match Lib.atoiAll a0 with
  | .ok v => (v, false)
  | .range => (Lib.atoiSat a0, true)
  | _ => (0, true)
theorem atoi_w {s : St} {a0 : List UInt8} (t1 : Tab0 s) (t2 : Tab1 s) (h : a0.length ≤ 1000000) : Calls Tryd.prog 32 #[S a0] s.w (Ret s K0 (fun _ v => ∃ ev, v = .tuple #[.int .i64 (atoiR a0).1, ev] ∧ ErrR ev (atoiR a0).2)) := by
  have hz : (⟨a0.toArray⟩ : ByteArray).size ≤ 1000000 := by show a0.toArray.size ≤ _; simpa using h
  obtain ⟨_, _, ev1, h1, h2⟩ := t1
  obtain ⟨_, _, ev2, h3, h4⟩ := t2
  cases hr : Lib.atoiAll a0
  · rename_i v
    refine (Tryd.strconv_Atoi_ok ⟨a0.toArray⟩ (by omega) v hr s.w).mono ?_
    rintro e w' ⟨rfl, hw⟩
    have hb : Go.RowKit.Below s.w.heap.size s.w w' := by
      rcases hw with rfl | ⟨t, rfl⟩
      · exact Go.RowKit.Below.refl _ _
      · exact Lib.bytesWorld_below _ _ _
    have hR : atoiR a0 = (v, false) := by simp [atoiR, hr]
    exact Ret.below hb (fun _ _ _ => ⟨.nilIface, by rw [hR], by rw [hR]; exact ErrR.nil⟩)
  · refine (Any.strconv_Atoi_syntax Tryd.laysC172 ⟨a0.toArray⟩ (by omega) hr ev1 s.w h1 h2).mono ?_
    rintro e w' ⟨N, rfl, _, _, hb⟩
    have hR : atoiR a0 = (0, true) := by simp [atoiR, hr]
    exact Ret.below hb (fun _ _ _ => ⟨_, by rw [hR], by rw [hR]; exact ErrR.mk _ _⟩)
  · refine (Tryd.strconv_Atoi_range ⟨a0.toArray⟩ (by omega) hr ev2 s.w h3 h4).mono ?_
    rintro e w' ⟨N, rfl, _, _, hb⟩
    have hR : atoiR a0 = (Lib.atoiSat a0, true) := by simp [atoiR, hr]
    exact Ret.below hb (fun _ _ _ => ⟨_, by rw [hR], by rw [hR]; exact ErrR.mk _ _⟩)
def parseIntR (a0 : List UInt8) : Int × Bool := match Lib.parseIntB 64 a0 with
  | .ok v => (v, false)
  | .range => (Lib.intSat 64 a0, true)
  | _ => (0, true)
theorem parseInt_w {s : St} {a0 : List UInt8} (t1 : Tab0 s) (t2 : Tab1 s) (h : a0.length ≤ 1000000) : Calls Tryd.prog 39 #[S a0, .int .i64 10, .int .i64 64] s.w (Ret s K0 (fun _ v => ∃ ev, v = .tuple #[.int .i64 (parseIntR a0).1, ev] ∧ ErrR ev (parseIntR a0).2)) := by
  have hz : (⟨a0.toArray⟩ : ByteArray).size ≤ 1000000 := by show a0.toArray.size ≤ _; simpa using h
  obtain ⟨_, _, ev1, h1, h2⟩ := t1
  obtain ⟨_, _, ev2, h3, h4⟩ := t2
  cases hr : Lib.parseIntB 64 a0
  · rename_i v
    refine (Tryd.strconv_ParseInt_10_at64_ok ⟨a0.toArray⟩ (by omega) v hr s.w).mono ?_
    rintro e w' ⟨rfl, hw⟩
    have hb : Go.RowKit.Below s.w.heap.size s.w w' := by
      rcases hw with rfl | ⟨t, rfl⟩
      · exact Go.RowKit.Below.refl _ _
      · exact Lib.bytesWorld_below _ _ _
    have hR : parseIntR a0 = (v, false) := by simp [parseIntR, hr]
    exact Ret.below hb (fun _ _ _ => ⟨.nilIface, by rw [hR], by rw [hR]; exact ErrR.nil⟩)
  · refine (Any.strconv_ParseInt_10_at64_syntax Tryd.laysC174 ⟨a0.toArray⟩ (by omega) hr ev1 s.w h1 h2).mono ?_
    rintro e w' ⟨N, rfl, _, _, hb⟩
    have hR : parseIntR a0 = (0, true) := by simp [parseIntR, hr]
    exact Ret.below hb (fun _ _ _ => ⟨_, by rw [hR], by rw [hR]; exact ErrR.mk _ _⟩)
  · refine (Tryd.strconv_ParseInt_10_at64_range ⟨a0.toArray⟩ (by omega) hr ev2 s.w h3 h4).mono ?_
    rintro e w' ⟨N, rfl, _, _, hb⟩
    have hR : parseIntR a0 = (Lib.intSat 64 a0, true) := by simp [parseIntR, hr]
    exact Ret.below hb (fun _ _ _ => ⟨_, by rw [hR], by rw [hR]; exact ErrR.mk _ _⟩)

end Go.Proofs
