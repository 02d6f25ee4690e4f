import Derived.Test.YtdofbkomeadjgaaGreatDoorFwArrTFwTail

import Derived.Shelf.Strconv.ToError
import Derived.Lib.ParseIntBCases
import Derived.Test.YtdofbkomeadjgaaGreatDoorShelf
set_option linter.unusedSimpArgs false
set_option linter.unusedVariables false
namespace Go.Proofs
open Go.Fw
def Tab0 (s : St) : Prop := Ev s 1 -- strconv.ErrSyntax
theorem Tab0.up2 {K : Lab → Prop} {s s' : St} (h : Tab0 s) (st : Step K s s') : Tab0 s' := Ev.up2 h st
def Tab1 (s : St) : Prop := Ev s 2 -- strconv.ErrRange
theorem Tab1.up2 {K : Lab → Prop} {s s' : St} (h : Tab1 s) (st : Step K s s') : Tab1 s' := Ev.up2 h st
theorem small_w {s : St} {a0 : Int} (h : 0 ≤ a0 ∧ a0 < 100) : Calls Tryz.prog 61 #[.int .i64 a0] s.w (Ret s K0 (fun _ v => v = S (decF 30 a0.toNat))) := by
  obtain ⟨c, rfl⟩ : ∃ c : Nat, a0 = c := ⟨a0.toNat, by omega⟩
  refine (Tryz.internal_strconv_small c (by omega) s.w).mono ?_
  rintro e w' ⟨rfl, rfl⟩
  exact ⟨s, _, rfl, rfl, Step.refl s, by rw [Int.toNat_natCast, decF_eq 30 c (Nat.lt_trans (show c < 100 by omega) (by decide)) (by decide)]⟩
def Tab2 (s : St) : Prop := Tb Tryz.prog s "internal/strconv.uint64pow10" .u64 Lib.pow10Tab
theorem Tab2.up2 {K : Lab → Prop} {s s' : St} (h : Tab2 s) (st : Step K s s') : Tab2 s' := Tb.up2 h st
theorem numDigits_w {s : St} {a0 : UInt64} (ht : Tab2 s) (h : 1 ≤ a0.toNat) : Calls Tryz.prog 62 #[.int .u64 (a0.toNat : Int)] s.w (Ret s K0 (fun _ v => v = .int .i64 ((decF 30 a0.toNat).length : Int))) := by
  refine (Tryz.internal_strconv_numDigits a0.toNat h a0.toNat_lt s.w (Tb.is ht)).mono ?_
  rintro e w' ⟨rfl, rfl⟩
  exact ⟨s, _, rfl, rfl, Step.refl s, by rw [decF_eq 30 _ (Nat.lt_trans a0.toNat_lt (by decide)) (by decide), Lib.decDigits_eq]; simp⟩
theorem fmt10_w {s : St} {l : Lab} {b q : Nat} {xs : List UInt8} {T : TypeId} {j : Nat} {a1 : UInt64} (hb : Blk s b l ([] ++ xs.map cB) T) (hl0 : l.o ≠ 0) (hnd : j ≤ xs.length) (hlen : (decF 30 a1.toNat).length = j ∧ j < 1000) :
    Calls Tryz.prog 63 #[.slice (some ⟨b, 0, none⟩) j q, .int .u64 (a1.toNat : Int)] s.w (Ret s (KC l.o l.c) (fun s1 v => v = .tuple #[] ∧ Blk s1 b l ([] ++ (decF 30 a1.toNat ++ xs.drop j).map cB) T)) := by
  have hz : (xs.take j).toArray.size = j := by simp; omega
  have hH : Go.Sort.Holds (fun (b : UInt8) => Value.int .u8 (b.toNat : Int)) s.w b 0 (xs.take j).toArray := fun i hi => by
    rw [hz] at hi
    refine ⟨?_, ?_⟩
    · have := hb.cell (0 + i)
      rw [this, Nat.zero_add, List.nil_append, List.getElem?_map, List.getElem?_eq_getElem (by omega), getElem!_pos _ i (by rw [hz]; exact hi)]
      simp
    · exact hb.frozen (0 + i) (by simp; omega)
  have hu : a1.toNat < 10 ^ (xs.take j).toArray.size := by
    rw [hz, ← hlen.1]
    exact decF_lt 30 a1.toNat (Nat.lt_trans a1.toNat_lt (by decide)) (by decide)
  have := Tryz.internal_strconv_formatBase10 b 0 q a1.toNat (xs.take j).toArray s.w hH hu a1.toNat_lt (by rw [hz]; omega)
  rw [hz] at this
  refine this.mono ?_
  rintro e w' ⟨rfl, h⟩
  exact fmt10_ret hb hl0 hnd a1.toNat_lt hlen.1 h
theorem containsAny_w {s : St} {a0 a1 : List UInt8} (h : a0.all (fun b => decide (b.toNat < 128)) = true ∧ a1.all (fun b => decide (b.toNat < 128)) = true ∧ a0.length ≤ 1000000 ∧ a1.length ≤ 1000000) : Calls Tryz.prog 89 #[S a0, S a1] s.w (Ret s K0 (fun _ v => v = .bool (Lib.containsAny a0 a1))) := by
  refine (Tryz.strings_ContainsAny_laid ⟨a0.toArray⟩ ⟨a1.toArray⟩ s.w (by show a0.toArray.size < _; simp; omega) (by show a1.toArray.size < _; simp; omega) (fun j b hj => ?_) (fun j b hj => ?_)).mono ?_
  · have := List.all_eq_true.1 h.1 b (List.mem_of_getElem? (by simpa using hj)); simpa using this
  · have := List.all_eq_true.1 h.2.1 b (List.mem_of_getElem? (by simpa using hj)); simpa using this
  rintro e w' ⟨rfl, hb⟩
  exact Ret.below hb (fun _ _ _ => by simp)
theorem indexByte_w {s : St} {a0 : List UInt8} {a1 : UInt8} : Calls Tryz.prog 27 #[S a0, .int .u8 (a1.toNat : Int)] s.w (Ret s K0 (fun _ v => v = .int .i64 (Lib.indexByte a0 a1))) := by
  refine (Tryz.strings_IndexByte ⟨a0.toArray⟩ (a1.toNat : Int) s.w).mono ?_
  rintro e w' ⟨rfl, rfl⟩
  exact ⟨s, _, rfl, rfl, Step.refl s, by simp⟩
theorem slIndex_w {s : St} {a0 a1 : List UInt8} (h : a1.length = 1) : Calls Tryz.prog 54 #[S a0, S a1] s.w (Ret s K0 (fun _ v => v = .int .i64 (Lib.indexByte a0 (a1.headD 0)))) := by
  obtain ⟨c, rfl⟩ : ∃ c, a1 = [c] := by match a1, h with | [c], _ => exact ⟨c, rfl⟩
  refine (Tryz.stringslite_Index_one ⟨a0.toArray⟩ c s.w).mono ?_
  rintro e w' ⟨rfl, rfl⟩
  exact ⟨s, _, rfl, rfl, Step.refl s, by simp⟩
theorem bcompare_w {s : St} {l l2 : Lab} {v u : Value} {a0 a1 : List UInt8} (h : SL s l v 1 (a0.map bD)) (h2 : SL s l2 u 1 (a1.map bD)) : Calls Tryz.prog 22 #[v, u] s.w (Ret s K0 (fun _ r => r = .int .i64 (Lib.compareBytes a0 a1))) := by
  refine k_fn (rs := [4]) (args := [v, u]) Tryz.func22 rfl rfl rfl rfl ?_
  repeat refine jAg ?_
  refine jAa ?_
  refine jAd rfl rfl ?_
  refine jAi ?_
  repeat refine jAg ?_
  refine jAa ?_
  refine jAc rfl rfl ?_
  refine jAc rfl rfl ?_
  refine k_call_ext (v := .int .i64 (Lib.compareBytes a0 a1)) rfl ?_ rfl ?_
  · rw [run_callFunc_extern Tryz.func37 (by kernel_rfl) (by kernel_rfl) (by kernel_rfl) (e := Extern.BytealgCompare.compare) (by kernel_rfl)]
    show ((Extern.BytealgCompare.compare #[v, u]).run _ s.w).andThen _ = _
    rw [run_cmpB h h2]
    rfl
  refine jAd rfl rfl ?_
  refine jAi ?_
  refine jAx ?_
  exact ⟨_, rfl, Ret.mk (Step.refl s) rfl⟩
theorem cal39 : Callable Tryz.prog 39 := ⟨_, Tryz.func39, by kernel_rfl, by kernel_rfl⟩
theorem cal40 : Callable Tryz.prog 40 := ⟨_, Tryz.func40, by kernel_rfl, by kernel_rfl⟩
theorem ifcT54 : ifcT Tryz.prog 54 := by unfold ifcT; kernel_rfl
def parseUintR (a0 : List UInt8) : UInt64 × Bool := match Lib.parseUintB 64 a0 with
  | .ok m => (UInt64.ofNat m, false)
  | .range => (18446744073709551615, true)
  | _ => (0, true)
theorem parseUint_w {s : St} {a0 : List UInt8} (t1 : Tab0 s) (t2 : Tab1 s) (h : a0.length ≤ 1000000) : Calls Tryz.prog 24 #[S a0, .int .i64 10, .int .i64 64] s.w (Ret s K0 (fun _ v => ∃ ev, v = .tuple #[.int .u64 ((parseUintR a0).1.toNat : Int), ev] ∧ ErrR ev (parseUintR a0).2)) := by
  have h38 : ∀ r, Lib.parseUintB 64 a0 = r → Calls Tryz.prog 39 #[S a0, .int .i64 10, .int .i64 64] s.w (Ret s K0 (fun _ v => v = Lib.uintTupleM 86 18446744073709551615 r)) := by
    rintro r rfl
    refine (Tryz.internal_strconv_ParseUint_10_at64 ⟨a0.toArray⟩ (by show a0.toArray.size ≤ _; simp; omega) s.w).mono ?_
    rintro e w' ⟨rfl, hw⟩
    have hb : Go.RowKit.Below s.w.heap.size s.w w' := by
      rcases hw with rfl | rfl
      · exact Go.RowKit.Below.refl _ _
      · exact Lib.bytesWorld_below _ _ _
    exact Ret.below hb (fun _ _ _ => rfl)
  cases hr : Lib.parseUintB 64 a0
  · rename_i m
    have hm : m < 2 ^ 64 := by have := Lib.parseUintB_le hr; omega
    have hR : parseUintR a0 = (UInt64.ofNat m, false) := by simp [parseUintR, hr]
    refine k_fn (rs := [6, 7]) (args := [S a0, .int .i64 10, .int .i64 64]) Tryz.func24 rfl rfl rfl rfl ?_
    repeat refine jAg ?_
    refine jAa ?_
    refine jAd rfl rfl ?_
    refine jAd rfl rfl ?_
    refine jAi ?_
    repeat refine jAg ?_
    refine jAa ?_
    refine jAc rfl rfl ?_
    refine jAc rfl rfl ?_
    refine jAc rfl rfl ?_
    refine jAp cal39 rfl (h38 _ hr) rfl ?_
    rintro s2 _ st rfl
    refine jAc rfl rfl ?_
    refine jBd (vs := [.int .u64 (m : Int), .nilIface]) rfl rfl rfl ?_
    refine jBd (vs := [.int .u64 (m : Int), .nilIface]) rfl rfl rfl ?_
    refine jAd rfl rfl ?_
    refine jAd rfl rfl ?_
    refine jAi ?_
    repeat refine jAg ?_
    refine jAa ?_
    refine jAc rfl rfl ?_
    refine k_neq_err ifcT54 ErrR.nil rfl rfl ?_
    refine jAi ?_
    repeat refine jAg ?_
    refine jCv rfl ?_
    refine jAv ?_
    repeat refine jAg ?_
    refine jAa ?_
    refine jAc rfl rfl ?_
    refine jAd rfl rfl ?_
    refine jAd rfl rfl ?_
    refine jAi ?_
    refine jAx ?_
    exact ⟨_, rfl, Ret.mk st ⟨.nilIface, by rw [hR]; show Value.tuple #[.int .u64 (m : Int), .nilIface] = .tuple #[.int .u64 ((UInt64.ofNat m).toNat : Int), .nilIface]; rw [UInt64.toNat_ofNat', Nat.mod_eq_of_lt hm], by rw [hR]; exact ErrR.nil⟩⟩
  · have hR : parseUintR a0 = (0, true) := by simp [parseUintR, hr]
    refine k_fn (rs := [6, 7]) (args := [S a0, .int .i64 10, .int .i64 64]) Tryz.func24 rfl rfl rfl rfl ?_
    repeat refine jAg ?_
    refine jAa ?_
    refine jAd rfl rfl ?_
    refine jAd rfl rfl ?_
    refine jAi ?_
    repeat refine jAg ?_
    refine jAa ?_
    refine jAc rfl rfl ?_
    refine jAc rfl rfl ?_
    refine jAc rfl rfl ?_
    refine jAp cal39 rfl (h38 _ hr) rfl ?_
    rintro s2 _ st rfl
    refine jAc rfl rfl ?_
    refine jBd (vs := [.int .u64 0, .iface 86 (.int .i64 2)]) rfl rfl rfl ?_
    refine jBd (vs := [.int .u64 0, .iface 86 (.int .i64 2)]) rfl rfl rfl ?_
    refine jAd rfl rfl ?_
    refine jAd rfl rfl ?_
    refine jAi ?_
    repeat refine jAg ?_
    refine jAa ?_
    refine jAc rfl rfl ?_
    refine k_neq_err ifcT54 (ErrR.mk _ _) rfl rfl ?_
    refine jAi ?_
    repeat refine jAg ?_
    refine jCt rfl ?_
    repeat refine jAg ?_
    refine jAa ?_
    refine jAc rfl rfl ?_
    refine jAc rfl rfl ?_
    refine jAc rfl rfl ?_
    refine jAc rfl rfl ?_
    refine jAc rfl rfl ?_
    have hS : Step K0 s s2 := st
    obtain ⟨_, _, ev, h1, h2⟩ := t1.up2 st
    refine jAp (K := K0) (φ := fun _ v => ∃ N, v = .iface 88 (.pointer (some ⟨N, 0, none⟩))) cal40 rfl ?_ rfl ?_
    · refine (Any.strconv_toError_syntax Tryz.laysC245 ⟨#[80, 97, 114, 115, 101, 85, 105, 110, 116]⟩ ⟨a0.toArray⟩ 10 64 ev s2.w (by show a0.toArray.size ≤ _; simp; omega) h1 h2).mono ?_
      rintro e w' ⟨N, rfl, _, _, hb⟩
      exact Ret.below hb (fun _ _ _ => ⟨N, rfl⟩)
    rintro s3 _ st3 ⟨N, rfl⟩
    refine jAd rfl rfl ?_
    refine jAd rfl rfl ?_
    refine jAi ?_
    refine jAx ?_
    exact ⟨_, rfl, Ret.mk (hS.trans0 st3) ⟨_, by rw [hR]; rfl, by rw [hR]; exact ErrR.mk _ _⟩⟩
  · have hR : parseUintR a0 = (18446744073709551615, true) := by simp [parseUintR, hr]
    refine k_fn (rs := [6, 7]) (args := [S a0, .int .i64 10, .int .i64 64]) Tryz.func24 rfl rfl rfl rfl ?_
    repeat refine jAg ?_
    refine jAa ?_
    refine jAd rfl rfl ?_
    refine jAd rfl rfl ?_
    refine jAi ?_
    repeat refine jAg ?_
    refine jAa ?_
    refine jAc rfl rfl ?_
    refine jAc rfl rfl ?_
    refine jAc rfl rfl ?_
    refine jAp cal39 rfl (h38 _ hr) rfl ?_
    rintro s2 _ st rfl
    refine jAc rfl rfl ?_
    refine jBd (vs := [.int .u64 18446744073709551615, .iface 86 (.int .i64 1)]) rfl rfl rfl ?_
    refine jBd (vs := [.int .u64 18446744073709551615, .iface 86 (.int .i64 1)]) rfl rfl rfl ?_
    refine jAd rfl rfl ?_
    refine jAd rfl rfl ?_
    refine jAi ?_
    repeat refine jAg ?_
    refine jAa ?_
    refine jAc rfl rfl ?_
    refine k_neq_err ifcT54 (ErrR.mk _ _) rfl rfl ?_
    refine jAi ?_
    repeat refine jAg ?_
    refine jCt rfl ?_
    repeat refine jAg ?_
    refine jAa ?_
    refine jAc rfl rfl ?_
    refine jAc rfl rfl ?_
    refine jAc rfl rfl ?_
    refine jAc rfl rfl ?_
    refine jAc rfl rfl ?_
    have hS : Step K0 s s2 := st
    obtain ⟨_, _, ev, h1, h2⟩ := t2.up2 st
    refine jAp (K := K0) (φ := fun _ v => ∃ N, v = .iface 88 (.pointer (some ⟨N, 0, none⟩))) cal40 rfl ?_ rfl ?_
    · refine (Tryz.strconv_toError_range ⟨#[80, 97, 114, 115, 101, 85, 105, 110, 116]⟩ ⟨a0.toArray⟩ 10 64 ev s2.w (by show a0.toArray.size ≤ _; simp; omega) h1 h2).mono ?_
      rintro e w' ⟨N, rfl, _, _, hb⟩
      exact Ret.below hb (fun _ _ _ => ⟨N, rfl⟩)
    rintro s3 _ st3 ⟨N, rfl⟩
    refine jAd rfl rfl ?_
    refine jAd rfl rfl ?_
    refine jAi ?_
    refine jAx ?_
    exact ⟨_, rfl, Ret.mk (hS.trans0 st3) ⟨_, by rw [hR]; rfl, by rw [hR]; exact ErrR.mk _ _⟩⟩
end Go.Proofs
