import Derived.Test.YtepifllifhikiaaDoorFwIns
import Derived.Test.YtepifllifhikiaaDoorChecked
import Derived.KernelRfl
set_option linter.unusedSimpArgs false
set_option linter.unusedVariables false
namespace Go.Proofs
open Go.Fw
theorem ins_size : sizeT Tryd.prog 67 2 = true := by kernel_rfl
theorem ins_info : (Tryd.prog.info? 67).map (·.size) = some 2 := by kernel_rfl
theorem ins_mixed : Tryd.prog.follows .mixedOrders = true := by kernel_rfl
theorem ins_elem : elemT Tryd.prog 62 67 2 24 (.agg #[.string ⟨#[]⟩, .int .i64 0]) := elemT_of Tryd.underlying62 (by kernel_rfl) (by kernel_rfl) (by kernel_rfl) (by kernel_rfl) (by decide)
set_option maxRecDepth 100000 in
theorem ins_over (w : World) (a b : Addr) (la ca lb cb : Nat) (hne : a.block ≠ b.block) (tA tB : TypeId) (kA kB : Nat)
    (hsa : w.shape? a.block = some (tA, kA)) (hsb : w.shape? b.block = some (tB, kB)) (hkB : kB ≠ 0) (hfa : w.frozen? a = false) (hfe : w.frozen? { block := a.block, off := kA } = false) :
    (callFunc 47 #[.slice (some a) la ca, .slice (some b) lb cb]).run Tryd.prog w = .ok (.value (.bool false)) w := by
  rw [run_callFunc_extern Tryd.func47 (by kernel_rfl) (by kernel_rfl) (by kernel_rfl) (e := Extern.SlicesOverlaps.overlaps #[62, 62] #[4]) (by kernel_rfl),
    Lib.run_overlaps_apart w 62 4 67 Tryd.underlying62 2 (fun w => Go.Fw.run_sizeOf ins_size) a b la ca lb cb hne tA tB kA kB hsa hsb hkB hfa hfe]
  rfl
theorem RCs.cat {s : St} {w : Nat} {xs ys : List Value} {ds es : List D} (h : RCs s w xs ds) (h' : RCs s w ys es) : RCs s w (xs ++ ys) (ds ++ es) := h.append h'
set_option maxHeartbeats 1000000 in
set_option maxRecDepth 100000 in
theorem insert_w {s : St} {l lv : Lab} {v vv : Value} {k : Nat} {ds : List D} {x : D} (h : Own s l 67 2 v ds) (hv : Own s lv 67 2 vv [x]) (hl : lv.o ≠ l.o) (hk : k ≤ ds.length) (hb : ds.length ≤ 1000000) :
    Calls Tryd.prog 30 #[v, .int .i64 (k : Int), vv] s.w (Ret s (KC l.o l.c) (fun s1 u => Own s1 l 67 2 u (ds.take k ++ x :: ds.drop k))) := by
  have h0 := h.1
  have h1 := h.2.1
  have hS : Step (KC l.o l.c) s s := (Step.refl _).of0 (fun c hc => h0 hc.1.symm)
  refine k_fn (rs := [6]) (args := [v, .int .i64 (k : Int), vv]) Tryd.func30 rfl rfl rfl rfl ?_
  repeat refine k_seq ?_
  refine k_region ?_
  refine k_assign rfl rfl ?_
  refine k_nil ?_
  repeat refine k_seq ?_
  refine k_region ?_
  refine k_move rfl rfl ?_
  refine k_move rfl rfl ?_
  refine k_cut_sl (i := k) (j := ds.length) Tryd.underlying62 ins_size rfl h.sl (CutAt.nat rfl) CutAt.none hk (Nat.le_refl _) rfl ?_
  intro v1 hv1
  refine k_nil ?_
  repeat refine k_seq ?_
  refine k_region ?_
  refine k_move rfl rfl ?_
  refine k_len Tryd.underlying62 rfl hv.sl.hasLen rfl ?_
  refine k_as (v := .int .i64 1) rfl ?_
  refine k_assign rfl rfl ?_
  refine k_nil ?_
  repeat refine k_seq ?_
  refine k_region ?_
  refine k_move rfl rfl ?_
  refine k_eql rfl rfl rfl ?_
  refine k_as (v := .bool false) rfl ?_
  refine k_nil ?_
  repeat refine k_seq ?_
  refine k_cond_false rfl ?_
  refine k_skip ?_
  repeat refine k_seq ?_
  refine k_region ?_
  refine k_move rfl rfl ?_
  refine k_len Tryd.underlying62 rfl h.sl.hasLen rfl ?_
  refine k_assign rfl rfl ?_
  refine k_nil ?_
  repeat refine k_seq ?_
  refine k_region ?_
  refine k_move rfl rfl ?_
  refine k_move rfl rfl ?_
  refine k_eql rfl rfl rfl ?_
  refine k_nil ?_
  repeat refine k_seq ?_
  refine k_cond_dec rfl (fun c1 => ?_) (fun c1 => ?_)
  · refine k_seq ?_
    refine k_region ?_
    refine k_move rfl rfl ?_
    refine k_move rfl rfl ?_
    refine k_append (es := [x]) ins_elem rfl rfl h hv.sl (by simp only [List.length_singleton]; omega) (by simp only [List.length_singleton]; omega) rfl ?_
    intro s1 u st ho
    refine k_assign rfl rfl ?_
    refine k_nil ?_
    refine k_ret ?_
    refine ⟨_, rfl, Ret.mk st ?_⟩
    have e : k = ds.length := by omega
    rw [e, List.take_length, List.drop_length]
    exact ho
  refine k_skip ?_
  have hlt : k < ds.length := by omega
  obtain ⟨g, cap, cur, rfl, hrb, hlc, hcm, hcl, hrc⟩ := h.raw (by intro e; rw [e] at hlt; simp at hlt)
  obtain ⟨gv, capv, curv, rfl, hrbv, hlcv, hcmv, hclv, hrcv⟩ := hv.raw (by simp)
  have hgl : g < s.n := (Array.getElem?_eq_some_iff.1 hrb.heap).1
  have hneb : gv ≠ g := by
    rintro rfl
    have e1 := hrb.lab
    have e2 := hrbv.lab
    exact hl (by rw [← e1, ← e2])
  have hones : ∀ u ∈ cur.take (ds.length * 2), u.oneCell' = true := hrc.one_cells
  have hcv : (curv.take 2).length = 2 := by simp only [List.length_singleton] at hlcv; rw [List.length_take]; omega
  have honev : ∀ u ∈ curv.take 2, u.oneCell' = true := by simpa using hrcv.one_cells
  have hm62 : (9223372036854775807 : Nat) = 9223372036854775807 := rfl
  have hmaxL : cap ≤ 9223372036854775807 := hcm
  repeat refine k_seq ?_
  refine k_region ?_
  refine k_move rfl rfl ?_
  refine k_move rfl rfl ?_
  refine k_add rfl rfl rfl ?_
  refine k_as (v := .int .i64 ((ds.length + 1 : Nat) : Int)) (by rw [show ((ds.length : Nat) : Int) + 1 = ((ds.length + 1 : Nat) : Int) by omega]; exact congrArg (Value.int .i64) (i64_eq (by omega) (by omega))) ?_
  refine k_move rfl rfl ?_
  refine k_cap_sl Tryd.underlying62 rfl rfl ?_
  refine k_gtr rfl rfl rfl ?_
  refine k_nil ?_
  refine k_cond_dec rfl (fun c2 => ?_) (fun c2 => ?_)
  · -- no room
    repeat refine k_seq ?_
    refine k_region ?_
    refine k_move rfl rfl ?_
    refine k_move rfl rfl ?_
    refine k_cut_raw (i := 0) (j := k) Tryd.underlying62 ins_size rfl CutAt.none (CutAt.nat rfl) (Nat.zero_le _) (by omega) (by omega) rfl ?_
    refine k_as (v := .slice (some ⟨g, 0, none⟩) k cap) (by simp) ?_
    refine k_move rfl rfl ?_
    refine k_move rfl rfl ?_
    refine k_add rfl rfl rfl ?_
    refine k_as (v := .int .i64 ((ds.length + 1 : Nat) : Int)) (by rw [show ((ds.length : Nat) : Int) + 1 = ((ds.length + 1 : Nat) : Int) by omega]; exact congrArg (Value.int .i64) (i64_eq (by omega) (by omega))) ?_
    refine k_move rfl rfl ?_
    refine k_sub_ rfl rfl rfl ?_
    refine k_as (v := .int .i64 ((ds.length + 1 - k : Nat) : Int)) (by rw [show ((ds.length + 1 : Nat) : Int) - (k : Int) = ((ds.length + 1 - k : Nat) : Int) by omega]; exact congrArg (Value.int .i64) (i64_eq (by omega) (by omega))) ?_
    refine k_append_zerosG ins_elem Tryd.underlying3 rfl rfl hrb hcl (by omega) (by omega) (by omega) (by omega) (by omega) rfl l h1 h0 ?_
    intro s1 g1 cap1 zs st1 hrb1 hle1 hcm1 hcl1 hg1
    have sz1 := st1.size
    have hS1 : Step (KC l.o l.c) s s1 := hS.trans0 st1
    have hrb' := hrb.up2 st1
    have hrbv' := hrbv.up2 st1
    have htk : (cur.take (k * 2)).length = k * 2 := by rw [List.length_take, hcl]; omega
    refine k_as (v := .slice (some ⟨g1, 0, none⟩) (ds.length + 1) cap1) (by congr 1; omega) ?_
    refine k_assign rfl rfl ?_
    refine k_nil ?_
    repeat refine k_seq ?_
    refine k_region ?_
    refine k_move rfl rfl ?_
    refine k_move rfl rfl ?_
    refine k_cut_raw (i := k) (j := ds.length + 1) Tryd.underlying62 ins_size rfl (CutAt.nat rfl) CutAt.none (by omega) (by omega) (by omega) rfl ?_
    refine k_move rfl rfl ?_
    refine k_copy_raw (k := 2) (cs := curv.take 2) Tryd.underlying62 ins_info rfl rfl hrb1 h0 (by rw [hcv]; simp only [List.length_singleton, Nat.min_def]; split <;> omega) (by rw [hcv, hcl1]; omega) (fun j u hu => by rw [addr_add, Nat.zero_add, hrbv'.cell]; rw [List.getElem?_take] at hu; split at hu; exact hu; cases hu) honev rfl ?_
    intro s2 u2 st2 hrb2 ho2
    have sz2 := st2.size
    have hS2 := hS1.transK st2
    have hg1n : g1 ≠ g := by omega
    have hrb'' := hrb'.same (ho2 g (Ne.symm hg1n))
    have hcl2 : ((cur.take (k * 2) ++ zs).take (k * 2) ++ curv.take 2 ++ (cur.take (k * 2) ++ zs).drop (k * 2 + (curv.take 2).length)).length = cap1 * 2 := by
      simp only [List.length_append, List.length_take, List.length_drop, hcv] at hcl1 ⊢
      omega
    rw [Nat.zero_add] at hrb2
    generalize hc2 : (cur.take (k * 2) ++ zs).take (k * 2) ++ curv.take 2 ++ (cur.take (k * 2) ++ zs).drop (k * 2 + (curv.take 2).length) = cur2 at hrb2 hcl2
    have hpre : cur2.take ((k + 1) * 2) = cur.take (k * 2) ++ curv.take 2 := by
      rw [← hc2, List.take_left' htk]
      exact List.take_left' (by rw [List.length_append, htk, hcv]; omega)
    refine k_nil ?_
    repeat refine k_seq ?_
    refine k_drawT (KC l.o l.c) 8 (.read 0 (.read 1 (.read 2 (.read 3 (.read 4 (.read 5 (.read 6 (.read 7 .fin)))))))) ins_mixed (fun c hc => h0 hc.1.symm) rfl rfl rfl ?_
    intro s3 st3
    have sz3 := st3.size
    have hS3 := hS2.trans0 st3
    have hrb3 := hrb2.up2 st3
    have hrb3' := hrb''.up2 st3
    refine rt_read (.slice (some ⟨g1, 0, none⟩) (ds.length + 1) cap1) rfl rfl (fun s4 st4 => ?_) ?_
    · refine k_move rfl rfl ?_
      exact fq_end
    refine rt_read (.int .i64 (k : Int)) rfl rfl (fun s4 st4 => ?_) ?_
    · refine k_move rfl rfl ?_
      exact fq_end
    refine rt_read (.int .i64 1) rfl rfl (fun s4 st4 => ?_) ?_
    · refine k_move rfl rfl ?_
      exact fq_end
    refine rt_read (.int .i64 ((k + 1 : Nat) : Int)) rfl rfl (fun s4 st4 => ?_) ?_
    · refine k_add rfl rfl rfl ?_
      refine k_as (v := .int .i64 ((k + 1 : Nat) : Int)) (by rw [show (k : Int) + 1 = ((k + 1 : Nat) : Int) by omega]; exact congrArg (Value.int .i64) (i64_eq (by omega) (by omega))) ?_
      exact fq_end
    refine rt_read (.slice (some ⟨g1, (k + 1) * 2, none⟩) (ds.length - k) (cap1 - (k + 1))) rfl rfl (fun s4 st4 => ?_) ?_
    · refine k_cut_raw (i := k + 1) (j := ds.length + 1) Tryd.underlying62 ins_size rfl (CutAt.nat rfl) CutAt.none (by omega) (by omega) (by omega) rfl ?_
      refine k_as (v := .slice (some ⟨g1, (k + 1) * 2, none⟩) (ds.length - k) (cap1 - (k + 1))) (by rw [Nat.zero_add]; congr 1; omega) ?_
      exact fq_end
    refine rt_read (.slice (some ⟨g, 0, none⟩) ds.length cap) rfl rfl (fun s4 st4 => ?_) ?_
    · refine k_move rfl rfl ?_
      exact fq_end
    refine rt_read (.int .i64 (k : Int)) rfl rfl (fun s4 st4 => ?_) ?_
    · refine k_move rfl rfl ?_
      exact fq_end
    refine rt_read (.slice (some ⟨g, k * 2, none⟩) (ds.length - k) (cap - k)) rfl rfl (fun s4 st4 => ?_) ?_
    · refine k_cut_raw (i := k) (j := ds.length) Tryd.underlying62 ins_size rfl (CutAt.nat rfl) CutAt.none (by omega) (by omega) (by omega) rfl ?_
      refine k_as (v := .slice (some ⟨g, k * 2, none⟩) (ds.length - k) (cap - k)) (by rw [Nat.zero_add]) ?_
      exact fq_end
    refine rt_fin ?_
    have hcs : ((cur.take (ds.length * 2)).drop (k * 2)).length = (ds.length - k) * 2 := by rw [List.length_drop, List.length_take, hcl]; omega
    refine k_copy_raw (k := 2) (cs := (cur.take (ds.length * 2)).drop (k * 2)) Tryd.underlying62 ins_info rfl rfl hrb3 h0 (by rw [hcs]; congr 1; exact (Nat.min_self _).symm) (by rw [hcs, hcl2]; omega) (fun j u hu => ?_) (fun u hu => hones u (List.mem_of_mem_drop hu)) rfl ?_
    · rw [addr_add, hrb3'.cell]
      rw [List.getElem?_drop, List.getElem?_take] at hu
      split at hu
      · exact hu
      · cases hu
    intro s4 u4 st4 hrb4 ho4
    have hS4 := hS3.transK st4
    refine k_nil ?_
    repeat refine k_seq ?_
    refine k_region ?_
    refine k_move rfl rfl ?_
    refine k_assign rfl rfl ?_
    refine k_nil ?_
    refine k_ret ?_
    refine ⟨_, rfl, Ret.mk hS4 ?_⟩
    have hdl : (ds.take k ++ x :: ds.drop k).length = ds.length + 1 := by simp only [List.length_append, List.length_take, List.length_cons, List.length_drop]; omega
    have hfin : (cur2.take ((k + 1) * 2) ++ (cur.take (ds.length * 2)).drop (k * 2) ++ cur2.drop ((k + 1) * 2 + ((cur.take (ds.length * 2)).drop (k * 2)).length)).take ((ds.length + 1) * 2) = cur.take (k * 2) ++ curv.take 2 ++ (cur.take (ds.length * 2)).drop (k * 2) := by
      rw [hpre]
      exact List.take_left' (by rw [List.length_append, List.length_append, htk, hcv, hcs]; omega)
    have hA : (cur.take (ds.length * 2)).take (k * 2) = cur.take (k * 2) := by rw [List.take_take, Nat.min_eq_left (by omega)]
    have hR1 := hrc.take k
    rw [hA] at hR1
    have hR2 := hrc.drop k
    have hR3 : RCs s 2 (curv.take 2) [x] := by simpa using hrcv
    have hRR := ((((((hR1.append hR3).append hR2).up st1).up st2).up st3).up st4)
    rw [List.append_assoc (ds.take k), List.singleton_append] at hRR
    have hres := Own.of_raw (w := 2) (ds := ds.take k ++ x :: ds.drop k) (cap := cap1) h0 (by have := st1.size; have := st2.size; have := st3.size; have := st4.size; omega) hrb4 (by rw [hdl]; omega) hcm1 (by simp only [List.length_append, List.length_take, List.length_drop, hcs, hcl2]; omega) (by rw [hdl, hfin]; exact hRR)
    rw [hdl] at hres
    exact hres
  · refine k_skip ?_
    have hroom : ds.length + 1 ≤ cap := by omega
    have hA : (cur.take (ds.length * 2)).take (k * 2) = cur.take (k * 2) := by rw [List.take_take, Nat.min_eq_left (by omega)]
    have htk : (cur.take (k * 2)).length = k * 2 := by rw [List.length_take, hcl]; omega
    repeat refine k_seq ?_
    refine k_region ?_
    refine k_move rfl rfl ?_
    refine k_move rfl rfl ?_
    refine k_move rfl rfl ?_
    refine k_add rfl rfl rfl ?_
    refine k_as (v := .int .i64 ((ds.length + 1 : Nat) : Int)) (by rw [show ((ds.length : Nat) : Int) + 1 = ((ds.length + 1 : Nat) : Int) by omega]; exact congrArg (Value.int .i64) (i64_eq (by omega) (by omega))) ?_
    refine k_cut_raw (i := 0) (j := ds.length + 1) Tryd.underlying62 ins_size rfl CutAt.none (CutAt.nat rfl) (Nat.zero_le _) (by omega) (by omega) rfl ?_
    refine k_as (v := .slice (some ⟨g, 0, none⟩) (ds.length + 1) cap) (by simp) ?_
    refine k_assign rfl rfl ?_
    refine k_nil ?_
    refine k_keep [(0, _), (1, _), (2, _), (7, _), (8, _)] ⟨rfl, rfl, rfl, rfl, rfl, trivial⟩ ?_
    repeat refine k_seq ?_
    refine k_region ?_
    refine k_move rfl rfl ?_
    refine k_move rfl rfl ?_
    refine k_move rfl rfl ?_
    refine k_move rfl rfl ?_
    refine k_add rfl rfl rfl ?_
    refine k_as (v := .int .i64 ((k + 1 : Nat) : Int)) (by rw [show (k : Int) + 1 = ((k + 1 : Nat) : Int) by omega]; exact congrArg (Value.int .i64) (i64_eq (by omega) (by omega))) ?_
    refine k_cut_raw (i := k + 1) (j := ds.length + 1) Tryd.underlying62 ins_size rfl (CutAt.nat rfl) CutAt.none (by omega) (by omega) (by omega) rfl ?_
    refine k_callx rfl (ins_over s.w ⟨gv, 0, none⟩ ⟨g, 0 + (k + 1) * 2, none⟩ _ _ _ _ hneb 67 67 curv.length cur.length (by simp [World.shape?, hrbv.heap]) (by simp [World.shape?, hrb.heap]) (by omega) (by simp [World.frozen?, hrbv.heap]) (by simp [World.frozen?, hrbv.heap])) rfl ?_
    refine k_not rfl rfl ?_
    refine k_as (v := .bool true) rfl ?_
    refine k_nil ?_
    refine k_cond_true rfl ?_
    refine k_keep [(0, _), (1, _), (2, _), (7, _), (8, _)] ⟨rfl, rfl, rfl, rfl, rfl, trivial⟩ ?_
    repeat refine k_seq ?_
    refine k_drawT (KC l.o l.c) 8 (.read 0 (.read 1 (.read 2 (.read 3 (.read 4 (.read 5 (.read 6 (.read 7 .fin)))))))) ins_mixed (fun c hc => h0 hc.1.symm) rfl rfl rfl ?_
    intro s3 st3
    have sz3 := st3.size
    have hS3 := hS.trans0 st3
    have hrb3 := hrb.up2 st3
    have hrbv3 := hrbv.up2 st3
    refine rt_read (.slice (some ⟨g, 0, none⟩) (ds.length + 1) cap) rfl rfl (fun s4 st4 => ?_) ?_
    · refine k_move rfl rfl ?_
      exact fq_end
    refine rt_read (.int .i64 (k : Int)) rfl rfl (fun s4 st4 => ?_) ?_
    · refine k_move rfl rfl ?_
      exact fq_end
    refine rt_read (.int .i64 1) rfl rfl (fun s4 st4 => ?_) ?_
    · refine k_move rfl rfl ?_
      exact fq_end
    refine rt_read (.int .i64 ((k + 1 : Nat) : Int)) rfl rfl (fun s4 st4 => ?_) ?_
    · refine k_add rfl rfl rfl ?_
      refine k_as (v := .int .i64 ((k + 1 : Nat) : Int)) (by rw [show (k : Int) + 1 = ((k + 1 : Nat) : Int) by omega]; exact congrArg (Value.int .i64) (i64_eq (by omega) (by omega))) ?_
      exact fq_end
    refine rt_read (.slice (some ⟨g, (k + 1) * 2, none⟩) (ds.length - k) (cap - (k + 1))) rfl rfl (fun s4 st4 => ?_) ?_
    · refine k_cut_raw (i := k + 1) (j := ds.length + 1) Tryd.underlying62 ins_size rfl (CutAt.nat rfl) CutAt.none (by omega) (by omega) (by omega) rfl ?_
      refine k_as (v := .slice (some ⟨g, (k + 1) * 2, none⟩) (ds.length - k) (cap - (k + 1))) (by rw [Nat.zero_add]; congr 1; omega) ?_
      exact fq_end
    refine rt_read (.slice (some ⟨g, 0, none⟩) (ds.length + 1) cap) rfl rfl (fun s4 st4 => ?_) ?_
    · refine k_move rfl rfl ?_
      exact fq_end
    refine rt_read (.int .i64 (k : Int)) rfl rfl (fun s4 st4 => ?_) ?_
    · refine k_move rfl rfl ?_
      exact fq_end
    refine rt_read (.slice (some ⟨g, k * 2, none⟩) (ds.length + 1 - k) (cap - k)) rfl rfl (fun s4 st4 => ?_) ?_
    · refine k_cut_raw (i := k) (j := ds.length + 1) Tryd.underlying62 ins_size rfl (CutAt.nat rfl) CutAt.none (by omega) (by omega) (by omega) rfl ?_
      refine k_as (v := .slice (some ⟨g, k * 2, none⟩) (ds.length + 1 - k) (cap - k)) (by rw [Nat.zero_add]) ?_
      exact fq_end
    refine rt_fin ?_
    have hcs : ((cur.take (ds.length * 2)).drop (k * 2)).length = (ds.length - k) * 2 := by rw [List.length_drop, List.length_take, hcl]; omega
    refine k_copy_raw (k := 2) (cs := (cur.take (ds.length * 2)).drop (k * 2)) Tryd.underlying62 ins_info rfl rfl hrb3 h0 (by rw [hcs]; congr 1; simp only [Nat.min_def]; split <;> omega) (by rw [hcs, hcl]; omega) (fun j u hu => ?_) (fun u hu => hones u (List.mem_of_mem_drop hu)) rfl ?_
    · rw [addr_add, hrb3.cell]
      rw [List.getElem?_drop, List.getElem?_take] at hu
      split at hu
      · exact hu
      · cases hu
    intro s4 u4 st4 hrb4 ho4
    have sz4 := st4.size
    have hS4 := hS3.transK st4
    have hrbv4 := hrbv3.same (ho4 gv hneb)
    have hcl2 : (cur.take ((k + 1) * 2) ++ (cur.take (ds.length * 2)).drop (k * 2) ++ cur.drop ((k + 1) * 2 + ((cur.take (ds.length * 2)).drop (k * 2)).length)).length = cap * 2 := by
      simp only [List.length_append, List.length_drop, List.length_take, hcl] at hcs ⊢; omega
    have hpre : (cur.take ((k + 1) * 2) ++ (cur.take (ds.length * 2)).drop (k * 2) ++ cur.drop ((k + 1) * 2 + ((cur.take (ds.length * 2)).drop (k * 2)).length)).take (k * 2) = cur.take (k * 2) := by
      rw [List.append_assoc, List.take_append_of_le_length (by rw [List.length_take, hcl]; omega), List.take_take, Nat.min_eq_left (by omega)]
    have hpost : (cur.take ((k + 1) * 2) ++ (cur.take (ds.length * 2)).drop (k * 2) ++ cur.drop ((k + 1) * 2 + ((cur.take (ds.length * 2)).drop (k * 2)).length)).drop (k * 2 + 2) = (cur.take (ds.length * 2)).drop (k * 2) ++ cur.drop ((k + 1) * 2 + ((cur.take (ds.length * 2)).drop (k * 2)).length) := by
      rw [List.append_assoc]
      exact List.drop_left' (by rw [List.length_take, hcl]; omega)
    generalize hc2 : cur.take ((k + 1) * 2) ++ (cur.take (ds.length * 2)).drop (k * 2) ++ cur.drop ((k + 1) * 2 + ((cur.take (ds.length * 2)).drop (k * 2)).length) = cur2 at hrb4 hcl2 hpre hpost
    refine k_nil ?_
    refine k_keep [(0, _), (1, _), (2, _), (7, _), (8, _)] ⟨rfl, rfl, rfl, rfl, rfl, trivial⟩ ?_
    repeat refine k_seq ?_
    refine k_region ?_
    refine k_move rfl rfl ?_
    refine k_move rfl rfl ?_
    refine k_cut_raw (i := k) (j := ds.length + 1) Tryd.underlying62 ins_size rfl (CutAt.nat rfl) CutAt.none (by omega) (by omega) (by omega) rfl ?_
    refine k_move rfl rfl ?_
    refine k_copy_raw (k := 2) (cs := curv.take 2) Tryd.underlying62 ins_info rfl rfl hrb4 h0 (by rw [hcv]; simp only [List.length_singleton, Nat.min_def]; split <;> omega) (by rw [hcv, hcl2]; omega) (fun j u hu => by rw [addr_add, Nat.zero_add, hrbv4.cell]; rw [List.getElem?_take] at hu; split at hu; exact hu; cases hu) honev rfl ?_
    intro s5 u5 st5 hrb5 ho5
    have sz5 := st5.size
    have hS5 := hS4.transK st5
    refine k_nil ?_
    repeat refine k_seq ?_
    refine k_region ?_
    refine k_move rfl rfl ?_
    refine k_assign rfl rfl ?_
    refine k_nil ?_
    refine k_ret ?_
    refine ⟨_, rfl, Ret.mk hS5 ?_⟩
    rw [Nat.zero_add, hcv, hpre, hpost] at hrb5
    have hdl : (ds.take k ++ x :: ds.drop k).length = ds.length + 1 := by simp only [List.length_append, List.length_take, List.length_cons, List.length_drop]; omega
    have hR1 := hrc.take k
    rw [hA] at hR1
    have hR2 := hrc.drop k
    have hR3 : RCs s 2 (curv.take 2) [x] := by simpa using hrcv
    have hRR := (((((hR1.append hR3).append hR2).up st3).up st4).up st5)
    rw [List.append_assoc (ds.take k), List.singleton_append] at hRR
    have hfin : (cur.take (k * 2) ++ curv.take 2 ++ ((cur.take (ds.length * 2)).drop (k * 2) ++ cur.drop ((k + 1) * 2 + ((cur.take (ds.length * 2)).drop (k * 2)).length))).take ((ds.length + 1) * 2) = cur.take (k * 2) ++ curv.take 2 ++ (cur.take (ds.length * 2)).drop (k * 2) := by
      rw [← List.append_assoc]
      exact List.take_left' (by rw [List.length_append, List.length_append, htk, hcv, hcs]; omega)
    have hres := Own.of_raw (w := 2) (ds := ds.take k ++ x :: ds.drop k) (cap := cap) h0 (by omega) hrb5 (by rw [hdl]; omega) hcm (by simp only [List.length_append, List.length_drop, List.length_take, hcl] at htk hcv hcs ⊢; omega) (by rw [hdl, hfin]; exact hRR)
    rw [hdl] at hres
    exact hres
end Go.Proofs
namespace Go.Proofs
open Go.Fw
set_option maxHeartbeats 1000000 in
set_option maxRecDepth 100000 in
theorem delete_w {s : St} {l : Lab} {v : Value} {k : Nat} {ds : List D} (h : Own s l 67 2 v ds) (hk : k < ds.length) (hb : ds.length ≤ 1000000) :
    Calls Tryd.prog 40 #[v, .int .i64 (k : Int), .int .i64 ((k + 1 : Nat) : Int)] s.w (Ret s (KC l.o l.c) (fun s1 u => Own s1 l 67 2 u (ds.take k ++ ds.drop (k + 1)))) := by
  have h0 := h.1
  have h1 := h.2.1
  have hS : Step (KC l.o l.c) s s := (Step.refl _).of0 (fun c hc => h0 hc.1.symm)
  obtain ⟨g, cap, cur, rfl, hrb, hlc, hcm, hcl, hrc⟩ := h.raw (by intro e; rw [e] at hk; simp at hk)
  have hones : ∀ u ∈ cur.take (ds.length * 2), u.oneCell' = true := hrc.one_cells
  have hmaxL : cap ≤ 9223372036854775807 := hcm
  have htk : (cur.take (k * 2)).length = k * 2 := by rw [List.length_take, hcl]; omega
  refine k_fn (rs := [6]) (args := [.slice (some ⟨g, 0, none⟩) ds.length cap, .int .i64 (k : Int), .int .i64 ((k + 1 : Nat) : Int)]) Tryd.func40 rfl rfl rfl rfl ?_
  repeat refine k_seq ?_
  refine k_region ?_
  refine k_assign rfl rfl ?_
  refine k_nil ?_
  repeat refine k_seq ?_
  refine k_region ?_
  refine k_move rfl rfl ?_
  refine k_move rfl rfl ?_
  refine k_move rfl rfl ?_
  refine k_move rfl rfl ?_
  refine k_len Tryd.underlying62 rfl h.sl.hasLen rfl ?_
  refine k_cut3 (i := k) (j := k + 1) (q := ds.length) Tryd.underlying62 ins_size rfl rfl rfl rfl (by omega) (by omega) hlc rfl ?_
  refine k_nil ?_
  refine k_keep [(0, _), (1, _), (2, _)] ⟨rfl, rfl, rfl, trivial⟩ ?_
  repeat refine k_seq ?_
  refine k_region ?_
  refine k_move rfl rfl ?_
  refine k_move rfl rfl ?_
  refine k_eql rfl rfl rfl ?_
  refine k_as (v := .bool false) (by rw [decide_eq_false]; omega) ?_
  refine k_nil ?_
  repeat refine k_seq ?_
  refine k_cond_false rfl ?_
  refine k_skip ?_
  repeat refine k_seq ?_
  refine k_region ?_
  refine k_move rfl rfl ?_
  refine k_len Tryd.underlying62 rfl h.sl.hasLen rfl ?_
  refine k_assign rfl rfl ?_
  refine k_nil ?_
  refine k_keep [(0, _), (1, _), (2, _), (7, _)] ⟨rfl, rfl, rfl, rfl, trivial⟩ ?_
  repeat refine k_seq ?_
  refine k_drawT (KC l.o l.c) 6 (.read 0 (.read 1 (.read 2 (.read 3 (.read 4 (.read 5 .fin)))))) ins_mixed (fun c hc => h0 hc.1.symm) rfl rfl rfl ?_
  intro s3 st3
  have sz3 := st3.size
  have hS3 := hS.trans0 st3
  have hrb3 := hrb.up2 st3
  refine rt_read (.slice (some ⟨g, 0, none⟩) ds.length cap) rfl rfl (fun s4 st4 => ?_) ?_
  · refine k_move rfl rfl ?_
    exact fq_end
  refine rt_read (.int .i64 (k : Int)) rfl rfl (fun s4 st4 => ?_) ?_
  · refine k_move rfl rfl ?_
    exact fq_end
  refine rt_read (.slice (some ⟨g, 0, none⟩) k cap) rfl rfl (fun s4 st4 => ?_) ?_
  · refine k_cut_raw (i := 0) (j := k) Tryd.underlying62 ins_size rfl CutAt.none (CutAt.nat rfl) (Nat.zero_le _) (by omega) (by omega) rfl ?_
    refine k_as (v := .slice (some ⟨g, 0, none⟩) k cap) (by simp) ?_
    exact fq_end
  refine rt_read (.slice (some ⟨g, 0, none⟩) ds.length cap) rfl rfl (fun s4 st4 => ?_) ?_
  · refine k_move rfl rfl ?_
    exact fq_end
  refine rt_read (.int .i64 ((k + 1 : Nat) : Int)) rfl rfl (fun s4 st4 => ?_) ?_
  · refine k_move rfl rfl ?_
    exact fq_end
  obtain ⟨a, ha⟩ : ∃ a : Addr, a = if cap = k + 1 then ⟨g, 0, none⟩ else ⟨g, (k + 1) * 2, none⟩ := ⟨_, rfl⟩
  refine rt_read (.slice (some a) (ds.length - (k + 1)) (cap - (k + 1))) rfl rfl (fun s4 st4 => ?_) ?_
  · refine k_cut_any (i := k + 1) (j := ds.length) Tryd.underlying62 ins_size rfl (CutAt.nat rfl) CutAt.none (by omega) hlc rfl ?_
    refine k_as (v := .slice (some a) (ds.length - (k + 1)) (cap - (k + 1))) (by rw [Nat.zero_add, ← ha]) ?_
    exact fq_end
  refine rt_fin ?_
  have hcs : ((cur.take (ds.length * 2)).drop ((k + 1) * 2)).length = (ds.length - (k + 1)) * 2 := by rw [List.length_drop, List.length_take, hcl]; omega
  refine k_append_room (i := k) (cs := (cur.take (ds.length * 2)).drop ((k + 1) * 2)) ins_elem rfl rfl hrb3 h0 hcs (fun j u hu => ?_) (fun u hu => hones u (List.mem_of_mem_drop hu)) (by omega) (by rw [hcs, hcl]; omega) rfl ?_
  · have hj := (List.getElem?_eq_some_iff.1 hu).1
    rw [hcs] at hj
    rw [ha, if_neg (by omega), addr_add, hrb3.cell]
    rw [List.getElem?_drop, List.getElem?_take] at hu
    split at hu
    · exact hu
    · cases hu
  intro s4 st4 hrb4
  have sz4 := st4.size
  have hS4 := hS3.transK st4
  have hcl4 : (cur.take (k * 2) ++ (cur.take (ds.length * 2)).drop ((k + 1) * 2) ++ cur.drop (k * 2 + ((cur.take (ds.length * 2)).drop ((k + 1) * 2)).length)).length = cap * 2 := by
    simp only [List.length_append, List.length_drop, List.length_take, hcl] at hcs ⊢; omega
  have hpre : (cur.take (k * 2) ++ (cur.take (ds.length * 2)).drop ((k + 1) * 2) ++ cur.drop (k * 2 + ((cur.take (ds.length * 2)).drop ((k + 1) * 2)).length)).take ((ds.length - 1) * 2) = cur.take (k * 2) ++ (cur.take (ds.length * 2)).drop ((k + 1) * 2) :=
    List.take_left' (by rw [List.length_append, htk, hcs]; omega)
  generalize hc4 : cur.take (k * 2) ++ (cur.take (ds.length * 2)).drop ((k + 1) * 2) ++ cur.drop (k * 2 + ((cur.take (ds.length * 2)).drop ((k + 1) * 2)).length) = cur4 at hrb4 hcl4 hpre
  refine k_as (v := .slice (some ⟨g, 0, none⟩) (ds.length - 1) cap) (by congr 1; omega) ?_
  refine k_assign rfl rfl ?_
  refine k_nil ?_
  refine k_keep [(0, _), (1, _), (2, _), (7, _)] ⟨rfl, rfl, rfl, rfl, trivial⟩ ?_
  repeat refine k_seq ?_
  refine k_region ?_
  refine k_move rfl rfl ?_
  refine k_move rfl rfl ?_
  refine k_len_raw Tryd.underlying62 rfl rfl ?_
  refine k_move rfl rfl ?_
  refine k_cut_raw (i := ds.length - 1) (j := ds.length) Tryd.underlying62 ins_size rfl (CutAt.nat rfl) (CutAt.nat rfl) (by omega) hlc (by omega) rfl ?_
  refine k_as (v := .slice (some ⟨g, (ds.length - 1) * 2, none⟩) 1 (cap - (ds.length - 1))) (by rw [Nat.zero_add]; congr 1; omega) ?_
  refine k_clear_one ins_elem rfl hrb4 h0 (by rw [hcl4]; omega) (by decide) ?_
  intro s5 st5 hrb5
  have sz5 := st5.size
  have hS5 := hS4.transK st5
  refine k_nil ?_
  repeat refine k_seq ?_
  refine k_region ?_
  refine k_move rfl rfl ?_
  refine k_assign rfl rfl ?_
  refine k_nil ?_
  refine k_ret ?_
  refine ⟨_, rfl, Ret.mk hS5 ?_⟩
  have hdl : (ds.take k ++ ds.drop (k + 1)).length = ds.length - 1 := by simp only [List.length_append, List.length_take, List.length_drop]; omega
  have hA : (cur.take (ds.length * 2)).take (k * 2) = cur.take (k * 2) := by rw [List.take_take, Nat.min_eq_left (by omega)]
  have hR1 := hrc.take k
  rw [hA] at hR1
  have hR2 := hrc.drop (k + 1)
  have hRR := ((((hR1.append hR2).up st3).up st4).up st5)
  have hfin : (cur4.take ((ds.length - 1) * 2) ++ (Value.agg #[.string ⟨#[]⟩, .int .i64 0]).cells.toList ++ cur4.drop ((ds.length - 1) * 2 + 2)).take ((ds.length - 1) * 2) = cur.take (k * 2) ++ (cur.take (ds.length * 2)).drop ((k + 1) * 2) := by
    rw [hpre, List.append_assoc]
    exact List.take_left' (by rw [List.length_append, htk, hcs]; omega)
  have hres := Own.of_raw (w := 2) (ds := ds.take k ++ ds.drop (k + 1)) (cap := cap) h0 (by omega) hrb5 (by rw [hdl]; omega) hcm (by simp only [List.length_append, List.length_take, List.length_drop, hcl4]; show _ + 2 + _ = _; omega) (by rw [hdl, hfin]; exact hRR)
  rw [hdl] at hres
  exact hres
end Go.Proofs
