import Derived.Test.YtoeanjoenlghlaaDoorQ05F
set_option linter.unusedVariables false
set_option linter.unusedSimpArgs false
namespace Go.Proofs
open Go.Fw
theorem burn0 {d : DiskDisk} (h : d.fuse.n = 0) : burnT d = (0, d) := by unfold burnT; rw [if_pos h]
theorem doPlan0 {d : DiskDisk} (h : d.fuse.n = 0) (q : Int × Option DiskCall) (hq : ∀ dc, q.2 = some dc → q.1 = 0) : doPlan d q = (q.1, match q.2 with | none => d | some dc => grown d dc) := by
  obtain ⟨e, o⟩ := q
  unfold doPlan
  cases o with
  | none =>
    simp only
    split
    · rename_i c; rw [burn0 h, c]
    · rfl
  | some dc =>
    have e0 : e = 0 := hq dc rfl
    simp only
    rw [burn0 (show (grown d dc).fuse.n = 0 from h), e0]
theorem lastP_only (d : DiskDisk) (p : Pic) : lastP (onlyD d p) = p := rfl
theorem sync0 {d : DiskDisk} (hd : d.down = false) (h : d.fuse.n = 0) : syncT d = (0, onlyD d (lastP d)) := by
  unfold syncT
  rw [if_neg (by rw [hd]; decide), burn0 h]
  simp
structure BRel (A : Int) (N : Nat) (x y : DiskDisk) : Prop where
  ix : Inv N x
  iy : Inv N y
  ux : x.down = false
  uy : y.down = false
  fx : x.fuse.n = 0
  fy : y.fuse.n = 0
  cap : x.capacity = y.capacity
  sh : lastP y = (x.pictures[keptAt x A]?).getD []
theorem kept_lt {d : DiskDisk} {A : Int} (h : (d.calls.length : Int) ≤ A) : keptAt d A = d.calls.length := by unfold keptAt; omega
theorem begin_full {A : Int} {N : Nat} {x y : DiskDisk} (h : BRel A N x y) (hN : N ≤ 8000) {c : Law05Call} (h0 : 0 ≤ c.Do) (h3 : c.Do ≤ 3) (hw : (x.calls.length : Int) < A) :
    (callT x c).1 = (callT y c).1 ∧ ((callT x c).2.calls.length : Int) ≤ A ∧ (callT x c).2.down = false ∧ (callT y c).2.down = false ∧ BRel A (N + 4) (callT x c).2 (syncT (callT y c).2).2 := by
  have el : lastP y = lastP x := by rw [h.sh, kept_lt (by omega)]; rfl
  have eq : plan y.capacity (lastP y) c = plan x.capacity (lastP x) c := by rw [el, h.cap]
  rw [call_plan h.ux h0 h3, call_plan h.uy h0 h3, eq]
  generalize hq : plan x.capacity (lastP x) c = q
  have hok : ∀ dc, q.2 = some dc → q.1 = 0 ∧ (total (nextP dc (lastP x)) : Int) ≤ x.capacity ∧ cOk dc = true := fun dc hdc => by
    have := plan_ok (cap := x.capacity) (P := lastP x) (c := c) (dc := dc)
    rw [hq] at this
    exact this hdc
  rw [doPlan0 h.fx q fun dc hdc => (hok dc hdc).1, doPlan0 h.fy q fun dc hdc => (hok dc hdc).1]
  obtain ⟨e, o⟩ := q
  refine ⟨rfl, ?_⟩
  cases o with
  | none =>
    simp only
    refine ⟨by omega, h.ux, h.uy, ?_⟩
    rw [sync0 h.uy h.fy]
    have hy := h.iy.one (p := lastP y) y.down y.fuse h.iy.lrise (h.iy.tot _ h.iy.last.2) (by have := h.iy.plen _ h.iy.last.2; omega) (h.iy.nms _ h.iy.last.2) ⟨h.iy.f0, h.iy.f1⟩
    exact ⟨h.ix.mono (by omega), hy.mono (by omega), h.ux, h.uy, h.fx, h.fy, h.cap, by rw [lastP_only]; exact h.sh⟩
  | some dc =>
    obtain ⟨k1, k2, k3⟩ := hok dc rfl
    have gx := h.ix.grown (c := dc) k2 k3
    have gy := h.iy.grown (c := dc) (by rw [el, ← h.cap]; exact k2) k3
    have lx := lastP_grown h.ix dc
    have ly := lastP_grown h.iy dc
    have hlen : ((grown x dc).calls.length : Int) ≤ A := by show ((x.calls ++ [dc]).length : Int) ≤ A; rw [List.length_append, List.length_singleton]; omega
    simp only
    refine ⟨hlen, h.ux, h.uy, ?_⟩
    rw [sync0 (d := grown y dc) h.uy h.fy]
    have hy := gy.one (p := lastP (grown y dc)) (grown y dc).down (grown y dc).fuse gy.lrise (gy.tot _ gy.last.2) (by have := gy.plen _ gy.last.2; omega) (gy.nms _ gy.last.2) ⟨gy.f0, gy.f1⟩
    refine ⟨gx.mono (by omega), hy.mono (by omega), h.ux, h.uy, h.fx, h.fy, h.cap, ?_⟩
    rw [lastP_only, kept_lt hlen, ly, el, ← lx]
    rfl
theorem begin_one {A : Int} {N : Nat} {x y : DiskDisk} (h : BRel A N x y) (hN : N ≤ 8000) {c : Law05Call} (h0 : 0 ≤ c.Do) (h3 : c.Do ≤ 3) (hw : A ≤ (x.calls.length : Int)) : BRel A (N + 4) (callT x c).2 y := by
  rw [call_plan h.ux h0 h3]
  generalize hq : plan x.capacity (lastP x) c = q
  have hok : ∀ dc, q.2 = some dc → q.1 = 0 ∧ (total (nextP dc (lastP x)) : Int) ≤ x.capacity ∧ cOk dc = true := fun dc hdc => by
    have := plan_ok (cap := x.capacity) (P := lastP x) (c := c) (dc := dc)
    rw [hq] at this
    exact this hdc
  rw [doPlan0 h.fx q fun dc hdc => (hok dc hdc).1]
  obtain ⟨e, o⟩ := q
  cases o with
  | none => exact ⟨h.ix.mono (by omega), h.iy.mono (by omega), h.ux, h.uy, h.fx, h.fy, h.cap, h.sh⟩
  | some dc =>
    obtain ⟨k1, k2, k3⟩ := hok dc rfl
    have gx := h.ix.grown (c := dc) k2 k3
    refine ⟨gx.mono (by omega), h.iy.mono (by omega), h.ux, h.uy, h.fx, h.fy, h.cap, ?_⟩
    rw [h.sh]
    have hlen := h.ix.len
    have e1 : keptAt (grown x dc) A = keptAt x A := by
      show (min (max A 0) ((x.calls ++ [dc]).length : Int)).toNat = (min (max A 0) (x.calls.length : Int)).toNat
      rw [List.length_append, List.length_singleton]; omega
    show _ = ((x.pictures ++ [nextP dc (lastP x)])[keptAt (grown x dc) A]?).getD []
    rw [e1, List.getElem?_append_left (by have := kept_le x A; omega)]
theorem begin_run {A : Int} {l : List Law05Call} (hl : l.length ≤ 300) (ho : ∀ x ∈ l, x.Bytes.length ≤ 40000 ∧ x.K ≤ 9223372036854775807) (kj : DiskDisk → DiskDisk → Option Bool) (hk : ∀ x y N, N ≤ 5000 → BRel A N x y → kj x y = some true) :
    ∀ (J k : Nat) (x y : DiskDisk), k ≤ l.length → l.length - k < J → BRel A (4 * k) x y → law05_DiskBeginnings_l1 l A kj J (k : Int) x y = some true
  | 0, k, x, y, h1, h2, h => by omega
  | J + 1, k, x, y, h1, h2, h => by
    rw [law05_DiskBeginnings_l1]
    by_cases c : k < l.length
    · have ek := List.getElem?_eq_getElem c
      obtain ⟨b1, b2⟩ := ho _ (List.getElem_mem c)
      generalize l[k] = cl at ek b1 b2
      rw [if_pos (by omega), geti_nat, ek, Option.bind_some, Option.bind_some, i64_id (by omega) (by omega), show (k : Int) + 1 = ((k + 1 : Nat) : Int) by omega]
      have hmono : BRel A (4 * (k + 1)) x y := ⟨h.ix.mono (by omega), h.iy.mono (by omega), h.ux, h.uy, h.fx, h.fy, h.cap, h.sh⟩
      have hskip := begin_run hl ho kj hk J (k + 1) x y (by omega) (by omega) hmono
      by_cases c1 : cl.Do < 0
      · rw [if_pos c1, Option.bind_some, if_pos rfl]; exact hskip
      · rw [if_neg c1, Option.bind_some]
        by_cases c2 : 3 < cl.Do
        · rw [if_pos (by simpa using c2)]; exact hskip
        · rw [if_neg (by simpa using c2), Waits_eq h.ix, if_neg (by rw [h.ux]; decide), Option.bind_some]
          by_cases c3 : (x.calls.length : Int) < A
          · obtain ⟨e1, e2, e3, e4, e5⟩ := begin_full h (by omega) (c := cl) (by omega) (by omega) c3
            have iy := h.iy.call cl b2
            have ix := h.ix.call cl b2
            rw [if_pos c3, Option.bind_some, call_eq h.iy (by omega) cl (by omega), Option.bind_some, Option.bind_some, call_eq h.ix (by omega) cl (by omega), Option.bind_some]
            rw [if_neg (by simpa using e1), Waits_eq ix, if_neg (by rw [e3]; decide), Option.bind_some, Option.bind_some, if_neg (by simpa using e2), sync_eq iy (by omega), Option.bind_some]
            exact begin_run hl ho kj hk J (k + 1) _ _ (by omega) (by omega) (by rw [show 4 * (k + 1) = 4 * k + 4 by omega]; exact e5)
          · have e5 := begin_one h (by omega) (c := cl) (by omega) (by omega) (by omega)
            rw [if_neg c3, Option.bind_some, call_eq h.ix (by omega) cl (by omega), Option.bind_some]
            exact begin_run hl ho kj hk J (k + 1) _ _ (by omega) (by omega) (by rw [show 4 * (k + 1) = 4 * k + 4 by omega]; exact e5)
    · rw [if_neg (by omega)]
      exact hk x y _ (by omega) h
theorem crashP0 (d : DiskDisk) (k : Int) : crashP d k 0 = (d.pictures[keptAt d k]?).getD [] := by
  unfold crashP tornC
  cases d.calls[keptAt d k]? with
  | none => rfl
  | some c =>
    cases c with
    | adding x => simp
    | naming x => rfl
    | putting x => rfl
    | removing x => rfl
theorem DiskBeginnings_pure (a : Int) (l : List Law05Call) (A : Int) (hl : l.length ≤ 140737488351232) (ho : ∀ x ∈ l, okC x ∧ x.K ≤ 9223372036854775807) : law05_DiskBeginnings a l A = some true := by
  unfold law05_DiskBeginnings
  by_cases c : a < 0 ∨ 65536 < a
  · rw [New_bad c, Option.bind_some, Option.bind_some, if_pos (show (1 : Int) ≠ 0 by decide), Option.bind_some, if_pos rfl, awake_true]; rfl
  · obtain ⟨v, e, hv⟩ := many_ok hl fun x hx => (ho x hx).1
    rw [New_good c, Option.bind_some, Option.bind_some, if_neg (show ¬ (0 : Int) ≠ 0 by decide), e, Option.bind_some, Option.bind_some]
    cases v with
    | true => rw [if_pos rfl, awake_true]; rfl
    | false =>
      obtain ⟨h1, h2⟩ := hv rfl
      rw [if_neg (by decide), Option.bind_some, Option.bind_some, jn_eq']
      have hFU := FU_big
      have hn := new_inv c
      refine begin_run h1 (fun x hx => ⟨h2 x hx, (ho x hx).2⟩) _ ?_ FU 0 _ _ (by omega) (by omega) ⟨hn, hn, rfl, rfl, rfl, rfl, rfl, ?_⟩
      · intro x y N hN h
        have hc := h.ix.crash A 0
        rw [crash_up h.ux] at hc
        have hs : Inv (N + 1) ⟨x.capacity, x.made, false, [crashP x A 0], [], ⟨0, 0, 0⟩⟩ := hc.fuse (f := ⟨0, 0, 0⟩) ⟨by decide, by decide⟩ false
        rw [crash_eq h.ix (by omega), crash_up h.ux, Option.bind_some, if_neg (by simp), down_eq hc, Option.bind_some, Option.bind_some, if_neg (by simp), start_eq hc, Option.bind_some]
        simp only [startT, if_true, ne_eq, not_true, decide_false, Option.bind_some, Bool.false_eq_true, if_false]
        have hw : disk_Disk_Waits ⟨x.capacity, x.made, false, [crashP x A 0], [], ⟨0, 0, 0⟩⟩ = some 0 := by rw [Waits_eq hs]; rfl
        rw [alike_same h.iy hs (by omega) (by omega) h.uy rfl (by rw [h.sh, ← crashP0]; rfl), Option.bind_some, if_pos rfl, hw, Option.bind_some, Option.bind_some]
        simp [awake_true]
      · show lastP (newD a) = ((newD a).pictures[keptAt (newD a) A]?).getD []
        have : keptAt (newD a) A = 0 := by unfold keptAt newD; simp only [List.length_nil]; omega
        rw [this]; rfl
end Go.Proofs
