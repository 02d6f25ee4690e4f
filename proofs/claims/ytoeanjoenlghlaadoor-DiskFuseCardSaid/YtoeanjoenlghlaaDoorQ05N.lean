import Derived.Test.YtoeanjoenlghlaaDoorQ05H
set_option linter.unusedVariables false
set_option linter.unusedSimpArgs false
namespace Go.Proofs
open Go.Fw
theorem fuse_l1_eq (l : List Law05Call) (kj : DiskDisk → Option Bool) : ∀ (J : Nat) (k : Int) (x : DiskDisk), law05_DiskFuse_l1 l kj J k x = law05_DiskTorn_l1 l kj J k x
  | 0, k, x => rfl
  | J + 1, k, x => by
    rw [law05_DiskFuse_l1, law05_DiskTorn_l1]
    simp only [fuse_l1_eq l kj J]
/-- The disk with another fuse. -/
def withF (y : DiskDisk) (f : DiskFuse) : DiskDisk := ⟨y.capacity, y.made, y.down, y.pictures, y.calls, f⟩
theorem burn_many {z : DiskDisk} {n k t : Int} (h : 2 ≤ n) : burnT (withF z ⟨n, k, t⟩) = (0, withF z ⟨n - 1, k, t⟩) := by
  unfold burnT
  rw [if_neg (show ¬ (withF z ⟨n, k, t⟩).fuse.n = 0 by show ¬ n = 0; omega), if_neg (show ¬ (withF z ⟨n, k, t⟩).fuse.n = 1 by show ¬ n = 1; omega)]
  rfl
theorem burn_one {z : DiskDisk} {k t : Int} (h : z.down = false) : burnT (withF z ⟨1, k, t⟩) = (12, (crashT z k t).2) := by
  unfold burnT
  rw [if_neg (show ¬ (withF z ⟨1, k, t⟩).fuse.n = 0 by show ¬ (1 : Int) = 0; decide), if_pos (show (withF z ⟨1, k, t⟩).fuse.n = 1 from rfl)]
  show ((12 : Int), (crashT (withF z ⟨1, k, t⟩) k t).2) = _
  rw [crash_up h, crash_up (show (withF z ⟨1, k, t⟩).down = false from h)]
  rfl
def fuseEnd (x32 x40 : Int × DiskDisk) : Option Bool := (if x32.1 = 12 then (disk_Disk_Down x32.2).bind fun x42 => some x42 else some false).bind fun x41 => (if x41 = true then (disk_Disk_Start x40.2).bind fun x44 => some (decide (x44.1 = 0), x44.2) else some (false, x40.2)).bind fun x43 => (if x43.1 = true then (disk_Disk_Start x32.2).bind fun x46 => some (decide (x46.1 = 0), x46.2) else some (false, x32.2)).bind fun x45 => (if x45.1 = true then (law05_alike x43.2 x45.2).bind fun x48 => some x48 else some false).bind fun x47 => (if x47 = true then (disk_Disk_Sync x45.2).bind fun x50 => some (decide (x50.1 = 0), x50.2) else some (false, x45.2)).bind fun x49 => (if x49.1 = true then (law05_awake).bind fun x52 => some x52 else some false).bind fun x51 => some x51
theorem fuse_end {N : Nat} {z : DiskDisk} (h : Inv N z) (hN : N ≤ 8000) (uz : z.down = false) (k t : Int) : fuseEnd (12, (crashT z k t).2) (crashT z k t) = some true := by
  unfold fuseEnd
  have hc := h.crash k t
  rw [crash_up uz] at hc ⊢
  have hs : Inv (N + 1) ⟨z.capacity, z.made, false, [crashP z k t], [], ⟨0, 0, 0⟩⟩ := hc.fuse (f := ⟨0, 0, 0⟩) ⟨by decide, by decide⟩ false
  rw [if_pos rfl, down_eq hc, Option.bind_some, Option.bind_some, if_pos rfl, start_eq hc]
  simp only [startT, if_true, Option.bind_some, decide_true]
  rw [alike_same hs hs (by omega) (by omega) rfl rfl rfl, Option.bind_some, Option.bind_some, if_pos rfl, sync_eq hs (by omega), sync0 (d := ⟨z.capacity, z.made, false, [crashP z k t], [], ⟨0, 0, 0⟩⟩) rfl rfl]
  simp [awake_true]
theorem fuse_step (a2 : List Law05Call) (a4 a5 : Int) (kj : DiskDisk → DiskDisk → Option Bool) (J k : Nat) (n : Int) (x y : DiskDisk) (cl : Law05Call) (ek : a2[k]? = some cl) (hk : k ≤ 300) (hd : 0 ≤ cl.Do ∧ cl.Do ≤ 4) : law05_DiskFuse_l2 a2 a4 a5 kj (J + 1) n (k : Int) x y =
    (disk_Disk_Copy y).bind fun x29 => (law05_call x cl).bind fun x32 => (law05_call y cl).bind fun x33 => jn (fun (x35 : Int) => if 0 < x35 then (if x32.1 ≠ x33.1 then some true else (law05_alike x33.2 x32.2).bind fun x37 => some (!x37)).bind fun x36 => if x36 = true then some false else law05_DiskFuse_l2 a2 a4 a5 kj J x35 ((k + 1 : Nat) : Int) x32.2 x33.2 else if cl.Do = 4 then (x29).bind fun x39 => (disk_Disk_Crash x39 a4 a5).bind fun x40 => fuseEnd x32 x40 else (disk_Disk_Crash x33.2 a4 a5).bind fun x53 => fuseEnd x32 x53) (fun (kj34 : Int → Option Bool) => if x33.1 = 0 then kj34 (i64 (n - 1)) else kj34 n) := by
  have hlt := (List.getElem?_eq_some_iff.1 ek).1
  rw [law05_DiskFuse_l2, if_pos (by omega), geti_nat, ek, Option.bind_some, if_neg (by omega), Option.bind_some, Option.bind_some, if_neg (by simp; omega), i64_id (p := (k : Int) + 1) (by omega) (by omega), show (k : Int) + 1 = ((k + 1 : Nat) : Int) by omega]
  rfl
theorem fuse_skip (a2 : List Law05Call) (a4 a5 : Int) (kj : DiskDisk → DiskDisk → Option Bool) (J k : Nat) (n : Int) (x y : DiskDisk) (cl : Law05Call) (ek : a2[k]? = some cl) (hk : k ≤ 300) (hd : ¬ (0 ≤ cl.Do ∧ cl.Do ≤ 4)) : law05_DiskFuse_l2 a2 a4 a5 kj (J + 1) n (k : Int) x y = law05_DiskFuse_l2 a2 a4 a5 kj J n ((k + 1 : Nat) : Int) x y := by
  have hlt := (List.getElem?_eq_some_iff.1 ek).1
  rw [law05_DiskFuse_l2, if_pos (by omega), geti_nat, ek, Option.bind_some, i64_id (p := (k : Int) + 1) (by omega) (by omega), show (k : Int) + 1 = ((k + 1 : Nat) : Int) by omega]
  by_cases c : cl.Do < 0
  · rw [if_pos c, Option.bind_some, if_pos rfl]
  · rw [if_neg c, Option.bind_some, Option.bind_some, if_pos (by simp; omega)]
/-- What a call does to a disk with a fuse, and to its copy without one. -/
theorem fuse_call {N : Nat} {y : DiskDisk} (h : Inv N y) (uy : y.down = false) (fy : y.fuse.n = 0) {cl : Law05Call} (hd : 0 ≤ cl.Do ∧ cl.Do ≤ 4) {n k t : Int} (hn : 1 ≤ n) :
    (∃ e, e ≠ 0 ∧ callT y cl = (e, y) ∧ callT (withF y ⟨n, k, t⟩) cl = (e, withF y ⟨n, k, t⟩)) ∨
    (∃ z, Inv (N + 2) z ∧ z.down = false ∧ z.fuse.n = 0 ∧ callT y cl = (0, z) ∧ (2 ≤ n → callT (withF y ⟨n, k, t⟩) cl = (0, withF z ⟨n - 1, k, t⟩)) ∧ (n = 1 → callT (withF y ⟨n, k, t⟩) cl = (12, (crashT (if cl.Do = 4 then y else z) k t).2))) := by
  by_cases c4 : cl.Do = 4
  · refine .inr ⟨onlyD y (lastP y), ?_, uy, fy, ?_, ?_, ?_⟩
    · exact (h.one (p := lastP y) y.down y.fuse h.lrise (h.tot _ h.last.2) (by have := h.plen _ h.last.2; omega) (h.nms _ h.last.2) ⟨h.f0, h.f1⟩).mono (by omega)
    · unfold callT
      simp only [c4]
      rw [if_neg (by decide), if_neg (by decide), if_neg (by decide), if_neg (by decide), if_pos trivial]
      exact sync0 uy fy
    · intro h2
      unfold callT
      simp only [c4]
      rw [if_neg (by decide), if_neg (by decide), if_neg (by decide), if_neg (by decide), if_pos trivial]
      unfold syncT
      rw [if_neg (show ¬ (withF y ⟨n, k, t⟩).down = true by show ¬ y.down = true; rw [uy]; decide), burn_many h2, if_pos rfl]
      rfl
    · intro h1
      subst h1
      unfold callT
      simp only [c4]
      rw [if_neg (by decide), if_neg (by decide), if_neg (by decide), if_neg (by decide), if_pos trivial]
      unfold syncT
      rw [if_neg (show ¬ (withF y ⟨1, k, t⟩).down = true by show ¬ y.down = true; rw [uy]; decide), burn_one uy, if_neg (show ¬ (12 : Int) = 0 by decide)]
      rfl
  · have e1 := call_plan uy hd.1 (show cl.Do ≤ 3 by omega)
    have e2 := call_plan (d := withF y ⟨n, k, t⟩) uy hd.1 (show cl.Do ≤ 3 by omega)
    have e3 : plan (withF y ⟨n, k, t⟩).capacity (lastP (withF y ⟨n, k, t⟩)) cl = plan y.capacity (lastP y) cl := rfl
    rw [e3] at e2
    rw [e1, e2]
    simp only [if_neg c4]
    have hok : ∀ dc, (plan y.capacity (lastP y) cl).2 = some dc → _ := fun dc hdc => plan_ok hdc
    generalize plan y.capacity (lastP y) cl = q at hok
    obtain ⟨e, o⟩ := q
    cases o with
    | none =>
      by_cases c : e = 0
      · subst c
        refine .inr ⟨y, h.mono (by omega), uy, fy, ?_, fun h2 => ?_, fun h1 => ?_⟩
        · unfold doPlan; simp only [if_true]; exact burn0 fy
        · unfold doPlan; simp only [if_true]; exact burn_many h2
        · subst h1; unfold doPlan; simp only [if_true]; exact burn_one uy
      · refine .inl ⟨e, c, ?_, ?_⟩
        · unfold doPlan; simp only; rw [if_neg c]
        · unfold doPlan; simp only; rw [if_neg c]
    | some dc =>
      obtain ⟨k1, k2, k3⟩ := hok dc rfl
      have hg := h.grown (c := dc) k2 k3
      have ug : (grown y dc).down = false := uy
      have fg : (grown y dc).fuse.n = 0 := fy
      refine .inr ⟨grown y dc, hg.mono (by omega), ug, fg, ?_, fun h2 => ?_, fun h1 => ?_⟩
      · exact burn0 fg
      · exact burn_many (z := grown y dc) h2
      · subst h1; exact burn_one (z := grown y dc) ug
theorem fuse_run {l : List Law05Call} (hl : l.length ≤ 300) (ho : ∀ x ∈ l, x.Bytes.length ≤ 40000 ∧ x.K ≤ 9223372036854775807) (a4 a5 : Int) (kj : DiskDisk → DiskDisk → Option Bool) (hk : ∀ x y, kj x y = some true) :
    ∀ (J k : Nat) (n : Int) (y : DiskDisk), k ≤ l.length → l.length - k < J → Inv (600 + 2 * k) y → y.down = false → y.fuse.n = 0 → 1 ≤ n → n ≤ 9223372036854775807 → law05_DiskFuse_l2 l a4 a5 kj J n (k : Int) (withF y ⟨n, a4, a5⟩) y = some true
  | 0, k, n, y, h1, h2, h, uy, fy, n1, n2 => by omega
  | J + 1, k, n, y, h1, h2, h, uy, fy, n1, n2 => by
    by_cases c : k < l.length
    · have ek := List.getElem?_eq_getElem c
      obtain ⟨b1, b2⟩ := ho _ (List.getElem_mem c)
      generalize l[k] = cl at ek b1 b2
      by_cases hd : 0 ≤ cl.Do ∧ cl.Do ≤ 4
      · have hx : Inv (600 + 2 * k) (withF y ⟨n, a4, a5⟩) := h.fuse (f := ⟨n, a4, a5⟩) ⟨by simp only; omega, n2⟩ y.down
        rw [fuse_step l a4 a5 kj J k n _ y cl ek (by omega) hd, Copy_eq h (by omega), Option.bind_some, call_eq hx (by omega) cl (by omega), Option.bind_some, call_eq h (by omega) cl (by omega), Option.bind_some, jn_eq']
        rcases fuse_call h uy fy hd (k := a4) (t := a5) n1 with ⟨e, e0, e1, e2⟩ | ⟨z, iz, uz, fz, e1, e2, e3⟩
        · rw [e1, e2, if_neg e0]
          show (if 0 < n then _ else _) = _
          rw [if_pos (show 0 < n by omega), if_neg (fun h => h rfl), alike_same h hx (by omega) (by omega) uy uy rfl, Option.bind_some, Option.bind_some, if_neg (by decide)]
          exact fuse_run hl ho a4 a5 kj hk J (k + 1) n y (by omega) (by omega) (h.mono (by omega)) uy fy n1 n2
        · rw [e1, if_pos rfl, i64_id (by omega) (by omega)]
          show (if 0 < n - 1 then _ else _) = _
          by_cases c2 : 2 ≤ n
          · have hz : Inv (600 + 2 * k + 2) (withF z ⟨n - 1, a4, a5⟩) := iz.fuse (f := ⟨n - 1, a4, a5⟩) ⟨by simp only; omega, by simp only; omega⟩ z.down
            rw [e2 c2, if_pos (show 0 < n - 1 by omega), if_neg (fun h => h rfl), alike_same iz hz (by omega) (by omega) uz uz rfl, Option.bind_some, Option.bind_some, if_neg (by decide)]
            exact fuse_run hl ho a4 a5 kj hk J (k + 1) (n - 1) z (by omega) (by omega) (by rw [show 600 + 2 * (k + 1) = 600 + 2 * k + 2 by omega]; exact iz) uz fz (by omega) (by omega)
          · have hn : n = 1 := by omega
            rw [e3 hn, if_neg (show ¬ 0 < n - 1 by omega)]
            by_cases c4 : cl.Do = 4
            · rw [if_pos c4, if_pos c4, Option.bind_some, crash_eq h (by omega), Option.bind_some]
              exact fuse_end h (by omega) uy a4 a5
            · rw [if_neg c4, if_neg c4, crash_eq iz (by omega), Option.bind_some]
              exact fuse_end iz (by omega) uz a4 a5
      · rw [fuse_skip l a4 a5 kj J k n _ y cl ek (by omega) hd]
        exact fuse_run hl ho a4 a5 kj hk J (k + 1) n y (by omega) (by omega) (h.mono (by omega)) uy fy n1 n2
    · rw [law05_DiskFuse_l2, if_neg (by omega)]
      exact hk _ _
theorem DiskFuse_pure (a : Int) (l m : List Law05Call) (n k t : Int) (hl : l.length ≤ 140737488351232) (ho : ∀ x ∈ l, okC x ∧ x.K ≤ 9223372036854775807) (hl2 : m.length ≤ 140737488351232) (ho2 : ∀ x ∈ m, okC x ∧ x.K ≤ 9223372036854775807) (hn : n ≤ 9223372036854775807) : law05_DiskFuse a l m n k t = some true := by
  unfold law05_DiskFuse
  by_cases c : a < 0 ∨ 65536 < a
  · rw [New_bad c, Option.bind_some, if_pos (show (1 : Int) ≠ 0 by decide), Option.bind_some, if_pos rfl, Option.bind_some, if_pos (.inl rfl), awake_true]; rfl
  · obtain ⟨v, e, hv⟩ := many_ok hl fun x hx => (ho x hx).1
    obtain ⟨v2, e2, hv2⟩ := many_ok hl2 fun x hx => (ho2 x hx).1
    rw [New_good c, Option.bind_some, if_neg (show ¬ (0 : Int) ≠ 0 by decide), e, Option.bind_some, Option.bind_some]
    cases v with
    | true => rw [if_pos rfl, Option.bind_some, if_pos (.inl rfl), awake_true]; rfl
    | false =>
      rw [if_neg (by decide), e2, Option.bind_some, Option.bind_some]
      by_cases c2 : v2 = true ∨ n < 1
      · rw [if_pos c2, awake_true]; rfl
      · have hvf : v2 = false := by cases v2 with | false => rfl | true => exact absurd (.inl rfl) c2
        obtain ⟨h1, h2⟩ := hv rfl
        obtain ⟨h3, h4⟩ := hv2 hvf
        have hFU := FU_big
        rw [if_neg c2, Option.bind_some, jn_eq', fuse_l1_eq]
        refine tornl1 h1 (fun x hx => ⟨h2 x hx, (ho x hx).2⟩) a _ ?_ FU 0 _ (by omega) (by omega) (new_inv c) rfl rfl
        intro x hx hf hcap
        have hd := hx.start
        have ud := start_up x
        have fd : (startT x).2.fuse.n = 0 := by rw [start_fuse]; exact hf
        rw [start_eq hx, Option.bind_some]
        generalize (startT x).2 = d at hd ud fd
        rw [Copy_eq hd (by omega), Option.bind_some, fuse_eq hd, Option.bind_some]
        have ef : fuseT d n k t = (0, withF d ⟨n, k, t⟩) := by
          unfold fuseT
          rw [if_neg (show ¬ d.down = true by rw [ud]; decide), if_neg (show ¬ n < 0 by omega)]
          rfl
        rw [ef, if_neg (show ¬ (0 : Int) ≠ 0 by decide), Option.bind_some, jn_eq']
        exact fuse_run h3 (fun x hx => ⟨h4 x hx, (ho2 x hx).2⟩) k t _ (fun x y => by rw [awake_true]; rfl) FU 0 n d (by omega) (by omega) hd ud fd (by omega) hn
end Go.Proofs
