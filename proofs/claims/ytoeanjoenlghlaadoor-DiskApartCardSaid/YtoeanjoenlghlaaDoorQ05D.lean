import Derived.Test.YtoeanjoenlghlaaDoorQ05C
set_option linter.unusedVariables false
set_option linter.unusedSimpArgs false
namespace Go.Proofs
open Go.Fw
/-! The disk, in plain functions. -/
def lastP (d : DiskDisk) : Pic := (d.pictures[d.calls.length]?).getD []
def nameOk (n : List UInt8) : Bool := decide (n ≠ []) && decide (n.length ≤ 16) && n.all (nameSet.contains ·)
def torn (c : DiskCall) (t : Int) (p : Pic) : Pic :=
  match c with
  | .adding x => if 0 < t then nextP (.adding ⟨⟨x.file.name, x.file.b.take t.toNat⟩⟩) p else p
  | _ => p
def tornC (c : Option DiskCall) (t : Int) (p : Pic) : Pic := match c with | none => p | some c => match c with | .adding x => if 0 < t ∧ x.file.b ≠ [] then torn (.adding x) t p else p | _ => p
def keptAt (d : DiskDisk) (k : Int) : Nat := (min (max k 0) (d.calls.length : Int)).toNat
def crashP (d : DiskDisk) (k t : Int) : Pic := tornC d.calls[keptAt d k]? t ((d.pictures[keptAt d k]?).getD [])
def crashT (d : DiskDisk) (k t : Int) : Int × DiskDisk := if d.down = true then (12, d) else (0, ⟨d.capacity, d.made, true, [crashP d k t], [], ⟨0, 0, 0⟩⟩)
def burnT (d : DiskDisk) : Int × DiskDisk := if d.fuse.n = 0 then (0, d) else if d.fuse.n = 1 then (12, (crashT d d.fuse.keep d.fuse.torn).2) else (0, ⟨d.capacity, d.made, d.down, d.pictures, d.calls, ⟨d.fuse.n - 1, d.fuse.keep, d.fuse.torn⟩⟩)
def grown (d : DiskDisk) (c : DiskCall) : DiskDisk := ⟨d.capacity, d.made, d.down, d.pictures ++ [nextP c (lastP d)], d.calls ++ [c], d.fuse⟩
def doesT (d : DiskDisk) (c : DiskCall) : Int × DiskDisk := if d.capacity < (total (nextP c (lastP d)) : Int) then (3, d) else burnT (grown d c)
def appendT (d : DiskDisk) (n b : List UInt8) : Int × DiskDisk := if d.down = true then (12, d) else if nameOk n = false then (1, d) else doesT d (.adding ⟨⟨n, b⟩⟩)
def putT (d : DiskDisk) (n b : List UInt8) : Int × DiskDisk := if d.down = true then (12, d) else if nameOk n = false then (1, d) else doesT d (.putting ⟨⟨n, b⟩⟩)
def renameT (d : DiskDisk) (a b : List UInt8) : Int × DiskDisk := if d.down = true then (12, d) else if (nameOk a && nameOk b) = false then (1, d) else if lk (lastP d) a = none then (4, d) else if a = b then burnT d else doesT d (.naming ⟨a, b⟩)
def removeT (d : DiskDisk) (a : List UInt8) : Int × DiskDisk := if d.down = true then (12, d) else if nameOk a = false then (1, d) else if lk (lastP d) a = none then (4, d) else doesT d (.removing a)
def onlyD (d : DiskDisk) (p : Pic) : DiskDisk := ⟨d.capacity, d.made, d.down, [p], [], d.fuse⟩
def syncT (d : DiskDisk) : Int × DiskDisk := if d.down = true then (12, d) else if (burnT d).1 = 0 then (0, onlyD (burnT d).2 (lastP (burnT d).2)) else burnT d
def startT (d : DiskDisk) : Int × DiskDisk := if d.down = true then (0, ⟨d.capacity, d.made, false, d.pictures, d.calls, d.fuse⟩) else (5, d)
def fuseT (d : DiskDisk) (n k t : Int) : Int × DiskDisk := if d.down = true then (12, d) else if n < 0 then (1, d) else (0, ⟨d.capacity, d.made, d.down, d.pictures, d.calls, ⟨n, k, t⟩⟩)
def readT (d : DiskDisk) (n : List UInt8) : List UInt8 × Int := if d.down = true then ([], 12) else if nameOk n = false then ([], 1) else match lk (lastP d) n with | none => ([], 4) | some b => (b, 0)
def callT (d : DiskDisk) (c : Law05Call) : Int × DiskDisk :=
  if c.Do = 0 then appendT d c.A c.Bytes else if c.Do = 1 then putT d c.A c.Bytes else if c.Do = 2 then renameT d c.A c.B else if c.Do = 3 then removeT d c.A
  else if c.Do = 4 then syncT d else if c.Do = 5 then crashT d c.N c.M else if c.Do = 6 then startT d else if c.Do = 7 then fuseT d c.K c.N c.M else ((readT d c.A).2, d)
def cOk : DiskCall → Bool
  | .adding x => nameOk x.file.name
  | .putting x => nameOk x.file.name
  | .naming x => nameOk x.to_
  | .removing _ => true
/-- What is kept of the disk by all calls. -/
structure Inv (N : Nat) (d : DiskDisk) : Prop where
  made : d.made = true
  c0 : 0 ≤ d.capacity
  c1 : d.capacity ≤ 65536
  len : d.pictures.length = d.calls.length + 1
  cl : d.calls.length ≤ N
  rise : ∀ p ∈ d.pictures, Rise p
  plen : ∀ p ∈ d.pictures, p.length ≤ N
  tot : ∀ p ∈ d.pictures, (total p : Int) ≤ d.capacity
  f0 : 0 ≤ d.fuse.n
  f1 : d.fuse.n ≤ 9223372036854775807
  nam : ∀ c ∈ d.calls, cOk c = true
  nms : ∀ p ∈ d.pictures, ∀ f ∈ p, nameOk f.name = true
  step : ∀ i c p q, d.calls[i]? = some c → d.pictures[i]? = some p → d.pictures[i + 1]? = some q → q = nextP c p
theorem Inv.mono {N M : Nat} {d : DiskDisk} (h : Inv N d) (hM : N ≤ M) : Inv M d :=
  ⟨h.made, h.c0, h.c1, h.len, Nat.le_trans h.cl hM, h.rise, fun p hp => Nat.le_trans (h.plen p hp) hM, h.tot, h.f0, h.f1, h.nam, h.nms, h.step⟩
theorem Inv.at_ {N : Nat} {d : DiskDisk} (h : Inv N d) {k : Nat} (hk : k ≤ d.calls.length) : ∃ p, d.pictures[k]? = some p ∧ p ∈ d.pictures := by
  have : k < d.pictures.length := by rw [h.len]; omega
  exact ⟨d.pictures[k], List.getElem?_eq_getElem this, List.getElem_mem this⟩
theorem Inv.last {N : Nat} {d : DiskDisk} (h : Inv N d) : d.pictures[d.calls.length]? = some (lastP d) ∧ lastP d ∈ d.pictures := by
  obtain ⟨p, e, hp⟩ := h.at_ (Nat.le_refl _)
  unfold lastP
  rw [e]
  exact ⟨rfl, hp⟩
theorem Inv.lrise {N : Nat} {d : DiskDisk} (h : Inv N d) : Rise (lastP d) := h.rise _ h.last.2
theorem none_eq {N : Nat} {d : DiskDisk} (h : Inv N d) : disk_Disk_none d = some false := by unfold disk_Disk_none; rw [h.made]; rfl
theorem down_eq {N : Nat} {d : DiskDisk} (h : Inv N d) : disk_Disk_Down d = some d.down := by
  unfold disk_Disk_Down
  rw [none_eq h, Option.bind_some]
  simp
def seenT (d : DiskDisk) : Pic := if d.down = true then [] else lastP d
theorem seen_eq {N : Nat} {d : DiskDisk} (h : Inv N d) (hN : N ≤ 10000) : disk_Disk_seen d = some (seenT d) := by
  unfold disk_Disk_seen seenT
  rw [down_eq h, Option.bind_some]
  by_cases c : d.down = true
  · rw [if_pos c, if_pos c]
  · have := h.cl
    have hl := h.len
    rw [if_neg c, if_neg c, i64_id (by omega) (by omega), show (d.pictures.length : Int) - 1 = ((d.calls.length : Nat) : Int) by omega, geti_nat, h.last.1]
    rfl
theorem dw_nil : ∀ l : List UInt8, l.dropWhile (nameSet.contains ·) = [] ↔ ∀ x ∈ l, nameSet.contains x = true := fun l => by
  induction l with
  | nil => simp
  | cons y r ih =>
    rw [List.dropWhile_cons]
    by_cases c : nameSet.contains y = true
    · rw [if_pos c, ih]; simp only [List.mem_cons, forall_eq_or_imp]; exact ⟨fun h => ⟨c, h⟩, fun h => h.2⟩
    · rw [if_neg c]; simp only [List.mem_cons, forall_eq_or_imp]; exact ⟨fun h => (by cases h), fun h => absurd h.1 c⟩
theorem all_trim (n : List UInt8) : decide (Lib.trimS n nameSet = []) = n.all (nameSet.contains ·) := by
  have e : Lib.trimS n nameSet = [] ↔ ∀ x ∈ n, nameSet.contains x = true := by
    unfold Lib.trimS Lib.trimLeftS Lib.trimRightS
    constructor
    · intro h x hx
      have h2 := (dw_nil _).1 h
      by_cases c : (n.reverse.dropWhile (nameSet.contains ·)) = []
      · exact (dw_nil _).1 c x (List.mem_reverse.2 hx)
      · have h3 := List.head_dropWhile_not (nameSet.contains ·) c
        have h4 := h2 _ (List.mem_reverse.2 (List.head_mem c))
        rw [h4] at h3; cases h3
    · intro h
      have h1 : n.reverse.dropWhile (nameSet.contains ·) = [] := (dw_nil _).2 fun x hx => h x (List.mem_reverse.1 hx)
      rw [h1]; rfl
  rw [Bool.eq_iff_iff, decide_eq_true_iff, e, List.all_eq_true]
theorem name_eq (n : List UInt8) : disk_name n = some (nameOk n) := by
  unfold disk_name nameOk
  by_cases c : n ≠ ([] : List UInt8) ∧ (n.length : Int) ≤ 16
  · rw [if_pos c, if_pos (by omega), Option.bind_some, all_trim]
    have : n.length ≤ 16 := by omega
    simp [c.1, this]
  · rw [if_neg c, Option.bind_some]
    congr 1
    by_cases c1 : n = []
    · simp [c1]
    · have : ¬ n.length ≤ 16 := fun h => c ⟨c1, by omega⟩
      simp [this]
theorem first_run (l : List (List UInt8)) (kj : Unit → Option Int) (hl : l.length ≤ 1000) : ∀ (J k : Nat), k ≤ l.length → l.length - k < J → disk_Disk_first_l1 l kj J (k : Int) = if (l.drop k).all nameOk = true then kj () else some 1
  | 0, k, h1, h2 => by omega
  | J + 1, k, h1, h2 => by
    rw [disk_Disk_first_l1]
    by_cases c : k < l.length
    · rw [if_pos (by omega), geti_nat, List.getElem?_eq_getElem c, Option.bind_some, name_eq, Option.bind_some, List.drop_eq_getElem_cons c, List.all_cons]
      by_cases c2 : nameOk l[k] = true
      · rw [c2]
        simp only [Bool.not_true, Bool.false_eq_true, if_false, Bool.true_and]
        rw [i64_id (by omega) (by omega), show (k : Int) + 1 = ((k + 1 : Nat) : Int) by omega]
        exact first_run l kj hl J (k + 1) (by omega) (by omega)
      · have : nameOk l[k] = false := by simpa using c2
        rw [this]; simp
    · rw [if_neg (by omega), List.drop_eq_nil_of_le (by omega)]; simp
theorem first_eq {N : Nat} {d : DiskDisk} (h : Inv N d) (l : List (List UInt8)) (hl : l.length ≤ 1000) : disk_Disk_first d l = some (if d.down = true then 12 else if l.all nameOk = true then 0 else 1) := by
  unfold disk_Disk_first
  have hFU := FU_big
  rw [down_eq h, Option.bind_some, jn_eq', show (0 : Int) = ((0 : Nat) : Int) from rfl, first_run l _ hl FU 0 (by omega) (by omega), List.drop_zero]
  by_cases c : d.down = true
  · rw [if_pos c, if_pos c]
  · rw [if_neg c, if_neg c]; split <;> rfl
theorem lim_app {α : Type} {cap : Nat} (a b : List α) (h : a.length + b.length ≤ cap) : app cap a b = some (a ++ b) := by unfold app; rw [if_pos h]
theorem clone_eq (b : List UInt8) (h : b.length ≤ 1000000) : slices_Clone_byte_byte b = some b := by
  unfold slices_Clone_byte_byte
  rw [lim_app _ _ (by simp only [List.length_nil]; omega)]; rfl
theorem there_eq {N : Nat} {d : DiskDisk} (h : Inv N d) (hN : N ≤ 10000) (a b : List UInt8) : disk_Disk_there d a [b] = some (if d.down = true then 12 else if (nameOk a && nameOk b) = false then 1 else if lk (lastP d) a = none then 4 else 0) := by
  unfold disk_Disk_there
  rw [app_ok _ _ (by simp) (by decide), Option.bind_some, first_eq h _ (by simp), Option.bind_some]
  by_cases c : d.down = true
  · simp [c]
  · by_cases c1 : (nameOk a && nameOk b) = true
    · have c2 : nameOk a = true ∧ nameOk b = true := by simpa using c1
      have hs := seen_eq h hN
      rw [show seenT d = lastP d by unfold seenT; rw [if_neg c]] at hs
      have hp := h.plen _ h.last.2
      rw [hs]
      simp only [c, c1, c2.1, c2.2, Bool.false_eq_true, if_false, List.singleton_append, List.all_cons, List.all_nil, Bool.and_true, Bool.true_and, if_true]
      rw [if_neg (by decide), Option.bind_some, find_eq h.lrise (by omega), Option.bind_some]
      cases lk (lastP d) a <;> simp
    · have c3 : ¬ ([b] ++ [a]).all nameOk = true := by
        intro e
        apply c1
        simp at e
        simp [e.1, e.2]
      have c4 : (nameOk a && nameOk b) = false := by simpa using c1
      rw [if_neg c, if_neg c3, if_neg c, if_pos c4]
      simp
theorem there1_eq {N : Nat} {d : DiskDisk} (h : Inv N d) (hN : N ≤ 10000) (a : List UInt8) : disk_Disk_there_nl d a = some (if d.down = true then 12 else if nameOk a = false then 1 else if lk (lastP d) a = none then 4 else 0) := by
  unfold disk_Disk_there_nl
  rw [app_ok _ _ (by simp) (by decide), Option.bind_some, first_eq h _ (by simp), Option.bind_some]
  by_cases c : d.down = true
  · simp [c]
  · by_cases c1 : nameOk a = true
    · have hs := seen_eq h hN
      rw [show seenT d = lastP d by unfold seenT; rw [if_neg c]] at hs
      have hp := h.plen _ h.last.2
      rw [hs]
      simp only [c, c1, Bool.false_eq_true, if_false, List.nil_append, List.all_cons, List.all_nil, Bool.and_true, Bool.true_and, if_true, Bool.true_eq_false]
      rw [if_neg (by decide), Option.bind_some, find_eq h.lrise (by omega), Option.bind_some]
      cases lk (lastP d) a <;> simp
    · have c4 : nameOk a = false := by simpa using c1
      rw [if_neg c, if_neg c, if_pos c4]
      simp [c4]
theorem app_lim {α : Type} {cap : Nat} (a b : List α) (h : a.length + b.length ≤ 1000000) (hc : 1000000 ≤ cap) : app cap a b = some (a ++ b) := app_ok a b h hc
theorem kept_le (d : DiskDisk) (k : Int) : keptAt d k ≤ d.calls.length := by unfold keptAt; omega
theorem kept_int (d : DiskDisk) (k : Int) : min (max k 0) (d.calls.length : Int) = ((keptAt d k : Nat) : Int) := by unfold keptAt; omega
theorem Inv.cbytes {N : Nat} {d : DiskDisk} (h : Inv N d) {x : DiskAdding} {k : Nat} (hx : d.calls[k]? = some (.adding x)) : x.file.b.length ≤ 65536 := by
  have hk := (List.getElem?_eq_some_iff.1 hx).1
  obtain ⟨p, e, hp⟩ := h.at_ (k := k) (by omega)
  obtain ⟨q, e2, hq⟩ := h.at_ (k := k + 1) (by omega)
  have e3 := h.step k _ p q hx e e2
  have h1 := h.tot q hq
  have h2 := h.c1
  have h3 := total_wi (h.rise p hp) x.file.name (get p x.file.name ++ x.file.b)
  rw [List.length_append] at h3
  simp only [nextP] at e3
  rw [e3] at h1
  have h4 := get_le (h.rise p hp) x.file.name
  omega
theorem torn_eq (x : DiskAdding) (t : Int) (ht : 0 < t) : disk_adding_torn x t = some (.adding ⟨⟨x.file.name, x.file.b.take t.toNat⟩⟩) := by
  unfold disk_adding_torn
  rw [show min t (x.file.b.length : Int) = ((min t.toNat x.file.b.length : Nat) : Int) by omega, subl_head _ _ (by omega), Option.bind_some]
  congr 4
  rw [List.take_eq_take_iff]; omega
theorem crash_eq {N : Nat} {d : DiskDisk} (h : Inv N d) (hN : N ≤ 10000) (k t : Int) : disk_Disk_Crash d k t = some (crashT d k t) := by
  unfold disk_Disk_Crash crashT
  rw [down_eq h, Option.bind_some]
  by_cases c : d.down = true
  · rw [if_pos c, if_pos c]
  · rw [if_neg c, if_neg c, kept_int, geti_nat]
    obtain ⟨p, e, hp⟩ := h.at_ (kept_le d k)
    rw [e, Option.bind_some, jn_eq']
    unfold crashP
    rw [e, Option.getD_some]
    have hpl := h.plen p hp
    have hpt := h.tot p hp
    have hc := h.c1
    by_cases c2 : keptAt d k < d.calls.length
    · have e2 := List.getElem?_eq_getElem c2
      rw [if_pos (by omega), geti_nat, e2, Option.bind_some]
      cases e3 : d.calls[keptAt d k] with
      | adding x =>
        rw [e3] at e2
        have hb := h.cbytes e2
        simp only [DiskCall.as_adding, oc, tornC]
        by_cases c3 : 0 < t ∧ 0 < (x.file.b.length : Int)
        · have c4 : 0 < t ∧ x.file.b ≠ [] := ⟨c3.1, fun e => by have := c3.2; rw [e] at this; simp at this⟩
          rw [if_pos c3, if_pos c4, torn_eq x t c3.1, Option.bind_some, next_eq (h.rise p hp) (by omega) (by omega) (by simp only [cBytes]; rw [List.length_take]; omega), Option.bind_some]
          simp [torn, c3.1, disk_Disk_only]
        · have c4 : ¬ (0 < t ∧ x.file.b ≠ []) := fun h => c3 ⟨h.1, by have := List.length_pos_iff.2 h.2; omega⟩
          rw [if_neg c3, if_neg c4]
          simp [disk_Disk_only]
      | naming x => simp [DiskCall.as_adding, oc, disk_Disk_only, tornC]
      | putting x => simp [DiskCall.as_adding, oc, disk_Disk_only, tornC]
      | removing x => simp [DiskCall.as_adding, oc, disk_Disk_only, tornC]
    · have e2 : d.calls[keptAt d k]? = none := List.getElem?_eq_none (by omega)
      rw [if_neg (by omega), e2]
      simp [disk_Disk_only, tornC]
theorem burn_eq {N : Nat} {d : DiskDisk} (h : Inv N d) (hN : N ≤ 10000) : disk_Disk_burn d = some (burnT d) := by
  unfold disk_Disk_burn burnT
  have h0 := h.f0
  have h1 := h.f1
  by_cases c : d.fuse.n = 0
  · rw [if_pos c, if_pos c]
  · rw [if_neg c, if_neg c]
    by_cases c2 : d.fuse.n = 1
    · rw [if_pos c2, if_pos c2, crash_eq h hN, Option.bind_some]
    · rw [if_neg c2, if_neg c2, i64_id (by omega) (by omega)]
end Go.Proofs
