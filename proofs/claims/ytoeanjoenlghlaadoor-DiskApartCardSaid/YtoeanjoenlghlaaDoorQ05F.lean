import Derived.Test.YtoeanjoenlghlaaDoorQ05E
set_option linter.unusedVariables false
set_option linter.unusedSimpArgs false
namespace Go.Proofs
open Go.Fw
theorem names_eq {N : Nat} {d : DiskDisk} (h : Inv N d) (hN : N ≤ 9000) : disk_Disk_Names d = some (names (seenT d)) := by
  unfold disk_Disk_Names
  rw [seen_eq h (by omega), Option.bind_some, disk_picture_sizes, Option.bind_some]
  refine names_run ?_
  unfold seenT
  split
  · simp
  · have := h.plen _ h.last.2; omega
theorem seen_total {N : Nat} {d : DiskDisk} (h : Inv N d) : (total (seenT d) : Int) ≤ d.capacity := by
  unfold seenT
  split
  · exact h.c0
  · exact h.tot _ h.last.2
theorem seen_len {N : Nat} {d : DiskDisk} (h : Inv N d) : (seenT d).length ≤ N := by
  unfold seenT
  split
  · simp
  · exact h.plen _ h.last.2
theorem seen_rise {N : Nat} {d : DiskDisk} (h : Inv N d) : Rise (seenT d) := by
  unfold seenT
  split
  · exact List.Pairwise.nil
  · exact h.lrise
theorem up_seen {d : DiskDisk} (h : d.down = false) : seenT d = lastP d := by unfold seenT; rw [if_neg (by rw [h]; decide)]
theorem Bytes_eq {N : Nat} {d : DiskDisk} (h : Inv N d) (hN : N ≤ 9000) : disk_Disk_Bytes d = some (total (seenT d) : Int) := by
  unfold disk_Disk_Bytes
  have h1 := seen_total h
  have h2 := seen_len h
  have h3 := h.c1
  rw [seen_eq h (by omega), Option.bind_some, size_eq (by omega) (by omega)]; rfl
theorem Size_eq {N : Nat} {d : DiskDisk} (h : Inv N d) (hN : N ≤ 9000) (n : List UInt8) : disk_Disk_Size d n = some ((get (seenT d) n).length : Int) := by
  unfold disk_Disk_Size
  have h2 := seen_len h
  rw [seen_eq h (by omega), Option.bind_some, bytes_eq (seen_rise h) (by omega)]; rfl
theorem Waits_eq {N : Nat} {d : DiskDisk} (h : Inv N d) : disk_Disk_Waits d = some (if d.down = true then 0 else (d.calls.length : Int)) := by
  unfold disk_Disk_Waits
  rw [down_eq h, Option.bind_some]; split <;> rfl
theorem Capacity_eq {N : Nat} {d : DiskDisk} (h : Inv N d) : disk_Disk_Capacity d = some d.capacity := by
  unfold disk_Disk_Capacity
  rw [none_eq h, Option.bind_some]; rfl
theorem Copy_eq {N : Nat} {d : DiskDisk} (h : Inv N d) (hN : N ≤ 9000) : disk_Disk_Copy d = some (some d) := by
  unfold disk_Disk_Copy slices_Clone_disk_picture_disk_picture slices_Clone_disk_call_disk_call
  have h1 := h.len
  have h2 := h.cl
  rw [none_eq h, Option.bind_some, if_neg (by decide), app_ok _ _ (by simp; omega) (by decide), Option.bind_some, Option.bind_some, app_ok _ _ (by simp; omega) (by decide)]
  rfl
theorem New_bad {a : Int} (h : a < 0 ∨ 65536 < a) : disk_New a = some (none, 1) := by unfold disk_New; rw [if_pos h]
def newD (a : Int) : DiskDisk := ⟨a, true, false, [[]], [], ⟨0, 0, 0⟩⟩
theorem New_good {a : Int} (h : ¬ (a < 0 ∨ 65536 < a)) : disk_New a = some (some (newD a), 0) := by unfold disk_New; rw [if_neg h]; rfl
theorem new_inv {a : Int} (h : ¬ (a < 0 ∨ 65536 < a)) : Inv 0 (newD a) := by
  refine ⟨rfl, by simp only [newD]; omega, by simp only [newD]; omega, rfl, by simp [newD], ?_, ?_, ?_, by simp [newD], by simp [newD], ?_, ?_, ?_⟩
  · intro p hp; rw [List.mem_singleton.1 hp]; exact List.Pairwise.nil
  · intro p hp; rw [List.mem_singleton.1 hp]; simp
  · intro p hp; rw [List.mem_singleton.1 hp]; simp only [newD, total, List.map_nil, List.sum_nil]; omega
  · intro c hc; cases hc
  · intro p hp; rw [List.mem_singleton.1 hp]; intro f hf; cases hf
  · intro i c p q e; simp [newD] at e
theorem read_same {d e : DiskDisk} (hd : d.down = e.down) (hp : lastP d = lastP e) (n : List UInt8) : readT d n = readT e n := by
  unfold readT; rw [hd, hp]
theorem alike_run {N M : Nat} {d e : DiskDisk} (h : Inv N d) (h' : Inv M e) (hN : N ≤ 9000) (hM : M ≤ 9000) (hd : d.down = e.down) (hp : lastP d = lastP e) {l : List (List UInt8)} (hl : l.length ≤ 100000) (v : Bool) :
    ∀ (J k : Nat), k ≤ l.length → l.length - k < J → law05_alike_l1 l d e l (fun _ => some v) J (k : Int) = some v
  | 0, k, h1, h2 => by omega
  | J + 1, k, h1, h2 => by
    rw [law05_alike_l1]
    by_cases c : k < l.length
    · rw [if_pos (by omega), geti_nat, List.getElem?_eq_getElem c, Option.bind_some, read_eq h hN, Option.bind_some, Option.bind_some, read_eq h' hM, Option.bind_some, Option.bind_some, Option.bind_some, if_neg (by simp), read_same hd hp, if_neg (by simp), i64_id (by omega) (by omega), show (k : Int) + 1 = ((k + 1 : Nat) : Int) by omega]
      exact alike_run h h' hN hM hd hp hl v J (k + 1) (by omega) (by omega)
    · rw [if_neg (by omega)]
theorem alike_same {N M : Nat} {d e : DiskDisk} (h : Inv N d) (h' : Inv M e) (hN : N ≤ 9000) (hM : M ≤ 9000) (hd : d.down = false) (he : e.down = false) (hp : lastP d = lastP e) : law05_alike d e = some true := by
  unfold law05_alike
  have hFU := FU_big
  have hl := seen_len h
  rw [names_eq h hN, Option.bind_some, names_eq h' hM, Option.bind_some, down_eq h, down_eq h', hd, he, up_seen hd, up_seen he, ← hp]
  rw [up_seen hd] at hl
  simp only [ne_eq, not_true, if_false, Option.bind_some, Bool.false_eq_true]
  rw [jn_eq']
  have hn : (names (lastP d)).length ≤ 100000 := by simp [names]; omega
  exact alike_run h h' hN hM (by rw [hd, he]) hp hn true FU 0 (by omega) (by omega)
/-! The bound of the calls. -/
def okC (x : Law05Call) : Prop := x.A.length ≤ 140737488351232 ∧ x.B.length ≤ 140737488351232 ∧ x.Bytes.length ≤ 140737488351232
theorem many_run {l : List Law05Call} (hl : l.length ≤ 140737488351232) (ho : ∀ x ∈ l, okC x) : ∀ (J : Nat) (n i : Int), 0 ≤ i → i ≤ n → n ≤ 300 → i ≤ l.length → 301 - i < J →
    ∃ v, law05_many_l1 l (fun _ => some false) J n i = some v ∧ (v = false → l.length ≤ 300 ∧ ∀ (k : Nat) x, i ≤ k → l[k]? = some x → x.Bytes.length ≤ 40000)
  | 0, n, i, h0, h1, h2, h3, h4 => by omega
  | J + 1, n, i, h0, h1, h2, h3, h4 => by
    rw [law05_many_l1]
    by_cases c : i < (l.length : Int)
    · obtain ⟨x, e, hx, ex⟩ := geti_at h0 c
      obtain ⟨b1, b2, b3⟩ := ho x hx
      rw [if_pos c, e, Option.bind_some, Option.bind_some, Option.bind_some, i64_id (p := i + 1) (by omega) (by omega)]
      rw [Int.tdiv_eq_ediv_of_nonneg (by omega), i64_id (p := (x.A.length : Int) + x.B.length) (by omega) (by omega), Int.tdiv_eq_ediv_of_nonneg (by omega)]
      rw [i64_id (p := (x.Bytes.length : Int) / 100) (by omega) (by omega), i64_id (p := 1 + (x.Bytes.length : Int) / 100) (by omega) (by omega), i64_id (p := ((x.A.length : Int) + x.B.length) / 100) (by omega) (by omega), i64_id (p := (1 + (x.Bytes.length : Int) / 100) + (((x.A.length : Int) + x.B.length) / 100)) (by omega) (by omega), i64_id (p := n + ((1 + (x.Bytes.length : Int) / 100) + (((x.A.length : Int) + x.B.length) / 100))) (by omega) (by omega)]
      by_cases c2 : 300 < n + (1 + (x.Bytes.length : Int) / 100 + ((x.A.length : Int) + x.B.length) / 100)
      · rw [if_pos c2]
        exact ⟨true, rfl, fun h => by cases h⟩
      · rw [if_neg c2]
        obtain ⟨v, e1, e2⟩ := many_run hl ho J (n + (1 + (x.Bytes.length : Int) / 100 + ((x.A.length : Int) + x.B.length) / 100)) (i + 1) (by omega) (by omega) (by omega) (by omega) (by omega)
        refine ⟨v, e1, fun h => ?_⟩
        obtain ⟨e3, e4⟩ := e2 h
        refine ⟨e3, fun k y hk hy => ?_⟩
        by_cases c3 : i + 1 ≤ k
        · exact e4 k y c3 hy
        · have : i.toNat = k := by omega
          rw [this] at ex
          rw [ex] at hy
          cases hy
          omega
    · rw [if_neg c]
      exact ⟨false, rfl, fun _ => ⟨by omega, fun k x hk hx => by have := (List.getElem?_eq_some_iff.1 hx).1; omega⟩⟩
theorem many_ok {l : List Law05Call} (hl : l.length ≤ 140737488351232) (ho : ∀ x ∈ l, okC x) : ∃ v, law05_many l = some v ∧ (v = false → l.length ≤ 300 ∧ ∀ x ∈ l, x.Bytes.length ≤ 40000) := by
  unfold law05_many
  have hFU := FU_big
  rw [jn_eq']
  obtain ⟨v, e, h⟩ := many_run hl ho FU 0 0 (by omega) (by omega) (by omega) (by omega) (by omega)
  refine ⟨v, e, fun hv => ?_⟩
  obtain ⟨h1, h2⟩ := h hv
  refine ⟨h1, fun x hx => ?_⟩
  obtain ⟨k, hk⟩ := List.mem_iff_getElem?.1 hx
  exact h2 k x (by omega) hk
/-! What a call that makes a picture does, by what the disk shows. -/
def planD (cap : Int) (P : Pic) (dc : DiskCall) : Int × Option DiskCall := if cap < (total (nextP dc P) : Int) then (3, none) else (0, some dc)
def plan (cap : Int) (P : Pic) (c : Law05Call) : Int × Option DiskCall :=
  if c.Do = 0 then if nameOk c.A = false then (1, none) else planD cap P (.adding ⟨⟨c.A, c.Bytes⟩⟩)
  else if c.Do = 1 then if nameOk c.A = false then (1, none) else planD cap P (.putting ⟨⟨c.A, c.Bytes⟩⟩)
  else if c.Do = 2 then if (nameOk c.A && nameOk c.B) = false then (1, none) else if lk P c.A = none then (4, none) else if c.A = c.B then (0, none) else planD cap P (.naming ⟨c.A, c.B⟩)
  else if nameOk c.A = false then (1, none) else if lk P c.A = none then (4, none) else planD cap P (.removing c.A)
def doPlan (d : DiskDisk) (q : Int × Option DiskCall) : Int × DiskDisk := match q.2 with
  | none => if q.1 = 0 then burnT d else (q.1, d)
  | some dc => burnT (grown d dc)
theorem does_plan (d : DiskDisk) (dc : DiskCall) : doesT d dc = doPlan d (planD d.capacity (lastP d) dc) := by
  unfold doesT planD doPlan
  split <;> simp
theorem call_plan {d : DiskDisk} {c : Law05Call} (hd : d.down = false) (h0 : 0 ≤ c.Do) (h3 : c.Do ≤ 3) : callT d c = doPlan d (plan d.capacity (lastP d) c) := by
  have hd' : ¬ d.down = true := by rw [hd]; decide
  unfold callT plan appendT putT renameT removeT
  simp only [if_neg hd']
  by_cases c0 : c.Do = 0
  · rw [if_pos c0, if_pos c0]
    split
    · rfl
    · exact does_plan _ _
  · rw [if_neg c0, if_neg c0]
    by_cases c1 : c.Do = 1
    · rw [if_pos c1, if_pos c1]
      split
      · rfl
      · exact does_plan _ _
    · rw [if_neg c1, if_neg c1]
      by_cases c2 : c.Do = 2
      · rw [if_pos c2, if_pos c2]
        split
        · rfl
        split
        · rfl
        split
        · rfl
        · exact does_plan _ _
      · rw [if_neg c2, if_neg c2, if_pos (by omega)]
        split
        · rfl
        split
        · rfl
        · exact does_plan _ _
theorem plan_ok {cap : Int} {P : Pic} {c : Law05Call} {dc : DiskCall} (h : (plan cap P c).2 = some dc) : (plan cap P c).1 = 0 ∧ (total (nextP dc P) : Int) ≤ cap ∧ cOk dc = true := by
  have hD : ∀ k : DiskCall, (planD cap P k).2 = some dc → (planD cap P k).1 = 0 ∧ (total (nextP dc P) : Int) ≤ cap ∧ k = dc := by
    intro k hk
    unfold planD at hk ⊢
    split at hk
    · cases hk
    · rename_i c
      cases hk
      rw [if_neg c]
      exact ⟨rfl, by omega, rfl⟩
  unfold plan at h ⊢
  split at h
  · rename_i c0
    rw [if_pos c0]
    split at h
    · cases h
    · rename_i c1
      rw [if_neg c1]
      obtain ⟨e1, e2, e3⟩ := hD _ h
      exact ⟨e1, e2, by rw [← e3]; simpa [cOk] using c1⟩
  · rename_i c0
    rw [if_neg c0]
    split at h
    · rename_i c1
      rw [if_pos c1]
      split at h
      · cases h
      · rename_i c1
        rw [if_neg c1]
        obtain ⟨e1, e2, e3⟩ := hD _ h
        exact ⟨e1, e2, by rw [← e3]; simp_all [cOk]⟩
    · rename_i c1
      rw [if_neg c1]
      split at h
      · rename_i c2
        rw [if_pos c2]
        split at h
        · cases h
        rename_i c3
        rw [if_neg c3]
        split at h
        · cases h
        rename_i c4
        rw [if_neg c4]
        split at h
        · cases h
        rename_i c5
        rw [if_neg c5]
        obtain ⟨e1, e2, e3⟩ := hD _ h
        exact ⟨e1, e2, by rw [← e3]; simp_all [cOk]⟩
      · rename_i c2
        rw [if_neg c2]
        split at h
        · cases h
        rename_i c3
        rw [if_neg c3]
        split at h
        · cases h
        rename_i c4
        rw [if_neg c4]
        obtain ⟨e1, e2, e3⟩ := hD _ h
        exact ⟨e1, e2, by rw [← e3]; simp_all [cOk]⟩
theorem crash_up {d : DiskDisk} (hd : d.down = false) (k t : Int) : crashT d k t = (0, ⟨d.capacity, d.made, true, [crashP d k t], [], ⟨0, 0, 0⟩⟩) := by
  unfold crashT; rw [if_neg (by rw [hd]; decide)]
end Go.Proofs
