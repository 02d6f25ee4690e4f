import Derived.Test.YtoeanjoenlghlaaDoorQ05I
set_option linter.unusedVariables false
set_option linter.unusedSimpArgs false
namespace Go.Proofs
open Go.Fw
theorem rooml1 {l : List Law05Call} (hl : l.length ≤ 300) (ho : ∀ x ∈ l, x.Bytes.length ≤ 40000 ∧ x.K ≤ 9223372036854775807) (cap : Int) (kj : DiskDisk → Option Bool) (hk : ∀ x, Inv 600 x → x.fuse.n = 0 → x.capacity = cap → kj x = some true) :
    ∀ (J k : Nat) (x : DiskDisk), k ≤ l.length → l.length - k < J → Inv (2 * k) x → x.fuse.n = 0 → x.capacity = cap → law05_DiskRoom_l1 l cap kj J (k : Int) x = some true
  | 0, k, x, h1, h2, h, hf, hc => by omega
  | J + 1, k, x, h1, h2, h, hf, hc => by
    rw [law05_DiskRoom_l1]
    by_cases c : k < l.length
    · have ek := List.getElem?_eq_getElem c
      obtain ⟨b1, b2⟩ := ho _ (List.getElem_mem c)
      generalize l[k] = cl at ek b1 b2
      rw [if_pos (by omega), geti_nat, ek, jn_eq', Option.bind_some, i64_id (by omega) (by omega), show (k : Int) + 1 = ((k + 1 : Nat) : Int) by omega]
      by_cases c7 : cl.Do ≠ 7
      · have hn := h.call cl b2
        have ht := seen_total hn
        rw [call_cap, hc] at ht
        rw [if_pos c7, Option.bind_some, call_eq h (by omega) cl (by omega), Option.bind_some]
        simp only
        rw [Bytes_eq hn (by omega), Option.bind_some, if_neg (by omega)]
        exact rooml1 hl ho cap kj hk J (k + 1) _ (by omega) (by omega) (by rw [show 2 * (k + 1) = 2 * k + 2 by omega]; exact hn) (call_fuse hf c7) (by rw [call_cap]; exact hc)
      · have ht := seen_total h
        rw [hc] at ht
        rw [if_neg c7]
        simp only
        rw [Bytes_eq h (by omega), Option.bind_some, if_neg (by omega)]
        exact rooml1 hl ho cap kj hk J (k + 1) _ (by omega) (by omega) (h.mono (by omega)) hf hc
    · rw [if_neg (by omega)]
      exact hk x (h.mono (by omega)) hf hc
/-- The part of a round that is behind the call. -/
def roomEnd (a0 : Int) (a2 a3 : List UInt8) (x20 : Int) (x22 : Option DiskDisk) (rest : DiskDisk → Option Bool) (x24 x25 : Int) (x26 : DiskDisk) : Option Bool :=
  if x25 = 1 then (x22).bind fun x30 => (law05_alike x30 x26).bind fun x31 => (if x31 = true then (law05_awake).bind fun x33 => some x33 else some false).bind fun x32 => some x32 else (x22).bind fun x34 => (disk_Disk_Bytes x34).bind fun x35 => (if (!(decide (x25 = 3) == decide (i64 (a0 - x35) < x24))) = true then some true else (if x25 = 3 then (law05_alike x34 x26).bind fun x38 => (if (!x38) = true then some true else (disk_Disk_Waits x26).bind fun x40 => (disk_Disk_Waits x34).bind fun x41 => some (decide (x40 ≠ x41))).bind fun x39 => some x39 else some false).bind fun x37 => some x37).bind fun x36 => if x36 = true then some false else if x25 ≠ 0 then rest x26 else (disk_Disk_Bytes x26).bind fun x42 => (disk_Disk_Bytes x34).bind fun x43 => (if x42 ≠ i64 (x43 + x24) then some true else (disk_Disk_Waits x26).bind fun x45 => (disk_Disk_Waits x34).bind fun x46 => some (decide (x45 ≠ i64 (x46 + 1)))).bind fun x44 => (if x44 = true then some true else (if x20 = 1 then (disk_Disk_Size x26 a2).bind fun x49 => some (decide (x49 ≠ (a3.length : Int))) else some false).bind fun x48 => some x48).bind fun x47 => (if x47 = true then some true else (if x20 = 0 then (disk_Disk_Size x26 a2).bind fun x52 => (disk_Disk_Size x34 a2).bind fun x53 => some (decide (x52 ≠ i64 (x53 + (a3.length : Int)))) else some false).bind fun x51 => some x51).bind fun x50 => if x50 = true then some false else rest x26
theorem room_step (a0 : Int) (a2 a3 : List UInt8) (kj : DiskDisk → Option Bool) (J : Nat) (x20 : Int) (x21 : DiskDisk) (h : x20 < 2) (h1 : i64 (x20 + 1) = x20 + 1) : law05_DiskRoom_l2 a0 a2 a3 kj (J + 1) x20 x21 = (disk_Disk_Copy x21).bind fun x22 => if x20 = 0 then (disk_Disk_Append x21 a2 a3).bind fun x27 => roomEnd a0 a2 a3 x20 x22 (law05_DiskRoom_l2 a0 a2 a3 kj J (x20 + 1)) (a3.length : Int) x27.1 x27.2 else (disk_Disk_Size x21 a2).bind fun x28 => (disk_Disk_Put x21 a2 a3).bind fun x29 => roomEnd a0 a2 a3 x20 x22 (law05_DiskRoom_l2 a0 a2 a3 kj J (x20 + 1)) (i64 ((a3.length : Int) - x28)) x29.1 x29.2 := by
  rw [law05_DiskRoom_l2, if_pos h, h1]
  rfl
/-- A round, when the call is one whose picture is known. -/
theorem room_end {N : Nat} {d : DiskDisk} (h : Inv N d) (hN : N ≤ 8000) (ud : d.down = false) (hf : d.fuse.n = 0) (a2 a3 : List UInt8) (h3 : a3.length ≤ 70000) (x20 : Int) (rest : DiskDisk → Option Bool) (dc : DiskCall) (need : Int) (hc : cOk dc = true)
    (ht : (total (nextP dc (lastP d)) : Int) = total (lastP d) + need) (hn0 : -100000 ≤ need) (hn1 : need ≤ 100000)
    (hz : x20 = 1 → (get (nextP dc (lastP d)) a2).length = a3.length) (hy : x20 = 0 → (get (nextP dc (lastP d)) a2).length = (get (lastP d) a2).length + a3.length)
    (hr : ∀ x, Inv (N + 2) x → x.down = false → x.fuse.n = 0 → x.capacity = d.capacity → rest x = some true) :
    roomEnd d.capacity a2 a3 x20 (some d) rest need (doesT d dc).1 (doesT d dc).2 = some true := by
  have h4 := h.tot _ h.last.2
  have h5 := h.c1
  have h6 := h.c0
  have h7 := h.cl
  have eb := Bytes_eq h (by omega)
  rw [up_seen ud] at eb
  unfold doesT roomEnd
  by_cases k : d.capacity < (total (nextP dc (lastP d)) : Int)
  · rw [if_pos k]
    simp only
    rw [if_neg (show ¬ (3 : Int) = 1 by decide), Option.bind_some, eb, Option.bind_some, i64_id (by omega) (by omega)]
    have e : decide (d.capacity - (total (lastP d) : Int) < need) = true := by rw [decide_eq_true_iff]; omega
    rw [e, if_neg (by decide), if_pos trivial, alike_same h h (by omega) (by omega) ud ud rfl, Option.bind_some, if_neg (by decide), Waits_eq h, Option.bind_some, Option.bind_some, Option.bind_some, Option.bind_some, Option.bind_some, if_neg (by simp), if_pos (show (3 : Int) ≠ 0 by decide)]
    exact hr d (h.mono (by omega)) ud hf rfl
  · have hg := h.grown (c := dc) (by omega) hc
    have hl := lastP_grown h dc
    have ug : (grown d dc).down = false := ud
    have fg : (grown d dc).fuse.n = 0 := hf
    rw [if_neg k, burn0 fg]
    have eg := Bytes_eq hg (by omega)
    rw [up_seen ug, hl] at eg
    have wg : disk_Disk_Waits (grown d dc) = some ((d.calls.length : Int) + 1) := by
      rw [Waits_eq hg, if_neg (by rw [ug]; decide)]
      show some (((d.calls ++ [dc]).length : Int)) = _
      rw [List.length_append, List.length_singleton]; rfl
    have wd : disk_Disk_Waits d = some (d.calls.length : Int) := by rw [Waits_eq h, if_neg (by rw [ud]; decide)]
    have sg := Size_eq hg (by omega) a2
    have sd := Size_eq h (by omega) a2
    have gl := get_len h a2
    rw [up_seen ug, hl] at sg
    rw [up_seen ud] at sd
    simp only
    rw [if_neg (show ¬ (0 : Int) = 1 by decide), Option.bind_some, eb, Option.bind_some, i64_id (by omega) (by omega)]
    have e : decide (d.capacity - (total (lastP d) : Int) < need) = false := by rw [decide_eq_false_iff_not]; omega
    rw [e, if_neg (show ¬ (!(decide ((0 : Int) = 3) == false)) = true by decide), if_neg (show ¬ (0 : Int) = 3 by decide), Option.bind_some, Option.bind_some, if_neg (show ¬ false = true by decide), if_neg (show ¬ (0 : Int) ≠ 0 by decide), eg, Option.bind_some, Option.bind_some, i64_id (p := (total (lastP d) : Int) + need) (by omega) (by omega), if_neg (by omega), wg, Option.bind_some, wd, Option.bind_some, i64_id (by omega) (by omega), Option.bind_some, if_neg (by simp), sg, sd]
    simp only [Option.bind_some]
    by_cases c1 : x20 = 1
    · have := hz c1
      rw [if_pos c1, this]
      simp only [ne_eq, not_true, decide_false, Option.bind_some, Bool.false_eq_true, if_false]
      rw [if_neg (show ¬ x20 = 0 by omega)]
      simp only [Option.bind_some, Bool.false_eq_true, if_false]
      exact hr _ (hg.mono (by omega)) ug fg rfl
    · rw [if_neg c1]
      simp only [Option.bind_some, Bool.false_eq_true, if_false]
      by_cases c0 : x20 = 0
      · have := hy c0
        rw [if_pos c0, this, i64_id (by omega) (by omega)]
        simp only [Option.bind_some]
        rw [if_neg (by simp)]
        exact hr _ (hg.mono (by omega)) ug fg rfl
      · rw [if_neg c0]
        simp only [Option.bind_some, Bool.false_eq_true, if_false]
        exact hr _ (hg.mono (by omega)) ug fg rfl
theorem room_bad {N : Nat} {d : DiskDisk} (h : Inv N d) (hN : N ≤ 8000) (ud : d.down = false) (a0 : Int) (a2 a3 : List UInt8) (x20 need : Int) (rest : DiskDisk → Option Bool) : roomEnd a0 a2 a3 x20 (some d) rest need 1 d = some true := by
  unfold roomEnd
  rw [if_pos rfl, Option.bind_some, alike_same h h (by omega) (by omega) ud ud rfl, Option.bind_some, if_pos rfl, awake_true]; rfl
theorem room_put {N : Nat} {d : DiskDisk} (h : Inv N d) (hN : N ≤ 8000) (ud : d.down = false) (hf : d.fuse.n = 0) (a2 a3 : List UInt8) (h3 : a3.length ≤ 70000) (J : Nat) (kj : DiskDisk → Option Bool) (hk : ∀ x, kj x = some true) : law05_DiskRoom_l2 d.capacity a2 a3 kj (J + 2) 1 d = some true := by
  have gl := get_len h a2
  rw [room_step _ _ _ _ _ _ _ (by decide) (by decide), Copy_eq h (by omega), Option.bind_some, if_neg (by decide), Size_eq h (by omega), up_seen ud, Option.bind_some, put_eq h (by omega) _ _ (by omega), Option.bind_some, i64_id (by omega) (by omega)]
  unfold putT
  rw [if_neg (by rw [ud]; decide)]
  by_cases c : nameOk a2 = false
  · rw [if_pos c]
    exact room_bad h hN ud _ _ _ _ _ _
  · rw [if_neg c]
    have ht := total_wi h.lrise a2 a3
    refine room_end h hN ud hf a2 a3 h3 1 _ (.putting ⟨⟨a2, a3⟩⟩) _ (by simpa [cOk] using c) ?_ (by omega) (by omega) (fun _ => ?_) (fun e => by omega) fun x hx ux fx cx => ?_
    · simp only [nextP]; omega
    · simp only [nextP]; rw [get_wi, if_pos rfl]
    · rw [law05_DiskRoom_l2, if_neg (by decide)]
      exact hk x
theorem room_both {N : Nat} {d : DiskDisk} (h : Inv N d) (hN : N ≤ 7000) (ud : d.down = false) (hf : d.fuse.n = 0) (a2 a3 : List UInt8) (h3 : a3.length ≤ 70000) (J : Nat) (kj : DiskDisk → Option Bool) (hk : ∀ x, kj x = some true) : law05_DiskRoom_l2 d.capacity a2 a3 kj (J + 3) 0 d = some true := by
  have gl := get_len h a2
  rw [room_step _ _ _ _ _ _ _ (by decide) (by decide), Copy_eq h (by omega), Option.bind_some, if_pos rfl, append_eq h (by omega) _ _ (by omega), Option.bind_some]
  unfold appendT
  rw [if_neg (by rw [ud]; decide)]
  by_cases c : nameOk a2 = false
  · rw [if_pos c]
    exact room_bad h (by omega) ud _ _ _ _ _ _
  · rw [if_neg c]
    have ht := total_wi h.lrise a2 (get (lastP d) a2 ++ a3)
    rw [List.length_append] at ht
    refine room_end h (by omega) ud hf a2 a3 h3 0 _ (.adding ⟨⟨a2, a3⟩⟩) _ (by simpa [cOk] using c) ?_ (by omega) (by omega) (fun e => by omega) (fun _ => ?_) fun x hx ux fx cx => ?_
    · simp only [nextP]; omega
    · simp only [nextP]; rw [get_wi, if_pos rfl, List.length_append]
    · rw [← cx]
      exact room_put hx (by omega) ux fx a2 a3 h3 J kj hk
theorem DiskRoom_pure (a : Int) (l : List Law05Call) (A B : List UInt8) (hl : l.length ≤ 140737488351232) (ho : ∀ x ∈ l, okC x ∧ x.K ≤ 9223372036854775807) : law05_DiskRoom a l A B = some true := by
  unfold law05_DiskRoom
  by_cases c : a < 0 ∨ 65536 < a
  · rw [New_bad c, Option.bind_some, if_pos (show (1 : Int) ≠ 0 by decide), Option.bind_some, if_pos (.inl (.inl rfl)), awake_true]; rfl
  · obtain ⟨v, e, hv⟩ := many_ok hl fun x hx => (ho x hx).1
    rw [New_good c, Option.bind_some, if_neg (show ¬ (0 : Int) ≠ 0 by decide), e, Option.bind_some, Option.bind_some]
    by_cases c2 : (v = true ∨ 70000 < (B.length : Int)) ∨ 100 < (A.length : Int)
    · rw [if_pos c2, awake_true]; rfl
    · have hvf : v = false := by cases v with | false => rfl | true => exact absurd (.inl (.inl rfl)) c2
      obtain ⟨h1, h2⟩ := hv hvf
      have hB : B.length ≤ 70000 := by omega
      rw [if_neg c2, Option.bind_some, jn_eq']
      have hFU := FU_big
      refine rooml1 h1 (fun x hx => ⟨h2 x hx, (ho x hx).2⟩) a _ ?_ FU 0 _ (by omega) (by omega) (new_inv c) rfl rfl
      intro x hx hf hcap
      have hd := hx.start
      have ud := start_up x
      have fd : (startT x).2.fuse.n = 0 := by rw [start_fuse]; exact hf
      have cd := start_cap x
      rw [start_eq hx, Option.bind_some]
      generalize (startT x).2 = d at hd ud fd cd
      have hd2 : Inv 600 ⟨d.capacity, d.made, d.down, d.pictures, d.calls, ⟨0, 0, 0⟩⟩ := hd.fuse (f := ⟨0, 0, 0⟩) ⟨by decide, by decide⟩ d.down
      rw [fuse_eq hd, Option.bind_some]
      unfold fuseT
      rw [if_neg (by rw [ud]; decide), if_neg (by decide), jn_eq']
      simp only
      have ud2 : (⟨d.capacity, d.made, d.down, d.pictures, d.calls, ⟨0, 0, 0⟩⟩ : DiskDisk).down = false := ud
      have fd2 : (⟨d.capacity, d.made, d.down, d.pictures, d.calls, ⟨0, 0, 0⟩⟩ : DiskDisk).fuse.n = 0 := rfl
      have cd2 : (⟨d.capacity, d.made, d.down, d.pictures, d.calls, ⟨0, 0, 0⟩⟩ : DiskDisk).capacity = a := by rw [← hcap, ← cd]
      generalize (⟨d.capacity, d.made, d.down, d.pictures, d.calls, ⟨0, 0, 0⟩⟩ : DiskDisk) = g at hd2 ud2 fd2 cd2
      obtain ⟨J, hJ⟩ : ∃ J, FU = J + 3 := ⟨FU - 3, by omega⟩
      rw [hJ, ← cd2]
      exact room_both hd2 (by omega) ud2 fd2 A B hB J _ fun x => by rw [awake_true]; rfl
end Go.Proofs
