import Derived.Test.YtoeanjoenlghlaaDoorQ05K
set_option linter.unusedVariables false
set_option linter.unusedSimpArgs false
namespace Go.Proofs
open Go.Fw
theorem rwith_eq {p : Pic} (hl : p.length ≤ 90000) {n b : List UInt8} (hb : b.length ≤ 1000000) : ref05_With (rP p) n b = some (rP (wi p n b)) := by
  unfold ref05_With
  have hFU := FU_huge
  have hw := wo_len p n
  have hn : lk (wo p n) n = none := by rw [lk_wo, if_pos rfl]
  have e1 : app 140737488355328 ([] : List UInt8) b = some b := lim_app _ _ (by simp only [List.length_nil]; omega)
  rw [rwo_eq (by omega), Option.bind_some, jn_eq', show (0 : Int) = ((0 : Nat) : Int) from rfl, rwi_run (q := wo p n) (by omega) hb (lk_none.1 hn) _ (fun r s hr => ?_) FU 0 [] false (by omega) (by omega) (by simp), List.drop_zero]
  · rfl
  · cases s with
    | true => rfl
    | false =>
      simp only [Bool.not_false, if_true]
      rw [e1, Option.bind_some, app_ok _ _ (by simp; omega) (by decide)]
      rfl
theorem radd_eq {p : Pic} (hr : Rise p) (hl : p.length ≤ 90000) (ht : total p ≤ 100000) {n b : List UInt8} (hb : b.length ≤ 100000) : ref05_Added (rP p) n b = some (rP (wi p n (get p n ++ b))) := by
  unfold ref05_Added
  have hg := get_le hr n
  have e1 : app 140737488355328 ([] : List UInt8) (get p n) = some (get p n) := lim_app _ _ (by simp only [List.length_nil]; omega)
  rw [rfind_eq (by omega), Option.bind_some, e1, Option.bind_some, app_ok _ _ (by omega) (by decide), Option.bind_some, rwith_eq hl (by rw [List.length_append]; omega)]
  rfl
theorem rsize_run {p : Pic} (hl : p.length ≤ 100000) (kj : Int → Option Int) : ∀ (J k : Nat) (t : Nat), k ≤ p.length → p.length - k < J → t + total (p.drop k) ≤ 1000000 → ref05_Size_l1 (rP p) kj J (t : Int) (k : Int) = kj ((t + total (p.drop k) : Nat) : Int)
  | 0, k, t, h1, h2, h3 => by omega
  | J + 1, k, t, h1, h2, h3 => by
    rw [ref05_Size_l1]
    have hr : (rP p).length = p.length := by unfold rP; rw [List.length_map]
    by_cases c : k < p.length
    · have e : (rP p)[k]? = some (rF p[k]) := by unfold rP; rw [List.getElem?_map, List.getElem?_eq_getElem c]; rfl
      rw [List.drop_eq_getElem_cons c, total_cons] at h3 ⊢
      rw [if_pos (by rw [hr]; omega), geti_nat, e, Option.bind_some, i64_id (p := (k : Int) + 1) (by omega) (by omega), show (k : Int) + 1 = ((k + 1 : Nat) : Int) by omega]
      show ref05_Size_l1 (rP p) kj J (i64 ((t : Int) + (p[k].b.length : Int))) _ = _
      rw [i64_id (by omega) (by omega), show (t : Int) + (p[k].b.length : Int) = ((t + p[k].b.length : Nat) : Int) by omega, rsize_run hl kj J (k + 1) _ (by omega) (by omega) (by omega), Nat.add_assoc]
    · rw [if_neg (by rw [hr]; omega), List.drop_eq_nil_of_le (by omega)]; rfl
theorem rsize_eq {p : Pic} (hl : p.length ≤ 100000) (ht : total p ≤ 1000000) : ref05_Size (rP p) = some (total p : Int) := by
  unfold ref05_Size
  have hFU := FU_huge
  rw [jn_eq']
  have := rsize_run hl (fun x2 => some x2) FU 0 0 (by omega) (by omega) (by simpa using ht)
  rw [List.drop_zero, Nat.zero_add] at this
  exact this
theorem rkeep_run (d : Ref05Disk) (A : Int) (hm : d.Made.length ≤ 100000) (kj : Int → Option (Int × Ref05Disk)) : ∀ (J k : Nat), (k : Int) ≤ max A 0 → k ≤ d.Made.length → d.Made.length - k < J → ref05_Disk_Crash_l1 A d kj J (k : Int) = kj (((min (max A 0) (d.Made.length : Int)).toNat : Nat) : Int)
  | 0, k, h0, h1, h2 => by omega
  | J + 1, k, h0, h1, h2 => by
    rw [ref05_Disk_Crash_l1]
    by_cases c : (k : Int) < A ∧ (k : Int) < (d.Made.length : Int)
    · rw [if_pos c, i64_id (by omega) (by omega), show (k : Int) + 1 = ((k + 1 : Nat) : Int) by omega]
      exact rkeep_run d A hm kj J (k + 1) (by omega) (by omega) (by omega)
    · rw [if_neg c]
      congr 1
      omega
theorem rkeep0 (d : Ref05Disk) (A : Int) (hm : d.Made.length ≤ 100000) (kj : Int → Option (Int × Ref05Disk)) : ref05_Disk_Crash_l1 A d kj FU 0 = kj (((min (max A 0) (d.Made.length : Int)).toNat : Nat) : Int) :=
  rkeep_run d A hm kj FU 0 (by omega) (by omega) (by have := FU_huge; omega)
theorem name_ne {n : List UInt8} (h : nameOk n = true) : n ≠ [] := by
  intro e; subst e; cases h
theorem rcrash_eq {N : Nat} {d : DiskDisk} (h : Inv N d) (hN : N ≤ 9000) (f : St66) (k t : Int) : d.down = false → ref05_Disk_Crash ⟨d.capacity, d.down, d.pictures.map rP, d.calls.map rM, f⟩ k t = some ((crashT d k t).1, toR (crashT d k t).2) := by
  intro ud
  unfold ref05_Disk_Crash
  have hFU := FU_huge
  have hcl := h.cl
  have hc1 := h.c1
  obtain ⟨p, e, hp⟩ := h.at_ (kept_le d k)
  have hpl := h.plen p hp
  have hpt := h.tot p hp
  have hpr := h.rise p hp
  rw [crash_up ud]
  show (if d.down = true then _ else _) = _
  rw [if_neg (show ¬ d.down = true by rw [ud]; decide), jn_eq', rkeep0 _ k (by simp; omega)]
  have ek : (min (max k 0) (((d.calls.map rM).length : Nat) : Int)).toNat = keptAt d k := by unfold keptAt; rw [List.length_map]
  simp only
  rw [ek, geti_nat, List.getElem?_map, e]
  simp only [Option.map_some, Option.bind_some]
  unfold crashP
  rw [e, Option.getD_some, jn_eq']
  by_cases c2 : keptAt d k < d.calls.length
  · have e2 := List.getElem?_eq_getElem c2
    rw [if_pos (by rw [List.length_map]; omega), geti_nat, List.getElem?_map, e2]
    simp only [Option.map_some, Option.bind_some]
    cases e3 : d.calls[keptAt d k] with
    | adding x =>
      rw [e3] at e2
      have hnm := h.nam _ (List.mem_of_getElem? e2)
      have hb := h.cbytes e2
      have hne : (rM (.adding x)).Name ≠ ([] : List UInt8) := name_ne hnm
      rw [decide_eq_true hne]
      simp only [tornC]
      by_cases c4 : 0 < t
      · rw [if_pos ⟨trivial, c4⟩]
        by_cases c5 : x.file.b = []
        · have c6 : ¬ 0 < (((rM (.adding x)).Bytes.length : Nat) : Int) := by show ¬ 0 < ((x.file.b.length : Nat) : Int); rw [c5]; simp
          rw [Option.bind_some, decide_eq_false c6, if_neg (by decide), if_neg (by rintro ⟨_, h⟩; exact h c5)]
          rfl
        · have := List.length_pos_iff.2 c5
          have c6 : 0 < (((rM (.adding x)).Bytes.length : Nat) : Int) := Int.ofNat_lt.2 this
          rw [Option.bind_some, decide_eq_true c6, if_pos rfl, if_pos ⟨c4, c5⟩]
          simp only [rM]
          rw [show min t (x.file.b.length : Int) = ((min t.toNat x.file.b.length : Nat) : Int) by omega, subl_head _ _ (by omega), Option.bind_some]
          have e5 : x.file.b.take (min t.toNat x.file.b.length) = x.file.b.take t.toNat := by rw [List.take_eq_take_iff]; omega
          rw [e5, radd_eq hpr (by omega) (by omega) (by rw [List.length_take]; omega), Option.bind_some]
          simp only [torn]
          rw [if_pos c4]
          rfl
      · rw [if_neg (fun h => c4 h.2), Option.bind_some, if_neg (by decide), if_neg (fun h => c4 h.1)]
        rfl
    | naming x => rfl
    | putting x => rfl
    | removing x => rfl
  · have e2 : d.calls[keptAt d k]? = none := List.getElem?_eq_none (by omega)
    rw [if_neg (by rw [List.length_map]; omega), e2]
    rfl
theorem rburn_eq {N : Nat} {d : DiskDisk} (h : Inv N d) (hN : N ≤ 9000) (ud : d.down = false) : ref05_Disk_burn (toR d) = some ((burnT d).1, toR (burnT d).2) := by
  unfold ref05_Disk_burn burnT
  have h0 := h.f0
  have h1 := h.f1
  show (if 0 < d.fuse.n then _ else _) = _
  by_cases c : d.fuse.n = 0
  · rw [if_neg (by omega), if_pos c]
  · rw [if_pos (by omega), if_neg c]
    show (if i64 (d.fuse.n - 1) = 0 then _ else _) = _
    rw [i64_id (by omega) (by omega)]
    by_cases c2 : d.fuse.n = 1
    · rw [if_pos (by omega), if_pos c2]
      show (ref05_Disk_Crash ⟨d.capacity, d.down, d.pictures.map rP, d.calls.map rM, ⟨i64 (d.fuse.n - 1), d.fuse.keep, d.fuse.torn⟩⟩ d.fuse.keep d.fuse.torn).bind _ = _
      rw [rcrash_eq h hN _ _ _ ud, Option.bind_some]
    · rw [if_neg (by omega), if_neg c2]
      show some ((0 : Int), (⟨d.capacity, d.down, d.pictures.map rP, d.calls.map rM, ⟨i64 (d.fuse.n - 1), d.fuse.keep, d.fuse.torn⟩⟩ : Ref05Disk)) = _
      rw [i64_id (by omega) (by omega)]
      rfl
theorem rnext_eq {N : Nat} {d : DiskDisk} (h : Inv N d) (hN : N ≤ 8000) (ud : d.down = false) {c : DiskCall} (hc : cBytes c ≤ 100000) (hn : cOk c = true) : ref05_Disk_next (toR d) (rP (nextP c (lastP d))) (rM c) = some ((doesT d c).1, toR (doesT d c).2) := by
  unfold ref05_Disk_next doesT
  have h1 := h.plen _ h.last.2
  have h2 := h.tot _ h.last.2
  have h3 := h.c1
  have h4 := next_total (c := c) h.lrise
  have h5 := next_len c (lastP d)
  have h6 := h.len
  have h7 := h.cl
  rw [rsize_eq (by omega) (by omega), Option.bind_some]
  show (if d.capacity < _ then _ else _) = _
  by_cases k : d.capacity < (total (nextP c (lastP d)) : Int)
  · rw [if_pos k, if_pos k]
  · rw [if_neg k, if_neg k]
    have e1 : app 5864062014805 ([] : List (List Ref05File)) (toR d).Pictures = some (d.pictures.map rP) := by
      show app 5864062014805 ([] : List (List Ref05File)) (d.pictures.map rP) = _
      rw [app_ok _ _ (by simp; omega) (by decide)]; rfl
    have e2 : app 3518437208883 ([] : List Ref05File) (toR d).Made = some (d.calls.map rM) := by
      show app 3518437208883 ([] : List Ref05File) (d.calls.map rM) = _
      rw [app_ok _ _ (by simp; omega) (by decide)]; rfl
    rw [e1, Option.bind_some, app_ok _ _ (by simp; omega) (by decide), Option.bind_some, e2, Option.bind_some, app_ok _ _ (by simp; omega) (by decide), Option.bind_some]
    have hg := rburn_eq (h.grown (by omega) hn) (by omega) (show (grown d c).down = false from ud)
    have e3 : toR (grown d c) = ⟨d.capacity, d.down, d.pictures.map rP ++ [rP (nextP c (lastP d))], d.calls.map rM ++ [rM c], ⟨d.fuse.n, d.fuse.keep, d.fuse.torn⟩⟩ := by
      unfold toR Go.Proofs.grown
      simp only [List.map_append, List.map_cons, List.map_nil]
    rw [e3] at hg
    show (ref05_Disk_burn ⟨d.capacity, d.down, d.pictures.map rP ++ [rP (nextP c (lastP d))], d.calls.map rM ++ [rM c], ⟨d.fuse.n, d.fuse.keep, d.fuse.torn⟩⟩).bind _ = _
    rw [hg, Option.bind_some]
theorem rappend_eq {N : Nat} {d : DiskDisk} (h : Inv N d) (hN : N ≤ 8000) {n b : List UInt8} (ha : n.length ≤ 140737488355328) (hb : b.length ≤ 100000) : ref05_Disk_Append (toR d) n b = some ((appendT d n b).1, toR (appendT d n b).2) := by
  unfold ref05_Disk_Append appendT
  have h1 := h.plen _ h.last.2
  have h2 := h.tot _ h.last.2
  have h3 := h.c1
  rw [asks_eq d ha ha, Option.bind_some]
  by_cases c : d.down = true
  · rw [if_pos c, if_pos c, if_pos (by decide)]
  · have c' : d.down = false := by simpa using c
    rw [if_neg c, if_neg c, Bool.and_self]
    by_cases c1 : nameOk n = false
    · rw [if_pos c1, if_pos c1, if_pos (by decide)]
    · have e1 : app 140737488355328 ([] : List UInt8) b = some b := lim_app _ _ (by simp only [List.length_nil]; omega)
      rw [if_neg c1, if_neg c1, if_neg (by decide), rseen_eq h (by omega), Option.bind_some, radd_eq h.lrise (by omega) (by omega) hb, Option.bind_some, e1, Option.bind_some]
      have := rnext_eq h hN c' (c := .adding ⟨⟨n, b⟩⟩) hb (by simpa [cOk] using c1)
      simp only [nextP, rM] at this
      rw [this, Option.bind_some]
theorem rput_eq {N : Nat} {d : DiskDisk} (h : Inv N d) (hN : N ≤ 8000) {n b : List UInt8} (ha : n.length ≤ 140737488355328) (hb : b.length ≤ 100000) : ref05_Disk_Put (toR d) n b = some ((putT d n b).1, toR (putT d n b).2) := by
  unfold ref05_Disk_Put putT
  have h1 := h.plen _ h.last.2
  rw [asks_eq d ha ha, Option.bind_some]
  by_cases c : d.down = true
  · rw [if_pos c, if_pos c, if_pos (by decide)]
  · have c' : d.down = false := by simpa using c
    rw [if_neg c, if_neg c, Bool.and_self]
    by_cases c1 : nameOk n = false
    · rw [if_pos c1, if_pos c1, if_pos (by decide)]
    · rw [if_neg c1, if_neg c1, if_neg (by decide), rseen_eq h (by omega), Option.bind_some, rwith_eq (by omega) (by omega), Option.bind_some]
      have := rnext_eq h hN c' (c := .putting ⟨⟨n, b⟩⟩) hb (by simpa [cOk] using c1)
      simp only [nextP, rM] at this
      rw [this, Option.bind_some]
theorem lk_not (o : Option (List UInt8)) : ((!o.isSome) = true) = (o = none) := by cases o <;> simp
theorem rrename_eq {N : Nat} {d : DiskDisk} (h : Inv N d) (hN : N ≤ 8000) {a b : List UInt8} (ha : a.length ≤ 140737488355328) (hb : b.length ≤ 140737488355328) : ref05_Disk_Rename (toR d) a b = some ((renameT d a b).1, toR (renameT d a b).2) := by
  unfold ref05_Disk_Rename renameT
  have h1 := h.plen _ h.last.2
  have h2 := get_len h a
  have h3 := wo_len (lastP d) a
  rw [asks_eq d ha hb, Option.bind_some]
  by_cases c : d.down = true
  · rw [if_pos c, if_pos c, if_pos (by decide)]
  · have c' : d.down = false := by simpa using c
    rw [if_neg c, if_neg c]
    by_cases c1 : (nameOk a && nameOk b) = false
    · rw [if_pos c1, if_pos c1, if_pos (by decide)]
    · rw [if_neg c1, if_neg c1, if_neg (by decide), rseen_eq h (by omega), Option.bind_some, rfind_eq (by omega), Option.bind_some]
      simp only [lk_not]
      by_cases c2 : lk (lastP d) a = none
      · rw [if_pos c2, if_pos c2]
      · rw [if_neg c2, if_neg c2]
        by_cases c3 : a = b
        · rw [if_pos c3, if_pos c3, rburn_eq h (by omega) c', Option.bind_some]
        · rw [if_neg c3, if_neg c3, Option.bind_some, rwo_eq (by omega), Option.bind_some, rwith_eq (by omega) (by omega), Option.bind_some]
          have := rnext_eq h hN c' (c := .naming ⟨a, b⟩) (by simp [cBytes]) (by simp at c1; simpa [cOk] using c1.2)
          simp only [nextP, rM] at this
          rw [this, Option.bind_some]
theorem rremove_eq {N : Nat} {d : DiskDisk} (h : Inv N d) (hN : N ≤ 8000) {a : List UInt8} (ha : a.length ≤ 140737488355328) : ref05_Disk_Remove (toR d) a = some ((removeT d a).1, toR (removeT d a).2) := by
  unfold ref05_Disk_Remove removeT
  have h1 := h.plen _ h.last.2
  rw [asks_eq d ha ha, Option.bind_some]
  by_cases c : d.down = true
  · rw [if_pos c, if_pos c, if_pos (by decide)]
  · have c' : d.down = false := by simpa using c
    rw [if_neg c, if_neg c, Bool.and_self]
    by_cases c1 : nameOk a = false
    · rw [if_pos c1, if_pos c1, if_pos (by decide)]
    · rw [if_neg c1, if_neg c1, if_neg (by decide), rseen_eq h (by omega), Option.bind_some, rfind_eq (by omega), Option.bind_some]
      simp only [lk_not]
      by_cases c2 : lk (lastP d) a = none
      · rw [if_pos c2, if_pos c2]
      · rw [if_neg c2, if_neg c2, Option.bind_some, rwo_eq (by omega), Option.bind_some]
        have := rnext_eq h hN c' (c := .removing a) (by simp [cBytes]) rfl
        simp only [nextP, rM] at this
        rw [this, Option.bind_some]
theorem rsync_eq {N : Nat} {d : DiskDisk} (h : Inv N d) (hN : N ≤ 8000) : ref05_Disk_Sync (toR d) = some ((syncT d).1, toR (syncT d).2) := by
  unfold ref05_Disk_Sync syncT
  show (if d.down = true then _ else _) = _
  by_cases c : d.down = true
  · rw [if_pos c, if_pos c]
  · have c' : d.down = false := by simpa using c
    rw [if_neg c, if_neg c, rburn_eq h (by omega) c', Option.bind_some]
    by_cases c1 : (burnT d).1 = 0
    · have hb := h.burn
      rw [if_pos c1, if_neg (by simpa using c1), rseen_eq hb (by omega), Option.bind_some]
      rfl
    · rw [if_neg c1, if_pos c1]
theorem rread_eq {N : Nat} {d : DiskDisk} (h : Inv N d) (hN : N ≤ 8000) {a : List UInt8} (ha : a.length ≤ 140737488355328) : ref05_Disk_Read (toR d) a = some (readT d a) := by
  unfold ref05_Disk_Read readT
  have h1 := h.plen _ h.last.2
  have h2 := get_len h a
  rw [asks_eq d ha ha, Option.bind_some]
  by_cases c : d.down = true
  · rw [if_pos c, if_pos c, if_pos (by decide)]
  · rw [if_neg c, if_neg c, Bool.and_self]
    by_cases c1 : nameOk a = false
    · rw [if_pos c1, if_pos c1, if_pos (by decide)]
    · have e1 : app 140737488355328 ([] : List UInt8) (get (lastP d) a) = some (get (lastP d) a) := lim_app _ _ (by simp only [List.length_nil]; omega)
      rw [if_neg c1, if_neg c1, if_neg (by decide), rseen_eq h (by omega), Option.bind_some, rfind_eq (by omega), Option.bind_some]
      simp only [lk_not]
      cases e : lk (lastP d) a with
      | none => rfl
      | some b =>
        have eg : get (lastP d) a = b := by unfold get; rw [e]; rfl
        rw [if_neg (by simp), e1, Option.bind_some, eg]
theorem meant_eq {N : Nat} {d : DiskDisk} (h : Inv N d) (hN : N ≤ 8000) {c : Law05Call} (hc : okC c) (hb : c.Bytes.length ≤ 100000) : law05_meant (toR d) c = some ((callT d c).1, toR (callT d c).2) := by
  obtain ⟨b1, b2, b3⟩ := hc
  unfold law05_meant callT
  split
  · rw [rappend_eq h hN (by omega) hb]; rfl
  split
  · rw [rput_eq h hN (by omega) hb]; rfl
  split
  · rw [rrename_eq h hN (by omega) (by omega)]; rfl
  split
  · rw [rremove_eq h hN (by omega)]; rfl
  split
  · rw [rsync_eq h hN]; rfl
  split
  · by_cases ud : d.down = true
    · unfold ref05_Disk_Crash crashT
      rw [if_pos (show (toR d).Off = true from ud), if_pos ud]; rfl
    · show (ref05_Disk_Crash ⟨d.capacity, d.down, d.pictures.map rP, d.calls.map rM, _⟩ c.N c.M).bind _ = _
      rw [rcrash_eq h (by omega) _ _ _ (by simpa using ud)]; rfl
  split
  · unfold ref05_Disk_Start startT
    by_cases ud : d.down = true
    · rw [if_pos ud, if_neg (by show ¬ (!d.down) = true; rw [ud]; decide)]; rfl
    · rw [if_neg ud, if_pos (by show (!d.down) = true; simpa using ud)]; rfl
  split
  · unfold ref05_Disk_Lay fuseT
    by_cases ud : d.down = true
    · rw [if_pos ud, if_pos (show (toR d).Off = true from ud)]; rfl
    · rw [if_neg ud, if_neg (show ¬ (toR d).Off = true from ud)]
      split <;> rfl
  · rw [rread_eq h hN (by omega)]; rfl
end Go.Proofs
