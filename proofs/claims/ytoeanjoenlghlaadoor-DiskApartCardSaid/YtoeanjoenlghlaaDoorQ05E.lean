import Derived.Test.YtoeanjoenlghlaaDoorQ05D
set_option linter.unusedVariables false
set_option linter.unusedSimpArgs false
namespace Go.Proofs
open Go.Fw
theorem lastP_grown {N : Nat} {d : DiskDisk} (h : Inv N d) (c : DiskCall) : lastP (grown d c) = nextP c (lastP d) := by
  have hl := h.len
  show ((d.pictures ++ [nextP c (lastP d)])[(d.calls ++ [c]).length]?).getD [] = _
  rw [List.length_append, show d.calls.length + [c].length = d.pictures.length by simp; omega, List.getElem?_concat_length]
  rfl
theorem mem_wi {p : Pic} {n b : List UInt8} {f : DiskFile} (h : f ∈ wi p n b) : f = ⟨n, b⟩ ∨ f ∈ p := by
  unfold wi at h
  rcases List.mem_append.1 h with h | h
  · exact .inr (mem_wo.1 (List.mem_of_mem_take h)).1
  · rcases List.mem_cons.1 h with h | h
    · exact .inl h
    · exact .inr (mem_wo.1 (List.mem_of_mem_drop h)).1
theorem next_names {c : DiskCall} {p : Pic} (hp : ∀ f ∈ p, nameOk f.name = true) (hc : cOk c = true) : ∀ f ∈ nextP c p, nameOk f.name = true := by
  intro f hf
  cases c with
  | adding x => exact (mem_wi hf).elim (fun e => by subst e; exact hc) (hp f)
  | naming x => exact (mem_wi hf).elim (fun e => by subst e; exact hc) fun h => hp f (mem_wo.1 h).1
  | putting x => exact (mem_wi hf).elim (fun e => by subst e; exact hc) (hp f)
  | removing n => exact hp f (mem_wo.1 hf).1
theorem Inv.grown {N : Nat} {d : DiskDisk} (h : Inv N d) {c : DiskCall} (hc : (total (nextP c (lastP d)) : Int) ≤ d.capacity) (hn : cOk c = true) : Inv (N + 1) (grown d c) := by
  have hl := h.last
  have hlen := h.len
  refine ⟨h.made, h.c0, h.c1, ?_, ?_, ?_, ?_, ?_, h.f0, h.f1, ?_, ?_, ?_⟩
  · show (d.pictures ++ [_]).length = (d.calls ++ [c]).length + 1
    simp; omega
  · show (d.calls ++ [c]).length ≤ N + 1
    have := h.cl; simp; omega
  · intro p hp
    rcases List.mem_append.1 (show p ∈ d.pictures ++ [_] from hp) with hp | hp
    · exact h.rise p hp
    · rw [List.mem_singleton.1 hp]; exact next_rise h.lrise
  · intro p hp
    rcases List.mem_append.1 (show p ∈ d.pictures ++ [_] from hp) with hp | hp
    · have := h.plen p hp; omega
    · rw [List.mem_singleton.1 hp]
      have := next_len c (lastP d)
      have := h.plen _ hl.2; omega
  · intro p hp
    rcases List.mem_append.1 (show p ∈ d.pictures ++ [_] from hp) with hp | hp
    · exact h.tot p hp
    · rw [List.mem_singleton.1 hp]; exact hc
  · intro y hy
    rcases List.mem_append.1 (show y ∈ d.calls ++ [c] from hy) with hp | hp
    · exact h.nam y hp
    · rw [List.mem_singleton.1 hp]; exact hn
  · intro p hp
    rcases List.mem_append.1 (show p ∈ d.pictures ++ [_] from hp) with hp | hp
    · exact h.nms p hp
    · rw [List.mem_singleton.1 hp]; exact next_names (h.nms _ hl.2) hn
  · intro i y p q e1 e2 e3
    have e1' : (d.calls ++ [c])[i]? = some y := e1
    have e2' : (d.pictures ++ [nextP c (lastP d)])[i]? = some p := e2
    have e3' : (d.pictures ++ [nextP c (lastP d)])[i + 1]? = some q := e3
    by_cases k : i < d.calls.length
    · rw [List.getElem?_append_left k] at e1'
      rw [List.getElem?_append_left (by omega)] at e2' e3'
      exact h.step i y p q e1' e2' e3'
    · have k2 : i = d.calls.length := by
        have := (List.getElem?_eq_some_iff.1 e1').1
        simp at this; omega
      subst k2
      rw [List.getElem?_concat_length] at e1'
      rw [List.getElem?_append_left (by omega), hl.1] at e2'
      rw [show d.calls.length + 1 = d.pictures.length by omega, List.getElem?_concat_length] at e3'
      cases e1'; cases e2'; cases e3'; rfl
theorem torn_total {N : Nat} {d : DiskDisk} (h : Inv N d) (k t : Int) : Rise (crashP d k t) ∧ (total (crashP d k t) : Int) ≤ d.capacity ∧ (crashP d k t).length ≤ N + 1 ∧ ∀ f ∈ crashP d k t, nameOk f.name = true := by
  unfold crashP
  obtain ⟨p, e, hp⟩ := h.at_ (kept_le d k)
  rw [e, Option.getD_some]
  have h1 := h.rise p hp
  have h2 := h.tot p hp
  have h3 := h.plen p hp
  have hz := h.nms p hp
  cases e2 : d.calls[keptAt d k]? with
  | none => exact ⟨h1, h2, by simp only [tornC]; omega, hz⟩
  | some c =>
    cases c with
    | adding x =>
      simp only [tornC, torn]
      split
      · rename_i c
        rw [if_pos c.1]
        have hk := (List.getElem?_eq_some_iff.1 e2).1
        obtain ⟨q, e3, hq⟩ := h.at_ (k := keptAt d k + 1) (by omega)
        have e4 := h.step _ _ p q e2 e e3
        have h4 := h.tot q hq
        have h5 := total_wi h1 x.file.name (get p x.file.name ++ x.file.b)
        simp only [nextP] at e4 ⊢
        have h6 := total_wi h1 x.file.name (get p x.file.name ++ x.file.b.take t.toNat)
        rw [← e4] at h5
        rw [List.length_append] at h5 h6
        have h7 : (x.file.b.take t.toNat).length ≤ x.file.b.length := by rw [List.length_take]; omega
        exact ⟨wi_rise h1, by omega, Nat.le_trans (wi_len _ _ _) (by omega), fun f hf => by
          rcases mem_wi hf with rfl | hf
          · exact h.nam _ (List.mem_of_getElem? e2)
          · exact hz f hf⟩
      · exact ⟨h1, h2, by omega, hz⟩
    | naming x => exact ⟨h1, h2, by simp only [tornC]; omega, hz⟩
    | putting x => exact ⟨h1, h2, by simp only [tornC]; omega, hz⟩
    | removing x => exact ⟨h1, h2, by simp only [tornC]; omega, hz⟩
/-- A disk with one picture. -/
theorem Inv.one {N : Nat} {d : DiskDisk} (h : Inv N d) {p : Pic} (dn : Bool) (f : DiskFuse) (hr : Rise p) (ht : (total p : Int) ≤ d.capacity) (hl : p.length ≤ N + 1) (hz : ∀ f ∈ p, nameOk f.name = true) (hf : 0 ≤ f.n ∧ f.n ≤ 9223372036854775807) : Inv (N + 1) ⟨d.capacity, d.made, dn, [p], [], f⟩ := by
  refine ⟨h.made, h.c0, h.c1, rfl, by simp, ?_, ?_, ?_, hf.1, hf.2, ?_, ?_, ?_⟩
  · intro q hq; rw [List.mem_singleton.1 hq]; exact hr
  · intro q hq; rw [List.mem_singleton.1 hq]; exact hl
  · intro q hq; rw [List.mem_singleton.1 hq]; exact ht
  · intro c hc; cases hc
  · intro q hq; rw [List.mem_singleton.1 hq]; exact hz
  · intro i c p q e; simp at e
theorem Inv.crash {N : Nat} {d : DiskDisk} (h : Inv N d) (k t : Int) : Inv (N + 1) (crashT d k t).2 := by
  unfold crashT
  by_cases c : d.down = true
  · rw [if_pos c]; exact h.mono (by omega)
  · rw [if_neg c]
    obtain ⟨h1, h2, h3, h4⟩ := torn_total h k t
    exact h.one true ⟨0, 0, 0⟩ h1 h2 h3 h4 ⟨by decide, by decide⟩
theorem Inv.fuse {N : Nat} {d : DiskDisk} (h : Inv N d) {f : DiskFuse} (hf : 0 ≤ f.n ∧ f.n ≤ 9223372036854775807) (dn : Bool) : Inv N ⟨d.capacity, d.made, dn, d.pictures, d.calls, f⟩ :=
  ⟨h.made, h.c0, h.c1, h.len, h.cl, h.rise, h.plen, h.tot, hf.1, hf.2, h.nam, h.nms, h.step⟩
theorem Inv.burn {N : Nat} {d : DiskDisk} (h : Inv N d) : Inv (N + 1) (burnT d).2 := by
  unfold burnT
  have := h.f0
  have := h.f1
  split
  · exact h.mono (by omega)
  · split
    · exact h.crash _ _
    · exact (h.fuse (f := ⟨d.fuse.n - 1, d.fuse.keep, d.fuse.torn⟩) ⟨by simp only; omega, by simp only; omega⟩ d.down).mono (by omega)
theorem Inv.does {N : Nat} {d : DiskDisk} (h : Inv N d) {c : DiskCall} (hn : cOk c = true) : Inv (N + 2) (doesT d c).2 := by
  unfold doesT
  split
  · exact h.mono (by omega)
  · exact (h.grown (by omega) hn).burn
theorem does_eq {N : Nat} {d : DiskDisk} (h : Inv N d) (hN : N ≤ 9000) (hd : d.down = false) {c : DiskCall} (hc : cBytes c ≤ 100000) (hn : cOk c = true) : disk_Disk_does d c = some (doesT d c) := by
  unfold disk_Disk_does doesT
  have hl := h.last
  have h1 := h.plen _ hl.2
  have h2 := h.tot _ hl.2
  have h3 := h.c1
  have h4 := next_total (c := c) h.lrise
  have h5 := next_len c (lastP d)
  have h6 := h.len
  have h7 := h.cl
  rw [seen_eq h (by omega), show seenT d = lastP d by unfold seenT; rw [if_neg (by rw [hd]; decide)], Option.bind_some, next_eq h.lrise (by omega) (by omega) hc, Option.bind_some, size_eq (by omega) (by omega), Option.bind_some]
  by_cases k : d.capacity < (total (nextP c (lastP d)) : Int)
  · rw [if_pos k, if_pos k]
  · rw [if_neg k, if_neg k, app_ok _ _ (by simp; omega) (by decide), Option.bind_some, app_ok _ _ (by simp; omega) (by decide), Option.bind_some]
    have := burn_eq (h.grown (by omega) hn) (by omega)
    unfold Go.Proofs.grown at this
    rw [this]; rfl
theorem append_eq {N : Nat} {d : DiskDisk} (h : Inv N d) (hN : N ≤ 9000) (n b : List UInt8) (hb : b.length ≤ 100000) : disk_Disk_Append d n b = some (appendT d n b) := by
  unfold disk_Disk_Append appendT
  rw [first_eq h _ (by simp), Option.bind_some]
  by_cases c : d.down = true
  · simp [c]
  · have c' : d.down = false := by simpa using c
    by_cases c1 : nameOk n = true
    · rw [show [n].all nameOk = nameOk n by simp, if_neg c, if_neg c, c1, if_pos rfl, if_neg (by decide), if_neg (by decide), clone_eq b (by omega), Option.bind_some, does_eq (c := .adding ⟨⟨n, b⟩⟩) h hN c' hb c1, Option.bind_some]
    · have c4 : nameOk n = false := by simpa using c1
      rw [show [n].all nameOk = nameOk n by simp, if_neg c, if_neg c, c4, if_neg (show ¬ (false = true) by decide), if_pos rfl, if_pos (show (1 : Int) ≠ 0 by decide)]
theorem put_eq {N : Nat} {d : DiskDisk} (h : Inv N d) (hN : N ≤ 9000) (n b : List UInt8) (hb : b.length ≤ 100000) : disk_Disk_Put d n b = some (putT d n b) := by
  unfold disk_Disk_Put putT
  rw [first_eq h _ (by simp), Option.bind_some]
  by_cases c : d.down = true
  · simp [c]
  · have c' : d.down = false := by simpa using c
    by_cases c1 : nameOk n = true
    · rw [show [n].all nameOk = nameOk n by simp, if_neg c, if_neg c, c1, if_pos rfl, if_neg (by decide), if_neg (by decide), clone_eq b (by omega), Option.bind_some, does_eq (c := .putting ⟨⟨n, b⟩⟩) h hN c' hb c1, Option.bind_some]
    · have c4 : nameOk n = false := by simpa using c1
      rw [show [n].all nameOk = nameOk n by simp, if_neg c, if_neg c, c4, if_neg (show ¬ (false = true) by decide), if_pos rfl, if_pos (show (1 : Int) ≠ 0 by decide)]
theorem rename_eq {N : Nat} {d : DiskDisk} (h : Inv N d) (hN : N ≤ 9000) (a b : List UInt8) : disk_Disk_Rename d a b = some (renameT d a b) := by
  unfold disk_Disk_Rename renameT
  rw [there_eq h (by omega), Option.bind_some]
  by_cases c : d.down = true
  · simp [c]
  · have c' : d.down = false := by simpa using c
    by_cases c1 : (nameOk a && nameOk b) = false
    · rw [if_neg c, if_neg c, if_pos c1, if_pos c1, if_pos (by decide)]
    · rw [if_neg c, if_neg c, if_neg c1, if_neg c1]
      by_cases c2 : lk (lastP d) a = none
      · rw [if_pos c2, if_pos c2, if_pos (by decide)]
      · rw [if_neg c2, if_neg c2, if_neg (by decide)]
        by_cases c3 : a = b
        · rw [if_pos c3, if_pos c3, burn_eq h (by omega), Option.bind_some]
        · rw [if_neg c3, if_neg c3, does_eq h hN c' (by simp [cBytes]) (by simp at c1; exact c1.2), Option.bind_some]
theorem remove_eq {N : Nat} {d : DiskDisk} (h : Inv N d) (hN : N ≤ 9000) (a : List UInt8) : disk_Disk_Remove d a = some (removeT d a) := by
  unfold disk_Disk_Remove removeT
  rw [there1_eq h (by omega), Option.bind_some]
  by_cases c : d.down = true
  · simp [c]
  · have c' : d.down = false := by simpa using c
    by_cases c1 : nameOk a = false
    · rw [if_neg c, if_neg c, if_pos c1, if_pos c1, if_pos (by decide)]
    · rw [if_neg c, if_neg c, if_neg c1, if_neg c1]
      by_cases c2 : lk (lastP d) a = none
      · rw [if_pos c2, if_pos c2, if_pos (by decide)]
      · rw [if_neg c2, if_neg c2, if_neg (by decide), does_eq h hN c' (by simp [cBytes]) rfl, Option.bind_some]
theorem seen_burn {N : Nat} {d : DiskDisk} (h : Inv N d) (hN : N ≤ 9000) (hd : d.down = false) (hb : (burnT d).1 = 0) : (burnT d).2.down = false ∧ lastP (burnT d).2 = lastP d := by
  unfold burnT at hb ⊢
  split
  · exact ⟨hd, rfl⟩
  · split
    · rename_i c1 c2
      rw [if_neg c1, if_pos c2] at hb; exact absurd (show (12 : Int) = 0 from hb) (by decide)
    · exact ⟨hd, rfl⟩
theorem sync_eq {N : Nat} {d : DiskDisk} (h : Inv N d) (hN : N ≤ 9000) : disk_Disk_Sync d = some (syncT d) := by
  unfold disk_Disk_Sync syncT
  rw [down_eq h, Option.bind_some]
  by_cases c : d.down = true
  · simp [c]
  · have c' : d.down = false := by simpa using c
    rw [if_neg c, if_neg c, burn_eq h (by omega), Option.bind_some]
    by_cases c1 : (burnT d).1 = 0
    · obtain ⟨h1, h2⟩ := seen_burn h hN c' c1
      rw [if_pos c1, if_pos c1, seen_eq h.burn (by omega), show seenT (burnT d).2 = lastP (burnT d).2 by unfold seenT; rw [if_neg (by rw [h1]; decide)], Option.bind_some, disk_Disk_only, Option.bind_some, c1]
      rfl
    · rw [if_neg c1, if_neg c1]
theorem start_eq {N : Nat} {d : DiskDisk} (h : Inv N d) : disk_Disk_Start d = some (startT d) := by
  unfold disk_Disk_Start startT
  rw [none_eq h, Option.bind_some]
  cases hd : d.down <;> simp
theorem fuse_eq {N : Nat} {d : DiskDisk} (h : Inv N d) (n k t : Int) : disk_Disk_Fuse d n k t = some (fuseT d n k t) := by
  unfold disk_Disk_Fuse fuseT
  rw [down_eq h, Option.bind_some]
  by_cases c : d.down = true
  · rw [if_pos c, if_pos c]
  · rw [if_neg c, if_neg c]; split <;> rfl
theorem get_len {N : Nat} {d : DiskDisk} (h : Inv N d) (n : List UInt8) : (get (lastP d) n).length ≤ 65536 := by
  have := get_le h.lrise n
  have := h.tot _ h.last.2
  have := h.c1; omega
theorem read_eq {N : Nat} {d : DiskDisk} (h : Inv N d) (hN : N ≤ 9000) (n : List UInt8) : disk_Disk_Read d n = some (readT d n) := by
  unfold disk_Disk_Read readT
  rw [there1_eq h (by omega), Option.bind_some]
  by_cases c : d.down = true
  · simp [c]
  · by_cases c1 : nameOk n = false
    · rw [if_neg c, if_neg c, if_pos c1, if_pos c1, if_pos (by decide)]
    · rw [if_neg c, if_neg c, if_neg c1, if_neg c1]
      have hp := h.plen _ h.last.2
      have hg := get_len h n
      cases c2 : lk (lastP d) n with
      | none => simp
      | some b =>
        have e : get (lastP d) n = b := by unfold get; rw [c2]; rfl
        simp only [reduceCtorEq, if_false]
        rw [if_neg (by decide), seen_eq h (by omega), show seenT d = lastP d by unfold seenT; rw [if_neg c], Option.bind_some, bytes_eq h.lrise (by omega), Option.bind_some, clone_eq _ (by omega), Option.bind_some, e]
theorem read_len {N : Nat} {d : DiskDisk} (h : Inv N d) (n : List UInt8) : (readT d n).1.length ≤ 65536 := by
  unfold readT
  split
  · simp
  split
  · simp
  have hg := get_len h n
  cases c2 : lk (lastP d) n with
  | none => simp
  | some b =>
    have e : get (lastP d) n = b := by unfold get; rw [c2]; rfl
    simp only; rw [← e]; exact hg
theorem spoil_eq {v : Int × DiskDisk} : ∀ (J : Nat) (i : Int) (l : List UInt8), 0 ≤ i → i ≤ l.length → l.length ≤ 1000000 → l.length - i < J → law05_call_l1 (fun _ => some v) J i l = some v
  | 0, i, l, h0, h1, h2, h3 => by omega
  | J + 1, i, l, h0, h1, h2, h3 => by
    rw [law05_call_l1]
    by_cases c : i < (l.length : Int)
    · obtain ⟨x, e, _, _⟩ := geti_at h0 c
      rw [if_pos c, e, Option.bind_some, Option.bind_some, i64_id (by omega) (by omega)]
      exact spoil_eq J _ _ (by omega) (by rw [List.length_set]; omega) (by rw [List.length_set]; omega) (by rw [List.length_set]; omega)
    · rw [if_neg c]
theorem call_eq {N : Nat} {d : DiskDisk} (h : Inv N d) (hN : N ≤ 9000) (c : Law05Call) (hc : c.Bytes.length ≤ 100000) : law05_call d c = some (callT d c) := by
  unfold law05_call callT
  rw [append_eq h hN _ _ hc, put_eq h hN _ _ hc, rename_eq h hN, remove_eq h hN, sync_eq h hN, crash_eq h (by omega), start_eq h, fuse_eq h, read_eq h hN]
  simp only [Option.bind_some]
  have hl := read_len h c.A
  have hFU := FU_big
  rw [jn_eq']
  rw [spoil_eq FU 0 _ (by omega) (by omega) (by omega) (by omega)]
  split; · rfl
  split; · rfl
  split; · rfl
  split; · rfl
  split; · rfl
  split; · rfl
  split; · rfl
  split; · rfl
  rfl
theorem Inv.append {N : Nat} {d : DiskDisk} (h : Inv N d) (n b : List UInt8) : Inv (N + 2) (appendT d n b).2 := by
  unfold appendT
  split
  · exact h.mono (by omega)
  split
  · exact h.mono (by omega)
  · rename_i c; exact h.does (by simpa [cOk] using c)
theorem Inv.put {N : Nat} {d : DiskDisk} (h : Inv N d) (n b : List UInt8) : Inv (N + 2) (putT d n b).2 := by
  unfold putT
  split
  · exact h.mono (by omega)
  split
  · exact h.mono (by omega)
  · rename_i c; exact h.does (by simpa [cOk] using c)
theorem Inv.rename {N : Nat} {d : DiskDisk} (h : Inv N d) (a b : List UInt8) : Inv (N + 2) (renameT d a b).2 := by
  unfold renameT
  split
  · exact h.mono (by omega)
  split
  · exact h.mono (by omega)
  rename_i c
  split
  · exact h.mono (by omega)
  split
  · exact h.burn.mono (by omega)
  · exact h.does (by simp at c; simpa [cOk] using c.2)
theorem Inv.remove {N : Nat} {d : DiskDisk} (h : Inv N d) (a : List UInt8) : Inv (N + 2) (removeT d a).2 := by
  unfold removeT
  split
  · exact h.mono (by omega)
  split
  · exact h.mono (by omega)
  split
  · exact h.mono (by omega)
  · exact h.does rfl
theorem Inv.sync {N : Nat} {d : DiskDisk} (h : Inv N d) : Inv (N + 2) (syncT d).2 := by
  unfold syncT
  split
  · exact h.mono (by omega)
  split
  · have h2 := h.burn
    exact h2.one _ _ h2.lrise (h2.tot _ h2.last.2) (by have := h2.plen _ h2.last.2; omega) (h2.nms _ h2.last.2) ⟨h2.f0, h2.f1⟩
  · exact h.burn.mono (by omega)
theorem Inv.start {N : Nat} {d : DiskDisk} (h : Inv N d) : Inv N (startT d).2 := by
  unfold startT
  split
  · exact h.fuse ⟨h.f0, h.f1⟩ false
  · exact h
theorem Inv.fuseT {N : Nat} {d : DiskDisk} (h : Inv N d) (n k t : Int) (hn : n ≤ 9223372036854775807) : Inv N (fuseT d n k t).2 := by
  unfold Go.Proofs.fuseT
  split
  · exact h
  split
  · exact h
  · exact h.fuse (f := ⟨n, k, t⟩) ⟨by simp only; omega, hn⟩ d.down
theorem Inv.call {N : Nat} {d : DiskDisk} (h : Inv N d) (c : Law05Call) (hK : c.K ≤ 9223372036854775807) : Inv (N + 2) (callT d c).2 := by
  unfold callT
  split; · exact h.append _ _
  split; · exact h.put _ _
  split; · exact h.rename _ _
  split; · exact h.remove _
  split; · exact h.sync
  split; · exact (h.crash _ _).mono (by omega)
  split; · exact h.start.mono (by omega)
  split; · exact (h.fuseT _ _ _ hK).mono (by omega)
  exact h.mono (by omega)
end Go.Proofs
