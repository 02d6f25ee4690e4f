import Derived.Test.YtoeanjoenlghlaaDoorQ05G
set_option linter.unusedVariables false
set_option linter.unusedSimpArgs false
namespace Go.Proofs
open Go.Fw
theorem crash_cap (d : DiskDisk) (k t : Int) : (crashT d k t).2.capacity = d.capacity := by unfold crashT; split <;> rfl
theorem burn_cap (d : DiskDisk) : (burnT d).2.capacity = d.capacity := by
  unfold burnT
  split
  · rfl
  · split
    · exact crash_cap _ _ _
    · rfl
theorem does_cap (d : DiskDisk) (c : DiskCall) : (doesT d c).2.capacity = d.capacity := by
  unfold doesT
  split
  · rfl
  · exact burn_cap (grown d c)
theorem call_cap (d : DiskDisk) (c : Law05Call) : (callT d c).2.capacity = d.capacity := by
  unfold callT
  split
  · unfold appendT; split; · rfl
    split; · rfl
    exact does_cap _ _
  split
  · unfold putT; split; · rfl
    split; · rfl
    exact does_cap _ _
  split
  · unfold renameT; split; · rfl
    split; · rfl
    split; · rfl
    split; · exact burn_cap _
    exact does_cap _ _
  split
  · unfold removeT; split; · rfl
    split; · rfl
    split; · rfl
    exact does_cap _ _
  split
  · unfold syncT; split; · rfl
    split
    · exact burn_cap d
    · exact burn_cap d
  split
  · exact crash_cap _ _ _
  split
  · unfold startT; split <;> rfl
  split
  · unfold fuseT; split; · rfl
    split <;> rfl
  rfl
theorem does_fuse {d : DiskDisk} (h : d.fuse.n = 0) (c : DiskCall) : (doesT d c).2.fuse.n = 0 := by
  unfold doesT
  split
  · exact h
  · rw [burn0 (show (grown d c).fuse.n = 0 from h)]; exact h
theorem call_fuse {d : DiskDisk} (h : d.fuse.n = 0) {c : Law05Call} (h7 : c.Do ≠ 7) : (callT d c).2.fuse.n = 0 := by
  unfold callT
  split
  · unfold appendT; split; · exact h
    split; · exact h
    exact does_fuse h _
  split
  · unfold putT; split; · exact h
    split; · exact h
    exact does_fuse h _
  split
  · unfold renameT; split; · exact h
    split; · exact h
    split; · exact h
    split; · rw [burn0 h]; exact h
    exact does_fuse h _
  split
  · unfold removeT; split; · exact h
    split; · exact h
    split; · exact h
    exact does_fuse h _
  split
  · unfold syncT; split; · exact h
    rw [burn0 h]; exact h
  split
  · unfold crashT; split; · exact h
    rfl
  split
  · unfold startT; split <;> exact h
  exact h
theorem wi_len' {p : Pic} (hr : Rise p) (n b : List UInt8) : p.length ≤ (wi p n b).length := by
  have h1 : ∀ {p : Pic}, Rise p → p.length ≤ (wo p n).length + 1 := by
    intro p hr
    induction p with
    | nil => simp
    | cons f p ih =>
      have hr' := List.pairwise_cons.1 hr
      rw [wo_cons]
      split
      · rename_i c
        rw [wo_self (lk_none.2 fun x hx e => (nlt_ne (hr'.1 x hx)) (by rw [c, e]))]; simp
      · have := ih hr'.2
        simp only [List.length_cons]; omega
  have := h1 hr
  unfold wi
  have := lb_le (wo p n) n
  rw [List.length_append, List.length_cons, List.length_take, List.length_drop]; omega
theorem lk_some {p : Pic} {n : List UInt8} (h : n ∈ names p) : ∃ b, lk p n = some b := by
  cases e : lk p n with
  | some b => exact ⟨b, rfl⟩
  | none =>
    obtain ⟨f, hf, e2⟩ := List.mem_map.1 h
    exact absurd e2 (lk_none.1 e f hf)
theorem names_nodup {p : Pic} (hr : Rise p) : (names p).Nodup := by
  unfold names List.Nodup
  rw [List.pairwise_map]
  exact hr.imp fun h => nlt_ne h
/-- What a torn crash may have made of one file. -/
def oddOk (P0 : Pic) (m b1 : List UInt8) (t : Int) : Prop := ∃ tk : List UInt8, b1 = get P0 m ++ tk ∧ 1 ≤ tk.length ∧ (tk.length : Int) ≤ t
theorem torn_run {N : Nat} {x y : Int × DiskDisk} {t : Int} {m : List UInt8} (hx : Inv N x.2) (hy : Inv N y.2) (hN : N ≤ 9000) (ux : x.2.down = false) (uy : y.2.down = false)
    (hs : ∀ n ∈ names (lastP x.2), lk (lastP y.2) n = lk (lastP x.2) n ∨ (n = m ∧ ∃ b1, lk (lastP x.2) n = some b1 ∧ oddOk (lastP y.2) n b1 t)) (kj : Int → Option Bool) (hk : ∀ c, c ≤ 1 → kj c = some true) :
    ∀ (J k : Nat) (c : Int), 0 ≤ c → c ≤ 1 → (m ∈ (names (lastP x.2)).drop k → c ≤ 0) → k ≤ (names (lastP x.2)).length → (names (lastP x.2)).length - k < J → (names (lastP x.2)).length ≤ 9000 →
      law05_DiskTorn_l2 (names (lastP x.2)) x y t kj J c (k : Int) = some true
  | 0, k, c, h0, h1, h2, h3, h4, h5 => by omega
  | J + 1, k, c, h0, h1, h2, h3, h4, h5 => by
    rw [law05_DiskTorn_l2]
    by_cases cc : k < (names (lastP x.2)).length
    · have hnd := names_nodup hx.lrise
      have hmem := List.getElem_mem cc
      have ek := List.getElem?_eq_getElem cc
      have hdr := List.drop_eq_getElem_cons cc
      have hnd2 : ((names (lastP x.2)).drop k).Nodup := hnd.sublist (List.drop_sublist _ _)
      rw [hdr] at h2 hnd2
      generalize (names (lastP x.2))[k] = n at hmem ek h2 hnd2
      have hnm : nameOk n = true := by
        obtain ⟨f, hf, e⟩ := List.mem_map.1 hmem
        rw [← e]; exact hx.nms _ hx.last.2 f hf
      rw [if_pos (by omega), geti_nat, ek, Option.bind_some, read_eq hx hN, Option.bind_some, Option.bind_some, read_eq hy hN, Option.bind_some]
      rw [i64_id (p := (k : Int) + 1) (by omega) (by omega), show (k : Int) + 1 = ((k + 1 : Nat) : Int) by omega]
      obtain ⟨b1, e1⟩ := lk_some hmem
      have r1 : readT x.2 n = (b1, 0) := by unfold readT; rw [if_neg (by rw [ux]; decide), if_neg (by rw [hnm]; decide), e1]
      rw [r1]
      have hnext : (c' : Int) → 0 ≤ c' → c' ≤ 1 → (m ∈ (names (lastP x.2)).drop (k + 1) → c' ≤ 0) → law05_DiskTorn_l2 (names (lastP x.2)) x y t kj J c' ((k + 1 : Nat) : Int) = some true :=
        fun c' a1 a2 a3 => torn_run hx hy hN ux uy hs kj hk J (k + 1) c' a1 a2 a3 (by omega) (by omega) h5
      rcases hs n hmem with h | ⟨hm, b1', e1', tk, e2, e3, e4⟩
      · have r2 : readT y.2 n = (b1, 0) := by unfold readT; rw [if_neg (by rw [uy]; decide), if_neg (by rw [hnm]; decide), h, e1]
        rw [r2, if_pos ⟨⟨rfl, rfl⟩, rfl⟩]
        exact hnext c h0 h1 fun hm => h2 (List.mem_cons_of_mem _ hm)
      · rw [e1] at e1'
        cases e1'
        subst hm
        have r2 : (readT y.2 n).1 = get (lastP y.2) n := by
          unfold readT get
          rw [if_neg (by rw [uy]; decide), if_neg (by rw [hnm]; decide)]
          cases lk (lastP y.2) n <;> rfl
        have hl1 := read_len hx n
        rw [r1] at hl1
        simp only at hl1 ⊢
        rw [r2, e2]
        have hc0 : c ≤ 0 := h2 (List.mem_cons_self ..)
        rw [e2, List.length_append] at hl1
        rw [if_neg (by rw [List.length_append]; rintro ⟨⟨_, h⟩, _⟩; omega), if_neg (by rw [List.length_append]; omega), subl_head _ _ (by rw [List.length_append]; omega), Option.bind_some, List.take_left, if_neg (by simp)]
        rw [i64_id (p := ((get (lastP y.2) n ++ tk).length : Int) - _) (by rw [List.length_append]; omega) (by rw [List.length_append]; omega), if_neg (by rw [List.length_append]; omega), i64_id (by omega) (by omega)]
        exact hnext (c + 1) (by omega) (by omega) fun hm => absurd hm (List.pairwise_cons.1 hnd2 |>.1 n · rfl)
    · rw [if_neg (by omega)]
      exact hk c h1
theorem torn_pic {N : Nat} {d : DiskDisk} (h : Inv N d) (k t : Int) : ∃ m, (crashP d k 0).length ≤ (crashP d k t).length ∧ ∀ n ∈ names (crashP d k t), lk (crashP d k 0) n = lk (crashP d k t) n ∨ (n = m ∧ ∃ b1, lk (crashP d k t) n = some b1 ∧ oddOk (crashP d k 0) n b1 t) := by
  rw [crashP0]
  unfold crashP
  obtain ⟨p, e, hp⟩ := h.at_ (kept_le d k)
  rw [e, Option.getD_some]
  cases e2 : d.calls[keptAt d k]? with
  | none => exact ⟨[], Nat.le_refl _, fun n _ => .inl rfl⟩
  | some c =>
    cases c with
    | naming x => exact ⟨[], Nat.le_refl _, fun n _ => .inl rfl⟩
    | putting x => exact ⟨[], Nat.le_refl _, fun n _ => .inl rfl⟩
    | removing x => exact ⟨[], Nat.le_refl _, fun n _ => .inl rfl⟩
    | adding x =>
      simp only [tornC, torn]
      split
      · rename_i c
        rw [if_pos c.1]
        simp only [nextP]
        refine ⟨x.file.name, wi_len' (h.rise p hp) _ _, fun n hn => ?_⟩
        rw [lk_wi]
        by_cases c2 : n = x.file.name
        · refine .inr ⟨c2, _, if_pos c2, x.file.b.take t.toNat, by rw [c2], ?_, ?_⟩
          · have := List.length_pos_iff.2 c.2
            rw [List.length_take]; omega
          · rw [List.length_take]; omega
        · rw [if_neg c2]; exact .inl rfl
      · exact ⟨[], Nat.le_refl _, fun n _ => .inl rfl⟩
theorem tornl1 {l : List Law05Call} (hl : l.length ≤ 300) (ho : ∀ x ∈ l, x.Bytes.length ≤ 40000 ∧ x.K ≤ 9223372036854775807) (cap : Int) (kj : DiskDisk → Option Bool) (hk : ∀ x, Inv 600 x → x.fuse.n = 0 → x.capacity = cap → kj x = some true) :
    ∀ (J k : Nat) (x : DiskDisk), k ≤ l.length → l.length - k < J → Inv (2 * k) x → x.fuse.n = 0 → x.capacity = cap → law05_DiskTorn_l1 l kj J (k : Int) x = some true
  | 0, k, x, h1, h2, h, hf, hc => by omega
  | J + 1, k, x, h1, h2, h, hf, hc => by
    rw [law05_DiskTorn_l1]
    by_cases c : k < l.length
    · have ek := List.getElem?_eq_getElem c
      obtain ⟨b1, b2⟩ := ho _ (List.getElem_mem c)
      generalize l[k] = cl at ek b1 b2
      rw [if_pos (by omega), geti_nat, ek, Option.bind_some, i64_id (by omega) (by omega), show (k : Int) + 1 = ((k + 1 : Nat) : Int) by omega]
      by_cases c7 : cl.Do ≠ 7
      · rw [if_pos c7, Option.bind_some, call_eq h (by omega) cl (by omega), Option.bind_some]
        exact tornl1 hl ho cap kj hk J (k + 1) _ (by omega) (by omega) (by rw [show 2 * (k + 1) = 2 * k + 2 by omega]; exact h.call cl b2) (call_fuse hf c7) (by rw [call_cap]; exact hc)
      · rw [if_neg c7]
        exact tornl1 hl ho cap kj hk J (k + 1) _ (by omega) (by omega) (h.mono (by omega)) hf hc
    · rw [if_neg (by omega)]
      exact hk x (h.mono (by omega)) hf hc
theorem start_up (d : DiskDisk) : (startT d).2.down = false := by
  unfold startT
  split
  · rfl
  · rename_i c; simpa using c
theorem start_cap (d : DiskDisk) : (startT d).2.capacity = d.capacity := by unfold startT; split <;> rfl
theorem start_fuse (d : DiskDisk) : (startT d).2.fuse = d.fuse := by unfold startT; split <;> rfl
theorem DiskTorn_pure (a : Int) (l : List Law05Call) (A t : Int) (hl : l.length ≤ 140737488351232) (ho : ∀ x ∈ l, okC x ∧ x.K ≤ 9223372036854775807) : law05_DiskTorn a l A t = some true := by
  unfold law05_DiskTorn
  by_cases c : a < 0 ∨ 65536 < a
  · rw [New_bad c, Option.bind_some, if_pos (show (1 : Int) ≠ 0 by decide), Option.bind_some, if_pos rfl, awake_true]; rfl
  · obtain ⟨v, e, hv⟩ := many_ok hl fun x hx => (ho x hx).1
    rw [New_good c, Option.bind_some, if_neg (show ¬ (0 : Int) ≠ 0 by decide), e, Option.bind_some, Option.bind_some]
    cases v with
    | true => rw [if_pos rfl, awake_true]; rfl
    | false =>
      obtain ⟨h1, h2⟩ := hv rfl
      rw [if_neg (by decide), Option.bind_some, jn_eq']
      have hFU := FU_big
      refine tornl1 h1 (fun x hx => ⟨h2 x hx, (ho x hx).2⟩) a _ ?_ FU 0 _ (by omega) (by omega) (new_inv c) rfl rfl
      intro x hx hf hcap
      have hd := hx.start
      have ud := start_up x
      have cd := start_cap x
      rw [start_eq hx, Option.bind_some]
      generalize (startT x).2 = d at hd ud cd
      have k1 := hd.crash A t
      have k0 := hd.crash A 0
      rw [crash_up ud] at k1 k0
      rw [Copy_eq hd (by omega), Option.bind_some, crash_eq hd (by omega), Option.bind_some, Option.bind_some, crash_eq hd (by omega), Option.bind_some, crash_up ud, crash_up ud, start_eq k1, Option.bind_some, start_eq k0, Option.bind_some]
      simp only [startT, if_true]
      have s1 : Inv 601 ⟨d.capacity, d.made, false, [crashP d A t], [], ⟨0, 0, 0⟩⟩ := k1.fuse (f := ⟨0, 0, 0⟩) ⟨by decide, by decide⟩ false
      have s0 : Inv 601 ⟨d.capacity, d.made, false, [crashP d A 0], [], ⟨0, 0, 0⟩⟩ := k0.fuse (f := ⟨0, 0, 0⟩) ⟨by decide, by decide⟩ false
      rw [names_eq s1 (by omega), Option.bind_some, jn_eq', up_seen rfl]
      obtain ⟨m, hm1, hm2⟩ := torn_pic hd A t
      have hlen := s1.plen _ s1.last.2
      refine torn_run (m := m) (N := 601) (x := ((0 : Int), ⟨d.capacity, d.made, false, [crashP d A t], [], ⟨0, 0, 0⟩⟩)) (y := ((0 : Int), ⟨d.capacity, d.made, false, [crashP d A 0], [], ⟨0, 0, 0⟩⟩)) s1 s0 (by omega) rfl rfl hm2 _ ?_ FU 0 0 (by omega) (by omega) (fun _ => by omega) (by omega) ?_ ?_
      · intro c hc
        have ht := seen_total s1
        rw [if_pos hc, names_eq s0 (by omega), Option.bind_some, Option.bind_some, if_pos, Bytes_eq s1 (by omega), Option.bind_some, Option.bind_some, if_pos]
        · rw [awake_true]; rfl
        · rw [decide_eq_true_iff]
          refine Int.le_trans ht ?_
          show d.capacity ≤ a
          omega
        · rw [decide_eq_true_iff, up_seen rfl]
          simp only [names, List.length_map]
          exact Int.ofNat_le.2 hm1
      · simp only [names, List.length_map]; omega
      · simp only [names, List.length_map]; omega
end Go.Proofs
