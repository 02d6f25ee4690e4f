import Derived.Test.YtoeanjoenlghlaaDoorQ05H
set_option linter.unusedVariables false
set_option linter.unusedSimpArgs false
namespace Go.Proofs
open Go.Fw
theorem names_l1_eq (l : List Law05Call) (kj : DiskDisk → Option Bool) : ∀ (J : Nat) (k : Int) (x : DiskDisk), law05_DiskNames_l1 l kj J k x = law05_DiskTorn_l1 l kj J k x
  | 0, k, x => rfl
  | J + 1, k, x => by
    rw [law05_DiskNames_l1, law05_DiskTorn_l1]
    simp only [names_l1_eq l kj J]
theorem rise_run {l : List (List UInt8)} (hl : l.length ≤ 100000) (hr : l.Pairwise nlt) (kj : Unit → Option Bool) : ∀ (J k : Nat), 1 ≤ k → l.length + 1 - k < J → law05_DiskNames_l2 l kj J (k : Int) = kj ()
  | 0, k, h1, h2 => by omega
  | J + 1, k, h1, h2 => by
    rw [law05_DiskNames_l2]
    by_cases c : k < l.length
    · have h3 := List.pairwise_iff_getElem.1 hr (k - 1) k (by omega) c (by omega)
      rw [if_pos (by omega), i64_id (by omega) (by omega), show (k : Int) - 1 = ((k - 1 : Nat) : Int) by omega, geti_nat, List.getElem?_eq_getElem (show k - 1 < l.length by omega), Option.bind_some, geti_nat, List.getElem?_eq_getElem c, Option.bind_some, less_nlt, if_neg (by simpa using h3), i64_id (by omega) (by omega), show (k : Int) + 1 = ((k + 1 : Nat) : Int) by omega]
      exact rise_run hl hr kj J (k + 1) (by omega) (by omega)
    · rw [if_neg (by omega)]
theorem total_name {p : Pic} (hr : Rise p) (a b : List UInt8) : total (wi (wo p a) b (get p a)) ≤ total p := by
  have h1 := total_wi (wo_rise (n := a) hr) b (get p a)
  have h2 := total_wo hr a
  omega
theorem rename_up {N : Nat} {d : DiskDisk} (h : Inv N d) (hd : d.down = false) (hf : d.fuse.n = 0) (a b : List UInt8) : renameT d a b = if (nameOk a && nameOk b) = false then (1, d) else if lk (lastP d) a = none then (4, d) else if a = b then (0, d) else (0, grown d (.naming ⟨a, b⟩)) := by
  unfold renameT
  have h1 := total_name h.lrise a b
  have h2 := h.tot _ h.last.2
  have h3 : doesT d (.naming ⟨a, b⟩) = (0, grown d (.naming ⟨a, b⟩)) := by
    unfold doesT
    rw [if_neg (by simp only [nextP]; omega), burn0 (show (grown d (.naming ⟨a, b⟩)).fuse.n = 0 from hf)]
  rw [if_neg (by rw [hd]; decide), burn0 hf, h3]
theorem wo_len_some {p : Pic} (hr : Rise p) {n b : List UInt8} (h : lk p n = some b) : (wo p n).length + 1 = p.length := by
  induction p with
  | nil => cases h
  | cons f p ih =>
    have hr' := List.pairwise_cons.1 hr
    rw [lk_cons] at h
    rw [wo_cons]
    by_cases c : f.name = n
    · rw [if_pos c, wo_self (lk_none.2 fun x hx e => (nlt_ne (hr'.1 x hx)) (by rw [c, e]))]; simp
    · rw [if_neg c] at h ⊢
      have := ih hr'.2 h
      simp only [List.length_cons]; omega
theorem wi_len_eq (p : Pic) (n b : List UInt8) : (wi p n b).length = (wo p n).length + 1 := by
  unfold wi
  have := lb_le (wo p n) n
  rw [List.length_append, List.length_cons, List.length_take, List.length_drop]; omega
def rdO (o : Option (List UInt8)) : List UInt8 × Int := match o with | none => ([], 4) | some b => (b, 0)
theorem names_core {N : Nat} {d : DiskDisk} (hd : Inv N d) (hN : N ≤ 8000) (ud : d.down = false) (hf : d.fuse.n = 0) (A B : List UInt8) : ((disk_Disk_Read d A).bind fun x22 => (disk_Disk_Read d B).bind fun x23 => (disk_Disk_Rename d A B).bind fun x24 => if x24.1 ≠ 0 then (law05_alike d x24.2).bind fun x25 => (if (x25 = true) ∧ ((x22.2 ≠ 0) ∨ (x23.2 = 1)) then (law05_awake).bind fun x27 => some x27 else some false).bind fun x26 => some x26 else (disk_Disk_Read x24.2 B).bind fun x28 => (if ((x22.2 ≠ 0) ∨ (x28.2 ≠ 0)) ∨ (x28.1 ≠ x22.1) then some true else (if A ≠ B then (disk_Disk_Size x24.2 A).bind fun x31 => some (decide (x31 ≠ 0)) else some false).bind fun x30 => some x30).bind fun x29 => if x29 = true then some false else if x23.2 = 4 then (disk_Disk_Rename x24.2 B A).bind fun x32 => (if x32.1 = 0 then (law05_alike d x32.2).bind fun x34 => some x34 else some false).bind fun x33 => (if x33 = true then (law05_awake).bind fun x36 => some x36 else some false).bind fun x35 => some x35 else (disk_Disk_Names x24.2).bind fun x37 => (if (x37.length : Int) = ((names (lastP d)).length : Int) then some true else (if A ≠ B then (disk_Disk_Names x24.2).bind fun x40 => some (decide ((x40.length : Int) = i64 (((names (lastP d)).length : Int) - 1))) else some false).bind fun x39 => some x39).bind fun x38 => (if x38 = true then (law05_awake).bind fun x42 => some x42 else some false).bind fun x41 => some x41) = some true := by
  have hnd : ¬ d.down = true := by rw [ud]; decide
  rw [read_eq hd (by omega), Option.bind_some, read_eq hd (by omega), Option.bind_some, rename_eq hd (by omega), Option.bind_some, rename_up hd ud hf]
  by_cases c1 : (nameOk A && nameOk B) = false
  · have hr : (readT d A).2 ≠ 0 ∨ (readT d B).2 = 1 := by
      by_cases c2 : nameOk A = false
      · left; unfold readT; rw [if_neg hnd, if_pos c2]; decide
      · right
        have c3 : nameOk B = false := by simp at c1 c2; exact c1 c2
        unfold readT; rw [if_neg hnd, if_pos c3]
    rw [if_pos c1, if_pos (show (1 : Int) ≠ 0 by decide), alike_same hd hd (by omega) (by omega) ud ud rfl, Option.bind_some, if_pos ⟨rfl, hr⟩, awake_true]; rfl
  · have cA : nameOk A = true := by simp at c1; exact c1.1
    have cB : nameOk B = true := by simp at c1; exact c1.2
    have nA : ¬ nameOk A = false := by rw [cA]; decide
    have nB : ¬ nameOk B = false := by rw [cB]; decide
    have rA : readT d A = rdO (lk (lastP d) A) := by unfold readT; rw [if_neg hnd, if_neg nA]; cases lk (lastP d) A <;> rfl
    have rB : readT d B = rdO (lk (lastP d) B) := by unfold readT; rw [if_neg hnd, if_neg nB]; cases lk (lastP d) B <;> rfl
    rw [if_neg c1]
    cases eA : lk (lastP d) A with
    | none =>
      rw [eA] at rA
      simp only [rdO] at rA
      rw [if_pos rfl, if_pos (show (4 : Int) ≠ 0 by decide), alike_same hd hd (by omega) (by omega) ud ud rfl, Option.bind_some, rA, if_pos ⟨rfl, .inl (by decide)⟩, awake_true]; rfl
    | some b =>
      rw [eA] at rA
      simp only [rdO] at rA
      rw [if_neg (show ¬ some b = none by simp), rA]
      by_cases cAB : A = B
      · subst cAB
        rw [if_pos rfl, if_neg (show ¬ (0 : Int) ≠ 0 by decide)]
        simp only
        rw [read_eq hd (by omega), Option.bind_some, rA, if_neg (by simp), if_neg (by simp), Option.bind_some, Option.bind_some, if_neg (by decide), if_neg (show ¬ (0 : Int) = 4 by decide), names_eq hd (by omega), Option.bind_some, up_seen ud, if_pos rfl, Option.bind_some, if_pos rfl, awake_true]; rfl
      · have hp := hd.lrise
        have hg := hd.grown (c := .naming ⟨A, B⟩) (by simp only [nextP]; have := total_name hp A B; have := hd.tot _ hd.last.2; omega) cB
        have hl := lastP_grown hd (.naming ⟨A, B⟩)
        have gA : get (lastP d) A = b := by unfold get; rw [eA]; rfl
        simp only [nextP, gA] at hl
        have ug : (grown d (.naming ⟨A, B⟩)).down = false := ud
        have fg : (grown d (.naming ⟨A, B⟩)).fuse.n = 0 := hf
        rw [if_neg cAB, if_neg (show ¬ (0 : Int) ≠ 0 by decide)]
        simp only
        generalize hgd : grown d (.naming ⟨A, B⟩) = g at hg hl ug fg
        have ng : ¬ g.down = true := by rw [ug]; decide
        have rg : readT g B = (b, 0) := by unfold readT; rw [if_neg ng, if_neg nB, hl, lk_wi, if_pos rfl]
        have sA : get (seenT g) A = [] := by rw [up_seen ug, hl, get_wi, if_neg cAB, get_wo, if_pos rfl]
        rw [read_eq hg (by omega), Option.bind_some, rg, if_neg (by simp), if_pos cAB, Size_eq hg (by omega), sA, Option.bind_some]
        simp only [List.length_nil, Int.ofNat_zero, ne_eq, not_true, decide_false, Option.bind_some, Bool.false_eq_true, if_false, Int.natCast_zero]
        by_cases cb : (readT d B).2 = 4
        · have eB : lk (lastP d) B = none := by
            rw [rB] at cb
            unfold rdO at cb
            cases e : lk (lastP d) B with
            | none => rfl
            | some y => rw [e] at cb; exact absurd (show (0 : Int) = 4 from cb) (by decide)
          have hg2 := hg.grown (c := .naming ⟨B, A⟩) (by simp only [nextP]; have := total_name hg.lrise B A; have := hg.tot _ hg.last.2; omega) cA
          have hl2 := lastP_grown hg (.naming ⟨B, A⟩)
          have hsame : lastP d = lastP (grown g (.naming ⟨B, A⟩)) := by
            refine pic_ext hp hg2.lrise fun m => ?_
            rw [hl2]
            simp only [nextP]
            rw [lk_wi, lk_wo, hl, lk_wi, lk_wo, get_wi, if_pos rfl]
            by_cases m1 : m = A
            · rw [if_pos m1, m1, eA]
            · rw [if_neg m1]
              by_cases m2 : m = B
              · rw [if_pos m2, m2, eB]
              · rw [if_neg m2, if_neg m2, if_neg m1]
          have hren : renameT g B A = (0, grown g (.naming ⟨B, A⟩)) := by
            have n1 : ¬ lk (lastP g) B = none := by rw [hl, lk_wi, if_pos rfl]; simp
            have n2 : ¬ B = A := fun e => cAB e.symm
            rw [rename_up hg ug fg, cA, cB, if_neg (show ¬ (true && true) = false by decide), if_neg n1, if_neg n2]
          rw [if_pos cb, rename_eq hg (by omega), Option.bind_some, hren, if_pos rfl, alike_same hd hg2 (by omega) (by omega) ud ug hsame, Option.bind_some, Option.bind_some, if_pos rfl, awake_true]; rfl
        · have eB : ∃ y, lk (lastP d) B = some y := by
            rw [rB] at cb
            unfold rdO at cb
            cases e : lk (lastP d) B with
            | none => rw [e] at cb; exact absurd rfl cb
            | some y => exact ⟨y, rfl⟩
          obtain ⟨y, eB⟩ := eB
          have h1 := wo_len_some hp eA
          have h2 := wo_len_some (wo_rise (n := A) hp) (n := B) (b := y) (by rw [lk_wo, if_neg (fun e => cAB e.symm)]; exact eB)
          have h3 := wi_len_eq (wo (lastP d) A) B b
          have h4 := hd.plen _ hd.last.2
          have e1 : (names (lastP g)).length = (lastP d).length - 1 := by simp only [names, List.length_map]; rw [hl]; omega
          have e2 : (names (lastP d)).length = (lastP d).length := by simp only [names, List.length_map]
          rw [if_neg cb, names_eq hg (by omega), Option.bind_some, up_seen ug, e1, e2, if_neg (by omega), if_pos cAB, Option.bind_some, Option.bind_some, Option.bind_some, i64_id (by omega) (by omega), if_pos (by rw [decide_eq_true_iff]; omega), awake_true]; rfl
theorem DiskNames_pure (a : Int) (l : List Law05Call) (A B : List UInt8) (hl : l.length ≤ 140737488351232) (ho : ∀ x ∈ l, okC x ∧ x.K ≤ 9223372036854775807) : law05_DiskNames a l A B = some true := by
  unfold law05_DiskNames
  by_cases c : a < 0 ∨ 65536 < a
  · rw [New_bad c, Option.bind_some, if_pos (show (1 : Int) ≠ 0 by decide), Option.bind_some, if_pos (.inl (.inl rfl)), awake_true]; rfl
  · obtain ⟨v, e, hv⟩ := many_ok hl fun x hx => (ho x hx).1
    rw [New_good c, Option.bind_some, if_neg (show ¬ (0 : Int) ≠ 0 by decide), e, Option.bind_some, Option.bind_some]
    by_cases c2 : (v = true ∨ 100 < (A.length : Int)) ∨ 100 < (B.length : Int)
    · rw [if_pos c2, awake_true]; rfl
    · have hvf : v = false := by cases v with | false => rfl | true => exact absurd (.inl (.inl rfl)) c2
      obtain ⟨h1, h2⟩ := hv hvf
      rw [if_neg c2, Option.bind_some, jn_eq', names_l1_eq]
      have hFU := FU_big
      refine tornl1 h1 (fun x hx => ⟨h2 x hx, (ho x hx).2⟩) a _ ?_ FU 0 _ (by omega) (by omega) (new_inv c) rfl rfl
      intro x hx hf hcap
      have hd := hx.start
      have ud := start_up x
      have fd : (startT x).2.fuse.n = 0 := by rw [start_fuse]; exact hf
      rw [start_eq hx, Option.bind_some]
      generalize (startT x).2 = d at hd ud fd
      have hd2 : Inv 600 ⟨d.capacity, d.made, d.down, d.pictures, d.calls, ⟨0, 0, 0⟩⟩ := hd.fuse (f := ⟨0, 0, 0⟩) ⟨by decide, by decide⟩ d.down
      rw [fuse_eq hd, Option.bind_some]
      unfold fuseT
      rw [if_neg (by rw [ud]; decide), if_neg (by decide)]
      simp only
      have ud2 : (⟨d.capacity, d.made, d.down, d.pictures, d.calls, ⟨0, 0, 0⟩⟩ : DiskDisk).down = false := ud
      have fd2 : (⟨d.capacity, d.made, d.down, d.pictures, d.calls, ⟨0, 0, 0⟩⟩ : DiskDisk).fuse.n = 0 := rfl
      generalize (⟨d.capacity, d.made, d.down, d.pictures, d.calls, ⟨0, 0, 0⟩⟩ : DiskDisk) = g at hd2 ud2 fd2
      have hpl := hd2.plen _ hd2.last.2
      rw [Copy_eq hd2 (by omega), Option.bind_some, names_eq hd2 (by omega), Option.bind_some, Option.bind_some, jn_eq', up_seen ud2, show (1 : Int) = ((1 : Nat) : Int) from rfl]
      rw [rise_run (by simp only [names, List.length_map]; omega) (by unfold names; rw [List.pairwise_map]; exact hd2.lrise) _ FU 1 (by omega) (by simp only [names, List.length_map]; omega)]
      exact names_core hd2 (by omega) ud2 fd2 A B
end Go.Proofs
