import Derived.Test.YtoeanjoenlghlaaDoorQ05F
set_option linter.unusedVariables false
set_option linter.unusedSimpArgs false
namespace Go.Proofs
open Go.Fw
/-! The document's disk. -/
def rF (f : DiskFile) : Ref05File := ⟨f.name, f.b⟩
def rP (p : Pic) : List Ref05File := p.map rF
def rM : DiskCall → Ref05File
  | .adding x => ⟨x.file.name, x.file.b⟩
  | _ => ⟨[], []⟩
def toR (d : DiskDisk) : Ref05Disk := ⟨d.capacity, d.down, d.pictures.map rP, d.calls.map rM, ⟨d.fuse.n, d.fuse.keep, d.fuse.torn⟩⟩
theorem byte_ok (x : UInt8) : nameSet.contains x = !decide ((((x.toNat : Int) ≠ 46) ∧ (((x.toNat : Int) < 48) ∨ (57 < (x.toNat : Int)))) ∧ (((x.toNat : Int) < 97) ∨ (122 < (x.toNat : Int)))) := by
  have h : ∀ k < 256, nameSet.contains (UInt8.ofNat k) = !decide ((((k : Int) ≠ 46) ∧ (((k : Int) < 48) ∨ (57 < (k : Int)))) ∧ (((k : Int) < 97) ∨ (122 < (k : Int)))) := by decide +kernel
  have := h x.toNat x.toNat_lt
  rwa [UInt8.ofNat_toNat] at this
theorem named_run {n : List UInt8} (hl : n.length ≤ 140737488355328) (kj : Unit → Option Bool) : ∀ (J k : Nat), k ≤ n.length → n.length - k < J → ref05_Named_l1 n kj J (k : Int) = if (n.drop k).all (nameSet.contains ·) = true then kj () else some false
  | 0, k, h1, h2 => by omega
  | J + 1, k, h1, h2 => by
    rw [ref05_Named_l1]
    by_cases c : k < n.length
    · rw [if_pos (by omega), geti_nat, List.getElem?_eq_getElem c, Option.bind_some, List.drop_eq_getElem_cons c, List.all_cons]
      have hb := byte_ok n[k]
      by_cases c2 : (((n[k].toNat : Int) ≠ 46) ∧ (((n[k].toNat : Int) < 48) ∨ (57 < (n[k].toNat : Int)))) ∧ (((n[k].toNat : Int) < 97) ∨ (122 < (n[k].toNat : Int)))
      · rw [if_pos c2]
        rw [decide_eq_true c2] at hb
        rw [hb]; rfl
      · rw [if_neg c2]
        rw [decide_eq_false c2] at hb
        rw [hb, i64_id (by omega) (by omega), show (k : Int) + 1 = ((k + 1 : Nat) : Int) by omega, named_run hl kj J (k + 1) (by omega) (by omega)]
        rfl
    · rw [if_neg (by omega), List.drop_eq_nil_of_le (by omega)]; rfl
theorem FU_huge : 1000000000000000 ≤ FU := Nat.le_trans (by decide) FU_ge
theorem named_eq {n : List UInt8} (hl : n.length ≤ 140737488355328) : ref05_Named n = some (nameOk n) := by
  unfold ref05_Named
  have hFU := FU_huge
  rw [jn_eq', show (0 : Int) = ((0 : Nat) : Int) from rfl, named_run hl _ FU 0 (by omega) (by omega), List.drop_zero]
  unfold nameOk
  by_cases c : n.all (nameSet.contains ·) = true
  · rw [if_pos c, c]
    congr 1
    by_cases c1 : n = []
    · subst c1; rfl
    · have := List.length_pos_iff.2 c1
      rw [Bool.and_true, decide_eq_true c1, Bool.true_and]
      by_cases c2 : n.length ≤ 16
      · rw [decide_eq_true c2]
        exact decide_eq_true ⟨by omega, by omega⟩
      · rw [decide_eq_false c2]
        exact decide_eq_false fun h => c2 (by omega)
  · rw [if_neg c]
    have : n.all (nameSet.contains ·) = false := by simpa using c
    rw [this, Bool.and_false]
theorem asks_eq (d : DiskDisk) {a b : List UInt8} (ha : a.length ≤ 140737488355328) (hb : b.length ≤ 140737488355328) : ref05_Disk_asks (toR d) a b = some (if d.down = true then 12 else if (nameOk a && nameOk b) = false then 1 else 0) := by
  unfold ref05_Disk_asks
  show (if d.down = true then _ else _) = _
  by_cases c : d.down = true
  · rw [if_pos c, if_pos c]
  · rw [if_neg c, if_neg c, named_eq ha, Option.bind_some, named_eq hb, Option.bind_some]
    cases nameOk a <;> cases nameOk b <;> rfl
theorem rseen_eq {N : Nat} {d : DiskDisk} (h : Inv N d) (hN : N ≤ 9000) : ref05_Disk_Seen (toR d) = some (rP (lastP d)) := by
  unfold ref05_Disk_Seen
  have hl := h.len
  have hc := h.cl
  show (geti (d.pictures.map rP) (i64 (((d.pictures.map rP).length : Int) - 1))).bind _ = _
  rw [List.length_map, i64_id (by omega) (by omega), show (d.pictures.length : Int) - 1 = ((d.calls.length : Nat) : Int) by omega, geti_nat, List.getElem?_map, h.last.1]
  rfl
theorem rfind_run {p : Pic} (hl : p.length ≤ 100000) (n : List UInt8) (kj : Unit → Option (List UInt8 × Bool)) : ∀ (J k : Nat), k ≤ p.length → p.length - k < J → ref05_Find_l1 (rP p) n kj J (k : Int) = match lk (p.drop k) n with | none => kj () | some b => some (b, true)
  | 0, k, h1, h2 => by omega
  | J + 1, k, h1, h2 => by
    rw [ref05_Find_l1]
    have hr : (rP p).length = p.length := by unfold rP; rw [List.length_map]
    by_cases c : k < p.length
    · have e : (rP p)[k]? = some (rF p[k]) := by unfold rP; rw [List.getElem?_map, List.getElem?_eq_getElem c]; rfl
      rw [if_pos (by rw [hr]; omega), geti_nat, e, Option.bind_some, Option.bind_some, List.drop_eq_getElem_cons c, lk_cons]
      by_cases c2 : p[k].name = n
      · rw [if_pos (show (rF p[k]).Name = n from c2), if_pos c2]; rfl
      · rw [if_neg (show ¬ (rF p[k]).Name = n from c2), if_neg c2, i64_id (by omega) (by omega), show (k : Int) + 1 = ((k + 1 : Nat) : Int) by omega]
        exact rfind_run hl n kj J (k + 1) (by omega) (by omega)
    · rw [if_neg (by rw [hr]; omega), List.drop_eq_nil_of_le (by omega)]; rfl
theorem rfind_eq {p : Pic} (hl : p.length ≤ 100000) (n : List UInt8) : ref05_Find (rP p) n = some (get p n, (lk p n).isSome) := by
  unfold ref05_Find
  have hFU := FU_huge
  rw [jn_eq', show (0 : Int) = ((0 : Nat) : Int) from rfl, rfind_run hl n _ FU 0 (by omega) (by omega), List.drop_zero]
  unfold get
  cases lk p n <;> rfl
theorem rwo_run {p : Pic} (hl : p.length ≤ 100000) (n : List UInt8) (kj : List Ref05File → Option (List Ref05File)) : ∀ (J k : Nat) (r : List Ref05File), k ≤ p.length → p.length - k < J → r.length ≤ k → ref05_Without_l1 (rP p) n kj J r (k : Int) = kj (r ++ rP (wo (p.drop k) n))
  | 0, k, r, h1, h2, h3 => by omega
  | J + 1, k, r, h1, h2, h3 => by
    rw [ref05_Without_l1]
    have hr : (rP p).length = p.length := by unfold rP; rw [List.length_map]
    by_cases c : k < p.length
    · have e : (rP p)[k]? = some (rF p[k]) := by unfold rP; rw [List.getElem?_map, List.getElem?_eq_getElem c]; rfl
      rw [if_pos (by rw [hr]; omega), geti_nat, e, Option.bind_some, Option.bind_some, List.drop_eq_getElem_cons c, wo_cons, i64_id (by omega) (by omega), show (k : Int) + 1 = ((k + 1 : Nat) : Int) by omega]
      by_cases c2 : p[k].name = n
      · rw [if_neg (show ¬ (rF p[k]).Name ≠ n from fun h => h c2), if_pos c2]
        exact rwo_run hl n kj J (k + 1) r (by omega) (by omega) (by omega)
      · rw [if_pos (show (rF p[k]).Name ≠ n from c2), if_neg c2, app_ok _ _ (by simp; omega) (by decide), Option.bind_some, rwo_run hl n kj J (k + 1) _ (by omega) (by omega) (by simp; omega)]
        simp [rP]
    · rw [if_neg (by rw [hr]; omega), List.drop_eq_nil_of_le (by omega)]; simp [rP, wo_nil]
theorem rwo_eq {p : Pic} (hl : p.length ≤ 100000) (n : List UInt8) : ref05_Without (rP p) n = some (rP (wo p n)) := by
  unfold ref05_Without
  have hFU := FU_huge
  rw [jn_eq', show (0 : Int) = ((0 : Nat) : Int) from rfl, rwo_run hl n _ FU 0 [] (by omega) (by omega) (by simp), List.drop_zero]
  rfl
/-- Where a file is put in, of a row in which its name is not. -/
def insq (q : Pic) (n b : List UInt8) : Bool → Pic
  | true => q
  | false => q.take (lb q n) ++ ⟨n, b⟩ :: q.drop (lb q n)
theorem insq_cons (f : DiskFile) (q : Pic) (n b : List UInt8) : insq (f :: q) n b false = if nlt f.name n then f :: insq q n b false else ⟨n, b⟩ :: f :: q := by
  unfold insq
  simp only
  rw [lb_cons]
  split <;> simp
theorem rwi_run {q : Pic} (hl : q.length ≤ 100000) {n b : List UInt8} (hb : b.length ≤ 1000000) (hn : ∀ f ∈ q, f.name ≠ n) (kj : List Ref05File → Bool → Option (List Ref05File)) (hk : ∀ r s, r.length ≤ 300000 → kj r s = some (if s = true then r else r ++ [⟨n, b⟩])) :
    ∀ (J k : Nat) (r : List Ref05File) (s : Bool), k ≤ q.length → q.length - k < J → r.length ≤ 2 * k + 1 → ref05_With_l1 (rP q) n b kj J r s (k : Int) = some (r ++ rP (insq (q.drop k) n b s))
  | 0, k, r, s, h1, h2, h3 => by omega
  | J + 1, k, r, s, h1, h2, h3 => by
    rw [ref05_With_l1]
    have hr : (rP q).length = q.length := by unfold rP; rw [List.length_map]
    by_cases c : k < q.length
    · have e : (rP q)[k]? = some (rF q[k]) := by unfold rP; rw [List.getElem?_map, List.getElem?_eq_getElem c]; rfl
      rw [if_pos (by rw [hr]; omega), jn_eq', geti_nat, e, Option.bind_some, List.drop_eq_getElem_cons c, i64_id (by omega) (by omega), show (k : Int) + 1 = ((k + 1 : Nat) : Int) by omega]
      cases s with
      | true =>
        rw [if_neg (by decide), Option.bind_some, if_neg (by decide)]
        simp only [Option.bind_some]
        rw [app_ok _ _ (by simp; omega) (by decide), Option.bind_some, rwi_run hl hb hn kj hk J (k + 1) _ _ (by omega) (by omega) (by simp; omega)]
        simp only [insq, rP, List.map_cons, List.append_assoc, List.cons_append, List.nil_append]
      | false =>
        rw [if_pos (by decide), Option.bind_some, less_nlt, insq_cons]
        have hne := hn _ (List.getElem_mem c)
        by_cases c2 : nlt q[k].name n
        · have c3 : ¬ nlt n (rF q[k]).Name := nlt_asymm c2
          rw [if_pos c2, decide_eq_false c3, if_neg (by decide)]
          simp only [Option.bind_some]
          rw [app_ok _ _ (by simp; omega) (by decide), Option.bind_some, rwi_run hl hb hn kj hk J (k + 1) _ _ (by omega) (by omega) (by simp; omega)]
          simp [rP]
        · have c3 : nlt n (rF q[k]).Name := by
            rcases nlt_total q[k].name n with h | h | h
            · exact absurd h c2
            · exact absurd h hne
            · exact h
          have e1 : app 140737488355328 ([] : List UInt8) b = some b := lim_app _ _ (by simp only [List.length_nil]; omega)
          have e2 := rwi_run hl hb hn kj hk J (k + 1) (r ++ [⟨n, b⟩] ++ [rF q[k]]) true (by omega) (by omega) (by simp; omega)
          rw [if_neg c2, decide_eq_true c3, if_pos rfl, e1, Option.bind_some, app_ok _ _ (by simp; omega) (by decide)]
          simp only [Option.bind_some]
          rw [app_ok _ _ (by simp; omega) (by decide), Option.bind_some, e2]
          simp only [insq, rP, List.map_cons, List.append_assoc, List.cons_append, List.nil_append]
          rfl
    · rw [if_neg (by rw [hr]; omega), List.drop_eq_nil_of_le (by omega)]
      rw [hk r s (by omega)]
      cases s <;> simp [insq, rP, lb, rF]
end Go.Proofs
