import Derived.Test.YtoeanjoenlghlaaDoorQ05L
set_option linter.unusedVariables false
set_option linter.unusedSimpArgs false
namespace Go.Proofs
open Go.Fw
theorem shows_run {N : Nat} {d : DiskDisk} (h : Inv N d) (hN : N ≤ 8000) (ud : d.down = false) (v : Bool) : ∀ (J k : Nat), k ≤ (lastP d).length → (lastP d).length - k < J → law05_shows_l1 (rP (lastP d)) d (names (lastP d)) (fun _ => some v) J (k : Int) = some v
  | 0, k, h1, h2 => by omega
  | J + 1, k, h1, h2 => by
    rw [law05_shows_l1]
    have hp := h.plen _ h.last.2
    have hr : (rP (lastP d)).length = (lastP d).length := by unfold rP; rw [List.length_map]
    by_cases c : k < (lastP d).length
    · have ek := List.getElem?_eq_getElem c
      have e : (rP (lastP d))[k]? = some (rF (lastP d)[k]) := by unfold rP; rw [List.getElem?_map, ek]; rfl
      have e2 : (names (lastP d))[k]? = some (lastP d)[k].name := by unfold names; rw [List.getElem?_map, ek]; rfl
      have hl := lk_at h.lrise ek
      have hnm := h.nms _ h.last.2 _ (List.getElem_mem c)
      generalize (lastP d)[k] = f at ek e e2 hl hnm
      have hrd : readT d f.name = (f.b, 0) := by unfold readT; rw [if_neg (by rw [ud]; decide), if_neg (by rw [hnm]; decide), hl]
      have hg : get (seenT d) f.name = f.b := by rw [up_seen ud]; unfold get; rw [hl]; rfl
      rw [if_pos (by rw [hr]; omega), geti_nat, e, Option.bind_some]
      show (disk_Disk_Read d f.name).bind _ = _
      rw [read_eq h (by omega), Option.bind_some, geti_nat, e2, Option.bind_some, Option.bind_some, hrd, if_neg (show ¬ f.name ≠ (rF f).Name from fun h => h rfl), if_neg (show ¬ (0 : Int) ≠ 0 by decide), Option.bind_some, if_neg (show ¬ f.b ≠ (rF f).Bytes from fun h => h rfl), Option.bind_some, Size_eq h (by omega), Option.bind_some, hg, if_neg (show ¬ (f.b.length : Int) ≠ (f.b.length : Int) from fun h => h rfl), i64_id (by omega) (by omega), show (k : Int) + 1 = ((k + 1 : Nat) : Int) by omega]
      exact shows_run h hN ud v J (k + 1) (by omega) (by omega)
    · rw [if_neg (by rw [hr]; omega)]
theorem shows_eq {N : Nat} {d : DiskDisk} (h : Inv N d) (hN : N ≤ 8000) : law05_shows d (toR d) = some true := by
  unfold law05_shows
  have h1 := h.plen _ h.last.2
  have h2 := h.tot _ h.last.2
  have h3 := h.c1
  rw [names_eq h (by omega), Option.bind_some, down_eq h, Bytes_eq h (by omega), Waits_eq h, Capacity_eq h, rseen_eq h (by omega)]
  show (if d.down = true then _ else _) = _
  by_cases c : d.down = true
  · have e : seenT d = [] := by unfold seenT; rw [if_pos c]
    rw [if_pos c, e]
    simp only [Option.bind_some]
    rw [if_pos c, if_pos (by rfl), if_pos (by rfl), if_pos c, if_pos rfl]
    show some (decide (d.capacity = d.capacity)) = _
    rw [decide_eq_true rfl]
  · have ud : d.down = false := by simpa using c
    have hFU := FU_huge
    have hm : (((toR d).Made.length : Nat) : Int) = (d.calls.length : Int) := by show (((d.calls.map rM).length : Nat) : Int) = _; rw [List.length_map]
    have hl : ((names (seenT d)).length : Int) = ((rP (lastP d)).length : Int) := by rw [up_seen ud]; simp [names, rP]
    rw [if_neg c]
    simp only [Option.bind_some]
    rw [if_neg c, if_neg (by rw [hl]; exact fun h => h rfl), rsize_eq (by omega) (by omega), Option.bind_some, up_seen ud, if_neg (fun h => h rfl), if_neg c, hm, if_neg (fun h => h rfl), if_neg (show ¬ d.capacity ≠ (toR d).Most from fun h => h rfl), jn_eq']
    exact shows_run h hN ud true FU 0 (by omega) (by omega)
theorem spoil2_eq {v : Option Bool} : ∀ (J : Nat) (i : Int) (l : List UInt8), 0 ≤ i → i ≤ l.length → l.length ≤ 1000000 → l.length - i < J → law05_DiskCalls_l2 (fun _ => v) J i l = v
  | 0, i, l, h0, h1, h2, h3 => by omega
  | J + 1, i, l, h0, h1, h2, h3 => by
    rw [law05_DiskCalls_l2]
    by_cases c : i < (l.length : Int)
    · obtain ⟨x, e, _, _⟩ := geti_at h0 c
      rw [if_pos c, e, Option.bind_some, Option.bind_some, i64_id (by omega) (by omega)]
      exact spoil2_eq J _ _ (by omega) (by rw [List.length_set]; omega) (by rw [List.length_set]; omega) (by rw [List.length_set]; omega)
    · rw [if_neg c]
theorem calls_run {l : List Law05Call} (hl : l.length ≤ 300) (ho : ∀ x ∈ l, x.Bytes.length ≤ 40000 ∧ x.K ≤ 9223372036854775807 ∧ okC x) (kj : DiskDisk → Ref05Disk → Option Bool) (hk : ∀ x y, kj x y = some true) :
    ∀ (J k : Nat) (x : DiskDisk), k ≤ l.length → l.length - k < J → Inv (2 * k) x → law05_DiskCalls_l1 l kj J (k : Int) x (toR x) = some true
  | 0, k, x, h1, h2, h => by omega
  | J + 1, k, x, h1, h2, h => by
    rw [law05_DiskCalls_l1, jn_eq']
    by_cases c : k < l.length
    · have ek := List.getElem?_eq_getElem c
      obtain ⟨b1, b2, b3⟩ := ho _ (List.getElem_mem c)
      generalize l[k] = cl at ek b1 b2 b3
      have hn := h.call cl b2
      have hFU := FU_huge
      have e1 : app 140737488355328 ([] : List UInt8) cl.Bytes = some cl.Bytes := lim_app _ _ (by simp only [List.length_nil]; omega)
      rw [if_pos (by omega), jn_eq', geti_nat, ek, Option.bind_some, e1, Option.bind_some]
      show (law05_call x cl).bind _ = _
      rw [call_eq h (by omega) cl (by omega), Option.bind_some, jn_eq']
      simp only [Option.bind_some]
      rw [spoil2_eq FU 0 cl.Bytes (by omega) (by omega) (by omega) (by omega), meant_eq h (by omega) b3 (by omega), Option.bind_some, if_neg (fun h => h rfl), shows_eq hn (by omega), Option.bind_some, Option.bind_some, if_neg (by decide), i64_id (by omega) (by omega), show (k : Int) + 1 = ((k + 1 : Nat) : Int) by omega]
      exact calls_run hl ho kj hk J (k + 1) _ (by omega) (by omega) (by rw [show 2 * (k + 1) = 2 * k + 2 by omega]; exact hn)
    · rw [if_neg (by omega)]
      exact hk _ _
theorem RNew_bad {a : Int} (h : a < 0 ∨ 65536 < a) : ref05_New a = some none := by unfold ref05_New; rw [if_pos h]
theorem RNew_good {a : Int} (h : ¬ (a < 0 ∨ 65536 < a)) : ref05_New a = some (some (toR (newD a))) := by unfold ref05_New; rw [if_neg h]; rfl
theorem DiskCalls_pure (a : Int) (l : List Law05Call) (hl : l.length ≤ 140737488351232) (ho : ∀ x ∈ l, okC x ∧ x.K ≤ 9223372036854775807) : law05_DiskCalls a l = some true := by
  unfold law05_DiskCalls
  by_cases c : a < 0 ∨ 65536 < a
  · rw [New_bad c, RNew_bad c, Option.bind_some, Option.bind_some]
    simp [oc, awake_true]
  · obtain ⟨v, e, hv⟩ := many_ok hl fun x hx => (ho x hx).1
    rw [New_good c, RNew_good c, Option.bind_some, Option.bind_some]
    simp only [oc]
    rw [e, Option.bind_some]
    cases v with
    | true => rw [if_pos rfl, awake_true]; rfl
    | false =>
      obtain ⟨h1, h2⟩ := hv rfl
      have hFU := FU_huge
      rw [if_neg (by decide), if_neg (by simp), jn_eq']
      exact calls_run h1 (fun x hx => ⟨h2 x hx, (ho x hx).2, (ho x hx).1⟩) _ (fun x y => by rw [awake_true]; rfl) FU 0 _ (by omega) (by omega) (new_inv c)
theorem apart_l1 {l : List Law05Call} (hl : l.length ≤ 300) (ho : ∀ x ∈ l, x.Bytes.length ≤ 40000 ∧ x.K ≤ 9223372036854775807 ∧ okC x) (kj : DiskDisk → Ref05Disk → Option Bool) (hk : ∀ x, Inv 600 x → kj x (toR x) = some true) :
    ∀ (J k : Nat) (x : DiskDisk), k ≤ l.length → l.length - k < J → Inv (2 * k) x → law05_DiskApart_l1 l kj J (k : Int) x (toR x) = some true
  | 0, k, x, h1, h2, h => by omega
  | J + 1, k, x, h1, h2, h => by
    rw [law05_DiskApart_l1]
    by_cases c : k < l.length
    · have ek := List.getElem?_eq_getElem c
      obtain ⟨b1, b2, b3⟩ := ho _ (List.getElem_mem c)
      generalize l[k] = cl at ek b1 b2 b3
      have hn := h.call cl b2
      rw [if_pos (by omega), geti_nat, ek, Option.bind_some, call_eq h (by omega) cl (by omega), Option.bind_some, Option.bind_some, meant_eq h (by omega) b3 (by omega), Option.bind_some, i64_id (by omega) (by omega), show (k : Int) + 1 = ((k + 1 : Nat) : Int) by omega]
      exact apart_l1 hl ho kj hk J (k + 1) _ (by omega) (by omega) (by rw [show 2 * (k + 1) = 2 * k + 2 by omega]; exact hn)
    · rw [if_neg (by omega)]
      exact hk _ (h.mono (by omega))
def okL (l : List Law05Call) : Prop := l.length ≤ 300 ∧ ∀ x ∈ l, x.Bytes.length ≤ 40000 ∧ x.K ≤ 9223372036854775807 ∧ okC x
theorem apart_l2 {l m : List Law05Call} (hl : okL l) (hm : okL m) (kj : DiskDisk → Int → Bool → (List (List Ref05File)) → (List Ref05File) → Int → Int → Int → DiskDisk → Int → Bool → (List (List Ref05File)) → (List Ref05File) → Int → Int → Int → Option Bool)
    (hk : ∀ x y, Inv 1200 x → Inv 1200 y → kj x x.capacity x.down (x.pictures.map rP) (x.calls.map rM) x.fuse.n x.fuse.keep x.fuse.torn y y.capacity y.down (y.pictures.map rP) (y.calls.map rM) y.fuse.n y.fuse.keep y.fuse.torn = some true) :
    ∀ (J k : Nat) (x y : DiskDisk), 300 - k < J → k ≤ 300 → Inv (600 + 2 * k) x → Inv (600 + 2 * k) y → law05_DiskApart_l2 l m kj J (k : Int) x x.capacity x.down (x.pictures.map rP) (x.calls.map rM) x.fuse.n x.fuse.keep x.fuse.torn y y.capacity y.down (y.pictures.map rP) (y.calls.map rM) y.fuse.n y.fuse.keep y.fuse.torn = some true
  | 0, k, x, y, h1, h2, hx, hy => by omega
  | J + 1, k, x, y, h1, h2, hx, hy => by
    rw [law05_DiskApart_l2]
    have hl1 := hl.1
    have hm1 := hm.1
    have one : ∀ (q : List Law05Call) (_ : okL q) (z : DiskDisk) (_ : Inv (600 + 2 * k) z) (c : k < q.length), ∃ cl, q[k]? = some cl ∧ Inv (600 + 2 * (k + 1)) (callT z cl).2 ∧ law05_call z cl = some (callT z cl) ∧ law05_meant (⟨z.capacity, z.down, z.pictures.map rP, z.calls.map rM, (⟨z.fuse.n, z.fuse.keep, z.fuse.torn⟩ : St66)⟩ : Ref05Disk) cl = some ((callT z cl).1, toR (callT z cl).2) := by
      intro q hq z hz c
      obtain ⟨b1, b2, b3⟩ := hq.2 _ (List.getElem_mem c)
      exact ⟨q[k], List.getElem?_eq_getElem c, hz.call _ b2, call_eq hz (by omega) _ (by omega), meant_eq hz (by omega) b3 (by omega)⟩
    by_cases c : k < l.length
    · obtain ⟨c1, e1, i1, f1, g1⟩ := one l hl x hx c
      rw [if_pos (.inl (by omega)), if_pos (by omega), geti_nat, e1, Option.bind_some, Option.bind_some, f1, Option.bind_some, g1, Option.bind_some, if_neg (fun h => h rfl), i64_id (by omega) (by omega), show (k : Int) + 1 = ((k + 1 : Nat) : Int) by omega]
      by_cases d : k < m.length
      · obtain ⟨c2, e2, i2, f2, g2⟩ := one m hm y hy d
        rw [if_pos (by omega), geti_nat, e2, Option.bind_some, Option.bind_some, f2, Option.bind_some, g2, Option.bind_some, if_neg (fun h => h rfl)]
        exact apart_l2 hl hm kj hk J (k + 1) _ _ (by omega) (by omega) i1 i2
      · rw [if_neg (by omega)]
        exact apart_l2 hl hm kj hk J (k + 1) _ _ (by omega) (by omega) i1 (hy.mono (by omega))
    · by_cases d : k < m.length
      · obtain ⟨c2, e2, i2, f2, g2⟩ := one m hm y hy d
        rw [if_pos (.inr (by omega)), if_neg (by omega), if_pos (by omega), geti_nat, e2, Option.bind_some, Option.bind_some, f2, Option.bind_some, g2, Option.bind_some, if_neg (fun h => h rfl), i64_id (by omega) (by omega), show (k : Int) + 1 = ((k + 1 : Nat) : Int) by omega]
        exact apart_l2 hl hm kj hk J (k + 1) _ _ (by omega) (by omega) (hx.mono (by omega)) i2
      · rw [if_neg (by omega)]
        exact hk x y (hx.mono (by omega)) (hy.mono (by omega))
theorem DiskApart_pure (a : Int) (l m n : List Law05Call) (hl : l.length ≤ 140737488351232) (ho : ∀ x ∈ l, okC x ∧ x.K ≤ 9223372036854775807) (hl2 : m.length ≤ 140737488351232) (ho2 : ∀ x ∈ m, okC x ∧ x.K ≤ 9223372036854775807) (hl3 : n.length ≤ 140737488351232) (ho3 : ∀ x ∈ n, okC x ∧ x.K ≤ 9223372036854775807) : law05_DiskApart a l m n = some true := by
  unfold law05_DiskApart
  by_cases c : a < 0 ∨ 65536 < a
  · rw [New_bad c, RNew_bad c, Option.bind_some, Option.bind_some]
    simp [oc, awake_true]
  · obtain ⟨v1, e1, hv1⟩ := many_ok hl fun x hx => (ho x hx).1
    obtain ⟨v2, e2, hv2⟩ := many_ok hl2 fun x hx => (ho2 x hx).1
    obtain ⟨v3, e3, hv3⟩ := many_ok hl3 fun x hx => (ho3 x hx).1
    rw [New_good c, RNew_good c, Option.bind_some, Option.bind_some]
    simp only [oc]
    rw [if_neg (by simp), e1, Option.bind_some, Option.bind_some]
    cases v1 with
    | true => rw [if_pos rfl, Option.bind_some, if_pos rfl, Option.bind_some, if_pos rfl, awake_true]; rfl
    | false =>
      rw [if_neg (by decide), e2, Option.bind_some, Option.bind_some]
      cases v2 with
      | true => rw [if_pos rfl, Option.bind_some, if_pos rfl, awake_true]; rfl
      | false =>
        rw [if_neg (by decide), e3, Option.bind_some, Option.bind_some]
        cases v3 with
        | true => rw [if_pos rfl, awake_true]; rfl
        | false =>
          obtain ⟨p1, q1⟩ := hv1 rfl
          obtain ⟨p2, q2⟩ := hv2 rfl
          obtain ⟨p3, q3⟩ := hv3 rfl
          have hFU := FU_huge
          rw [if_neg (by decide), Option.bind_some, jn_eq']
          refine apart_l1 p1 (fun x hx => ⟨q1 x hx, (ho x hx).2, (ho x hx).1⟩) _ ?_ FU 0 _ (by omega) (by omega) (new_inv c)
          intro x hx
          rw [Copy_eq hx (by omega), Option.bind_some, Option.bind_some, jn_eq']
          refine apart_l2 (l := m) (m := n) ⟨p2, fun x hx => ⟨q2 x hx, (ho2 x hx).2, (ho2 x hx).1⟩⟩ ⟨p3, fun x hx => ⟨q3 x hx, (ho3 x hx).2, (ho3 x hx).1⟩⟩ _ ?_ FU 0 x x (by omega) (by omega) hx hx
          intro y z hy hz
          show (law05_shows y (toR y)).bind _ = _
          rw [shows_eq hy (by omega), Option.bind_some, if_pos rfl]
          show ((law05_shows z (toR z)).bind _).bind _ = _
          rw [shows_eq hz (by omega), awake_true]; rfl
end Go.Proofs
