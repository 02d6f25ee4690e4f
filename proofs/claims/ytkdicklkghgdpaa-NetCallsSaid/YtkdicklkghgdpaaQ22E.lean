import Derived.Test.YtkdicklkghgdpaaQ22D
set_option linter.unusedVariables false
set_option linter.unusedSimpArgs false
namespace Go.Proofs
open Go.Fw
theorem put_cases {n : NetNet} {rep : Int} {K : Nat} {b : Bag} (h : Inv n rep K b) {m : ApiMessage} (hm : Vm rep m) (hK : K < 1000000) : net_Net_put n m = some (0, 3, n) ∨ ∃ n', net_Net_put n m = some (UInt64.ofNat (K + 1), 0, n') ∧ Inv n' rep (K + 1) (b ++ [(UInt64.ofNat (K + 1), m)]) := by
  by_cases c : 32 ≤ cnt b m.From m.To
  · exact .inl (put_full h hm c)
  · exact .inr (put_ok h hm (by omega) hK)
theorem send_cases {n : NetNet} {rep : Int} {K : Nat} {b : Bag} (h : Inv n rep K b) (f t : Int) (l : List UInt8) (hK : K < 1000000) : (∃ e, e ≠ 0 ∧ net_Net_Send n f t l = some (0, e, n)) ∨ ∃ n', net_Net_Send n f t l = some (UInt64.ofNat (K + 1), 0, n') ∧ Inv n' rep (K + 1) (b ++ [(UInt64.ofNat (K + 1), ⟨f, t, l⟩)]) := by
  by_cases c : 1 ≤ f ∧ f ≤ rep ∧ 1 ≤ t ∧ t ≤ rep ∧ f ≠ t
  · by_cases c2 : 16384 < l.length
    · exact .inl ⟨6, by decide, send_long h c c2⟩
    · rw [send_put h c (by omega)]
      rcases put_cases h (m := ⟨f, t, l⟩) ⟨c.1, c.2.1, c.2.2.1, c.2.2.2.1, c.2.2.2.2, by show l.length ≤ 16384; omega⟩ hK with h1 | h1
      · exact .inl ⟨3, by decide, h1⟩
      · exact .inr h1
  · exact .inl ⟨1, by decide, send_arg h c⟩
theorem told_get {n : NetNet} {rep : Int} {K : Nat} {b : Bag} {gv : List ApiMessage} {out : List Int} (h : Inv n rep K b) (ht : Told K b gv out) {id : UInt64} {m : ApiMessage} (hg : mget id b = some m) : geti gv (id.toNat : Int) = some m ∧ geti out (id.toNat : Int) = some 0 := by
  have hid := h.ids _ (mget_mem hg)
  simp only at hid
  have hi := ht.is id.toNat (by omega) (by omega)
  rw [of_toNat] at hi
  unfold geti
  rw [if_pos (by omega), if_pos (by omega), Int.toNat_natCast]
  rcases hi with ⟨h1, y, h2, h3⟩ | ⟨h1, h3⟩
  · rw [hg] at h3
    obtain rfl := Option.some.inj h3
    exact ⟨h2, h1⟩
  · rw [hg] at h3; cases h3
theorem same_refl (m : ApiMessage) : ref22_Same (⟨m.From, m.To, m.Bytes⟩ : ApiMessage) m = some true := by simp [ref22_Same]
theorem once_l1 {l : List Law22Call} {rep : Int} {kj : List ApiMessage → List Int → NetNet → Option Bool} (hl : l.length ≤ 400) (hk : ∀ n K b gv out, Inv n rep K b → Told K b gv out → K ≤ 400 → kj gv out n = some true) : ∀ (j : Nat) (gv : List ApiMessage) (out : List Int) (i : Int) (n : NetNet) (K : Nat) (b : Bag), Inv n rep K b → Told K b gv out → 0 ≤ i → i ≤ l.length → (K : Int) ≤ i → (l.length : Int) - i < j → law22_NetOnce_l1 l kj j gv out i n = some true
  | 0, gv, out, i, n, K, b, h, ht, h0, h1, h2, h3 => by omega
  | j + 1, gv, out, i, n, K, b, h, ht, h0, h1, h2, h3 => by
    rw [law22_NetOnce_l1]
    by_cases c : i < (l.length : Int)
    · rw [if_pos c]
      obtain ⟨x, e, hx, _⟩ := geti_at h0 c
      rw [e, Option.bind_some, there_eq h ht (by omega) x.Id, Option.bind_some]
      rw [i64_id (p := i + 1) (by omega) (by omega)]
      have hgl : ((ofI64 (gv.length : Int)).toNat : Int) = ((K + 1 : Nat) : Int) := by rw [ht.gl, ofI64_nat' (by omega), u64_nat (by omega)]
      have hids : ∀ p ∈ b, p.1.toNat ≤ K := fun p hp => (h.ids p hp).2
      have hKe : (UInt64.ofNat (K + 1)).toNat = K + 1 := u64_nat (by omega)
      have hap : ∀ m : ApiMessage, app 3518437208883 gv [m] = some (gv ++ [m]) := fun m => by unfold app; rw [if_pos (by rw [ht.gl]; simp only [List.length_cons, List.length_nil]; omega)]
      have hao : app 17592186044416 out [0] = some (out ++ [0]) := by unfold app; rw [if_pos (by rw [ht.ol]; simp only [List.length_cons, List.length_nil]; omega)]
      by_cases c0 : x.Do = 0
      · rw [if_pos c0]
        rcases send_cases h x.A x.B x.Bytes (by omega) with ⟨er, her, e1⟩ | ⟨n', e1, h4⟩
        · rw [e1, Option.bind_some]
          rw [if_neg her]
          exact once_l1 hl hk j _ _ _ _ _ _ h ht (by omega) (by omega) (by omega) (by omega)
        · rw [e1, Option.bind_some]
          rw [if_pos rfl, hgl, hKe, if_neg (by simp), hap, Option.bind_some, hao, Option.bind_some]
          exact once_l1 hl hk j _ _ _ _ _ _ h4 (told_put ht hids (by omega) _) (by omega) (by omega) (by omega) (by omega)
      · rw [if_neg c0]
        by_cases c3 : x.Do = 3
        · rw [if_pos c3]
          cases hg : mget x.Id b with
          | none =>
            rw [dbl_none h x.Id hg, Option.bind_some]
            rw [show isThere b x.Id = false from by simp [isThere, hg]]
            rw [if_neg (by simp), if_neg (by simp)]
            exact once_l1 hl hk j _ _ _ _ _ _ h ht (by omega) (by omega) (by omega) (by omega)
          | some m =>
            rw [dbl_put h x.Id hg]
            rcases put_cases h (h.msg _ (mget_mem hg)) (by omega) with e1 | ⟨n', e1, h4⟩
            · rw [e1, Option.bind_some]
              rw [show isThere b x.Id = true from by simp [isThere, hg]]
              rw [if_neg (by simp), if_neg (by simp)]
              exact once_l1 hl hk j _ _ _ _ _ _ h ht (by omega) (by omega) (by omega) (by omega)
            · rw [e1, Option.bind_some]
              rw [show isThere b x.Id = true from by simp [isThere, hg]]
              rw [if_neg (by simp), if_pos rfl, hgl, hKe, if_neg (by simp), (told_get h ht hg).1, Option.bind_some, hap, Option.bind_some, hao, Option.bind_some]
              exact once_l1 hl hk j _ _ _ _ _ _ h4 (told_put ht hids (by omega) _) (by omega) (by omega) (by omega) (by omega)
        · rw [if_neg c3, jn_eq']
          -- Deliver, Drop
          have key : (if x.Do = 1 then True else x.Do = 2) ∨ ¬ (x.Do = 1 ∨ x.Do = 2) := by
            by_cases d1 : x.Do = 1
            · simp [d1]
            · by_cases d2 : x.Do = 2
              · simp [d1, d2]
              · right; simp [d1, d2]
          by_cases d1 : x.Do = 1
          · rw [if_pos d1, decide_eq_true d1]
            show (if (true : Bool) = true then _ else _) = some true
            rw [if_pos rfl]
            rw [at_eq h]
            cases hg : mget x.Id b with
            | none =>
              simp only [Option.bind_some]
              rw [jn_eq', if_pos d1, del_none h x.Id hg, Option.bind_some]
              rw [show isThere b x.Id = false from by simp [isThere, hg]]
              show (if _ then _ else _) = some true
              rw [if_neg (by simp), if_neg (by simp), if_neg (by simp)]
              exact once_l1 hl hk j _ _ _ _ _ _ h ht (by omega) (by omega) (by omega) (by omega)
            | some m =>
              obtain ⟨n', e1, h4⟩ := del_eq h x.Id hg
              obtain ⟨g1, g2⟩ := told_get h ht hg
              simp only [Option.bind_some]
              rw [jn_eq', if_pos d1, e1, Option.bind_some]
              rw [show isThere b x.Id = true from by simp [isThere, hg]]
              show (if _ then _ else _) = some true
              rw [if_neg (by simp), if_pos rfl, g1, Option.bind_some, same_refl, Option.bind_some, if_neg (by simp), if_pos rfl, g2, Option.bind_some, Int.toNat_natCast]
              exact once_l1 hl hk j _ _ _ _ _ _ h4 (told_del h ht (by omega) hg) (by omega) (by omega) (by omega) (by omega)
          · rw [if_neg d1]
            by_cases d2 : x.Do = 2
            · rw [decide_eq_true d2]
              show (if (true : Bool) = true then _ else _) = some true
              rw [if_pos rfl, at_eq h]
              cases hg : mget x.Id b with
              | none =>
                have e4 : net_Net_Drop n x.Id = some (4, n) := by unfold net_Net_Drop; rw [del_none h x.Id hg]; rfl
                simp only [Option.bind_some]
                rw [jn_eq', if_neg d1, e4, Option.bind_some]
                rw [show isThere b x.Id = false from by simp [isThere, hg]]
                rw [if_neg (by simp)]
                show (if _ then _ else _) = some true
                rw [if_neg (by simp), if_neg (by simp), if_neg (by simp)]
                exact once_l1 hl hk j _ _ _ _ _ _ h ht (by omega) (by omega) (by omega) (by omega)
              | some m =>
                obtain ⟨n', e1, h4⟩ := del_eq h x.Id hg
                obtain ⟨g1, g2⟩ := told_get h ht hg
                have e4 : net_Net_Drop n x.Id = some (0, n') := by unfold net_Net_Drop; rw [e1]; rfl
                simp only [Option.bind_some]
                rw [jn_eq', if_neg d1, e4, Option.bind_some]
                rw [show isThere b x.Id = true from by simp [isThere, hg]]
                rw [if_neg (by simp)]
                show (if _ then _ else _) = some true
                rw [if_neg (by simp), if_pos rfl, g1, Option.bind_some, same_refl, Option.bind_some, if_neg (by simp), if_pos rfl, g2, Option.bind_some, Int.toNat_natCast]
                exact once_l1 hl hk j _ _ _ _ _ _ h4 (told_del h ht (by omega) hg) (by omega) (by omega) (by omega) (by omega)
            · rw [decide_eq_false d2]
              show (if (false : Bool) = true then _ else _) = some true
              rw [if_neg (by simp)]
              exact once_l1 hl hk j _ _ _ _ _ _ h ht (by omega) (by omega) (by omega) (by omega)
    · rw [if_neg c]; exact hk n K b gv out h ht (by omega)
end Go.Proofs
