import Derived.Test.YtdofbkomeadjgaaDoorP06D
import Derived.Lib.ParseIntBTie
import Derived.Lib.ParseIntBCases
set_option linter.unusedVariables false
set_option linter.unusedSimpArgs false
namespace Go.Proofs
open Go.Fw
set_option maxRecDepth 100000 in
theorem awake_true : law06_awake = some true := by
  decide +kernel
end Go.Proofs

set_option linter.unusedVariables false
set_option linter.unusedSimpArgs false
namespace Go.Proofs
open Go.Fw
/-! Small tools. -/
theorem i64_id {p : Int} (h0 : -9223372036854775808 ≤ p) (h1 : p ≤ 9223372036854775807) : i64 p = p := i64_eq h0 h1
theorem jn_eq' {α β : Type} (f : α) (g : α → β) : jn f g = g f := by unfold jn; exact id rfl
theorem geti_nat {α : Type} (l : List α) (k : Nat) : geti l (k : Int) = l[k]? := by
  unfold geti
  rw [if_pos (by omega)]
  simp
theorem app_ok2 {α : Type} {cap : Nat} (a b : List α) (h : a.length + b.length ≤ cap) : app cap a b = some (a ++ b) := by
  unfold app
  rw [if_pos h]
abbrev M63 : Nat := 9223372036854775807
theorem FU_M : M63 + 1000 < FU := Nat.lt_of_lt_of_le (by decide) FU_ge
theorem nxt {k n : Nat} (h : k < n) (hn : n ≤ M63) : i64 ((k : Int) + 1) = ((k + 1 : Nat) : Int) := by
  rw [i64_id (by omega) (by have : n ≤ 9223372036854775807 := hn; omega)]; rfl
/-! Chains. -/
theorem may_eq2 (a : ApiRev) : ∃ b, rev_May a = some b ∧ ref06_May a = some b := ⟨_, rfl, by unfold ref06_May; exact congrArg some (decide_eq_decide.2 (by omega))⟩
theorem chain_run {a : List ApiRev} (hl : a.length ≤ 1000) {kj kj2 : Unit → Option Bool} : ∀ (J k : Nat), k ≤ a.length → a.length - k < J →
    ∃ b : Bool, rev_Chain_l1 a kj J (k : Int) = (if b = true then kj () else some false) ∧ ref06_Chain_l1 a kj2 J (k : Int) = (if b = true then kj2 () else some false)
  | 0, k, _, h => by omega
  | J + 1, k, h1, h2 => by
    have hM : M63 = 9223372036854775807 := rfl
    rw [rev_Chain_l1, ref06_Chain_l1]
    by_cases c : k < a.length
    · obtain ⟨m, e1, e2⟩ := may_eq2 a[k]
      rw [if_pos (by omega), if_pos (by omega), geti_nat, List.getElem?_eq_getElem c]
      simp only [Option.bind_some, e1, e2]
      cases m with
      | false => exact ⟨false, by simp, by simp⟩
      | true =>
        simp only [Bool.not_true, Bool.false_eq_true, if_false]
        by_cases c0 : k = 0
        · rw [if_neg (by omega), if_neg (by omega), nxt c (by omega)]
          exact chain_run hl J (k + 1) (by omega) (by omega)
        · have hlt : k - 1 < a.length := by omega
          have ei : i64 ((k : Int) - 1) = ((k - 1 : Nat) : Int) := by rw [i64_id (by omega) (by omega)]; omega
          rw [if_pos (by omega), if_pos (by omega), ei, geti_nat, List.getElem?_eq_getElem hlt]
          simp only [Option.bind_some]
          by_cases e : ((ofI64 ((a[k].Gen.toNat : Int) + 1)).toNat : Int) = (a[k - 1].Gen.toNat : Int)
          · rw [if_neg (by omega), if_neg (by omega), nxt c (by omega)]
            exact chain_run hl J (k + 1) (by omega) (by omega)
          · rw [if_pos e, if_pos (by omega)]
            exact ⟨false, by simp, by simp⟩
    · rw [if_neg (by omega), if_neg (by omega)]
      exact ⟨true, by simp, by simp⟩
theorem RevChain_pure (l : List ApiRev) : law06_RevChain l = some true := by
  unfold law06_RevChain
  by_cases c : 60 < (l.length : Int)
  · rw [if_pos c, awake_true]; rfl
  · rw [if_neg c, app_ok2 _ _ (by simp; omega), Option.bind_some, List.nil_append]
    have hF := FU_M
    have hM : M63 = 9223372036854775807 := rfl
    unfold rev_Chain ref06_Chain
    rw [jn_eq', jn_eq', show (0 : Int) = ((0 : Nat) : Int) from rfl]
    obtain ⟨b, e1, e2⟩ := chain_run (a := l) (by omega) (kj := fun _ => some (decide ((1 ≤ (l.length : Int)) ∧ ((l.length : Int) ≤ 16)))) (kj2 := fun _ => some (decide ((((0 : Nat) : Int) < (l.length : Int)) ∧ ((l.length : Int) < 17)))) FU 0 (by omega) (by omega)
    rw [e1, e2]
    have e : decide ((1 ≤ (l.length : Int)) ∧ ((l.length : Int) ≤ 16)) = decide ((((0 : Nat) : Int) < (l.length : Int)) ∧ ((l.length : Int) < 17)) := decide_eq_decide.2 (by omega)
    cases b with
    | false => simp only [Bool.false_eq_true, if_false, Option.bind_some, beq_self_eq_true, if_true, awake_true]
    | true => simp only [if_true, Option.bind_some, e, beq_self_eq_true, awake_true]
end Go.Proofs

set_option linter.unusedVariables false
set_option linter.unusedSimpArgs false
namespace Go.Proofs
open Go.Fw
/-! Decimal numbers. -/
theorem u8n {n : Nat} (h : n < 256) : (UInt8.ofNat n).toNat = n := by rw [UInt8.toNat_ofNat']; omega
theorem decF_len : ∀ (f u k : Nat), u < 10 ^ k → 1 ≤ k → (decF f u).length ≤ k
  | 0, _, _, _, _ => by simp [decF]
  | f + 1, u, 0, _, h => by omega
  | f + 1, u, k + 1, hu, _ => by
    rw [decF]
    by_cases c : u < 10
    · rw [if_pos c]; simp
    · rw [if_neg c]
      have hk : 1 ≤ k := by
        rcases k with _ | k
        · simp at hu; omega
        · omega
      have := decF_len f (u / 10) k (by rw [Nat.pow_succ] at hu; omega) hk
      simp only [List.length_append, List.length_cons, List.length_nil]; omega
theorem decF_ne : ∀ (f u : Nat), 1 ≤ f → decF f u ≠ []
  | 0, _, h => by omega
  | f + 1, u, _ => by
    rw [decF]
    split
    · simp
    · simp
theorem decF_dig : ∀ (f u : Nat), ∀ c ∈ decF f u, 48 ≤ c.toNat ∧ c.toNat ≤ 57
  | 0, _, c, h => by simp [decF] at h
  | f + 1, u, c, h => by
    rw [decF] at h
    split at h
    · rw [List.mem_singleton] at h; subst h; rw [u8n (by omega)]; omega
    · rcases List.mem_append.1 h with h | h
      · exact decF_dig f _ c h
      · rw [List.mem_singleton] at h; subst h; rw [u8n (by omega)]; omega
theorem p10_snoc : ∀ (l : List UInt8) (acc u : Nat) (c : UInt8), Lib.parseUint10 acc l = .ok u → 48 ≤ c.toNat ∧ c.toNat ≤ 57 → u < 1844674407370955162 → u * 10 + (c.toNat - 48) < 18446744073709551616 → Lib.parseUint10 acc (l ++ [c]) = .ok (u * 10 + (c.toNat - 48))
  | [], acc, u, c, h, hc, h1, h2 => by
    simp only [Lib.parseUint10] at h
    injection h with h
    subst h
    simp only [List.nil_append, Lib.parseUint10]
    rw [if_pos hc, if_neg (by omega), if_neg (by omega)]
  | d :: r, acc, u, c, h, hc, h1, h2 => by
    simp only [Lib.parseUint10] at h
    simp only [List.cons_append, Lib.parseUint10]
    split at h
    · split at h
      · cases h
      · split at h
        · cases h
        · rename_i g1 g2 g3
          rw [if_pos g1, if_neg g2, if_neg g3]
          exact p10_snoc r _ u c h hc h1 h2
    · cases h
theorem p10_dec : ∀ (f u : Nat), 1 ≤ f → u < 10 ^ f → u < 18446744073709551616 → Lib.parseUint10 0 (decF f u) = .ok u
  | 0, _, h, _, _ => by omega
  | f + 1, u, _, hu, hm => by
    rw [decF]
    by_cases c : u < 10
    · rw [if_pos c]
      simp only [Lib.parseUint10]
      rw [u8n (by omega), if_pos (by omega), if_neg (by omega), if_neg (by omega)]
      congr 1; omega
    · have hf : 1 ≤ f := by
        rcases f with _ | f
        · simp at hu; omega
        · omega
      rw [if_neg c, p10_snoc _ 0 (u / 10) _ (p10_dec f (u / 10) hf (by rw [Nat.pow_succ] at hu; omega) (by omega)) (by rw [u8n (by omega)]; omega) (by omega) (by rw [u8n (by omega)]; omega), u8n (by omega)]
      congr 1; omega
theorem parseUintR_dec (g : UInt64) : parseUintR (decF 30 g.toNat) = (g, false) := by
  have h : Lib.parseUintB 64 (decF 30 g.toNat) = .ok g.toNat := by
    rw [Lib.parseUintB_64]
    unfold Lib.parseMag
    rw [if_neg (decF_ne 30 _ (by decide)), p10_dec 30 _ (by decide) (Nat.lt_trans g.toNat_lt (by decide)) g.toNat_lt]
  unfold parseUintR
  rw [h]
  simp
theorem appendU_nl (g : UInt64) : strconv_AppendUint_nl_o g 10 = some (decF 30 g.toNat) := by
  have hg := g.toNat_lt
  have hl := decF_len 30 g.toNat 20 (Nat.lt_trans hg (by decide)) (by decide)
  have hp := List.length_pos_iff.2 (decF_ne 30 g.toNat (by decide))
  unfold strconv_AppendUint_nl_o strconv_AppendUint_nl
  rw [if_pos rfl]
  by_cases c : (g.toNat : Int) < 100
  · rw [if_pos c, i64_id (by omega) (by omega)]
    rw [if_pos (by omega), app_ok2 _ _ (by simp; omega)]
    simp
  · rw [if_neg c, if_pos (by omega)]
    have e1 : (((decF 30 g.toNat).length : Int) : Int).toNat = (decF 30 g.toNat).length := by omega
    rw [e1]
    have e2 : (decF 30 g.toNat ++ (List.replicate 24 (0 : UInt8)).drop (decF 30 g.toNat).length).take (decF 30 g.toNat).length = decF 30 g.toNat := by simp
    simp only [e2]
    repeat (first | rw [if_pos (by omega)])
    rw [app_ok2 _ _ (by simp; omega)]
    simp
    omega
theorem formatU (g : UInt64) : strconv_FormatUint_p g 10 = some (decF 30 g.toNat) := by
  have hg := g.toNat_lt
  have hl := decF_len 30 g.toNat 20 (Nat.lt_trans hg (by decide)) (by decide)
  have hp := List.length_pos_iff.2 (decF_ne 30 g.toNat (by decide))
  unfold strconv_FormatUint_p strconv_FormatUint
  rw [if_pos rfl]
  by_cases c : (g.toNat : Int) < 100
  · rw [if_pos c, i64_id (by omega) (by omega)]
    rw [if_pos (by omega)]
    simp
  · rw [if_neg c, if_pos (by omega)]
    have e1 : (((decF 30 g.toNat).length : Int) : Int).toNat = (decF 30 g.toNat).length := by omega
    rw [e1]
    have e2 : (decF 30 g.toNat ++ (List.replicate 24 (0 : UInt8)).drop (decF 30 g.toNat).length).take (decF 30 g.toNat).length = decF 30 g.toNat := by simp
    simp only [e2]
    repeat (first | rw [if_pos (by omega)])
    simp
    omega
/-! Hexadecimal digits. -/
def HX : List UInt8 := [48, 49, 50, 51, 52, 53, 54, 55, 56, 57, 97, 98, 99, 100, 101, 102]
def hx (b : UInt8) : UInt8 := HX.getD b.toNat 0
def hex2 (b : UInt8) : List UInt8 := [hx (shr8 b 4), hx (b &&& 15)]
def comb (h l : UInt8) : UInt8 := (ofI8 ((h.toNat : Int) * 2 ^ (min (4 : Int).toNat 8))) ||| l
def hexI (c : UInt8) : Option UInt8 := if 0 ≤ Lib.indexByte HX c then some (ofI8 (Lib.indexByte HX c)) else none
theorem u8_all {p : UInt8 → Prop} (h : ∀ n : Fin 256, p (UInt8.ofNat n.val)) (b : UInt8) : p b := by
  have := h ⟨b.toNat, b.toNat_lt⟩
  simpa using this
theorem hexI_hx (b : UInt8) : hexI (hx (shr8 b 4)) = some (shr8 b 4) ∧ hexI (hx (b &&& 15)) = some (b &&& 15) ∧ comb (shr8 b 4) (b &&& 15) = b ∧ (shr8 b 4).toNat < 16 ∧ (b &&& 15).toNat < 16 :=
  u8_all (p := fun b => hexI (hx (shr8 b 4)) = some (shr8 b 4) ∧ hexI (hx (b &&& 15)) = some (b &&& 15) ∧ comb (shr8 b 4) (b &&& 15) = b ∧ (shr8 b 4).toNat < 16 ∧ (b &&& 15).toNat < 16) (by decide +kernel) b
def hxB (c : UInt8) : Bool := match hexI c with | some h => decide (hx h = c) && decide (h.toNat < 16) | none => true
theorem hx_hexI {c h : UInt8} (e : hexI c = some h) : hx h = c ∧ h.toNat < 16 := by
  have := u8_all (p := fun c => hxB c = true) (by decide +kernel) c
  unfold hxB at this
  rw [e] at this
  simpa using this
theorem comb_parts : ∀ h l : Fin 16, shr8 (comb (UInt8.ofNat h.val) (UInt8.ofNat l.val)) 4 = UInt8.ofNat h.val ∧ comb (UInt8.ofNat h.val) (UInt8.ofNat l.val) &&& 15 = UInt8.ofNat l.val := by decide +kernel
theorem comb_parts' {h l : UInt8} (hh : h.toNat < 16) (hl : l.toNat < 16) : shr8 (comb h l) 4 = h ∧ comb h l &&& 15 = l := by
  have := comb_parts ⟨h.toNat, hh⟩ ⟨l.toNat, hl⟩
  simpa using this
def decP : List UInt8 → Option (List UInt8)
  | [] => some []
  | [_] => none
  | c :: d :: r => match hexI c, hexI d, decP r with
    | some h, some l, some t => some (comb h l :: t)
    | _, _, _ => none
theorem decP_enc : ∀ L : List UInt8, decP (L.flatMap hex2) = some L
  | [] => rfl
  | b :: L => by
    obtain ⟨h1, h2, h3, _, _⟩ := hexI_hx b
    show decP (hx (shr8 b 4) :: hx (b &&& 15) :: L.flatMap hex2) = _
    rw [decP, h1, h2, decP_enc L]
    simp only [h3]
theorem enc_decP : ∀ (n : Nat) (s L : List UInt8), s.length ≤ n → decP s = some L → s = L.flatMap hex2
  | _, [], L, _, h => by simp [decP] at h; subst h; rfl
  | _, [_], _, _, h => by simp [decP] at h
  | 0, _ :: _ :: _, _, hn, _ => by simp at hn
  | n + 1, c :: d :: r, L, hn, h => by
    rw [decP] at h
    match h1 : hexI c, h2 : hexI d, h3 : decP r with
    | some x, some y, some t =>
      rw [h1, h2, h3] at h
      have hc := hx_hexI h1
      have hd := hx_hexI h2
      have := Option.some.inj h
      subst this
      obtain ⟨p1, p2⟩ := comb_parts' hc.2 hd.2
      have ih := enc_decP n r t (by simp only [List.length_cons] at hn; omega) h3
      rw [List.flatMap_cons, ← ih]
      unfold hex2
      rw [p1, p2, hc.1, hd.1]; rfl
    | none, _, _ => rw [h1] at h; cases h
    | some _, none, _ => rw [h1, h2] at h; cases h
    | some _, some _, none => rw [h1, h2, h3] at h; cases h
theorem decP_len : ∀ (n : Nat) (s L : List UInt8), s.length ≤ n → decP s = some L → s.length = 2 * L.length := by
  intro n s L hn h
  have := enc_decP n s L hn h
  rw [this]
  clear this h hn
  induction L with
  | nil => rfl
  | cons b L ih => rw [List.flatMap_cons, List.length_append, List.length_cons, ih]; show 2 + _ = _; omega
/-! Texts. -/
def sL (x : St27) : List UInt8 := [x.e0, x.e1, x.e2, x.e3, x.e4, x.e5, x.e6, x.e7, x.e8, x.e9, x.e10, x.e11, x.e12, x.e13, x.e14, x.e15]
def rtx (r : ApiRev) : List UInt8 := decF 30 r.Gen.toNat ++ 45 :: (sL r.Sum).flatMap hex2
def mayR (r : ApiRev) : Bool := decide ((1 ≤ (r.Gen.toNat : Int)) ∧ ((r.Gen.toNat : Int) ≤ 4611686018427387903))
theorem hx_geti (b : UInt8) (h : b.toNat < 16) : geti HX (b.toNat : Int) = some (hx b) := by
  rw [geti_nat]
  unfold hx
  have : b.toNat < HX.length := h
  rw [List.getElem?_eq_getElem this, List.getD_eq_getElem?_getD, List.getElem?_eq_getElem this]; rfl
theorem printL_run {r : ApiRev} {kj : List UInt8 → Option (List UInt8 × Int)} : ∀ (J k : Nat) (x : List UInt8), k ≤ 16 → 16 - k < J → x.length + 2 * (16 - k) ≤ 1000 → rev_Print_l1 r kj J x (k : Int) = kj (x ++ ((sL r.Sum).drop k).flatMap hex2)
  | 0, k, x, _, h, _ => by omega
  | J + 1, k, x, h1, h2, h3 => by
    rw [rev_Print_l1]
    by_cases c : k < 16
    · have hl : k < (sL r.Sum).length := c
      obtain ⟨_, _, _, q1, q2⟩ := hexI_hx (sL r.Sum)[k]
      have e0 : geti ([r.Sum.e0, r.Sum.e1, r.Sum.e2, r.Sum.e3, r.Sum.e4, r.Sum.e5, r.Sum.e6, r.Sum.e7, r.Sum.e8, r.Sum.e9, r.Sum.e10, r.Sum.e11, r.Sum.e12, r.Sum.e13, r.Sum.e14, r.Sum.e15] : List UInt8) (k : Int) = some (sL r.Sum)[k] := by
        rw [geti_nat]; exact List.getElem?_eq_getElem hl
      have e1 := hx_geti _ q1
      have e2 := hx_geti _ q2
      rw [if_pos (by omega), e0, Option.bind_some]
      have e1' : geti ([48, 49, 50, 51, 52, 53, 54, 55, 56, 57, 97, 98, 99, 100, 101, 102] : List UInt8) ((shr8 (sL r.Sum)[k] 4).toNat : Int) = some (hx (shr8 (sL r.Sum)[k] 4)) := e1
      have e2' : geti ([48, 49, 50, 51, 52, 53, 54, 55, 56, 57, 97, 98, 99, 100, 101, 102] : List UInt8) (((sL r.Sum)[k] &&& (15 : UInt8)).toNat : Int) = some (hx ((sL r.Sum)[k] &&& 15)) := e2
      rw [e1', Option.bind_some, e2', Option.bind_some, app_ok2 _ _ (by simp; omega), Option.bind_some, nxt c (by decide), printL_run J (k + 1) _ (by omega) (by omega) (by simp; omega), List.drop_eq_getElem_cons hl, List.flatMap_cons]
      simp [hex2]
    · rw [if_neg (by omega), List.drop_eq_nil_of_le (show 16 ≤ k by omega)]; simp
theorem print_eq (r : ApiRev) : rev_Print r = some (if mayR r = true then (rtx r, 0) else ([], 1)) := by
  have hF := FU_M
  have hM : M63 = 9223372036854775807 := rfl
  unfold rev_Print
  have hm : rev_May r = some (mayR r) := rfl
  rw [hm, Option.bind_some]
  cases mayR r with
  | false => rfl
  | true =>
    have hl := decF_len 30 r.Gen.toNat 20 (Nat.lt_trans r.Gen.toNat_lt (by decide)) (by decide)
    rw [if_neg (by decide), if_pos rfl, appendU_nl, Option.bind_some, app_ok2 _ _ (by simp; omega), Option.bind_some, jn_eq', show (0 : Int) = ((0 : Nat) : Int) from rfl, printL_run FU 0 _ (by omega) (by omega) (by simp; omega)]
    simp [rtx]
end Go.Proofs

set_option linter.unusedVariables false
set_option linter.unusedSimpArgs false
namespace Go.Proofs
open Go.Fw
/-! What a text is parsed as. -/
def zeroR : ApiRev := ⟨0, ⟨0, 0, 0, 0, 0, 0, 0, 0, 0, 0, 0, 0, 0, 0, 0, 0⟩⟩
def mkS (L : List UInt8) : St27 := ⟨L.getD 0 0, L.getD 1 0, L.getD 2 0, L.getD 3 0, L.getD 4 0, L.getD 5 0, L.getD 6 0, L.getD 7 0, L.getD 8 0, L.getD 9 0, L.getD 10 0, L.getD 11 0, L.getD 12 0, L.getD 13 0, L.getD 14 0, L.getD 15 0⟩
theorem sL_mkS {L : List UInt8} (h : L.length = 16) : sL (mkS L) = L := (lit16 h 0).symm
theorem mkS_sL (x : St27) : mkS (sL x) = x := rfl
theorem sL_len (x : St27) : (sL x).length = 16 := rfl
theorem sL_inj {x y : St27} (h : sL x = sL y) : x = y := by rw [← mkS_sL x, ← mkS_sL y, h]
theorem rev_eq {x y : ApiRev} : ((x.Gen.toNat : Int) = (y.Gen.toNat : Int) ∧ sL x.Sum = sL y.Sum) ↔ x = y := by
  constructor
  · rintro ⟨h1, h2⟩
    cases x; cases y
    simp only at h1 h2
    rename_i g1 s1 g2 s2
    have e : g1 = g2 := UInt64.toNat_inj.1 (by omega)
    rw [sL_inj h2, e]
  · rintro rfl; exact ⟨rfl, rfl⟩
def pL (x1 : List UInt8 × List UInt8 × Bool) (kj : Bool → UInt8 → UInt8 → UInt8 → UInt8 → UInt8 → UInt8 → UInt8 → UInt8 → UInt8 → UInt8 → UInt8 → UInt8 → UInt8 → UInt8 → UInt8 → UInt8 → Option (ApiRev × Int)) (J : Nat) (i : Int) (ok : Bool) (L : List UInt8) : Option (ApiRev × Int) :=
  rev_Parse_l1 x1 kj J i ok (L.getD 0 0) (L.getD 1 0) (L.getD 2 0) (L.getD 3 0) (L.getD 4 0) (L.getD 5 0) (L.getD 6 0) (L.getD 7 0) (L.getD 8 0) (L.getD 9 0) (L.getD 10 0) (L.getD 11 0) (L.getD 12 0) (L.getD 13 0) (L.getD 14 0) (L.getD 15 0)
def kL (kj : Bool → UInt8 → UInt8 → UInt8 → UInt8 → UInt8 → UInt8 → UInt8 → UInt8 → UInt8 → UInt8 → UInt8 → UInt8 → UInt8 → UInt8 → UInt8 → UInt8 → Option (ApiRev × Int)) (ok : Bool) (L : List UInt8) : Option (ApiRev × Int) :=
  kj ok (L.getD 0 0) (L.getD 1 0) (L.getD 2 0) (L.getD 3 0) (L.getD 4 0) (L.getD 5 0) (L.getD 6 0) (L.getD 7 0) (L.getD 8 0) (L.getD 9 0) (L.getD 10 0) (L.getD 11 0) (L.getD 12 0) (L.getD 13 0) (L.getD 14 0) (L.getD 15 0)
theorem pL_succ (x1 : List UInt8 × List UInt8 × Bool) (kj) (J : Nat) (i : Int) (ok : Bool) {L : List UInt8} (hL : L.length = 16) : pL x1 kj (J + 1) i ok L = if (ok = true) ∧ (i < 16) then (geti x1.2.1 (i64 (2 * i))).bind fun x42 => (geti x1.2.1 (i64 ((i64 (2 * i)) + 1))).bind fun x43 => (geti L i).bind fun x44 => (seti L i (comb (ofI8 (Lib.indexByte HX x42)) (ofI8 (Lib.indexByte HX x43)))).bind fun x45 => pL x1 kj J (i64 (i + 1)) (decide (((ok = true) ∧ (0 ≤ Lib.indexByte HX x42)) ∧ (0 ≤ Lib.indexByte HX x43))) x45 else kL kj ok L := by
  unfold pL
  rw [rev_Parse_l1, ← lit16 hL 0]
  rfl
theorem pL_stop {x1 : List UInt8 × List UInt8 × Bool} {kj} {J : Nat} {i : Int} {L : List UInt8} (hL : L.length = 16) : pL x1 kj (J + 1) i false L = kL kj false L := by
  rw [pL_succ _ _ _ _ _ hL, if_neg (by simp)]
theorem drop2 {S : List UInt8} {k : Nat} (h : 2 * k + 1 < S.length) : S.drop (2 * k) = S[2 * k] :: S[2 * k + 1] :: S.drop (2 * (k + 1)) := by
  rw [List.drop_eq_getElem_cons (show 2 * k < S.length by omega), List.drop_eq_getElem_cons (show 2 * k + 1 < S.length by omega), show 2 * k + 1 + 1 = 2 * (k + 1) by omega]
theorem pL_run {x1 : List UInt8 × List UInt8 × Bool} {kj} (hS : x1.2.1.length = 32) : ∀ (J k : Nat) (L : List UInt8), k ≤ 16 → 16 - k + 1 < J → L.length = 16 →
    (∀ D, decP (x1.2.1.drop (2 * k)) = some D → pL x1 kj J (k : Int) true L = kL kj true (L.take k ++ D)) ∧ (decP (x1.2.1.drop (2 * k)) = none → ∃ L2, pL x1 kj J (k : Int) true L = kL kj false L2)
  | 0, k, L, _, h, _ => by omega
  | J + 1, k, L, h1, h2, hL => by
    rw [pL_succ _ _ _ _ _ hL]
    by_cases c : k < 16
    · have e1 : i64 (2 * (k : Int)) = ((2 * k : Nat) : Int) := by rw [i64_id (by omega) (by omega)]; omega
      have e2 : i64 (((2 * k : Nat) : Int) + 1) = ((2 * k + 1 : Nat) : Int) := by rw [i64_id (by omega) (by omega)]; omega
      have g1 : geti x1.2.1 ((2 * k : Nat) : Int) = some x1.2.1[2 * k] := by rw [geti_nat]; exact List.getElem?_eq_getElem (by omega)
      have g2 : geti x1.2.1 ((2 * k + 1 : Nat) : Int) = some x1.2.1[2 * k + 1] := by rw [geti_nat]; exact List.getElem?_eq_getElem (by omega)
      have g3 : geti L (k : Int) = some L[k] := by rw [geti_nat]; exact List.getElem?_eq_getElem (by omega)
      have g4 : ∀ v, seti L (k : Int) v = some (L.set k v) := fun v => by unfold seti; rw [if_pos (by omega)]; simp
      rw [if_pos ⟨rfl, by omega⟩, e1, e2, g1, Option.bind_some, g2, Option.bind_some, g3, Option.bind_some, g4, Option.bind_some, nxt c (by decide), drop2 (show 2 * k + 1 < x1.2.1.length by omega), decP]
      generalize x1.2.1[2 * k] = a
      generalize x1.2.1[2 * k + 1] = b
      by_cases ha : 0 ≤ Lib.indexByte HX a
      · by_cases hb : 0 ≤ Lib.indexByte HX b
        · have q1 : hexI a = some (ofI8 (Lib.indexByte HX a)) := by unfold hexI; rw [if_pos ha]
          have q2 : hexI b = some (ofI8 (Lib.indexByte HX b)) := by unfold hexI; rw [if_pos hb]
          rw [q1, q2, decide_eq_true ⟨⟨rfl, ha⟩, hb⟩]
          obtain ⟨r1, r2⟩ := pL_run (kj := kj) hS J (k + 1) (L.set k (comb (ofI8 (Lib.indexByte HX a)) (ofI8 (Lib.indexByte HX b)))) (by omega) (by omega) (by rw [List.length_set]; exact hL)
          constructor
          · intro D hD
            match h3 : decP (x1.2.1.drop (2 * (k + 1))) with
            | some t =>
              rw [h3] at hD
              have hD := Option.some.inj hD
              rw [r1 t h3, ← hD]
              congr 1
              rw [List.take_add_one, List.take_set_of_le (Nat.le_refl _), List.getElem?_set_self (by omega)]
              simp
            | none => rw [h3] at hD; cases hD
          · intro hD
            match h3 : decP (x1.2.1.drop (2 * (k + 1))) with
            | some t => rw [h3] at hD; cases hD
            | none => exact r2 h3
        · have q2 : hexI b = none := by unfold hexI; rw [if_neg hb]
          rw [q2, decide_eq_false (by rintro ⟨_, h⟩; exact hb h)]
          obtain ⟨J', rfl⟩ : ∃ J', J = J' + 1 := ⟨J - 1, by omega⟩
          constructor
          · intro D hD
            match h3 : hexI a with
            | some _ => rw [h3] at hD; cases hD
            | none => rw [h3] at hD; cases hD
          · intro _
            exact ⟨_, pL_stop (by rw [List.length_set]; exact hL)⟩
      · have q1 : hexI a = none := by unfold hexI; rw [if_neg ha]
        rw [q1, decide_eq_false (by rintro ⟨⟨_, h⟩, _⟩; exact ha h)]
        obtain ⟨J', rfl⟩ : ∃ J', J = J' + 1 := ⟨J - 1, by omega⟩
        exact ⟨fun D hD => (by cases hD), fun _ => ⟨_, pL_stop (by rw [List.length_set]; exact hL)⟩⟩
    · have hk : k = 16 := by omega
      subst hk
      rw [if_neg (by omega), List.drop_eq_nil_of_le (by omega)]
      refine ⟨fun D hD => ?_, fun h => by cases h⟩
      have := Option.some.inj hD
      subst this
      rw [List.append_nil, List.take_of_length_le (by omega)]
theorem idx_dash : ∀ s : List UInt8, (∃ a b, s = a ++ 45 :: b ∧ (∀ c ∈ a, c ≠ 45) ∧ Lib.indexByte s 45 = (a.length : Int)) ∨ ((∀ c ∈ s, c ≠ 45) ∧ Lib.indexByte s 45 = -1)
  | [] => .inr ⟨by simp, rfl⟩
  | x :: s => by
    rw [Lib.indexByte]
    by_cases h : x = 45
    · rw [if_pos (by simp [h])]
      exact .inl ⟨[], s, by rw [h]; rfl, by simp, by simp⟩
    · rw [if_neg (by simpa using h)]
      rcases idx_dash s with ⟨a, b, e, h1, h2⟩ | ⟨h1, h2⟩
      · rw [if_neg (by rw [h2]; simp)]
        refine .inl ⟨x :: a, b, by rw [e]; rfl, ?_, by rw [h2]; simp⟩
        intro c hc
        rcases List.mem_cons.1 hc with rfl | hc
        · exact h
        · exact h1 c hc
      · rw [if_pos (by rw [h2]; rfl)]
        refine .inr ⟨?_, rfl⟩
        intro c hc
        rcases List.mem_cons.1 hc with rfl | hc
        · exact h
        · exact h1 c hc
theorem cut_cases (s : List UInt8) (hs : s.length ≤ 1000000) : (∃ a b, strings_Cut s [45] = some (a, b, true) ∧ s = a ++ 45 :: b ∧ ∀ c ∈ a, c ≠ 45) ∨ (strings_Cut s [45] = some (s, [], false) ∧ ∀ c ∈ s, c ≠ 45) := by
  unfold strings_Cut stringslite_Cut
  rw [if_pos (show ([45] : List UInt8).length = 1 from rfl)]
  rcases idx_dash s with ⟨a, b, e, h1, h2⟩ | ⟨h1, h2⟩
  · have hl : s.length = a.length + 1 + b.length := by rw [e]; simp; omega
    have h2' : Lib.indexByte s (([45] : List UInt8).headD 0) = (a.length : Int) := h2
    have hl1 : (([45] : List UInt8).length : Int) = 1 := rfl
    rw [h2', if_pos (by omega), hl1, i64_id (by omega) (by omega)]
    have g1 : subl s 0 (a.length : Int) = some a := by
      unfold subl
      rw [if_pos ⟨by omega, by omega, by omega⟩, e]; simp
    have g2 : subl s ((a.length : Int) + 1) (s.length : Int) = some b := by
      unfold subl
      rw [if_pos ⟨by omega, by omega, by omega⟩]
      have e1 : ((a.length : Int) + 1).toNat = a.length + 1 := by omega
      rw [e1, Int.toNat_natCast, hl, e]
      simp
    rw [g1, Option.bind_some, g2]
    exact .inl ⟨a, b, rfl, e, h1⟩
  · have h2' : Lib.indexByte s (([45] : List UInt8).headD 0) = -1 := h2
    rw [h2', if_neg (by decide)]
    exact .inr ⟨rfl, h1⟩
/-- What any text is parsed as: the name whose text it is, or none. -/
theorem parse_cases (s : List UInt8) (hs : s.length ≤ 1000000) : (∃ r, rev_Parse s = some (r, 0) ∧ mayR r = true ∧ s = rtx r) ∨ (rev_Parse s = some (zeroR, 2) ∧ ∀ r, mayR r = true → s ≠ rtx r) := by
  have hF := FU_M
  have hM : M63 = 9223372036854775807 := rfl
  have hF16 : 16 - 0 + 1 < FU := by omega
  obtain ⟨J, hJ⟩ : ∃ J, FU = J + 1 := ⟨FU - 1, by omega⟩
  have z16 : (List.replicate 16 (0 : UInt8)).length = 16 := rfl
  have low : ∀ g : UInt64, ∀ c ∈ decF 30 g.toNat, c ≠ 45 := fun g c hc => by
    have := decF_dig _ _ c hc
    rintro rfl
    revert this; decide
  -- two ways of a dash are one
  have uniq : ∀ (a b c d : List UInt8), (∀ x ∈ a, x ≠ 45) → (∀ x ∈ c, x ≠ 45) → a ++ 45 :: b = c ++ 45 :: d → a = c ∧ b = d := by
    intro a
    induction a with
    | nil =>
      intro b c d _ hc h
      cases c with
      | nil => exact ⟨rfl, (List.cons.inj h).2⟩
      | cons y c => have := (List.cons.inj h).1; exact absurd this.symm (hc y (by simp))
    | cons x a ih =>
      intro b c d ha hc h
      cases c with
      | nil => have := (List.cons.inj h).1; exact absurd this (ha x (by simp))
      | cons y c =>
        obtain ⟨h1, h2⟩ := List.cons.inj h
        obtain ⟨h3, h4⟩ := ih b c d (fun z hz => ha z (by simp [hz])) (fun z hz => hc z (by simp [hz])) h2
        exact ⟨by rw [h1, h3], h4⟩
  unfold rev_Parse
  rcases cut_cases s hs with ⟨a, b, e1, e2, e3⟩ | ⟨e1, e3⟩
  · have hla : a.length ≤ 1000000 := by have := congrArg List.length e2; simp at this; omega
    have none' : ∀ {o : Bool}, (o = false) → (jn (fun (x7 : Bool) (x8 : UInt8) (x9 : UInt8) (x10 : UInt8) (x11 : UInt8) (x12 : UInt8) (x13 : UInt8) (x14 : UInt8) (x15 : UInt8) (x16 : UInt8) (x17 : UInt8) (x18 : UInt8) (x19 : UInt8) (x20 : UInt8) (x21 : UInt8) (x22 : UInt8) (x23 : UInt8) => if (!x7) = true then some (zeroR, (2 : Int)) else some ((⟨(parseUintR a).1, (⟨x8, x9, x10, x11, x12, x13, x14, x15, x16, x17, x18, x19, x20, x21, x22, x23⟩ : St27)⟩ : ApiRev), 0)) (fun kj6 => rev_Parse_l1 (a, b, true) kj6 FU 0 o 0 0 0 0 0 0 0 0 0 0 0 0 0 0 0 0)) = some (zeroR, 2) := by
      rintro o rfl
      rw [jn_eq', hJ]
      exact (pL_stop (x1 := (a, b, true)) (i := 0) z16).trans rfl
    rw [e1, Option.bind_some, if_pos hla]
    by_cases q : (parseUintR a).2 = false
    · rw [if_pos ⟨rfl, by rw [q]; rfl⟩, formatU, Option.bind_some, Option.bind_some]
      by_cases q2 : decF 30 (parseUintR a).1.toNat = a ∧ b.length = 32
      · rw [if_pos ⟨decide_eq_true q2.1, show (b.length : Int) = 32 by omega⟩]
        have hm : ∀ (x : St27), rev_May ⟨(parseUintR a).1, x⟩ = some (mayR ⟨(parseUintR a).1, x⟩) := fun x => rfl
        rw [hm, Option.bind_some, Option.bind_some]
        have hm2 : ∀ (x y : St27), mayR ⟨(parseUintR a).1, x⟩ = mayR ⟨(parseUintR a).1, y⟩ := fun x y => rfl
        cases m : mayR ⟨(parseUintR a).1, ⟨0, 0, 0, 0, 0, 0, 0, 0, 0, 0, 0, 0, 0, 0, 0, 0⟩⟩ with
        | false =>
          refine .inr ⟨none' rfl, ?_⟩
          intro r hr hsr
          rw [e2] at hsr
          obtain ⟨h1, h2⟩ := uniq _ _ _ _ e3 (low r.Gen) hsr
          have e9 : (parseUintR a).1 = r.Gen := by rw [h1, parseUintR_dec]
          have : mayR r = false := by rw [← m, e9]; rfl
          rw [hr] at this; cases this
        | true =>
          rw [jn_eq']
          obtain ⟨r1, r2⟩ := pL_run (x1 := (a, b, true)) (kj := fun (x7 : Bool) (x8 : UInt8) (x9 : UInt8) (x10 : UInt8) (x11 : UInt8) (x12 : UInt8) (x13 : UInt8) (x14 : UInt8) (x15 : UInt8) (x16 : UInt8) (x17 : UInt8) (x18 : UInt8) (x19 : UInt8) (x20 : UInt8) (x21 : UInt8) (x22 : UInt8) (x23 : UInt8) => if (!x7) = true then some (zeroR, (2 : Int)) else some ((⟨(parseUintR a).1, (⟨x8, x9, x10, x11, x12, x13, x14, x15, x16, x17, x18, x19, x20, x21, x22, x23⟩ : St27)⟩ : ApiRev), 0)) q2.2 FU 0 (List.replicate 16 0) (Nat.zero_le _) hF16 z16
          match hd : decP b with
          | some D =>
            have hl := decP_len _ b D (Nat.le_refl _) hd
            have hb := enc_decP _ b D (Nat.le_refl _) hd
            have hD : D.length = 16 := by omega
            refine .inl ⟨⟨(parseUintR a).1, mkS D⟩, (r1 D hd).trans rfl, (hm2 _ _).trans m, ?_⟩
            unfold rtx
            rw [sL_mkS hD, ← hb, q2.1]; exact e2
          | none =>
            obtain ⟨L2, h3⟩ := r2 hd
            refine .inr ⟨h3.trans rfl, ?_⟩
            intro r hr hsr
            rw [e2] at hsr
            obtain ⟨h1, h2⟩ := uniq _ _ _ _ e3 (low r.Gen) hsr
            rw [h2, decP_enc] at hd; cases hd
      · rw [if_neg (by rintro ⟨h1, h2⟩; exact q2 ⟨of_decide_eq_true h1, (by have h2 : (b.length : Int) = 32 := h2; omega)⟩), Option.bind_some]
        refine .inr ⟨none' rfl, ?_⟩
        intro r hr hsr
        rw [e2] at hsr
        obtain ⟨h1, h2⟩ := uniq _ _ _ _ e3 (low r.Gen) hsr
        refine q2 ⟨by rw [h1, parseUintR_dec], ?_⟩
        rw [h2]; rfl
    · rw [if_neg (by rintro ⟨_, h⟩; exact q (by simpa using h)), Option.bind_some, if_neg (by rintro ⟨h, _⟩; cases h), Option.bind_some]
      refine .inr ⟨none' rfl, ?_⟩
      intro r hr hsr
      rw [e2] at hsr
      obtain ⟨h1, h2⟩ := uniq _ _ _ _ e3 (low r.Gen) hsr
      exact q (by rw [h1, parseUintR_dec])
  · rw [e1, Option.bind_some, if_pos hs, if_neg (by rintro ⟨h, _⟩; cases h), Option.bind_some, if_neg (by rintro ⟨h, _⟩; cases h), Option.bind_some, jn_eq', hJ]
    refine .inr ⟨(pL_stop (x1 := (s, [], false)) (i := 0) z16).trans rfl, ?_⟩
    intro r hr hsr
    exact e3 45 (by rw [hsr]; unfold rtx; simp) rfl
theorem parse_text {r : ApiRev} (hm : mayR r = true) (hl : (rtx r).length ≤ 1000000) : rev_Parse (rtx r) = some (r, 0) := by
  rcases parse_cases (rtx r) hl with ⟨r2, h1, h2, h3⟩ | ⟨_, h⟩
  · have hd := decF_dig
    have e : r = r2 := by
      -- the text says what it names
      have h4 := h3
      unfold rtx at h4
      have low : ∀ g : UInt64, ∀ c ∈ decF 30 g.toNat, c ≠ 45 := fun g c hc => by
        have := decF_dig _ _ c hc
        rintro rfl
        revert this; decide
      have key : ∀ (a b c d : List UInt8), (∀ x ∈ a, x ≠ 45) → (∀ x ∈ c, x ≠ 45) → a ++ 45 :: b = c ++ 45 :: d → a = c ∧ b = d := by
        intro a
        induction a with
        | nil =>
          intro b c d _ hc h
          cases c with
          | nil => exact ⟨rfl, (List.cons.inj h).2⟩
          | cons y c => have := (List.cons.inj h).1; exact absurd this.symm (hc y (by simp))
        | cons x a ih =>
          intro b c d ha hc h
          cases c with
          | nil => have := (List.cons.inj h).1; exact absurd this (ha x (by simp))
          | cons y c =>
            obtain ⟨h1, h2⟩ := List.cons.inj h
            obtain ⟨h3, h4⟩ := ih b c d (fun z hz => ha z (by simp [hz])) (fun z hz => hc z (by simp [hz])) h2
            exact ⟨by rw [h1, h3], h4⟩
      obtain ⟨p1, p2⟩ := key _ _ _ _ (low _) (low _) h4
      have p3 := parseUintR_dec r.Gen
      rw [p1, parseUintR_dec] at p3
      have p4 := decP_enc (sL r.Sum)
      rw [p2, decP_enc] at p4
      have g1 : r2.Gen = r.Gen := (Prod.mk.inj p3).1
      have g2 : r2.Sum = r.Sum := sL_inj (Option.some.inj p4)
      cases r; cases r2
      simp only at g1 g2
      rw [g1, g2]
    rw [h1, e]
  · exact absurd rfl (h r hm)
theorem rtx_len (r : ApiRev) : (rtx r).length ≤ 60 := by
  have hl := decF_len 30 r.Gen.toNat 20 (Nat.lt_trans r.Gen.toNat_lt (by decide)) (by decide)
  unfold rtx
  rw [List.length_append, List.length_cons]
  have : ((sL r.Sum).flatMap hex2).length = 32 := rfl
  omega
theorem rtx_inj {r q : ApiRev} (h1 : mayR r = true) (h2 : mayR q = true) (h : rtx r = rtx q) : r = q := by
  have a := parse_text h1 (Nat.le_trans (rtx_len r) (by decide))
  have b := parse_text h2 (Nat.le_trans (rtx_len q) (by decide))
  rw [h, b] at a
  exact ((Prod.mk.inj (Option.some.inj a)).1).symm
end Go.Proofs

set_option linter.unusedVariables false
set_option linter.unusedSimpArgs false
namespace Go.Proofs
open Go.Fw
/-! RevBack. -/
theorem rev_lit (x y : ApiRev) : ((x.Gen.toNat : Int) = (y.Gen.toNat : Int) ∧ ([x.Sum.e0, x.Sum.e1, x.Sum.e2, x.Sum.e3, x.Sum.e4, x.Sum.e5, x.Sum.e6, x.Sum.e7, x.Sum.e8, x.Sum.e9, x.Sum.e10, x.Sum.e11, x.Sum.e12, x.Sum.e13, x.Sum.e14, x.Sum.e15] : List UInt8) = ([y.Sum.e0, y.Sum.e1, y.Sum.e2, y.Sum.e3, y.Sum.e4, y.Sum.e5, y.Sum.e6, y.Sum.e7, y.Sum.e8, y.Sum.e9, y.Sum.e10, y.Sum.e11, y.Sum.e12, y.Sum.e13, y.Sum.e14, y.Sum.e15] : List UInt8)) ↔ x = y := rev_eq
theorem may_eq (r : ApiRev) : rev_May r = some (mayR r) := rfl
theorem back_tail (s : List UInt8) (hs : ¬ 1000 < (s.length : Int)) : ((rev_Parse s).bind fun x6 => if x6.2 ≠ 0 then (law06_awake).bind fun x7 => some x7 else (rev_Print x6.1).bind fun x8 => (if (x8.2 = 0) ∧ (x8.1 = s) then (rev_May x6.1).bind fun x10 => some x10 else some false).bind fun x9 => (if x9 = true then (law06_awake).bind fun x12 => some x12 else some false).bind fun x11 => some x11) = some true := by
  rcases parse_cases s (by omega) with ⟨r, h1, h2, h3⟩ | ⟨h1, _⟩
  · rw [h1, Option.bind_some, if_neg (by simp), print_eq, Option.bind_some]
    simp only [h2, if_true]
    rw [if_pos ⟨trivial, h3.symm⟩, may_eq, h2, awake_true]
    rfl
  · rw [h1, Option.bind_some, if_pos (by decide), awake_true]
    rfl
theorem RevBack_pure (a b : ApiRev) (s : List UInt8) : law06_RevBack a b s = some true := by
  unfold law06_RevBack
  by_cases c : 1000 < (s.length : Int)
  · rw [if_pos c, awake_true]; rfl
  · have T := back_tail s c
    rw [if_neg c, print_eq, Option.bind_some, print_eq, Option.bind_some, jn_eq']
    cases ha : mayR a with
    | false => exact T
    | true =>
      have hp := parse_text ha (Nat.le_trans (rtx_len a) (by decide))
      simp only [if_true, hp, Option.bind_some]
      rw [if_neg]
      · exact T
      · rintro ((h | h) | ⟨h, h2⟩)
        · exact h rfl
        · exact h ⟨trivial, trivial⟩
        · cases hb : mayR b with
          | false => rw [hb] at h; cases h
          | true =>
            rw [hb] at h2
            simp only [if_true] at h2
            by_cases e : a = b
            · subst e
              rw [decide_eq_true rfl, decide_eq_true (p := _ ∧ _) ⟨rfl, rfl⟩] at h2
              cases h2
            · rw [decide_eq_false (p := rtx a = rtx b) (fun h => e (rtx_inj ha hb h)), decide_eq_false (p := _ ∧ _) (fun h => e ((rev_lit a b).1 h))] at h2
              cases h2
end Go.Proofs
