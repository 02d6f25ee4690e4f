import Derived.Test.YtdofbkomeadjgaaDoorP06D
import Derived.Lib.ParseIntBTie
import Derived.Lib.ParseIntBCases
set_option linter.unusedVariables false
set_option linter.unusedSimpArgs false
namespace Go.Proofs
open Go.Fw
set_option maxRecDepth 100000 in
theorem awake_true : law06_awake = some true := by
  decide +kernel
end Go.Proofs

set_option linter.unusedVariables false
set_option linter.unusedSimpArgs false
namespace Go.Proofs
open Go.Fw
/-! Small tools. -/
theorem i64_id {p : Int} (h0 : -9223372036854775808 ≤ p) (h1 : p ≤ 9223372036854775807) : i64 p = p := i64_eq h0 h1
theorem jn_eq' {α β : Type} (f : α) (g : α → β) : jn f g = g f := by unfold jn; exact id rfl
theorem geti_nat {α : Type} (l : List α) (k : Nat) : geti l (k : Int) = l[k]? := by
  unfold geti
  rw [if_pos (by omega)]
  simp
theorem app_ok2 {α : Type} {cap : Nat} (a b : List α) (h : a.length + b.length ≤ cap) : app cap a b = some (a ++ b) := by
  unfold app
  rw [if_pos h]
abbrev M63 : Nat := 9223372036854775807
theorem FU_M : M63 + 1000 < FU := Nat.lt_of_lt_of_le (by decide) FU_ge
theorem nxt {k n : Nat} (h : k < n) (hn : n ≤ M63) : i64 ((k : Int) + 1) = ((k + 1 : Nat) : Int) := by
  rw [i64_id (by omega) (by have : n ≤ 9223372036854775807 := hn; omega)]; rfl
/-! Chains. -/
theorem may_eq2 (a : ApiRev) : ∃ b, rev_May a = some b ∧ ref06_May a = some b := ⟨_, rfl, by unfold ref06_May; exact congrArg some (decide_eq_decide.2 (by omega))⟩
theorem chain_run {a : List ApiRev} (hl : a.length ≤ 1000) {kj kj2 : Unit → Option Bool} : ∀ (J k : Nat), k ≤ a.length → a.length - k < J →
    ∃ b : Bool, rev_Chain_l1 a kj J (k : Int) = (if b = true then kj () else some false) ∧ ref06_Chain_l1 a kj2 J (k : Int) = (if b = true then kj2 () else some false)
  | 0, k, _, h => by omega
  | J + 1, k, h1, h2 => by
    have hM : M63 = 9223372036854775807 := rfl
    rw [rev_Chain_l1, ref06_Chain_l1]
    by_cases c : k < a.length
    · obtain ⟨m, e1, e2⟩ := may_eq2 a[k]
      rw [if_pos (by omega), if_pos (by omega), geti_nat, List.getElem?_eq_getElem c]
      simp only [Option.bind_some, e1, e2]
      cases m with
      | false => exact ⟨false, by simp, by simp⟩
      | true =>
        simp only [Bool.not_true, Bool.false_eq_true, if_false]
        by_cases c0 : k = 0
        · rw [if_neg (by omega), if_neg (by omega), nxt c (by omega)]
          exact chain_run hl J (k + 1) (by omega) (by omega)
        · have hlt : k - 1 < a.length := by omega
          have ei : i64 ((k : Int) - 1) = ((k - 1 : Nat) : Int) := by rw [i64_id (by omega) (by omega)]; omega
          rw [if_pos (by omega), if_pos (by omega), ei, geti_nat, List.getElem?_eq_getElem hlt]
          simp only [Option.bind_some]
          by_cases e : ((ofI64 ((a[k].Gen.toNat : Int) + 1)).toNat : Int) = (a[k - 1].Gen.toNat : Int)
          · rw [if_neg (by omega), if_neg (by omega), nxt c (by omega)]
            exact chain_run hl J (k + 1) (by omega) (by omega)
          · rw [if_pos e, if_pos (by omega)]
            exact ⟨false, by simp, by simp⟩
    · rw [if_neg (by omega), if_neg (by omega)]
      exact ⟨true, by simp, by simp⟩
theorem RevChain_pure (l : List ApiRev) : law06_RevChain l = some true := by
  unfold law06_RevChain
  by_cases c : 60 < (l.length : Int)
  · rw [if_pos c, awake_true]; rfl
  · rw [if_neg c, app_ok2 _ _ (by simp; omega), Option.bind_some, List.nil_append]
    have hF := FU_M
    have hM : M63 = 9223372036854775807 := rfl
    unfold rev_Chain ref06_Chain
    rw [jn_eq', jn_eq', show (0 : Int) = ((0 : Nat) : Int) from rfl]
    obtain ⟨b, e1, e2⟩ := chain_run (a := l) (by omega) (kj := fun _ => some (decide ((1 ≤ (l.length : Int)) ∧ ((l.length : Int) ≤ 16)))) (kj2 := fun _ => some (decide ((((0 : Nat) : Int) < (l.length : Int)) ∧ ((l.length : Int) < 17)))) FU 0 (by omega) (by omega)
    rw [e1, e2]
    have e : decide ((1 ≤ (l.length : Int)) ∧ ((l.length : Int) ≤ 16)) = decide ((((0 : Nat) : Int) < (l.length : Int)) ∧ ((l.length : Int) < 17)) := decide_eq_decide.2 (by omega)
    cases b with
    | false => simp only [Bool.false_eq_true, if_false, Option.bind_some, beq_self_eq_true, if_true, awake_true]
    | true => simp only [if_true, Option.bind_some, e, beq_self_eq_true, awake_true]
end Go.Proofs

set_option linter.unusedVariables false
set_option linter.unusedSimpArgs false
namespace Go.Proofs
open Go.Fw
/-! Decimal numbers. -/
theorem u8n {n : Nat} (h : n < 256) : (UInt8.ofNat n).toNat = n := by rw [UInt8.toNat_ofNat']; omega
theorem decF_len : ∀ (f u k : Nat), u < 10 ^ k → 1 ≤ k → (decF f u).length ≤ k
  | 0, _, _, _, _ => by simp [decF]
  | f + 1, u, 0, _, h => by omega
  | f + 1, u, k + 1, hu, _ => by
    rw [decF]
    by_cases c : u < 10
    · rw [if_pos c]; simp
    · rw [if_neg c]
      have hk : 1 ≤ k := by
        rcases k with _ | k
        · simp at hu; omega
        · omega
      have := decF_len f (u / 10) k (by rw [Nat.pow_succ] at hu; omega) hk
      simp only [List.length_append, List.length_cons, List.length_nil]; omega
theorem decF_ne : ∀ (f u : Nat), 1 ≤ f → decF f u ≠ []
  | 0, _, h => by omega
  | f + 1, u, _ => by
    rw [decF]
    split
    · simp
    · simp
theorem decF_dig : ∀ (f u : Nat), ∀ c ∈ decF f u, 48 ≤ c.toNat ∧ c.toNat ≤ 57
  | 0, _, c, h => by simp [decF] at h
  | f + 1, u, c, h => by
    rw [decF] at h
    split at h
    · rw [List.mem_singleton] at h; subst h; rw [u8n (by omega)]; omega
    · rcases List.mem_append.1 h with h | h
      · exact decF_dig f _ c h
      · rw [List.mem_singleton] at h; subst h; rw [u8n (by omega)]; omega
theorem p10_snoc : ∀ (l : List UInt8) (acc u : Nat) (c : UInt8), Lib.parseUint10 acc l = .ok u → 48 ≤ c.toNat ∧ c.toNat ≤ 57 → u < 1844674407370955162 → u * 10 + (c.toNat - 48) < 18446744073709551616 → Lib.parseUint10 acc (l ++ [c]) = .ok (u * 10 + (c.toNat - 48))
  | [], acc, u, c, h, hc, h1, h2 => by
    simp only [Lib.parseUint10] at h
    injection h with h
    subst h
    simp only [List.nil_append, Lib.parseUint10]
    rw [if_pos hc, if_neg (by omega), if_neg (by omega)]
  | d :: r, acc, u, c, h, hc, h1, h2 => by
    simp only [Lib.parseUint10] at h
    simp only [List.cons_append, Lib.parseUint10]
    split at h
    · split at h
      · cases h
      · split at h
        · cases h
        · rename_i g1 g2 g3
          rw [if_pos g1, if_neg g2, if_neg g3]
          exact p10_snoc r _ u c h hc h1 h2
    · cases h
theorem p10_dec : ∀ (f u : Nat), 1 ≤ f → u < 10 ^ f → u < 18446744073709551616 → Lib.parseUint10 0 (decF f u) = .ok u
  | 0, _, h, _, _ => by omega
  | f + 1, u, _, hu, hm => by
    rw [decF]
    by_cases c : u < 10
    · rw [if_pos c]
      simp only [Lib.parseUint10]
      rw [u8n (by omega), if_pos (by omega), if_neg (by omega), if_neg (by omega)]
      congr 1; omega
    · have hf : 1 ≤ f := by
        rcases f with _ | f
        · simp at hu; omega
        · omega
      rw [if_neg c, p10_snoc _ 0 (u / 10) _ (p10_dec f (u / 10) hf (by rw [Nat.pow_succ] at hu; omega) (by omega)) (by rw [u8n (by omega)]; omega) (by omega) (by rw [u8n (by omega)]; omega), u8n (by omega)]
      congr 1; omega
theorem parseUintR_dec (g : UInt64) : parseUintR (decF 30 g.toNat) = (g, false) := by
  have h : Lib.parseUintB 64 (decF 30 g.toNat) = .ok g.toNat := by
    rw [Lib.parseUintB_64]
    unfold Lib.parseMag
    rw [if_neg (decF_ne 30 _ (by decide)), p10_dec 30 _ (by decide) (Nat.lt_trans g.toNat_lt (by decide)) g.toNat_lt]
  unfold parseUintR
  rw [h]
  simp
theorem appendU_nl (g : UInt64) : strconv_AppendUint_nl_o g 10 = some (decF 30 g.toNat) := by
  have hg := g.toNat_lt
  have hl := decF_len 30 g.toNat 20 (Nat.lt_trans hg (by decide)) (by decide)
  have hp := List.length_pos_iff.2 (decF_ne 30 g.toNat (by decide))
  unfold strconv_AppendUint_nl_o strconv_AppendUint_nl
  rw [if_pos rfl]
  by_cases c : (g.toNat : Int) < 100
  · rw [if_pos c, i64_id (by omega) (by omega)]
    rw [if_pos (by omega), app_ok2 _ _ (by simp; omega)]
    simp
  · rw [if_neg c, if_pos (by omega)]
    have e1 : (((decF 30 g.toNat).length : Int) : Int).toNat = (decF 30 g.toNat).length := by omega
    rw [e1]
    have e2 : (decF 30 g.toNat ++ (List.replicate 24 (0 : UInt8)).drop (decF 30 g.toNat).length).take (decF 30 g.toNat).length = decF 30 g.toNat := by simp
    simp only [e2]
    repeat (first | rw [if_pos (by omega)])
    rw [app_ok2 _ _ (by simp; omega)]
    simp
    omega
theorem formatU (g : UInt64) : strconv_FormatUint_p g 10 = some (decF 30 g.toNat) := by
  have hg := g.toNat_lt
  have hl := decF_len 30 g.toNat 20 (Nat.lt_trans hg (by decide)) (by decide)
  have hp := List.length_pos_iff.2 (decF_ne 30 g.toNat (by decide))
  unfold strconv_FormatUint_p strconv_FormatUint
  rw [if_pos rfl]
  by_cases c : (g.toNat : Int) < 100
  · rw [if_pos c, i64_id (by omega) (by omega)]
    rw [if_pos (by omega)]
    simp
  · rw [if_neg c, if_pos (by omega)]
    have e1 : (((decF 30 g.toNat).length : Int) : Int).toNat = (decF 30 g.toNat).length := by omega
    rw [e1]
    have e2 : (decF 30 g.toNat ++ (List.replicate 24 (0 : UInt8)).drop (decF 30 g.toNat).length).take (decF 30 g.toNat).length = decF 30 g.toNat := by simp
    simp only [e2]
    repeat (first | rw [if_pos (by omega)])
    simp
    omega
/-! Hexadecimal digits. -/
def HX : List UInt8 := [48, 49, 50, 51, 52, 53, 54, 55, 56, 57, 97, 98, 99, 100, 101, 102]
def hx (b : UInt8) : UInt8 := HX.getD b.toNat 0
def hex2 (b : UInt8) : List UInt8 := [hx (shr8 b 4), hx (b &&& 15)]
def comb (h l : UInt8) : UInt8 := (ofI8 ((h.toNat : Int) * 2 ^ (min (4 : Int).toNat 8))) ||| l
def hexI (c : UInt8) : Option UInt8 := if 0 ≤ Lib.indexByte HX c then some (ofI8 (Lib.indexByte HX c)) else none
theorem u8_all {p : UInt8 → Prop} (h : ∀ n : Fin 256, p (UInt8.ofNat n.val)) (b : UInt8) : p b := by
  have := h ⟨b.toNat, b.toNat_lt⟩
  simpa using this
theorem hexI_hx (b : UInt8) : hexI (hx (shr8 b 4)) = some (shr8 b 4) ∧ hexI (hx (b &&& 15)) = some (b &&& 15) ∧ comb (shr8 b 4) (b &&& 15) = b ∧ (shr8 b 4).toNat < 16 ∧ (b &&& 15).toNat < 16 :=
  u8_all (p := fun b => hexI (hx (shr8 b 4)) = some (shr8 b 4) ∧ hexI (hx (b &&& 15)) = some (b &&& 15) ∧ comb (shr8 b 4) (b &&& 15) = b ∧ (shr8 b 4).toNat < 16 ∧ (b &&& 15).toNat < 16) (by decide +kernel) b
def hxB (c : UInt8) : Bool := match hexI c with | some h => decide (hx h = c) && decide (h.toNat < 16) | none => true
theorem hx_hexI {c h : UInt8} (e : hexI c = some h) : hx h = c ∧ h.toNat < 16 := by
  have := u8_all (p := fun c => hxB c = true) (by decide +kernel) c
  unfold hxB at this
  rw [e] at this
  simpa using this
theorem comb_parts : ∀ h l : Fin 16, shr8 (comb (UInt8.ofNat h.val) (UInt8.ofNat l.val)) 4 = UInt8.ofNat h.val ∧ comb (UInt8.ofNat h.val) (UInt8.ofNat l.val) &&& 15 = UInt8.ofNat l.val := by decide +kernel
theorem comb_parts' {h l : UInt8} (hh : h.toNat < 16) (hl : l.toNat < 16) : shr8 (comb h l) 4 = h ∧ comb h l &&& 15 = l := by
  have := comb_parts ⟨h.toNat, hh⟩ ⟨l.toNat, hl⟩
  simpa using this
def decP : List UInt8 → Option (List UInt8)
  | [] => some []
  | [_] => none
  | c :: d :: r => match hexI c, hexI d, decP r with
    | some h, some l, some t => some (comb h l :: t)
    | _, _, _ => none
theorem decP_enc : ∀ L : List UInt8, decP (L.flatMap hex2) = some L
  | [] => rfl
  | b :: L => by
    obtain ⟨h1, h2, h3, _, _⟩ := hexI_hx b
    show decP (hx (shr8 b 4) :: hx (b &&& 15) :: L.flatMap hex2) = _
    rw [decP, h1, h2, decP_enc L]
    simp only [h3]
theorem enc_decP : ∀ (n : Nat) (s L : List UInt8), s.length ≤ n → decP s = some L → s = L.flatMap hex2
  | _, [], L, _, h => by simp [decP] at h; subst h; rfl
  | _, [_], _, _, h => by simp [decP] at h
  | 0, _ :: _ :: _, _, hn, _ => by simp at hn
  | n + 1, c :: d :: r, L, hn, h => by
    rw [decP] at h
    match h1 : hexI c, h2 : hexI d, h3 : decP r with
    | some x, some y, some t =>
      rw [h1, h2, h3] at h
      have hc := hx_hexI h1
      have hd := hx_hexI h2
      have := Option.some.inj h
      subst this
      obtain ⟨p1, p2⟩ := comb_parts' hc.2 hd.2
      have ih := enc_decP n r t (by simp only [List.length_cons] at hn; omega) h3
      rw [List.flatMap_cons, ← ih]
      unfold hex2
      rw [p1, p2, hc.1, hd.1]; rfl
    | none, _, _ => rw [h1] at h; cases h
    | some _, none, _ => rw [h1, h2] at h; cases h
    | some _, some _, none => rw [h1, h2, h3] at h; cases h
theorem decP_len : ∀ (n : Nat) (s L : List UInt8), s.length ≤ n → decP s = some L → s.length = 2 * L.length := by
  intro n s L hn h
  have := enc_decP n s L hn h
  rw [this]
  clear this h hn
  induction L with
  | nil => rfl
  | cons b L ih => rw [List.flatMap_cons, List.length_append, List.length_cons, ih]; show 2 + _ = _; omega
/-! Texts. -/
def sL (x : St27) : List UInt8 := [x.e0, x.e1, x.e2, x.e3, x.e4, x.e5, x.e6, x.e7, x.e8, x.e9, x.e10, x.e11, x.e12, x.e13, x.e14, x.e15]
def rtx (r : ApiRev) : List UInt8 := decF 30 r.Gen.toNat ++ 45 :: (sL r.Sum).flatMap hex2
def mayR (r : ApiRev) : Bool := decide ((1 ≤ (r.Gen.toNat : Int)) ∧ ((r.Gen.toNat : Int) ≤ 4611686018427387903))
theorem hx_geti (b : UInt8) (h : b.toNat < 16) : geti HX (b.toNat : Int) = some (hx b) := by
  rw [geti_nat]
  unfold hx
  have : b.toNat < HX.length := h
  rw [List.getElem?_eq_getElem this, List.getD_eq_getElem?_getD, List.getElem?_eq_getElem this]; rfl
theorem printL_run {r : ApiRev} {kj : List UInt8 → Option (List UInt8 × Int)} : ∀ (J k : Nat) (x : List UInt8), k ≤ 16 → 16 - k < J → x.length + 2 * (16 - k) ≤ 1000 → rev_Print_l1 r kj J x (k : Int) = kj (x ++ ((sL r.Sum).drop k).flatMap hex2)
  | 0, k, x, _, h, _ => by omega
  | J + 1, k, x, h1, h2, h3 => by
    rw [rev_Print_l1]
    by_cases c : k < 16
    · have hl : k < (sL r.Sum).length := c
      obtain ⟨_, _, _, q1, q2⟩ := hexI_hx (sL r.Sum)[k]
      have e0 : geti ([r.Sum.e0, r.Sum.e1, r.Sum.e2, r.Sum.e3, r.Sum.e4, r.Sum.e5, r.Sum.e6, r.Sum.e7, r.Sum.e8, r.Sum.e9, r.Sum.e10, r.Sum.e11, r.Sum.e12, r.Sum.e13, r.Sum.e14, r.Sum.e15] : List UInt8) (k : Int) = some (sL r.Sum)[k] := by
        rw [geti_nat]; exact List.getElem?_eq_getElem hl
      have e1 := hx_geti _ q1
      have e2 := hx_geti _ q2
      rw [if_pos (by omega), e0, Option.bind_some]
      have e1' : geti ([48, 49, 50, 51, 52, 53, 54, 55, 56, 57, 97, 98, 99, 100, 101, 102] : List UInt8) ((shr8 (sL r.Sum)[k] 4).toNat : Int) = some (hx (shr8 (sL r.Sum)[k] 4)) := e1
      have e2' : geti ([48, 49, 50, 51, 52, 53, 54, 55, 56, 57, 97, 98, 99, 100, 101, 102] : List UInt8) (((sL r.Sum)[k] &&& (15 : UInt8)).toNat : Int) = some (hx ((sL r.Sum)[k] &&& 15)) := e2
      rw [e1', Option.bind_some, e2', Option.bind_some, app_ok2 _ _ (by simp; omega), Option.bind_some, nxt c (by decide), printL_run J (k + 1) _ (by omega) (by omega) (by simp; omega), List.drop_eq_getElem_cons hl, List.flatMap_cons]
      simp [hex2]
    · rw [if_neg (by omega), List.drop_eq_nil_of_le (show 16 ≤ k by omega)]; simp
theorem print_eq (r : ApiRev) : rev_Print r = some (if mayR r = true then (rtx r, 0) else ([], 1)) := by
  have hF := FU_M
  have hM : M63 = 9223372036854775807 := rfl
  unfold rev_Print
  have hm : rev_May r = some (mayR r) := rfl
  rw [hm, Option.bind_some]
  cases mayR r with
  | false => rfl
  | true =>
    have hl := decF_len 30 r.Gen.toNat 20 (Nat.lt_trans r.Gen.toNat_lt (by decide)) (by decide)
    rw [if_neg (by decide), if_pos rfl, appendU_nl, Option.bind_some, app_ok2 _ _ (by simp; omega), Option.bind_some, jn_eq', show (0 : Int) = ((0 : Nat) : Int) from rfl, printL_run FU 0 _ (by omega) (by omega) (by simp; omega)]
    simp [rtx]
end Go.Proofs

set_option linter.unusedVariables false
set_option linter.unusedSimpArgs false
namespace Go.Proofs
open Go.Fw
/-! What a text is parsed as. -/
def zeroR : ApiRev := ⟨0, ⟨0, 0, 0, 0, 0, 0, 0, 0, 0, 0, 0, 0, 0, 0, 0, 0⟩⟩
def mkS (L : List UInt8) : St27 := ⟨L.getD 0 0, L.getD 1 0, L.getD 2 0, L.getD 3 0, L.getD 4 0, L.getD 5 0, L.getD 6 0, L.getD 7 0, L.getD 8 0, L.getD 9 0, L.getD 10 0, L.getD 11 0, L.getD 12 0, L.getD 13 0, L.getD 14 0, L.getD 15 0⟩
theorem sL_mkS {L : List UInt8} (h : L.length = 16) : sL (mkS L) = L := (lit16 h 0).symm
theorem mkS_sL (x : St27) : mkS (sL x) = x := rfl
theorem sL_len (x : St27) : (sL x).length = 16 := rfl
theorem sL_inj {x y : St27} (h : sL x = sL y) : x = y := by rw [← mkS_sL x, ← mkS_sL y, h]
theorem rev_eq {x y : ApiRev} : ((x.Gen.toNat : Int) = (y.Gen.toNat : Int) ∧ sL x.Sum = sL y.Sum) ↔ x = y := by
  constructor
  · rintro ⟨h1, h2⟩
    cases x; cases y
    simp only at h1 h2
    rename_i g1 s1 g2 s2
    have e : g1 = g2 := UInt64.toNat_inj.1 (by omega)
    rw [sL_inj h2, e]
  · rintro rfl; exact ⟨rfl, rfl⟩
def pL (x1 : List UInt8 × List UInt8 × Bool) (kj : Bool → UInt8 → UInt8 → UInt8 → UInt8 → UInt8 → UInt8 → UInt8 → UInt8 → UInt8 → UInt8 → UInt8 → UInt8 → UInt8 → UInt8 → UInt8 → UInt8 → Option (ApiRev × Int)) (J : Nat) (i : Int) (ok : Bool) (L : List UInt8) : Option (ApiRev × Int) :=
  rev_Parse_l1 x1 kj J i ok (L.getD 0 0) (L.getD 1 0) (L.getD 2 0) (L.getD 3 0) (L.getD 4 0) (L.getD 5 0) (L.getD 6 0) (L.getD 7 0) (L.getD 8 0) (L.getD 9 0) (L.getD 10 0) (L.getD 11 0) (L.getD 12 0) (L.getD 13 0) (L.getD 14 0) (L.getD 15 0)
def kL (kj : Bool → UInt8 → UInt8 → UInt8 → UInt8 → UInt8 → UInt8 → UInt8 → UInt8 → UInt8 → UInt8 → UInt8 → UInt8 → UInt8 → UInt8 → UInt8 → UInt8 → Option (ApiRev × Int)) (ok : Bool) (L : List UInt8) : Option (ApiRev × Int) :=
  kj ok (L.getD 0 0) (L.getD 1 0) (L.getD 2 0) (L.getD 3 0) (L.getD 4 0) (L.getD 5 0) (L.getD 6 0) (L.getD 7 0) (L.getD 8 0) (L.getD 9 0) (L.getD 10 0) (L.getD 11 0) (L.getD 12 0) (L.getD 13 0) (L.getD 14 0) (L.getD 15 0)
theorem pL_succ (x1 : List UInt8 × List UInt8 × Bool) (kj) (J : Nat) (i : Int) (ok : Bool) {L : List UInt8} (hL : L.length = 16) : pL x1 kj (J + 1) i ok L = if (ok = true) ∧ (i < 16) then (geti x1.2.1 (i64 (2 * i))).bind fun x42 => (geti x1.2.1 (i64 ((i64 (2 * i)) + 1))).bind fun x43 => (geti L i).bind fun x44 => (seti L i (comb (ofI8 (Lib.indexByte HX x42)) (ofI8 (Lib.indexByte HX x43)))).bind fun x45 => pL x1 kj J (i64 (i + 1)) (decide (((ok = true) ∧ (0 ≤ Lib.indexByte HX x42)) ∧ (0 ≤ Lib.indexByte HX x43))) x45 else kL kj ok L := by
  unfold pL
  rw [rev_Parse_l1, ← lit16 hL 0]
  rfl
theorem pL_stop {x1 : List UInt8 × List UInt8 × Bool} {kj} {J : Nat} {i : Int} {L : List UInt8} (hL : L.length = 16) : pL x1 kj (J + 1) i false L = kL kj false L := by
  rw [pL_succ _ _ _ _ _ hL, if_neg (by simp)]
theorem drop2 {S : List UInt8} {k : Nat} (h : 2 * k + 1 < S.length) : S.drop (2 * k) = S[2 * k] :: S[2 * k + 1] :: S.drop (2 * (k + 1)) := by
  rw [List.drop_eq_getElem_cons (show 2 * k < S.length by omega), List.drop_eq_getElem_cons (show 2 * k + 1 < S.length by omega), show 2 * k + 1 + 1 = 2 * (k + 1) by omega]
theorem pL_run {x1 : List UInt8 × List UInt8 × Bool} {kj} (hS : x1.2.1.length = 32) : ∀ (J k : Nat) (L : List UInt8), k ≤ 16 → 16 - k + 1 < J → L.length = 16 →
    (∀ D, decP (x1.2.1.drop (2 * k)) = some D → pL x1 kj J (k : Int) true L = kL kj true (L.take k ++ D)) ∧ (decP (x1.2.1.drop (2 * k)) = none → ∃ L2, pL x1 kj J (k : Int) true L = kL kj false L2)
  | 0, k, L, _, h, _ => by omega
  | J + 1, k, L, h1, h2, hL => by
    rw [pL_succ _ _ _ _ _ hL]
    by_cases c : k < 16
    · have e1 : i64 (2 * (k : Int)) = ((2 * k : Nat) : Int) := by rw [i64_id (by omega) (by omega)]; omega
      have e2 : i64 (((2 * k : Nat) : Int) + 1) = ((2 * k + 1 : Nat) : Int) := by rw [i64_id (by omega) (by omega)]; omega
      have g1 : geti x1.2.1 ((2 * k : Nat) : Int) = some x1.2.1[2 * k] := by rw [geti_nat]; exact List.getElem?_eq_getElem (by omega)
      have g2 : geti x1.2.1 ((2 * k + 1 : Nat) : Int) = some x1.2.1[2 * k + 1] := by rw [geti_nat]; exact List.getElem?_eq_getElem (by omega)
      have g3 : geti L (k : Int) = some L[k] := by rw [geti_nat]; exact List.getElem?_eq_getElem (by omega)
      have g4 : ∀ v, seti L (k : Int) v = some (L.set k v) := fun v => by unfold seti; rw [if_pos (by omega)]; simp
      rw [if_pos ⟨rfl, by omega⟩, e1, e2, g1, Option.bind_some, g2, Option.bind_some, g3, Option.bind_some, g4, Option.bind_some, nxt c (by decide), drop2 (show 2 * k + 1 < x1.2.1.length by omega), decP]
      generalize x1.2.1[2 * k] = a
      generalize x1.2.1[2 * k + 1] = b
      by_cases ha : 0 ≤ Lib.indexByte HX a
      · by_cases hb : 0 ≤ Lib.indexByte HX b
        · have q1 : hexI a = some (ofI8 (Lib.indexByte HX a)) := by unfold hexI; rw [if_pos ha]
          have q2 : hexI b = some (ofI8 (Lib.indexByte HX b)) := by unfold hexI; rw [if_pos hb]
          rw [q1, q2, decide_eq_true ⟨⟨rfl, ha⟩, hb⟩]
          obtain ⟨r1, r2⟩ := pL_run (kj := kj) hS J (k + 1) (L.set k (comb (ofI8 (Lib.indexByte HX a)) (ofI8 (Lib.indexByte HX b)))) (by omega) (by omega) (by rw [List.length_set]; exact hL)
          constructor
          · intro D hD
            match h3 : decP (x1.2.1.drop (2 * (k + 1))) with
            | some t =>
              rw [h3] at hD
              have hD := Option.some.inj hD
              rw [r1 t h3, ← hD]
              congr 1
              rw [List.take_add_one, List.take_set_of_le (Nat.le_refl _), List.getElem?_set_self (by omega)]
              simp
            | none => rw [h3] at hD; cases hD
          · intro hD
            match h3 : decP (x1.2.1.drop (2 * (k + 1))) with
            | some t => rw [h3] at hD; cases hD
            | none => exact r2 h3
        · have q2 : hexI b = none := by unfold hexI; rw [if_neg hb]
          rw [q2, decide_eq_false (by rintro ⟨_, h⟩; exact hb h)]
          obtain ⟨J', rfl⟩ : ∃ J', J = J' + 1 := ⟨J - 1, by omega⟩
          constructor
          · intro D hD
            match h3 : hexI a with
            | some _ => rw [h3] at hD; cases hD
            | none => rw [h3] at hD; cases hD
          · intro _
            exact ⟨_, pL_stop (by rw [List.length_set]; exact hL)⟩
      · have q1 : hexI a = none := by unfold hexI; rw [if_neg ha]
        rw [q1, decide_eq_false (by rintro ⟨⟨_, h⟩, _⟩; exact ha h)]
        obtain ⟨J', rfl⟩ : ∃ J', J = J' + 1 := ⟨J - 1, by omega⟩
        exact ⟨fun D hD => (by cases hD), fun _ => ⟨_, pL_stop (by rw [List.length_set]; exact hL)⟩⟩
    · have hk : k = 16 := by omega
      subst hk
      rw [if_neg (by omega), List.drop_eq_nil_of_le (by omega)]
      refine ⟨fun D hD => ?_, fun h => by cases h⟩
      have := Option.some.inj hD
      subst this
      rw [List.append_nil, List.take_of_length_le (by omega)]
theorem idx_dash : ∀ s : List UInt8, (∃ a b, s = a ++ 45 :: b ∧ (∀ c ∈ a, c ≠ 45) ∧ Lib.indexByte s 45 = (a.length : Int)) ∨ ((∀ c ∈ s, c ≠ 45) ∧ Lib.indexByte s 45 = -1)
  | [] => .inr ⟨by simp, rfl⟩
  | x :: s => by
    rw [Lib.indexByte]
    by_cases h : x = 45
    · rw [if_pos (by simp [h])]
      exact .inl ⟨[], s, by rw [h]; rfl, by simp, by simp⟩
    · rw [if_neg (by simpa using h)]
      rcases idx_dash s with ⟨a, b, e, h1, h2⟩ | ⟨h1, h2⟩
      · rw [if_neg (by rw [h2]; simp)]
        refine .inl ⟨x :: a, b, by rw [e]; rfl, ?_, by rw [h2]; simp⟩
        intro c hc
        rcases List.mem_cons.1 hc with rfl | hc
        · exact h
        · exact h1 c hc
      · rw [if_pos (by rw [h2]; rfl)]
        refine .inr ⟨?_, rfl⟩
        intro c hc
        rcases List.mem_cons.1 hc with rfl | hc
        · exact h
        · exact h1 c hc
theorem cut_cases (s : List UInt8) (hs : s.length ≤ 1000000) : (∃ a b, strings_Cut s [45] = some (a, b, true) ∧ s = a ++ 45 :: b ∧ ∀ c ∈ a, c ≠ 45) ∨ (strings_Cut s [45] = some (s, [], false) ∧ ∀ c ∈ s, c ≠ 45) := by
  unfold strings_Cut stringslite_Cut
  rw [if_pos (show ([45] : List UInt8).length = 1 from rfl)]
  rcases idx_dash s with ⟨a, b, e, h1, h2⟩ | ⟨h1, h2⟩
  · have hl : s.length = a.length + 1 + b.length := by rw [e]; simp; omega
    have h2' : Lib.indexByte s (([45] : List UInt8).headD 0) = (a.length : Int) := h2
    have hl1 : (([45] : List UInt8).length : Int) = 1 := rfl
    rw [h2', if_pos (by omega), hl1, i64_id (by omega) (by omega)]
    have g1 : subl s 0 (a.length : Int) = some a := by
      unfold subl
      rw [if_pos ⟨by omega, by omega, by omega⟩, e]; simp
    have g2 : subl s ((a.length : Int) + 1) (s.length : Int) = some b := by
      unfold subl
      rw [if_pos ⟨by omega, by omega, by omega⟩]
      have e1 : ((a.length : Int) + 1).toNat = a.length + 1 := by omega
      rw [e1, Int.toNat_natCast, hl, e]
      simp
    rw [g1, Option.bind_some, g2]
    exact .inl ⟨a, b, rfl, e, h1⟩
  · have h2' : Lib.indexByte s (([45] : List UInt8).headD 0) = -1 := h2
    rw [h2', if_neg (by decide)]
    exact .inr ⟨rfl, h1⟩
/-- What any text is parsed as: the name whose text it is, or none. -/
theorem parse_cases (s : List UInt8) (hs : s.length ≤ 1000000) : (∃ r, rev_Parse s = some (r, 0) ∧ mayR r = true ∧ s = rtx r) ∨ (rev_Parse s = some (zeroR, 2) ∧ ∀ r, mayR r = true → s ≠ rtx r) := by
  have hF := FU_M
  have hM : M63 = 9223372036854775807 := rfl
  have hF16 : 16 - 0 + 1 < FU := by omega
  obtain ⟨J, hJ⟩ : ∃ J, FU = J + 1 := ⟨FU - 1, by omega⟩
  have z16 : (List.replicate 16 (0 : UInt8)).length = 16 := rfl
  have low : ∀ g : UInt64, ∀ c ∈ decF 30 g.toNat, c ≠ 45 := fun g c hc => by
    have := decF_dig _ _ c hc
    rintro rfl
    revert this; decide
  -- two ways of a dash are one
  have uniq : ∀ (a b c d : List UInt8), (∀ x ∈ a, x ≠ 45) → (∀ x ∈ c, x ≠ 45) → a ++ 45 :: b = c ++ 45 :: d → a = c ∧ b = d := by
    intro a
    induction a with
    | nil =>
      intro b c d _ hc h
      cases c with
      | nil => exact ⟨rfl, (List.cons.inj h).2⟩
      | cons y c => have := (List.cons.inj h).1; exact absurd this.symm (hc y (by simp))
    | cons x a ih =>
      intro b c d ha hc h
      cases c with
      | nil => have := (List.cons.inj h).1; exact absurd this (ha x (by simp))
      | cons y c =>
        obtain ⟨h1, h2⟩ := List.cons.inj h
        obtain ⟨h3, h4⟩ := ih b c d (fun z hz => ha z (by simp [hz])) (fun z hz => hc z (by simp [hz])) h2
        exact ⟨by rw [h1, h3], h4⟩
  unfold rev_Parse
  rcases cut_cases s hs with ⟨a, b, e1, e2, e3⟩ | ⟨e1, e3⟩
  · have hla : a.length ≤ 1000000 := by have := congrArg List.length e2; simp at this; omega
    have none' : ∀ {o : Bool}, (o = false) → (jn (fun (x7 : Bool) (x8 : UInt8) (x9 : UInt8) (x10 : UInt8) (x11 : UInt8) (x12 : UInt8) (x13 : UInt8) (x14 : UInt8) (x15 : UInt8) (x16 : UInt8) (x17 : UInt8) (x18 : UInt8) (x19 : UInt8) (x20 : UInt8) (x21 : UInt8) (x22 : UInt8) (x23 : UInt8) => if (!x7) = true then some (zeroR, (2 : Int)) else some ((⟨(parseUintR a).1, (⟨x8, x9, x10, x11, x12, x13, x14, x15, x16, x17, x18, x19, x20, x21, x22, x23⟩ : St27)⟩ : ApiRev), 0)) (fun kj6 => rev_Parse_l1 (a, b, true) kj6 FU 0 o 0 0 0 0 0 0 0 0 0 0 0 0 0 0 0 0)) = some (zeroR, 2) := by
      rintro o rfl
      rw [jn_eq', hJ]
      exact (pL_stop (x1 := (a, b, true)) (i := 0) z16).trans rfl
    rw [e1, Option.bind_some, if_pos hla]
    by_cases q : (parseUintR a).2 = false
    · rw [if_pos ⟨rfl, by rw [q]; rfl⟩, formatU, Option.bind_some, Option.bind_some]
      by_cases q2 : decF 30 (parseUintR a).1.toNat = a ∧ b.length = 32
      · rw [if_pos ⟨decide_eq_true q2.1, show (b.length : Int) = 32 by omega⟩]
        have hm : ∀ (x : St27), rev_May ⟨(parseUintR a).1, x⟩ = some (mayR ⟨(parseUintR a).1, x⟩) := fun x => rfl
        rw [hm, Option.bind_some, Option.bind_some]
        have hm2 : ∀ (x y : St27), mayR ⟨(parseUintR a).1, x⟩ = mayR ⟨(parseUintR a).1, y⟩ := fun x y => rfl
        cases m : mayR ⟨(parseUintR a).1, ⟨0, 0, 0, 0, 0, 0, 0, 0, 0, 0, 0, 0, 0, 0, 0, 0⟩⟩ with
        | false =>
          refine .inr ⟨none' rfl, ?_⟩
          intro r hr hsr
          rw [e2] at hsr
          obtain ⟨h1, h2⟩ := uniq _ _ _ _ e3 (low r.Gen) hsr
          have e9 : (parseUintR a).1 = r.Gen := by rw [h1, parseUintR_dec]
          have : mayR r = false := by rw [← m, e9]; rfl
          rw [hr] at this; cases this
        | true =>
          rw [jn_eq']
          obtain ⟨r1, r2⟩ := pL_run (x1 := (a, b, true)) (kj := fun (x7 : Bool) (x8 : UInt8) (x9 : UInt8) (x10 : UInt8) (x11 : UInt8) (x12 : UInt8) (x13 : UInt8) (x14 : UInt8) (x15 : UInt8) (x16 : UInt8) (x17 : UInt8) (x18 : UInt8) (x19 : UInt8) (x20 : UInt8) (x21 : UInt8) (x22 : UInt8) (x23 : UInt8) => if (!x7) = true then some (zeroR, (2 : Int)) else some ((⟨(parseUintR a).1, (⟨x8, x9, x10, x11, x12, x13, x14, x15, x16, x17, x18, x19, x20, x21, x22, x23⟩ : St27)⟩ : ApiRev), 0)) q2.2 FU 0 (List.replicate 16 0) (Nat.zero_le _) hF16 z16
          match hd : decP b with
          | some D =>
            have hl := decP_len _ b D (Nat.le_refl _) hd
            have hb := enc_decP _ b D (Nat.le_refl _) hd
            have hD : D.length = 16 := by omega
            refine .inl ⟨⟨(parseUintR a).1, mkS D⟩, (r1 D hd).trans rfl, (hm2 _ _).trans m, ?_⟩
            unfold rtx
            rw [sL_mkS hD, ← hb, q2.1]; exact e2
          | none =>
            obtain ⟨L2, h3⟩ := r2 hd
            refine .inr ⟨h3.trans rfl, ?_⟩
            intro r hr hsr
            rw [e2] at hsr
            obtain ⟨h1, h2⟩ := uniq _ _ _ _ e3 (low r.Gen) hsr
            rw [h2, decP_enc] at hd; cases hd
      · rw [if_neg (by rintro ⟨h1, h2⟩; exact q2 ⟨of_decide_eq_true h1, (by have h2 : (b.length : Int) = 32 := h2; omega)⟩), Option.bind_some]
        refine .inr ⟨none' rfl, ?_⟩
        intro r hr hsr
        rw [e2] at hsr
        obtain ⟨h1, h2⟩ := uniq _ _ _ _ e3 (low r.Gen) hsr
        refine q2 ⟨by rw [h1, parseUintR_dec], ?_⟩
        rw [h2]; rfl
    · rw [if_neg (by rintro ⟨_, h⟩; exact q (by simpa using h)), Option.bind_some, if_neg (by rintro ⟨h, _⟩; cases h), Option.bind_some]
      refine .inr ⟨none' rfl, ?_⟩
      intro r hr hsr
      rw [e2] at hsr
      obtain ⟨h1, h2⟩ := uniq _ _ _ _ e3 (low r.Gen) hsr
      exact q (by rw [h1, parseUintR_dec])
  · rw [e1, Option.bind_some, if_pos hs, if_neg (by rintro ⟨h, _⟩; cases h), Option.bind_some, if_neg (by rintro ⟨h, _⟩; cases h), Option.bind_some, jn_eq', hJ]
    refine .inr ⟨(pL_stop (x1 := (s, [], false)) (i := 0) z16).trans rfl, ?_⟩
    intro r hr hsr
    exact e3 45 (by rw [hsr]; unfold rtx; simp) rfl
theorem parse_text {r : ApiRev} (hm : mayR r = true) (hl : (rtx r).length ≤ 1000000) : rev_Parse (rtx r) = some (r, 0) := by
  rcases parse_cases (rtx r) hl with ⟨r2, h1, h2, h3⟩ | ⟨_, h⟩
  · have hd := decF_dig
    have e : r = r2 := by
      -- the text says what it names
      have h4 := h3
      unfold rtx at h4
      have low : ∀ g : UInt64, ∀ c ∈ decF 30 g.toNat, c ≠ 45 := fun g c hc => by
        have := decF_dig _ _ c hc
        rintro rfl
        revert this; decide
      have key : ∀ (a b c d : List UInt8), (∀ x ∈ a, x ≠ 45) → (∀ x ∈ c, x ≠ 45) → a ++ 45 :: b = c ++ 45 :: d → a = c ∧ b = d := by
        intro a
        induction a with
        | nil =>
          intro b c d _ hc h
          cases c with
          | nil => exact ⟨rfl, (List.cons.inj h).2⟩
          | cons y c => have := (List.cons.inj h).1; exact absurd this.symm (hc y (by simp))
        | cons x a ih =>
          intro b c d ha hc h
          cases c with
          | nil => have := (List.cons.inj h).1; exact absurd this (ha x (by simp))
          | cons y c =>
            obtain ⟨h1, h2⟩ := List.cons.inj h
            obtain ⟨h3, h4⟩ := ih b c d (fun z hz => ha z (by simp [hz])) (fun z hz => hc z (by simp [hz])) h2
            exact ⟨by rw [h1, h3], h4⟩
      obtain ⟨p1, p2⟩ := key _ _ _ _ (low _) (low _) h4
      have p3 := parseUintR_dec r.Gen
      rw [p1, parseUintR_dec] at p3
      have p4 := decP_enc (sL r.Sum)
      rw [p2, decP_enc] at p4
      have g1 : r2.Gen = r.Gen := (Prod.mk.inj p3).1
      have g2 : r2.Sum = r.Sum := sL_inj (Option.some.inj p4)
      cases r; cases r2
      simp only at g1 g2
      rw [g1, g2]
    rw [h1, e]
  · exact absurd rfl (h r hm)
theorem rtx_len (r : ApiRev) : (rtx r).length ≤ 60 := by
  have hl := decF_len 30 r.Gen.toNat 20 (Nat.lt_trans r.Gen.toNat_lt (by decide)) (by decide)
  unfold rtx
  rw [List.length_append, List.length_cons]
  have : ((sL r.Sum).flatMap hex2).length = 32 := rfl
  omega
theorem rtx_inj {r q : ApiRev} (h1 : mayR r = true) (h2 : mayR q = true) (h : rtx r = rtx q) : r = q := by
  have a := parse_text h1 (Nat.le_trans (rtx_len r) (by decide))
  have b := parse_text h2 (Nat.le_trans (rtx_len q) (by decide))
  rw [h, b] at a
  exact ((Prod.mk.inj (Option.some.inj a)).1).symm
end Go.Proofs

set_option linter.unusedVariables false
set_option linter.unusedSimpArgs false
namespace Go.Proofs
open Go.Fw
/-! RevBack. -/
theorem rev_lit (x y : ApiRev) : ((x.Gen.toNat : Int) = (y.Gen.toNat : Int) ∧ ([x.Sum.e0, x.Sum.e1, x.Sum.e2, x.Sum.e3, x.Sum.e4, x.Sum.e5, x.Sum.e6, x.Sum.e7, x.Sum.e8, x.Sum.e9, x.Sum.e10, x.Sum.e11, x.Sum.e12, x.Sum.e13, x.Sum.e14, x.Sum.e15] : List UInt8) = ([y.Sum.e0, y.Sum.e1, y.Sum.e2, y.Sum.e3, y.Sum.e4, y.Sum.e5, y.Sum.e6, y.Sum.e7, y.Sum.e8, y.Sum.e9, y.Sum.e10, y.Sum.e11, y.Sum.e12, y.Sum.e13, y.Sum.e14, y.Sum.e15] : List UInt8)) ↔ x = y := rev_eq
theorem may_eq (r : ApiRev) : rev_May r = some (mayR r) := rfl
theorem back_tail (s : List UInt8) (hs : ¬ 1000 < (s.length : Int)) : ((rev_Parse s).bind fun x6 => if x6.2 ≠ 0 then (law06_awake).bind fun x7 => some x7 else (rev_Print x6.1).bind fun x8 => (if (x8.2 = 0) ∧ (x8.1 = s) then (rev_May x6.1).bind fun x10 => some x10 else some false).bind fun x9 => (if x9 = true then (law06_awake).bind fun x12 => some x12 else some false).bind fun x11 => some x11) = some true := by
  rcases parse_cases s (by omega) with ⟨r, h1, h2, h3⟩ | ⟨h1, _⟩
  · rw [h1, Option.bind_some, if_neg (by simp), print_eq, Option.bind_some]
    simp only [h2, if_true]
    rw [if_pos ⟨trivial, h3.symm⟩, may_eq, h2, awake_true]
    rfl
  · rw [h1, Option.bind_some, if_pos (by decide), awake_true]
    rfl
theorem RevBack_pure (a b : ApiRev) (s : List UInt8) : law06_RevBack a b s = some true := by
  unfold law06_RevBack
  by_cases c : 1000 < (s.length : Int)
  · rw [if_pos c, awake_true]; rfl
  · have T := back_tail s c
    rw [if_neg c, print_eq, Option.bind_some, print_eq, Option.bind_some, jn_eq']
    cases ha : mayR a with
    | false => exact T
    | true =>
      have hp := parse_text ha (Nat.le_trans (rtx_len a) (by decide))
      simp only [if_true, hp, Option.bind_some]
      rw [if_neg]
      · exact T
      · rintro ((h | h) | ⟨h, h2⟩)
        · exact h rfl
        · exact h ⟨trivial, trivial⟩
        · cases hb : mayR b with
          | false => rw [hb] at h; cases h
          | true =>
            rw [hb] at h2
            simp only [if_true] at h2
            by_cases e : a = b
            · subst e
              rw [decide_eq_true rfl, decide_eq_true (p := _ ∧ _) ⟨rfl, rfl⟩] at h2
              cases h2
            · rw [decide_eq_false (p := rtx a = rtx b) (fun h => e (rtx_inj ha hb h)), decide_eq_false (p := _ ∧ _) (fun h => e ((rev_lit a b).1 h))] at h2
              cases h2
end Go.Proofs

set_option linter.unusedVariables false
set_option linter.unusedSimpArgs false
namespace Go.Proofs
open Go.Fw
/-! The document's text of a name. -/
theorem hx_sub (b : UInt8) : (subl HX ((shr8 b 4).toNat : Int) ((ofI8 (((shr8 b 4).toNat : Int) + 1)).toNat : Int) = some [hx (shr8 b 4)]) ∧ (subl HX ((b &&& 15).toNat : Int) ((ofI8 (((b &&& 15).toNat : Int) + 1)).toNat : Int) = some [hx (b &&& 15)]) :=
  u8_all (p := fun b => (subl HX ((shr8 b 4).toNat : Int) ((ofI8 (((shr8 b 4).toNat : Int) + 1)).toNat : Int) = some [hx (shr8 b 4)]) ∧ (subl HX ((b &&& 15).toNat : Int) ((ofI8 (((b &&& 15).toNat : Int) + 1)).toNat : Int) = some [hx (b &&& 15)])) (by decide +kernel) b
theorem dg_sub : ∀ d : Fin 10, subl HX (d.val : Int) (d.val + 1 : Int) = some [UInt8.ofNat (48 + d.val)] := by decide +kernel
theorem rdig {kj : List UInt8 → Option (List UInt8)} : ∀ (f J : Nat) (x : UInt64) (t : List UInt8), x.toNat < 10 ^ f → 1 ≤ f → f ≤ J → t.length + f ≤ 1000 → ref06_Print_l1 kj J t x = kj (decF f x.toNat ++ t)
  | 0, _, _, _, _, h, _, _ => by omega
  | f + 1, 0, _, _, _, _, h, _ => by omega
  | f + 1, J + 1, x, t, hu, _, hJ, hl => by
    have hx := x.toNat_lt
    rw [ref06_Print_l1]
    have e1 : ((x.toNat : Int).tmod 10) = ((x.toNat % 10 : Nat) : Int) := by rw [Int.tmod_eq_emod_of_nonneg (by omega)]; omega
    have e2 : ((x.toNat : Int).tdiv 10) = ((x.toNat / 10 : Nat) : Int) := by rw [Int.tdiv_eq_ediv_of_nonneg (by omega)]; omega
    have e3 : ((ofI64 ((x.toNat % 10 : Nat) : Int)).toNat : Int) = ((x.toNat % 10 : Nat) : Int) := Go.Fw.ofI64_nat (by omega) (by omega)
    have e4 : ((ofI64 (((x.toNat % 10 : Nat) : Int) + 1)).toNat : Int) = ((x.toNat % 10 : Nat) : Int) + 1 := Go.Fw.ofI64_nat (by omega) (by omega)
    have e5 : (ofI64 ((x.toNat / 10 : Nat) : Int)).toNat = x.toNat / 10 := by
      have := Go.Fw.ofI64_nat (p := ((x.toNat / 10 : Nat) : Int)) (by omega) (by omega)
      omega
    have hs : subl ([48, 49, 50, 51, 52, 53, 54, 55, 56, 57, 97, 98, 99, 100, 101, 102] : List UInt8) ((x.toNat % 10 : Nat) : Int) (((x.toNat % 10 : Nat) : Int) + 1) = some [UInt8.ofNat (48 + x.toNat % 10)] := dg_sub ⟨x.toNat % 10, by omega⟩
    rw [e1, e2, e3, e4, hs, Option.bind_some, app_ok2 _ _ (by simp; omega), Option.bind_some]
    by_cases c : x.toNat < 10
    · rw [if_pos (by omega), decF, if_pos c]
      have : x.toNat % 10 = x.toNat := by omega
      rw [this]
    · have hf : 1 ≤ f := by
        rcases f with _ | f
        · simp at hu; omega
        · omega
      rw [if_neg (by omega), rdig f J _ _ (by rw [e5]; rw [Nat.pow_succ] at hu; omega) hf (by omega) (by simp; omega), e5, decF, if_neg c]
      simp
theorem rhex {r : ApiRev} {kj : List UInt8 → Option (List UInt8)} : ∀ (J k : Nat) (t : List UInt8), k ≤ 16 → 16 - k < J → t.length + 2 * (16 - k) ≤ 1000 → ref06_Print_l2 r kj J t (k : Int) = kj (t ++ ((sL r.Sum).drop k).flatMap hex2)
  | 0, k, _, _, h, _ => by omega
  | J + 1, k, t, h1, h2, h3 => by
    rw [ref06_Print_l2]
    by_cases c : k < 16
    · have hl : k < (sL r.Sum).length := c
      have e0 : geti ([r.Sum.e0, r.Sum.e1, r.Sum.e2, r.Sum.e3, r.Sum.e4, r.Sum.e5, r.Sum.e6, r.Sum.e7, r.Sum.e8, r.Sum.e9, r.Sum.e10, r.Sum.e11, r.Sum.e12, r.Sum.e13, r.Sum.e14, r.Sum.e15] : List UInt8) (k : Int) = some (sL r.Sum)[k] := by
        rw [geti_nat]; exact List.getElem?_eq_getElem hl
      obtain ⟨q1, q2⟩ := hx_sub (sL r.Sum)[k]
      have q1' : subl ([48, 49, 50, 51, 52, 53, 54, 55, 56, 57, 97, 98, 99, 100, 101, 102] : List UInt8) _ _ = _ := q1
      have q2' : subl ([48, 49, 50, 51, 52, 53, 54, 55, 56, 57, 97, 98, 99, 100, 101, 102] : List UInt8) _ _ = _ := q2
      rw [if_pos (by omega), e0]
      simp only [Option.bind_some]
      rw [q1', Option.bind_some, app_ok2 _ _ (by simp; omega), Option.bind_some]
      rw [q2', Option.bind_some, app_ok2 _ _ (by simp; omega), Option.bind_some, nxt c (by decide), rhex J (k + 1) _ (by omega) (by omega) (by simp; omega), List.drop_eq_getElem_cons hl, List.flatMap_cons]
      simp [hex2]
    · rw [if_neg (by omega), List.drop_eq_nil_of_le (show 16 ≤ k by omega)]; simp
theorem rprint_eq (r : ApiRev) : ref06_Print r = some (rtx r) := by
  have hF := FU_M
  have hM : M63 = 9223372036854775807 := rfl
  have hl := decF_len 30 r.Gen.toNat 20 (Nat.lt_trans r.Gen.toNat_lt (by decide)) (by decide)
  unfold ref06_Print
  rw [jn_eq', rdig 30 FU r.Gen [] (Nat.lt_trans r.Gen.toNat_lt (by decide)) (by decide) (by omega) (by decide), app_ok2 _ _ (by simp; omega), Option.bind_some, jn_eq', show (0 : Int) = ((0 : Nat) : Int) from rfl, rhex FU 0 _ (by omega) (by omega) (by simp; omega)]
  simp [rtx]
/-! The document's reading of a text. -/
def isD (c : UInt8) : Prop := 48 ≤ c.toNat ∧ c.toNat ≤ 57
instance (c : UInt8) : Decidable (isD c) := by unfold isD; infer_instance
def dvl (a : Nat) (l : List UInt8) : Nat := l.foldl (fun a c => a * 10 + (c.toNat - 48)) a
theorem dvl_nil (a : Nat) : dvl a [] = a := rfl
theorem dvl_cons (a : Nat) (c : UInt8) (l : List UInt8) : dvl a (c :: l) = dvl (a * 10 + (c.toNat - 48)) l := by unfold dvl; rw [List.foldl_cons]
theorem dvl_app (l m : List UInt8) (a : Nat) : dvl a (l ++ m) = dvl (dvl a l) m := List.foldl_append
theorem dvl_dec : ∀ (f u : Nat), u < 10 ^ f → 1 ≤ f → dvl 0 (decF f u) = u
  | 0, _, _, h => by omega
  | f + 1, u, hu, _ => by
    rw [decF]
    by_cases c : u < 10
    · rw [if_pos c, dvl_cons, dvl_nil, u8n (by omega)]; omega
    · have hf : 1 ≤ f := by
        rcases f with _ | f
        · simp at hu; omega
        · omega
      rw [if_neg c, dvl_app, dvl_dec f _ (by rw [Nat.pow_succ] at hu; omega) hf, dvl_cons, dvl_nil, u8n (by omega)]; omega
theorem ofNat_add_u64 (a b : Nat) : UInt64.ofNat ((UInt64.ofNat a).toNat + b) = UInt64.ofNat (a + b) := by
  apply UInt64.toNat_inj.1
  rw [UInt64.toNat_ofNat', UInt64.toNat_ofNat', UInt64.toNat_ofNat', Nat.mod_add_mod]
theorem ofNat_mul_u64 (a b c : Nat) : UInt64.ofNat ((UInt64.ofNat a).toNat * b + c) = UInt64.ofNat (a * b + c) := by
  apply UInt64.toNat_inj.1
  rw [UInt64.toNat_ofNat', UInt64.toNat_ofNat', UInt64.toNat_ofNat', Nat.add_mod, Nat.mul_mod, Nat.mod_mod, ← Nat.mul_mod, ← Nat.add_mod]
theorem l1_step {s : List UInt8} {kj : Int → UInt64 → Option (ApiRev × Bool)} {J k : Nat} {g : UInt64} : ref06_Parse_l1 s kj (J + 1) (k : Int) g = if h : k < s.length ∧ k < 20 then (if isD (s[k]'h.1) then ref06_Parse_l1 s kj J ((k + 1 : Nat) : Int) (UInt64.ofNat (g.toNat * 10 + ((s[k]'h.1).toNat - 48))) else kj (k : Int) g) else kj (k : Int) g := by
  rw [ref06_Parse_l1]
  by_cases h : k < s.length ∧ k < 20
  · have g1 : geti s (k : Int) = some (s[k]'h.1) := by rw [geti_nat]; exact List.getElem?_eq_getElem h.1
    rw [dif_pos h, if_pos ⟨by omega, by omega⟩, g1, Option.bind_some, Option.bind_some]
    generalize s[k]'h.1 = c
    have hc := c.toNat_lt
    have hg := g.toNat_lt
    by_cases d1 : 48 ≤ c.toNat
    · rw [if_pos (by simp; omega), Option.bind_some, Option.bind_some]
      by_cases d2 : c.toNat ≤ 57
      · rw [if_pos (by simp; omega), Option.bind_some, if_pos ⟨d1, d2⟩, nxt h.2 (by decide)]
        refine congrArg (ref06_Parse_l1 s kj J _) ?_
        have e1 : ((ofI8 ((c.toNat : Int) - 48)).toNat : Int) = (c.toNat : Int) - 48 := ofI8_nat (by omega) (by omega)
        rw [e1]
        have e2 : ((ofI64 ((c.toNat : Int) - 48)).toNat : Int) = (c.toNat : Int) - 48 := Go.Fw.ofI64_nat (by omega) (by omega)
        rw [e2]
        have e3 : ∀ n : Nat, ofI64 (n : Int) = UInt64.ofNat n := fun n => by
          apply UInt64.toNat_inj.1
          unfold ofI64
          simp only [UInt64.toNat_ofNat']
          omega
        have e4 : (g.toNat : Int) * 10 = ((g.toNat * 10 : Nat) : Int) := by omega
        have e5 : ((UInt64.ofNat (g.toNat * 10)).toNat : Int) + ((c.toNat : Int) - 48) = (((UInt64.ofNat (g.toNat * 10)).toNat + (c.toNat - 48) : Nat) : Int) := by omega
        rw [e4, e3, e5, e3]
        exact ofNat_add_u64 _ _
      · rw [if_neg (by simp; omega), if_neg (by rintro ⟨_, h⟩; exact d2 h)]
    · rw [if_neg (by simp; omega), Option.bind_some, if_neg (by decide), if_neg (by rintro ⟨h, _⟩; exact d1 h)]
  · rw [dif_neg h, if_neg (by omega), Option.bind_some, if_neg (by decide), Option.bind_some, if_neg (by decide)]
theorem l1_any {s : List UInt8} {kj : Int → UInt64 → Option (ApiRev × Bool)} : ∀ (J k : Nat) (g : UInt64), k ≤ 20 → k ≤ s.length → 20 - k < J → ∃ (i : Nat) (g2 : UInt64), i ≤ 20 ∧ i ≤ s.length ∧ ref06_Parse_l1 s kj J (k : Int) g = kj (i : Int) g2
  | 0, k, _, _, _, h => by omega
  | J + 1, k, g, h1, h2, h3 => by
    rw [l1_step]
    by_cases h : k < s.length ∧ k < 20
    · rw [dif_pos h]
      by_cases d : isD (s[k]'h.1)
      · rw [if_pos d]; exact l1_any J (k + 1) _ (by omega) (by omega) (by omega)
      · rw [if_neg d]; exact ⟨k, g, h1, h2, rfl⟩
    · rw [dif_neg h]; exact ⟨k, g, h1, h2, rfl⟩
theorem l1_dec {R : List UInt8} {kj : Int → UInt64 → Option (ApiRev × Bool)} : ∀ (D P : List UInt8) (J a : Nat), (∀ c ∈ D, isD c) → P.length + D.length ≤ 20 → D.length < J → ref06_Parse_l1 (P ++ (D ++ 45 :: R)) kj J (P.length : Int) (UInt64.ofNat a) = kj ((P.length + D.length : Nat) : Int) (UInt64.ofNat (dvl a D))
  | _, _, 0, _, _, _, h => by omega
  | [], P, J + 1, a, hD, h1, h2 => by
    rw [l1_step]
    by_cases h : P.length < (P ++ ([] ++ 45 :: R)).length ∧ P.length < 20
    · rw [dif_pos h, if_neg (by simp [isD])]; rfl
    · rw [dif_neg h]; rfl
  | c :: D, P, J + 1, a, hD, h1, h2 => by
    rw [l1_step]
    simp only [List.length_cons] at h1 h2
    have h : P.length < (P ++ (c :: D ++ 45 :: R)).length ∧ P.length < 20 := ⟨by simp, by omega⟩
    have e : (P ++ (c :: D ++ 45 :: R))[P.length]'h.1 = c := by simp
    have ih := l1_dec (R := R) (kj := kj) D (P ++ [c]) J (a * 10 + (c.toNat - 48)) (fun x hx => hD x (by simp [hx])) (by simp; omega) (by omega)
    rw [dif_pos h, e, if_pos (hD c (by simp))]
    rw [ofNat_mul_u64]
    simp only [List.length_append, List.length_cons, List.length_nil, List.append_assoc, List.cons_append, List.nil_append] at ih ⊢
    rw [show P.length + (D.length + 1) = P.length + (0 + 1) + D.length by omega, dvl_cons]
    exact ih
end Go.Proofs

set_option linter.unusedVariables false
set_option linter.unusedSimpArgs false
namespace Go.Proofs
open Go.Fw
/-! The document's reading of a text: the second part, and RevText. -/
def hv (c : UInt8) : Option UInt8 := if (48 ≤ (c.toNat : Int)) ∧ ((c.toNat : Int) ≤ 57) then some (ofI8 ((c.toNat : Int) - 48)) else if (97 ≤ (c.toNat : Int)) ∧ ((c.toNat : Int) ≤ 102) then some (ofI8 (((ofI8 ((c.toNat : Int) - 97)).toNat : Int) + 10)) else none
theorem hv_hx : ∀ d : Fin 16, hv (hx (UInt8.ofNat d.val)) = some (UInt8.ofNat d.val) := by decide +kernel
theorem hv_hx' {d : UInt8} (h : d.toNat < 16) : hv (hx d) = some d := by
  have := hv_hx ⟨d.toNat, h⟩
  simpa using this
theorem comb_zero : ∀ d : Fin 16, comb 0 (UInt8.ofNat d.val) = UInt8.ofNat d.val := by decide +kernel
theorem comb_zero' {d : UInt8} (h : d.toNat < 16) : comb 0 d = d := by
  have := comb_zero ⟨d.toNat, h⟩
  simpa using this
abbrev KT : Type := UInt8 → UInt8 → UInt8 → UInt8 → UInt8 → UInt8 → UInt8 → UInt8 → UInt8 → UInt8 → UInt8 → UInt8 → UInt8 → UInt8 → UInt8 → UInt8 → Option (ApiRev × Bool)
def rL (s : List UInt8) (x2 : Int) (kj : KT) (J : Nat) (i : Int) (L : List UInt8) : Option (ApiRev × Bool) :=
  ref06_Parse_l2 s x2 kj J i (L.getD 0 0) (L.getD 1 0) (L.getD 2 0) (L.getD 3 0) (L.getD 4 0) (L.getD 5 0) (L.getD 6 0) (L.getD 7 0) (L.getD 8 0) (L.getD 9 0) (L.getD 10 0) (L.getD 11 0) (L.getD 12 0) (L.getD 13 0) (L.getD 14 0) (L.getD 15 0)
def krL (kj : KT) (L : List UInt8) : Option (ApiRev × Bool) :=
  kj (L.getD 0 0) (L.getD 1 0) (L.getD 2 0) (L.getD 3 0) (L.getD 4 0) (L.getD 5 0) (L.getD 6 0) (L.getD 7 0) (L.getD 8 0) (L.getD 9 0) (L.getD 10 0) (L.getD 11 0) (L.getD 12 0) (L.getD 13 0) (L.getD 14 0) (L.getD 15 0)
theorem rL_succ (s : List UInt8) (x2 : Int) (kj : KT) (J : Nat) (i : Int) {L : List UInt8} (hL : L.length = 16) : rL s x2 kj (J + 1) i L = if i < 32 then (geti s (i64 ((i64 (x2 + 1)) + i))).bind fun c => (match hv c with | some h => (geti L (i64 (i.tdiv 2))).bind fun v => (seti L (i64 (i.tdiv 2)) (comb v h)).bind fun L2 => rL s x2 kj J (i64 (i + 1)) L2 | none => some (zeroR, false)) else krL kj L := by
  unfold rL
  rw [ref06_Parse_l2, ← lit16 hL 0]
  by_cases c : i < 32
  · rw [if_pos c, if_pos c]
    cases hg : geti s (i64 ((i64 (x2 + 1)) + i)) with
    | none => rfl
    | some c =>
      rw [Option.bind_some, Option.bind_some, jn_eq']
      have key : ∀ h : UInt8, ((geti L (i64 (i.tdiv 2))).bind fun x50 => (geti L (i64 (i.tdiv 2))).bind fun x51 => (geti L (i64 (i.tdiv 2))).bind fun x52 => (seti L (i64 (i.tdiv 2)) ((ofI8 ((x51.toNat : Int) * 2 ^ (min (4 : Int).toNat 8))) ||| h)).bind fun x53 => rL s x2 kj J (i64 (i + 1)) x53) = (geti L (i64 (i.tdiv 2))).bind fun v => (seti L (i64 (i.tdiv 2)) (comb v h)).bind fun L2 => rL s x2 kj J (i64 (i + 1)) L2 := by
        intro h
        cases geti L (i64 (i.tdiv 2)) with
        | none => rfl
        | some v => rfl
      unfold hv
      by_cases d1 : (48 ≤ (c.toNat : Int)) ∧ ((c.toNat : Int) ≤ 57)
      · rw [if_pos d1, if_pos d1]; exact key _
      · rw [if_neg d1, if_neg d1]
        by_cases d2 : (97 ≤ (c.toNat : Int)) ∧ ((c.toNat : Int) ≤ 102)
        · rw [if_pos d2, if_pos d2]; exact key _
        · rw [if_neg d2, if_neg d2]; rfl
  · rw [if_neg c, if_neg c]; rfl
theorem rL_any {s : List UInt8} {n : Nat} {kj : KT} (hs : s.length = n + 33) (hn : n ≤ 20) : ∀ (J k : Nat) (L : List UInt8), k ≤ 32 → 32 - k < J → L.length = 16 → rL s (n : Int) kj J (k : Int) L = some (zeroR, false) ∨ ∃ L2 : List UInt8, L2.length = 16 ∧ rL s (n : Int) kj J (k : Int) L = krL kj L2
  | 0, k, _, _, h, _ => by omega
  | J + 1, k, L, h1, h2, hL => by
    rw [rL_succ _ _ _ _ _ hL]
    by_cases c : k < 32
    · have e1 : i64 (i64 ((n : Int) + 1) + (k : Int)) = ((n + 1 + k : Nat) : Int) := by rw [i64_id (p := (n : Int) + 1) (by omega) (by omega), i64_id (by omega) (by omega)]; omega
      have e2 : i64 ((k : Int).tdiv 2) = ((k / 2 : Nat) : Int) := by rw [Int.tdiv_eq_ediv_of_nonneg (by omega), i64_id (by omega) (by omega)]; omega
      have g1 : geti s ((n + 1 + k : Nat) : Int) = some s[n + 1 + k] := by rw [geti_nat]; exact List.getElem?_eq_getElem (by omega)
      have g3 : geti L ((k / 2 : Nat) : Int) = some L[k / 2] := by rw [geti_nat]; exact List.getElem?_eq_getElem (by omega)
      have g4 : ∀ v, seti L ((k / 2 : Nat) : Int) v = some (L.set (k / 2) v) := fun v => by unfold seti; rw [if_pos (by omega), Int.toNat_natCast]
      rw [if_pos (by omega), e1, e2, g1, Option.bind_some]
      cases hv s[n + 1 + k] with
      | none => exact .inl rfl
      | some h =>
        simp only []
        rw [g3, Option.bind_some, g4, Option.bind_some, nxt c (by decide)]
        exact rL_any hs hn J (k + 1) _ (by omega) (by omega) (by rw [List.length_set]; exact hL)
    · rw [if_neg (by omega)]
      exact .inr ⟨L, hL, rfl⟩
theorem two_of {q : List UInt8} {S : List UInt8} {m : Nat} (h : m < S.length) : (q ++ 45 :: S.flatMap hex2)[q.length + 1 + 2 * m]? = some (hx (shr8 (S[m]) 4)) ∧ (q ++ 45 :: S.flatMap hex2)[q.length + 1 + (2 * m + 1)]? = some (hx (S[m] &&& 15)) := by
  have e : ∀ j, (q ++ 45 :: S.flatMap hex2)[q.length + 1 + j]? = (S.flatMap hex2)[j]? := by
    intro j
    rw [List.getElem?_append_right (by omega), show q.length + 1 + j - q.length = j + 1 by omega, List.getElem?_cons_succ]
  rw [e, e]
  clear e
  induction S generalizing m with
  | nil => simp at h
  | cons b S ih =>
    cases m with
    | zero => exact ⟨rfl, rfl⟩
    | succ m =>
      have := ih (m := m) (by simp at h; omega)
      rw [List.flatMap_cons]
      rw [show 2 * (m + 1) = 2 * m + 1 + 1 by omega, show 2 * m + 1 + 1 + 1 = 2 * m + 1 + 1 + 1 from rfl]
      exact this
theorem rL_dec {q S : List UInt8} {kj : KT} (hS : S.length = 16) (hq : q.length ≤ 20) : ∀ (J m : Nat), m ≤ 16 → 2 * (16 - m) < J → rL (q ++ 45 :: S.flatMap hex2) (q.length : Int) kj J ((2 * m : Nat) : Int) (S.take m ++ List.replicate (16 - m) 0) = krL kj S
  | 0, m, _, h => by omega
  | 1, m, h1, h2 => by
    have hm : m = 16 := by omega
    subst hm
    have e : S.take 16 ++ List.replicate (16 - 16) (0 : UInt8) = S := by simp [List.take_of_length_le (show S.length ≤ 16 by omega)]
    rw [e, rL_succ _ _ _ _ _ hS, if_neg (by omega)]
  | J + 2, m, h1, h2 => by
    by_cases c : m < 16
    · have hL : (S.take m ++ List.replicate (16 - m) (0 : UInt8)).length = 16 := by simp; omega
      have hTk : (S.take m).length = m := by rw [List.length_take]; omega
      have hlen : ∀ {X : List UInt8}, X.length = 16 → ∀ v, seti X ((m : Nat) : Int) v = some (X.set m v) := fun hX v => by unfold seti; rw [if_pos (by omega), Int.toNat_natCast]
      obtain ⟨t1, t2⟩ := two_of (q := q) (S := S) (m := m) (by omega)
      have e1 : i64 (i64 ((q.length : Int) + 1) + ((2 * m : Nat) : Int)) = ((q.length + 1 + 2 * m : Nat) : Int) := by rw [i64_id (p := (q.length : Int) + 1) (by omega) (by omega), i64_id (by omega) (by omega)]; omega
      have e1' : i64 (i64 ((q.length : Int) + 1) + ((2 * m + 1 : Nat) : Int)) = ((q.length + 1 + (2 * m + 1) : Nat) : Int) := by rw [i64_id (p := (q.length : Int) + 1) (by omega) (by omega), i64_id (by omega) (by omega)]; omega
      have e2 : i64 (((2 * m : Nat) : Int).tdiv 2) = ((m : Nat) : Int) := by rw [Int.tdiv_eq_ediv_of_nonneg (by omega), i64_id (by omega) (by omega)]; omega
      have e2' : i64 (((2 * m + 1 : Nat) : Int).tdiv 2) = ((m : Nat) : Int) := by rw [Int.tdiv_eq_ediv_of_nonneg (by omega), i64_id (by omega) (by omega)]; omega
      have z : geti (S.take m ++ List.replicate (16 - m) (0 : UInt8)) ((m : Nat) : Int) = some 0 := by
        rw [geti_nat, List.getElem?_append_right (by omega), hTk, Nat.sub_self, List.getElem?_replicate, if_pos (by omega)]
      obtain ⟨_, _, p3, p4, p5⟩ := hexI_hx (S[m]'(by omega))
      rw [rL_succ _ _ _ _ _ hL, if_pos (by omega), e1, e2, geti_nat, t1, Option.bind_some, hv_hx' p4]
      simp only []
      rw [z, Option.bind_some, hlen hL, Option.bind_some, comb_zero' p4, nxt (k := 2 * m) (n := 32) (by omega) (by decide)]
      have hL2 : ((S.take m ++ List.replicate (16 - m) (0 : UInt8)).set m (shr8 (S[m]'(by omega)) 4)).length = 16 := by rw [List.length_set]; exact hL
      have z2 : geti ((S.take m ++ List.replicate (16 - m) (0 : UInt8)).set m (shr8 (S[m]'(by omega)) 4)) ((m : Nat) : Int) = some (shr8 (S[m]'(by omega)) 4) := by
        rw [geti_nat, List.getElem?_set_self (by omega)]
      rw [rL_succ _ _ _ _ _ hL2, if_pos (by omega), e1', e2', geti_nat, t2, Option.bind_some, hv_hx' p5]
      simp only []
      rw [z2, Option.bind_some, hlen hL2, Option.bind_some, p3, nxt (k := 2 * m + 1) (n := 32) (by omega) (by decide), List.set_set]
      have e9 : (S.take m ++ List.replicate (16 - m) (0 : UInt8)).set m (S[m]'(by omega)) = S.take (m + 1) ++ List.replicate (16 - (m + 1)) 0 := by
        rw [List.set_append_right _ _ (by omega), hTk, Nat.sub_self, show 16 - m = (16 - (m + 1)) + 1 by omega, List.replicate_succ, List.set_cons_zero, List.take_add_one, List.getElem?_eq_getElem (show m < S.length by omega), Option.toList_some, List.append_assoc]
        rfl
      rw [e9]
      exact rL_dec hS hq J (m + 1) (by omega) (by omega)
    · have hm : m = 16 := by omega
      subst hm
      have e : S.take 16 ++ List.replicate (16 - 16) (0 : UInt8) = S := by simp [List.take_of_length_le (show S.length ≤ 16 by omega)]
      rw [e, rL_succ _ _ _ _ _ hS, if_neg (by omega)]
end Go.Proofs

set_option linter.unusedVariables false
set_option linter.unusedSimpArgs false
namespace Go.Proofs
open Go.Fw
/-! What the document reads a text as, and RevText. -/
theorem rmay_eq (r : ApiRev) : ref06_May r = some (mayR r) := by
  unfold ref06_May mayR
  exact congrArg some (decide_eq_decide.2 ⟨fun h => ⟨by omega, by omega⟩, fun h => ⟨by omega, by omega⟩⟩)
def K2 (s : List UInt8) (g : UInt64) : KT := fun x14 x15 x16 x17 x18 x19 x20 x21 x22 x23 x24 x25 x26 x27 x28 x29 => (ref06_May (⟨g, (⟨x14, x15, x16, x17, x18, x19, x20, x21, x22, x23, x24, x25, x26, x27, x28, x29⟩ : St27)⟩ : ApiRev)).bind fun x54 => (if (!x54) = true then some true else (ref06_Print (⟨g, (⟨x14, x15, x16, x17, x18, x19, x20, x21, x22, x23, x24, x25, x26, x27, x28, x29⟩ : St27)⟩ : ApiRev)).bind fun x56 => some (decide (x56 ≠ s))).bind fun x55 => if x55 = true then some (zeroR, false) else some ((⟨g, (⟨x14, x15, x16, x17, x18, x19, x20, x21, x22, x23, x24, x25, x26, x27, x28, x29⟩ : St27)⟩ : ApiRev), true)
theorem K2_any (s : List UInt8) (g : UInt64) (L : List UInt8) : (krL (K2 s g) L = some ((⟨g, mkS L⟩ : ApiRev), true) ∧ mayR ⟨g, mkS L⟩ = true ∧ s = rtx ⟨g, mkS L⟩) ∨ (krL (K2 s g) L = some (zeroR, false) ∧ ¬ (mayR ⟨g, mkS L⟩ = true ∧ s = rtx ⟨g, mkS L⟩)) := by
  have e : krL (K2 s g) L = (ref06_May (⟨g, mkS L⟩ : ApiRev)).bind fun x54 => (if (!x54) = true then some true else (ref06_Print (⟨g, mkS L⟩ : ApiRev)).bind fun x56 => some (decide (x56 ≠ s))).bind fun x55 => if x55 = true then some (zeroR, false) else some ((⟨g, mkS L⟩ : ApiRev), true) := rfl
  rw [e, rmay_eq, Option.bind_some, rprint_eq]
  generalize (⟨g, mkS L⟩ : ApiRev) = r
  cases hm : mayR r with
  | false => exact .inr ⟨rfl, fun h => by cases h.1⟩
  | true =>
    by_cases c : rtx r = s
    · refine .inl ⟨?_, rfl, c.symm⟩
      simp [c]
    · refine .inr ⟨?_, fun h => c h.2.symm⟩
      simp [c]
def K1 (s : List UInt8) : Int → UInt64 → Option (ApiRev × Bool) := fun x2 x3 => (if (s.length : Int) ≠ i64 (x2 + 33) then some true else (geti s x2).bind fun x12 => some (decide ((x12.toNat : Int) ≠ 45))).bind fun x11 => if x11 = true then some (zeroR, false) else rL s x2 (K2 s x3) FU 0 (List.replicate 16 0)
theorem rparse_K1 (s : List UInt8) (F : Nat) (x2 : Int) (K : KT) : ref06_Parse_l2 s x2 K F 0 (0 : UInt8) (0 : UInt8) (0 : UInt8) (0 : UInt8) (0 : UInt8) (0 : UInt8) (0 : UInt8) (0 : UInt8) (0 : UInt8) (0 : UInt8) (0 : UInt8) (0 : UInt8) (0 : UInt8) (0 : UInt8) (0 : UInt8) (0 : UInt8) = rL s x2 K F 0 (List.replicate 16 0) := rfl
theorem jn_K {α β : Type} (f : α) (g g' : α → β) (h : g f = g' f) : jn f g = g' f := by rw [jn_eq', h]
theorem rparse_K (s : List UInt8) : ref06_Parse s = ref06_Parse_l1 s (K1 s) FU 0 0 := by
  have e : K1 s = fun x2 x3 => (if (s.length : Int) ≠ i64 (x2 + 33) then some true else (geti s x2).bind fun x12 => some (decide ((x12.toNat : Int) ≠ 45))).bind fun x11 => if x11 = true then some (zeroR, false) else jn (K2 s x3) (fun kj13 => ref06_Parse_l2 s x2 kj13 FU 0 (0 : UInt8) (0 : UInt8) (0 : UInt8) (0 : UInt8) (0 : UInt8) (0 : UInt8) (0 : UInt8) (0 : UInt8) (0 : UInt8) (0 : UInt8) (0 : UInt8) (0 : UInt8) (0 : UInt8) (0 : UInt8) (0 : UInt8) (0 : UInt8)) := by
    funext x2 x3
    unfold K1
    simp only [jn_eq', rparse_K1]
  rw [e]
  unfold ref06_Parse
  rw [jn_eq']
  unfold K2 zeroR
  generalize FU = F
  rfl
theorem K1_at {s : List UInt8} {i : Nat} {g : UInt64} (hi : i ≤ 20) (h : s.length = i + 33) (h2 : s[i]? = some 45) : K1 s (i : Int) g = rL s (i : Int) (K2 s g) FU 0 (List.replicate 16 0) := by
  unfold K1
  rw [i64_id (by omega) (by omega), if_neg (by omega), geti_nat, h2]
  rfl
theorem K1_no {s : List UInt8} {i : Nat} {g : UInt64} (hi : i ≤ 20) (h : ¬ (s.length = i + 33 ∧ s[i]? = some 45)) : K1 s (i : Int) g = some (zeroR, false) := by
  unfold K1
  rw [i64_id (by omega) (by omega)]
  by_cases c : s.length = i + 33
  · have h3 : s[i]? = some (s[i]'(by omega)) := List.getElem?_eq_getElem (by omega)
    rw [if_neg (by omega), geti_nat, h3, Option.bind_some, Option.bind_some, if_pos]
    refine decide_eq_true ?_
    intro h4
    refine h ⟨c, ?_⟩
    rw [h3]
    congr 1
    apply UInt8.toNat_inj.1
    show _ = 45
    omega
  · rw [if_pos (by omega), Option.bind_some, if_pos rfl]
theorem rparse_text {r : ApiRev} (hm : mayR r = true) : ref06_Parse (rtx r) = some (r, true) := by
  have hF := FU_M
  have hM : M63 = 9223372036854775807 := rfl
  have hl := decF_len 30 r.Gen.toNat 20 (Nat.lt_trans r.Gen.toNat_lt (by decide)) (by decide)
  have hd := dvl_dec 30 r.Gen.toNat (Nat.lt_trans r.Gen.toNat_lt (by decide)) (by decide)
  have h1 := l1_dec (R := (sL r.Sum).flatMap hex2) (kj := K1 (rtx r)) (decF 30 r.Gen.toNat) [] FU 0 (fun c hc => decF_dig _ _ c hc) (by simp; omega) (by omega)
  rw [hd, UInt64.ofNat_toNat, List.length_nil, Nat.zero_add] at h1
  rw [rparse_K]
  refine (show ref06_Parse_l1 (rtx r) (K1 (rtx r)) FU 0 0 = _ from h1).trans ?_
  have hL : (rtx r).length = (decF 30 r.Gen.toNat).length + 33 := by
    unfold rtx
    rw [List.length_append, List.length_cons]
    have : ((sL r.Sum).flatMap hex2).length = 32 := rfl
    omega
  rw [K1_at hl hL (by unfold rtx; rw [List.getElem?_append_right (Nat.le_refl _), Nat.sub_self]; rfl)]
  have h2 := rL_dec (q := decF 30 r.Gen.toNat) (S := sL r.Sum) (kj := K2 (rtx r) r.Gen) (sL_len _) hl FU 0 (by decide) (by omega)
  refine (show rL (rtx r) _ (K2 (rtx r) r.Gen) FU 0 (List.replicate 16 0) = _ from h2).trans ?_
  rcases K2_any (rtx r) r.Gen (sL r.Sum) with ⟨h, _⟩ | ⟨_, h⟩
  · exact h
  · exact absurd ⟨hm, rfl⟩ h
theorem rparse_cases (s : List UInt8) : (∃ r, ref06_Parse s = some (r, true) ∧ mayR r = true ∧ s = rtx r) ∨ (ref06_Parse s = some (zeroR, false) ∧ ∀ r, mayR r = true → s ≠ rtx r) := by
  have hF := FU_M
  have hM : M63 = 9223372036854775807 := rfl
  have fin : ref06_Parse s = some (zeroR, false) → ∀ r, mayR r = true → s ≠ rtx r := by
    rintro h r hm rfl
    rw [rparse_text hm] at h
    cases h
  have main : ref06_Parse s = some (zeroR, false) ∨ ∃ r, ref06_Parse s = some (r, true) ∧ mayR r = true ∧ s = rtx r := by
    rw [rparse_K]
    obtain ⟨i, g, hi, hl, e⟩ := l1_any (s := s) (kj := K1 s) FU 0 0 (by omega) (by omega) (by omega)
    rw [show (0 : Int) = ((0 : Nat) : Int) from rfl, e]
    by_cases c : s.length = i + 33 ∧ s[i]? = some 45
    · rw [K1_at hi c.1 c.2]
      rcases rL_any (kj := K2 s g) c.1 hi FU 0 (List.replicate 16 0) (by omega) (by omega) rfl with h | ⟨L2, hL, h⟩
      · exact .inl h
      · rcases K2_any s g L2 with ⟨h1, h2, h3⟩ | ⟨h1, _⟩
        · exact .inr ⟨_, h.trans h1, h2, h3⟩
        · exact .inl (h.trans h1)
    · exact .inl (K1_no hi c)
  rcases main with h | ⟨r, h⟩
  · exact .inr ⟨h, fin h⟩
  · exact .inl ⟨r, h⟩
theorem RevText_pure (a : ApiRev) (s : List UInt8) : law06_RevText a s = some true := by
  unfold law06_RevText
  by_cases c : 1000 < (s.length : Int)
  · rw [if_pos c, awake_true]; rfl
  · rw [if_neg c, print_eq, Option.bind_some, rmay_eq, Option.bind_some, rprint_eq]
    have T : ((rev_Parse s).bind fun x9 => (ref06_Parse s).bind fun x10 => (if (((x9.1.Gen.toNat : Int) = (x10.1.Gen.toNat : Int) ∧ ([x9.1.Sum.e0, x9.1.Sum.e1, x9.1.Sum.e2, x9.1.Sum.e3, x9.1.Sum.e4, x9.1.Sum.e5, x9.1.Sum.e6, x9.1.Sum.e7, x9.1.Sum.e8, x9.1.Sum.e9, x9.1.Sum.e10, x9.1.Sum.e11, x9.1.Sum.e12, x9.1.Sum.e13, x9.1.Sum.e14, x9.1.Sum.e15] : List UInt8) = ([x10.1.Sum.e0, x10.1.Sum.e1, x10.1.Sum.e2, x10.1.Sum.e3, x10.1.Sum.e4, x10.1.Sum.e5, x10.1.Sum.e6, x10.1.Sum.e7, x10.1.Sum.e8, x10.1.Sum.e9, x10.1.Sum.e10, x10.1.Sum.e11, x10.1.Sum.e12, x10.1.Sum.e13, x10.1.Sum.e14, x10.1.Sum.e15] : List UInt8)) ∧ ((decide (x9.2 = 0) == x10.2) = true)) ∧ ((x10.2 = true) ∨ (x9.2 = 2)) then (law06_awake).bind fun x12 => some x12 else some false).bind fun x11 => some x11) = some true := by
      rcases parse_cases s (by omega) with ⟨r, h1, h2, h3⟩ | ⟨h1, h2⟩
      · rcases rparse_cases s with ⟨q, k1, k2, k3⟩ | ⟨_, k⟩
        · have e : r = q := rtx_inj h2 k2 (h3.symm.trans k3)
          subst e
          rw [h1, k1, Option.bind_some, Option.bind_some, if_pos ⟨⟨⟨rfl, rfl⟩, rfl⟩, .inl rfl⟩, awake_true]; rfl
        · exact absurd h3 (k r h2)
      · rcases rparse_cases s with ⟨q, k1, k2, k3⟩ | ⟨k, _⟩
        · exact absurd k3 (h2 q k2)
        · rw [h1, k, Option.bind_some, Option.bind_some, if_pos ⟨⟨⟨rfl, rfl⟩, rfl⟩, .inr rfl⟩, awake_true]; rfl
    cases mayR a with
    | true =>
      simp only [if_true, Option.bind_some, ne_eq, not_true_eq_false, if_false, decide_false, rmay_eq]
      exact T
    | false =>
      simp only [Option.bind_some, ne_eq, not_true_eq_false, if_false, decide_false, rmay_eq]
      exact T
end Go.Proofs
