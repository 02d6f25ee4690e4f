import Derived.Test.YtcagpghggohoiaaY02N
import Derived.Test.YtcagpghggohoiaaFwY
set_option linter.unusedSimpArgs false
set_option linter.unusedVariables false
namespace Go.Proofs
open Go.Fw

def WrS (s : St) (k : Nat) (p : Value) (w : List UInt8) : Prop := WrO s k p (some w)
def RdS (s : St) (k : Nat) (p : Value) (r : Rd) : Prop := RdO s k p (some r)
theorem WrS.up' {K : Lab → Prop} {s s' : St} {k : Nat} {p : Value} {w : List UInt8} (h : WrS s k p w) (st : Step K s s') (hk : ∀ c, ¬ K ⟨k, c⟩ := by intro c; first | exact id | (simp [KC, KO, KU] <;> omega)) : WrS s' k p w := WrO.up' h st hk
theorem RdS.up' {K : Lab → Prop} {s s' : St} {k : Nat} {p : Value} {w : Rd} (h : RdS s k p w) (st : Step K s s') (hk : ∀ c, ¬ K ⟨k, c⟩ := by intro c; first | exact id | (simp [KC, KO, KU] <;> omega)) : RdS s' k p w := RdO.up' h st hk
theorem WrS.ne {s : St} {k : Nat} {p : Value} {w : List UInt8} (h : WrS s k p w) : k ≠ 0 := WrO.ne h
theorem RdS.ne {s : St} {k : Nat} {p : Value} {w : Rd} (h : RdS s k p w) : k ≠ 0 := RdO.ne h
theorem WrS.le {s : St} {k : Nat} {p : Value} {w : List UInt8} (h : WrS s k p w) : k ≤ s.n := WrO.le h
theorem RdS.le {s : St} {k : Nat} {p : Value} {w : Rd} (h : RdS s k p w) : k ≤ s.n := RdO.le h
theorem RdS.zero {s : St} {b : Nat} (hb : Blk s b ⟨b + 1, 0⟩ [.slice none 0 0, .int .i64 0, .bool false] 56) : RdS s (b + 1) (.pointer (some ⟨b, 0, none⟩)) ⟨[], 0, false⟩ :=
  ⟨by omega, Nat.zero_le _, by simp [BIG], b, _, rfl, hb, R.of_SL (.inl ⟨rfl, none, 0, rfl, fun _ => rfl⟩)⟩
theorem valB_take1 (r : Rd) : valB (r.take 1).1 < 256 := by
  have h1 := take_len (r := r) (n := 1)
  have h2 := valB_lt (r.take 1).1
  have h3 := Nat.pow_le_pow_right (show 0 < 256 by omega) (show (r.take 1).1.length ≤ 1 by omega)
  omega
theorem valB_take4 (r : Rd) : valB (r.take 4).1 < 4294967296 := by
  have h1 := take_len (r := r) (n := 4)
  have h2 := valB_lt (r.take 4).1
  have h3 := Nat.pow_le_pow_right (show 0 < 256 by omega) (show (r.take 4).1.length ≤ 4 by omega)
  omega
def code_NewWriter : Option (List UInt8) := some []
theorem code_NewWriter_w {s : St}  {r : (List UInt8)} (h : code_NewWriter = some r) : Calls Try.prog 10 #[] s.w (Ret s K0 (fun s1 v => ∃ ku0 : Nat, ∃ u0 : Value, v = u0 ∧ s.n < ku0 ∧ WrS s1 ku0 u0 r)) := by
  obtain rfl := Option.some.inj h
  refine NewWriter_c.mono ?_
  rintro e w' ⟨s1, v1, rfl, rfl, st, k, hk, hw⟩
  exact Ret.mk st ⟨k, v1, rfl, hk, hw⟩
def code_Writer_Raw (a0 : List UInt8) (a1 : List UInt8) : Option (List UInt8) := if a0.length + a1.length ≤ 140737488355328 then some (a0 ++ a1) else none
theorem code_Writer_Raw_w {s : St} {k0 : Nat} {p0 : Value} {a0 : List UInt8} {l1 : Lab} {v1 : Value} {a1 : List UInt8} {r : (List UInt8)} (ho0 : WrS s k0 p0 a0) (hp1 : SL s l1 v1 1 (a1.map bD)) (h : code_Writer_Raw a0 a1 = some r) : Calls Try.prog 34 #[p0, v1] s.w (Ret s (KO k0) (fun s1 v => v = .tuple #[] ∧ WrS s1 k0 p0 r)) := by
  unfold code_Writer_Raw at h
  split at h
  · rename_i hc; obtain rfl := Option.some.inj h
    refine (Raw_c (w := some a0) ho0 hp1 (by simpa [wl] using hc)).mono ?_
    rintro e w' ⟨s1, v1, rfl, rfl, st, rfl, hw⟩
    exact Ret.mk st ⟨rfl, hw⟩
  · cases h
def code_Writer_U8 (a0 : List UInt8) (a1 : UInt8) : Option (List UInt8) := if a0.length + 1 ≤ 140737488355328 then some (a0 ++ [UInt8.ofNat a1.toNat]) else none
theorem code_Writer_U8_w {s : St} {k0 : Nat} {p0 : Value} {a0 : List UInt8} {a1 : UInt8} {r : (List UInt8)} (ho0 : WrS s k0 p0 a0)  (h : code_Writer_U8 a0 a1 = some r) : Calls Try.prog 37 #[p0, .int .u8 (a1.toNat : Int)] s.w (Ret s (KO k0) (fun s1 v => v = .tuple #[] ∧ WrS s1 k0 p0 r)) := by
  unfold code_Writer_U8 at h
  split at h
  · rename_i hc; obtain rfl := Option.some.inj h
    refine (U8_c (w := some a0) (x := a1.toNat) ho0 a1.toNat_lt (by simpa [wl] using hc)).mono ?_
    rintro e w' ⟨s1, v1, rfl, rfl, st, rfl, hw⟩
    exact Ret.mk st ⟨rfl, hw⟩
  · cases h
def code_Writer_U32 (a0 : List UInt8) (a1 : UInt32) : Option (List UInt8) := if a0.length + 4 ≤ 140737488355328 then some (a0 ++ be 4 a1.toNat) else none
theorem code_Writer_U32_w {s : St} {k0 : Nat} {p0 : Value} {a0 : List UInt8} {a1 : UInt32} {r : (List UInt8)} (ho0 : WrS s k0 p0 a0)  (h : code_Writer_U32 a0 a1 = some r) : Calls Try.prog 30 #[p0, .int .u32 (a1.toNat : Int)] s.w (Ret s (KO k0) (fun s1 v => v = .tuple #[] ∧ WrS s1 k0 p0 r)) := by
  unfold code_Writer_U32 at h
  split at h
  · rename_i hc; obtain rfl := Option.some.inj h
    refine (U32_c (w := some a0) (x := a1.toNat) ho0 a1.toNat_lt (by simpa [wl] using hc)).mono ?_
    rintro e w' ⟨s1, v1, rfl, rfl, st, rfl, hw⟩
    exact Ret.mk st ⟨rfl, hw⟩
  · cases h
def code_Writer_Uint (a0 : List UInt8) (a1 : UInt64) : Option (List UInt8) := if a0.length + 9 ≤ 140737488355328 then some (a0 ++ encN a1.toNat) else none
theorem code_Writer_Uint_w {s : St} {k0 : Nat} {p0 : Value} {a0 : List UInt8} {a1 : UInt64} {r : (List UInt8)} (ho0 : WrS s k0 p0 a0)  (h : code_Writer_Uint a0 a1 = some r) : Calls Try.prog 19 #[p0, .int .u64 (a1.toNat : Int)] s.w (Ret s (KO k0) (fun s1 v => v = .tuple #[] ∧ WrS s1 k0 p0 r)) := by
  unfold code_Writer_Uint at h
  split at h
  · rename_i hc; obtain rfl := Option.some.inj h
    refine (WUint_c (w := some a0) (x := a1.toNat) ho0 a1.toNat_lt (by simpa [wl] using hc)).mono ?_
    rintro e w' ⟨s1, v1, rfl, rfl, st, rfl, hw⟩
    exact Ret.mk st ⟨rfl, hw⟩
  · cases h
def code_Writer_Text (a0 : List UInt8) (a1 : List UInt8) : Option (List UInt8) := if a0.length + a1.length + 9 ≤ 140737488355328 then some (a0 ++ (encN a1.length ++ a1)) else none
theorem code_Writer_Text_w {s : St} {k0 : Nat} {p0 : Value} {a0 : List UInt8} {a1 : List UInt8} {r : (List UInt8)} (ho0 : WrS s k0 p0 a0)  (h : code_Writer_Text a0 a1 = some r) : Calls Try.prog 31 #[p0, S a1] s.w (Ret s (KO k0) (fun s1 v => v = .tuple #[] ∧ WrS s1 k0 p0 r)) := by
  unfold code_Writer_Text at h
  split at h
  · rename_i hc; obtain rfl := Option.some.inj h
    refine (WText_c (w := some a0) ho0 (by simpa [wl] using hc)).mono ?_
    rintro e w' ⟨s1, v1, rfl, rfl, st, rfl, hw⟩
    exact Ret.mk st ⟨rfl, hw⟩
  · cases h
def code_Writer_Bytes (a0 : List UInt8) : Option (List UInt8) := if a0.length ≤ 140737488355328 then some a0 else none
theorem code_Writer_Bytes_w {s : St} {k0 : Nat} {p0 : Value} {a0 : List UInt8} {r : (List UInt8)} (ho0 : WrS s k0 p0 a0) (h : code_Writer_Bytes a0 = some r) : Calls Try.prog 12 #[p0] s.w (Ret s K0 (fun s1 v => ∃ u0 : Value, v = u0 ∧ R s1 u0 (.sl 1 (r.map bD)))) := by
  unfold code_Writer_Bytes at h
  split at h
  · rename_i hc; obtain rfl := Option.some.inj h
    refine (Bytes_c (w := some a0) ho0 (by simpa [wl] using hc)).mono ?_
    rintro e w' ⟨s1, v1, rfl, rfl, st, hw⟩
    exact Ret.mk st ⟨_, rfl, hw⟩
  · cases h
theorem code_Writer_Bytes_own_w {s : St} {k0 : Nat} {p0 : Value} {a0 : List UInt8} {r : (List UInt8)} (ho0 : WrS s k0 p0 a0) (h : code_Writer_Bytes a0 = some r) : Calls Try.prog 12 #[p0] s.w (Ret s K0 (fun s1 v => ∃ u0 : Value, ∃ lu0 : Lab, v = u0 ∧ (s.n < lu0.o ∧ lu0.c = 0) ∧ Own s1 lu0 5 1 u0 (r.map bD))) := by
  unfold code_Writer_Bytes at h
  split at h
  · rename_i hc; obtain rfl := Option.some.inj h
    obtain ⟨h0, b, v, rfl, h1, h2⟩ := ho0
    refine (Bytes_o h1 h2 hc).mono ?_
    rintro e w' ⟨s1, v1, rfl, rfl, st, k, hk, hw⟩
    exact Ret.mk st ⟨_, ⟨k, 0⟩, rfl, ⟨hk, rfl⟩, hw⟩
  · cases h
def code_NewReader (a0 : List UInt8) : Option Rd := if a0.length ≤ BIG then some ⟨a0, 0, false⟩ else none
theorem code_NewReader_w {s : St} {l0 : Lab} {v0 : Value} {a0 : List UInt8} {r : Rd} (hp0 : SL s l0 v0 1 (a0.map bD)) (h : code_NewReader a0 = some r) : Calls Try.prog 20 #[v0] s.w (Ret s K0 (fun s1 v => ∃ ku0 : Nat, ∃ u0 : Value, v = u0 ∧ s.n < ku0 ∧ RdS s1 ku0 u0 r)) := by
  unfold code_NewReader at h
  split at h
  · rename_i hc; obtain rfl := Option.some.inj h
    refine (NewReader_c hp0 hc).mono ?_
    rintro e w' ⟨s1, v1, rfl, rfl, st, k, hk, hw⟩
    exact Ret.mk st ⟨k, v1, rfl, hk, hw⟩
  · cases h
def code_Reader_Err (a0 : Rd) : Option Int := some (if a0.bad = true then 2 else 0)
theorem code_Reader_Err_w {s : St} {k0 : Nat} {p0 : Value} {a0 : Rd}  {r : Int} (ho0 : RdS s k0 p0 a0) (h : code_Reader_Err a0 = some r) : Calls Try.prog 27 #[p0] s.w (Ret s K0 (fun s1 v => v = .int .i64 r)) := by
  unfold code_Reader_Err at h
  obtain rfl := Option.some.inj h
  refine (Err_c (w := some a0) ho0).mono ?_
  rintro e w' ⟨s1, v1, rfl, rfl, st, rfl⟩
  exact Ret.mk st rfl
def code_Reader_At (a0 : Rd) : Option Int := some (a0.pl : Int)
theorem code_Reader_At_w {s : St} {k0 : Nat} {p0 : Value} {a0 : Rd}  {r : Int} (ho0 : RdS s k0 p0 a0) (h : code_Reader_At a0 = some r) : Calls Try.prog 26 #[p0] s.w (Ret s K0 (fun s1 v => v = .int .i64 r)) := by
  unfold code_Reader_At at h
  obtain rfl := Option.some.inj h
  refine (At_c (w := some a0) ho0).mono ?_
  rintro e w' ⟨s1, v1, rfl, rfl, st, rfl⟩
  exact Ret.mk st rfl
def code_Reader_Fail (a0 : Rd) : Option Rd := some a0.fail
theorem code_Reader_Fail_w {s : St} {k0 : Nat} {p0 : Value} {a0 : Rd}  {r : Rd} (ho0 : RdS s k0 p0 a0) (h : code_Reader_Fail a0 = some r) : Calls Try.prog 23 #[p0] s.w (Ret s (KO k0) (fun s1 v => v = .tuple #[] ∧ RdS s1 k0 p0 r)) := by
  unfold code_Reader_Fail at h
  obtain rfl := Option.some.inj h
  refine (Fail_some2 ho0).mono ?_
  rintro e w' ⟨s1, v1, rfl, rfl, st, rfl, hw⟩
  exact Ret.mk (st.mono (fun l hl => hl.1) (fun c hc => ho0.ne hc.symm)) ⟨rfl, hw⟩
def code_Reader_End (a0 : Rd) : Option (Int × Rd) := some ((if a0.pl < a0.all.length ∨ a0.bad = true then 2 else 0), { a0 with bad := decide (a0.pl < a0.all.length) || a0.bad })
theorem code_Reader_End_w {s : St} {k0 : Nat} {p0 : Value} {a0 : Rd}  {r : (Int × Rd)} (ho0 : RdS s k0 p0 a0) (h : code_Reader_End a0 = some r) : Calls Try.prog 22 #[p0] s.w (Ret s (KO k0) (fun s1 v => v = .int .i64 r.1 ∧ RdS s1 k0 p0 r.2)) := by
  unfold code_Reader_End at h
  obtain rfl := Option.some.inj h
  refine (End_c (w := some a0) ho0).mono ?_
  rintro e w' ⟨s1, v1, rfl, rfl, st, rfl, hw⟩
  exact Ret.mk (st.mono (fun l hl => hl.1) (fun c hc => ho0.ne hc.symm)) ⟨rfl, hw⟩
def code_Reader_Raw (a0 : Rd) (a1 : Int) : Option ((List UInt8) × Rd) := some (a0.take a1)
theorem code_Reader_Raw_w {s : St} {k0 : Nat} {p0 : Value} {a0 : Rd} {a1 : Int} {r : ((List UInt8) × Rd)} (ho0 : RdS s k0 p0 a0) (h : code_Reader_Raw a0 a1 = some r) : Calls Try.prog 48 #[p0, .int .i64 a1] s.w (Ret s (KO k0) (fun s1 v => ∃ u0 : Value, v = u0 ∧ R s1 u0 (.sl 1 (r.1.map bD)) ∧ RdS s1 k0 p0 r.2)) := by
  unfold code_Reader_Raw at h
  obtain rfl := Option.some.inj h
  refine (RRaw_c (w := some a0) (n := a1) ho0).mono ?_
  rintro e w' ⟨s1, v1, rfl, rfl, st, hr, hw⟩
  exact Ret.mk (st.mono (fun l hl => hl.1) (fun c hc => ho0.ne hc.symm)) ⟨_, rfl, hr, hw⟩
def code_Reader_U8 (a0 : Rd) : Option (UInt8 × Rd) := some (ofI8 (valB (a0.take 1).1 : Int), (a0.take 1).2)
theorem code_Reader_U8_w {s : St} {k0 : Nat} {p0 : Value} {a0 : Rd}  {r : (UInt8 × Rd)} (ho0 : RdS s k0 p0 a0) (h : code_Reader_U8 a0 = some r) : Calls Try.prog 33 #[p0] s.w (Ret s (KO k0) (fun s1 v => v = .int .u8 (r.1.toNat : Int) ∧ RdS s1 k0 p0 r.2)) := by
  unfold code_Reader_U8 at h
  obtain rfl := Option.some.inj h
  refine (RU8_c (w := some a0) ho0).mono ?_
  rintro e w' ⟨s1, v1, rfl, rfl, st, rfl, hw⟩
  exact Ret.mk (st.mono (fun l hl => hl.1) (fun c hc => ho0.ne hc.symm)) ⟨by rw [ofI8_nat (by omega) (by have := valB_take1 a0; omega)]; rfl, hw⟩
def code_Reader_U32 (a0 : Rd) : Option (UInt32 × Rd) := some (ofI32 (valB (a0.take 4).1 : Int), (a0.take 4).2)
theorem code_Reader_U32_w {s : St} {k0 : Nat} {p0 : Value} {a0 : Rd}  {r : (UInt32 × Rd)} (ho0 : RdS s k0 p0 a0) (h : code_Reader_U32 a0 = some r) : Calls Try.prog 47 #[p0] s.w (Ret s (KO k0) (fun s1 v => v = .int .u32 (r.1.toNat : Int) ∧ RdS s1 k0 p0 r.2)) := by
  unfold code_Reader_U32 at h
  obtain rfl := Option.some.inj h
  refine (RU32_c (w := some a0) ho0).mono ?_
  rintro e w' ⟨s1, v1, rfl, rfl, st, rfl, hw⟩
  exact Ret.mk (st.mono (fun l hl => hl.1) (fun c hc => ho0.ne hc.symm)) ⟨by rw [ofI32_nat (by omega) (by have := valB_take4 a0; omega)]; rfl, hw⟩
def code_Reader_Uint (a0 : Rd) : Option (UInt64 × Rd) := if a0.uint.1 < 18446744073709551616 then some (ofI64 (a0.uint.1 : Int), a0.uint.2) else none
theorem code_Reader_Uint_w {s : St} {k0 : Nat} {p0 : Value} {a0 : Rd}  {r : (UInt64 × Rd)} (ho0 : RdS s k0 p0 a0) (h : code_Reader_Uint a0 = some r) : Calls Try.prog 21 #[p0] s.w (Ret s (KO k0) (fun s1 v => v = .int .u64 (r.1.toNat : Int) ∧ RdS s1 k0 p0 r.2)) := by
  unfold code_Reader_Uint at h
  split at h
  · rename_i hc; obtain rfl := Option.some.inj h
    refine (RUint_c (w := some a0) ho0).mono ?_
    rintro e w' ⟨s1, v1, rfl, rfl, st, rfl, hw⟩
    exact Ret.mk (st.mono (fun l hl => hl.1) (fun c hc => ho0.ne hc.symm)) ⟨by rw [ofI64_nat (by omega) (by omega)]; rfl, hw⟩
  · cases h
def code_Reader_Text (a0 : Rd) (a1 : Int) : Option ((List UInt8) × Rd) := if a1 < 9223372036854775808 then some (a0.text a1) else none
theorem code_Reader_Text_w {s : St} {k0 : Nat} {p0 : Value} {a0 : Rd} {a1 : Int} {r : ((List UInt8) × Rd)} (ho0 : RdS s k0 p0 a0) (h : code_Reader_Text a0 a1 = some r) : Calls Try.prog 32 #[p0, .int .i64 a1] s.w (Ret s (KO k0) (fun s1 v => v = S r.1 ∧ RdS s1 k0 p0 r.2)) := by
  unfold code_Reader_Text at h
  split at h
  · rename_i hc; obtain rfl := Option.some.inj h
    refine (RText_c (w := some a0) (most := a1) ho0 hc).mono ?_
    rintro e w' ⟨s1, v1, rfl, rfl, st, rfl, hw⟩
    exact Ret.mk (st.mono (fun l hl => hl.1) (fun c hc => ho0.ne hc.symm)) ⟨rfl, hw⟩
  · cases h
def code_Reader_Uint_nil : Option UInt64 := some 0
theorem code_Reader_Uint_nil_w {s : St}  {r : UInt64} (h : code_Reader_Uint_nil = some r) : Calls Try.prog 21 #[.pointer none] s.w (Ret s K0 (fun s1 v => v = .int .u64 (r.toNat : Int))) := by
  unfold code_Reader_Uint_nil at h
  obtain rfl := Option.some.inj h
  refine RUint_nil.mono ?_
  rintro e w' ⟨s1, v1, rfl, rfl, st, rfl⟩
  exact Ret.mk st rfl
def code_Reader_Text_nil (a1 : Int) : Option (List UInt8) := some []
theorem code_Reader_Text_nil_w {s : St} {a1 : Int} {r : (List UInt8)} (h : code_Reader_Text_nil a1 = some r) : Calls Try.prog 32 #[.pointer none, .int .i64 a1] s.w (Ret s K0 (fun s1 v => v = S r)) := by
  unfold code_Reader_Text_nil at h
  obtain rfl := Option.some.inj h
  refine RText_nil.mono ?_
  rintro e w' ⟨s1, v1, rfl, rfl, st, rfl⟩
  exact Ret.mk st rfl
def code_Size (a0 : UInt64) : Option Int := some (sizeN a0.toNat : Int)
theorem code_Size_w {s : St} {a0 : UInt64} {r : Int} (h : code_Size a0 = some r) : Calls Try.prog 17 #[.int .u64 (a0.toNat : Int)] s.w (Ret s K0 (fun s1 v => v = .int .i64 r)) := by
  unfold code_Size at h
  obtain rfl := Option.some.inj h
  refine (Size_c a0.toNat_lt).mono ?_
  rintro e w' ⟨s1, v1, rfl, rfl, st, rfl⟩
  exact Ret.mk st rfl
def code_laid (a0 : UInt64) : Option (List UInt8) := some (encN a0.toNat)
theorem code_laid_w {s : St} {a0 : UInt64} {r : (List UInt8)} (h : code_laid a0 = some r) : Calls Try.prog 35 #[.int .u64 (a0.toNat : Int)] s.w (Ret s K0 (fun s1 v => ∃ u0 : Value, v = u0 ∧ R s1 u0 (.sl 1 (r.map bD)))) := by
  unfold code_laid at h
  obtain rfl := Option.some.inj h
  refine (laid_c a0.toNat_lt).mono ?_
  rintro e w' ⟨s1, v1, rfl, rfl, st, hw⟩
  exact Ret.mk st ⟨_, rfl, hw⟩
def law02_awake : Option Bool := some true
theorem law02_awake_w {s : St}  {r : Bool} (h : law02_awake = some r) : Calls Try.prog 9 #[] s.w (Ret s K0 (fun s1 v => v = .bool r)) := by
  unfold law02_awake at h
  obtain rfl := Option.some.inj h
  refine awake_c.mono ?_
  rintro e w' ⟨s1, v1, rfl, rfl, st, rfl⟩
  exact Ret.mk st rfl
def code_number (a0 : List UInt8) : Option UInt64 := if a0.length ≤ 8 then some (ofI64 (valB a0 : Int)) else none
theorem code_number_w {s : St} {l0 : Lab} {v0 : Value} {a0 : List UInt8} {r : UInt64} (hp0 : SL s l0 v0 1 (a0.map bD)) (h : code_number a0 = some r) : Calls Try.prog 45 #[v0] s.w (Ret s K0 (fun s1 v => v = .int .u64 (r.toNat : Int))) := by
  unfold code_number at h
  split at h
  · rename_i hc; obtain rfl := Option.some.inj h
    refine (number_c hp0 hc).mono ?_
    rintro e w' ⟨s1, v1, rfl, rfl, st, rfl⟩
    exact Ret.mk st (by rw [ofI64_nat (by omega) (by have := valB_lt a0; have := Nat.pow_le_pow_right (show 0 < 256 by omega) hc; omega)])
  · cases h
end Go.Proofs
